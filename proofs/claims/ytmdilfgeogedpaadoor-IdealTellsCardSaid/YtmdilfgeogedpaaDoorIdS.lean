/- Layer 37's law: a table given, rows and tables compared, what is too much. Printed by ids.py. -/
import Derived.Test.YtmdilfgeogedpaaDoorIdR
namespace Go.Proofs.YtmdilfgeogedpaaDoor
open Go.RowKit
section
variable (A : Option Addr) (n c : Nat) (vs : List Value) (own : List (List Nat)) (A2 : Option Addr) (n2 c2 : Nat) (vs2 : List Value) (P : List (List (List Nat)))
set_option maxRecDepth 100000 in
theorem give_any (w : World) : Calls Tryd.prog 8 #[.agg #[.slice A n c, .slice A2 n2 c2]] w fun e w' => e = .returned (.agg #[.slice A n c, .slice A2 n2 c2]) ∧ Below w.heap.size w w' := by
  have HB := Lib.hid (((Below.refl w.heap.size w).alloc (Nat.le_refl _) (.cells #[.slice A n c, .slice A2 n2 c2] 25)).alloc (by simp) (.cells #[.slice A n c, .slice A2 n2 c2] 32))
  have V1 := Holds.new (w.alloc (.cells #[.slice A n c, .slice A2 n2 c2] 25)) 32 #[.slice A n c, .slice A2 n2 c2] (w.heap.size + 1) (by simp)
  go_enter Tryd.func8, Tryd.ntmps8
  go_wp2_with fail
  exact bodyPost_ret (v := .agg #[.slice A n c, .slice A2 n2 c2]) (results_cell_row Tryd.results8 _ _ (w.heap.size + 1) 32 #[.slice A n c, .slice A2 n2 c2] _ _ rfl V1 tb_under rfl tb_size) rfl ⟨rfl, HB.out⟩
theorem Rows_.getm {w w' : World} {A : Option Addr} {vs : List Value} {l : List (List Nat)} (h : Rows_ w .u32 A vs l) (i : Nat) (hi : i < l.length) (hb : Below w.heap.size w w') :
    ∃ b o A1 c1 m, A = some ⟨b, o, none⟩ ∧ w'.cell? ⟨b, o + i, none⟩ = some (.slice A1 m c1) ∧ At w A1 (nats .u32 (l.getD i [])) ∧ (l.getD i []).length = m ∧ m ≤ 9223372036854775807 := by
  obtain ⟨b, o, A1, c1, e, h1, h2, _, h3, h4, _⟩ := h.getw i hi hb
  exact ⟨b, o, A1, c1, _, e, h1, h2, rfl, by unfold maxLen at h4; omega⟩
theorem Rows3.getm {w w' : World} {A : Option Addr} {vs : List Value} {l : List (List (List Nat))} (h : Rows3 w .u32 A vs l) (i : Nat) (hi : i < l.length) (hb : Below w.heap.size w w') :
    ∃ b o A1 c1 ws m, A = some ⟨b, o, none⟩ ∧ w'.cell? ⟨b, o + i, none⟩ = some (.slice A1 m c1) ∧ Rows_ w .u32 A1 ws (l.getD i []) ∧ (l.getD i []).length = m ∧ m ≤ 9223372036854775807 := by
  obtain ⟨b, o, A1, c1, ws, e, h1, h2, h3, h4, h5, h6⟩ := h.get i hi
  refine ⟨b, o, A1, c1, ws, _, e, (hb.cell (p := ⟨b, o + i, none⟩) h6).trans h1, h2, rfl, by unfold maxLen at h5; omega⟩
theorem rows_eq {a b : List (List Nat)} (hl : a.length = b.length) (h : ∀ i, i < a.length → a.getD i [] = b.getD i []) : a = b := by
  apply List.ext_getElem hl
  intro i h1 h2
  have := h i h1
  simpa [List.getD_eq_getElem?_getD, h1, h2] using this
theorem rows3_eq {a b : List (List (List Nat))} (hl : a.length = b.length) (h : ∀ i, i < a.length → a.getD i [] = b.getD i []) : a = b := by
  apply List.ext_getElem hl
  intro i h1 h2
  have := h i h1
  simpa [List.getD_eq_getElem?_getD, h1, h2] using this
set_option maxRecDepth 100000 in
set_option maxHeartbeats 1000000 in
theorem lrows_any (a : List (List Nat)) (b : List (List Nat)) (w : World) (hl : a.length = n) (hn : n ≤ 9223372036854775807) (hr : Rows_ w .u32 A vs a) (hl2 : b.length = n2) (hn2 : n2 ≤ 9223372036854775807) (hr2 : Rows_ w .u32 A2 vs2 b) :
    Calls Tryd.prog 18 #[.slice A n c, .slice A2 n2 c2] w fun e w' => e = .returned (.bool (decide (a = b))) ∧ Below w.heap.size w w' := by
  have HL := Lib.hid hl
  have HL2 := Lib.hid hl2
  have HR := Lib.hid hr
  have HR2 := Lib.hid hr2
  clear hl hl2 hr hr2
  by_cases h : n = n2
  · subst h
    go_enter Tryd.func18, Tryd.ntmps18
    go_wp2_with fail
    go_loopw [5] (fun i wr => ∃ k : Nat, k ≤ n ∧ i = .int .i64 k ∧ Below w.heap.size w wr ∧ ∀ i, i < k → a.getD i [] = b.getD i []) (fun i _ => (n - intOf i).toNat)
    case atStart => exact ⟨0, by omega, rfl, Below.refl _ _, fun i hi => absurd hi (by omega)⟩
    case round =>
      obtain ⟨k, hk, rfl, hb, hag⟩ := hrel
      have HB := Lib.hid hb
      have AG := Lib.hid hag
      clear hb hag
      by_cases hkn : k < n
      · obtain ⟨b4, o4, Ax, cx, mx, hA4, hcx, hax, hmx, hmx2⟩ := HR.out.getm k (by rw [HL.out]; exact hkn) HB.out
        obtain ⟨b5, o5, Ay, cy, my, hA5, hcy, hay, hmy, hmy2⟩ := HR2.out.getm k (by rw [HL2.out]; exact hkn) HB.out
        have hlt4 := lt_of_cell hcx
        have hlt5 := lt_of_cell hcy
        subst hA4 hA5
        have QS := Lib.hid (fun W (hW : Below wr.heap.size wr W) => rsame_any Ax mx cx (a.getD k []) Ay my cy (b.getD k []) W hmx hmx2 (hax.later (HB.out.trans (hW.mono HB.out.size)) (Nat.le_refl _)) hmy hmy2 (hay.later (HB.out.trans (hW.mono HB.out.size)) (Nat.le_refl _)))
        obtain ⟨same, hsame⟩ : ∃ s, decide (a.getD k [] = b.getD k []) = s := ⟨_, rfl⟩
        rw [hsame] at QS
        have HS := Lib.hid hsame
        clear hsame hax hay hmx hmy
        cases same with
        | true =>
          go_upto_region 6 with fail
          refine wp_region_below (is ?d0 :: is ?d1 :: is ?d2 :: is ?d3 :: is ?d4 :: is ?d5 :: is ?d6 :: is ?d7 :: is (.bool true) :: is ?d9 :: [])
            [⟨[], [0], none⟩, ⟨[], [5], none⟩, ⟨[(17, 0), (18, 1)], [], none⟩, ⟨[(19, 2)], [], none⟩, ⟨[], [1], none⟩, ⟨[], [5], none⟩, ⟨[(21, 4), (22, 5)], [], none⟩, ⟨[(23, 6)], [], none⟩, ⟨[(20, 3), (24, 7)], [], none⟩, ⟨[(25, 8)], [], none⟩] (by kernel_rfl) (by kernel_rfl) (by kernel_rfl) (by kernel_rfl) (by kernel_rfl) ?monod ?stepsd ?find
          case monod => exact ⟨mono_eq _, mono_eq _, mono_eq _, mono_eq _, mono_eq _, mono_eq _, mono_eq _, mono_eq _, mono_eq _, mono_eq _, trivial⟩
          case stepsd =>
            refine ⟨fun ρ W ⟨hcst, hglb, hfun⟩ hX hp ho => ?_, ?_⟩ -- 0: slot 17 := Op.move t0
            · obtain ⟨o0, -⟩ := ho
              change ρ (.tmp 0) = _ at o0
              refine turn_plain (ok_is ?_ rfl)
              simp only [execOp, o0]; go_simp; try exact rfl
            refine ⟨fun ρ W ⟨hcst, hglb, hfun⟩ hX hp ho => ?_, ?_⟩ -- 1: slot 18 := Op.move t5
            · obtain ⟨o5, -⟩ := ho
              change ρ (.tmp 5) = _ at o5
              refine turn_plain (ok_is ?_ rfl)
              simp only [execOp, o5]; go_simp; try exact rfl
            refine ⟨fun ρ W ⟨hcst, hglb, hfun⟩ hX hp ho => ?_, ?_⟩ -- 2: slot 19 := Op.indexAddr 22 t17 t18
            · obtain ⟨p17, p18, -⟩ := hp
              change ρ (.tmp 17) = _ at p17
              change ρ (.tmp 18) = _ at p18
              refine turn_plain (ok_is ?_ rfl)
              simp only [execOp, p17, p18]; go_simp; try exact rfl
            refine ⟨fun ρ W ⟨hcst, hglb, hfun⟩ hX hp ho => ?_, ?_⟩ -- 3: slot 20 := Op.load 54 t19
            · obtain ⟨p19, -⟩ := hp
              change ρ (.tmp 19) = _ at p19
              have q := (((Below.refl _ _).drew.trans hX).cell (p := ⟨b4, o4 + k, none⟩) hlt4).trans hcx
              refine turn_plain (ok_is ?_ rfl)
              simp only [execOp, p19]; go_simp; try exact rfl
            refine ⟨fun ρ W ⟨hcst, hglb, hfun⟩ hX hp ho => ?_, ?_⟩ -- 4: slot 21 := Op.move t1
            · obtain ⟨o1, -⟩ := ho
              change ρ (.tmp 1) = _ at o1
              refine turn_plain (ok_is ?_ rfl)
              simp only [execOp, o1]; go_simp; try exact rfl
            refine ⟨fun ρ W ⟨hcst, hglb, hfun⟩ hX hp ho => ?_, ?_⟩ -- 5: slot 22 := Op.move t5
            · obtain ⟨o5, -⟩ := ho
              change ρ (.tmp 5) = _ at o5
              refine turn_plain (ok_is ?_ rfl)
              simp only [execOp, o5]; go_simp; try exact rfl
            refine ⟨fun ρ W ⟨hcst, hglb, hfun⟩ hX hp ho => ?_, ?_⟩ -- 6: slot 23 := Op.indexAddr 22 t21 t22
            · obtain ⟨p21, p22, -⟩ := hp
              change ρ (.tmp 21) = _ at p21
              change ρ (.tmp 22) = _ at p22
              refine turn_plain (ok_is ?_ rfl)
              simp only [execOp, p21, p22]; go_simp; try exact rfl
            refine ⟨fun ρ W ⟨hcst, hglb, hfun⟩ hX hp ho => ?_, ?_⟩ -- 7: slot 24 := Op.load 54 t23
            · obtain ⟨p23, -⟩ := hp
              change ρ (.tmp 23) = _ at p23
              have q := (((Below.refl _ _).drew.trans hX).cell (p := ⟨b5, o5 + k, none⟩) hlt5).trans hcy
              refine turn_plain (ok_is ?_ rfl)
              simp only [execOp, p23]; go_simp; try exact rfl
            refine ⟨fun ρ W ⟨hcst, hglb, hfun⟩ hX hp ho => ?_, ?_⟩ -- 8: slot 25 := Op.call { value (Operand.func 23), args := #[t20, t24], argTypes := #[54, 54] }
            · obtain ⟨p20, p24, -⟩ := hp
              change ρ (.tmp 20) = _ at p20
              change ρ (.tmp 24) = _ at p24
              have hW := (Below.refl _ _).drew.trans hX
              refine turn_plain ?_
              have ce := @enter_of Tryd.prog 23 _ Tryd.func23 (by kernel_rfl) (by kernel_rfl)
              refine ok_call (op_call2 hfun ce (by exact rfl) p20 p24) ?_
              refine (QS.out W hW).mono ?_
              rintro e W' ⟨rfl, bel⟩
              exact ⟨_, rfl, bel, rfl⟩
            refine ⟨fun ρ W ⟨hcst, hglb, hfun⟩ hX hp ho => ?_, ?_⟩ -- 9: slot 26 := Op.unOp UnOp.not 4 t25
            · obtain ⟨p25, -⟩ := hp
              change ρ (.tmp 25) = _ at p25
              refine turn_plain (ok_is ?_ rfl)
              simp only [execOp, p25]; go_simp; try exact rfl
            exact trivial
          case find =>
            rintro v W hX ⟨f0, f1, f2, f3, f4, f5, f6, f7, f8, f9, -⟩
            simp only [is] at f0 f1 f2 f3 f4 f5 f6 f7 f8 f9
            simp only [putAll, Act.put, List.setIfInBounds_toArray, List.set_cons_succ, List.set_cons_zero, f0, f1, f2, f3, f4, f5, f6, f7, f8, f9]
            clear f0 f1 f2 f3 f4 f5 f6 f7 f8 f9
            go_wp2_with fail
            refine ⟨⟨k + 1, by omega, by simp, HB.out.trans (hX.mono HB.out.size), fun i hi => ?_⟩, by simp [intOf]; omega⟩
            rcases Nat.lt_or_ge i k with h | h
            · exact AG.out i h
            · obtain rfl : i = k := by omega
              exact of_decide_eq_true HS.out

        | false =>
          go_upto_region 6 with fail
          refine wp_region_below (is ?e0 :: is ?e1 :: is ?e2 :: is ?e3 :: is ?e4 :: is ?e5 :: is ?e6 :: is ?e7 :: is (.bool false) :: is ?e9 :: [])
            [⟨[], [0], none⟩, ⟨[], [5], none⟩, ⟨[(17, 0), (18, 1)], [], none⟩, ⟨[(19, 2)], [], none⟩, ⟨[], [1], none⟩, ⟨[], [5], none⟩, ⟨[(21, 4), (22, 5)], [], none⟩, ⟨[(23, 6)], [], none⟩, ⟨[(20, 3), (24, 7)], [], none⟩, ⟨[(25, 8)], [], none⟩] (by kernel_rfl) (by kernel_rfl) (by kernel_rfl) (by kernel_rfl) (by kernel_rfl) ?monoe ?stepse ?fine
          case monoe => exact ⟨mono_eq _, mono_eq _, mono_eq _, mono_eq _, mono_eq _, mono_eq _, mono_eq _, mono_eq _, mono_eq _, mono_eq _, trivial⟩
          case stepse =>
            refine ⟨fun ρ W ⟨hcst, hglb, hfun⟩ hX hp ho => ?_, ?_⟩ -- 0: slot 17 := Op.move t0
            · obtain ⟨o0, -⟩ := ho
              change ρ (.tmp 0) = _ at o0
              refine turn_plain (ok_is ?_ rfl)
              simp only [execOp, o0]; go_simp; try exact rfl
            refine ⟨fun ρ W ⟨hcst, hglb, hfun⟩ hX hp ho => ?_, ?_⟩ -- 1: slot 18 := Op.move t5
            · obtain ⟨o5, -⟩ := ho
              change ρ (.tmp 5) = _ at o5
              refine turn_plain (ok_is ?_ rfl)
              simp only [execOp, o5]; go_simp; try exact rfl
            refine ⟨fun ρ W ⟨hcst, hglb, hfun⟩ hX hp ho => ?_, ?_⟩ -- 2: slot 19 := Op.indexAddr 22 t17 t18
            · obtain ⟨p17, p18, -⟩ := hp
              change ρ (.tmp 17) = _ at p17
              change ρ (.tmp 18) = _ at p18
              refine turn_plain (ok_is ?_ rfl)
              simp only [execOp, p17, p18]; go_simp; try exact rfl
            refine ⟨fun ρ W ⟨hcst, hglb, hfun⟩ hX hp ho => ?_, ?_⟩ -- 3: slot 20 := Op.load 54 t19
            · obtain ⟨p19, -⟩ := hp
              change ρ (.tmp 19) = _ at p19
              have q := (((Below.refl _ _).drew.trans hX).cell (p := ⟨b4, o4 + k, none⟩) hlt4).trans hcx
              refine turn_plain (ok_is ?_ rfl)
              simp only [execOp, p19]; go_simp; try exact rfl
            refine ⟨fun ρ W ⟨hcst, hglb, hfun⟩ hX hp ho => ?_, ?_⟩ -- 4: slot 21 := Op.move t1
            · obtain ⟨o1, -⟩ := ho
              change ρ (.tmp 1) = _ at o1
              refine turn_plain (ok_is ?_ rfl)
              simp only [execOp, o1]; go_simp; try exact rfl
            refine ⟨fun ρ W ⟨hcst, hglb, hfun⟩ hX hp ho => ?_, ?_⟩ -- 5: slot 22 := Op.move t5
            · obtain ⟨o5, -⟩ := ho
              change ρ (.tmp 5) = _ at o5
              refine turn_plain (ok_is ?_ rfl)
              simp only [execOp, o5]; go_simp; try exact rfl
            refine ⟨fun ρ W ⟨hcst, hglb, hfun⟩ hX hp ho => ?_, ?_⟩ -- 6: slot 23 := Op.indexAddr 22 t21 t22
            · obtain ⟨p21, p22, -⟩ := hp
              change ρ (.tmp 21) = _ at p21
              change ρ (.tmp 22) = _ at p22
              refine turn_plain (ok_is ?_ rfl)
              simp only [execOp, p21, p22]; go_simp; try exact rfl
            refine ⟨fun ρ W ⟨hcst, hglb, hfun⟩ hX hp ho => ?_, ?_⟩ -- 7: slot 24 := Op.load 54 t23
            · obtain ⟨p23, -⟩ := hp
              change ρ (.tmp 23) = _ at p23
              have q := (((Below.refl _ _).drew.trans hX).cell (p := ⟨b5, o5 + k, none⟩) hlt5).trans hcy
              refine turn_plain (ok_is ?_ rfl)
              simp only [execOp, p23]; go_simp; try exact rfl
            refine ⟨fun ρ W ⟨hcst, hglb, hfun⟩ hX hp ho => ?_, ?_⟩ -- 8: slot 25 := Op.call { value (Operand.func 23), args := #[t20, t24], argTypes := #[54, 54] }
            · obtain ⟨p20, p24, -⟩ := hp
              change ρ (.tmp 20) = _ at p20
              change ρ (.tmp 24) = _ at p24
              have hW := (Below.refl _ _).drew.trans hX
              refine turn_plain ?_
              have ce := @enter_of Tryd.prog 23 _ Tryd.func23 (by kernel_rfl) (by kernel_rfl)
              refine ok_call (op_call2 hfun ce (by exact rfl) p20 p24) ?_
              refine (QS.out W hW).mono ?_
              rintro e W' ⟨rfl, bel⟩
              exact ⟨_, rfl, bel, rfl⟩
            refine ⟨fun ρ W ⟨hcst, hglb, hfun⟩ hX hp ho => ?_, ?_⟩ -- 9: slot 26 := Op.unOp UnOp.not 4 t25
            · obtain ⟨p25, -⟩ := hp
              change ρ (.tmp 25) = _ at p25
              refine turn_plain (ok_is ?_ rfl)
              simp only [execOp, p25]; go_simp; try exact rfl
            exact trivial
          case fine =>
            rintro v W hX ⟨f0, f1, f2, f3, f4, f5, f6, f7, f8, f9, -⟩
            simp only [is] at f0 f1 f2 f3 f4 f5 f6 f7 f8 f9
            simp only [putAll, Act.put, List.setIfInBounds_toArray, List.set_cons_succ, List.set_cons_zero, f0, f1, f2, f3, f4, f5, f6, f7, f8, f9]
            clear f0 f1 f2 f3 f4 f5 f6 f7 f8 f9
            have HE := Lib.hid (show ¬ a = b from fun e => of_decide_eq_false HS.out (by rw [e]))
            go_wp2_with fail
            go_ret
            exact ⟨by rw [decide_eq_false HE.out]; rfl, HB.out.trans (hX.mono HB.out.size)⟩

      · obtain rfl : n = k := by omega
        have HE := Lib.hid (show a = b from rows_eq (by rw [HL.out, HL2.out]) (fun i hi => AG.out i (by rw [← HL.out]; exact hi)))
        go_wp2_with fail
        go_ret
        exact ⟨by rw [decide_eq_true HE.out]; rfl, HB.out⟩
  · have HE := Lib.hid (show ¬ a = b from fun e => h (by rw [← HL.out, ← HL2.out, e]))
    have h2 : ((n : Int) == (n2 : Int)) = false := by simp; omega
    go_enter Tryd.func18, Tryd.ntmps18
    go_wp2_with fail
    go_ret
    exact ⟨by rw [decide_eq_false HE.out]; rfl, Below.refl _ _⟩
end
end Go.Proofs.YtmdilfgeogedpaaDoor
