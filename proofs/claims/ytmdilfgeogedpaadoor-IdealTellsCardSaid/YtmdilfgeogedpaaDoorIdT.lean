/- Layer 37's law: tables compared, what is too much. Printed by idt.py. -/
import Derived.Test.YtmdilfgeogedpaaDoorIdS
namespace Go.Proofs.YtmdilfgeogedpaaDoor
open Go.RowKit
section
variable (A : Option Addr) (n c : Nat) (vs : List Value) (a : List (List Nat)) (A2 : Option Addr) (n2 c2 : Nat) (vs2 : List Value) (P : List (List (List Nat)))
variable (A4 : Option Addr) (n4 c4 : Nat) (vs4 : List Value) (b : List (List Nat)) (A5 : Option Addr) (n5 c5 : Nat) (vs5 : List Value) (Q : List (List (List Nat)))
set_option maxRecDepth 100000 in
set_option maxHeartbeats 2000000 in
theorem ltabs_any (w : World) (hl : a.length = n) (hn : n ≤ 9223372036854775807) (hr : Rows_ w .u32 A vs a) (hl2 : P.length = n2) (hn2 : n2 ≤ 9223372036854775807) (hr2 : Rows3 w .u32 A2 vs2 P)
    (hl4 : b.length = n4) (hn4 : n4 ≤ 9223372036854775807) (hr4 : Rows_ w .u32 A4 vs4 b) (hl5 : Q.length = n5) (hn5 : n5 ≤ 9223372036854775807) (hr5 : Rows3 w .u32 A5 vs5 Q) :
    Calls Tryd.prog 19 #[.agg #[.slice A n c, .slice A2 n2 c2], .agg #[.slice A4 n4 c4, .slice A5 n5 c5]] w fun e w' => e = .returned (.bool (decide (a = b ∧ P = Q))) ∧ Below w.heap.size w w' := by
  have HB0 := ((Below.refl w.heap.size w).alloc (Nat.le_refl _) (.cells #[.slice A n c, .slice A2 n2 c2] 32)).alloc (by simp) (.cells #[.slice A4 n4 c4, .slice A5 n5 c5] 25)
  have H1 := Lib.hid ((Holds.new w 32 #[.slice A n c, .slice A2 n2 c2] w.heap.size rfl).alloc (.cells #[.slice A4 n4 c4, .slice A5 n5 c5] 25))
  have H2 := Lib.hid (Holds.new (w.alloc (.cells #[.slice A n c, .slice A2 n2 c2] 32)) 25 #[.slice A4 n4 c4, .slice A5 n5 c5] (w.heap.size + 1) (by simp))
  have QR := Lib.hid (lrows_any A n c vs A4 n4 c4 vs4 a b _ hl hn (hr.later HB0 (Nat.le_refl _)) hl4 hn4 (hr4.later HB0 (Nat.le_refl _)))
  have HB := Lib.hid HB0
  have HL2 := Lib.hid hl2
  have HL5 := Lib.hid hl5
  have HR2 := Lib.hid hr2
  have HR5 := Lib.hid hr5
  clear HB0 hl hr hl2 hr2 hl4 hr4 hl5 hr5
  obtain ⟨ra, hra⟩ : ∃ s, decide (a = b) = s := ⟨_, rfl⟩
  rw [hra] at QR
  have HRA := Lib.hid hra
  clear hra
  cases ra with
  | false =>
    have HE := Lib.hid (show ¬ (a = b ∧ P = Q) from fun h => of_decide_eq_false HRA.out h.1)
    go_enter Tryd.func19, Tryd.ntmps19
    go_wp2_with fail
    with_reducible refine QR.out.mono ?_
    clear QR
    rintro e w1 ⟨rfl, b1⟩
    have HB := Lib.hid (HB.out.trans (b1.mono HB.out.size))
    go_wp2_with fail
    go_ret
    exact ⟨by rw [decide_eq_false HE.out]; rfl, HB.out⟩
  | true =>
    have EAB := Lib.hid (of_decide_eq_true HRA.out)
    go_enter Tryd.func19, Tryd.ntmps19
    go_wp2_with fail
    with_reducible refine QR.out.mono ?_
    clear QR
    rintro e w1 ⟨rfl, b1⟩
    replace H1 := Lib.hid (H1.out.later b1 (Nat.le_refl _))
    replace H2 := Lib.hid (H2.out.later b1 (Nat.le_refl _))
    replace HB := Lib.hid (HB.out.trans (b1.mono HB.out.size))
    clear b1
    generalize hg : w.heap.size = g at *
    have HG := Lib.hid hg
    clear hg
    have x1 : w1.cell? ⟨g, 1, none⟩ = some (.slice A2 n2 c2) := H1.out.cell 1
    have x2 : w1.cell? ⟨g + 1, 1, none⟩ = some (.slice A5 n5 c5) := H2.out.cell 1
    by_cases h : n2 = n5
    · subst h
      go_wp2_with fail
      go_loopw [5] (fun i wr => ∃ k : Nat, k ≤ n2 ∧ i = .int .i64 k ∧ Below w1.heap.size w1 wr ∧ ∀ i, i < k → P.getD i [] = Q.getD i []) (fun i _ => (n2 - intOf i).toNat)
      case atStart => exact ⟨0, by omega, rfl, Below.refl _ _, fun i hi => absurd hi (by omega)⟩
      case round =>
        obtain ⟨k, hk, rfl, hb, hag⟩ := hrel
        have BW := Lib.hid (HB.out.trans (hb.mono (by rw [← HG.out]; exact HB.out.size)))
        have B2 := Lib.hid hb
        have AG := Lib.hid hag
        have y1 : wr.cell? ⟨g, 1, none⟩ = some (.slice A2 n2 c2) := (hb.cell (p := ⟨g, 1, none⟩) H1.out.lt).trans x1
        have y2 : wr.cell? ⟨g + 1, 1, none⟩ = some (.slice A5 n2 c5) := (hb.cell (p := ⟨g + 1, 1, none⟩) H2.out.lt).trans x2
        have ltg1 := lt_of_cell y1
        have ltg2 := lt_of_cell y2
        clear hb hag
        by_cases hkn : k < n2
        · obtain ⟨b4, o4, Ax, cx, wx, mx, hA4, hcx, hax, hmx, hmx2⟩ := HR2.out.getm (w' := wr) k (by rw [HL2.out]; exact hkn) (by rw [HG.out]; exact BW.out)
          obtain ⟨b5, o5, Ay, cy, wy, my, hA5, hcy, hay, hmy, hmy2⟩ := HR5.out.getm (w' := wr) k (by rw [HL5.out]; exact hkn) (by rw [HG.out]; exact BW.out)
          have hlt4 := lt_of_cell hcx
          have hlt5 := lt_of_cell hcy
          subst hA4 hA5
          have QS := Lib.hid (fun W (hW : Below wr.heap.size wr W) => lrows_any Ax mx cx wx Ay my cy wy (P.getD k []) (Q.getD k []) W hmx hmx2 (hax.later (BW.out.trans (hW.mono (by rw [← HG.out]; exact BW.out.size))) (by rw [HG.out]; exact Nat.le_refl _)) hmy hmy2 (hay.later (BW.out.trans (hW.mono (by rw [← HG.out]; exact BW.out.size))) (by rw [HG.out]; exact Nat.le_refl _)))
          obtain ⟨same, hsame⟩ : ∃ s, decide (P.getD k [] = Q.getD k []) = s := ⟨_, rfl⟩
          rw [hsame] at QS
          have HS := Lib.hid hsame
          clear hsame hax hay hmx hmy
          cases same with
          | true =>
            go_upto_region 6 with fail
            refine wp_region_below (is ?d0 :: is ?d1 :: is ?d2 :: is ?d3 :: is ?d4 :: is ?d5 :: is ?d6 :: is ?d7 :: is ?d8 :: is ?d9 :: is (.bool true) :: is ?d11 :: [])
              [⟨[], [2], none⟩, ⟨[(28, 0)], [], none⟩, ⟨[], [5], none⟩, ⟨[(29, 1), (30, 2)], [], none⟩, ⟨[(31, 3)], [], none⟩, ⟨[], [3], none⟩, ⟨[(33, 5)], [], none⟩, ⟨[], [5], none⟩, ⟨[(34, 6), (35, 7)], [], none⟩, ⟨[(36, 8)], [], none⟩, ⟨[(32, 4), (37, 9)], [], none⟩, ⟨[(38, 10)], [], none⟩] (by kernel_rfl) (by kernel_rfl) (by kernel_rfl) (by kernel_rfl) (by kernel_rfl) ?monod ?stepsd ?find
            case monod => exact ⟨mono_eq _, mono_eq _, mono_eq _, mono_eq _, mono_eq _, mono_eq _, mono_eq _, mono_eq _, mono_eq _, mono_eq _, mono_eq _, mono_eq _, trivial⟩
            case stepsd =>
              refine ⟨fun ρ W ⟨hcst, hglb, hfun⟩ hX hp ho => ?_, ?_⟩ -- 0: slot 28 := Op.fieldAddr 32 t2 1
              · obtain ⟨o2, -⟩ := ho
                change ρ (.tmp 2) = _ at o2
                refine turn_plain (ok_is ?_ rfl)
                simp only [execOp, o2]; go_simp; try exact rfl
              refine ⟨fun ρ W ⟨hcst, hglb, hfun⟩ hX hp ho => ?_, ?_⟩ -- 1: slot 29 := Op.load 23 t28
              · obtain ⟨p28, -⟩ := hp
                change ρ (.tmp 28) = _ at p28
                have q := (((Below.refl _ _).drew.trans hX).cell (p := ⟨g, 1, none⟩) ltg1).trans y1
                refine turn_plain (ok_is ?_ rfl)
                simp only [execOp, p28]; go_simp; try exact rfl
              refine ⟨fun ρ W ⟨hcst, hglb, hfun⟩ hX hp ho => ?_, ?_⟩ -- 2: slot 30 := Op.move t5
              · obtain ⟨o5, -⟩ := ho
                change ρ (.tmp 5) = _ at o5
                refine turn_plain (ok_is ?_ rfl)
                simp only [execOp, o5]; go_simp; try exact rfl
              refine ⟨fun ρ W ⟨hcst, hglb, hfun⟩ hX hp ho => ?_, ?_⟩ -- 3: slot 31 := Op.indexAddr 23 t29 t30
              · obtain ⟨p29, p30, -⟩ := hp
                change ρ (.tmp 29) = _ at p29
                change ρ (.tmp 30) = _ at p30
                refine turn_plain (ok_is ?_ rfl)
                simp only [execOp, p29, p30]; go_simp; try exact rfl
              refine ⟨fun ρ W ⟨hcst, hglb, hfun⟩ hX hp ho => ?_, ?_⟩ -- 4: slot 32 := Op.load 22 t31
              · obtain ⟨p31, -⟩ := hp
                change ρ (.tmp 31) = _ at p31
                have q := (((Below.refl _ _).drew.trans hX).cell (p := ⟨b4, o4 + k, none⟩) hlt4).trans hcx
                refine turn_plain (ok_is ?_ rfl)
                simp only [execOp, p31]; go_simp; try exact rfl
              refine ⟨fun ρ W ⟨hcst, hglb, hfun⟩ hX hp ho => ?_, ?_⟩ -- 5: slot 33 := Op.fieldAddr 25 t3 1
              · obtain ⟨o3, -⟩ := ho
                change ρ (.tmp 3) = _ at o3
                refine turn_plain (ok_is ?_ rfl)
                simp only [execOp, o3]; go_simp; try exact rfl
              refine ⟨fun ρ W ⟨hcst, hglb, hfun⟩ hX hp ho => ?_, ?_⟩ -- 6: slot 34 := Op.load 23 t33
              · obtain ⟨p33, -⟩ := hp
                change ρ (.tmp 33) = _ at p33
                have q := (((Below.refl _ _).drew.trans hX).cell (p := ⟨g + 1, 1, none⟩) ltg2).trans y2
                refine turn_plain (ok_is ?_ rfl)
                simp only [execOp, p33]; go_simp; try exact rfl
              refine ⟨fun ρ W ⟨hcst, hglb, hfun⟩ hX hp ho => ?_, ?_⟩ -- 7: slot 35 := Op.move t5
              · obtain ⟨o5, -⟩ := ho
                change ρ (.tmp 5) = _ at o5
                refine turn_plain (ok_is ?_ rfl)
                simp only [execOp, o5]; go_simp; try exact rfl
              refine ⟨fun ρ W ⟨hcst, hglb, hfun⟩ hX hp ho => ?_, ?_⟩ -- 8: slot 36 := Op.indexAddr 23 t34 t35
              · obtain ⟨p34, p35, -⟩ := hp
                change ρ (.tmp 34) = _ at p34
                change ρ (.tmp 35) = _ at p35
                refine turn_plain (ok_is ?_ rfl)
                simp only [execOp, p34, p35]; go_simp; try exact rfl
              refine ⟨fun ρ W ⟨hcst, hglb, hfun⟩ hX hp ho => ?_, ?_⟩ -- 9: slot 37 := Op.load 22 t36
              · obtain ⟨p36, -⟩ := hp
                change ρ (.tmp 36) = _ at p36
                have q := (((Below.refl _ _).drew.trans hX).cell (p := ⟨b5, o5 + k, none⟩) hlt5).trans hcy
                refine turn_plain (ok_is ?_ rfl)
                simp only [execOp, p36]; go_simp; try exact rfl
              refine ⟨fun ρ W ⟨hcst, hglb, hfun⟩ hX hp ho => ?_, ?_⟩ -- 10: slot 38 := Op.call { value (Operand.func 18), args := #[t32, t37], argTypes := #[22, 22] }
              · obtain ⟨p32, p37, -⟩ := hp
                change ρ (.tmp 32) = _ at p32
                change ρ (.tmp 37) = _ at p37
                have hW := (Below.refl _ _).drew.trans hX
                refine turn_plain ?_
                have ce := @enter_of Tryd.prog 18 _ Tryd.func18 (by kernel_rfl) (by kernel_rfl)
                refine ok_call (op_call2 hfun ce (by exact rfl) p32 p37) ?_
                refine (QS.out W hW).mono ?_
                rintro e W' ⟨rfl, bel⟩
                exact ⟨_, rfl, bel, rfl⟩
              refine ⟨fun ρ W ⟨hcst, hglb, hfun⟩ hX hp ho => ?_, ?_⟩ -- 11: slot 39 := Op.unOp UnOp.not 4 t38
              · obtain ⟨p38, -⟩ := hp
                change ρ (.tmp 38) = _ at p38
                refine turn_plain (ok_is ?_ rfl)
                simp only [execOp, p38]; go_simp; try exact rfl
              exact trivial
            case find =>
              rintro v W hX ⟨f0, f1, f2, f3, f4, f5, f6, f7, f8, f9, f10, f11, -⟩
              simp only [is] at f0 f1 f2 f3 f4 f5 f6 f7 f8 f9 f10 f11
              simp only [putAll, Act.put, List.setIfInBounds_toArray, List.set_cons_succ, List.set_cons_zero, f0, f1, f2, f3, f4, f5, f6, f7, f8, f9, f10, f11]
              clear f0 f1 f2 f3 f4 f5 f6 f7 f8 f9 f10 f11
              go_wp2_with fail
              refine ⟨⟨k + 1, by omega, by simp, B2.out.trans (hX.mono B2.out.size), fun i hi => ?_⟩, by simp [intOf]; omega⟩
              rcases Nat.lt_or_ge i k with h | h
              · exact AG.out i h
              · obtain rfl : i = k := by omega
                exact of_decide_eq_true HS.out

          | false =>
            go_upto_region 6 with fail
            refine wp_region_below (is ?e0 :: is ?e1 :: is ?e2 :: is ?e3 :: is ?e4 :: is ?e5 :: is ?e6 :: is ?e7 :: is ?e8 :: is ?e9 :: is (.bool false) :: is ?e11 :: [])
              [⟨[], [2], none⟩, ⟨[(28, 0)], [], none⟩, ⟨[], [5], none⟩, ⟨[(29, 1), (30, 2)], [], none⟩, ⟨[(31, 3)], [], none⟩, ⟨[], [3], none⟩, ⟨[(33, 5)], [], none⟩, ⟨[], [5], none⟩, ⟨[(34, 6), (35, 7)], [], none⟩, ⟨[(36, 8)], [], none⟩, ⟨[(32, 4), (37, 9)], [], none⟩, ⟨[(38, 10)], [], none⟩] (by kernel_rfl) (by kernel_rfl) (by kernel_rfl) (by kernel_rfl) (by kernel_rfl) ?monoe ?stepse ?fine
            case monoe => exact ⟨mono_eq _, mono_eq _, mono_eq _, mono_eq _, mono_eq _, mono_eq _, mono_eq _, mono_eq _, mono_eq _, mono_eq _, mono_eq _, mono_eq _, trivial⟩
            case stepse =>
              refine ⟨fun ρ W ⟨hcst, hglb, hfun⟩ hX hp ho => ?_, ?_⟩ -- 0: slot 28 := Op.fieldAddr 32 t2 1
              · obtain ⟨o2, -⟩ := ho
                change ρ (.tmp 2) = _ at o2
                refine turn_plain (ok_is ?_ rfl)
                simp only [execOp, o2]; go_simp; try exact rfl
              refine ⟨fun ρ W ⟨hcst, hglb, hfun⟩ hX hp ho => ?_, ?_⟩ -- 1: slot 29 := Op.load 23 t28
              · obtain ⟨p28, -⟩ := hp
                change ρ (.tmp 28) = _ at p28
                have q := (((Below.refl _ _).drew.trans hX).cell (p := ⟨g, 1, none⟩) ltg1).trans y1
                refine turn_plain (ok_is ?_ rfl)
                simp only [execOp, p28]; go_simp; try exact rfl
              refine ⟨fun ρ W ⟨hcst, hglb, hfun⟩ hX hp ho => ?_, ?_⟩ -- 2: slot 30 := Op.move t5
              · obtain ⟨o5, -⟩ := ho
                change ρ (.tmp 5) = _ at o5
                refine turn_plain (ok_is ?_ rfl)
                simp only [execOp, o5]; go_simp; try exact rfl
              refine ⟨fun ρ W ⟨hcst, hglb, hfun⟩ hX hp ho => ?_, ?_⟩ -- 3: slot 31 := Op.indexAddr 23 t29 t30
              · obtain ⟨p29, p30, -⟩ := hp
                change ρ (.tmp 29) = _ at p29
                change ρ (.tmp 30) = _ at p30
                refine turn_plain (ok_is ?_ rfl)
                simp only [execOp, p29, p30]; go_simp; try exact rfl
              refine ⟨fun ρ W ⟨hcst, hglb, hfun⟩ hX hp ho => ?_, ?_⟩ -- 4: slot 32 := Op.load 22 t31
              · obtain ⟨p31, -⟩ := hp
                change ρ (.tmp 31) = _ at p31
                have q := (((Below.refl _ _).drew.trans hX).cell (p := ⟨b4, o4 + k, none⟩) hlt4).trans hcx
                refine turn_plain (ok_is ?_ rfl)
                simp only [execOp, p31]; go_simp; try exact rfl
              refine ⟨fun ρ W ⟨hcst, hglb, hfun⟩ hX hp ho => ?_, ?_⟩ -- 5: slot 33 := Op.fieldAddr 25 t3 1
              · obtain ⟨o3, -⟩ := ho
                change ρ (.tmp 3) = _ at o3
                refine turn_plain (ok_is ?_ rfl)
                simp only [execOp, o3]; go_simp; try exact rfl
              refine ⟨fun ρ W ⟨hcst, hglb, hfun⟩ hX hp ho => ?_, ?_⟩ -- 6: slot 34 := Op.load 23 t33
              · obtain ⟨p33, -⟩ := hp
                change ρ (.tmp 33) = _ at p33
                have q := (((Below.refl _ _).drew.trans hX).cell (p := ⟨g + 1, 1, none⟩) ltg2).trans y2
                refine turn_plain (ok_is ?_ rfl)
                simp only [execOp, p33]; go_simp; try exact rfl
              refine ⟨fun ρ W ⟨hcst, hglb, hfun⟩ hX hp ho => ?_, ?_⟩ -- 7: slot 35 := Op.move t5
              · obtain ⟨o5, -⟩ := ho
                change ρ (.tmp 5) = _ at o5
                refine turn_plain (ok_is ?_ rfl)
                simp only [execOp, o5]; go_simp; try exact rfl
              refine ⟨fun ρ W ⟨hcst, hglb, hfun⟩ hX hp ho => ?_, ?_⟩ -- 8: slot 36 := Op.indexAddr 23 t34 t35
              · obtain ⟨p34, p35, -⟩ := hp
                change ρ (.tmp 34) = _ at p34
                change ρ (.tmp 35) = _ at p35
                refine turn_plain (ok_is ?_ rfl)
                simp only [execOp, p34, p35]; go_simp; try exact rfl
              refine ⟨fun ρ W ⟨hcst, hglb, hfun⟩ hX hp ho => ?_, ?_⟩ -- 9: slot 37 := Op.load 22 t36
              · obtain ⟨p36, -⟩ := hp
                change ρ (.tmp 36) = _ at p36
                have q := (((Below.refl _ _).drew.trans hX).cell (p := ⟨b5, o5 + k, none⟩) hlt5).trans hcy
                refine turn_plain (ok_is ?_ rfl)
                simp only [execOp, p36]; go_simp; try exact rfl
              refine ⟨fun ρ W ⟨hcst, hglb, hfun⟩ hX hp ho => ?_, ?_⟩ -- 10: slot 38 := Op.call { value (Operand.func 18), args := #[t32, t37], argTypes := #[22, 22] }
              · obtain ⟨p32, p37, -⟩ := hp
                change ρ (.tmp 32) = _ at p32
                change ρ (.tmp 37) = _ at p37
                have hW := (Below.refl _ _).drew.trans hX
                refine turn_plain ?_
                have ce := @enter_of Tryd.prog 18 _ Tryd.func18 (by kernel_rfl) (by kernel_rfl)
                refine ok_call (op_call2 hfun ce (by exact rfl) p32 p37) ?_
                refine (QS.out W hW).mono ?_
                rintro e W' ⟨rfl, bel⟩
                exact ⟨_, rfl, bel, rfl⟩
              refine ⟨fun ρ W ⟨hcst, hglb, hfun⟩ hX hp ho => ?_, ?_⟩ -- 11: slot 39 := Op.unOp UnOp.not 4 t38
              · obtain ⟨p38, -⟩ := hp
                change ρ (.tmp 38) = _ at p38
                refine turn_plain (ok_is ?_ rfl)
                simp only [execOp, p38]; go_simp; try exact rfl
              exact trivial
            case fine =>
              rintro v W hX ⟨f0, f1, f2, f3, f4, f5, f6, f7, f8, f9, f10, f11, -⟩
              simp only [is] at f0 f1 f2 f3 f4 f5 f6 f7 f8 f9 f10 f11
              simp only [putAll, Act.put, List.setIfInBounds_toArray, List.set_cons_succ, List.set_cons_zero, f0, f1, f2, f3, f4, f5, f6, f7, f8, f9, f10, f11]
              clear f0 f1 f2 f3 f4 f5 f6 f7 f8 f9 f10 f11
              have HE := Lib.hid (show ¬ (a = b ∧ P = Q) from fun e => of_decide_eq_false HS.out (by rw [e.2]))
              go_wp2_with fail
              go_ret
              exact ⟨by rw [decide_eq_false HE.out]; rfl, by rw [HG.out]; exact BW.out.trans (hX.mono (by rw [← HG.out]; exact BW.out.size))⟩

        · obtain rfl : n2 = k := by omega
          have HE := Lib.hid (show a = b ∧ P = Q from ⟨EAB.out, rows3_eq (by rw [HL2.out, HL5.out]) (fun i hi => AG.out i (by rw [← HL2.out]; exact hi))⟩)
          go_wp2_with fail
          go_ret
          exact ⟨by rw [decide_eq_true HE.out]; rfl, by rw [HG.out]; exact BW.out⟩
    · have HE := Lib.hid (show ¬ (a = b ∧ P = Q) from fun e => h (by rw [← HL2.out, ← HL5.out, e.2]))
      have h2 : ((n2 : Int) == (n5 : Int)) = false := by simp; omega
      go_wp2_with fail
      go_ret
      exact ⟨by rw [decide_eq_false HE.out]; rfl, by rw [HG.out]; exact HB.out⟩
end
section
variable (A : Option Addr) (n c : Nat) (vs : List Value) (own : List (List Nat)) (A2 : Option Addr) (n2 c2 : Nat) (vs2 : List Value) (P : List (List (List Nat))) (A3 : Option Addr) (n3 c3 : Nat) (vs3 : List Value) (LL : List (List (List Nat)))
/-- some answer -/
def SomeB (w : World) (e : Ending) (w' : World) : Prop := ∃ b : Bool, e = .returned (.bool b) ∧ Below w.heap.size w w'
set_option maxRecDepth 100000 in
set_option maxHeartbeats 4000000 in
theorem great_any (w : World) (hl : own.length = n) (hn : n ≤ 9223372036854775807) (hr : Rows_ w .u32 A vs own) (hl2 : P.length = n2) (hn2 : n2 ≤ 9223372036854775807) (hr2 : Rows3 w .u32 A2 vs2 P) (hl3 : LL.length = n3) (hn3 : n3 ≤ 9223372036854775807) (hr3 : Rows3 w .u32 A3 vs3 LL) :
    Calls Tryd.prog 6 #[.agg #[.slice A n c, .slice A2 n2 c2], .slice A3 n3 c3] w (SomeB w) := by
  have HB0 := (Below.refl w.heap.size w).alloc (Nat.le_refl _) (.cells #[.slice A n c, .slice A2 n2 c2] 25)
  have H1 := Lib.hid (Holds.new w 25 #[.slice A n c, .slice A2 n2 c2] w.heap.size rfl)
  have HB := Lib.hid HB0
  have HR := Lib.hid (hr.later HB0 (Nat.le_refl _))
  have HR2 := Lib.hid (hr2.later HB0 (Nat.le_refl _))
  have HR3 := Lib.hid (hr3.later HB0 (Nat.le_refl _))
  have HL := Lib.hid hl
  have HL2 := Lib.hid hl2
  have HL3 := Lib.hid hl3
  clear hr hr2 hr3 HB0 hl hl2 hl3
  go_enter Tryd.func6, Tryd.ntmps6
  go_upto_region 1 with fail
  generalize w.alloc (.cells #[.slice A n c, .slice A2 n2 c2] 25) = w1 at *
  generalize hg : w.heap.size = g at *
  have HG := Lib.hid hg
  clear hg
  have x0 : w1.cell? ⟨g, 0, none⟩ = some (.slice A n c) := H1.out.cell 0
  have x1 : w1.cell? ⟨g, 1, none⟩ = some (.slice A2 n2 c2) := H1.out.cell 1
  have RET : ∀ b : Bool, SomeB w (.returned (.bool b)) w1 := fun b => ⟨b, rfl, by rw [HG.out]; exact HB.out⟩
  have hwr : ∀ wr : World, wr = w1 → wr = w1 := fun _ h => h
  by_cases h1 : (12 : Int) < n
  · go_wp2_with fail
    go_ret
    exact RET _
  by_cases h2 : (12 : Int) < n2
  · go_wp2_with fail
    go_ret
    exact RET _
  go_wp2_with fail
  go_loopw [5] (fun i wr => ∃ k : Nat, k ≤ n2 ∧ i = .int .i64 k ∧ wr = w1) (fun i _ => (n2 - intOf i).toNat)
  case atStart => exact ⟨0, by omega, rfl, rfl⟩
  case round =>
    obtain ⟨k, hk, rfl, rfl⟩ := hrel
    by_cases hkn : k < n2
    · obtain ⟨b4, o4, Ax, cx, wx, mx, hA4, hcx, hax, hmx, hmx2⟩ := HR2.out.getm k (by rw [HL2.out]; exact hkn) (Below.refl _ _)
      have HX := Lib.hid hax
      have HMX := Lib.hid hmx
      subst hA4
      clear hax hmx
      by_cases h3 : (12 : Int) < mx
      · go_wp2_with fail
        go_ret
        exact RET _
      go_wp2_with fail
      go_loopw [6] (fun i wq => ∃ m : Nat, m ≤ mx ∧ i = .int .i64 m ∧ wq = wr) (fun i _ => (mx - intOf i).toNat)
      case atStart => exact ⟨0, by omega, rfl, rfl⟩
      case round =>
        obtain ⟨m, hm, rfl, rfl⟩ := hrel
        by_cases hmn : m < mx
        · obtain ⟨b5, o5, Ay, cy, my, hA5, hcy, hay, hmy, hmy2⟩ := HX.out.getm m (by rw [HMX.out]; exact hmn) (Below.refl _ _)
          subst hA5
          clear hay hmy
          by_cases h4 : (40 : Int) < my
          · go_wp2_with fail
            go_ret
            exact RET _
          · go_wp2_with fail
            exact ⟨⟨m + 1, by omega, by simp, trivial⟩, by simp [intOf]; omega⟩
        · obtain rfl : mx = m := by omega
          go_wp2_with fail
          exact ⟨⟨k + 1, by omega, by simp, trivial⟩, by simp [intOf]; omega⟩
    · obtain rfl : n2 = k := by omega
      go_wp2_with fail
      go_loopw [7] (fun i wq => ∃ k : Nat, k ≤ n ∧ i = .int .i64 k ∧ wq = wr) (fun i _ => (n - intOf i).toNat)
      case atStart => exact ⟨0, by omega, rfl, rfl⟩
      case round =>
        obtain ⟨k, hk, rfl, rfl⟩ := hrel
        by_cases hkn : k < n
        · obtain ⟨b5, o5, Ay, cy, my, hA5, hcy, hay, hmy, hmy2⟩ := HR.out.getm k (by rw [HL.out]; exact hkn) (Below.refl _ _)
          subst hA5
          clear hay hmy
          by_cases h4 : (40 : Int) < my
          · go_wp2_with fail
            go_ret
            exact RET _
          · go_wp2_with fail
            exact ⟨⟨k + 1, by omega, by simp, trivial⟩, by simp [intOf]; omega⟩
        · obtain rfl : n = k := by omega
          go_wp2_with fail
          go_loopw [8] (fun i wq => ∃ k : Nat, k ≤ n3 ∧ i = .int .i64 k ∧ wq = wr) (fun i _ => (n3 - intOf i).toNat)
          case atStart => exact ⟨0, by omega, rfl, rfl⟩
          case round =>
            obtain ⟨k, hk, rfl, rfl⟩ := hrel
            by_cases hkn : k < n3
            · obtain ⟨b4, o4, Ax, cx, wx, mx, hA4, hcx, hax, hmx, hmx2⟩ := HR3.out.getm k (by rw [HL3.out]; exact hkn) (Below.refl _ _)
              have HX := Lib.hid hax
              have HMX := Lib.hid hmx
              subst hA4
              clear hax hmx
              by_cases h3 : (12 : Int) < mx
              · go_wp2_with fail
                go_ret
                exact RET _
              go_wp2_with fail
              go_loopw [9] (fun i wq => ∃ m : Nat, m ≤ mx ∧ i = .int .i64 m ∧ wq = wr) (fun i _ => (mx - intOf i).toNat)
              case atStart => exact ⟨0, by omega, rfl, rfl⟩
              case round =>
                obtain ⟨m, hm, rfl, rfl⟩ := hrel
                by_cases hmn : m < mx
                · obtain ⟨b5, o5, Ay, cy, my, hA5, hcy, hay, hmy, hmy2⟩ := HX.out.getm m (by rw [HMX.out]; exact hmn) (Below.refl _ _)
                  subst hA5
                  clear hay hmy
                  by_cases h4 : (40 : Int) < my
                  · go_wp2_with fail
                    go_ret
                    exact RET _
                  · go_wp2_with fail
                    exact ⟨⟨m + 1, by omega, by simp, trivial⟩, by simp [intOf]; omega⟩
                · obtain rfl : mx = m := by omega
                  go_wp2_with fail
                  exact ⟨⟨k + 1, by omega, by simp, trivial⟩, by simp [intOf]; omega⟩
            · obtain rfl : n3 = k := by omega
              go_wp2_with fail
              go_ret
              exact RET _
end
end Go.Proofs.YtmdilfgeogedpaaDoor
