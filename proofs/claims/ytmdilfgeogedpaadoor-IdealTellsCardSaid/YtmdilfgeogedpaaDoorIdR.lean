/- Layer 37: Moved of package ideal. Printed by idr.py. -/
import Derived.Test.YtmdilfgeogedpaaDoorIdRa
namespace Go.Proofs.YtmdilfgeogedpaaDoor
open Go.RowKit
section
variable (A : Option Addr) (n c : Nat) (vs : List Value) (own : List (List Nat)) (A2 : Option Addr) (n2 c2 : Nat) (vs2 : List Value) (P : List (List (List Nat))) (A3 : Option Addr) (n3 c3 : Nat) (came : List Int)
variable (A4 : Option Addr) (n4 c4 : Nat) (vs4 : List Value) (rows : List (List Nat)) (A5 : Option Addr) (n5 c5 : Nat) (vs5 : List Value) (other : List (List Nat))
def MvE (w : World) (own : List (List Nat)) (P : List (List (List Nat))) (came : List Int) (rows other : List (List Nat)) (e : Ending) (w' : World) : Prop :=
  (¬ MvArg own P came rows other ∧ TabN 1 w e w') ∨ (MvArg own P came rows other ∧ ¬ MvSum came rows other ∧ TabN 4 w e w') ∨
  (MvArg own P came rows other ∧ MvSum came rows other ∧ TabE w own (mvP (came.map Int.toNat) P rows other (came.length - 1)) e w')
set_option maxRecDepth 100000 in
set_option maxHeartbeats 4000000 in
theorem moved_any (w : World) (hl : own.length = n) (hn : n ≤ 9223372036854775807) (hr : Rows_ w .u32 A vs own) (hl2 : P.length = n2) (hn2 : n2 ≤ 9223372036854775807) (hr2 : Rows3 w .u32 A2 vs2 P)
    (hl3 : came.length = n3) (h3 : n3 ≤ 9223372036854775807) (hc3 : n3 ≤ c3) (ha3 : At w A3 (ints .i64 came)) (hl4 : rows.length = n4) (h4 : n4 ≤ 9223372036854775807) (hr4 : Rows_ w .u32 A4 vs4 rows) (hl5 : other.length = n5) (h5 : n5 ≤ 9223372036854775807) (hr5 : Rows_ w .u32 A5 vs5 other)
    (u2 : ∀ l ∈ P, U32 l) (u3 : U32 rows) (u4 : U32 other) :
    Calls Tryd.prog 14 #[.agg #[.slice A n c, .slice A2 n2 c2], .slice A3 n3 c3, .slice A4 n4 c4, .slice A5 n5 c5] w (MvE w own P came rows other) := by
  have HB0 := ((Below.refl w.heap.size w).alloc (Nat.le_refl _) (.cells #[.slice A n c, .slice A2 n2 c2] 32)).alloc (by simp) (.cells #[.slice none 0 0, .slice none 0 0] 32)
  have QF := Lib.hid (fits_tab A n c vs own A2 n2 c2 vs2 P A4 n4 c4 vs4 rows _ hl hn (hr.later HB0 (Nat.le_refl _)) hl2 hn2 (hr2.later HB0 (Nat.le_refl _)) hl4 h4 (hr4.later HB0 (Nat.le_refl _)))
  have H1 := Lib.hid ((Holds.new w 32 #[.slice A n c, .slice A2 n2 c2] w.heap.size rfl).alloc (.cells #[.slice none 0 0, .slice none 0 0] 32))
  have H2 := Lib.hid (Holds.new (w.alloc (.cells #[.slice A n c, .slice A2 n2 c2] 32)) 32 #[.slice none 0 0, .slice none 0 0] (w.heap.size + 1) (by simp))
  have HB := Lib.hid HB0
  have HA := Lib.hid ha3
  have HR := Lib.hid hr
  have HR2 := Lib.hid hr2
  have HR4 := Lib.hid hr4
  have HR5 := Lib.hid hr5
  have HL := Lib.hid hl
  have HL2 := Lib.hid hl2
  have HL3 := Lib.hid hl3
  have HL4 := Lib.hid hl4
  have HL5 := Lib.hid hl5
  have U2 := Lib.hid u2
  have U3 := Lib.hid u3
  have U4 := Lib.hid u4
  clear HB0 hr hr2 ha3 hr4 hr5 hl hl2 hl3 hl4 hl5 u2 u3 u4
  go_enter Tryd.func14, Tryd.ntmps14
  have x0 : ((w.alloc (.cells #[.slice A n c, .slice A2 n2 c2] 32)).alloc (.cells #[.slice none 0 0, .slice none 0 0] 32)).cell? ⟨w.heap.size, 0, none⟩ = some (.slice A n c) := H1.out.cell 0
  have x1 : ((w.alloc (.cells #[.slice A n c, .slice A2 n2 c2] 32)).alloc (.cells #[.slice none 0 0, .slice none 0 0] 32)).cell? ⟨w.heap.size, 1, none⟩ = some (.slice A2 n2 c2) := H1.out.cell 1
  go_wp2_with fail
  with_reducible refine QF.out.mono ?_
  clear QF x0 x1
  rintro e w1 ⟨he, b1⟩
  have BS := Lib.hid b1.size
  replace H1 := Lib.hid (H1.out.later b1 (Nat.le_refl _))
  replace H2 := Lib.hid (H2.out.later b1 (Nat.le_refl _))
  replace HB := Lib.hid (HB.out.trans (b1.mono HB.out.size))
  clear b1
  generalize hg : w.heap.size = g at *
  have HG := Lib.hid hg
  clear hg
  have V1 := fun (W : World) (h : Holds W (g + 1) 32 #[.slice none 0 0, .slice none 0 0]) => (h.set 0 (.slice none 0 0)).set 1 (.slice none 0 0)
  have VB := fun (W : World) (h : Below g w W) => (h.setCell (p := ⟨g + 1, 0, none⟩) (by show g ≤ g + 1; omega) (.slice none 0 0)).setCell (p := ⟨g + 1, 1, none⟩) (by show g ≤ g + 1; omega) (.slice none 0 0)
  have r0 : w1.cell? ⟨g + 1, 0, none⟩ = some (.slice none 0 0) := H2.out.cell 0
  have r1 : w1.cell? ⟨g + 1, 1, none⟩ = some (.slice none 0 0) := H2.out.cell 1
  have z0 := H2.out.frozen 0
  have z1 := H2.out.frozen 1
  rcases he with ⟨rfl, hx⟩ | ⟨rfl, hx⟩
  · have HX := Lib.hid hx
    clear hx
    go_wp2_with fail
    exact bodyPost_ret (v := .tuple #[.agg #[.slice none 0 0, .slice none 0 0], .iface 62 (.int .i64 1)]) (results_cell_two Tryd.results14 _ _ (g + 1) 32 #[.slice none 0 0, .slice none 0 0] _ _ _ rfl rfl (V1 _ H2.out) tb_under rfl tb_size) rfl (.inl ⟨fun h => HX.out h.1.1, rfl, by rw [HG.out]; exact VB _ HB.out⟩)
  have SH := Lib.hid hx.shape
  have HX := Lib.hid hx
  clear hx
  have QW := Lib.hid (width_any A4 n4 c4 vs4 rows w1 HL4.out h4 (HR4.out.later HB.out (by rw [HG.out]; exact Nat.le_refl _)))
  have QA := Lib.hid (all_any A5 n5 c5 vs5 other n4 (dimOf rows : Nat) w1 HL5.out h5 (HR5.out.later HB.out (by rw [HG.out]; exact Nat.le_refl _)))
  have QP := Lib.hid (places_any A3 n3 c3 came (n4 : Int) w1 HL3.out h3 (HA.out.later HB.out (by rw [HG.out]; exact Nat.le_refl _)))
  obtain ⟨d, hd⟩ : ∃ d, dimOf rows = d := ⟨_, rfl⟩
  rw [hd] at QW QA SH
  have HDM := Lib.hid hd
  clear hd
  go_wp2_with fail
  with_reducible refine QW.out.mono ?_
  clear QW
  rintro e w2 ⟨rfl, rfl⟩
  go_wp2_with fail
  with_reducible refine QA.out.mono ?_
  clear QA
  rintro e w2 ⟨rfl, rfl⟩
  cases hga : allB other n4 d with
  | false =>
    have HX2 := Lib.hid hga
    clear hga
    go_wp2_with fail
    exact bodyPost_ret (v := .tuple #[.agg #[.slice none 0 0, .slice none 0 0], .iface 62 (.int .i64 1)]) (results_cell_two Tryd.results14 _ _ (g + 1) 32 #[.slice none 0 0, .slice none 0 0] _ _ _ rfl rfl (V1 _ H2.out) tb_under rfl tb_size) rfl (.inl ⟨fun h => (by have h2 := h.1.2.1; rw [HDM.out, HL4.out, HX2.out] at h2; cases h2), rfl, by rw [HG.out]; exact VB _ HB.out⟩)
  | true =>
  have HGA := Lib.hid hga
  clear hga
  go_wp2_with fail
  with_reducible refine QP.out.mono ?_
  clear QP
  rintro e w2 ⟨rfl, rfl⟩
  cases hpl : PlB came n4 with
  | false =>
    have HX2 := Lib.hid hpl
    clear hpl
    rw [show errIf false = .iface 62 (.int .i64 1) from rfl]
    go_wp2_with fail
    exact bodyPost_ret (v := .tuple #[.agg #[.slice none 0 0, .slice none 0 0], .iface 62 (.int .i64 1)]) (results_cell_two Tryd.results14 _ _ (g + 1) 32 #[.slice none 0 0, .slice none 0 0] _ _ _ rfl rfl (V1 _ H2.out) tb_under rfl tb_size) rfl (.inl ⟨fun h => (by have h2 := h.1.2.2; rw [HL4.out, HX2.out] at h2; cases h2), rfl, by rw [HG.out]; exact VB _ HB.out⟩)
  | true =>
  have HPL := Lib.hid hpl
  rw [show errIf true = .nilIface from rfl]
  have N64 : n4 ≤ 64 := by rw [← HL4.out]; exact SH.out.n64
  have D32 := SH.out.d32
  have E5 : n4 = n5 := by have h := (allB_len HGA.out).1; rw [HL5.out] at h; omega
  have HD4 := Lib.hid (fun i (hi : i < n4) => SH.out.rd i (by rw [HL4.out]; exact hi))
  have HD5 := Lib.hid (fun i (hi : i < n4) => (by have h := (allB_len HGA.out).2 i (by rw [HL5.out]; omega); omega : (other.getD i []).length = d))
  clear hpl
  subst E5
  obtain rfl : n4 = n := by have h := SH.out.on; rw [HL.out, HL4.out] at h; omega
  obtain rfl : n4 = n2 := by have h := SH.out.pn; rw [HL2.out, HL4.out] at h; omega
  go_wp2_with fail
  go_loopw [44] (fun i wr => ∃ (k : Nat), k ≤ n4 ∧ i = .int .i64 k ∧ Below w1.heap.size w1 wr ∧ ∀ i, i < k → SetM.has came (i : Nat) = true ∨ rows.getD i [] = other.getD i []) (fun i _ => (n4 - intOf i).toNat)
  case atStart => exact ⟨0, by omega, rfl, Below.refl _ _, fun i hi => absurd hi (by omega)⟩
  case round =>
    obtain ⟨k, hk, rfl, hb, hag⟩ := hrel
    have B2 := Lib.hid hb
    have AG := Lib.hid hag
    have BW := Lib.hid (HB.out.trans (hb.mono (by rw [← HG.out]; exact HB.out.size)))
    clear hb hag
    by_cases hkn : k < n4
    · have QH := Lib.hid (fun W (hW : Below wr.heap.size wr W) => setHas_any A3 n3 c3 came (k : Int) W HL3.out h3 (HA.out.later (BW.out.trans (hW.mono (by rw [← HG.out]; exact BW.out.size))) (by rw [HG.out]; exact Nat.le_refl _)))
      cases hhas : SetM.has came (k : Int) with
      | true =>
        rw [hhas] at QH
        have HHAS := Lib.hid hhas
        clear hhas
        go_upto_region 6 with fail
        refine wp_region_below (is ?c0 :: is ?c1 :: is (.bool true) :: is ?c3 :: is ?c4 :: is (undef) :: is (undef) :: is (undef) :: is (undef) :: is (undef) :: is (undef) :: is (undef) :: is (undef) :: is (undef) :: is (undef) :: is ?c15 :: [])
          [⟨[], [1], none⟩, ⟨[], [10], none⟩, ⟨[(47, 0), (48, 1)], [], none⟩, ⟨[(49, 2)], [], none⟩, ⟨[(50, 3)], [], none⟩, ⟨[(51, 4)], [2], some (51, true)⟩, ⟨[(51, 4)], [10], some (51, true)⟩, ⟨[(52, 5), (53, 6), (51, 4)], [], some (51, true)⟩, ⟨[(54, 7), (51, 4)], [], some (51, true)⟩, ⟨[(51, 4)], [3], some (51, true)⟩, ⟨[(51, 4)], [10], some (51, true)⟩, ⟨[(56, 9), (57, 10), (51, 4)], [], some (51, true)⟩, ⟨[(58, 11), (51, 4)], [], some (51, true)⟩, ⟨[(55, 8), (59, 12), (51, 4)], [], some (51, true)⟩, ⟨[(60, 13), (51, 4)], [], some (51, true)⟩, ⟨[(51, 4), (61, 14)], [], none⟩] (by kernel_rfl) (by kernel_rfl) (by kernel_rfl) (by kernel_rfl) (by kernel_rfl) ?monoc ?stepsc ?finc
        case monoc => exact ⟨mono_eq _, mono_eq _, mono_eq _, mono_eq _, mono_eq _, mono_eq _, mono_eq _, mono_eq _, mono_eq _, mono_eq _, mono_eq _, mono_eq _, mono_eq _, mono_eq _, mono_eq _, mono_eq _, trivial⟩
        case stepsc =>
          refine ⟨fun ρ W ⟨hcst, hglb, hfun⟩ hX hp ho => ?_, ?_⟩ -- 0: slot 47 := Op.move t1
          · obtain ⟨o1, -⟩ := ho
            change ρ (.tmp 1) = _ at o1
            refine turn_plain (ok_is ?_ rfl)
            simp only [execOp, o1]; go_simp; try exact rfl
          refine ⟨fun ρ W ⟨hcst, hglb, hfun⟩ hX hp ho => ?_, ?_⟩ -- 1: slot 48 := Op.move t10
          · obtain ⟨o10, -⟩ := ho
            change ρ (.tmp 10) = _ at o10
            refine turn_plain (ok_is ?_ rfl)
            simp only [execOp, o10]; go_simp; try exact rfl
          refine ⟨fun ρ W ⟨hcst, hglb, hfun⟩ hX hp ho => ?_, ?_⟩ -- 2: slot 49 := Op.call { value (Operand.func 32), args := #[t47, t48], argTypes := #[26, 3] }
          · obtain ⟨p47, p48, -⟩ := hp
            change ρ (.tmp 47) = _ at p47
            change ρ (.tmp 48) = _ at p48
            have hW := (Below.refl _ _).drew.trans hX
            refine turn_plain ?_
            have ce := @enter_of Tryd.prog 32 _ Tryd.func32 (by kernel_rfl) (by kernel_rfl)
            refine ok_call (op_call2 hfun ce (by exact rfl) p47 p48) ?_
            refine (QH.out W hW).mono ?_
            rintro e W' ⟨rfl, rfl⟩
            exact ⟨_, rfl, Below.refl _ _, rfl⟩
          refine ⟨fun ρ W ⟨hcst, hglb, hfun⟩ hX hp ho => ?_, ?_⟩ -- 3: slot 50 := Op.unOp UnOp.not 4 t49
          · obtain ⟨p49, -⟩ := hp
            change ρ (.tmp 49) = _ at p49
            refine turn_plain (ok_is ?_ rfl)
            simp only [execOp, p49]; go_simp; try exact rfl
          refine ⟨fun ρ W ⟨hcst, hglb, hfun⟩ hX hp ho => ?_, ?_⟩ -- 4: slot 51 := Op.move t50
          · obtain ⟨p50, -⟩ := hp
            change ρ (.tmp 50) = _ at p50
            refine turn_plain (ok_is ?_ rfl)
            simp only [execOp, p50]; go_simp; try exact rfl
          refine ⟨fun ρ W ⟨hcst, hglb, hfun⟩ hX hp ho => ?_, ?_⟩ -- 5: slot 52 := Op.move t2   [guarded: some (4, true)]
          · obtain ⟨p51, -⟩ := hp
            change ρ (.tmp 51) = _ at p51
            obtain ⟨o2, -⟩ := ho
            change ρ (.tmp 2) = _ at o2
            exact turn_skip p51 (by decide) rfl
          refine ⟨fun ρ W ⟨hcst, hglb, hfun⟩ hX hp ho => ?_, ?_⟩ -- 6: slot 53 := Op.move t10   [guarded: some (4, true)]
          · obtain ⟨p51, -⟩ := hp
            change ρ (.tmp 51) = _ at p51
            obtain ⟨o10, -⟩ := ho
            change ρ (.tmp 10) = _ at o10
            exact turn_skip p51 (by decide) rfl
          refine ⟨fun ρ W ⟨hcst, hglb, hfun⟩ hX hp ho => ?_, ?_⟩ -- 7: slot 54 := Op.indexAddr 22 t52 t53   [guarded: some (4, true)]
          · obtain ⟨p52, p53, p51, -⟩ := hp
            change ρ (.tmp 52) = _ at p52
            change ρ (.tmp 53) = _ at p53
            change ρ (.tmp 51) = _ at p51
            exact turn_skip p51 (by decide) rfl
          refine ⟨fun ρ W ⟨hcst, hglb, hfun⟩ hX hp ho => ?_, ?_⟩ -- 8: slot 55 := Op.load 54 t54   [guarded: some (4, true)]
          · obtain ⟨p54, p51, -⟩ := hp
            change ρ (.tmp 54) = _ at p54
            change ρ (.tmp 51) = _ at p51
            exact turn_skip p51 (by decide) rfl
          refine ⟨fun ρ W ⟨hcst, hglb, hfun⟩ hX hp ho => ?_, ?_⟩ -- 9: slot 56 := Op.move t3   [guarded: some (4, true)]
          · obtain ⟨p51, -⟩ := hp
            change ρ (.tmp 51) = _ at p51
            obtain ⟨o3, -⟩ := ho
            change ρ (.tmp 3) = _ at o3
            exact turn_skip p51 (by decide) rfl
          refine ⟨fun ρ W ⟨hcst, hglb, hfun⟩ hX hp ho => ?_, ?_⟩ -- 10: slot 57 := Op.move t10   [guarded: some (4, true)]
          · obtain ⟨p51, -⟩ := hp
            change ρ (.tmp 51) = _ at p51
            obtain ⟨o10, -⟩ := ho
            change ρ (.tmp 10) = _ at o10
            exact turn_skip p51 (by decide) rfl
          refine ⟨fun ρ W ⟨hcst, hglb, hfun⟩ hX hp ho => ?_, ?_⟩ -- 11: slot 58 := Op.indexAddr 22 t56 t57   [guarded: some (4, true)]
          · obtain ⟨p56, p57, p51, -⟩ := hp
            change ρ (.tmp 56) = _ at p56
            change ρ (.tmp 57) = _ at p57
            change ρ (.tmp 51) = _ at p51
            exact turn_skip p51 (by decide) rfl
          refine ⟨fun ρ W ⟨hcst, hglb, hfun⟩ hX hp ho => ?_, ?_⟩ -- 12: slot 59 := Op.load 54 t58   [guarded: some (4, true)]
          · obtain ⟨p58, p51, -⟩ := hp
            change ρ (.tmp 58) = _ at p58
            change ρ (.tmp 51) = _ at p51
            exact turn_skip p51 (by decide) rfl
          refine ⟨fun ρ W ⟨hcst, hglb, hfun⟩ hX hp ho => ?_, ?_⟩ -- 13: slot 60 := Op.call { value (Operand.func 36), args := #[t55, t59], argTypes := #[54, 54] }   [guarded
          · obtain ⟨p55, p59, p51, -⟩ := hp
            change ρ (.tmp 55) = _ at p55
            change ρ (.tmp 59) = _ at p59
            change ρ (.tmp 51) = _ at p51
            exact turn_skip p51 (by decide) rfl
          refine ⟨fun ρ W ⟨hcst, hglb, hfun⟩ hX hp ho => ?_, ?_⟩ -- 14: slot 61 := Op.unOp UnOp.not 4 t60   [guarded: some (4, true)]
          · obtain ⟨p60, p51, -⟩ := hp
            change ρ (.tmp 60) = _ at p60
            change ρ (.tmp 51) = _ at p51
            exact turn_skip p51 (by decide) rfl
          refine ⟨fun ρ W ⟨hcst, hglb, hfun⟩ hX hp ho => ?_, ?_⟩ -- 15: slot 62 := Op.pick t51 t61 (const (Value.bool false))
          · obtain ⟨p51, p61, -⟩ := hp
            change ρ (.tmp 51) = _ at p51
            change ρ (.tmp 61) = _ at p61
            refine turn_plain (ok_is ?_ rfl)
            simp only [execOp, hcst, p51, p61]; go_simp; try exact rfl
          exact trivial
        case finc =>
          rintro v W hX ⟨f0, f1, f2, f3, f4, f5, f6, f7, f8, f9, f10, f11, f12, f13, f14, f15, -⟩
          simp only [is] at f0 f1 f2 f3 f4 f5 f6 f7 f8 f9 f10 f11 f12 f13 f14 f15
          simp only [putAll, Act.put, List.setIfInBounds_toArray, List.set_cons_succ, List.set_cons_zero, f0, f1, f2, f3, f4, f5, f6, f7, f8, f9, f10, f11, f12, f13, f14, f15]
          clear f0 f1 f2 f3 f4 f5 f6 f7 f8 f9 f10 f11 f12 f13 f14 f15
          go_wp2_with fail
          refine ⟨⟨k + 1, by omega, by simp, B2.out.trans (hX.mono B2.out.size), fun i hi => ?_⟩, by simp [intOf]; omega⟩
          rcases Nat.lt_or_ge i k with h | h
          · exact AG.out i h
          · obtain rfl : i = k := by omega
            exact .inl HHAS.out

      | false =>
        rw [hhas] at QH
        have HHAS := Lib.hid hhas
        clear hhas
        obtain ⟨b4, o4, Ax, cx, hA4, hcx, hax, _⟩ := HR4.out.getw (w' := wr) k (by rw [HL4.out]; exact hkn) (by rw [HG.out]; exact BW.out)
        obtain ⟨b5, o5, Ay, cy, hA5, hcy, hay, _⟩ := HR5.out.getw (w' := wr) k (by rw [HL5.out]; exact hkn) (by rw [HG.out]; exact BW.out)
        have hlt4 := lt_of_cell hcx
        have hlt5 := lt_of_cell hcy
        rw [HD4.out k hkn] at hcx
        rw [HD5.out k hkn] at hcy
        subst hA4 hA5
        have QS := Lib.hid (fun W (hW : Below wr.heap.size wr W) => vsame_any Ax d cx (rows.getD k []) Ay d cy (other.getD k []) W (HD4.out k hkn) (by omega) (hax.later (BW.out.trans (hW.mono (by rw [← HG.out]; exact BW.out.size))) (by rw [HG.out]; exact Nat.le_refl _)) (HD5.out k hkn) (by omega) (hay.later (BW.out.trans (hW.mono (by rw [← HG.out]; exact BW.out.size))) (by rw [HG.out]; exact Nat.le_refl _)))
        obtain ⟨same, hsame⟩ : ∃ b, decide (rows.getD k [] = other.getD k []) = b := ⟨_, rfl⟩
        rw [hsame] at QS
        have HS := Lib.hid hsame
        clear hsame hax hay
        cases same with
        | true =>
          go_upto_region 6 with fail
          refine wp_region_below (is ?d0 :: is ?d1 :: is (.bool false) :: is ?d3 :: is ?d4 :: is ?d5 :: is ?d6 :: is ?d7 :: is ?d8 :: is ?d9 :: is ?d10 :: is ?d11 :: is ?d12 :: is (.bool true) :: is ?d14 :: is ?d15 :: [])
            [⟨[], [1], none⟩, ⟨[], [10], none⟩, ⟨[(47, 0), (48, 1)], [], none⟩, ⟨[(49, 2)], [], none⟩, ⟨[(50, 3)], [], none⟩, ⟨[(51, 4)], [2], some (51, true)⟩, ⟨[(51, 4)], [10], some (51, true)⟩, ⟨[(52, 5), (53, 6), (51, 4)], [], some (51, true)⟩, ⟨[(54, 7), (51, 4)], [], some (51, true)⟩, ⟨[(51, 4)], [3], some (51, true)⟩, ⟨[(51, 4)], [10], some (51, true)⟩, ⟨[(56, 9), (57, 10), (51, 4)], [], some (51, true)⟩, ⟨[(58, 11), (51, 4)], [], some (51, true)⟩, ⟨[(55, 8), (59, 12), (51, 4)], [], some (51, true)⟩, ⟨[(60, 13), (51, 4)], [], some (51, true)⟩, ⟨[(51, 4), (61, 14)], [], none⟩] (by kernel_rfl) (by kernel_rfl) (by kernel_rfl) (by kernel_rfl) (by kernel_rfl) ?monod ?stepsd ?find
          case monod => exact ⟨mono_eq _, mono_eq _, mono_eq _, mono_eq _, mono_eq _, mono_eq _, mono_eq _, mono_eq _, mono_eq _, mono_eq _, mono_eq _, mono_eq _, mono_eq _, mono_eq _, mono_eq _, mono_eq _, trivial⟩
          case stepsd =>
            refine ⟨fun ρ W ⟨hcst, hglb, hfun⟩ hX hp ho => ?_, ?_⟩ -- 0: slot 47 := Op.move t1
            · obtain ⟨o1, -⟩ := ho
              change ρ (.tmp 1) = _ at o1
              refine turn_plain (ok_is ?_ rfl)
              simp only [execOp, o1]; go_simp; try exact rfl
            refine ⟨fun ρ W ⟨hcst, hglb, hfun⟩ hX hp ho => ?_, ?_⟩ -- 1: slot 48 := Op.move t10
            · obtain ⟨o10, -⟩ := ho
              change ρ (.tmp 10) = _ at o10
              refine turn_plain (ok_is ?_ rfl)
              simp only [execOp, o10]; go_simp; try exact rfl
            refine ⟨fun ρ W ⟨hcst, hglb, hfun⟩ hX hp ho => ?_, ?_⟩ -- 2: slot 49 := Op.call { value (Operand.func 32), args := #[t47, t48], argTypes := #[26, 3] }
            · obtain ⟨p47, p48, -⟩ := hp
              change ρ (.tmp 47) = _ at p47
              change ρ (.tmp 48) = _ at p48
              have hW := (Below.refl _ _).drew.trans hX
              refine turn_plain ?_
              have ce := @enter_of Tryd.prog 32 _ Tryd.func32 (by kernel_rfl) (by kernel_rfl)
              refine ok_call (op_call2 hfun ce (by exact rfl) p47 p48) ?_
              refine (QH.out W hW).mono ?_
              rintro e W' ⟨rfl, rfl⟩
              exact ⟨_, rfl, Below.refl _ _, rfl⟩
            refine ⟨fun ρ W ⟨hcst, hglb, hfun⟩ hX hp ho => ?_, ?_⟩ -- 3: slot 50 := Op.unOp UnOp.not 4 t49
            · obtain ⟨p49, -⟩ := hp
              change ρ (.tmp 49) = _ at p49
              refine turn_plain (ok_is ?_ rfl)
              simp only [execOp, p49]; go_simp; try exact rfl
            refine ⟨fun ρ W ⟨hcst, hglb, hfun⟩ hX hp ho => ?_, ?_⟩ -- 4: slot 51 := Op.move t50
            · obtain ⟨p50, -⟩ := hp
              change ρ (.tmp 50) = _ at p50
              refine turn_plain (ok_is ?_ rfl)
              simp only [execOp, p50]; go_simp; try exact rfl
            refine ⟨fun ρ W ⟨hcst, hglb, hfun⟩ hX hp ho => ?_, ?_⟩ -- 5: slot 52 := Op.move t2   [guarded: some (4, true)]
            · obtain ⟨p51, -⟩ := hp
              change ρ (.tmp 51) = _ at p51
              obtain ⟨o2, -⟩ := ho
              change ρ (.tmp 2) = _ at o2
              refine turn_yes p51 (ok_is ?_ rfl)
              simp only [execOp, o2]; go_simp; try exact rfl
            refine ⟨fun ρ W ⟨hcst, hglb, hfun⟩ hX hp ho => ?_, ?_⟩ -- 6: slot 53 := Op.move t10   [guarded: some (4, true)]
            · obtain ⟨p51, -⟩ := hp
              change ρ (.tmp 51) = _ at p51
              obtain ⟨o10, -⟩ := ho
              change ρ (.tmp 10) = _ at o10
              refine turn_yes p51 (ok_is ?_ rfl)
              simp only [execOp, o10]; go_simp; try exact rfl
            refine ⟨fun ρ W ⟨hcst, hglb, hfun⟩ hX hp ho => ?_, ?_⟩ -- 7: slot 54 := Op.indexAddr 22 t52 t53   [guarded: some (4, true)]
            · obtain ⟨p52, p53, p51, -⟩ := hp
              change ρ (.tmp 52) = _ at p52
              change ρ (.tmp 53) = _ at p53
              change ρ (.tmp 51) = _ at p51
              refine turn_yes p51 (ok_is ?_ rfl)
              simp only [execOp, p52, p53]; go_simp; try exact rfl
            refine ⟨fun ρ W ⟨hcst, hglb, hfun⟩ hX hp ho => ?_, ?_⟩ -- 8: slot 55 := Op.load 54 t54   [guarded: some (4, true)]
            · obtain ⟨p54, p51, -⟩ := hp
              change ρ (.tmp 54) = _ at p54
              change ρ (.tmp 51) = _ at p51
              have q := (((Below.refl _ _).drew.trans hX).cell (p := ⟨b4, o4 + k, none⟩) hlt4).trans hcx
              refine turn_yes p51 (ok_is ?_ rfl)
              simp only [execOp, p54]; go_simp; try exact rfl
            refine ⟨fun ρ W ⟨hcst, hglb, hfun⟩ hX hp ho => ?_, ?_⟩ -- 9: slot 56 := Op.move t3   [guarded: some (4, true)]
            · obtain ⟨p51, -⟩ := hp
              change ρ (.tmp 51) = _ at p51
              obtain ⟨o3, -⟩ := ho
              change ρ (.tmp 3) = _ at o3
              refine turn_yes p51 (ok_is ?_ rfl)
              simp only [execOp, o3]; go_simp; try exact rfl
            refine ⟨fun ρ W ⟨hcst, hglb, hfun⟩ hX hp ho => ?_, ?_⟩ -- 10: slot 57 := Op.move t10   [guarded: some (4, true)]
            · obtain ⟨p51, -⟩ := hp
              change ρ (.tmp 51) = _ at p51
              obtain ⟨o10, -⟩ := ho
              change ρ (.tmp 10) = _ at o10
              refine turn_yes p51 (ok_is ?_ rfl)
              simp only [execOp, o10]; go_simp; try exact rfl
            refine ⟨fun ρ W ⟨hcst, hglb, hfun⟩ hX hp ho => ?_, ?_⟩ -- 11: slot 58 := Op.indexAddr 22 t56 t57   [guarded: some (4, true)]
            · obtain ⟨p56, p57, p51, -⟩ := hp
              change ρ (.tmp 56) = _ at p56
              change ρ (.tmp 57) = _ at p57
              change ρ (.tmp 51) = _ at p51
              refine turn_yes p51 (ok_is ?_ rfl)
              simp only [execOp, p56, p57]; go_simp; try exact rfl
            refine ⟨fun ρ W ⟨hcst, hglb, hfun⟩ hX hp ho => ?_, ?_⟩ -- 12: slot 59 := Op.load 54 t58   [guarded: some (4, true)]
            · obtain ⟨p58, p51, -⟩ := hp
              change ρ (.tmp 58) = _ at p58
              change ρ (.tmp 51) = _ at p51
              have q := (((Below.refl _ _).drew.trans hX).cell (p := ⟨b5, o5 + k, none⟩) hlt5).trans hcy
              refine turn_yes p51 (ok_is ?_ rfl)
              simp only [execOp, p58]; go_simp; try exact rfl
            refine ⟨fun ρ W ⟨hcst, hglb, hfun⟩ hX hp ho => ?_, ?_⟩ -- 13: slot 60 := Op.call { value (Operand.func 36), args := #[t55, t59], argTypes := #[54, 54] }   [guarded
            · obtain ⟨p55, p59, p51, -⟩ := hp
              change ρ (.tmp 55) = _ at p55
              change ρ (.tmp 59) = _ at p59
              change ρ (.tmp 51) = _ at p51
              have hW := (Below.refl _ _).drew.trans hX
              refine turn_yes p51 ?_
              have ce := @enter_of Tryd.prog 36 _ Tryd.func36 (by kernel_rfl) (by kernel_rfl)
              refine ok_call (op_call2 hfun ce (by exact rfl) p55 p59) ?_
              refine (QS.out W hW).mono ?_
              rintro e W' ⟨rfl, bel⟩
              exact ⟨_, rfl, bel, rfl⟩
            refine ⟨fun ρ W ⟨hcst, hglb, hfun⟩ hX hp ho => ?_, ?_⟩ -- 14: slot 61 := Op.unOp UnOp.not 4 t60   [guarded: some (4, true)]
            · obtain ⟨p60, p51, -⟩ := hp
              change ρ (.tmp 60) = _ at p60
              change ρ (.tmp 51) = _ at p51
              refine turn_yes p51 (ok_is ?_ rfl)
              simp only [execOp, p60]; go_simp; try exact rfl
            refine ⟨fun ρ W ⟨hcst, hglb, hfun⟩ hX hp ho => ?_, ?_⟩ -- 15: slot 62 := Op.pick t51 t61 (const (Value.bool false))
            · obtain ⟨p51, p61, -⟩ := hp
              change ρ (.tmp 51) = _ at p51
              change ρ (.tmp 61) = _ at p61
              refine turn_plain (ok_is ?_ rfl)
              simp only [execOp, hcst, p51, p61]; go_simp; try exact rfl
            exact trivial
          case find =>
            rintro v W hX ⟨f0, f1, f2, f3, f4, f5, f6, f7, f8, f9, f10, f11, f12, f13, f14, f15, -⟩
            simp only [is] at f0 f1 f2 f3 f4 f5 f6 f7 f8 f9 f10 f11 f12 f13 f14 f15
            simp only [putAll, Act.put, List.setIfInBounds_toArray, List.set_cons_succ, List.set_cons_zero, f0, f1, f2, f3, f4, f5, f6, f7, f8, f9, f10, f11, f12, f13, f14, f15]
            clear f0 f1 f2 f3 f4 f5 f6 f7 f8 f9 f10 f11 f12 f13 f14 f15
            go_wp2_with fail
            refine ⟨⟨k + 1, by omega, by simp, B2.out.trans (hX.mono B2.out.size), fun i hi => ?_⟩, by simp [intOf]; omega⟩
            rcases Nat.lt_or_ge i k with h | h
            · exact AG.out i h
            · obtain rfl : i = k := by omega
              exact .inr (of_decide_eq_true HS.out)

        | false =>
          go_upto_region 6 with fail
          refine wp_region_below (is ?e0 :: is ?e1 :: is (.bool false) :: is ?e3 :: is ?e4 :: is ?e5 :: is ?e6 :: is ?e7 :: is ?e8 :: is ?e9 :: is ?e10 :: is ?e11 :: is ?e12 :: is (.bool false) :: is ?e14 :: is ?e15 :: [])
            [⟨[], [1], none⟩, ⟨[], [10], none⟩, ⟨[(47, 0), (48, 1)], [], none⟩, ⟨[(49, 2)], [], none⟩, ⟨[(50, 3)], [], none⟩, ⟨[(51, 4)], [2], some (51, true)⟩, ⟨[(51, 4)], [10], some (51, true)⟩, ⟨[(52, 5), (53, 6), (51, 4)], [], some (51, true)⟩, ⟨[(54, 7), (51, 4)], [], some (51, true)⟩, ⟨[(51, 4)], [3], some (51, true)⟩, ⟨[(51, 4)], [10], some (51, true)⟩, ⟨[(56, 9), (57, 10), (51, 4)], [], some (51, true)⟩, ⟨[(58, 11), (51, 4)], [], some (51, true)⟩, ⟨[(55, 8), (59, 12), (51, 4)], [], some (51, true)⟩, ⟨[(60, 13), (51, 4)], [], some (51, true)⟩, ⟨[(51, 4), (61, 14)], [], none⟩] (by kernel_rfl) (by kernel_rfl) (by kernel_rfl) (by kernel_rfl) (by kernel_rfl) ?monoe ?stepse ?fine
          case monoe => exact ⟨mono_eq _, mono_eq _, mono_eq _, mono_eq _, mono_eq _, mono_eq _, mono_eq _, mono_eq _, mono_eq _, mono_eq _, mono_eq _, mono_eq _, mono_eq _, mono_eq _, mono_eq _, mono_eq _, trivial⟩
          case stepse =>
            refine ⟨fun ρ W ⟨hcst, hglb, hfun⟩ hX hp ho => ?_, ?_⟩ -- 0: slot 47 := Op.move t1
            · obtain ⟨o1, -⟩ := ho
              change ρ (.tmp 1) = _ at o1
              refine turn_plain (ok_is ?_ rfl)
              simp only [execOp, o1]; go_simp; try exact rfl
            refine ⟨fun ρ W ⟨hcst, hglb, hfun⟩ hX hp ho => ?_, ?_⟩ -- 1: slot 48 := Op.move t10
            · obtain ⟨o10, -⟩ := ho
              change ρ (.tmp 10) = _ at o10
              refine turn_plain (ok_is ?_ rfl)
              simp only [execOp, o10]; go_simp; try exact rfl
            refine ⟨fun ρ W ⟨hcst, hglb, hfun⟩ hX hp ho => ?_, ?_⟩ -- 2: slot 49 := Op.call { value (Operand.func 32), args := #[t47, t48], argTypes := #[26, 3] }
            · obtain ⟨p47, p48, -⟩ := hp
              change ρ (.tmp 47) = _ at p47
              change ρ (.tmp 48) = _ at p48
              have hW := (Below.refl _ _).drew.trans hX
              refine turn_plain ?_
              have ce := @enter_of Tryd.prog 32 _ Tryd.func32 (by kernel_rfl) (by kernel_rfl)
              refine ok_call (op_call2 hfun ce (by exact rfl) p47 p48) ?_
              refine (QH.out W hW).mono ?_
              rintro e W' ⟨rfl, rfl⟩
              exact ⟨_, rfl, Below.refl _ _, rfl⟩
            refine ⟨fun ρ W ⟨hcst, hglb, hfun⟩ hX hp ho => ?_, ?_⟩ -- 3: slot 50 := Op.unOp UnOp.not 4 t49
            · obtain ⟨p49, -⟩ := hp
              change ρ (.tmp 49) = _ at p49
              refine turn_plain (ok_is ?_ rfl)
              simp only [execOp, p49]; go_simp; try exact rfl
            refine ⟨fun ρ W ⟨hcst, hglb, hfun⟩ hX hp ho => ?_, ?_⟩ -- 4: slot 51 := Op.move t50
            · obtain ⟨p50, -⟩ := hp
              change ρ (.tmp 50) = _ at p50
              refine turn_plain (ok_is ?_ rfl)
              simp only [execOp, p50]; go_simp; try exact rfl
            refine ⟨fun ρ W ⟨hcst, hglb, hfun⟩ hX hp ho => ?_, ?_⟩ -- 5: slot 52 := Op.move t2   [guarded: some (4, true)]
            · obtain ⟨p51, -⟩ := hp
              change ρ (.tmp 51) = _ at p51
              obtain ⟨o2, -⟩ := ho
              change ρ (.tmp 2) = _ at o2
              refine turn_yes p51 (ok_is ?_ rfl)
              simp only [execOp, o2]; go_simp; try exact rfl
            refine ⟨fun ρ W ⟨hcst, hglb, hfun⟩ hX hp ho => ?_, ?_⟩ -- 6: slot 53 := Op.move t10   [guarded: some (4, true)]
            · obtain ⟨p51, -⟩ := hp
              change ρ (.tmp 51) = _ at p51
              obtain ⟨o10, -⟩ := ho
              change ρ (.tmp 10) = _ at o10
              refine turn_yes p51 (ok_is ?_ rfl)
              simp only [execOp, o10]; go_simp; try exact rfl
            refine ⟨fun ρ W ⟨hcst, hglb, hfun⟩ hX hp ho => ?_, ?_⟩ -- 7: slot 54 := Op.indexAddr 22 t52 t53   [guarded: some (4, true)]
            · obtain ⟨p52, p53, p51, -⟩ := hp
              change ρ (.tmp 52) = _ at p52
              change ρ (.tmp 53) = _ at p53
              change ρ (.tmp 51) = _ at p51
              refine turn_yes p51 (ok_is ?_ rfl)
              simp only [execOp, p52, p53]; go_simp; try exact rfl
            refine ⟨fun ρ W ⟨hcst, hglb, hfun⟩ hX hp ho => ?_, ?_⟩ -- 8: slot 55 := Op.load 54 t54   [guarded: some (4, true)]
            · obtain ⟨p54, p51, -⟩ := hp
              change ρ (.tmp 54) = _ at p54
              change ρ (.tmp 51) = _ at p51
              have q := (((Below.refl _ _).drew.trans hX).cell (p := ⟨b4, o4 + k, none⟩) hlt4).trans hcx
              refine turn_yes p51 (ok_is ?_ rfl)
              simp only [execOp, p54]; go_simp; try exact rfl
            refine ⟨fun ρ W ⟨hcst, hglb, hfun⟩ hX hp ho => ?_, ?_⟩ -- 9: slot 56 := Op.move t3   [guarded: some (4, true)]
            · obtain ⟨p51, -⟩ := hp
              change ρ (.tmp 51) = _ at p51
              obtain ⟨o3, -⟩ := ho
              change ρ (.tmp 3) = _ at o3
              refine turn_yes p51 (ok_is ?_ rfl)
              simp only [execOp, o3]; go_simp; try exact rfl
            refine ⟨fun ρ W ⟨hcst, hglb, hfun⟩ hX hp ho => ?_, ?_⟩ -- 10: slot 57 := Op.move t10   [guarded: some (4, true)]
            · obtain ⟨p51, -⟩ := hp
              change ρ (.tmp 51) = _ at p51
              obtain ⟨o10, -⟩ := ho
              change ρ (.tmp 10) = _ at o10
              refine turn_yes p51 (ok_is ?_ rfl)
              simp only [execOp, o10]; go_simp; try exact rfl
            refine ⟨fun ρ W ⟨hcst, hglb, hfun⟩ hX hp ho => ?_, ?_⟩ -- 11: slot 58 := Op.indexAddr 22 t56 t57   [guarded: some (4, true)]
            · obtain ⟨p56, p57, p51, -⟩ := hp
              change ρ (.tmp 56) = _ at p56
              change ρ (.tmp 57) = _ at p57
              change ρ (.tmp 51) = _ at p51
              refine turn_yes p51 (ok_is ?_ rfl)
              simp only [execOp, p56, p57]; go_simp; try exact rfl
            refine ⟨fun ρ W ⟨hcst, hglb, hfun⟩ hX hp ho => ?_, ?_⟩ -- 12: slot 59 := Op.load 54 t58   [guarded: some (4, true)]
            · obtain ⟨p58, p51, -⟩ := hp
              change ρ (.tmp 58) = _ at p58
              change ρ (.tmp 51) = _ at p51
              have q := (((Below.refl _ _).drew.trans hX).cell (p := ⟨b5, o5 + k, none⟩) hlt5).trans hcy
              refine turn_yes p51 (ok_is ?_ rfl)
              simp only [execOp, p58]; go_simp; try exact rfl
            refine ⟨fun ρ W ⟨hcst, hglb, hfun⟩ hX hp ho => ?_, ?_⟩ -- 13: slot 60 := Op.call { value (Operand.func 36), args := #[t55, t59], argTypes := #[54, 54] }   [guarded
            · obtain ⟨p55, p59, p51, -⟩ := hp
              change ρ (.tmp 55) = _ at p55
              change ρ (.tmp 59) = _ at p59
              change ρ (.tmp 51) = _ at p51
              have hW := (Below.refl _ _).drew.trans hX
              refine turn_yes p51 ?_
              have ce := @enter_of Tryd.prog 36 _ Tryd.func36 (by kernel_rfl) (by kernel_rfl)
              refine ok_call (op_call2 hfun ce (by exact rfl) p55 p59) ?_
              refine (QS.out W hW).mono ?_
              rintro e W' ⟨rfl, bel⟩
              exact ⟨_, rfl, bel, rfl⟩
            refine ⟨fun ρ W ⟨hcst, hglb, hfun⟩ hX hp ho => ?_, ?_⟩ -- 14: slot 61 := Op.unOp UnOp.not 4 t60   [guarded: some (4, true)]
            · obtain ⟨p60, p51, -⟩ := hp
              change ρ (.tmp 60) = _ at p60
              change ρ (.tmp 51) = _ at p51
              refine turn_yes p51 (ok_is ?_ rfl)
              simp only [execOp, p60]; go_simp; try exact rfl
            refine ⟨fun ρ W ⟨hcst, hglb, hfun⟩ hX hp ho => ?_, ?_⟩ -- 15: slot 62 := Op.pick t51 t61 (const (Value.bool false))
            · obtain ⟨p51, p61, -⟩ := hp
              change ρ (.tmp 51) = _ at p51
              change ρ (.tmp 61) = _ at p61
              refine turn_plain (ok_is ?_ rfl)
              simp only [execOp, hcst, p51, p61]; go_simp; try exact rfl
            exact trivial
          case fine =>
            rintro v W hX ⟨f0, f1, f2, f3, f4, f5, f6, f7, f8, f9, f10, f11, f12, f13, f14, f15, -⟩
            simp only [is] at f0 f1 f2 f3 f4 f5 f6 f7 f8 f9 f10 f11 f12 f13 f14 f15
            simp only [putAll, Act.put, List.setIfInBounds_toArray, List.set_cons_succ, List.set_cons_zero, f0, f1, f2, f3, f4, f5, f6, f7, f8, f9, f10, f11, f12, f13, f14, f15]
            clear f0 f1 f2 f3 f4 f5 f6 f7 f8 f9 f10 f11 f12 f13 f14 f15
            replace HB := Lib.hid (BW.out.trans (hX.mono (by rw [← HG.out]; exact BW.out.size)))
            replace H2 := Lib.hid (H2.out.below (B2.out.trans (hX.mono B2.out.size)) (by have := BS.out; have h2 := HG.out; simp at this; omega))
            have r0 : W.cell? ⟨g + 1, 0, none⟩ = some (.slice none 0 0) := H2.out.cell 0
            have r1 : W.cell? ⟨g + 1, 1, none⟩ = some (.slice none 0 0) := H2.out.cell 1
            have z0 := H2.out.frozen 0
            have z1 := H2.out.frozen 1
            go_wp2_with fail
            exact bodyPost_ret (v := .tuple #[.agg #[.slice none 0 0, .slice none 0 0], .iface 62 (.int .i64 1)]) (results_cell_two Tryd.results14 _ _ (g + 1) 32 #[.slice none 0 0, .slice none 0 0] _ _ _ rfl rfl (V1 _ H2.out) tb_under rfl tb_size) rfl (.inl ⟨fun h => (by rcases h.2 k (by rw [HL4.out]; exact hkn) with h3 | h3; (rw [HHAS.out] at h3; cases h3); exact of_decide_eq_false HS.out h3), rfl, by rw [HG.out]; exact VB _ HB.out⟩)

    · obtain rfl : n4 = k := by omega
      have ARG := Lib.hid (show MvArg own P came rows other from ⟨⟨HX.out, by rw [HDM.out, HL4.out]; exact HGA.out, by rw [HL4.out]; exact HPL.out⟩, fun i hi => AG.out i (by rw [← HL4.out]; exact hi)⟩)
      obtain ⟨cl, hcl, hclt, hasc⟩ := PlB.nats HPL.out
      have HCL := Lib.hid hcl
      have CLT := Lib.hid hclt
      have ASC := Lib.hid hasc
      have LEN := Lib.hid (show cl.length = n3 from by rw [← HL3.out, hcl, List.length_map])
      have hn3 : n3 ≤ n4 := by rw [← LEN.out]; exact asc_length hasc hclt
      have HC := Lib.hid (show ∀ i ∈ came, 0 ≤ i ∧ i < (n4 : Int) from by
        intro i hi
        rw [hcl] at hi
        obtain ⟨x, hx, rfl⟩ := List.mem_map.1 hi
        have := hclt x hx
        omega)
      clear hcl hclt hasc
      have G4 := Lib.hid (show VE.good d rows from fun r hr => by
        obtain ⟨i, hi, rfl⟩ := List.mem_iff_getElem.1 hr
        have := HD4.out i (by rw [← HL4.out]; exact hi)
        rw [List.getD_eq_getElem?_getD, List.getElem?_eq_getElem hi] at this
        exact this)
      have G5 := Lib.hid (show VE.good d other from fun r hr => by
        obtain ⟨i, hi, rfl⟩ := List.mem_iff_getElem.1 hr
        have := HD5.out i (by rw [← HL5.out]; exact hi)
        rw [List.getD_eq_getElem?_getD, List.getElem?_eq_getElem hi] at this
        exact this)
      have DM5 := Lib.hid (show dimOf other = d from by
        rcases Nat.eq_zero_or_pos n4 with h0 | h0
        · rw [dimOf_nil (by rw [HL5.out]; exact h0), ← HDM.out, dimOf_nil (by rw [HL4.out]; exact h0)]
        · exact HD5.out 0 h0)
      have PK4 := Lib.hid (VE.acc_length (picked came rows) (fun r h => G4.out r (picked_mem (by rw [HL4.out]; exact HC.out) h)))
      have PK5 := Lib.hid (VE.acc_length (picked came other) (fun r h => G5.out r (picked_mem (by rw [HL5.out]; exact HC.out) h)))
      have QS1 := Lib.hid (isum_own A4 n4 c4 vs4 rows A3 n3 c3 came d wr HL4.out N64 (HR4.out.later BW.out (by rw [HG.out]; exact Nat.le_refl _)) D32 HDM.out G4.out U3.out HL3.out (by omega) (HA.out.later BW.out (by rw [HG.out]; exact Nat.le_refl _)) HC.out)
      have QS2 := Lib.hid (fun W (hW : Below wr.heap.size wr W) => isum_own A5 n4 c5 vs5 other A3 n3 c3 came d W HL5.out N64 (HR5.out.later (BW.out.trans (hW.mono (by rw [← HG.out]; exact BW.out.size))) (by rw [HG.out]; exact Nat.le_refl _)) D32 DM5.out G5.out U4.out HL3.out (by omega) (HA.out.later (BW.out.trans (hW.mono (by rw [← HG.out]; exact BW.out.size))) (by rw [HG.out]; exact Nat.le_refl _)) HC.out)
      have HSM := Lib.hid (show MvSum came rows other ↔ VE.acc d (picked came rows) = VE.acc d (picked came other) from by unfold MvSum; rw [HDM.out])
      have SL1 := Lib.hid (VE.acc_lt (n := d) (picked came rows))
      generalize VE.acc d (picked came rows) = S1 at *
      generalize VE.acc d (picked came other) = S2 at *
      unfold EndS RowE at QS1 QS2
      dsimp only at QS1 QS2
      rw [PK4.out] at QS1
      rw [PK5.out] at QS2
      go_wp2_with fail
      with_reducible refine QS1.out.mono ?_
      clear QS1
      rintro e w5 ⟨As1, cs1, rfl, hs1, bs1⟩
      replace QS2 := Lib.hid (QS2.out w5 bs1)
      have HS1 := Lib.hid hs1
      have BS1 := Lib.hid bs1
      clear hs1 bs1
      go_wp2_with fail
      with_reducible refine QS2.out.mono ?_
      clear QS2
      rintro e w6 ⟨As2, cs2, rfl, hs2, bs2⟩
      have QV := Lib.hid (vsame_any As1 d cs1 S1 As2 d cs2 S2 w6 PK4.out (by omega) (HS1.out.later bs2 (Nat.le_refl _)) PK5.out (by omega) hs2)
      have B6 := Lib.hid (B2.out.trans ((BS1.out.trans (bs2.mono BS1.out.size)).mono B2.out.size))
      clear hs2 bs2 BS1 HS1 B2
      obtain ⟨same, hsame⟩ : ∃ b, decide (S1 = S2) = b := ⟨_, rfl⟩
      rw [hsame] at QV
      have HS := Lib.hid hsame
      clear hsame
      go_wp2_with fail
      with_reducible refine QV.out.mono ?_
      clear QV
      rintro e w7 ⟨rfl, b7⟩
      have B7 := Lib.hid (B6.out.trans (b7.mono B6.out.size))
      clear b7 B6
      replace BW := Lib.hid (HB.out.trans (B7.out.mono (by rw [← HG.out]; exact HB.out.size)))
      have GW1 := Lib.hid (show g + 1 < w1.heap.size from by have := BS.out; have h2 := HG.out; simp at this; omega)
      cases same with
      | false =>
        replace HB := BW
        replace H2 := Lib.hid (H2.out.below B7.out GW1.out)
        have r0 : w7.cell? ⟨g + 1, 0, none⟩ = some (.slice none 0 0) := H2.out.cell 0
        have r1 : w7.cell? ⟨g + 1, 1, none⟩ = some (.slice none 0 0) := H2.out.cell 1
        have z0 := H2.out.frozen 0
        have z1 := H2.out.frozen 1
        go_wp2_with fail
        exact bodyPost_ret (v := .tuple #[.agg #[.slice none 0 0, .slice none 0 0], .iface 62 (.int .i64 4)]) (results_cell_two Tryd.results14 _ _ (g + 1) 32 #[.slice none 0 0, .slice none 0 0] _ _ _ rfl rfl (V1 _ H2.out) tb_under rfl tb_size) rfl (.inr <| .inl ⟨ARG.out, fun h => (of_decide_eq_false HS.out (HSM.out.1 h)), rfl, by rw [HG.out]; exact VB _ HB.out⟩)
      | true =>
      have MVS := Lib.hid (show MvSum came rows other from HSM.out.2 (of_decide_eq_true HS.out))
      have QK := Lib.hid (copied_any A n4 c vs own A2 n4 c2 vs2 P w7 HL.out N64 (HR.out.later BW.out (by rw [HG.out]; exact Nat.le_refl _)) HL2.out N64 (HR2.out.later BW.out (by rw [HG.out]; exact Nat.le_refl _)) (fun i hi => by rw [SH.out.od i (by rw [HL4.out]; exact hi)]; exact D32) (fun i hi => by rw [SH.out.pl i (by rw [HL4.out]; exact hi), HL4.out]; omega) (fun i j hi hj => by
        have h1 := SH.out.pl i (by rw [HL4.out]; exact hi)
        have h2 := SH.out.pd i (i + 1 + j) (by omega) (by rw [HL4.out] at h1 ⊢; omega)
        unfold VE.pairOf at h2
        rw [show i + 1 + j - i - 1 = j by omega] at h2
        rw [h2]; exact D32))
      replace H1 := Lib.hid (H1.out.below B7.out (by have := GW1.out; omega))
      replace H2 := Lib.hid (H2.out.below B7.out GW1.out)
      have x0 : w7.cell? ⟨g, 0, none⟩ = some (.slice A n4 c) := H1.out.cell 0
      have x1 : w7.cell? ⟨g, 1, none⟩ = some (.slice A2 n4 c2) := H1.out.cell 1
      clear HSM SL1 HS AG
      go_wp2_with fail
      with_reducible refine QK.out.mono ?_
      clear QK x0 x1
      rintro e w8 ⟨D, rfl, hf, ht, hty, b8⟩
      rw [HL.out, HL2.out]
      have LB := Lib.hid (fun (i k : Nat) (e : blk (D (.hh i)).A = some k) => ((hf.own (.hh i)).lt k e).2)
      have GW7 := Lib.hid (show g + 1 < w7.heap.size from by have h1 := GW1.out; have h2 := B7.out.size; omega)
      have HX8 := Lib.hid (Holds.new w8 32 #[.slice (D .oh).A n4 (D .oh).c, .slice (D .ph).A n4 (D .ph).c] w8.heap.size rfl)
      have HF := Lib.hid (hf.later ((Below.refl w8.heap.size w8).alloc (Nat.le_refl _) (.cells #[.slice (D .oh).A n4 (D .oh).c, .slice (D .ph).A n4 (D .ph).c] 32)))
      have HT := Lib.hid ht
      have HY := Lib.hid hty
      have B8 := Lib.hid (b8.alloc b8.size (.cells #[.slice (D .oh).A n4 (D .oh).c, .slice (D .ph).A n4 (D .ph).c] 32))
      have Z8 := Lib.hid b8.size
      clear hf ht hty b8
      by_cases h0 : n3 = 0
      · have d0 : ((n3 : Int) == 0) = true := by simp [h0]
        have N0 := Lib.hid h0
        clear h0
        replace H2 := Lib.hid (H2.out.below B8.out GW7.out)
        have q0 := HX8.out.cell 0
        have q1 := HX8.out.cell 1
        simp at q0 q1
        have r0 := H2.out.cell 0
        have r1 := H2.out.cell 1
        simp at r0 r1
        have z0 := H2.out.frozen 0
        have z1 := H2.out.frozen 1
        go_wp2_with fail
        refine bodyPost_ret (v := .tuple #[.agg #[.slice (D .oh).A n4 (D .oh).c, .slice (D .ph).A n4 (D .ph).c], .nilIface]) (results_cell_two Tryd.results14 _ _ (g + 1) 32 #[.slice (D .oh).A n4 (D .oh).c, .slice (D .ph).A n4 (D .ph).c] _ _ _ rfl rfl ((H2.out.set 0 (.slice (D .oh).A n4 (D .oh).c)).set 1 (.slice (D .ph).A n4 (D .ph).c)) tb_under rfl tb_size) rfl (.inr <| .inr ⟨ARG.out, MVS.out, D, by rw [HL.out, mvP_length, HL2.out], ?_, ?_, HY.out, ?_⟩)
        · have h1 := (HF.out.low (g := g + 1) GW7.out 0 (.slice (D .oh).A n4 (D .oh).c)).low (g := g + 1) GW7.out 1 (.slice (D .ph).A n4 (D .ph).c)
          exact ⟨fun p => ownsRow_le_ (h1.own p) (by rw [HG.out]; have := GW7.out; omega), h1.dist⟩
        · rw [HL3.out, N0.out]; exact HT.out
        · rw [HG.out]
          exact ((BW.out.trans (B8.out.mono (by have := GW7.out; omega))).setCell (p := ⟨g + 1, 0, none⟩) (by show g ≤ g + 1; omega) _).setCell (p := ⟨g + 1, 1, none⟩) (by show g ≤ g + 1; omega) _
      · have d0 : ((n3 : Int) == 0) = false := by simp [h0]
        have hn1 : 1 ≤ n3 := by omega
        clear h0
        obtain ⟨f, hf0⟩ : ∃ f, cl.getD 0 0 = f := ⟨_, rfl⟩
        have HF0 := Lib.hid hf0
        have hfn : f < n4 := by rw [← hf0]; exact getD_ltN CLT.out (by rw [LEN.out]; omega)
        clear hf0
        go_upto_region 18 with fail
        generalize hw9 : w8.alloc (.cells #[.slice (D .oh).A n4 (D .oh).c, .slice (D .ph).A n4 (D .ph).c] 32) = w9 at *
        have QL := Lib.hid (show w8.heap.size < w9.heap.size from by rw [← hw9]; simp)
        generalize hq : w8.heap.size = q at *
        clear hw9 hq
        have GC := Lib.hid (fun i (hi : i < n3) W (hW : Below g w W) => (HA.out.later hW (by rw [HG.out]; exact Nat.le_refl _)).int i (by rw [HL3.out]; exact hi))
        have BW9 := Lib.hid (BW.out.trans (B8.out.mono (by have := GW7.out; omega)))
        obtain ⟨b3, o3, rfl, hcf⟩ := GC.out 0 (by omega) w9 BW9.out
        have hcf0 : w9.cell? ⟨b3, o3, none⟩ = some (.int .i64 (f : Int)) := by
          rw [Nat.add_zero] at hcf; rw [hcf, HCL.out, cast_getD, HF0.out]
        clear hcf
        obtain ⟨N1, hN1⟩ : ∃ N1, n3 = N1 + 1 := ⟨n3 - 1, by omega⟩
        go_upto_region 21 with fail
        go_cut [102, 103, 104] from 101 to 104 (fun v l j wx => ∃ o', v = .slice (some ⟨b3, o', none⟩) N1 (c3 - 1) ∧ (0 < N1 → o' = o3 + 1) ∧ l = .int .i64 (N1 : Nat) ∧ j = .int .i64 0 ∧ wx = w9)
        case first =>
          subst hN1
          have e1 : N1 + 1 - 1 = N1 := by omega
          by_cases hc1 : c3 = 1
          · go_wp2_with fail
            go_meet
            refine ⟨o3, ?_⟩
            simp
            omega
          · go_wp2_with fail
            go_meet
            exact ⟨o3 + 1, by simp, fun _ => rfl, by simp, rfl, rfl⟩
        case rest =>
        obtain ⟨o4, rfl, ho4, rfl, rfl, rfl⟩ := hcut
        have HO4 := Lib.hid ho4
        have HN1 := Lib.hid hN1
        have h1 : N1 ≤ 63 := by omega
        clear ho4 hcf0 hc3 h3 hn1 d0 hn3
        subst hN1
        go_wp2_with fail
        go_loopw [104] (fun j wr => ∃ (m : Nat) (D : Pc → Pie), m ≤ N1 ∧ j = .int .i64 m ∧ Fam wr w7.heap.size D ∧ Tab D own (mvP cl P rows other m) ∧ Ty D ∧ (∀ (i k : Nat), blk (D (.hh i)).A = some k → k < q) ∧ Holds wr q 32 #[.slice (D .oh).A n4 (D .oh).c, .slice (D .ph).A n4 (D .ph).c] ∧ Below w7.heap.size w7 wr) (fun j _ => (N1 - intOf j).toNat)
        case atStart => exact ⟨0, D, by omega, rfl, HF.out, HT.out, HY.out, LB.out, HX8.out, B8.out⟩
        case round =>
          clear HF HT HY LB HX8 B8 BW9
          obtain ⟨m, D, hm, rfl, hf, ht, hty, hlb, hxq, hb⟩ := hrel
          have HF := Lib.hid hf
          have HT := Lib.hid ht
          have HY := Lib.hid hty
          have LB := Lib.hid hlb
          have HX8 := Lib.hid hxq
          have B8 := Lib.hid hb
          have BWr := Lib.hid (BW.out.trans (hb.mono (by have := GW7.out; omega)))
          clear hf ht hty hlb hxq hb
          by_cases hmn : m < N1
          · obtain ⟨i, hi0⟩ : ∃ i, cl.getD (m + 1) 0 = i := ⟨_, rfl⟩
            have HI := Lib.hid hi0
            have hin : i < n4 := by rw [← hi0]; exact getD_ltN CLT.out (by rw [LEN.out]; omega)
            have hfi : f < i := by rw [← hi0, ← HF0.out]; exact asc_lt ASC.out (by omega) (by rw [LEN.out]; omega)
            clear hi0
            have hcl : wr.cell? ⟨b3, o4 + m, none⟩ = some (.int .i64 (i : Int)) := by
              obtain ⟨b, o, e, h⟩ := GC.out (m + 1) (by omega) wr BWr.out
              cases e
              rw [HO4.out (by omega), show o3 + 1 + m = o3 + (m + 1) by omega, h, HCL.out, cast_getD, HI.out]
            obtain ⟨b4, p4, Ax, cx, hA4, hcx, hax, _⟩ := HR4.out.getw (w' := wr) i (by rw [HL4.out]; exact hin) (by rw [HG.out]; exact BWr.out)
            obtain ⟨b5, p5, Ay, cy, hA5, hcy, hay, _⟩ := HR5.out.getw (w' := wr) i (by rw [HL5.out]; exact hin) (by rw [HG.out]; exact BWr.out)
            have hlt4 := lt_of_cell hcx
            have hlt5 := lt_of_cell hcy
            rw [HD4.out i hin] at hcx
            rw [HD5.out i hin] at hcy
            have HAX := Lib.hid hax
            have HAY := Lib.hid hay
            clear hax hay
            subst hA4 hA5
            have HLL := Lib.hid (show (VE.lin 4294967295 (other.getD i []) (rows.getD i [])).length = d from by rw [VE.lin_length, HD4.out i hin, HD5.out i hin, Nat.min_self])
            have HUL := Lib.hid (VE.lin_lt 4294967295 (other.getD i []) (rows.getD i []))
            have QSB := Lib.hid (fun W (hW : Below wr.heap.size wr W) => vsub_own Ay d cy (other.getD i []) Ax d cx (rows.getD i []) W (HD5.out i hin) (HD4.out i hin) (by omega) (by omega) (HAY.out.later (BWr.out.trans (hW.mono (by rw [← HG.out]; exact BWr.out.size))) (by rw [HG.out]; exact Nat.le_refl _)) (HAX.out.later (BWr.out.trans (hW.mono (by rw [← HG.out]; exact BWr.out.size))) (by rw [HG.out]; exact Nat.le_refl _)) (U4.out.get i) (U3.out.get i) D32 rfl)
            generalize hLM : VE.lin 4294967295 (other.getD i []) (rows.getD i []) = LM at *
            have HLM := Lib.hid hLM
            clear hLM
            unfold RowO at QSB
            go_upto_region 24 with fail
            refine wp_region_below (is ?f0 :: is ?f1 :: is ?f2 :: is ?f3 :: is ?f4 :: is ?f5 :: is ?f6 :: is ?f7 :: TupR wr.heap.size LM d :: TupR wr.heap.size LM d :: SliR wr.heap.size LM d :: is (.nilIface) :: SliR wr.heap.size LM d :: is ?f13 :: [])
              [⟨[], [3], none⟩, ⟨[], [17], none⟩, ⟨[(109, 0), (110, 1)], [], none⟩, ⟨[(111, 2)], [], none⟩, ⟨[], [2], none⟩, ⟨[], [17], none⟩, ⟨[(113, 4), (114, 5)], [], none⟩, ⟨[(115, 6)], [], none⟩, ⟨[(112, 3), (116, 7)], [], none⟩, ⟨[(117, 8)], [], none⟩, ⟨[(108, 9)], [], none⟩, ⟨[(108, 9)], [], none⟩, ⟨[(118, 10)], [], none⟩, ⟨[(119, 11)], [], none⟩] (by kernel_rfl) (by kernel_rfl) (by kernel_rfl) (by kernel_rfl) (by kernel_rfl) ?monof ?stepsf ?finf
            case monof => exact ⟨mono_eq _, mono_eq _, mono_eq _, mono_eq _, mono_eq _, mono_eq _, mono_eq _, mono_eq _, mono_tup _ _ _, mono_tup _ _ _, mono_sli _ _ _, mono_eq _, mono_sli _ _ _, mono_eq _, trivial⟩
            case stepsf =>
              refine ⟨fun ρ W ⟨hcst, hglb, hfun⟩ hX hp ho => ?_, ?_⟩ -- 0: slot 109 := Op.move t3
              · obtain ⟨o3, -⟩ := ho
                change ρ (.tmp 3) = _ at o3
                refine turn_plain (ok_is ?_ rfl)
                simp only [execOp, o3]; go_simp; try exact rfl
              refine ⟨fun ρ W ⟨hcst, hglb, hfun⟩ hX hp ho => ?_, ?_⟩ -- 1: slot 110 := Op.move t17
              · obtain ⟨o17, -⟩ := ho
                change ρ (.tmp 17) = _ at o17
                refine turn_plain (ok_is ?_ rfl)
                simp only [execOp, o17]; go_simp; try exact rfl
              refine ⟨fun ρ W ⟨hcst, hglb, hfun⟩ hX hp ho => ?_, ?_⟩ -- 2: slot 111 := Op.indexAddr 22 t109 t110
              · obtain ⟨p109, p110, -⟩ := hp
                change ρ (.tmp 109) = _ at p109
                change ρ (.tmp 110) = _ at p110
                refine turn_plain (ok_is ?_ rfl)
                simp only [execOp, p109, p110]; go_simp; try exact rfl
              refine ⟨fun ρ W ⟨hcst, hglb, hfun⟩ hX hp ho => ?_, ?_⟩ -- 3: slot 112 := Op.load 54 t111
              · obtain ⟨p111, -⟩ := hp
                change ρ (.tmp 111) = _ at p111
                have q := (((Below.refl _ _).drew.trans hX).cell (p := ⟨b5, p5 + i, none⟩) hlt5).trans hcy
                refine turn_plain (ok_is ?_ rfl)
                simp only [execOp, p111]; go_simp; try exact rfl
              refine ⟨fun ρ W ⟨hcst, hglb, hfun⟩ hX hp ho => ?_, ?_⟩ -- 4: slot 113 := Op.move t2
              · obtain ⟨o2, -⟩ := ho
                change ρ (.tmp 2) = _ at o2
                refine turn_plain (ok_is ?_ rfl)
                simp only [execOp, o2]; go_simp; try exact rfl
              refine ⟨fun ρ W ⟨hcst, hglb, hfun⟩ hX hp ho => ?_, ?_⟩ -- 5: slot 114 := Op.move t17
              · obtain ⟨o17, -⟩ := ho
                change ρ (.tmp 17) = _ at o17
                refine turn_plain (ok_is ?_ rfl)
                simp only [execOp, o17]; go_simp; try exact rfl
              refine ⟨fun ρ W ⟨hcst, hglb, hfun⟩ hX hp ho => ?_, ?_⟩ -- 6: slot 115 := Op.indexAddr 22 t113 t114
              · obtain ⟨p113, p114, -⟩ := hp
                change ρ (.tmp 113) = _ at p113
                change ρ (.tmp 114) = _ at p114
                refine turn_plain (ok_is ?_ rfl)
                simp only [execOp, p113, p114]; go_simp; try exact rfl
              refine ⟨fun ρ W ⟨hcst, hglb, hfun⟩ hX hp ho => ?_, ?_⟩ -- 7: slot 116 := Op.load 54 t115
              · obtain ⟨p115, -⟩ := hp
                change ρ (.tmp 115) = _ at p115
                have q := (((Below.refl _ _).drew.trans hX).cell (p := ⟨b4, p4 + i, none⟩) hlt4).trans hcx
                refine turn_plain (ok_is ?_ rfl)
                simp only [execOp, p115]; go_simp; try exact rfl
              refine ⟨fun ρ W ⟨hcst, hglb, hfun⟩ hX hp ho => ?_, ?_⟩ -- 8: slot 117 := Op.call { value (Operand.func 28), args := #[t112, t116], argTypes := #[54, 54] }
              · obtain ⟨p112, p116, -⟩ := hp
                change ρ (.tmp 112) = _ at p112
                change ρ (.tmp 116) = _ at p116
                have hW := (Below.refl _ _).drew.trans hX
                refine turn_plain ?_
                have ce := @enter_of Tryd.prog 28 _ Tryd.func28 (by kernel_rfl) (by kernel_rfl)
                refine ok_call (op_call2 hfun ce (by exact rfl) p112 p116) ?_
                refine (QSB.out W hW).mono ?_
                rintro e W' ⟨A_, c_, rfl, ho, bel⟩
                exact ⟨_, rfl, bel, A_, c_, by rw [HLL.out], (by rw [HLL.out] at ho; exact ownsRow_le_ ho hW.size)⟩
              refine ⟨fun ρ W ⟨hcst, hglb, hfun⟩ hX hp ho => ?_, ?_⟩ -- 9: slot 108 := Op.move t117
              · obtain ⟨p117, -⟩ := hp
                obtain ⟨A117, c117, p117, hat117⟩ := p117
                change ρ (.tmp 117) = _ at p117
                have hW := (Below.refl _ _).drew.trans hX
                refine turn_plain ?_
                refine ok_val (v := .tuple #[.slice A117 d c117, .nilIface]) (W' := W) (by simp only [execOp, p117]; go_simp) (Below.refl _ _) ⟨A117, c117, rfl, hat117⟩
              refine ⟨fun ρ W ⟨hcst, hglb, hfun⟩ hX hp ho => ?_, ?_⟩ -- 10: slot 118 := Op.extract t108 0
              · obtain ⟨p108, -⟩ := hp
                obtain ⟨A108, c108, p108, hat108⟩ := p108
                change ρ (.tmp 108) = _ at p108
                have hW := (Below.refl _ _).drew.trans hX
                refine turn_plain ?_
                refine ok_val (v := .slice A108 d c108) (W' := W) (by simp only [execOp, p108]; go_simp) (Below.refl _ _) ⟨A108, c108, rfl, hat108⟩
              refine ⟨fun ρ W ⟨hcst, hglb, hfun⟩ hX hp ho => ?_, ?_⟩ -- 11: slot 119 := Op.extract t108 1
              · obtain ⟨p108, -⟩ := hp
                obtain ⟨A108, c108, p108, hat108⟩ := p108
                change ρ (.tmp 108) = _ at p108
                have hW := (Below.refl _ _).drew.trans hX
                refine turn_plain ?_
                refine ok_val (v := .nilIface) (W' := W) (by simp only [execOp, p108]; go_simp) (Below.refl _ _) rfl
              refine ⟨fun ρ W ⟨hcst, hglb, hfun⟩ hX hp ho => ?_, ?_⟩ -- 12: slot 18 := Op.assign t118
              · obtain ⟨p118, -⟩ := hp
                obtain ⟨A118, c118, p118, hat118⟩ := p118
                change ρ (.tmp 118) = _ at p118
                have hW := (Below.refl _ _).drew.trans hX
                refine turn_plain ?_
                refine ok_val (v := .slice A118 d c118) (W' := W) (by simp only [execOp, p118]; go_simp) (Below.refl _ _) ⟨A118, c118, rfl, hat118⟩
              refine ⟨fun ρ W ⟨hcst, hglb, hfun⟩ hX hp ho => ?_, ?_⟩ -- 13: slot 19 := Op.assign t119
              · obtain ⟨p119, -⟩ := hp
                change ρ (.tmp 119) = _ at p119
                refine turn_plain (ok_is ?_ rfl)
                simp only [execOp, p119]; go_simp; try exact rfl
              exact trivial
            case finf =>
              rintro v wz hX ⟨f0, f1, f2, f3, f4, f5, f6, f7, f8, f9, f10, f11, f12, f13, -⟩
              obtain ⟨A_8, c_8, f8, hat_8⟩ := f8
              obtain ⟨A_9, c_9, f9, hat_9⟩ := f9
              obtain ⟨A_10, c_10, f10, hat_10⟩ := f10
              obtain ⟨A_12, c_12, f12, hat_12⟩ := f12
              simp only [is] at f0 f1 f2 f3 f4 f5 f6 f7 f11 f13
              simp only [putAll, Act.put, List.setIfInBounds_toArray, List.set_cons_succ, List.set_cons_zero, f0, f1, f2, f3, f4, f5, f6, f7, f8, f9, f10, f11, f12, f13]
              clear f0 f1 f2 f3 f4 f5 f6 f7 f8 f9 f10 f11 f12 f13
              have HM := Lib.hid hat_12
              clear hat_8 hat_9 hat_10 hat_12
              have BZ := Lib.hid (B8.out.trans (hX.mono B8.out.size))
              have BWZ := Lib.hid (BWr.out.trans (hX.mono (by rw [← HG.out]; exact BWr.out.size)))
              have QR := Lib.hid HX8.out.lt
              replace HF := Lib.hid (HF.out.later hX)
              replace HX8 := Lib.hid (HX8.out.later hX (Nat.le_refl _))
              have H1z := Lib.hid (H1.out.below BZ.out (by have := GW7.out; omega))
              clear hX hcl
              have hML : (mvP cl P rows other m).length = n4 := by rw [mvP_length, HL2.out]
              have hPf : (P.getD f []).length = n4 - 1 - f := by have h := SH.out.pl f (by rw [HL4.out]; exact hfn); rw [HL4.out] at h; exact h
              have hMr : ((mvP cl P rows other m).getD f []).length = n4 - 1 - f := by rw [mvP_row, hPf]
              obtain ⟨j', hj'⟩ : ∃ j, i - f - 1 = j := ⟨_, rfl⟩
              have hjL : j' < n4 - 1 - f := by omega
              have hij : i = f + j' + 1 := by omega
              obtain ⟨rp, hrp, hcp, hltp, hgep⟩ := HF.out.cell .ph f (D (.hh f)).v (by have h2 := HT.out.ph; rw [hML] at h2; rw [h2.2, List.getElem?_map, List.getElem?_range hfn]; rfl)
              have hhk := HT.out.hh f (by rw [hML]; exact hfn)
              rw [hMr] at hhk
              obtain ⟨rh, hrh, hch, hlth, hgeh⟩ := HF.out.cell (.hh f) j' (D (.pr f j')).v (by rw [hhk.2, List.getElem?_map, List.getElem?_range hjL]; rfl)
              unfold Pie.v at hcp hch
              rw [hhk.1, hrh] at hcp
              have hrhr : rh < wr.heap.size := Nat.lt_trans (LB.out f rh (by rw [hrh]; rfl)) QR.out
              have hqh : rh < q := LB.out f rh (by rw [hrh]; rfl)
              have hph : rp ≠ rh := fun e => by
                have h := HF.out.dist .ph (.hh f) (by simp)
                rw [hrp, hrh, e] at h
                rcases h with h | h
                · cases h
                · exact h rfl
              have hgh : g < rh := by have := GW7.out; omega
              have hltq := HX8.out.lt
              have q0 : wz.cell? ⟨q, 0, none⟩ = some (.slice (D .oh).A n4 (D .oh).c) := HX8.out.cell 0
              have q1 : wz.cell? ⟨q, 1, none⟩ = some (.slice (some ⟨rp, 0, none⟩) n4 (D .ph).c) := by rw [← hrp]; exact HX8.out.cell 1
              obtain ⟨bP, oP, A1, c1, ws, hA2, hcP, hrP⟩ := HR2.out.getw (w' := wz) f (by rw [HL2.out]; exact hfn) (by rw [HG.out]; exact BWZ.out)
              obtain ⟨bQ, oQ, Ap, cp, hA1, hcQ, hap, _⟩ := hrP.getw (w' := wz) j' (by rw [hPf]; exact hjL) (by rw [HG.out]; exact BWZ.out)
              have hPd : ((P.getD f []).getD j' []).length = d := by
                have h := SH.out.pd f i hfi (by rw [HL4.out]; exact hin)
                unfold VE.pairOf at h
                rw [hj'] at h
                exact h
              rw [hPf] at hcP
              rw [hPd] at hcQ
              subst hA1
              have hltP := lt_of_cell hcP
              have hltQ := lt_of_cell hcQ
              have hltP0 : bP < g := by
                obtain ⟨b, o, _, _, _, e, h, _⟩ := HR2.out.get f (by rw [HL2.out]; exact hfn)
                rw [hA2] at e
                cases e
                have := lt_of_cell h
                rw [HG.out] at this
                exact this
              have hltQ0 : bQ < g := by
                obtain ⟨b, o, _, _, e, h, _⟩ := hrP.get j' (by rw [hPf]; exact hjL)
                cases e
                have := lt_of_cell h
                rw [HG.out] at this
                exact this
              subst hA2
              have t0 : wz.cell? ⟨g, 0, none⟩ = some (.slice A n4 c) := H1z.out.cell 0
              have t1 : wz.cell? ⟨g, 1, none⟩ = some (.slice (some ⟨bP, oP, none⟩) n4 c2) := H1z.out.cell 1
              have hltg : g < wz.heap.size := H1z.out.lt
              have HAP := Lib.hid hap
              have HRow := Lib.hid (show (VE.lin 1 (VE.pairOf P f i) LM).length = d from by rw [VE.lin_length, HLL.out, SH.out.pd f i hfi (by rw [HL4.out]; exact hin), Nat.min_self])
              have hPOf : VE.pairOf P f i = (P.getD f []).getD j' [] := by unfold VE.pairOf; rw [hj']
              have HPO := Lib.hid hPOf
              have HR0 := Lib.hid (show PreS w7.heap.size (D (.hh f)) j' wz from ⟨_, fun _ => rfl, HF.out.own (.hh f)⟩)
              have eL : (n4 - 1 - f : Nat) ≤ 64 := by omega
              generalize hLx : n4 - 1 - f = L at *
              have HIJ := Lib.hid hij
              have W1 := Lib.hid (show IntKind.i64.wrap ((i : Int) - f) = ((j' + 1 : Nat) : Int) from by rw [wrap_small' _ (by omega)]; omega)
              have W2 := Lib.hid (show IntKind.i64.wrap (((j' + 1 : Nat) : Int) - 1) = (j' : Int) from by rw [wrap_small' _ (by omega)]; omega)
              have hi64 := Lib.hid (show i ≤ 64 from by omega)
              clear hij
              have ejL : (j' : Int) < L := by omega
              have efn : (f : Int) < n4 := by omega
              have QAD := Lib.hid (fun W (hW : wz.drew.grownBy W (some rh)) => vadd_own Ap d cp (VE.pairOf P f i) A_12 d c_12 LM W (by rw [HPO.out]; exact hPd) HLL.out (by omega) (by omega) (at_core (by rw [HPO.out]; exact HAP.out) (by rw [HG.out]; exact BWZ.out) hW (by rw [HG.out]; omega)) ((HM.out.drew.core hW hrhr).at_) (u32_pair U2.out f i) HUL.out D32 rfl)
              generalize hRM : VE.lin 1 (VE.pairOf P f i) LM = RM at *
              have HRM := Lib.hid hRM
              clear hRM
              unfold RowO at QAD
              go_upto_region 27 with fail
              refine wp_region_store 19 rh (PreS w7.heap.size (D (.hh f)) j') (DoneS w7.heap.size wz.heap.size (D (.hh f)) j' d RM) (is ?h0 :: is ?h1 :: is ?h2 :: is ?h3 :: is ?h4 :: is ?h5 :: is ?h6 :: is (.int .i64 ((j' + 1 : Nat) : Int)) :: is (.int .i64 (j' : Int)) :: is ?h9 :: is ?h10 :: is ?h11 :: is (.slice Ap d cp) :: is ?h13 :: TupR wz.heap.size RM d :: TupR wz.heap.size RM d :: SliR wz.heap.size RM d :: is (.nilIface) :: is ?h18 :: (fun _ W => DoneS w7.heap.size wz.heap.size (D (.hh f)) j' d RM W) :: is ?h20 :: [])
                [⟨[], [14], none⟩, ⟨[(125, 0)], [], none⟩, ⟨[], [15], none⟩, ⟨[(126, 1), (127, 2)], [], none⟩, ⟨[(128, 3)], [], none⟩, ⟨[], [17], none⟩, ⟨[], [15], none⟩, ⟨[(130, 5), (131, 6)], [], none⟩, ⟨[(132, 7)], [], none⟩, ⟨[], [4], none⟩, ⟨[], [15], none⟩, ⟨[], [17], none⟩, ⟨[(134, 9), (135, 10), (136, 11)], [], none⟩, ⟨[], [18], none⟩, ⟨[(137, 12), (138, 13)], [], none⟩, ⟨[(139, 14)], [], none⟩, ⟨[(124, 15)], [], none⟩, ⟨[(124, 15)], [], none⟩, ⟨[(129, 4), (133, 8)], [], none⟩, ⟨[(142, 18), (140, 16)], [], none⟩, ⟨[(141, 17)], [], none⟩] (by kernel_rfl) (by kernel_rfl) (by kernel_rfl) (by kernel_rfl) (by kernel_rfl) (by kernel_rfl) PreS.later DoneS.later (fun _ _ h => h) ?monoh ?stepsh ?finh
              case monoh => exact ⟨mono_eqG _, mono_eqG _, mono_eqG _, mono_eqG _, mono_eqG _, mono_eqG _, mono_eqG _, mono_eqG _, mono_eqG _, mono_eqG _, mono_eqG _, mono_eqG _, mono_eqG _, mono_eqG _, monoG_tup _ _ _ hlth, monoG_tup _ _ _ hlth, monoG_sli _ _ _ hlth, mono_eqG _, mono_eqG _, (fun _ _ _ h hC => hC.2.2 h), mono_eqG _, trivial⟩
              case stepsh =>
                refine ⟨(if_neg (by decide)).mpr fun ρ W ⟨hcst, hglb, hfun⟩ hX hp ho => ?_, ?_⟩ -- 0: slot 125 := Op.fieldAddr 32 t14 1
                · obtain ⟨o14, -⟩ := ho
                  change ρ (.tmp 14) = _ at o14
                  refine turn_plain (ok_is ?_ rfl)
                  simp only [execOp, o14]; go_simp; try exact rfl
                refine ⟨(if_neg (by decide)).mpr fun ρ W ⟨hcst, hglb, hfun⟩ hX hp ho => ?_, ?_⟩ -- 1: slot 126 := Op.load 23 t125
                · obtain ⟨p125, -⟩ := hp
                  change ρ (.tmp 125) = _ at p125
                  have q1 := (core_cell (b := q) (o := 1) hX.1 hltq (by omega)).trans q1
                  refine turn_plain (ok_is ?_ rfl)
                  simp only [execOp, p125]; go_simp; try exact rfl
                refine ⟨(if_neg (by decide)).mpr fun ρ W ⟨hcst, hglb, hfun⟩ hX hp ho => ?_, ?_⟩ -- 2: slot 127 := Op.move t15
                · obtain ⟨o15, -⟩ := ho
                  change ρ (.tmp 15) = _ at o15
                  refine turn_plain (ok_is ?_ rfl)
                  simp only [execOp, o15]; go_simp; try exact rfl
                refine ⟨(if_neg (by decide)).mpr fun ρ W ⟨hcst, hglb, hfun⟩ hX hp ho => ?_, ?_⟩ -- 3: slot 128 := Op.indexAddr 23 t126 t127
                · obtain ⟨p126, p127, -⟩ := hp
                  change ρ (.tmp 126) = _ at p126
                  change ρ (.tmp 127) = _ at p127
                  refine turn_plain (ok_is ?_ rfl)
                  simp only [execOp, p126, p127]; go_simp; try exact rfl
                refine ⟨(if_neg (by decide)).mpr fun ρ W ⟨hcst, hglb, hfun⟩ hX hp ho => ?_, ?_⟩ -- 4: slot 129 := Op.load 22 t128
                · obtain ⟨p128, -⟩ := hp
                  change ρ (.tmp 128) = _ at p128
                  have q4 := (core_cell (b := rp) (o := f) hX.1 hltp hph).trans hcp
                  refine turn_plain (ok_is ?_ rfl)
                  simp only [execOp, p128]; go_simp; try exact rfl
                refine ⟨(if_neg (by decide)).mpr fun ρ W ⟨hcst, hglb, hfun⟩ hX hp ho => ?_, ?_⟩ -- 5: slot 130 := Op.move t17
                · obtain ⟨o17, -⟩ := ho
                  change ρ (.tmp 17) = _ at o17
                  refine turn_plain (ok_is ?_ rfl)
                  simp only [execOp, o17]; go_simp; try exact rfl
                refine ⟨(if_neg (by decide)).mpr fun ρ W ⟨hcst, hglb, hfun⟩ hX hp ho => ?_, ?_⟩ -- 6: slot 131 := Op.move t15
                · obtain ⟨o15, -⟩ := ho
                  change ρ (.tmp 15) = _ at o15
                  refine turn_plain (ok_is ?_ rfl)
                  simp only [execOp, o15]; go_simp; try exact rfl
                refine ⟨(if_neg (by decide)).mpr fun ρ W ⟨hcst, hglb, hfun⟩ hX hp ho => ?_, ?_⟩ -- 7: slot 132 := Op.binOp BinOp.sub 3 t130 t131 3
                · obtain ⟨p130, p131, -⟩ := hp
                  change ρ (.tmp 130) = _ at p130
                  change ρ (.tmp 131) = _ at p131
                  have hW := hX.1
                  refine turn_plain ?_
                  exact ok_val (v := .int .i64 ((j' + 1 : Nat) : Int)) (W' := W) (by simp only [execOp, p130, p131]; go_simp; exact W1.out) (Below.refl _ _) rfl
                refine ⟨(if_neg (by decide)).mpr fun ρ W ⟨hcst, hglb, hfun⟩ hX hp ho => ?_, ?_⟩ -- 8: slot 133 := Op.binOp BinOp.sub 3 t132 (const (1:i64)) 3
                · obtain ⟨p132, -⟩ := hp
                  change ρ (.tmp 132) = _ at p132
                  have hW := hX.1
                  refine turn_plain ?_
                  exact ok_val (v := .int .i64 (j' : Int)) (W' := W) (by simp only [execOp, hcst, p132]; go_simp; first | exact W2.out | exact wrap_small' _ (by omega)) (Below.refl _ _) rfl
                refine ⟨(if_neg (by decide)).mpr fun ρ W ⟨hcst, hglb, hfun⟩ hX hp ho => ?_, ?_⟩ -- 9: slot 134 := Op.load 32 t4
                · obtain ⟨o4, -⟩ := ho
                  change ρ (.tmp 4) = _ at o4
                  have q90 := (core_cell (b := g) (o := 0) hX.1 hltg (by omega)).trans t0
                  have q91 := (core_cell (b := g) (o := 1) hX.1 hltg (by omega)).trans t1
                  refine turn_plain (ok_is ?_ rfl)
                  simp only [execOp, o4]; go_simp; try exact rfl
                refine ⟨(if_neg (by decide)).mpr fun ρ W ⟨hcst, hglb, hfun⟩ hX hp ho => ?_, ?_⟩ -- 10: slot 135 := Op.move t15
                · obtain ⟨o15, -⟩ := ho
                  change ρ (.tmp 15) = _ at o15
                  refine turn_plain (ok_is ?_ rfl)
                  simp only [execOp, o15]; go_simp; try exact rfl
                refine ⟨(if_neg (by decide)).mpr fun ρ W ⟨hcst, hglb, hfun⟩ hX hp ho => ?_, ?_⟩ -- 11: slot 136 := Op.move t17
                · obtain ⟨o17, -⟩ := ho
                  change ρ (.tmp 17) = _ at o17
                  refine turn_plain (ok_is ?_ rfl)
                  simp only [execOp, o17]; go_simp; try exact rfl
                refine ⟨(if_neg (by decide)).mpr fun ρ W ⟨hcst, hglb, hfun⟩ hX hp ho => ?_, ?_⟩ -- 12: slot 137 := Op.call { value (Operand.func 27), args := #[t134, t135, t136], argTypes := #[32, 3, 3] }
                · obtain ⟨p134, p135, p136, -⟩ := hp
                  change ρ (.tmp 134) = _ at p134
                  change ρ (.tmp 135) = _ at p135
                  change ρ (.tmp 136) = _ at p136
                  have hW := hX.1
                  refine turn_plain ?_
                  have ce := @enter_of Tryd.prog 27 _ Tryd.func27 (by kernel_rfl) (by kernel_rfl)
                  refine ok_call (op_call3 hfun ce (by exact rfl) p134 p135 p136) ?_
                  refine (pair_cell A n4 c bP oP n4 c2 bQ oQ L c1 Ap d cp f i j' W HIJ.out hfn hjL (by have := hi64.out; omega) (by omega) (by omega) ((core_cell (b := bP) (o := oP + f) hW hltP (by omega)).trans hcP) ((core_cell (b := bQ) (o := oQ + j') hW hltQ (by omega)).trans hcQ) (lt_of_cell ((core_cell (b := bP) (o := oP + f) hW hltP (by omega)).trans hcP)) (lt_of_cell ((core_cell (b := bQ) (o := oQ + j') hW hltQ (by omega)).trans hcQ))).mono ?_
                  rintro e W' ⟨rfl, bel⟩
                  exact ⟨_, rfl, bel, rfl⟩
                refine ⟨(if_neg (by decide)).mpr fun ρ W ⟨hcst, hglb, hfun⟩ hX hp ho => ?_, ?_⟩ -- 13: slot 138 := Op.move t18
                · obtain ⟨o18, -⟩ := ho
                  change ρ (.tmp 18) = _ at o18
                  refine turn_plain (ok_is ?_ rfl)
                  simp only [execOp, o18]; go_simp; try exact rfl
                refine ⟨(if_neg (by decide)).mpr fun ρ W ⟨hcst, hglb, hfun⟩ hX hp ho => ?_, ?_⟩ -- 14: slot 139 := Op.call { value (Operand.func 26), args := #[t137, t138], argTypes := #[54, 54] }
                · obtain ⟨p137, p138, -⟩ := hp
                  change ρ (.tmp 137) = _ at p137
                  change ρ (.tmp 138) = _ at p138
                  have hW := hX.1
                  refine turn_plain ?_
                  have ce := @enter_of Tryd.prog 26 _ Tryd.func26 (by kernel_rfl) (by kernel_rfl)
                  refine ok_call (op_call2 hfun ce (by exact rfl) p137 p138) ?_
                  refine (QAD.out W hW).mono ?_
                  rintro e W' ⟨A_, c_, rfl, ho, bel⟩
                  exact ⟨_, rfl, bel, A_, c_, by rw [HRow.out], (by rw [HRow.out] at ho; exact ownsRow_le_ ho hX.1.size)⟩
                refine ⟨(if_neg (by decide)).mpr fun ρ W ⟨hcst, hglb, hfun⟩ hX hp ho => ?_, ?_⟩ -- 15: slot 124 := Op.move t139
                · obtain ⟨p139, -⟩ := hp
                  obtain ⟨A139, c139, p139, hat139⟩ := p139
                  change ρ (.tmp 139) = _ at p139
                  have hW := hX.1
                  refine turn_plain ?_
                  refine ok_val (v := .tuple #[.slice A139 d c139, .nilIface]) (W' := W) (by simp only [execOp, p139]; go_simp) (Below.refl _ _) ⟨A139, c139, rfl, hat139⟩
                refine ⟨(if_neg (by decide)).mpr fun ρ W ⟨hcst, hglb, hfun⟩ hX hp ho => ?_, ?_⟩ -- 16: slot 140 := Op.extract t124 0
                · obtain ⟨p124, -⟩ := hp
                  obtain ⟨A124, c124, p124, hat124⟩ := p124
                  change ρ (.tmp 124) = _ at p124
                  have hW := hX.1
                  refine turn_plain ?_
                  refine ok_val (v := .slice A124 d c124) (W' := W) (by simp only [execOp, p124]; go_simp) (Below.refl _ _) ⟨A124, c124, rfl, hat124⟩
                refine ⟨(if_neg (by decide)).mpr fun ρ W ⟨hcst, hglb, hfun⟩ hX hp ho => ?_, ?_⟩ -- 17: slot 141 := Op.extract t124 1
                · obtain ⟨p124, -⟩ := hp
                  obtain ⟨A124, c124, p124, hat124⟩ := p124
                  change ρ (.tmp 124) = _ at p124
                  have hW := hX.1
                  refine turn_plain ?_
                  refine ok_val (v := .nilIface) (W' := W) (by simp only [execOp, p124]; go_simp) (Below.refl _ _) rfl
                refine ⟨(if_neg (by decide)).mpr fun ρ W ⟨hcst, hglb, hfun⟩ hX hp ho => ?_, ?_⟩ -- 18: slot 142 := Op.indexAddr 22 t129 t133
                · obtain ⟨p129, p133, -⟩ := hp
                  change ρ (.tmp 129) = _ at p129
                  change ρ (.tmp 133) = _ at p133
                  refine turn_plain (ok_is ?_ rfl)
                  simp only [execOp, p129, p133]; go_simp; try exact rfl
                refine ⟨(if_pos rfl).mpr fun ρ W ⟨hcst, hglb, hfun⟩ hX hp ho => ?_, ?_⟩ -- 19: slot None := Op.store 54 t142 t140
                · obtain ⟨p142, p140, -⟩ := hp
                  change ρ (.tmp 142) = _ at p142
                  obtain ⟨A140, c140, p140, hat140⟩ := p140
                  change ρ (.tmp 140) = _ at p140
                  have hPre := hX.2.1 (HR0.out.later _ _ (Below.refl _ _).drew)
                  obtain ⟨⟨old, hold⟩, hfz⟩ := hPre.cell hrh (by rw [hhk.1]; exact hjL)
                  have hsd := store_done (R := RM) hPre hrh hat140 hlth
                  refine ⟨_, ?_, hsd.1, hsd.2⟩
                  simp only [execOp, p142, p140]; go_simp
                refine ⟨(if_neg (by decide)).mpr fun ρ W ⟨hcst, hglb, hfun⟩ hX hp ho => ?_, ?_⟩ -- 20: slot 19 := Op.assign t141
                · obtain ⟨p141, -⟩ := hp
                  change ρ (.tmp 141) = _ at p141
                  refine turn_plain (ok_is ?_ rfl)
                  simp only [execOp, p141]; go_simp; try exact rfl
                exact trivial
              case finh =>
                rintro v we hX ⟨f0, f1, f2, f3, f4, f5, f6, f7, f8, f9, f10, f11, f12, f13, f14, f15, f16, f17, f18, f19, f20, -⟩
                obtain ⟨A_14, c_14, f14, hat_14⟩ := f14
                obtain ⟨A_15, c_15, f15, hat_15⟩ := f15
                obtain ⟨A_16, c_16, f16, hat_16⟩ := f16
                have HDN := Lib.hid f19
                simp only [is] at f0 f1 f2 f3 f4 f5 f6 f7 f8 f9 f10 f11 f12 f13 f17 f18 f20
                simp only [putAll, Act.put, List.setIfInBounds_toArray, List.set_cons_succ, List.set_cons_zero, f0, f1, f2, f3, f4, f5, f6, f7, f8, f9, f10, f11, f12, f13, f14, f15, f16, f17, f18, f19, f20]
                clear f0 f1 f2 f3 f4 f5 f6 f7 f8 f9 f10 f11 f12 f13 f14 f15 f16 f17 f18 f19 f20
                have HGW := Lib.hid hX
                clear hX hat_14 hat_15 hat_16
                go_wp2_with fail
                obtain ⟨An, cn, how, hoh⟩ := HDN.out
                have FN := Fam.put HF.out (by have := BZ.out.size; omega) (p := .pr f j') (q := .hh f) (by simp) hrh HGW.out (x := ⟨61, An, d, cn, nats .u32 RM⟩) how hoh
                have TN := HT.out.putPr (i := f) (j := j') (by rw [hML]; exact hfn) (by rw [hMr]; exact hjL) ⟨61, An, d, cn, nats .u32 RM⟩ RM ⟨HRow.out.symm, rfl⟩ { D (.hh f) with xs := (D (.hh f)).xs.set j' (.slice An d cn) } ⟨rfl, rfl, rfl, rfl⟩
                have eM : (mvP cl P rows other m).set f (((mvP cl P rows other m).getD f []).set j' RM) = mvP cl P rows other (m + 1) := by
                  show _ = (mvP cl P rows other m).set (cl.getD 0 0) (((mvP cl P rows other m).getD (cl.getD 0 0) []).set (cl.getD (m + 1) 0 - cl.getD 0 0 - 1) (mvR P rows other (cl.getD 0 0) (cl.getD (m + 1) 0)))
                  rw [HF0.out, HI.out, hj']
                  unfold mvR
                  rw [HLM.out, HRM.out]
                rw [eM] at TN
                refine ⟨⟨m + 1, _, by omega, by simp, FN, TN, ?_, ?_, ?_, ?_⟩, by simp [intOf]; omega⟩
                · refine (HY.out.upd (.pr f j') _ ?_).upd (.hh f) _ ?_
                  · rfl
                  · exact HY.out (.hh f)
                · intro p k hk
                  by_cases e : (Pc.hh p) = .hh f
                  · rw [e, upd_same] at hk; exact LB.out f k hk
                  · rw [upd_other _ e, upd_other _ (by simp)] at hk; exact LB.out p k hk
                · rw [upd_other _ (by simp), upd_other _ (by simp), upd_other _ (by simp), upd_other _ (by simp)]
                  exact HX8.out.grown HGW.out (by simp; omega)
                · exact BZ.out.trans (below_of_grown HGW.out hgeh BZ.out.size)

          · obtain rfl : N1 = m := by omega
            replace H2 := Lib.hid (H2.out.below B8.out GW7.out)
            have q0 := HX8.out.cell 0
            have q1 := HX8.out.cell 1
            simp at q0 q1
            have r0 := H2.out.cell 0
            have r1 := H2.out.cell 1
            simp at r0 r1
            have z0 := H2.out.frozen 0
            have z1 := H2.out.frozen 1
            go_wp2_with fail
            refine bodyPost_ret (v := .tuple #[.agg #[.slice (D .oh).A n4 (D .oh).c, .slice (D .ph).A n4 (D .ph).c], .nilIface]) (results_cell_two Tryd.results14 _ _ (g + 1) 32 #[.slice (D .oh).A n4 (D .oh).c, .slice (D .ph).A n4 (D .ph).c] _ _ _ rfl rfl ((H2.out.set 0 (.slice (D .oh).A n4 (D .oh).c)).set 1 (.slice (D .ph).A n4 (D .ph).c)) tb_under rfl tb_size) rfl (.inr <| .inr ⟨ARG.out, MVS.out, D, by rw [HL.out, mvP_length, HL2.out], ?_, ?_, HY.out, ?_⟩)
            · have h1 := (HF.out.low (g := g + 1) GW7.out 0 (.slice (D .oh).A n4 (D .oh).c)).low (g := g + 1) GW7.out 1 (.slice (D .ph).A n4 (D .ph).c)
              exact ⟨fun p => ownsRow_le_ (h1.own p) (by rw [HG.out]; have := GW7.out; omega), h1.dist⟩
            · rw [HL3.out, Nat.add_sub_cancel, HCL.out, ints_cast]; exact HT.out
            · rw [HG.out]
              exact ((BW.out.trans (B8.out.mono (by have := GW7.out; omega))).setCell (p := ⟨g + 1, 0, none⟩) (by show g ≤ g + 1; omega) _).setCell (p := ⟨g + 1, 1, none⟩) (by show g ≤ g + 1; omega) _
end
end Go.Proofs.YtmdilfgeogedpaaDoor
