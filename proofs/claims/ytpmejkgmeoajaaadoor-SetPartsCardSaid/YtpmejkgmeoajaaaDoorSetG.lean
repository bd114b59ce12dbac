/- Layer 15: SetTells' walk. -/
import Derived.Test.YtpmejkgmeoajaaaDoorSetF
import Derived.Test.YtpmejkgmeoajaaaDoorRegionB
namespace Go.Proofs.YtpmejkgmeoajaaaDoor
open Go.RowKit
theorem refof_good {w : World} {l : List Int} (l' : List Int) (n : Nat) (hk : SetM.ok l = true) (h : SetM.elems (SetM.bitsOf l) = l') (hn : l'.length = n) {f : FuncId} {args : Array Value} {Q : Program} (hc : Calls Q f args w (OfR w l)) :
    Calls Q f args w fun e w' => ∃ A c, e = .returned (.tuple #[.slice A n c, .bool true]) ∧ At w' A (ints .i64 l') ∧ Below w.heap.size w w' := by
  subst h; subst hn
  refine hc.mono fun e w' h => ?_
  unfold OfR at h
  rw [hk, if_pos rfl] at h
  exact h
theorem refof_bad {w : World} {l : List Int} (hk : SetM.ok l = false) {f : FuncId} {args : Array Value} {Q : Program} (hc : Calls Q f args w (OfR w l)) :
    Calls Q f args w fun e w' => ∃ A c, e = .returned (.tuple #[.slice A 0 c, .bool false]) ∧ Below w.heap.size w w' := by
  refine hc.mono fun e w' h => ?_
  unfold OfR at h
  rw [hk, if_neg (by decide)] at h
  obtain ⟨A, c, h1, _, h3⟩ := h
  exact ⟨A, c, h1, h3⟩
/-- a slice of numbers, wherever it lies -/
def SlR (L : List Int) (n : Nat) : Rel := fun v W => ∃ A c, v = .slice A n c ∧ At W A (ints .i64 L)
theorem mono_sl (L : List Int) (n : Nat) : Mono (SlR L n) := fun _ _ _ h hX => by obtain ⟨A, c, h1, h2⟩ := h; exact ⟨A, c, h1, h2.later hX (Nat.le_refl _)⟩
theorem elems_len (v : Nat) : (SetM.elems v).length ≤ 9223372036854775807 := Nat.le_trans (SetM.elemsTo_length v 64) (by decide)
set_option maxRecDepth 100000 in
set_option maxHeartbeats 4000000 in
theorem tells_11 (A : Option Addr) (c : Nat) (l : List Int) (A2 : Option Addr) (c2 : Nat) (l2 : List Int) (x : Int) (w : World) (hl : l.length ≤ 100) (hl2 : l2.length ≤ 100) (ha : At w A (ints .i64 l)) (ha2 : At w A2 (ints .i64 l2)) (hg : Glob w) (hok : SetM.ok l = true) (hmay : SetM.may l = true) :
    Calls Tryd.prog 4 #[.slice A l.length c, .slice A2 l2.length c2, .int .i64 x] w fun e w' => e = .returned (.bool true) ∧ Below w.heap.size w w' := by
  have HG := Lib.hid hg
  have Sa := Lib.hid ha
  have Sb := Lib.hid ha2
  have Na := Lib.hid (show l.length ≤ 9223372036854775807 by omega)
  have Nb := Lib.hid (show l2.length ≤ 9223372036854775807 by omega)
  have HOK := Lib.hid hok
  have HMAY := Lib.hid hmay
  obtain ⟨r, hr⟩ : ∃ r, SetM.has l x = r := ⟨_, rfl⟩
  have HR := Lib.hid hr
  obtain ⟨L, hL⟩ : ∃ L, SetM.elems (SetM.bitsOf l) = L := ⟨_, rfl⟩
  have HL := Lib.hid hL
  have NL := Lib.hid (hL ▸ elems_len _ : L.length ≤ 9223372036854775807)
  obtain ⟨v, hv⟩ : ∃ v, SetM.bitsOf l = v := ⟨_, rfl⟩
  have HV := Lib.hid hv
  obtain ⟨L0, hL0⟩ : ∃ L, SetM.elems (SetM.op 0 (SetM.bitsOf l) (SetM.bitsOf l2)) = L := ⟨_, rfl⟩
  have HL0 := Lib.hid hL0
  have NL0 := Lib.hid (hL0 ▸ elems_len _ : L0.length ≤ 9223372036854775807)
  obtain ⟨L1, hL1⟩ : ∃ L, SetM.elems (SetM.op 1 (SetM.bitsOf l) (SetM.bitsOf l2)) = L := ⟨_, rfl⟩
  have HL1 := Lib.hid hL1
  have NL1 := Lib.hid (hL1 ▸ elems_len _ : L1.length ≤ 9223372036854775807)
  obtain ⟨L2, hL2⟩ : ∃ L, SetM.elems (SetM.op 2 (SetM.bitsOf l) (SetM.bitsOf l2)) = L := ⟨_, rfl⟩
  have HL2 := Lib.hid hL2
  have NL2 := Lib.hid (hL2 ▸ elems_len _ : L2.length ≤ 9223372036854775807)
  clear ha ha2 hg hok hmay hr hL hv hL0 hL1 hL2
  go_enter Tryd.func4, Tryd.ntmps4
  have HB := Lib.hid (Below.refl w.heap.size w)
  go_wp2_with fail
  refine (of_good L L.length HOK.out HL.out rfl (setOf_any A l.length c l _ rfl Na.out Sa.out)).mono ?_
  rintro e w1 ⟨A_l, c_l, rfl, hat, bel⟩
  replace HB := Lib.hid (HB.out.trans (bel.mono HB.out.size))
  replace Sa := Lib.hid (Sa.out.later bel (Nat.le_refl _))
  replace Sb := Lib.hid (Sb.out.later bel (Nat.le_refl _))
  replace HG := Lib.hid (HG.out.later bel (Nat.le_refl _))
  have Sl := Lib.hid hat
  clear hat
  have Nl := NL
  clear bel
  go_wp2_with fail
  refine (refof_good L L.length HOK.out HL.out rfl (refOf_any A l.length c l _ rfl Na.out Sa.out)).mono ?_
  rintro e w2 ⟨A_m, c_m, rfl, hat, bel⟩
  replace HB := Lib.hid (HB.out.trans (bel.mono HB.out.size))
  replace Sa := Lib.hid (Sa.out.later bel (Nat.le_refl _))
  replace Sb := Lib.hid (Sb.out.later bel (Nat.le_refl _))
  replace Sl := Lib.hid (Sl.out.later bel (Nat.le_refl _))
  replace HG := Lib.hid (HG.out.later bel (Nat.le_refl _))
  have Sm := Lib.hid hat
  clear hat
  have Nm := NL
  clear bel
  go_wp2_with fail
  refine (val_eq (.nilIface) (by rw [HMAY.out]; rfl) (setCheck_any A l.length c l _ rfl Na.out Sa.out)).mono ?_
  rintro e w' ⟨rfl, rfl⟩
  go_wp2_with fail
  refine wp_region_last [is ?c0, is ?c1, is (.bool true), is ?c3, is ?c4, is ?c5, is ?c6, is ?c7, is ?c8, is ?c9, is ?c10, is ?c11, is (undef), is (undef), is (undef), is ?c15, is ?c16, is ?c17, is ?c18, is ?c19, is ?c20, is (.bool true), is ?c22, is ?c23, is ?c24, is ?c25, is ?c26, is ?c27, is (undef), is (undef), is (undef), is ?c31, is ?c32, is ?c33, is ?c34, is ?c35, is (.bool r), is ?c37, is ?c38, is (.bool r), is ?c40, is ?c41, is ?c42, is ?c43, is ?c44, SlR L0 L0.length, is ?c46, is ?c47, SlR L0 L0.length, is (.bool true), is ?c50, is ?c51, is ?c52, is ?c53, SlR L1 L1.length, is ?c55, is ?c56, SlR L1 L1.length, is (.bool true), is ?c59, is ?c60, is ?c61, is ?c62, SlR L2 L2.length, is ?c64, is ?c65, SlR L2 L2.length, is (.bool true), is ?c68, is ?c69, is ?c70, is (.int .u64 (v : Nat)), is ?c72, is (.int .u64 (v : Nat)), is ?c74, is ?c75, is ?c76, is (.bool true), is ?c78, is ?c79]
    [⟨[], [7], none⟩, ⟨[], [9], none⟩, ⟨[(33, 0), (34, 1)], [], none⟩, ⟨[(35, 2)], [], none⟩, ⟨[(36, 3)], [8], some (36, true)⟩, ⟨[(37, 4), (36, 3)], [], some (36, true)⟩, ⟨[(36, 3)], [10], some (36, true)⟩, ⟨[(38, 5), (39, 6), (36, 3)], [], some (36, true)⟩, ⟨[(36, 3), (40, 7)], [], none⟩, ⟨[(41, 8)], [], none⟩, ⟨[(42, 9)], [10], some (42, true)⟩, ⟨[(43, 10), (42, 9)], [], some (42, true)⟩, ⟨[(44, 11)], [8], some (44, false)⟩, ⟨[(45, 12), (44, 11)], [], some (44, false)⟩, ⟨[(46, 13), (44, 11)], [], some (44, false)⟩, ⟨[(44, 11), (47, 14), (42, 9)], [], some (42, true)⟩, ⟨[(42, 9), (48, 15)], [], none⟩, ⟨[(49, 16)], [], none⟩, ⟨[(50, 17)], [11], some (50, true)⟩, ⟨[(51, 18), (50, 17)], [], some (50, true)⟩, ⟨[(50, 17)], [0], some (50, true)⟩, ⟨[(53, 20), (50, 17)], [], some (50, true)⟩, ⟨[(52, 19), (54, 21), (50, 17)], [], some (50, true)⟩, ⟨[(50, 17), (55, 22)], [], none⟩, ⟨[(56, 23)], [], none⟩, ⟨[(57, 24)], [11], some (57, true)⟩, ⟨[(58, 25), (57, 24)], [], some (57, true)⟩, ⟨[(59, 26), (57, 24)], [], some (57, true)⟩, ⟨[(60, 27)], [11], some (60, false)⟩, ⟨[(61, 28), (60, 27)], [], some (60, false)⟩, ⟨[(62, 29), (60, 27)], [], some (60, false)⟩, ⟨[(60, 27), (63, 30), (57, 24)], [], some (57, true)⟩, ⟨[(57, 24), (64, 31)], [], none⟩, ⟨[(65, 32)], [], none⟩, ⟨[(66, 33)], [0], some (66, true)⟩, ⟨[(66, 33)], [2], some (66, true)⟩, ⟨[(67, 34), (68, 35), (66, 33)], [], some (66, true)⟩, ⟨[(66, 33)], [0], some (66, true)⟩, ⟨[(66, 33)], [2], some (66, true)⟩, ⟨[(70, 37), (71, 38), (66, 33)], [], some (66, true)⟩, ⟨[(69, 36), (72, 39), (66, 33)], [], some (66, true)⟩, ⟨[(66, 33), (73, 40)], [], none⟩, ⟨[(74, 41)], [], none⟩, ⟨[(75, 42)], [0], some (75, true)⟩, ⟨[(75, 42)], [1], some (75, true)⟩, ⟨[(76, 43), (77, 44), (75, 42)], [], some (75, true)⟩, ⟨[(75, 42)], [0], some (75, true)⟩, ⟨[(75, 42)], [1], some (75, true)⟩, ⟨[(79, 46), (80, 47), (75, 42)], [], some (75, true)⟩, ⟨[(78, 45), (81, 48), (75, 42)], [], some (75, true)⟩, ⟨[(75, 42), (82, 49)], [], none⟩, ⟨[(83, 50)], [], none⟩, ⟨[(84, 51)], [0], some (84, true)⟩, ⟨[(84, 51)], [1], some (84, true)⟩, ⟨[(85, 52), (86, 53), (84, 51)], [], some (84, true)⟩, ⟨[(84, 51)], [0], some (84, true)⟩, ⟨[(84, 51)], [1], some (84, true)⟩, ⟨[(88, 55), (89, 56), (84, 51)], [], some (84, true)⟩, ⟨[(87, 54), (90, 57), (84, 51)], [], some (84, true)⟩, ⟨[(84, 51), (91, 58)], [], none⟩, ⟨[(92, 59)], [], none⟩, ⟨[(93, 60)], [0], some (93, true)⟩, ⟨[(93, 60)], [1], some (93, true)⟩, ⟨[(94, 61), (95, 62), (93, 60)], [], some (93, true)⟩, ⟨[(93, 60)], [0], some (93, true)⟩, ⟨[(93, 60)], [1], some (93, true)⟩, ⟨[(97, 64), (98, 65), (93, 60)], [], some (93, true)⟩, ⟨[(96, 63), (99, 66), (93, 60)], [], some (93, true)⟩, ⟨[(93, 60), (100, 67)], [], none⟩, ⟨[(101, 68)], [], none⟩, ⟨[(102, 69)], [0], some (102, true)⟩, ⟨[(103, 70), (102, 69)], [], some (102, true)⟩, ⟨[(102, 69)], [0], some (102, true)⟩, ⟨[(105, 72), (102, 69)], [], some (102, true)⟩, ⟨[(104, 71), (106, 73), (102, 69)], [], some (102, true)⟩, ⟨[(102, 69), (107, 74)], [], none⟩, ⟨[(108, 75)], [], none⟩, ⟨[(109, 76)], [], some (109, true)⟩, ⟨[(109, 76), (110, 77)], [], none⟩, ⟨[(111, 78)], [], none⟩] (by kernel_rfl) (by kernel_rfl) (by kernel_rfl) (by kernel_rfl) (by kernel_rfl) ?monoc ?stepsc ?finc
  case monoc => exact ⟨mono_eq _, mono_eq _, mono_eq _, mono_eq _, mono_eq _, mono_eq _, mono_eq _, mono_eq _, mono_eq _, mono_eq _, mono_eq _, mono_eq _, mono_eq _, mono_eq _, mono_eq _, mono_eq _, mono_eq _, mono_eq _, mono_eq _, mono_eq _, mono_eq _, mono_eq _, mono_eq _, mono_eq _, mono_eq _, mono_eq _, mono_eq _, mono_eq _, mono_eq _, mono_eq _, mono_eq _, mono_eq _, mono_eq _, mono_eq _, mono_eq _, mono_eq _, mono_eq _, mono_eq _, mono_eq _, mono_eq _, mono_eq _, mono_eq _, mono_eq _, mono_eq _, mono_eq _, mono_sl _ _, mono_eq _, mono_eq _, mono_sl _ _, mono_eq _, mono_eq _, mono_eq _, mono_eq _, mono_eq _, mono_sl _ _, mono_eq _, mono_eq _, mono_sl _ _, mono_eq _, mono_eq _, mono_eq _, mono_eq _, mono_eq _, mono_sl _ _, mono_eq _, mono_eq _, mono_sl _ _, mono_eq _, mono_eq _, mono_eq _, mono_eq _, mono_eq _, mono_eq _, mono_eq _, mono_eq _, mono_eq _, mono_eq _, mono_eq _, mono_eq _, mono_eq _, trivial⟩
  case stepsc =>
    refine ⟨fun ρ W ⟨hcst, hglb, hfun⟩ hX hp ho => ?_, ?_⟩ -- 0: slot 33 := Op.move t7
    · obtain ⟨o7, -⟩ := ho
      change ρ (.tmp 7) = _ at o7
      refine turn_plain (ok_is ?_ rfl)
      simp only [execOp, o7]; go_simp; try exact rfl
    refine ⟨fun ρ W ⟨hcst, hglb, hfun⟩ hX hp ho => ?_, ?_⟩ -- 1: slot 34 := Op.move t9
    · obtain ⟨o9, -⟩ := ho
      change ρ (.tmp 9) = _ at o9
      refine turn_plain (ok_is ?_ rfl)
      simp only [execOp, o9]; go_simp; try exact rfl
    refine ⟨fun ρ W ⟨hcst, hglb, hfun⟩ hX hp ho => ?_, ?_⟩ -- 2: slot 35 := Op.call { value (Operand.func 17), args := #[t33, t34], argTypes := #[31, 31] }
    · obtain ⟨p33, p34, -⟩ := hp
      change ρ (.tmp 33) = _ at p33
      change ρ (.tmp 34) = _ at p34
      have hW := (Below.refl _ _).drew.trans hX
      refine turn_plain ?_
      have ce := @enter_of Tryd.prog 17 _ Tryd.func17 (by kernel_rfl) (by kernel_rfl)
      refine ok_call (op_call2 hfun ce (by exact rfl) p33 p34) ?_
      refine (valB_eq (.bool true) (by simp) (ints15_any A_l L.length c_l L A_m L.length c_m L _ rfl Nl.out (Sl.out.later (hW) (Nat.le_refl _)) rfl Nm.out (Sm.out.later (hW) (Nat.le_refl _)))).mono ?_
      rintro e W' ⟨rfl, bel⟩
      exact ⟨_, rfl, bel, rfl⟩
    refine ⟨fun ρ W ⟨hcst, hglb, hfun⟩ hX hp ho => ?_, ?_⟩ -- 3: slot 36 := Op.move t35
    · obtain ⟨p35, -⟩ := hp
      change ρ (.tmp 35) = _ at p35
      refine turn_plain (ok_is ?_ rfl)
      simp only [execOp, p35]; go_simp; try exact rfl
    refine ⟨fun ρ W ⟨hcst, hglb, hfun⟩ hX hp ho => ?_, ?_⟩ -- 4: slot 37 := Op.move t8   [guarded: some (3, true)]
    · obtain ⟨p36, -⟩ := hp
      change ρ (.tmp 36) = _ at p36
      obtain ⟨o8, -⟩ := ho
      change ρ (.tmp 8) = _ at o8
      refine turn_yes p36 (ok_is ?_ rfl)
      simp only [execOp, o8]; go_simp; try exact rfl
    refine ⟨fun ρ W ⟨hcst, hglb, hfun⟩ hX hp ho => ?_, ?_⟩ -- 5: slot 38 := Op.binOp BinOp.eql 24 t37 (const Value.nilIface) 24   [guarded: some (3, true)]
    · obtain ⟨p37, p36, -⟩ := hp
      change ρ (.tmp 37) = _ at p37
      change ρ (.tmp 36) = _ at p36
      refine turn_yes p36 (ok_is ?_ rfl)
      simp only [execOp, hcst, p37]; go_simp; try exact rfl
    refine ⟨fun ρ W ⟨hcst, hglb, hfun⟩ hX hp ho => ?_, ?_⟩ -- 6: slot 39 := Op.move t10   [guarded: some (3, true)]
    · obtain ⟨p36, -⟩ := hp
      change ρ (.tmp 36) = _ at p36
      obtain ⟨o10, -⟩ := ho
      change ρ (.tmp 10) = _ at o10
      refine turn_yes p36 (ok_is ?_ rfl)
      simp only [execOp, o10]; go_simp; try exact rfl
    refine ⟨fun ρ W ⟨hcst, hglb, hfun⟩ hX hp ho => ?_, ?_⟩ -- 7: slot 40 := Op.binOp BinOp.eql 4 t38 t39 4   [guarded: some (3, true)]
    · obtain ⟨p38, p39, p36, -⟩ := hp
      change ρ (.tmp 38) = _ at p38
      change ρ (.tmp 39) = _ at p39
      change ρ (.tmp 36) = _ at p36
      refine turn_yes p36 (ok_is ?_ rfl)
      simp only [execOp, p38, p39]; go_simp; try exact rfl
    refine ⟨fun ρ W ⟨hcst, hglb, hfun⟩ hX hp ho => ?_, ?_⟩ -- 8: slot 41 := Op.pick t36 t40 (const (Value.bool false))
    · obtain ⟨p36, p40, -⟩ := hp
      change ρ (.tmp 36) = _ at p36
      change ρ (.tmp 40) = _ at p40
      refine turn_plain (ok_is ?_ rfl)
      simp only [execOp, hcst, p36, p40]; go_simp; try exact rfl
    refine ⟨fun ρ W ⟨hcst, hglb, hfun⟩ hX hp ho => ?_, ?_⟩ -- 9: slot 42 := Op.move t41
    · obtain ⟨p41, -⟩ := hp
      change ρ (.tmp 41) = _ at p41
      refine turn_plain (ok_is ?_ rfl)
      simp only [execOp, p41]; go_simp; try exact rfl
    refine ⟨fun ρ W ⟨hcst, hglb, hfun⟩ hX hp ho => ?_, ?_⟩ -- 10: slot 43 := Op.move t10   [guarded: some (9, true)]
    · obtain ⟨p42, -⟩ := hp
      change ρ (.tmp 42) = _ at p42
      obtain ⟨o10, -⟩ := ho
      change ρ (.tmp 10) = _ at o10
      refine turn_yes p42 (ok_is ?_ rfl)
      simp only [execOp, o10]; go_simp; try exact rfl
    refine ⟨fun ρ W ⟨hcst, hglb, hfun⟩ hX hp ho => ?_, ?_⟩ -- 11: slot 44 := Op.move t43   [guarded: some (9, true)]
    · obtain ⟨p43, p42, -⟩ := hp
      change ρ (.tmp 43) = _ at p43
      change ρ (.tmp 42) = _ at p42
      refine turn_yes p42 (ok_is ?_ rfl)
      simp only [execOp, p43]; go_simp; try exact rfl
    refine ⟨fun ρ W ⟨hcst, hglb, hfun⟩ hX hp ho => ?_, ?_⟩ -- 12: slot 45 := Op.move t8   [guarded: some (11, false)]
    · obtain ⟨p44, -⟩ := hp
      change ρ (.tmp 44) = _ at p44
      obtain ⟨o8, -⟩ := ho
      change ρ (.tmp 8) = _ at o8
      exact turn_skip p44 (by decide) rfl
    refine ⟨fun ρ W ⟨hcst, hglb, hfun⟩ hX hp ho => ?_, ?_⟩ -- 13: slot 46 := Op.call { value (Operand.func 18), args := #[t45], argTypes := #[24] }   [guarded: some (1
    · obtain ⟨p45, p44, -⟩ := hp
      change ρ (.tmp 45) = _ at p45
      change ρ (.tmp 44) = _ at p44
      exact turn_skip p44 (by decide) rfl
    refine ⟨fun ρ W ⟨hcst, hglb, hfun⟩ hX hp ho => ?_, ?_⟩ -- 14: slot 47 := Op.binOp BinOp.eql 3 t46 (const (1:i64)) 3   [guarded: some (11, false)]
    · obtain ⟨p46, p44, -⟩ := hp
      change ρ (.tmp 46) = _ at p46
      change ρ (.tmp 44) = _ at p44
      exact turn_skip p44 (by decide) rfl
    refine ⟨fun ρ W ⟨hcst, hglb, hfun⟩ hX hp ho => ?_, ?_⟩ -- 15: slot 48 := Op.pick t44 (const (Value.bool true)) t47   [guarded: some (9, true)]
    · obtain ⟨p44, p47, p42, -⟩ := hp
      change ρ (.tmp 44) = _ at p44
      change ρ (.tmp 47) = _ at p47
      change ρ (.tmp 42) = _ at p42
      refine turn_yes p42 (ok_is ?_ rfl)
      simp only [execOp, hcst, p44, p47]; go_simp; try exact rfl
    refine ⟨fun ρ W ⟨hcst, hglb, hfun⟩ hX hp ho => ?_, ?_⟩ -- 16: slot 49 := Op.pick t42 t48 (const (Value.bool false))
    · obtain ⟨p42, p48, -⟩ := hp
      change ρ (.tmp 42) = _ at p42
      change ρ (.tmp 48) = _ at p48
      refine turn_plain (ok_is ?_ rfl)
      simp only [execOp, hcst, p42, p48]; go_simp; try exact rfl
    refine ⟨fun ρ W ⟨hcst, hglb, hfun⟩ hX hp ho => ?_, ?_⟩ -- 17: slot 50 := Op.move t49
    · obtain ⟨p49, -⟩ := hp
      change ρ (.tmp 49) = _ at p49
      refine turn_plain (ok_is ?_ rfl)
      simp only [execOp, p49]; go_simp; try exact rfl
    refine ⟨fun ρ W ⟨hcst, hglb, hfun⟩ hX hp ho => ?_, ?_⟩ -- 18: slot 51 := Op.move t11   [guarded: some (17, true)]
    · obtain ⟨p50, -⟩ := hp
      change ρ (.tmp 50) = _ at p50
      obtain ⟨o11, -⟩ := ho
      change ρ (.tmp 11) = _ at o11
      refine turn_yes p50 (ok_is ?_ rfl)
      simp only [execOp, o11]; go_simp; try exact rfl
    refine ⟨fun ρ W ⟨hcst, hglb, hfun⟩ hX hp ho => ?_, ?_⟩ -- 19: slot 52 := Op.binOp BinOp.eql 24 t51 (const Value.nilIface) 24   [guarded: some (17, true)]
    · obtain ⟨p51, p50, -⟩ := hp
      change ρ (.tmp 51) = _ at p51
      change ρ (.tmp 50) = _ at p50
      refine turn_yes p50 (ok_is ?_ rfl)
      simp only [execOp, hcst, p51]; go_simp; try exact rfl
    refine ⟨fun ρ W ⟨hcst, hglb, hfun⟩ hX hp ho => ?_, ?_⟩ -- 20: slot 53 := Op.move t0   [guarded: some (17, true)]
    · obtain ⟨p50, -⟩ := hp
      change ρ (.tmp 50) = _ at p50
      obtain ⟨o0, -⟩ := ho
      change ρ (.tmp 0) = _ at o0
      refine turn_yes p50 (ok_is ?_ rfl)
      simp only [execOp, o0]; go_simp; try exact rfl
    refine ⟨fun ρ W ⟨hcst, hglb, hfun⟩ hX hp ho => ?_, ?_⟩ -- 21: slot 54 := Op.call { value (Operand.func 19), args := #[t53], argTypes := #[31] }   [guarded: some (1
    · obtain ⟨p53, p50, -⟩ := hp
      change ρ (.tmp 53) = _ at p53
      change ρ (.tmp 50) = _ at p50
      have hW := (Below.refl _ _).drew.trans hX
      refine turn_yes p50 ?_
      have ce := @enter_of Tryd.prog 19 _ Tryd.func19 (by kernel_rfl) (by kernel_rfl)
      refine ok_call (op_call1 hfun ce (by exact rfl) p53) ?_
      refine (valB_eq (.bool true) (by rw [HMAY.out]) (refMay_any A l.length c l _ rfl Na.out (Sa.out.later (hW) (Nat.le_refl _)))).mono ?_
      rintro e W' ⟨rfl, bel⟩
      exact ⟨_, rfl, bel, rfl⟩
    refine ⟨fun ρ W ⟨hcst, hglb, hfun⟩ hX hp ho => ?_, ?_⟩ -- 22: slot 55 := Op.binOp BinOp.eql 4 t52 t54 4   [guarded: some (17, true)]
    · obtain ⟨p52, p54, p50, -⟩ := hp
      change ρ (.tmp 52) = _ at p52
      change ρ (.tmp 54) = _ at p54
      change ρ (.tmp 50) = _ at p50
      refine turn_yes p50 (ok_is ?_ rfl)
      simp only [execOp, p52, p54]; go_simp; try exact rfl
    refine ⟨fun ρ W ⟨hcst, hglb, hfun⟩ hX hp ho => ?_, ?_⟩ -- 23: slot 56 := Op.pick t50 t55 (const (Value.bool false))
    · obtain ⟨p50, p55, -⟩ := hp
      change ρ (.tmp 50) = _ at p50
      change ρ (.tmp 55) = _ at p55
      refine turn_plain (ok_is ?_ rfl)
      simp only [execOp, hcst, p50, p55]; go_simp; try exact rfl
    refine ⟨fun ρ W ⟨hcst, hglb, hfun⟩ hX hp ho => ?_, ?_⟩ -- 24: slot 57 := Op.move t56
    · obtain ⟨p56, -⟩ := hp
      change ρ (.tmp 56) = _ at p56
      refine turn_plain (ok_is ?_ rfl)
      simp only [execOp, p56]; go_simp; try exact rfl
    refine ⟨fun ρ W ⟨hcst, hglb, hfun⟩ hX hp ho => ?_, ?_⟩ -- 25: slot 58 := Op.move t11   [guarded: some (24, true)]
    · obtain ⟨p57, -⟩ := hp
      change ρ (.tmp 57) = _ at p57
      obtain ⟨o11, -⟩ := ho
      change ρ (.tmp 11) = _ at o11
      refine turn_yes p57 (ok_is ?_ rfl)
      simp only [execOp, o11]; go_simp; try exact rfl
    refine ⟨fun ρ W ⟨hcst, hglb, hfun⟩ hX hp ho => ?_, ?_⟩ -- 26: slot 59 := Op.binOp BinOp.eql 24 t58 (const Value.nilIface) 24   [guarded: some (24, true)]
    · obtain ⟨p58, p57, -⟩ := hp
      change ρ (.tmp 58) = _ at p58
      change ρ (.tmp 57) = _ at p57
      refine turn_yes p57 (ok_is ?_ rfl)
      simp only [execOp, hcst, p58]; go_simp; try exact rfl
    refine ⟨fun ρ W ⟨hcst, hglb, hfun⟩ hX hp ho => ?_, ?_⟩ -- 27: slot 60 := Op.move t59   [guarded: some (24, true)]
    · obtain ⟨p59, p57, -⟩ := hp
      change ρ (.tmp 59) = _ at p59
      change ρ (.tmp 57) = _ at p57
      refine turn_yes p57 (ok_is ?_ rfl)
      simp only [execOp, p59]; go_simp; try exact rfl
    refine ⟨fun ρ W ⟨hcst, hglb, hfun⟩ hX hp ho => ?_, ?_⟩ -- 28: slot 61 := Op.move t11   [guarded: some (27, false)]
    · obtain ⟨p60, -⟩ := hp
      change ρ (.tmp 60) = _ at p60
      obtain ⟨o11, -⟩ := ho
      change ρ (.tmp 11) = _ at o11
      exact turn_skip p60 (by decide) rfl
    refine ⟨fun ρ W ⟨hcst, hglb, hfun⟩ hX hp ho => ?_, ?_⟩ -- 29: slot 62 := Op.call { value (Operand.func 18), args := #[t61], argTypes := #[24] }   [guarded: some (2
    · obtain ⟨p61, p60, -⟩ := hp
      change ρ (.tmp 61) = _ at p61
      change ρ (.tmp 60) = _ at p60
      exact turn_skip p60 (by decide) rfl
    refine ⟨fun ρ W ⟨hcst, hglb, hfun⟩ hX hp ho => ?_, ?_⟩ -- 30: slot 63 := Op.binOp BinOp.eql 3 t62 (const (1:i64)) 3   [guarded: some (27, false)]
    · obtain ⟨p62, p60, -⟩ := hp
      change ρ (.tmp 62) = _ at p62
      change ρ (.tmp 60) = _ at p60
      exact turn_skip p60 (by decide) rfl
    refine ⟨fun ρ W ⟨hcst, hglb, hfun⟩ hX hp ho => ?_, ?_⟩ -- 31: slot 64 := Op.pick t60 (const (Value.bool true)) t63   [guarded: some (24, true)]
    · obtain ⟨p60, p63, p57, -⟩ := hp
      change ρ (.tmp 60) = _ at p60
      change ρ (.tmp 63) = _ at p63
      change ρ (.tmp 57) = _ at p57
      refine turn_yes p57 (ok_is ?_ rfl)
      simp only [execOp, hcst, p60, p63]; go_simp; try exact rfl
    refine ⟨fun ρ W ⟨hcst, hglb, hfun⟩ hX hp ho => ?_, ?_⟩ -- 32: slot 65 := Op.pick t57 t64 (const (Value.bool false))
    · obtain ⟨p57, p64, -⟩ := hp
      change ρ (.tmp 57) = _ at p57
      change ρ (.tmp 64) = _ at p64
      refine turn_plain (ok_is ?_ rfl)
      simp only [execOp, hcst, p57, p64]; go_simp; try exact rfl
    refine ⟨fun ρ W ⟨hcst, hglb, hfun⟩ hX hp ho => ?_, ?_⟩ -- 33: slot 66 := Op.move t65
    · obtain ⟨p65, -⟩ := hp
      change ρ (.tmp 65) = _ at p65
      refine turn_plain (ok_is ?_ rfl)
      simp only [execOp, p65]; go_simp; try exact rfl
    refine ⟨fun ρ W ⟨hcst, hglb, hfun⟩ hX hp ho => ?_, ?_⟩ -- 34: slot 67 := Op.move t0   [guarded: some (33, true)]
    · obtain ⟨p66, -⟩ := hp
      change ρ (.tmp 66) = _ at p66
      obtain ⟨o0, -⟩ := ho
      change ρ (.tmp 0) = _ at o0
      refine turn_yes p66 (ok_is ?_ rfl)
      simp only [execOp, o0]; go_simp; try exact rfl
    refine ⟨fun ρ W ⟨hcst, hglb, hfun⟩ hX hp ho => ?_, ?_⟩ -- 35: slot 68 := Op.move t2   [guarded: some (33, true)]
    · obtain ⟨p66, -⟩ := hp
      change ρ (.tmp 66) = _ at p66
      obtain ⟨o2, -⟩ := ho
      change ρ (.tmp 2) = _ at o2
      refine turn_yes p66 (ok_is ?_ rfl)
      simp only [execOp, o2]; go_simp; try exact rfl
    refine ⟨fun ρ W ⟨hcst, hglb, hfun⟩ hX hp ho => ?_, ?_⟩ -- 36: slot 69 := Op.call { value (Operand.func 20), args := #[t67, t68], argTypes := #[31, 3] }   [guarded:
    · obtain ⟨p67, p68, p66, -⟩ := hp
      change ρ (.tmp 67) = _ at p67
      change ρ (.tmp 68) = _ at p68
      change ρ (.tmp 66) = _ at p66
      have hW := (Below.refl _ _).drew.trans hX
      refine turn_yes p66 ?_
      have ce := @enter_of Tryd.prog 20 _ Tryd.func20 (by kernel_rfl) (by kernel_rfl)
      refine ok_call (op_call2 hfun ce (by exact rfl) p67 p68) ?_
      refine (val_eq (.bool r) (by rw [HR.out]) (setHas_any A l.length c l x _ rfl Na.out (Sa.out.later (hW) (Nat.le_refl _)))).mono ?_
      rintro e W' ⟨rfl, rfl⟩
      exact ⟨_, rfl, Below.refl _ _, rfl⟩
    refine ⟨fun ρ W ⟨hcst, hglb, hfun⟩ hX hp ho => ?_, ?_⟩ -- 37: slot 70 := Op.move t0   [guarded: some (33, true)]
    · obtain ⟨p66, -⟩ := hp
      change ρ (.tmp 66) = _ at p66
      obtain ⟨o0, -⟩ := ho
      change ρ (.tmp 0) = _ at o0
      refine turn_yes p66 (ok_is ?_ rfl)
      simp only [execOp, o0]; go_simp; try exact rfl
    refine ⟨fun ρ W ⟨hcst, hglb, hfun⟩ hX hp ho => ?_, ?_⟩ -- 38: slot 71 := Op.move t2   [guarded: some (33, true)]
    · obtain ⟨p66, -⟩ := hp
      change ρ (.tmp 66) = _ at p66
      obtain ⟨o2, -⟩ := ho
      change ρ (.tmp 2) = _ at o2
      refine turn_yes p66 (ok_is ?_ rfl)
      simp only [execOp, o2]; go_simp; try exact rfl
    refine ⟨fun ρ W ⟨hcst, hglb, hfun⟩ hX hp ho => ?_, ?_⟩ -- 39: slot 72 := Op.call { value (Operand.func 21), args := #[t70, t71], argTypes := #[31, 3] }   [guarded:
    · obtain ⟨p70, p71, p66, -⟩ := hp
      change ρ (.tmp 70) = _ at p70
      change ρ (.tmp 71) = _ at p71
      change ρ (.tmp 66) = _ at p66
      have hW := (Below.refl _ _).drew.trans hX
      refine turn_yes p66 ?_
      have ce := @enter_of Tryd.prog 21 _ Tryd.func21 (by kernel_rfl) (by kernel_rfl)
      refine ok_call (op_call2 hfun ce (by exact rfl) p70 p71) ?_
      refine (val_eq (.bool r) (by rw [HR.out]) (refHas_any A l.length c l x _ rfl Na.out (Sa.out.later (hW) (Nat.le_refl _)))).mono ?_
      rintro e W' ⟨rfl, rfl⟩
      exact ⟨_, rfl, Below.refl _ _, rfl⟩
    refine ⟨fun ρ W ⟨hcst, hglb, hfun⟩ hX hp ho => ?_, ?_⟩ -- 40: slot 73 := Op.binOp BinOp.eql 4 t69 t72 4   [guarded: some (33, true)]
    · obtain ⟨p69, p72, p66, -⟩ := hp
      change ρ (.tmp 69) = _ at p69
      change ρ (.tmp 72) = _ at p72
      change ρ (.tmp 66) = _ at p66
      refine turn_yes p66 (ok_is ?_ rfl)
      simp only [execOp, p69, p72]; go_simp; try exact rfl
    refine ⟨fun ρ W ⟨hcst, hglb, hfun⟩ hX hp ho => ?_, ?_⟩ -- 41: slot 74 := Op.pick t66 t73 (const (Value.bool false))
    · obtain ⟨p66, p73, -⟩ := hp
      change ρ (.tmp 66) = _ at p66
      change ρ (.tmp 73) = _ at p73
      refine turn_plain (ok_is ?_ rfl)
      simp only [execOp, hcst, p66, p73]; go_simp; try exact rfl
    refine ⟨fun ρ W ⟨hcst, hglb, hfun⟩ hX hp ho => ?_, ?_⟩ -- 42: slot 75 := Op.move t74
    · obtain ⟨p74, -⟩ := hp
      change ρ (.tmp 74) = _ at p74
      refine turn_plain (ok_is ?_ rfl)
      simp only [execOp, p74]; go_simp; try exact rfl
    refine ⟨fun ρ W ⟨hcst, hglb, hfun⟩ hX hp ho => ?_, ?_⟩ -- 43: slot 76 := Op.move t0   [guarded: some (42, true)]
    · obtain ⟨p75, -⟩ := hp
      change ρ (.tmp 75) = _ at p75
      obtain ⟨o0, -⟩ := ho
      change ρ (.tmp 0) = _ at o0
      refine turn_yes p75 (ok_is ?_ rfl)
      simp only [execOp, o0]; go_simp; try exact rfl
    refine ⟨fun ρ W ⟨hcst, hglb, hfun⟩ hX hp ho => ?_, ?_⟩ -- 44: slot 77 := Op.move t1   [guarded: some (42, true)]
    · obtain ⟨p75, -⟩ := hp
      change ρ (.tmp 75) = _ at p75
      obtain ⟨o1, -⟩ := ho
      change ρ (.tmp 1) = _ at o1
      refine turn_yes p75 (ok_is ?_ rfl)
      simp only [execOp, o1]; go_simp; try exact rfl
    refine ⟨fun ρ W ⟨hcst, hglb, hfun⟩ hX hp ho => ?_, ?_⟩ -- 45: slot 78 := Op.call { value (Operand.func 22), args := #[t76, t77], argTypes := #[31, 31] }   [guarded
    · obtain ⟨p76, p77, p75, -⟩ := hp
      change ρ (.tmp 76) = _ at p76
      change ρ (.tmp 77) = _ at p77
      change ρ (.tmp 75) = _ at p75
      have hW := (Below.refl _ _).drew.trans hX
      refine turn_yes p75 ?_
      have ce := @enter_of Tryd.prog 22 _ Tryd.func22 (by kernel_rfl) (by kernel_rfl)
      refine ok_call (op_call2 hfun ce (by exact rfl) p76 p77) ?_
      refine (sl_eq (P := fun _ _ => True) L0 L0.length HL0.out rfl (setEither_any A l.length c l A2 l2.length c2 l2 _ rfl Na.out (Sa.out.later (hW) (Nat.le_refl _)) rfl Nb.out (Sb.out.later (hW) (Nat.le_refl _)))).mono ?_
      rintro e W' ⟨A9, c9, rfl, hat9, bel⟩
      exact ⟨_, rfl, bel, A9, c9, rfl, hat9⟩
    refine ⟨fun ρ W ⟨hcst, hglb, hfun⟩ hX hp ho => ?_, ?_⟩ -- 46: slot 79 := Op.move t0   [guarded: some (42, true)]
    · obtain ⟨p75, -⟩ := hp
      change ρ (.tmp 75) = _ at p75
      obtain ⟨o0, -⟩ := ho
      change ρ (.tmp 0) = _ at o0
      refine turn_yes p75 (ok_is ?_ rfl)
      simp only [execOp, o0]; go_simp; try exact rfl
    refine ⟨fun ρ W ⟨hcst, hglb, hfun⟩ hX hp ho => ?_, ?_⟩ -- 47: slot 80 := Op.move t1   [guarded: some (42, true)]
    · obtain ⟨p75, -⟩ := hp
      change ρ (.tmp 75) = _ at p75
      obtain ⟨o1, -⟩ := ho
      change ρ (.tmp 1) = _ at o1
      refine turn_yes p75 (ok_is ?_ rfl)
      simp only [execOp, o1]; go_simp; try exact rfl
    refine ⟨fun ρ W ⟨hcst, hglb, hfun⟩ hX hp ho => ?_, ?_⟩ -- 48: slot 81 := Op.call { value (Operand.func 23), args := #[t79, t80, const (0:i64)], argTypes := #[31, 3
    · obtain ⟨p79, p80, p75, -⟩ := hp
      change ρ (.tmp 79) = _ at p79
      change ρ (.tmp 80) = _ at p80
      change ρ (.tmp 75) = _ at p75
      have hW := (Below.refl _ _).drew.trans hX
      refine turn_yes p75 ?_
      have ce := @enter_of Tryd.prog 23 _ Tryd.func23 (by kernel_rfl) (by kernel_rfl)
      refine ok_call (op_call3 hfun ce (by exact rfl) p79 p80 (hcst _)) ?_
      refine (sl_eq (P := fun _ _ => True) L0 L0.length HL0.out rfl (refSome0_any A l.length c l A2 l2.length c2 l2 _ rfl Na.out (Sa.out.later (hW) (Nat.le_refl _)) rfl Nb.out (Sb.out.later (hW) (Nat.le_refl _)))).mono ?_
      rintro e W' ⟨A9, c9, rfl, hat9, bel⟩
      exact ⟨_, rfl, bel, A9, c9, rfl, hat9⟩
    refine ⟨fun ρ W ⟨hcst, hglb, hfun⟩ hX hp ho => ?_, ?_⟩ -- 49: slot 82 := Op.call { value (Operand.func 17), args := #[t78, t81], argTypes := #[31, 31] }   [guarded
    · obtain ⟨p78, p81, p75, -⟩ := hp
      obtain ⟨A78, c78, p78, hat78⟩ := p78
      change ρ (.tmp 78) = _ at p78
      obtain ⟨A81, c81, p81, hat81⟩ := p81
      change ρ (.tmp 81) = _ at p81
      change ρ (.tmp 75) = _ at p75
      have hW := (Below.refl _ _).drew.trans hX
      refine turn_yes p75 ?_
      have ce := @enter_of Tryd.prog 17 _ Tryd.func17 (by kernel_rfl) (by kernel_rfl)
      refine ok_call (op_call2 hfun ce (by exact rfl) p78 p81) ?_
      refine (valB_eq (.bool true) (by simp) (ints15_any A78 L0.length c78 L0 A81 L0.length c81 L0 _ rfl NL0.out hat78 rfl NL0.out hat81)).mono ?_
      rintro e W' ⟨rfl, bel⟩
      exact ⟨_, rfl, bel, rfl⟩
    refine ⟨fun ρ W ⟨hcst, hglb, hfun⟩ hX hp ho => ?_, ?_⟩ -- 50: slot 83 := Op.pick t75 t82 (const (Value.bool false))
    · obtain ⟨p75, p82, -⟩ := hp
      change ρ (.tmp 75) = _ at p75
      change ρ (.tmp 82) = _ at p82
      refine turn_plain (ok_is ?_ rfl)
      simp only [execOp, hcst, p75, p82]; go_simp; try exact rfl
    refine ⟨fun ρ W ⟨hcst, hglb, hfun⟩ hX hp ho => ?_, ?_⟩ -- 51: slot 84 := Op.move t83
    · obtain ⟨p83, -⟩ := hp
      change ρ (.tmp 83) = _ at p83
      refine turn_plain (ok_is ?_ rfl)
      simp only [execOp, p83]; go_simp; try exact rfl
    refine ⟨fun ρ W ⟨hcst, hglb, hfun⟩ hX hp ho => ?_, ?_⟩ -- 52: slot 85 := Op.move t0   [guarded: some (51, true)]
    · obtain ⟨p84, -⟩ := hp
      change ρ (.tmp 84) = _ at p84
      obtain ⟨o0, -⟩ := ho
      change ρ (.tmp 0) = _ at o0
      refine turn_yes p84 (ok_is ?_ rfl)
      simp only [execOp, o0]; go_simp; try exact rfl
    refine ⟨fun ρ W ⟨hcst, hglb, hfun⟩ hX hp ho => ?_, ?_⟩ -- 53: slot 86 := Op.move t1   [guarded: some (51, true)]
    · obtain ⟨p84, -⟩ := hp
      change ρ (.tmp 84) = _ at p84
      obtain ⟨o1, -⟩ := ho
      change ρ (.tmp 1) = _ at o1
      refine turn_yes p84 (ok_is ?_ rfl)
      simp only [execOp, o1]; go_simp; try exact rfl
    refine ⟨fun ρ W ⟨hcst, hglb, hfun⟩ hX hp ho => ?_, ?_⟩ -- 54: slot 87 := Op.call { value (Operand.func 24), args := #[t85, t86], argTypes := #[31, 31] }   [guarded
    · obtain ⟨p85, p86, p84, -⟩ := hp
      change ρ (.tmp 85) = _ at p85
      change ρ (.tmp 86) = _ at p86
      change ρ (.tmp 84) = _ at p84
      have hW := (Below.refl _ _).drew.trans hX
      refine turn_yes p84 ?_
      have ce := @enter_of Tryd.prog 24 _ Tryd.func24 (by kernel_rfl) (by kernel_rfl)
      refine ok_call (op_call2 hfun ce (by exact rfl) p85 p86) ?_
      refine (sl_eq (P := fun _ _ => True) L1 L1.length HL1.out rfl (setBoth_any A l.length c l A2 l2.length c2 l2 _ rfl Na.out (Sa.out.later (hW) (Nat.le_refl _)) rfl Nb.out (Sb.out.later (hW) (Nat.le_refl _)))).mono ?_
      rintro e W' ⟨A9, c9, rfl, hat9, bel⟩
      exact ⟨_, rfl, bel, A9, c9, rfl, hat9⟩
    refine ⟨fun ρ W ⟨hcst, hglb, hfun⟩ hX hp ho => ?_, ?_⟩ -- 55: slot 88 := Op.move t0   [guarded: some (51, true)]
    · obtain ⟨p84, -⟩ := hp
      change ρ (.tmp 84) = _ at p84
      obtain ⟨o0, -⟩ := ho
      change ρ (.tmp 0) = _ at o0
      refine turn_yes p84 (ok_is ?_ rfl)
      simp only [execOp, o0]; go_simp; try exact rfl
    refine ⟨fun ρ W ⟨hcst, hglb, hfun⟩ hX hp ho => ?_, ?_⟩ -- 56: slot 89 := Op.move t1   [guarded: some (51, true)]
    · obtain ⟨p84, -⟩ := hp
      change ρ (.tmp 84) = _ at p84
      obtain ⟨o1, -⟩ := ho
      change ρ (.tmp 1) = _ at o1
      refine turn_yes p84 (ok_is ?_ rfl)
      simp only [execOp, o1]; go_simp; try exact rfl
    refine ⟨fun ρ W ⟨hcst, hglb, hfun⟩ hX hp ho => ?_, ?_⟩ -- 57: slot 90 := Op.call { value (Operand.func 23), args := #[t88, t89, const (1:i64)], argTypes := #[31, 3
    · obtain ⟨p88, p89, p84, -⟩ := hp
      change ρ (.tmp 88) = _ at p88
      change ρ (.tmp 89) = _ at p89
      change ρ (.tmp 84) = _ at p84
      have hW := (Below.refl _ _).drew.trans hX
      refine turn_yes p84 ?_
      have ce := @enter_of Tryd.prog 23 _ Tryd.func23 (by kernel_rfl) (by kernel_rfl)
      refine ok_call (op_call3 hfun ce (by exact rfl) p88 p89 (hcst _)) ?_
      refine (sl_eq (P := fun _ _ => True) L1 L1.length HL1.out rfl (refSome1_any A l.length c l A2 l2.length c2 l2 _ rfl Na.out (Sa.out.later (hW) (Nat.le_refl _)) rfl Nb.out (Sb.out.later (hW) (Nat.le_refl _)))).mono ?_
      rintro e W' ⟨A9, c9, rfl, hat9, bel⟩
      exact ⟨_, rfl, bel, A9, c9, rfl, hat9⟩
    refine ⟨fun ρ W ⟨hcst, hglb, hfun⟩ hX hp ho => ?_, ?_⟩ -- 58: slot 91 := Op.call { value (Operand.func 17), args := #[t87, t90], argTypes := #[31, 31] }   [guarded
    · obtain ⟨p87, p90, p84, -⟩ := hp
      obtain ⟨A87, c87, p87, hat87⟩ := p87
      change ρ (.tmp 87) = _ at p87
      obtain ⟨A90, c90, p90, hat90⟩ := p90
      change ρ (.tmp 90) = _ at p90
      change ρ (.tmp 84) = _ at p84
      have hW := (Below.refl _ _).drew.trans hX
      refine turn_yes p84 ?_
      have ce := @enter_of Tryd.prog 17 _ Tryd.func17 (by kernel_rfl) (by kernel_rfl)
      refine ok_call (op_call2 hfun ce (by exact rfl) p87 p90) ?_
      refine (valB_eq (.bool true) (by simp) (ints15_any A87 L1.length c87 L1 A90 L1.length c90 L1 _ rfl NL1.out hat87 rfl NL1.out hat90)).mono ?_
      rintro e W' ⟨rfl, bel⟩
      exact ⟨_, rfl, bel, rfl⟩
    refine ⟨fun ρ W ⟨hcst, hglb, hfun⟩ hX hp ho => ?_, ?_⟩ -- 59: slot 92 := Op.pick t84 t91 (const (Value.bool false))
    · obtain ⟨p84, p91, -⟩ := hp
      change ρ (.tmp 84) = _ at p84
      change ρ (.tmp 91) = _ at p91
      refine turn_plain (ok_is ?_ rfl)
      simp only [execOp, hcst, p84, p91]; go_simp; try exact rfl
    refine ⟨fun ρ W ⟨hcst, hglb, hfun⟩ hX hp ho => ?_, ?_⟩ -- 60: slot 93 := Op.move t92
    · obtain ⟨p92, -⟩ := hp
      change ρ (.tmp 92) = _ at p92
      refine turn_plain (ok_is ?_ rfl)
      simp only [execOp, p92]; go_simp; try exact rfl
    refine ⟨fun ρ W ⟨hcst, hglb, hfun⟩ hX hp ho => ?_, ?_⟩ -- 61: slot 94 := Op.move t0   [guarded: some (60, true)]
    · obtain ⟨p93, -⟩ := hp
      change ρ (.tmp 93) = _ at p93
      obtain ⟨o0, -⟩ := ho
      change ρ (.tmp 0) = _ at o0
      refine turn_yes p93 (ok_is ?_ rfl)
      simp only [execOp, o0]; go_simp; try exact rfl
    refine ⟨fun ρ W ⟨hcst, hglb, hfun⟩ hX hp ho => ?_, ?_⟩ -- 62: slot 95 := Op.move t1   [guarded: some (60, true)]
    · obtain ⟨p93, -⟩ := hp
      change ρ (.tmp 93) = _ at p93
      obtain ⟨o1, -⟩ := ho
      change ρ (.tmp 1) = _ at o1
      refine turn_yes p93 (ok_is ?_ rfl)
      simp only [execOp, o1]; go_simp; try exact rfl
    refine ⟨fun ρ W ⟨hcst, hglb, hfun⟩ hX hp ho => ?_, ?_⟩ -- 63: slot 96 := Op.call { value (Operand.func 25), args := #[t94, t95], argTypes := #[31, 31] }   [guarded
    · obtain ⟨p94, p95, p93, -⟩ := hp
      change ρ (.tmp 94) = _ at p94
      change ρ (.tmp 95) = _ at p95
      change ρ (.tmp 93) = _ at p93
      have hW := (Below.refl _ _).drew.trans hX
      refine turn_yes p93 ?_
      have ce := @enter_of Tryd.prog 25 _ Tryd.func25 (by kernel_rfl) (by kernel_rfl)
      refine ok_call (op_call2 hfun ce (by exact rfl) p94 p95) ?_
      refine (sl_eq (P := fun _ _ => True) L2 L2.length HL2.out rfl (setLess_any A l.length c l A2 l2.length c2 l2 _ rfl Na.out (Sa.out.later (hW) (Nat.le_refl _)) rfl Nb.out (Sb.out.later (hW) (Nat.le_refl _)))).mono ?_
      rintro e W' ⟨A9, c9, rfl, hat9, bel⟩
      exact ⟨_, rfl, bel, A9, c9, rfl, hat9⟩
    refine ⟨fun ρ W ⟨hcst, hglb, hfun⟩ hX hp ho => ?_, ?_⟩ -- 64: slot 97 := Op.move t0   [guarded: some (60, true)]
    · obtain ⟨p93, -⟩ := hp
      change ρ (.tmp 93) = _ at p93
      obtain ⟨o0, -⟩ := ho
      change ρ (.tmp 0) = _ at o0
      refine turn_yes p93 (ok_is ?_ rfl)
      simp only [execOp, o0]; go_simp; try exact rfl
    refine ⟨fun ρ W ⟨hcst, hglb, hfun⟩ hX hp ho => ?_, ?_⟩ -- 65: slot 98 := Op.move t1   [guarded: some (60, true)]
    · obtain ⟨p93, -⟩ := hp
      change ρ (.tmp 93) = _ at p93
      obtain ⟨o1, -⟩ := ho
      change ρ (.tmp 1) = _ at o1
      refine turn_yes p93 (ok_is ?_ rfl)
      simp only [execOp, o1]; go_simp; try exact rfl
    refine ⟨fun ρ W ⟨hcst, hglb, hfun⟩ hX hp ho => ?_, ?_⟩ -- 66: slot 99 := Op.call { value (Operand.func 23), args := #[t97, t98, const (2:i64)], argTypes := #[31, 3
    · obtain ⟨p97, p98, p93, -⟩ := hp
      change ρ (.tmp 97) = _ at p97
      change ρ (.tmp 98) = _ at p98
      change ρ (.tmp 93) = _ at p93
      have hW := (Below.refl _ _).drew.trans hX
      refine turn_yes p93 ?_
      have ce := @enter_of Tryd.prog 23 _ Tryd.func23 (by kernel_rfl) (by kernel_rfl)
      refine ok_call (op_call3 hfun ce (by exact rfl) p97 p98 (hcst _)) ?_
      refine (sl_eq (P := fun _ _ => True) L2 L2.length HL2.out rfl (refSome2_any A l.length c l A2 l2.length c2 l2 _ rfl Na.out (Sa.out.later (hW) (Nat.le_refl _)) rfl Nb.out (Sb.out.later (hW) (Nat.le_refl _)))).mono ?_
      rintro e W' ⟨A9, c9, rfl, hat9, bel⟩
      exact ⟨_, rfl, bel, A9, c9, rfl, hat9⟩
    refine ⟨fun ρ W ⟨hcst, hglb, hfun⟩ hX hp ho => ?_, ?_⟩ -- 67: slot 100 := Op.call { value (Operand.func 17), args := #[t96, t99], argTypes := #[31, 31] }   [guarded
    · obtain ⟨p96, p99, p93, -⟩ := hp
      obtain ⟨A96, c96, p96, hat96⟩ := p96
      change ρ (.tmp 96) = _ at p96
      obtain ⟨A99, c99, p99, hat99⟩ := p99
      change ρ (.tmp 99) = _ at p99
      change ρ (.tmp 93) = _ at p93
      have hW := (Below.refl _ _).drew.trans hX
      refine turn_yes p93 ?_
      have ce := @enter_of Tryd.prog 17 _ Tryd.func17 (by kernel_rfl) (by kernel_rfl)
      refine ok_call (op_call2 hfun ce (by exact rfl) p96 p99) ?_
      refine (valB_eq (.bool true) (by simp) (ints15_any A96 L2.length c96 L2 A99 L2.length c99 L2 _ rfl NL2.out hat96 rfl NL2.out hat99)).mono ?_
      rintro e W' ⟨rfl, bel⟩
      exact ⟨_, rfl, bel, rfl⟩
    refine ⟨fun ρ W ⟨hcst, hglb, hfun⟩ hX hp ho => ?_, ?_⟩ -- 68: slot 101 := Op.pick t93 t100 (const (Value.bool false))
    · obtain ⟨p93, p100, -⟩ := hp
      change ρ (.tmp 93) = _ at p93
      change ρ (.tmp 100) = _ at p100
      refine turn_plain (ok_is ?_ rfl)
      simp only [execOp, hcst, p93, p100]; go_simp; try exact rfl
    refine ⟨fun ρ W ⟨hcst, hglb, hfun⟩ hX hp ho => ?_, ?_⟩ -- 69: slot 102 := Op.move t101
    · obtain ⟨p101, -⟩ := hp
      change ρ (.tmp 101) = _ at p101
      refine turn_plain (ok_is ?_ rfl)
      simp only [execOp, p101]; go_simp; try exact rfl
    refine ⟨fun ρ W ⟨hcst, hglb, hfun⟩ hX hp ho => ?_, ?_⟩ -- 70: slot 103 := Op.move t0   [guarded: some (69, true)]
    · obtain ⟨p102, -⟩ := hp
      change ρ (.tmp 102) = _ at p102
      obtain ⟨o0, -⟩ := ho
      change ρ (.tmp 0) = _ at o0
      refine turn_yes p102 (ok_is ?_ rfl)
      simp only [execOp, o0]; go_simp; try exact rfl
    refine ⟨fun ρ W ⟨hcst, hglb, hfun⟩ hX hp ho => ?_, ?_⟩ -- 71: slot 104 := Op.call { value (Operand.func 26), args := #[t103], argTypes := #[31] }   [guarded: some (
    · obtain ⟨p103, p102, -⟩ := hp
      change ρ (.tmp 103) = _ at p103
      change ρ (.tmp 102) = _ at p102
      have hW := (Below.refl _ _).drew.trans hX
      refine turn_yes p102 ?_
      have ce := @enter_of Tryd.prog 26 _ Tryd.func26 (by kernel_rfl) (by kernel_rfl)
      refine ok_call (op_call1 hfun ce (by exact rfl) p103) ?_
      refine (val_eq (.int .u64 (v : Nat)) (by rw [HV.out]) (setBits_any A l.length c l _ rfl Na.out (Sa.out.later (hW) (Nat.le_refl _)))).mono ?_
      rintro e W' ⟨rfl, rfl⟩
      exact ⟨_, rfl, Below.refl _ _, rfl⟩
    refine ⟨fun ρ W ⟨hcst, hglb, hfun⟩ hX hp ho => ?_, ?_⟩ -- 72: slot 105 := Op.move t0   [guarded: some (69, true)]
    · obtain ⟨p102, -⟩ := hp
      change ρ (.tmp 102) = _ at p102
      obtain ⟨o0, -⟩ := ho
      change ρ (.tmp 0) = _ at o0
      refine turn_yes p102 (ok_is ?_ rfl)
      simp only [execOp, o0]; go_simp; try exact rfl
    refine ⟨fun ρ W ⟨hcst, hglb, hfun⟩ hX hp ho => ?_, ?_⟩ -- 73: slot 106 := Op.call { value (Operand.func 27), args := #[t105], argTypes := #[31] }   [guarded: some (
    · obtain ⟨p105, p102, -⟩ := hp
      change ρ (.tmp 105) = _ at p105
      change ρ (.tmp 102) = _ at p102
      have hW := (Below.refl _ _).drew.trans hX
      refine turn_yes p102 ?_
      have ce := @enter_of Tryd.prog 27 _ Tryd.func27 (by kernel_rfl) (by kernel_rfl)
      refine ok_call (op_call1 hfun ce (by exact rfl) p105) ?_
      refine (val_eq (.int .u64 (v : Nat)) (by rw [HV.out]) (refBits_any A l.length c l _ rfl Na.out (Sa.out.later (hW) (Nat.le_refl _)))).mono ?_
      rintro e W' ⟨rfl, rfl⟩
      exact ⟨_, rfl, Below.refl _ _, rfl⟩
    refine ⟨fun ρ W ⟨hcst, hglb, hfun⟩ hX hp ho => ?_, ?_⟩ -- 74: slot 107 := Op.binOp BinOp.eql 43 t104 t106 43   [guarded: some (69, true)]
    · obtain ⟨p104, p106, p102, -⟩ := hp
      change ρ (.tmp 104) = _ at p104
      change ρ (.tmp 106) = _ at p106
      change ρ (.tmp 102) = _ at p102
      refine turn_yes p102 (ok_is ?_ rfl)
      simp only [execOp, p104, p106]; go_simp; try exact rfl
    refine ⟨fun ρ W ⟨hcst, hglb, hfun⟩ hX hp ho => ?_, ?_⟩ -- 75: slot 108 := Op.pick t102 t107 (const (Value.bool false))
    · obtain ⟨p102, p107, -⟩ := hp
      change ρ (.tmp 102) = _ at p102
      change ρ (.tmp 107) = _ at p107
      refine turn_plain (ok_is ?_ rfl)
      simp only [execOp, hcst, p102, p107]; go_simp; try exact rfl
    refine ⟨fun ρ W ⟨hcst, hglb, hfun⟩ hX hp ho => ?_, ?_⟩ -- 76: slot 109 := Op.move t108
    · obtain ⟨p108, -⟩ := hp
      change ρ (.tmp 108) = _ at p108
      refine turn_plain (ok_is ?_ rfl)
      simp only [execOp, p108]; go_simp; try exact rfl
    refine ⟨fun ρ W ⟨hcst, hglb, hfun⟩ hX hp ho => ?_, ?_⟩ -- 77: slot 110 := Op.call { value (Operand.func 13), args := #[], argTypes := #[] }   [guarded: some (76, tr
    · obtain ⟨p109, -⟩ := hp
      change ρ (.tmp 109) = _ at p109
      have hW := (Below.refl _ _).drew.trans hX
      refine turn_yes p109 ?_
      have ce := @enter_of Tryd.prog 13 _ Tryd.func13 (by kernel_rfl) (by kernel_rfl)
      refine ok_call (op_call0 hfun ce (by exact rfl) ) ?_
      refine (sure15 _ (HG.out.later (hW) (Nat.le_refl _))).mono ?_
      rintro e W' ⟨rfl, bel⟩
      exact ⟨_, rfl, bel, rfl⟩
    refine ⟨fun ρ W ⟨hcst, hglb, hfun⟩ hX hp ho => ?_, ?_⟩ -- 78: slot 111 := Op.pick t109 t110 (const (Value.bool false))
    · obtain ⟨p109, p110, -⟩ := hp
      change ρ (.tmp 109) = _ at p109
      change ρ (.tmp 110) = _ at p110
      refine turn_plain (ok_is ?_ rfl)
      simp only [execOp, hcst, p109, p110]; go_simp; try exact rfl
    refine ⟨fun ρ W ⟨hcst, hglb, hfun⟩ hX hp ho => ?_, ?_⟩ -- 79: slot 6 := Op.assign t111
    · obtain ⟨p111, -⟩ := hp
      change ρ (.tmp 111) = _ at p111
      refine turn_plain (ok_is ?_ rfl)
      simp only [execOp, p111]; go_simp; try exact rfl
    exact trivial
  case finc =>
    intro a W hX hsz hdf hold hR
    have hv := hR 79 6 rfl
    change a.tmps.getD 6 undef = _ at hv
    clear hold hR hsz
    go_wp2_with fail
    exact post_letter rfl hv hdf ⟨rfl, HB.out.trans (hX.mono HB.out.size)⟩
set_option maxRecDepth 100000 in
set_option maxHeartbeats 4000000 in
theorem tells_10 (A : Option Addr) (c : Nat) (l : List Int) (A2 : Option Addr) (c2 : Nat) (l2 : List Int) (x : Int) (w : World) (hl : l.length ≤ 100) (hl2 : l2.length ≤ 100) (ha : At w A (ints .i64 l)) (ha2 : At w A2 (ints .i64 l2)) (hg : Glob w) (hok : SetM.ok l = true) (hmay : SetM.may l = false) :
    Calls Tryd.prog 4 #[.slice A l.length c, .slice A2 l2.length c2, .int .i64 x] w fun e w' => e = .returned (.bool true) ∧ Below w.heap.size w w' := by
  have HG := Lib.hid hg
  have Sa := Lib.hid ha
  have Sb := Lib.hid ha2
  have Na := Lib.hid (show l.length ≤ 9223372036854775807 by omega)
  have Nb := Lib.hid (show l2.length ≤ 9223372036854775807 by omega)
  have HOK := Lib.hid hok
  have HMAY := Lib.hid hmay
  obtain ⟨r, hr⟩ : ∃ r, SetM.has l x = r := ⟨_, rfl⟩
  have HR := Lib.hid hr
  obtain ⟨L, hL⟩ : ∃ L, SetM.elems (SetM.bitsOf l) = L := ⟨_, rfl⟩
  have HL := Lib.hid hL
  have NL := Lib.hid (hL ▸ elems_len _ : L.length ≤ 9223372036854775807)
  obtain ⟨v, hv⟩ : ∃ v, SetM.bitsOf l = v := ⟨_, rfl⟩
  have HV := Lib.hid hv
  obtain ⟨L0, hL0⟩ : ∃ L, SetM.elems (SetM.op 0 (SetM.bitsOf l) (SetM.bitsOf l2)) = L := ⟨_, rfl⟩
  have HL0 := Lib.hid hL0
  have NL0 := Lib.hid (hL0 ▸ elems_len _ : L0.length ≤ 9223372036854775807)
  obtain ⟨L1, hL1⟩ : ∃ L, SetM.elems (SetM.op 1 (SetM.bitsOf l) (SetM.bitsOf l2)) = L := ⟨_, rfl⟩
  have HL1 := Lib.hid hL1
  have NL1 := Lib.hid (hL1 ▸ elems_len _ : L1.length ≤ 9223372036854775807)
  obtain ⟨L2, hL2⟩ : ∃ L, SetM.elems (SetM.op 2 (SetM.bitsOf l) (SetM.bitsOf l2)) = L := ⟨_, rfl⟩
  have HL2 := Lib.hid hL2
  have NL2 := Lib.hid (hL2 ▸ elems_len _ : L2.length ≤ 9223372036854775807)
  clear ha ha2 hg hok hmay hr hL hv hL0 hL1 hL2
  go_enter Tryd.func4, Tryd.ntmps4
  have HB := Lib.hid (Below.refl w.heap.size w)
  go_wp2_with fail
  refine (of_good L L.length HOK.out HL.out rfl (setOf_any A l.length c l _ rfl Na.out Sa.out)).mono ?_
  rintro e w1 ⟨A_l, c_l, rfl, hat, bel⟩
  replace HB := Lib.hid (HB.out.trans (bel.mono HB.out.size))
  replace Sa := Lib.hid (Sa.out.later bel (Nat.le_refl _))
  replace Sb := Lib.hid (Sb.out.later bel (Nat.le_refl _))
  replace HG := Lib.hid (HG.out.later bel (Nat.le_refl _))
  have Sl := Lib.hid hat
  clear hat
  have Nl := NL
  clear bel
  go_wp2_with fail
  refine (refof_good L L.length HOK.out HL.out rfl (refOf_any A l.length c l _ rfl Na.out Sa.out)).mono ?_
  rintro e w2 ⟨A_m, c_m, rfl, hat, bel⟩
  replace HB := Lib.hid (HB.out.trans (bel.mono HB.out.size))
  replace Sa := Lib.hid (Sa.out.later bel (Nat.le_refl _))
  replace Sb := Lib.hid (Sb.out.later bel (Nat.le_refl _))
  replace Sl := Lib.hid (Sl.out.later bel (Nat.le_refl _))
  replace HG := Lib.hid (HG.out.later bel (Nat.le_refl _))
  have Sm := Lib.hid hat
  clear hat
  have Nm := NL
  clear bel
  go_wp2_with fail
  refine (val_eq (.iface 48 (.int .i64 1)) (by rw [HMAY.out]; rfl) (setCheck_any A l.length c l _ rfl Na.out Sa.out)).mono ?_
  rintro e w' ⟨rfl, rfl⟩
  go_wp2_with fail
  refine wp_region_last [is ?c0, is ?c1, is (.bool true), is ?c3, is ?c4, is ?c5, is ?c6, is ?c7, is ?c8, is ?c9, is ?c10, is ?c11, is (undef), is (undef), is (undef), is ?c15, is ?c16, is ?c17, is ?c18, is ?c19, is ?c20, is (.bool false), is ?c22, is ?c23, is ?c24, is ?c25, is ?c26, is ?c27, is ?c28, is (.int .i64 1), is ?c30, is ?c31, is ?c32, is ?c33, is ?c34, is ?c35, is (.bool r), is ?c37, is ?c38, is (.bool r), is ?c40, is ?c41, is ?c42, is ?c43, is ?c44, SlR L0 L0.length, is ?c46, is ?c47, SlR L0 L0.length, is (.bool true), is ?c50, is ?c51, is ?c52, is ?c53, SlR L1 L1.length, is ?c55, is ?c56, SlR L1 L1.length, is (.bool true), is ?c59, is ?c60, is ?c61, is ?c62, SlR L2 L2.length, is ?c64, is ?c65, SlR L2 L2.length, is (.bool true), is ?c68, is ?c69, is ?c70, is (.int .u64 (v : Nat)), is ?c72, is (.int .u64 (v : Nat)), is ?c74, is ?c75, is ?c76, is (.bool true), is ?c78, is ?c79]
    [⟨[], [7], none⟩, ⟨[], [9], none⟩, ⟨[(33, 0), (34, 1)], [], none⟩, ⟨[(35, 2)], [], none⟩, ⟨[(36, 3)], [8], some (36, true)⟩, ⟨[(37, 4), (36, 3)], [], some (36, true)⟩, ⟨[(36, 3)], [10], some (36, true)⟩, ⟨[(38, 5), (39, 6), (36, 3)], [], some (36, true)⟩, ⟨[(36, 3), (40, 7)], [], none⟩, ⟨[(41, 8)], [], none⟩, ⟨[(42, 9)], [10], some (42, true)⟩, ⟨[(43, 10), (42, 9)], [], some (42, true)⟩, ⟨[(44, 11)], [8], some (44, false)⟩, ⟨[(45, 12), (44, 11)], [], some (44, false)⟩, ⟨[(46, 13), (44, 11)], [], some (44, false)⟩, ⟨[(44, 11), (47, 14), (42, 9)], [], some (42, true)⟩, ⟨[(42, 9), (48, 15)], [], none⟩, ⟨[(49, 16)], [], none⟩, ⟨[(50, 17)], [11], some (50, true)⟩, ⟨[(51, 18), (50, 17)], [], some (50, true)⟩, ⟨[(50, 17)], [0], some (50, true)⟩, ⟨[(53, 20), (50, 17)], [], some (50, true)⟩, ⟨[(52, 19), (54, 21), (50, 17)], [], some (50, true)⟩, ⟨[(50, 17), (55, 22)], [], none⟩, ⟨[(56, 23)], [], none⟩, ⟨[(57, 24)], [11], some (57, true)⟩, ⟨[(58, 25), (57, 24)], [], some (57, true)⟩, ⟨[(59, 26), (57, 24)], [], some (57, true)⟩, ⟨[(60, 27)], [11], some (60, false)⟩, ⟨[(61, 28), (60, 27)], [], some (60, false)⟩, ⟨[(62, 29), (60, 27)], [], some (60, false)⟩, ⟨[(60, 27), (63, 30), (57, 24)], [], some (57, true)⟩, ⟨[(57, 24), (64, 31)], [], none⟩, ⟨[(65, 32)], [], none⟩, ⟨[(66, 33)], [0], some (66, true)⟩, ⟨[(66, 33)], [2], some (66, true)⟩, ⟨[(67, 34), (68, 35), (66, 33)], [], some (66, true)⟩, ⟨[(66, 33)], [0], some (66, true)⟩, ⟨[(66, 33)], [2], some (66, true)⟩, ⟨[(70, 37), (71, 38), (66, 33)], [], some (66, true)⟩, ⟨[(69, 36), (72, 39), (66, 33)], [], some (66, true)⟩, ⟨[(66, 33), (73, 40)], [], none⟩, ⟨[(74, 41)], [], none⟩, ⟨[(75, 42)], [0], some (75, true)⟩, ⟨[(75, 42)], [1], some (75, true)⟩, ⟨[(76, 43), (77, 44), (75, 42)], [], some (75, true)⟩, ⟨[(75, 42)], [0], some (75, true)⟩, ⟨[(75, 42)], [1], some (75, true)⟩, ⟨[(79, 46), (80, 47), (75, 42)], [], some (75, true)⟩, ⟨[(78, 45), (81, 48), (75, 42)], [], some (75, true)⟩, ⟨[(75, 42), (82, 49)], [], none⟩, ⟨[(83, 50)], [], none⟩, ⟨[(84, 51)], [0], some (84, true)⟩, ⟨[(84, 51)], [1], some (84, true)⟩, ⟨[(85, 52), (86, 53), (84, 51)], [], some (84, true)⟩, ⟨[(84, 51)], [0], some (84, true)⟩, ⟨[(84, 51)], [1], some (84, true)⟩, ⟨[(88, 55), (89, 56), (84, 51)], [], some (84, true)⟩, ⟨[(87, 54), (90, 57), (84, 51)], [], some (84, true)⟩, ⟨[(84, 51), (91, 58)], [], none⟩, ⟨[(92, 59)], [], none⟩, ⟨[(93, 60)], [0], some (93, true)⟩, ⟨[(93, 60)], [1], some (93, true)⟩, ⟨[(94, 61), (95, 62), (93, 60)], [], some (93, true)⟩, ⟨[(93, 60)], [0], some (93, true)⟩, ⟨[(93, 60)], [1], some (93, true)⟩, ⟨[(97, 64), (98, 65), (93, 60)], [], some (93, true)⟩, ⟨[(96, 63), (99, 66), (93, 60)], [], some (93, true)⟩, ⟨[(93, 60), (100, 67)], [], none⟩, ⟨[(101, 68)], [], none⟩, ⟨[(102, 69)], [0], some (102, true)⟩, ⟨[(103, 70), (102, 69)], [], some (102, true)⟩, ⟨[(102, 69)], [0], some (102, true)⟩, ⟨[(105, 72), (102, 69)], [], some (102, true)⟩, ⟨[(104, 71), (106, 73), (102, 69)], [], some (102, true)⟩, ⟨[(102, 69), (107, 74)], [], none⟩, ⟨[(108, 75)], [], none⟩, ⟨[(109, 76)], [], some (109, true)⟩, ⟨[(109, 76), (110, 77)], [], none⟩, ⟨[(111, 78)], [], none⟩] (by kernel_rfl) (by kernel_rfl) (by kernel_rfl) (by kernel_rfl) (by kernel_rfl) ?monoc ?stepsc ?finc
  case monoc => exact ⟨mono_eq _, mono_eq _, mono_eq _, mono_eq _, mono_eq _, mono_eq _, mono_eq _, mono_eq _, mono_eq _, mono_eq _, mono_eq _, mono_eq _, mono_eq _, mono_eq _, mono_eq _, mono_eq _, mono_eq _, mono_eq _, mono_eq _, mono_eq _, mono_eq _, mono_eq _, mono_eq _, mono_eq _, mono_eq _, mono_eq _, mono_eq _, mono_eq _, mono_eq _, mono_eq _, mono_eq _, mono_eq _, mono_eq _, mono_eq _, mono_eq _, mono_eq _, mono_eq _, mono_eq _, mono_eq _, mono_eq _, mono_eq _, mono_eq _, mono_eq _, mono_eq _, mono_eq _, mono_sl _ _, mono_eq _, mono_eq _, mono_sl _ _, mono_eq _, mono_eq _, mono_eq _, mono_eq _, mono_eq _, mono_sl _ _, mono_eq _, mono_eq _, mono_sl _ _, mono_eq _, mono_eq _, mono_eq _, mono_eq _, mono_eq _, mono_sl _ _, mono_eq _, mono_eq _, mono_sl _ _, mono_eq _, mono_eq _, mono_eq _, mono_eq _, mono_eq _, mono_eq _, mono_eq _, mono_eq _, mono_eq _, mono_eq _, mono_eq _, mono_eq _, mono_eq _, trivial⟩
  case stepsc =>
    refine ⟨fun ρ W ⟨hcst, hglb, hfun⟩ hX hp ho => ?_, ?_⟩ -- 0: slot 33 := Op.move t7
    · obtain ⟨o7, -⟩ := ho
      change ρ (.tmp 7) = _ at o7
      refine turn_plain (ok_is ?_ rfl)
      simp only [execOp, o7]; go_simp; try exact rfl
    refine ⟨fun ρ W ⟨hcst, hglb, hfun⟩ hX hp ho => ?_, ?_⟩ -- 1: slot 34 := Op.move t9
    · obtain ⟨o9, -⟩ := ho
      change ρ (.tmp 9) = _ at o9
      refine turn_plain (ok_is ?_ rfl)
      simp only [execOp, o9]; go_simp; try exact rfl
    refine ⟨fun ρ W ⟨hcst, hglb, hfun⟩ hX hp ho => ?_, ?_⟩ -- 2: slot 35 := Op.call { value (Operand.func 17), args := #[t33, t34], argTypes := #[31, 31] }
    · obtain ⟨p33, p34, -⟩ := hp
      change ρ (.tmp 33) = _ at p33
      change ρ (.tmp 34) = _ at p34
      have hW := (Below.refl _ _).drew.trans hX
      refine turn_plain ?_
      have ce := @enter_of Tryd.prog 17 _ Tryd.func17 (by kernel_rfl) (by kernel_rfl)
      refine ok_call (op_call2 hfun ce (by exact rfl) p33 p34) ?_
      refine (valB_eq (.bool true) (by simp) (ints15_any A_l L.length c_l L A_m L.length c_m L _ rfl Nl.out (Sl.out.later (hW) (Nat.le_refl _)) rfl Nm.out (Sm.out.later (hW) (Nat.le_refl _)))).mono ?_
      rintro e W' ⟨rfl, bel⟩
      exact ⟨_, rfl, bel, rfl⟩
    refine ⟨fun ρ W ⟨hcst, hglb, hfun⟩ hX hp ho => ?_, ?_⟩ -- 3: slot 36 := Op.move t35
    · obtain ⟨p35, -⟩ := hp
      change ρ (.tmp 35) = _ at p35
      refine turn_plain (ok_is ?_ rfl)
      simp only [execOp, p35]; go_simp; try exact rfl
    refine ⟨fun ρ W ⟨hcst, hglb, hfun⟩ hX hp ho => ?_, ?_⟩ -- 4: slot 37 := Op.move t8   [guarded: some (3, true)]
    · obtain ⟨p36, -⟩ := hp
      change ρ (.tmp 36) = _ at p36
      obtain ⟨o8, -⟩ := ho
      change ρ (.tmp 8) = _ at o8
      refine turn_yes p36 (ok_is ?_ rfl)
      simp only [execOp, o8]; go_simp; try exact rfl
    refine ⟨fun ρ W ⟨hcst, hglb, hfun⟩ hX hp ho => ?_, ?_⟩ -- 5: slot 38 := Op.binOp BinOp.eql 24 t37 (const Value.nilIface) 24   [guarded: some (3, true)]
    · obtain ⟨p37, p36, -⟩ := hp
      change ρ (.tmp 37) = _ at p37
      change ρ (.tmp 36) = _ at p36
      refine turn_yes p36 (ok_is ?_ rfl)
      simp only [execOp, hcst, p37]; go_simp; try exact rfl
    refine ⟨fun ρ W ⟨hcst, hglb, hfun⟩ hX hp ho => ?_, ?_⟩ -- 6: slot 39 := Op.move t10   [guarded: some (3, true)]
    · obtain ⟨p36, -⟩ := hp
      change ρ (.tmp 36) = _ at p36
      obtain ⟨o10, -⟩ := ho
      change ρ (.tmp 10) = _ at o10
      refine turn_yes p36 (ok_is ?_ rfl)
      simp only [execOp, o10]; go_simp; try exact rfl
    refine ⟨fun ρ W ⟨hcst, hglb, hfun⟩ hX hp ho => ?_, ?_⟩ -- 7: slot 40 := Op.binOp BinOp.eql 4 t38 t39 4   [guarded: some (3, true)]
    · obtain ⟨p38, p39, p36, -⟩ := hp
      change ρ (.tmp 38) = _ at p38
      change ρ (.tmp 39) = _ at p39
      change ρ (.tmp 36) = _ at p36
      refine turn_yes p36 (ok_is ?_ rfl)
      simp only [execOp, p38, p39]; go_simp; try exact rfl
    refine ⟨fun ρ W ⟨hcst, hglb, hfun⟩ hX hp ho => ?_, ?_⟩ -- 8: slot 41 := Op.pick t36 t40 (const (Value.bool false))
    · obtain ⟨p36, p40, -⟩ := hp
      change ρ (.tmp 36) = _ at p36
      change ρ (.tmp 40) = _ at p40
      refine turn_plain (ok_is ?_ rfl)
      simp only [execOp, hcst, p36, p40]; go_simp; try exact rfl
    refine ⟨fun ρ W ⟨hcst, hglb, hfun⟩ hX hp ho => ?_, ?_⟩ -- 9: slot 42 := Op.move t41
    · obtain ⟨p41, -⟩ := hp
      change ρ (.tmp 41) = _ at p41
      refine turn_plain (ok_is ?_ rfl)
      simp only [execOp, p41]; go_simp; try exact rfl
    refine ⟨fun ρ W ⟨hcst, hglb, hfun⟩ hX hp ho => ?_, ?_⟩ -- 10: slot 43 := Op.move t10   [guarded: some (9, true)]
    · obtain ⟨p42, -⟩ := hp
      change ρ (.tmp 42) = _ at p42
      obtain ⟨o10, -⟩ := ho
      change ρ (.tmp 10) = _ at o10
      refine turn_yes p42 (ok_is ?_ rfl)
      simp only [execOp, o10]; go_simp; try exact rfl
    refine ⟨fun ρ W ⟨hcst, hglb, hfun⟩ hX hp ho => ?_, ?_⟩ -- 11: slot 44 := Op.move t43   [guarded: some (9, true)]
    · obtain ⟨p43, p42, -⟩ := hp
      change ρ (.tmp 43) = _ at p43
      change ρ (.tmp 42) = _ at p42
      refine turn_yes p42 (ok_is ?_ rfl)
      simp only [execOp, p43]; go_simp; try exact rfl
    refine ⟨fun ρ W ⟨hcst, hglb, hfun⟩ hX hp ho => ?_, ?_⟩ -- 12: slot 45 := Op.move t8   [guarded: some (11, false)]
    · obtain ⟨p44, -⟩ := hp
      change ρ (.tmp 44) = _ at p44
      obtain ⟨o8, -⟩ := ho
      change ρ (.tmp 8) = _ at o8
      exact turn_skip p44 (by decide) rfl
    refine ⟨fun ρ W ⟨hcst, hglb, hfun⟩ hX hp ho => ?_, ?_⟩ -- 13: slot 46 := Op.call { value (Operand.func 18), args := #[t45], argTypes := #[24] }   [guarded: some (1
    · obtain ⟨p45, p44, -⟩ := hp
      change ρ (.tmp 45) = _ at p45
      change ρ (.tmp 44) = _ at p44
      exact turn_skip p44 (by decide) rfl
    refine ⟨fun ρ W ⟨hcst, hglb, hfun⟩ hX hp ho => ?_, ?_⟩ -- 14: slot 47 := Op.binOp BinOp.eql 3 t46 (const (1:i64)) 3   [guarded: some (11, false)]
    · obtain ⟨p46, p44, -⟩ := hp
      change ρ (.tmp 46) = _ at p46
      change ρ (.tmp 44) = _ at p44
      exact turn_skip p44 (by decide) rfl
    refine ⟨fun ρ W ⟨hcst, hglb, hfun⟩ hX hp ho => ?_, ?_⟩ -- 15: slot 48 := Op.pick t44 (const (Value.bool true)) t47   [guarded: some (9, true)]
    · obtain ⟨p44, p47, p42, -⟩ := hp
      change ρ (.tmp 44) = _ at p44
      change ρ (.tmp 47) = _ at p47
      change ρ (.tmp 42) = _ at p42
      refine turn_yes p42 (ok_is ?_ rfl)
      simp only [execOp, hcst, p44, p47]; go_simp; try exact rfl
    refine ⟨fun ρ W ⟨hcst, hglb, hfun⟩ hX hp ho => ?_, ?_⟩ -- 16: slot 49 := Op.pick t42 t48 (const (Value.bool false))
    · obtain ⟨p42, p48, -⟩ := hp
      change ρ (.tmp 42) = _ at p42
      change ρ (.tmp 48) = _ at p48
      refine turn_plain (ok_is ?_ rfl)
      simp only [execOp, hcst, p42, p48]; go_simp; try exact rfl
    refine ⟨fun ρ W ⟨hcst, hglb, hfun⟩ hX hp ho => ?_, ?_⟩ -- 17: slot 50 := Op.move t49
    · obtain ⟨p49, -⟩ := hp
      change ρ (.tmp 49) = _ at p49
      refine turn_plain (ok_is ?_ rfl)
      simp only [execOp, p49]; go_simp; try exact rfl
    refine ⟨fun ρ W ⟨hcst, hglb, hfun⟩ hX hp ho => ?_, ?_⟩ -- 18: slot 51 := Op.move t11   [guarded: some (17, true)]
    · obtain ⟨p50, -⟩ := hp
      change ρ (.tmp 50) = _ at p50
      obtain ⟨o11, -⟩ := ho
      change ρ (.tmp 11) = _ at o11
      refine turn_yes p50 (ok_is ?_ rfl)
      simp only [execOp, o11]; go_simp; try exact rfl
    refine ⟨fun ρ W ⟨hcst, hglb, hfun⟩ hX hp ho => ?_, ?_⟩ -- 19: slot 52 := Op.binOp BinOp.eql 24 t51 (const Value.nilIface) 24   [guarded: some (17, true)]
    · obtain ⟨p51, p50, -⟩ := hp
      change ρ (.tmp 51) = _ at p51
      change ρ (.tmp 50) = _ at p50
      refine turn_yes p50 (ok_is ?_ rfl)
      simp only [execOp, hcst, p51]; go_simp; try exact rfl
    refine ⟨fun ρ W ⟨hcst, hglb, hfun⟩ hX hp ho => ?_, ?_⟩ -- 20: slot 53 := Op.move t0   [guarded: some (17, true)]
    · obtain ⟨p50, -⟩ := hp
      change ρ (.tmp 50) = _ at p50
      obtain ⟨o0, -⟩ := ho
      change ρ (.tmp 0) = _ at o0
      refine turn_yes p50 (ok_is ?_ rfl)
      simp only [execOp, o0]; go_simp; try exact rfl
    refine ⟨fun ρ W ⟨hcst, hglb, hfun⟩ hX hp ho => ?_, ?_⟩ -- 21: slot 54 := Op.call { value (Operand.func 19), args := #[t53], argTypes := #[31] }   [guarded: some (1
    · obtain ⟨p53, p50, -⟩ := hp
      change ρ (.tmp 53) = _ at p53
      change ρ (.tmp 50) = _ at p50
      have hW := (Below.refl _ _).drew.trans hX
      refine turn_yes p50 ?_
      have ce := @enter_of Tryd.prog 19 _ Tryd.func19 (by kernel_rfl) (by kernel_rfl)
      refine ok_call (op_call1 hfun ce (by exact rfl) p53) ?_
      refine (valB_eq (.bool false) (by rw [HMAY.out]) (refMay_any A l.length c l _ rfl Na.out (Sa.out.later (hW) (Nat.le_refl _)))).mono ?_
      rintro e W' ⟨rfl, bel⟩
      exact ⟨_, rfl, bel, rfl⟩
    refine ⟨fun ρ W ⟨hcst, hglb, hfun⟩ hX hp ho => ?_, ?_⟩ -- 22: slot 55 := Op.binOp BinOp.eql 4 t52 t54 4   [guarded: some (17, true)]
    · obtain ⟨p52, p54, p50, -⟩ := hp
      change ρ (.tmp 52) = _ at p52
      change ρ (.tmp 54) = _ at p54
      change ρ (.tmp 50) = _ at p50
      refine turn_yes p50 (ok_is ?_ rfl)
      simp only [execOp, p52, p54]; go_simp; try exact rfl
    refine ⟨fun ρ W ⟨hcst, hglb, hfun⟩ hX hp ho => ?_, ?_⟩ -- 23: slot 56 := Op.pick t50 t55 (const (Value.bool false))
    · obtain ⟨p50, p55, -⟩ := hp
      change ρ (.tmp 50) = _ at p50
      change ρ (.tmp 55) = _ at p55
      refine turn_plain (ok_is ?_ rfl)
      simp only [execOp, hcst, p50, p55]; go_simp; try exact rfl
    refine ⟨fun ρ W ⟨hcst, hglb, hfun⟩ hX hp ho => ?_, ?_⟩ -- 24: slot 57 := Op.move t56
    · obtain ⟨p56, -⟩ := hp
      change ρ (.tmp 56) = _ at p56
      refine turn_plain (ok_is ?_ rfl)
      simp only [execOp, p56]; go_simp; try exact rfl
    refine ⟨fun ρ W ⟨hcst, hglb, hfun⟩ hX hp ho => ?_, ?_⟩ -- 25: slot 58 := Op.move t11   [guarded: some (24, true)]
    · obtain ⟨p57, -⟩ := hp
      change ρ (.tmp 57) = _ at p57
      obtain ⟨o11, -⟩ := ho
      change ρ (.tmp 11) = _ at o11
      refine turn_yes p57 (ok_is ?_ rfl)
      simp only [execOp, o11]; go_simp; try exact rfl
    refine ⟨fun ρ W ⟨hcst, hglb, hfun⟩ hX hp ho => ?_, ?_⟩ -- 26: slot 59 := Op.binOp BinOp.eql 24 t58 (const Value.nilIface) 24   [guarded: some (24, true)]
    · obtain ⟨p58, p57, -⟩ := hp
      change ρ (.tmp 58) = _ at p58
      change ρ (.tmp 57) = _ at p57
      refine turn_yes p57 (ok_is ?_ rfl)
      simp only [execOp, hcst, p58]; go_simp; try exact rfl
    refine ⟨fun ρ W ⟨hcst, hglb, hfun⟩ hX hp ho => ?_, ?_⟩ -- 27: slot 60 := Op.move t59   [guarded: some (24, true)]
    · obtain ⟨p59, p57, -⟩ := hp
      change ρ (.tmp 59) = _ at p59
      change ρ (.tmp 57) = _ at p57
      refine turn_yes p57 (ok_is ?_ rfl)
      simp only [execOp, p59]; go_simp; try exact rfl
    refine ⟨fun ρ W ⟨hcst, hglb, hfun⟩ hX hp ho => ?_, ?_⟩ -- 28: slot 61 := Op.move t11   [guarded: some (27, false)]
    · obtain ⟨p60, -⟩ := hp
      change ρ (.tmp 60) = _ at p60
      obtain ⟨o11, -⟩ := ho
      change ρ (.tmp 11) = _ at o11
      refine turn_yes p60 (ok_is ?_ rfl)
      simp only [execOp, o11]; go_simp; try exact rfl
    refine ⟨fun ρ W ⟨hcst, hglb, hfun⟩ hX hp ho => ?_, ?_⟩ -- 29: slot 62 := Op.call { value (Operand.func 18), args := #[t61], argTypes := #[24] }   [guarded: some (2
    · obtain ⟨p61, p60, -⟩ := hp
      change ρ (.tmp 61) = _ at p61
      change ρ (.tmp 60) = _ at p60
      have hW := (Below.refl _ _).drew.trans hX
      refine turn_yes p60 ?_
      have ce := @enter_of Tryd.prog 18 _ Tryd.func18 (by kernel_rfl) (by kernel_rfl)
      refine ok_call (op_call1 hfun ce (by exact rfl) p61) ?_
      refine (num15_err 1 _ (HG.out.later (hW) (Nat.le_refl _))).mono ?_
      rintro e W' ⟨rfl, bel⟩
      exact ⟨_, rfl, bel, rfl⟩
    refine ⟨fun ρ W ⟨hcst, hglb, hfun⟩ hX hp ho => ?_, ?_⟩ -- 30: slot 63 := Op.binOp BinOp.eql 3 t62 (const (1:i64)) 3   [guarded: some (27, false)]
    · obtain ⟨p62, p60, -⟩ := hp
      change ρ (.tmp 62) = _ at p62
      change ρ (.tmp 60) = _ at p60
      refine turn_yes p60 (ok_is ?_ rfl)
      simp only [execOp, hcst, p62]; go_simp; try exact rfl
    refine ⟨fun ρ W ⟨hcst, hglb, hfun⟩ hX hp ho => ?_, ?_⟩ -- 31: slot 64 := Op.pick t60 (const (Value.bool true)) t63   [guarded: some (24, true)]
    · obtain ⟨p60, p63, p57, -⟩ := hp
      change ρ (.tmp 60) = _ at p60
      change ρ (.tmp 63) = _ at p63
      change ρ (.tmp 57) = _ at p57
      refine turn_yes p57 (ok_is ?_ rfl)
      simp only [execOp, hcst, p60, p63]; go_simp; try exact rfl
    refine ⟨fun ρ W ⟨hcst, hglb, hfun⟩ hX hp ho => ?_, ?_⟩ -- 32: slot 65 := Op.pick t57 t64 (const (Value.bool false))
    · obtain ⟨p57, p64, -⟩ := hp
      change ρ (.tmp 57) = _ at p57
      change ρ (.tmp 64) = _ at p64
      refine turn_plain (ok_is ?_ rfl)
      simp only [execOp, hcst, p57, p64]; go_simp; try exact rfl
    refine ⟨fun ρ W ⟨hcst, hglb, hfun⟩ hX hp ho => ?_, ?_⟩ -- 33: slot 66 := Op.move t65
    · obtain ⟨p65, -⟩ := hp
      change ρ (.tmp 65) = _ at p65
      refine turn_plain (ok_is ?_ rfl)
      simp only [execOp, p65]; go_simp; try exact rfl
    refine ⟨fun ρ W ⟨hcst, hglb, hfun⟩ hX hp ho => ?_, ?_⟩ -- 34: slot 67 := Op.move t0   [guarded: some (33, true)]
    · obtain ⟨p66, -⟩ := hp
      change ρ (.tmp 66) = _ at p66
      obtain ⟨o0, -⟩ := ho
      change ρ (.tmp 0) = _ at o0
      refine turn_yes p66 (ok_is ?_ rfl)
      simp only [execOp, o0]; go_simp; try exact rfl
    refine ⟨fun ρ W ⟨hcst, hglb, hfun⟩ hX hp ho => ?_, ?_⟩ -- 35: slot 68 := Op.move t2   [guarded: some (33, true)]
    · obtain ⟨p66, -⟩ := hp
      change ρ (.tmp 66) = _ at p66
      obtain ⟨o2, -⟩ := ho
      change ρ (.tmp 2) = _ at o2
      refine turn_yes p66 (ok_is ?_ rfl)
      simp only [execOp, o2]; go_simp; try exact rfl
    refine ⟨fun ρ W ⟨hcst, hglb, hfun⟩ hX hp ho => ?_, ?_⟩ -- 36: slot 69 := Op.call { value (Operand.func 20), args := #[t67, t68], argTypes := #[31, 3] }   [guarded:
    · obtain ⟨p67, p68, p66, -⟩ := hp
      change ρ (.tmp 67) = _ at p67
      change ρ (.tmp 68) = _ at p68
      change ρ (.tmp 66) = _ at p66
      have hW := (Below.refl _ _).drew.trans hX
      refine turn_yes p66 ?_
      have ce := @enter_of Tryd.prog 20 _ Tryd.func20 (by kernel_rfl) (by kernel_rfl)
      refine ok_call (op_call2 hfun ce (by exact rfl) p67 p68) ?_
      refine (val_eq (.bool r) (by rw [HR.out]) (setHas_any A l.length c l x _ rfl Na.out (Sa.out.later (hW) (Nat.le_refl _)))).mono ?_
      rintro e W' ⟨rfl, rfl⟩
      exact ⟨_, rfl, Below.refl _ _, rfl⟩
    refine ⟨fun ρ W ⟨hcst, hglb, hfun⟩ hX hp ho => ?_, ?_⟩ -- 37: slot 70 := Op.move t0   [guarded: some (33, true)]
    · obtain ⟨p66, -⟩ := hp
      change ρ (.tmp 66) = _ at p66
      obtain ⟨o0, -⟩ := ho
      change ρ (.tmp 0) = _ at o0
      refine turn_yes p66 (ok_is ?_ rfl)
      simp only [execOp, o0]; go_simp; try exact rfl
    refine ⟨fun ρ W ⟨hcst, hglb, hfun⟩ hX hp ho => ?_, ?_⟩ -- 38: slot 71 := Op.move t2   [guarded: some (33, true)]
    · obtain ⟨p66, -⟩ := hp
      change ρ (.tmp 66) = _ at p66
      obtain ⟨o2, -⟩ := ho
      change ρ (.tmp 2) = _ at o2
      refine turn_yes p66 (ok_is ?_ rfl)
      simp only [execOp, o2]; go_simp; try exact rfl
    refine ⟨fun ρ W ⟨hcst, hglb, hfun⟩ hX hp ho => ?_, ?_⟩ -- 39: slot 72 := Op.call { value (Operand.func 21), args := #[t70, t71], argTypes := #[31, 3] }   [guarded:
    · obtain ⟨p70, p71, p66, -⟩ := hp
      change ρ (.tmp 70) = _ at p70
      change ρ (.tmp 71) = _ at p71
      change ρ (.tmp 66) = _ at p66
      have hW := (Below.refl _ _).drew.trans hX
      refine turn_yes p66 ?_
      have ce := @enter_of Tryd.prog 21 _ Tryd.func21 (by kernel_rfl) (by kernel_rfl)
      refine ok_call (op_call2 hfun ce (by exact rfl) p70 p71) ?_
      refine (val_eq (.bool r) (by rw [HR.out]) (refHas_any A l.length c l x _ rfl Na.out (Sa.out.later (hW) (Nat.le_refl _)))).mono ?_
      rintro e W' ⟨rfl, rfl⟩
      exact ⟨_, rfl, Below.refl _ _, rfl⟩
    refine ⟨fun ρ W ⟨hcst, hglb, hfun⟩ hX hp ho => ?_, ?_⟩ -- 40: slot 73 := Op.binOp BinOp.eql 4 t69 t72 4   [guarded: some (33, true)]
    · obtain ⟨p69, p72, p66, -⟩ := hp
      change ρ (.tmp 69) = _ at p69
      change ρ (.tmp 72) = _ at p72
      change ρ (.tmp 66) = _ at p66
      refine turn_yes p66 (ok_is ?_ rfl)
      simp only [execOp, p69, p72]; go_simp; try exact rfl
    refine ⟨fun ρ W ⟨hcst, hglb, hfun⟩ hX hp ho => ?_, ?_⟩ -- 41: slot 74 := Op.pick t66 t73 (const (Value.bool false))
    · obtain ⟨p66, p73, -⟩ := hp
      change ρ (.tmp 66) = _ at p66
      change ρ (.tmp 73) = _ at p73
      refine turn_plain (ok_is ?_ rfl)
      simp only [execOp, hcst, p66, p73]; go_simp; try exact rfl
    refine ⟨fun ρ W ⟨hcst, hglb, hfun⟩ hX hp ho => ?_, ?_⟩ -- 42: slot 75 := Op.move t74
    · obtain ⟨p74, -⟩ := hp
      change ρ (.tmp 74) = _ at p74
      refine turn_plain (ok_is ?_ rfl)
      simp only [execOp, p74]; go_simp; try exact rfl
    refine ⟨fun ρ W ⟨hcst, hglb, hfun⟩ hX hp ho => ?_, ?_⟩ -- 43: slot 76 := Op.move t0   [guarded: some (42, true)]
    · obtain ⟨p75, -⟩ := hp
      change ρ (.tmp 75) = _ at p75
      obtain ⟨o0, -⟩ := ho
      change ρ (.tmp 0) = _ at o0
      refine turn_yes p75 (ok_is ?_ rfl)
      simp only [execOp, o0]; go_simp; try exact rfl
    refine ⟨fun ρ W ⟨hcst, hglb, hfun⟩ hX hp ho => ?_, ?_⟩ -- 44: slot 77 := Op.move t1   [guarded: some (42, true)]
    · obtain ⟨p75, -⟩ := hp
      change ρ (.tmp 75) = _ at p75
      obtain ⟨o1, -⟩ := ho
      change ρ (.tmp 1) = _ at o1
      refine turn_yes p75 (ok_is ?_ rfl)
      simp only [execOp, o1]; go_simp; try exact rfl
    refine ⟨fun ρ W ⟨hcst, hglb, hfun⟩ hX hp ho => ?_, ?_⟩ -- 45: slot 78 := Op.call { value (Operand.func 22), args := #[t76, t77], argTypes := #[31, 31] }   [guarded
    · obtain ⟨p76, p77, p75, -⟩ := hp
      change ρ (.tmp 76) = _ at p76
      change ρ (.tmp 77) = _ at p77
      change ρ (.tmp 75) = _ at p75
      have hW := (Below.refl _ _).drew.trans hX
      refine turn_yes p75 ?_
      have ce := @enter_of Tryd.prog 22 _ Tryd.func22 (by kernel_rfl) (by kernel_rfl)
      refine ok_call (op_call2 hfun ce (by exact rfl) p76 p77) ?_
      refine (sl_eq (P := fun _ _ => True) L0 L0.length HL0.out rfl (setEither_any A l.length c l A2 l2.length c2 l2 _ rfl Na.out (Sa.out.later (hW) (Nat.le_refl _)) rfl Nb.out (Sb.out.later (hW) (Nat.le_refl _)))).mono ?_
      rintro e W' ⟨A9, c9, rfl, hat9, bel⟩
      exact ⟨_, rfl, bel, A9, c9, rfl, hat9⟩
    refine ⟨fun ρ W ⟨hcst, hglb, hfun⟩ hX hp ho => ?_, ?_⟩ -- 46: slot 79 := Op.move t0   [guarded: some (42, true)]
    · obtain ⟨p75, -⟩ := hp
      change ρ (.tmp 75) = _ at p75
      obtain ⟨o0, -⟩ := ho
      change ρ (.tmp 0) = _ at o0
      refine turn_yes p75 (ok_is ?_ rfl)
      simp only [execOp, o0]; go_simp; try exact rfl
    refine ⟨fun ρ W ⟨hcst, hglb, hfun⟩ hX hp ho => ?_, ?_⟩ -- 47: slot 80 := Op.move t1   [guarded: some (42, true)]
    · obtain ⟨p75, -⟩ := hp
      change ρ (.tmp 75) = _ at p75
      obtain ⟨o1, -⟩ := ho
      change ρ (.tmp 1) = _ at o1
      refine turn_yes p75 (ok_is ?_ rfl)
      simp only [execOp, o1]; go_simp; try exact rfl
    refine ⟨fun ρ W ⟨hcst, hglb, hfun⟩ hX hp ho => ?_, ?_⟩ -- 48: slot 81 := Op.call { value (Operand.func 23), args := #[t79, t80, const (0:i64)], argTypes := #[31, 3
    · obtain ⟨p79, p80, p75, -⟩ := hp
      change ρ (.tmp 79) = _ at p79
      change ρ (.tmp 80) = _ at p80
      change ρ (.tmp 75) = _ at p75
      have hW := (Below.refl _ _).drew.trans hX
      refine turn_yes p75 ?_
      have ce := @enter_of Tryd.prog 23 _ Tryd.func23 (by kernel_rfl) (by kernel_rfl)
      refine ok_call (op_call3 hfun ce (by exact rfl) p79 p80 (hcst _)) ?_
      refine (sl_eq (P := fun _ _ => True) L0 L0.length HL0.out rfl (refSome0_any A l.length c l A2 l2.length c2 l2 _ rfl Na.out (Sa.out.later (hW) (Nat.le_refl _)) rfl Nb.out (Sb.out.later (hW) (Nat.le_refl _)))).mono ?_
      rintro e W' ⟨A9, c9, rfl, hat9, bel⟩
      exact ⟨_, rfl, bel, A9, c9, rfl, hat9⟩
    refine ⟨fun ρ W ⟨hcst, hglb, hfun⟩ hX hp ho => ?_, ?_⟩ -- 49: slot 82 := Op.call { value (Operand.func 17), args := #[t78, t81], argTypes := #[31, 31] }   [guarded
    · obtain ⟨p78, p81, p75, -⟩ := hp
      obtain ⟨A78, c78, p78, hat78⟩ := p78
      change ρ (.tmp 78) = _ at p78
      obtain ⟨A81, c81, p81, hat81⟩ := p81
      change ρ (.tmp 81) = _ at p81
      change ρ (.tmp 75) = _ at p75
      have hW := (Below.refl _ _).drew.trans hX
      refine turn_yes p75 ?_
      have ce := @enter_of Tryd.prog 17 _ Tryd.func17 (by kernel_rfl) (by kernel_rfl)
      refine ok_call (op_call2 hfun ce (by exact rfl) p78 p81) ?_
      refine (valB_eq (.bool true) (by simp) (ints15_any A78 L0.length c78 L0 A81 L0.length c81 L0 _ rfl NL0.out hat78 rfl NL0.out hat81)).mono ?_
      rintro e W' ⟨rfl, bel⟩
      exact ⟨_, rfl, bel, rfl⟩
    refine ⟨fun ρ W ⟨hcst, hglb, hfun⟩ hX hp ho => ?_, ?_⟩ -- 50: slot 83 := Op.pick t75 t82 (const (Value.bool false))
    · obtain ⟨p75, p82, -⟩ := hp
      change ρ (.tmp 75) = _ at p75
      change ρ (.tmp 82) = _ at p82
      refine turn_plain (ok_is ?_ rfl)
      simp only [execOp, hcst, p75, p82]; go_simp; try exact rfl
    refine ⟨fun ρ W ⟨hcst, hglb, hfun⟩ hX hp ho => ?_, ?_⟩ -- 51: slot 84 := Op.move t83
    · obtain ⟨p83, -⟩ := hp
      change ρ (.tmp 83) = _ at p83
      refine turn_plain (ok_is ?_ rfl)
      simp only [execOp, p83]; go_simp; try exact rfl
    refine ⟨fun ρ W ⟨hcst, hglb, hfun⟩ hX hp ho => ?_, ?_⟩ -- 52: slot 85 := Op.move t0   [guarded: some (51, true)]
    · obtain ⟨p84, -⟩ := hp
      change ρ (.tmp 84) = _ at p84
      obtain ⟨o0, -⟩ := ho
      change ρ (.tmp 0) = _ at o0
      refine turn_yes p84 (ok_is ?_ rfl)
      simp only [execOp, o0]; go_simp; try exact rfl
    refine ⟨fun ρ W ⟨hcst, hglb, hfun⟩ hX hp ho => ?_, ?_⟩ -- 53: slot 86 := Op.move t1   [guarded: some (51, true)]
    · obtain ⟨p84, -⟩ := hp
      change ρ (.tmp 84) = _ at p84
      obtain ⟨o1, -⟩ := ho
      change ρ (.tmp 1) = _ at o1
      refine turn_yes p84 (ok_is ?_ rfl)
      simp only [execOp, o1]; go_simp; try exact rfl
    refine ⟨fun ρ W ⟨hcst, hglb, hfun⟩ hX hp ho => ?_, ?_⟩ -- 54: slot 87 := Op.call { value (Operand.func 24), args := #[t85, t86], argTypes := #[31, 31] }   [guarded
    · obtain ⟨p85, p86, p84, -⟩ := hp
      change ρ (.tmp 85) = _ at p85
      change ρ (.tmp 86) = _ at p86
      change ρ (.tmp 84) = _ at p84
      have hW := (Below.refl _ _).drew.trans hX
      refine turn_yes p84 ?_
      have ce := @enter_of Tryd.prog 24 _ Tryd.func24 (by kernel_rfl) (by kernel_rfl)
      refine ok_call (op_call2 hfun ce (by exact rfl) p85 p86) ?_
      refine (sl_eq (P := fun _ _ => True) L1 L1.length HL1.out rfl (setBoth_any A l.length c l A2 l2.length c2 l2 _ rfl Na.out (Sa.out.later (hW) (Nat.le_refl _)) rfl Nb.out (Sb.out.later (hW) (Nat.le_refl _)))).mono ?_
      rintro e W' ⟨A9, c9, rfl, hat9, bel⟩
      exact ⟨_, rfl, bel, A9, c9, rfl, hat9⟩
    refine ⟨fun ρ W ⟨hcst, hglb, hfun⟩ hX hp ho => ?_, ?_⟩ -- 55: slot 88 := Op.move t0   [guarded: some (51, true)]
    · obtain ⟨p84, -⟩ := hp
      change ρ (.tmp 84) = _ at p84
      obtain ⟨o0, -⟩ := ho
      change ρ (.tmp 0) = _ at o0
      refine turn_yes p84 (ok_is ?_ rfl)
      simp only [execOp, o0]; go_simp; try exact rfl
    refine ⟨fun ρ W ⟨hcst, hglb, hfun⟩ hX hp ho => ?_, ?_⟩ -- 56: slot 89 := Op.move t1   [guarded: some (51, true)]
    · obtain ⟨p84, -⟩ := hp
      change ρ (.tmp 84) = _ at p84
      obtain ⟨o1, -⟩ := ho
      change ρ (.tmp 1) = _ at o1
      refine turn_yes p84 (ok_is ?_ rfl)
      simp only [execOp, o1]; go_simp; try exact rfl
    refine ⟨fun ρ W ⟨hcst, hglb, hfun⟩ hX hp ho => ?_, ?_⟩ -- 57: slot 90 := Op.call { value (Operand.func 23), args := #[t88, t89, const (1:i64)], argTypes := #[31, 3
    · obtain ⟨p88, p89, p84, -⟩ := hp
      change ρ (.tmp 88) = _ at p88
      change ρ (.tmp 89) = _ at p89
      change ρ (.tmp 84) = _ at p84
      have hW := (Below.refl _ _).drew.trans hX
      refine turn_yes p84 ?_
      have ce := @enter_of Tryd.prog 23 _ Tryd.func23 (by kernel_rfl) (by kernel_rfl)
      refine ok_call (op_call3 hfun ce (by exact rfl) p88 p89 (hcst _)) ?_
      refine (sl_eq (P := fun _ _ => True) L1 L1.length HL1.out rfl (refSome1_any A l.length c l A2 l2.length c2 l2 _ rfl Na.out (Sa.out.later (hW) (Nat.le_refl _)) rfl Nb.out (Sb.out.later (hW) (Nat.le_refl _)))).mono ?_
      rintro e W' ⟨A9, c9, rfl, hat9, bel⟩
      exact ⟨_, rfl, bel, A9, c9, rfl, hat9⟩
    refine ⟨fun ρ W ⟨hcst, hglb, hfun⟩ hX hp ho => ?_, ?_⟩ -- 58: slot 91 := Op.call { value (Operand.func 17), args := #[t87, t90], argTypes := #[31, 31] }   [guarded
    · obtain ⟨p87, p90, p84, -⟩ := hp
      obtain ⟨A87, c87, p87, hat87⟩ := p87
      change ρ (.tmp 87) = _ at p87
      obtain ⟨A90, c90, p90, hat90⟩ := p90
      change ρ (.tmp 90) = _ at p90
      change ρ (.tmp 84) = _ at p84
      have hW := (Below.refl _ _).drew.trans hX
      refine turn_yes p84 ?_
      have ce := @enter_of Tryd.prog 17 _ Tryd.func17 (by kernel_rfl) (by kernel_rfl)
      refine ok_call (op_call2 hfun ce (by exact rfl) p87 p90) ?_
      refine (valB_eq (.bool true) (by simp) (ints15_any A87 L1.length c87 L1 A90 L1.length c90 L1 _ rfl NL1.out hat87 rfl NL1.out hat90)).mono ?_
      rintro e W' ⟨rfl, bel⟩
      exact ⟨_, rfl, bel, rfl⟩
    refine ⟨fun ρ W ⟨hcst, hglb, hfun⟩ hX hp ho => ?_, ?_⟩ -- 59: slot 92 := Op.pick t84 t91 (const (Value.bool false))
    · obtain ⟨p84, p91, -⟩ := hp
      change ρ (.tmp 84) = _ at p84
      change ρ (.tmp 91) = _ at p91
      refine turn_plain (ok_is ?_ rfl)
      simp only [execOp, hcst, p84, p91]; go_simp; try exact rfl
    refine ⟨fun ρ W ⟨hcst, hglb, hfun⟩ hX hp ho => ?_, ?_⟩ -- 60: slot 93 := Op.move t92
    · obtain ⟨p92, -⟩ := hp
      change ρ (.tmp 92) = _ at p92
      refine turn_plain (ok_is ?_ rfl)
      simp only [execOp, p92]; go_simp; try exact rfl
    refine ⟨fun ρ W ⟨hcst, hglb, hfun⟩ hX hp ho => ?_, ?_⟩ -- 61: slot 94 := Op.move t0   [guarded: some (60, true)]
    · obtain ⟨p93, -⟩ := hp
      change ρ (.tmp 93) = _ at p93
      obtain ⟨o0, -⟩ := ho
      change ρ (.tmp 0) = _ at o0
      refine turn_yes p93 (ok_is ?_ rfl)
      simp only [execOp, o0]; go_simp; try exact rfl
    refine ⟨fun ρ W ⟨hcst, hglb, hfun⟩ hX hp ho => ?_, ?_⟩ -- 62: slot 95 := Op.move t1   [guarded: some (60, true)]
    · obtain ⟨p93, -⟩ := hp
      change ρ (.tmp 93) = _ at p93
      obtain ⟨o1, -⟩ := ho
      change ρ (.tmp 1) = _ at o1
      refine turn_yes p93 (ok_is ?_ rfl)
      simp only [execOp, o1]; go_simp; try exact rfl
    refine ⟨fun ρ W ⟨hcst, hglb, hfun⟩ hX hp ho => ?_, ?_⟩ -- 63: slot 96 := Op.call { value (Operand.func 25), args := #[t94, t95], argTypes := #[31, 31] }   [guarded
    · obtain ⟨p94, p95, p93, -⟩ := hp
      change ρ (.tmp 94) = _ at p94
      change ρ (.tmp 95) = _ at p95
      change ρ (.tmp 93) = _ at p93
      have hW := (Below.refl _ _).drew.trans hX
      refine turn_yes p93 ?_
      have ce := @enter_of Tryd.prog 25 _ Tryd.func25 (by kernel_rfl) (by kernel_rfl)
      refine ok_call (op_call2 hfun ce (by exact rfl) p94 p95) ?_
      refine (sl_eq (P := fun _ _ => True) L2 L2.length HL2.out rfl (setLess_any A l.length c l A2 l2.length c2 l2 _ rfl Na.out (Sa.out.later (hW) (Nat.le_refl _)) rfl Nb.out (Sb.out.later (hW) (Nat.le_refl _)))).mono ?_
      rintro e W' ⟨A9, c9, rfl, hat9, bel⟩
      exact ⟨_, rfl, bel, A9, c9, rfl, hat9⟩
    refine ⟨fun ρ W ⟨hcst, hglb, hfun⟩ hX hp ho => ?_, ?_⟩ -- 64: slot 97 := Op.move t0   [guarded: some (60, true)]
    · obtain ⟨p93, -⟩ := hp
      change ρ (.tmp 93) = _ at p93
      obtain ⟨o0, -⟩ := ho
      change ρ (.tmp 0) = _ at o0
      refine turn_yes p93 (ok_is ?_ rfl)
      simp only [execOp, o0]; go_simp; try exact rfl
    refine ⟨fun ρ W ⟨hcst, hglb, hfun⟩ hX hp ho => ?_, ?_⟩ -- 65: slot 98 := Op.move t1   [guarded: some (60, true)]
    · obtain ⟨p93, -⟩ := hp
      change ρ (.tmp 93) = _ at p93
      obtain ⟨o1, -⟩ := ho
      change ρ (.tmp 1) = _ at o1
      refine turn_yes p93 (ok_is ?_ rfl)
      simp only [execOp, o1]; go_simp; try exact rfl
    refine ⟨fun ρ W ⟨hcst, hglb, hfun⟩ hX hp ho => ?_, ?_⟩ -- 66: slot 99 := Op.call { value (Operand.func 23), args := #[t97, t98, const (2:i64)], argTypes := #[31, 3
    · obtain ⟨p97, p98, p93, -⟩ := hp
      change ρ (.tmp 97) = _ at p97
      change ρ (.tmp 98) = _ at p98
      change ρ (.tmp 93) = _ at p93
      have hW := (Below.refl _ _).drew.trans hX
      refine turn_yes p93 ?_
      have ce := @enter_of Tryd.prog 23 _ Tryd.func23 (by kernel_rfl) (by kernel_rfl)
      refine ok_call (op_call3 hfun ce (by exact rfl) p97 p98 (hcst _)) ?_
      refine (sl_eq (P := fun _ _ => True) L2 L2.length HL2.out rfl (refSome2_any A l.length c l A2 l2.length c2 l2 _ rfl Na.out (Sa.out.later (hW) (Nat.le_refl _)) rfl Nb.out (Sb.out.later (hW) (Nat.le_refl _)))).mono ?_
      rintro e W' ⟨A9, c9, rfl, hat9, bel⟩
      exact ⟨_, rfl, bel, A9, c9, rfl, hat9⟩
    refine ⟨fun ρ W ⟨hcst, hglb, hfun⟩ hX hp ho => ?_, ?_⟩ -- 67: slot 100 := Op.call { value (Operand.func 17), args := #[t96, t99], argTypes := #[31, 31] }   [guarded
    · obtain ⟨p96, p99, p93, -⟩ := hp
      obtain ⟨A96, c96, p96, hat96⟩ := p96
      change ρ (.tmp 96) = _ at p96
      obtain ⟨A99, c99, p99, hat99⟩ := p99
      change ρ (.tmp 99) = _ at p99
      change ρ (.tmp 93) = _ at p93
      have hW := (Below.refl _ _).drew.trans hX
      refine turn_yes p93 ?_
      have ce := @enter_of Tryd.prog 17 _ Tryd.func17 (by kernel_rfl) (by kernel_rfl)
      refine ok_call (op_call2 hfun ce (by exact rfl) p96 p99) ?_
      refine (valB_eq (.bool true) (by simp) (ints15_any A96 L2.length c96 L2 A99 L2.length c99 L2 _ rfl NL2.out hat96 rfl NL2.out hat99)).mono ?_
      rintro e W' ⟨rfl, bel⟩
      exact ⟨_, rfl, bel, rfl⟩
    refine ⟨fun ρ W ⟨hcst, hglb, hfun⟩ hX hp ho => ?_, ?_⟩ -- 68: slot 101 := Op.pick t93 t100 (const (Value.bool false))
    · obtain ⟨p93, p100, -⟩ := hp
      change ρ (.tmp 93) = _ at p93
      change ρ (.tmp 100) = _ at p100
      refine turn_plain (ok_is ?_ rfl)
      simp only [execOp, hcst, p93, p100]; go_simp; try exact rfl
    refine ⟨fun ρ W ⟨hcst, hglb, hfun⟩ hX hp ho => ?_, ?_⟩ -- 69: slot 102 := Op.move t101
    · obtain ⟨p101, -⟩ := hp
      change ρ (.tmp 101) = _ at p101
      refine turn_plain (ok_is ?_ rfl)
      simp only [execOp, p101]; go_simp; try exact rfl
    refine ⟨fun ρ W ⟨hcst, hglb, hfun⟩ hX hp ho => ?_, ?_⟩ -- 70: slot 103 := Op.move t0   [guarded: some (69, true)]
    · obtain ⟨p102, -⟩ := hp
      change ρ (.tmp 102) = _ at p102
      obtain ⟨o0, -⟩ := ho
      change ρ (.tmp 0) = _ at o0
      refine turn_yes p102 (ok_is ?_ rfl)
      simp only [execOp, o0]; go_simp; try exact rfl
    refine ⟨fun ρ W ⟨hcst, hglb, hfun⟩ hX hp ho => ?_, ?_⟩ -- 71: slot 104 := Op.call { value (Operand.func 26), args := #[t103], argTypes := #[31] }   [guarded: some (
    · obtain ⟨p103, p102, -⟩ := hp
      change ρ (.tmp 103) = _ at p103
      change ρ (.tmp 102) = _ at p102
      have hW := (Below.refl _ _).drew.trans hX
      refine turn_yes p102 ?_
      have ce := @enter_of Tryd.prog 26 _ Tryd.func26 (by kernel_rfl) (by kernel_rfl)
      refine ok_call (op_call1 hfun ce (by exact rfl) p103) ?_
      refine (val_eq (.int .u64 (v : Nat)) (by rw [HV.out]) (setBits_any A l.length c l _ rfl Na.out (Sa.out.later (hW) (Nat.le_refl _)))).mono ?_
      rintro e W' ⟨rfl, rfl⟩
      exact ⟨_, rfl, Below.refl _ _, rfl⟩
    refine ⟨fun ρ W ⟨hcst, hglb, hfun⟩ hX hp ho => ?_, ?_⟩ -- 72: slot 105 := Op.move t0   [guarded: some (69, true)]
    · obtain ⟨p102, -⟩ := hp
      change ρ (.tmp 102) = _ at p102
      obtain ⟨o0, -⟩ := ho
      change ρ (.tmp 0) = _ at o0
      refine turn_yes p102 (ok_is ?_ rfl)
      simp only [execOp, o0]; go_simp; try exact rfl
    refine ⟨fun ρ W ⟨hcst, hglb, hfun⟩ hX hp ho => ?_, ?_⟩ -- 73: slot 106 := Op.call { value (Operand.func 27), args := #[t105], argTypes := #[31] }   [guarded: some (
    · obtain ⟨p105, p102, -⟩ := hp
      change ρ (.tmp 105) = _ at p105
      change ρ (.tmp 102) = _ at p102
      have hW := (Below.refl _ _).drew.trans hX
      refine turn_yes p102 ?_
      have ce := @enter_of Tryd.prog 27 _ Tryd.func27 (by kernel_rfl) (by kernel_rfl)
      refine ok_call (op_call1 hfun ce (by exact rfl) p105) ?_
      refine (val_eq (.int .u64 (v : Nat)) (by rw [HV.out]) (refBits_any A l.length c l _ rfl Na.out (Sa.out.later (hW) (Nat.le_refl _)))).mono ?_
      rintro e W' ⟨rfl, rfl⟩
      exact ⟨_, rfl, Below.refl _ _, rfl⟩
    refine ⟨fun ρ W ⟨hcst, hglb, hfun⟩ hX hp ho => ?_, ?_⟩ -- 74: slot 107 := Op.binOp BinOp.eql 43 t104 t106 43   [guarded: some (69, true)]
    · obtain ⟨p104, p106, p102, -⟩ := hp
      change ρ (.tmp 104) = _ at p104
      change ρ (.tmp 106) = _ at p106
      change ρ (.tmp 102) = _ at p102
      refine turn_yes p102 (ok_is ?_ rfl)
      simp only [execOp, p104, p106]; go_simp; try exact rfl
    refine ⟨fun ρ W ⟨hcst, hglb, hfun⟩ hX hp ho => ?_, ?_⟩ -- 75: slot 108 := Op.pick t102 t107 (const (Value.bool false))
    · obtain ⟨p102, p107, -⟩ := hp
      change ρ (.tmp 102) = _ at p102
      change ρ (.tmp 107) = _ at p107
      refine turn_plain (ok_is ?_ rfl)
      simp only [execOp, hcst, p102, p107]; go_simp; try exact rfl
    refine ⟨fun ρ W ⟨hcst, hglb, hfun⟩ hX hp ho => ?_, ?_⟩ -- 76: slot 109 := Op.move t108
    · obtain ⟨p108, -⟩ := hp
      change ρ (.tmp 108) = _ at p108
      refine turn_plain (ok_is ?_ rfl)
      simp only [execOp, p108]; go_simp; try exact rfl
    refine ⟨fun ρ W ⟨hcst, hglb, hfun⟩ hX hp ho => ?_, ?_⟩ -- 77: slot 110 := Op.call { value (Operand.func 13), args := #[], argTypes := #[] }   [guarded: some (76, tr
    · obtain ⟨p109, -⟩ := hp
      change ρ (.tmp 109) = _ at p109
      have hW := (Below.refl _ _).drew.trans hX
      refine turn_yes p109 ?_
      have ce := @enter_of Tryd.prog 13 _ Tryd.func13 (by kernel_rfl) (by kernel_rfl)
      refine ok_call (op_call0 hfun ce (by exact rfl) ) ?_
      refine (sure15 _ (HG.out.later (hW) (Nat.le_refl _))).mono ?_
      rintro e W' ⟨rfl, bel⟩
      exact ⟨_, rfl, bel, rfl⟩
    refine ⟨fun ρ W ⟨hcst, hglb, hfun⟩ hX hp ho => ?_, ?_⟩ -- 78: slot 111 := Op.pick t109 t110 (const (Value.bool false))
    · obtain ⟨p109, p110, -⟩ := hp
      change ρ (.tmp 109) = _ at p109
      change ρ (.tmp 110) = _ at p110
      refine turn_plain (ok_is ?_ rfl)
      simp only [execOp, hcst, p109, p110]; go_simp; try exact rfl
    refine ⟨fun ρ W ⟨hcst, hglb, hfun⟩ hX hp ho => ?_, ?_⟩ -- 79: slot 6 := Op.assign t111
    · obtain ⟨p111, -⟩ := hp
      change ρ (.tmp 111) = _ at p111
      refine turn_plain (ok_is ?_ rfl)
      simp only [execOp, p111]; go_simp; try exact rfl
    exact trivial
  case finc =>
    intro a W hX hsz hdf hold hR
    have hv := hR 79 6 rfl
    change a.tmps.getD 6 undef = _ at hv
    clear hold hR hsz
    go_wp2_with fail
    exact post_letter rfl hv hdf ⟨rfl, HB.out.trans (hX.mono HB.out.size)⟩
set_option maxRecDepth 100000 in
set_option maxHeartbeats 4000000 in
theorem tells_01 (A : Option Addr) (c : Nat) (l : List Int) (A2 : Option Addr) (c2 : Nat) (l2 : List Int) (x : Int) (w : World) (hl : l.length ≤ 100) (hl2 : l2.length ≤ 100) (ha : At w A (ints .i64 l)) (ha2 : At w A2 (ints .i64 l2)) (hg : Glob w) (hok : SetM.ok l = false) (hmay : SetM.may l = true) :
    Calls Tryd.prog 4 #[.slice A l.length c, .slice A2 l2.length c2, .int .i64 x] w fun e w' => e = .returned (.bool true) ∧ Below w.heap.size w w' := by
  have HG := Lib.hid hg
  have Sa := Lib.hid ha
  have Sb := Lib.hid ha2
  have Na := Lib.hid (show l.length ≤ 9223372036854775807 by omega)
  have Nb := Lib.hid (show l2.length ≤ 9223372036854775807 by omega)
  have HOK := Lib.hid hok
  have HMAY := Lib.hid hmay
  obtain ⟨r, hr⟩ : ∃ r, SetM.has l x = r := ⟨_, rfl⟩
  have HR := Lib.hid hr
  obtain ⟨L, hL⟩ : ∃ L, SetM.elems (SetM.bitsOf l) = L := ⟨_, rfl⟩
  have HL := Lib.hid hL
  have NL := Lib.hid (hL ▸ elems_len _ : L.length ≤ 9223372036854775807)
  obtain ⟨v, hv⟩ : ∃ v, SetM.bitsOf l = v := ⟨_, rfl⟩
  have HV := Lib.hid hv
  obtain ⟨L0, hL0⟩ : ∃ L, SetM.elems (SetM.op 0 (SetM.bitsOf l) (SetM.bitsOf l2)) = L := ⟨_, rfl⟩
  have HL0 := Lib.hid hL0
  have NL0 := Lib.hid (hL0 ▸ elems_len _ : L0.length ≤ 9223372036854775807)
  obtain ⟨L1, hL1⟩ : ∃ L, SetM.elems (SetM.op 1 (SetM.bitsOf l) (SetM.bitsOf l2)) = L := ⟨_, rfl⟩
  have HL1 := Lib.hid hL1
  have NL1 := Lib.hid (hL1 ▸ elems_len _ : L1.length ≤ 9223372036854775807)
  obtain ⟨L2, hL2⟩ : ∃ L, SetM.elems (SetM.op 2 (SetM.bitsOf l) (SetM.bitsOf l2)) = L := ⟨_, rfl⟩
  have HL2 := Lib.hid hL2
  have NL2 := Lib.hid (hL2 ▸ elems_len _ : L2.length ≤ 9223372036854775807)
  clear ha ha2 hg hok hmay hr hL hv hL0 hL1 hL2
  go_enter Tryd.func4, Tryd.ntmps4
  have HB := Lib.hid (Below.refl w.heap.size w)
  go_wp2_with fail
  refine (of_bad HOK.out (setOf_any A l.length c l _ rfl Na.out Sa.out)).mono ?_
  rintro e w1 ⟨A_l, c_l, rfl, bel⟩
  replace HB := Lib.hid (HB.out.trans (bel.mono HB.out.size))
  replace Sa := Lib.hid (Sa.out.later bel (Nat.le_refl _))
  replace Sb := Lib.hid (Sb.out.later bel (Nat.le_refl _))
  replace HG := Lib.hid (HG.out.later bel (Nat.le_refl _))
  clear bel
  have Sl := Lib.hid (show At w1 A_l (ints .i64 []) from At.nil _ _)
  have Nl := Lib.hid (show (0 : Nat) ≤ 9223372036854775807 by decide)
  go_wp2_with fail
  refine (refof_bad HOK.out (refOf_any A l.length c l _ rfl Na.out Sa.out)).mono ?_
  rintro e w2 ⟨A_m, c_m, rfl, bel⟩
  replace HB := Lib.hid (HB.out.trans (bel.mono HB.out.size))
  replace Sa := Lib.hid (Sa.out.later bel (Nat.le_refl _))
  replace Sb := Lib.hid (Sb.out.later bel (Nat.le_refl _))
  replace Sl := Lib.hid (Sl.out.later bel (Nat.le_refl _))
  replace HG := Lib.hid (HG.out.later bel (Nat.le_refl _))
  clear bel
  have Sm := Lib.hid (show At w2 A_m (ints .i64 []) from At.nil _ _)
  have Nm := Lib.hid (show (0 : Nat) ≤ 9223372036854775807 by decide)
  go_wp2_with fail
  refine (val_eq (.nilIface) (by rw [HMAY.out]; rfl) (setCheck_any A l.length c l _ rfl Na.out Sa.out)).mono ?_
  rintro e w' ⟨rfl, rfl⟩
  go_wp2_with fail
  refine wp_region_last [is ?c0, is ?c1, is (.bool true), is ?c3, is ?c4, is ?c5, is ?c6, is ?c7, is ?c8, is ?c9, is ?c10, is ?c11, is ?c12, is (.int .i64 1), is ?c14, is ?c15, is ?c16, is ?c17, is ?c18, is ?c19, is ?c20, is (.bool true), is ?c22, is ?c23, is ?c24, is ?c25, is ?c26, is ?c27, is (undef), is (undef), is (undef), is ?c31, is ?c32, is ?c33, is ?c34, is ?c35, is (.bool r), is ?c37, is ?c38, is (.bool r), is ?c40, is ?c41, is ?c42, is ?c43, is ?c44, SlR L0 L0.length, is ?c46, is ?c47, SlR L0 L0.length, is (.bool true), is ?c50, is ?c51, is ?c52, is ?c53, SlR L1 L1.length, is ?c55, is ?c56, SlR L1 L1.length, is (.bool true), is ?c59, is ?c60, is ?c61, is ?c62, SlR L2 L2.length, is ?c64, is ?c65, SlR L2 L2.length, is (.bool true), is ?c68, is ?c69, is ?c70, is (.int .u64 (v : Nat)), is ?c72, is (.int .u64 (v : Nat)), is ?c74, is ?c75, is ?c76, is (.bool true), is ?c78, is ?c79]
    [⟨[], [7], none⟩, ⟨[], [9], none⟩, ⟨[(33, 0), (34, 1)], [], none⟩, ⟨[(35, 2)], [], none⟩, ⟨[(36, 3)], [8], some (36, true)⟩, ⟨[(37, 4), (36, 3)], [], some (36, true)⟩, ⟨[(36, 3)], [10], some (36, true)⟩, ⟨[(38, 5), (39, 6), (36, 3)], [], some (36, true)⟩, ⟨[(36, 3), (40, 7)], [], none⟩, ⟨[(41, 8)], [], none⟩, ⟨[(42, 9)], [10], some (42, true)⟩, ⟨[(43, 10), (42, 9)], [], some (42, true)⟩, ⟨[(44, 11)], [8], some (44, false)⟩, ⟨[(45, 12), (44, 11)], [], some (44, false)⟩, ⟨[(46, 13), (44, 11)], [], some (44, false)⟩, ⟨[(44, 11), (47, 14), (42, 9)], [], some (42, true)⟩, ⟨[(42, 9), (48, 15)], [], none⟩, ⟨[(49, 16)], [], none⟩, ⟨[(50, 17)], [11], some (50, true)⟩, ⟨[(51, 18), (50, 17)], [], some (50, true)⟩, ⟨[(50, 17)], [0], some (50, true)⟩, ⟨[(53, 20), (50, 17)], [], some (50, true)⟩, ⟨[(52, 19), (54, 21), (50, 17)], [], some (50, true)⟩, ⟨[(50, 17), (55, 22)], [], none⟩, ⟨[(56, 23)], [], none⟩, ⟨[(57, 24)], [11], some (57, true)⟩, ⟨[(58, 25), (57, 24)], [], some (57, true)⟩, ⟨[(59, 26), (57, 24)], [], some (57, true)⟩, ⟨[(60, 27)], [11], some (60, false)⟩, ⟨[(61, 28), (60, 27)], [], some (60, false)⟩, ⟨[(62, 29), (60, 27)], [], some (60, false)⟩, ⟨[(60, 27), (63, 30), (57, 24)], [], some (57, true)⟩, ⟨[(57, 24), (64, 31)], [], none⟩, ⟨[(65, 32)], [], none⟩, ⟨[(66, 33)], [0], some (66, true)⟩, ⟨[(66, 33)], [2], some (66, true)⟩, ⟨[(67, 34), (68, 35), (66, 33)], [], some (66, true)⟩, ⟨[(66, 33)], [0], some (66, true)⟩, ⟨[(66, 33)], [2], some (66, true)⟩, ⟨[(70, 37), (71, 38), (66, 33)], [], some (66, true)⟩, ⟨[(69, 36), (72, 39), (66, 33)], [], some (66, true)⟩, ⟨[(66, 33), (73, 40)], [], none⟩, ⟨[(74, 41)], [], none⟩, ⟨[(75, 42)], [0], some (75, true)⟩, ⟨[(75, 42)], [1], some (75, true)⟩, ⟨[(76, 43), (77, 44), (75, 42)], [], some (75, true)⟩, ⟨[(75, 42)], [0], some (75, true)⟩, ⟨[(75, 42)], [1], some (75, true)⟩, ⟨[(79, 46), (80, 47), (75, 42)], [], some (75, true)⟩, ⟨[(78, 45), (81, 48), (75, 42)], [], some (75, true)⟩, ⟨[(75, 42), (82, 49)], [], none⟩, ⟨[(83, 50)], [], none⟩, ⟨[(84, 51)], [0], some (84, true)⟩, ⟨[(84, 51)], [1], some (84, true)⟩, ⟨[(85, 52), (86, 53), (84, 51)], [], some (84, true)⟩, ⟨[(84, 51)], [0], some (84, true)⟩, ⟨[(84, 51)], [1], some (84, true)⟩, ⟨[(88, 55), (89, 56), (84, 51)], [], some (84, true)⟩, ⟨[(87, 54), (90, 57), (84, 51)], [], some (84, true)⟩, ⟨[(84, 51), (91, 58)], [], none⟩, ⟨[(92, 59)], [], none⟩, ⟨[(93, 60)], [0], some (93, true)⟩, ⟨[(93, 60)], [1], some (93, true)⟩, ⟨[(94, 61), (95, 62), (93, 60)], [], some (93, true)⟩, ⟨[(93, 60)], [0], some (93, true)⟩, ⟨[(93, 60)], [1], some (93, true)⟩, ⟨[(97, 64), (98, 65), (93, 60)], [], some (93, true)⟩, ⟨[(96, 63), (99, 66), (93, 60)], [], some (93, true)⟩, ⟨[(93, 60), (100, 67)], [], none⟩, ⟨[(101, 68)], [], none⟩, ⟨[(102, 69)], [0], some (102, true)⟩, ⟨[(103, 70), (102, 69)], [], some (102, true)⟩, ⟨[(102, 69)], [0], some (102, true)⟩, ⟨[(105, 72), (102, 69)], [], some (102, true)⟩, ⟨[(104, 71), (106, 73), (102, 69)], [], some (102, true)⟩, ⟨[(102, 69), (107, 74)], [], none⟩, ⟨[(108, 75)], [], none⟩, ⟨[(109, 76)], [], some (109, true)⟩, ⟨[(109, 76), (110, 77)], [], none⟩, ⟨[(111, 78)], [], none⟩] (by kernel_rfl) (by kernel_rfl) (by kernel_rfl) (by kernel_rfl) (by kernel_rfl) ?monoc ?stepsc ?finc
  case monoc => exact ⟨mono_eq _, mono_eq _, mono_eq _, mono_eq _, mono_eq _, mono_eq _, mono_eq _, mono_eq _, mono_eq _, mono_eq _, mono_eq _, mono_eq _, mono_eq _, mono_eq _, mono_eq _, mono_eq _, mono_eq _, mono_eq _, mono_eq _, mono_eq _, mono_eq _, mono_eq _, mono_eq _, mono_eq _, mono_eq _, mono_eq _, mono_eq _, mono_eq _, mono_eq _, mono_eq _, mono_eq _, mono_eq _, mono_eq _, mono_eq _, mono_eq _, mono_eq _, mono_eq _, mono_eq _, mono_eq _, mono_eq _, mono_eq _, mono_eq _, mono_eq _, mono_eq _, mono_eq _, mono_sl _ _, mono_eq _, mono_eq _, mono_sl _ _, mono_eq _, mono_eq _, mono_eq _, mono_eq _, mono_eq _, mono_sl _ _, mono_eq _, mono_eq _, mono_sl _ _, mono_eq _, mono_eq _, mono_eq _, mono_eq _, mono_eq _, mono_sl _ _, mono_eq _, mono_eq _, mono_sl _ _, mono_eq _, mono_eq _, mono_eq _, mono_eq _, mono_eq _, mono_eq _, mono_eq _, mono_eq _, mono_eq _, mono_eq _, mono_eq _, mono_eq _, mono_eq _, trivial⟩
  case stepsc =>
    refine ⟨fun ρ W ⟨hcst, hglb, hfun⟩ hX hp ho => ?_, ?_⟩ -- 0: slot 33 := Op.move t7
    · obtain ⟨o7, -⟩ := ho
      change ρ (.tmp 7) = _ at o7
      refine turn_plain (ok_is ?_ rfl)
      simp only [execOp, o7]; go_simp; try exact rfl
    refine ⟨fun ρ W ⟨hcst, hglb, hfun⟩ hX hp ho => ?_, ?_⟩ -- 1: slot 34 := Op.move t9
    · obtain ⟨o9, -⟩ := ho
      change ρ (.tmp 9) = _ at o9
      refine turn_plain (ok_is ?_ rfl)
      simp only [execOp, o9]; go_simp; try exact rfl
    refine ⟨fun ρ W ⟨hcst, hglb, hfun⟩ hX hp ho => ?_, ?_⟩ -- 2: slot 35 := Op.call { value (Operand.func 17), args := #[t33, t34], argTypes := #[31, 31] }
    · obtain ⟨p33, p34, -⟩ := hp
      change ρ (.tmp 33) = _ at p33
      change ρ (.tmp 34) = _ at p34
      have hW := (Below.refl _ _).drew.trans hX
      refine turn_plain ?_
      have ce := @enter_of Tryd.prog 17 _ Tryd.func17 (by kernel_rfl) (by kernel_rfl)
      refine ok_call (op_call2 hfun ce (by exact rfl) p33 p34) ?_
      refine (valB_eq (.bool true) (by simp) (ints15_any A_l 0 c_l [] A_m 0 c_m [] _ rfl Nl.out (Sl.out.later (hW) (Nat.le_refl _)) rfl Nm.out (Sm.out.later (hW) (Nat.le_refl _)))).mono ?_
      rintro e W' ⟨rfl, bel⟩
      exact ⟨_, rfl, bel, rfl⟩
    refine ⟨fun ρ W ⟨hcst, hglb, hfun⟩ hX hp ho => ?_, ?_⟩ -- 3: slot 36 := Op.move t35
    · obtain ⟨p35, -⟩ := hp
      change ρ (.tmp 35) = _ at p35
      refine turn_plain (ok_is ?_ rfl)
      simp only [execOp, p35]; go_simp; try exact rfl
    refine ⟨fun ρ W ⟨hcst, hglb, hfun⟩ hX hp ho => ?_, ?_⟩ -- 4: slot 37 := Op.move t8   [guarded: some (3, true)]
    · obtain ⟨p36, -⟩ := hp
      change ρ (.tmp 36) = _ at p36
      obtain ⟨o8, -⟩ := ho
      change ρ (.tmp 8) = _ at o8
      refine turn_yes p36 (ok_is ?_ rfl)
      simp only [execOp, o8]; go_simp; try exact rfl
    refine ⟨fun ρ W ⟨hcst, hglb, hfun⟩ hX hp ho => ?_, ?_⟩ -- 5: slot 38 := Op.binOp BinOp.eql 24 t37 (const Value.nilIface) 24   [guarded: some (3, true)]
    · obtain ⟨p37, p36, -⟩ := hp
      change ρ (.tmp 37) = _ at p37
      change ρ (.tmp 36) = _ at p36
      refine turn_yes p36 (ok_is ?_ rfl)
      simp only [execOp, hcst, p37]; go_simp; try exact rfl
    refine ⟨fun ρ W ⟨hcst, hglb, hfun⟩ hX hp ho => ?_, ?_⟩ -- 6: slot 39 := Op.move t10   [guarded: some (3, true)]
    · obtain ⟨p36, -⟩ := hp
      change ρ (.tmp 36) = _ at p36
      obtain ⟨o10, -⟩ := ho
      change ρ (.tmp 10) = _ at o10
      refine turn_yes p36 (ok_is ?_ rfl)
      simp only [execOp, o10]; go_simp; try exact rfl
    refine ⟨fun ρ W ⟨hcst, hglb, hfun⟩ hX hp ho => ?_, ?_⟩ -- 7: slot 40 := Op.binOp BinOp.eql 4 t38 t39 4   [guarded: some (3, true)]
    · obtain ⟨p38, p39, p36, -⟩ := hp
      change ρ (.tmp 38) = _ at p38
      change ρ (.tmp 39) = _ at p39
      change ρ (.tmp 36) = _ at p36
      refine turn_yes p36 (ok_is ?_ rfl)
      simp only [execOp, p38, p39]; go_simp; try exact rfl
    refine ⟨fun ρ W ⟨hcst, hglb, hfun⟩ hX hp ho => ?_, ?_⟩ -- 8: slot 41 := Op.pick t36 t40 (const (Value.bool false))
    · obtain ⟨p36, p40, -⟩ := hp
      change ρ (.tmp 36) = _ at p36
      change ρ (.tmp 40) = _ at p40
      refine turn_plain (ok_is ?_ rfl)
      simp only [execOp, hcst, p36, p40]; go_simp; try exact rfl
    refine ⟨fun ρ W ⟨hcst, hglb, hfun⟩ hX hp ho => ?_, ?_⟩ -- 9: slot 42 := Op.move t41
    · obtain ⟨p41, -⟩ := hp
      change ρ (.tmp 41) = _ at p41
      refine turn_plain (ok_is ?_ rfl)
      simp only [execOp, p41]; go_simp; try exact rfl
    refine ⟨fun ρ W ⟨hcst, hglb, hfun⟩ hX hp ho => ?_, ?_⟩ -- 10: slot 43 := Op.move t10   [guarded: some (9, true)]
    · obtain ⟨p42, -⟩ := hp
      change ρ (.tmp 42) = _ at p42
      obtain ⟨o10, -⟩ := ho
      change ρ (.tmp 10) = _ at o10
      refine turn_yes p42 (ok_is ?_ rfl)
      simp only [execOp, o10]; go_simp; try exact rfl
    refine ⟨fun ρ W ⟨hcst, hglb, hfun⟩ hX hp ho => ?_, ?_⟩ -- 11: slot 44 := Op.move t43   [guarded: some (9, true)]
    · obtain ⟨p43, p42, -⟩ := hp
      change ρ (.tmp 43) = _ at p43
      change ρ (.tmp 42) = _ at p42
      refine turn_yes p42 (ok_is ?_ rfl)
      simp only [execOp, p43]; go_simp; try exact rfl
    refine ⟨fun ρ W ⟨hcst, hglb, hfun⟩ hX hp ho => ?_, ?_⟩ -- 12: slot 45 := Op.move t8   [guarded: some (11, false)]
    · obtain ⟨p44, -⟩ := hp
      change ρ (.tmp 44) = _ at p44
      obtain ⟨o8, -⟩ := ho
      change ρ (.tmp 8) = _ at o8
      refine turn_yes p44 (ok_is ?_ rfl)
      simp only [execOp, o8]; go_simp; try exact rfl
    refine ⟨fun ρ W ⟨hcst, hglb, hfun⟩ hX hp ho => ?_, ?_⟩ -- 13: slot 46 := Op.call { value (Operand.func 18), args := #[t45], argTypes := #[24] }   [guarded: some (1
    · obtain ⟨p45, p44, -⟩ := hp
      change ρ (.tmp 45) = _ at p45
      change ρ (.tmp 44) = _ at p44
      have hW := (Below.refl _ _).drew.trans hX
      refine turn_yes p44 ?_
      have ce := @enter_of Tryd.prog 18 _ Tryd.func18 (by kernel_rfl) (by kernel_rfl)
      refine ok_call (op_call1 hfun ce (by exact rfl) p45) ?_
      refine (num15_err 1 _ (HG.out.later (hW) (Nat.le_refl _))).mono ?_
      rintro e W' ⟨rfl, bel⟩
      exact ⟨_, rfl, bel, rfl⟩
    refine ⟨fun ρ W ⟨hcst, hglb, hfun⟩ hX hp ho => ?_, ?_⟩ -- 14: slot 47 := Op.binOp BinOp.eql 3 t46 (const (1:i64)) 3   [guarded: some (11, false)]
    · obtain ⟨p46, p44, -⟩ := hp
      change ρ (.tmp 46) = _ at p46
      change ρ (.tmp 44) = _ at p44
      refine turn_yes p44 (ok_is ?_ rfl)
      simp only [execOp, hcst, p46]; go_simp; try exact rfl
    refine ⟨fun ρ W ⟨hcst, hglb, hfun⟩ hX hp ho => ?_, ?_⟩ -- 15: slot 48 := Op.pick t44 (const (Value.bool true)) t47   [guarded: some (9, true)]
    · obtain ⟨p44, p47, p42, -⟩ := hp
      change ρ (.tmp 44) = _ at p44
      change ρ (.tmp 47) = _ at p47
      change ρ (.tmp 42) = _ at p42
      refine turn_yes p42 (ok_is ?_ rfl)
      simp only [execOp, hcst, p44, p47]; go_simp; try exact rfl
    refine ⟨fun ρ W ⟨hcst, hglb, hfun⟩ hX hp ho => ?_, ?_⟩ -- 16: slot 49 := Op.pick t42 t48 (const (Value.bool false))
    · obtain ⟨p42, p48, -⟩ := hp
      change ρ (.tmp 42) = _ at p42
      change ρ (.tmp 48) = _ at p48
      refine turn_plain (ok_is ?_ rfl)
      simp only [execOp, hcst, p42, p48]; go_simp; try exact rfl
    refine ⟨fun ρ W ⟨hcst, hglb, hfun⟩ hX hp ho => ?_, ?_⟩ -- 17: slot 50 := Op.move t49
    · obtain ⟨p49, -⟩ := hp
      change ρ (.tmp 49) = _ at p49
      refine turn_plain (ok_is ?_ rfl)
      simp only [execOp, p49]; go_simp; try exact rfl
    refine ⟨fun ρ W ⟨hcst, hglb, hfun⟩ hX hp ho => ?_, ?_⟩ -- 18: slot 51 := Op.move t11   [guarded: some (17, true)]
    · obtain ⟨p50, -⟩ := hp
      change ρ (.tmp 50) = _ at p50
      obtain ⟨o11, -⟩ := ho
      change ρ (.tmp 11) = _ at o11
      refine turn_yes p50 (ok_is ?_ rfl)
      simp only [execOp, o11]; go_simp; try exact rfl
    refine ⟨fun ρ W ⟨hcst, hglb, hfun⟩ hX hp ho => ?_, ?_⟩ -- 19: slot 52 := Op.binOp BinOp.eql 24 t51 (const Value.nilIface) 24   [guarded: some (17, true)]
    · obtain ⟨p51, p50, -⟩ := hp
      change ρ (.tmp 51) = _ at p51
      change ρ (.tmp 50) = _ at p50
      refine turn_yes p50 (ok_is ?_ rfl)
      simp only [execOp, hcst, p51]; go_simp; try exact rfl
    refine ⟨fun ρ W ⟨hcst, hglb, hfun⟩ hX hp ho => ?_, ?_⟩ -- 20: slot 53 := Op.move t0   [guarded: some (17, true)]
    · obtain ⟨p50, -⟩ := hp
      change ρ (.tmp 50) = _ at p50
      obtain ⟨o0, -⟩ := ho
      change ρ (.tmp 0) = _ at o0
      refine turn_yes p50 (ok_is ?_ rfl)
      simp only [execOp, o0]; go_simp; try exact rfl
    refine ⟨fun ρ W ⟨hcst, hglb, hfun⟩ hX hp ho => ?_, ?_⟩ -- 21: slot 54 := Op.call { value (Operand.func 19), args := #[t53], argTypes := #[31] }   [guarded: some (1
    · obtain ⟨p53, p50, -⟩ := hp
      change ρ (.tmp 53) = _ at p53
      change ρ (.tmp 50) = _ at p50
      have hW := (Below.refl _ _).drew.trans hX
      refine turn_yes p50 ?_
      have ce := @enter_of Tryd.prog 19 _ Tryd.func19 (by kernel_rfl) (by kernel_rfl)
      refine ok_call (op_call1 hfun ce (by exact rfl) p53) ?_
      refine (valB_eq (.bool true) (by rw [HMAY.out]) (refMay_any A l.length c l _ rfl Na.out (Sa.out.later (hW) (Nat.le_refl _)))).mono ?_
      rintro e W' ⟨rfl, bel⟩
      exact ⟨_, rfl, bel, rfl⟩
    refine ⟨fun ρ W ⟨hcst, hglb, hfun⟩ hX hp ho => ?_, ?_⟩ -- 22: slot 55 := Op.binOp BinOp.eql 4 t52 t54 4   [guarded: some (17, true)]
    · obtain ⟨p52, p54, p50, -⟩ := hp
      change ρ (.tmp 52) = _ at p52
      change ρ (.tmp 54) = _ at p54
      change ρ (.tmp 50) = _ at p50
      refine turn_yes p50 (ok_is ?_ rfl)
      simp only [execOp, p52, p54]; go_simp; try exact rfl
    refine ⟨fun ρ W ⟨hcst, hglb, hfun⟩ hX hp ho => ?_, ?_⟩ -- 23: slot 56 := Op.pick t50 t55 (const (Value.bool false))
    · obtain ⟨p50, p55, -⟩ := hp
      change ρ (.tmp 50) = _ at p50
      change ρ (.tmp 55) = _ at p55
      refine turn_plain (ok_is ?_ rfl)
      simp only [execOp, hcst, p50, p55]; go_simp; try exact rfl
    refine ⟨fun ρ W ⟨hcst, hglb, hfun⟩ hX hp ho => ?_, ?_⟩ -- 24: slot 57 := Op.move t56
    · obtain ⟨p56, -⟩ := hp
      change ρ (.tmp 56) = _ at p56
      refine turn_plain (ok_is ?_ rfl)
      simp only [execOp, p56]; go_simp; try exact rfl
    refine ⟨fun ρ W ⟨hcst, hglb, hfun⟩ hX hp ho => ?_, ?_⟩ -- 25: slot 58 := Op.move t11   [guarded: some (24, true)]
    · obtain ⟨p57, -⟩ := hp
      change ρ (.tmp 57) = _ at p57
      obtain ⟨o11, -⟩ := ho
      change ρ (.tmp 11) = _ at o11
      refine turn_yes p57 (ok_is ?_ rfl)
      simp only [execOp, o11]; go_simp; try exact rfl
    refine ⟨fun ρ W ⟨hcst, hglb, hfun⟩ hX hp ho => ?_, ?_⟩ -- 26: slot 59 := Op.binOp BinOp.eql 24 t58 (const Value.nilIface) 24   [guarded: some (24, true)]
    · obtain ⟨p58, p57, -⟩ := hp
      change ρ (.tmp 58) = _ at p58
      change ρ (.tmp 57) = _ at p57
      refine turn_yes p57 (ok_is ?_ rfl)
      simp only [execOp, hcst, p58]; go_simp; try exact rfl
    refine ⟨fun ρ W ⟨hcst, hglb, hfun⟩ hX hp ho => ?_, ?_⟩ -- 27: slot 60 := Op.move t59   [guarded: some (24, true)]
    · obtain ⟨p59, p57, -⟩ := hp
      change ρ (.tmp 59) = _ at p59
      change ρ (.tmp 57) = _ at p57
      refine turn_yes p57 (ok_is ?_ rfl)
      simp only [execOp, p59]; go_simp; try exact rfl
    refine ⟨fun ρ W ⟨hcst, hglb, hfun⟩ hX hp ho => ?_, ?_⟩ -- 28: slot 61 := Op.move t11   [guarded: some (27, false)]
    · obtain ⟨p60, -⟩ := hp
      change ρ (.tmp 60) = _ at p60
      obtain ⟨o11, -⟩ := ho
      change ρ (.tmp 11) = _ at o11
      exact turn_skip p60 (by decide) rfl
    refine ⟨fun ρ W ⟨hcst, hglb, hfun⟩ hX hp ho => ?_, ?_⟩ -- 29: slot 62 := Op.call { value (Operand.func 18), args := #[t61], argTypes := #[24] }   [guarded: some (2
    · obtain ⟨p61, p60, -⟩ := hp
      change ρ (.tmp 61) = _ at p61
      change ρ (.tmp 60) = _ at p60
      exact turn_skip p60 (by decide) rfl
    refine ⟨fun ρ W ⟨hcst, hglb, hfun⟩ hX hp ho => ?_, ?_⟩ -- 30: slot 63 := Op.binOp BinOp.eql 3 t62 (const (1:i64)) 3   [guarded: some (27, false)]
    · obtain ⟨p62, p60, -⟩ := hp
      change ρ (.tmp 62) = _ at p62
      change ρ (.tmp 60) = _ at p60
      exact turn_skip p60 (by decide) rfl
    refine ⟨fun ρ W ⟨hcst, hglb, hfun⟩ hX hp ho => ?_, ?_⟩ -- 31: slot 64 := Op.pick t60 (const (Value.bool true)) t63   [guarded: some (24, true)]
    · obtain ⟨p60, p63, p57, -⟩ := hp
      change ρ (.tmp 60) = _ at p60
      change ρ (.tmp 63) = _ at p63
      change ρ (.tmp 57) = _ at p57
      refine turn_yes p57 (ok_is ?_ rfl)
      simp only [execOp, hcst, p60, p63]; go_simp; try exact rfl
    refine ⟨fun ρ W ⟨hcst, hglb, hfun⟩ hX hp ho => ?_, ?_⟩ -- 32: slot 65 := Op.pick t57 t64 (const (Value.bool false))
    · obtain ⟨p57, p64, -⟩ := hp
      change ρ (.tmp 57) = _ at p57
      change ρ (.tmp 64) = _ at p64
      refine turn_plain (ok_is ?_ rfl)
      simp only [execOp, hcst, p57, p64]; go_simp; try exact rfl
    refine ⟨fun ρ W ⟨hcst, hglb, hfun⟩ hX hp ho => ?_, ?_⟩ -- 33: slot 66 := Op.move t65
    · obtain ⟨p65, -⟩ := hp
      change ρ (.tmp 65) = _ at p65
      refine turn_plain (ok_is ?_ rfl)
      simp only [execOp, p65]; go_simp; try exact rfl
    refine ⟨fun ρ W ⟨hcst, hglb, hfun⟩ hX hp ho => ?_, ?_⟩ -- 34: slot 67 := Op.move t0   [guarded: some (33, true)]
    · obtain ⟨p66, -⟩ := hp
      change ρ (.tmp 66) = _ at p66
      obtain ⟨o0, -⟩ := ho
      change ρ (.tmp 0) = _ at o0
      refine turn_yes p66 (ok_is ?_ rfl)
      simp only [execOp, o0]; go_simp; try exact rfl
    refine ⟨fun ρ W ⟨hcst, hglb, hfun⟩ hX hp ho => ?_, ?_⟩ -- 35: slot 68 := Op.move t2   [guarded: some (33, true)]
    · obtain ⟨p66, -⟩ := hp
      change ρ (.tmp 66) = _ at p66
      obtain ⟨o2, -⟩ := ho
      change ρ (.tmp 2) = _ at o2
      refine turn_yes p66 (ok_is ?_ rfl)
      simp only [execOp, o2]; go_simp; try exact rfl
    refine ⟨fun ρ W ⟨hcst, hglb, hfun⟩ hX hp ho => ?_, ?_⟩ -- 36: slot 69 := Op.call { value (Operand.func 20), args := #[t67, t68], argTypes := #[31, 3] }   [guarded:
    · obtain ⟨p67, p68, p66, -⟩ := hp
      change ρ (.tmp 67) = _ at p67
      change ρ (.tmp 68) = _ at p68
      change ρ (.tmp 66) = _ at p66
      have hW := (Below.refl _ _).drew.trans hX
      refine turn_yes p66 ?_
      have ce := @enter_of Tryd.prog 20 _ Tryd.func20 (by kernel_rfl) (by kernel_rfl)
      refine ok_call (op_call2 hfun ce (by exact rfl) p67 p68) ?_
      refine (val_eq (.bool r) (by rw [HR.out]) (setHas_any A l.length c l x _ rfl Na.out (Sa.out.later (hW) (Nat.le_refl _)))).mono ?_
      rintro e W' ⟨rfl, rfl⟩
      exact ⟨_, rfl, Below.refl _ _, rfl⟩
    refine ⟨fun ρ W ⟨hcst, hglb, hfun⟩ hX hp ho => ?_, ?_⟩ -- 37: slot 70 := Op.move t0   [guarded: some (33, true)]
    · obtain ⟨p66, -⟩ := hp
      change ρ (.tmp 66) = _ at p66
      obtain ⟨o0, -⟩ := ho
      change ρ (.tmp 0) = _ at o0
      refine turn_yes p66 (ok_is ?_ rfl)
      simp only [execOp, o0]; go_simp; try exact rfl
    refine ⟨fun ρ W ⟨hcst, hglb, hfun⟩ hX hp ho => ?_, ?_⟩ -- 38: slot 71 := Op.move t2   [guarded: some (33, true)]
    · obtain ⟨p66, -⟩ := hp
      change ρ (.tmp 66) = _ at p66
      obtain ⟨o2, -⟩ := ho
      change ρ (.tmp 2) = _ at o2
      refine turn_yes p66 (ok_is ?_ rfl)
      simp only [execOp, o2]; go_simp; try exact rfl
    refine ⟨fun ρ W ⟨hcst, hglb, hfun⟩ hX hp ho => ?_, ?_⟩ -- 39: slot 72 := Op.call { value (Operand.func 21), args := #[t70, t71], argTypes := #[31, 3] }   [guarded:
    · obtain ⟨p70, p71, p66, -⟩ := hp
      change ρ (.tmp 70) = _ at p70
      change ρ (.tmp 71) = _ at p71
      change ρ (.tmp 66) = _ at p66
      have hW := (Below.refl _ _).drew.trans hX
      refine turn_yes p66 ?_
      have ce := @enter_of Tryd.prog 21 _ Tryd.func21 (by kernel_rfl) (by kernel_rfl)
      refine ok_call (op_call2 hfun ce (by exact rfl) p70 p71) ?_
      refine (val_eq (.bool r) (by rw [HR.out]) (refHas_any A l.length c l x _ rfl Na.out (Sa.out.later (hW) (Nat.le_refl _)))).mono ?_
      rintro e W' ⟨rfl, rfl⟩
      exact ⟨_, rfl, Below.refl _ _, rfl⟩
    refine ⟨fun ρ W ⟨hcst, hglb, hfun⟩ hX hp ho => ?_, ?_⟩ -- 40: slot 73 := Op.binOp BinOp.eql 4 t69 t72 4   [guarded: some (33, true)]
    · obtain ⟨p69, p72, p66, -⟩ := hp
      change ρ (.tmp 69) = _ at p69
      change ρ (.tmp 72) = _ at p72
      change ρ (.tmp 66) = _ at p66
      refine turn_yes p66 (ok_is ?_ rfl)
      simp only [execOp, p69, p72]; go_simp; try exact rfl
    refine ⟨fun ρ W ⟨hcst, hglb, hfun⟩ hX hp ho => ?_, ?_⟩ -- 41: slot 74 := Op.pick t66 t73 (const (Value.bool false))
    · obtain ⟨p66, p73, -⟩ := hp
      change ρ (.tmp 66) = _ at p66
      change ρ (.tmp 73) = _ at p73
      refine turn_plain (ok_is ?_ rfl)
      simp only [execOp, hcst, p66, p73]; go_simp; try exact rfl
    refine ⟨fun ρ W ⟨hcst, hglb, hfun⟩ hX hp ho => ?_, ?_⟩ -- 42: slot 75 := Op.move t74
    · obtain ⟨p74, -⟩ := hp
      change ρ (.tmp 74) = _ at p74
      refine turn_plain (ok_is ?_ rfl)
      simp only [execOp, p74]; go_simp; try exact rfl
    refine ⟨fun ρ W ⟨hcst, hglb, hfun⟩ hX hp ho => ?_, ?_⟩ -- 43: slot 76 := Op.move t0   [guarded: some (42, true)]
    · obtain ⟨p75, -⟩ := hp
      change ρ (.tmp 75) = _ at p75
      obtain ⟨o0, -⟩ := ho
      change ρ (.tmp 0) = _ at o0
      refine turn_yes p75 (ok_is ?_ rfl)
      simp only [execOp, o0]; go_simp; try exact rfl
    refine ⟨fun ρ W ⟨hcst, hglb, hfun⟩ hX hp ho => ?_, ?_⟩ -- 44: slot 77 := Op.move t1   [guarded: some (42, true)]
    · obtain ⟨p75, -⟩ := hp
      change ρ (.tmp 75) = _ at p75
      obtain ⟨o1, -⟩ := ho
      change ρ (.tmp 1) = _ at o1
      refine turn_yes p75 (ok_is ?_ rfl)
      simp only [execOp, o1]; go_simp; try exact rfl
    refine ⟨fun ρ W ⟨hcst, hglb, hfun⟩ hX hp ho => ?_, ?_⟩ -- 45: slot 78 := Op.call { value (Operand.func 22), args := #[t76, t77], argTypes := #[31, 31] }   [guarded
    · obtain ⟨p76, p77, p75, -⟩ := hp
      change ρ (.tmp 76) = _ at p76
      change ρ (.tmp 77) = _ at p77
      change ρ (.tmp 75) = _ at p75
      have hW := (Below.refl _ _).drew.trans hX
      refine turn_yes p75 ?_
      have ce := @enter_of Tryd.prog 22 _ Tryd.func22 (by kernel_rfl) (by kernel_rfl)
      refine ok_call (op_call2 hfun ce (by exact rfl) p76 p77) ?_
      refine (sl_eq (P := fun _ _ => True) L0 L0.length HL0.out rfl (setEither_any A l.length c l A2 l2.length c2 l2 _ rfl Na.out (Sa.out.later (hW) (Nat.le_refl _)) rfl Nb.out (Sb.out.later (hW) (Nat.le_refl _)))).mono ?_
      rintro e W' ⟨A9, c9, rfl, hat9, bel⟩
      exact ⟨_, rfl, bel, A9, c9, rfl, hat9⟩
    refine ⟨fun ρ W ⟨hcst, hglb, hfun⟩ hX hp ho => ?_, ?_⟩ -- 46: slot 79 := Op.move t0   [guarded: some (42, true)]
    · obtain ⟨p75, -⟩ := hp
      change ρ (.tmp 75) = _ at p75
      obtain ⟨o0, -⟩ := ho
      change ρ (.tmp 0) = _ at o0
      refine turn_yes p75 (ok_is ?_ rfl)
      simp only [execOp, o0]; go_simp; try exact rfl
    refine ⟨fun ρ W ⟨hcst, hglb, hfun⟩ hX hp ho => ?_, ?_⟩ -- 47: slot 80 := Op.move t1   [guarded: some (42, true)]
    · obtain ⟨p75, -⟩ := hp
      change ρ (.tmp 75) = _ at p75
      obtain ⟨o1, -⟩ := ho
      change ρ (.tmp 1) = _ at o1
      refine turn_yes p75 (ok_is ?_ rfl)
      simp only [execOp, o1]; go_simp; try exact rfl
    refine ⟨fun ρ W ⟨hcst, hglb, hfun⟩ hX hp ho => ?_, ?_⟩ -- 48: slot 81 := Op.call { value (Operand.func 23), args := #[t79, t80, const (0:i64)], argTypes := #[31, 3
    · obtain ⟨p79, p80, p75, -⟩ := hp
      change ρ (.tmp 79) = _ at p79
      change ρ (.tmp 80) = _ at p80
      change ρ (.tmp 75) = _ at p75
      have hW := (Below.refl _ _).drew.trans hX
      refine turn_yes p75 ?_
      have ce := @enter_of Tryd.prog 23 _ Tryd.func23 (by kernel_rfl) (by kernel_rfl)
      refine ok_call (op_call3 hfun ce (by exact rfl) p79 p80 (hcst _)) ?_
      refine (sl_eq (P := fun _ _ => True) L0 L0.length HL0.out rfl (refSome0_any A l.length c l A2 l2.length c2 l2 _ rfl Na.out (Sa.out.later (hW) (Nat.le_refl _)) rfl Nb.out (Sb.out.later (hW) (Nat.le_refl _)))).mono ?_
      rintro e W' ⟨A9, c9, rfl, hat9, bel⟩
      exact ⟨_, rfl, bel, A9, c9, rfl, hat9⟩
    refine ⟨fun ρ W ⟨hcst, hglb, hfun⟩ hX hp ho => ?_, ?_⟩ -- 49: slot 82 := Op.call { value (Operand.func 17), args := #[t78, t81], argTypes := #[31, 31] }   [guarded
    · obtain ⟨p78, p81, p75, -⟩ := hp
      obtain ⟨A78, c78, p78, hat78⟩ := p78
      change ρ (.tmp 78) = _ at p78
      obtain ⟨A81, c81, p81, hat81⟩ := p81
      change ρ (.tmp 81) = _ at p81
      change ρ (.tmp 75) = _ at p75
      have hW := (Below.refl _ _).drew.trans hX
      refine turn_yes p75 ?_
      have ce := @enter_of Tryd.prog 17 _ Tryd.func17 (by kernel_rfl) (by kernel_rfl)
      refine ok_call (op_call2 hfun ce (by exact rfl) p78 p81) ?_
      refine (valB_eq (.bool true) (by simp) (ints15_any A78 L0.length c78 L0 A81 L0.length c81 L0 _ rfl NL0.out hat78 rfl NL0.out hat81)).mono ?_
      rintro e W' ⟨rfl, bel⟩
      exact ⟨_, rfl, bel, rfl⟩
    refine ⟨fun ρ W ⟨hcst, hglb, hfun⟩ hX hp ho => ?_, ?_⟩ -- 50: slot 83 := Op.pick t75 t82 (const (Value.bool false))
    · obtain ⟨p75, p82, -⟩ := hp
      change ρ (.tmp 75) = _ at p75
      change ρ (.tmp 82) = _ at p82
      refine turn_plain (ok_is ?_ rfl)
      simp only [execOp, hcst, p75, p82]; go_simp; try exact rfl
    refine ⟨fun ρ W ⟨hcst, hglb, hfun⟩ hX hp ho => ?_, ?_⟩ -- 51: slot 84 := Op.move t83
    · obtain ⟨p83, -⟩ := hp
      change ρ (.tmp 83) = _ at p83
      refine turn_plain (ok_is ?_ rfl)
      simp only [execOp, p83]; go_simp; try exact rfl
    refine ⟨fun ρ W ⟨hcst, hglb, hfun⟩ hX hp ho => ?_, ?_⟩ -- 52: slot 85 := Op.move t0   [guarded: some (51, true)]
    · obtain ⟨p84, -⟩ := hp
      change ρ (.tmp 84) = _ at p84
      obtain ⟨o0, -⟩ := ho
      change ρ (.tmp 0) = _ at o0
      refine turn_yes p84 (ok_is ?_ rfl)
      simp only [execOp, o0]; go_simp; try exact rfl
    refine ⟨fun ρ W ⟨hcst, hglb, hfun⟩ hX hp ho => ?_, ?_⟩ -- 53: slot 86 := Op.move t1   [guarded: some (51, true)]
    · obtain ⟨p84, -⟩ := hp
      change ρ (.tmp 84) = _ at p84
      obtain ⟨o1, -⟩ := ho
      change ρ (.tmp 1) = _ at o1
      refine turn_yes p84 (ok_is ?_ rfl)
      simp only [execOp, o1]; go_simp; try exact rfl
    refine ⟨fun ρ W ⟨hcst, hglb, hfun⟩ hX hp ho => ?_, ?_⟩ -- 54: slot 87 := Op.call { value (Operand.func 24), args := #[t85, t86], argTypes := #[31, 31] }   [guarded
    · obtain ⟨p85, p86, p84, -⟩ := hp
      change ρ (.tmp 85) = _ at p85
      change ρ (.tmp 86) = _ at p86
      change ρ (.tmp 84) = _ at p84
      have hW := (Below.refl _ _).drew.trans hX
      refine turn_yes p84 ?_
      have ce := @enter_of Tryd.prog 24 _ Tryd.func24 (by kernel_rfl) (by kernel_rfl)
      refine ok_call (op_call2 hfun ce (by exact rfl) p85 p86) ?_
      refine (sl_eq (P := fun _ _ => True) L1 L1.length HL1.out rfl (setBoth_any A l.length c l A2 l2.length c2 l2 _ rfl Na.out (Sa.out.later (hW) (Nat.le_refl _)) rfl Nb.out (Sb.out.later (hW) (Nat.le_refl _)))).mono ?_
      rintro e W' ⟨A9, c9, rfl, hat9, bel⟩
      exact ⟨_, rfl, bel, A9, c9, rfl, hat9⟩
    refine ⟨fun ρ W ⟨hcst, hglb, hfun⟩ hX hp ho => ?_, ?_⟩ -- 55: slot 88 := Op.move t0   [guarded: some (51, true)]
    · obtain ⟨p84, -⟩ := hp
      change ρ (.tmp 84) = _ at p84
      obtain ⟨o0, -⟩ := ho
      change ρ (.tmp 0) = _ at o0
      refine turn_yes p84 (ok_is ?_ rfl)
      simp only [execOp, o0]; go_simp; try exact rfl
    refine ⟨fun ρ W ⟨hcst, hglb, hfun⟩ hX hp ho => ?_, ?_⟩ -- 56: slot 89 := Op.move t1   [guarded: some (51, true)]
    · obtain ⟨p84, -⟩ := hp
      change ρ (.tmp 84) = _ at p84
      obtain ⟨o1, -⟩ := ho
      change ρ (.tmp 1) = _ at o1
      refine turn_yes p84 (ok_is ?_ rfl)
      simp only [execOp, o1]; go_simp; try exact rfl
    refine ⟨fun ρ W ⟨hcst, hglb, hfun⟩ hX hp ho => ?_, ?_⟩ -- 57: slot 90 := Op.call { value (Operand.func 23), args := #[t88, t89, const (1:i64)], argTypes := #[31, 3
    · obtain ⟨p88, p89, p84, -⟩ := hp
      change ρ (.tmp 88) = _ at p88
      change ρ (.tmp 89) = _ at p89
      change ρ (.tmp 84) = _ at p84
      have hW := (Below.refl _ _).drew.trans hX
      refine turn_yes p84 ?_
      have ce := @enter_of Tryd.prog 23 _ Tryd.func23 (by kernel_rfl) (by kernel_rfl)
      refine ok_call (op_call3 hfun ce (by exact rfl) p88 p89 (hcst _)) ?_
      refine (sl_eq (P := fun _ _ => True) L1 L1.length HL1.out rfl (refSome1_any A l.length c l A2 l2.length c2 l2 _ rfl Na.out (Sa.out.later (hW) (Nat.le_refl _)) rfl Nb.out (Sb.out.later (hW) (Nat.le_refl _)))).mono ?_
      rintro e W' ⟨A9, c9, rfl, hat9, bel⟩
      exact ⟨_, rfl, bel, A9, c9, rfl, hat9⟩
    refine ⟨fun ρ W ⟨hcst, hglb, hfun⟩ hX hp ho => ?_, ?_⟩ -- 58: slot 91 := Op.call { value (Operand.func 17), args := #[t87, t90], argTypes := #[31, 31] }   [guarded
    · obtain ⟨p87, p90, p84, -⟩ := hp
      obtain ⟨A87, c87, p87, hat87⟩ := p87
      change ρ (.tmp 87) = _ at p87
      obtain ⟨A90, c90, p90, hat90⟩ := p90
      change ρ (.tmp 90) = _ at p90
      change ρ (.tmp 84) = _ at p84
      have hW := (Below.refl _ _).drew.trans hX
      refine turn_yes p84 ?_
      have ce := @enter_of Tryd.prog 17 _ Tryd.func17 (by kernel_rfl) (by kernel_rfl)
      refine ok_call (op_call2 hfun ce (by exact rfl) p87 p90) ?_
      refine (valB_eq (.bool true) (by simp) (ints15_any A87 L1.length c87 L1 A90 L1.length c90 L1 _ rfl NL1.out hat87 rfl NL1.out hat90)).mono ?_
      rintro e W' ⟨rfl, bel⟩
      exact ⟨_, rfl, bel, rfl⟩
    refine ⟨fun ρ W ⟨hcst, hglb, hfun⟩ hX hp ho => ?_, ?_⟩ -- 59: slot 92 := Op.pick t84 t91 (const (Value.bool false))
    · obtain ⟨p84, p91, -⟩ := hp
      change ρ (.tmp 84) = _ at p84
      change ρ (.tmp 91) = _ at p91
      refine turn_plain (ok_is ?_ rfl)
      simp only [execOp, hcst, p84, p91]; go_simp; try exact rfl
    refine ⟨fun ρ W ⟨hcst, hglb, hfun⟩ hX hp ho => ?_, ?_⟩ -- 60: slot 93 := Op.move t92
    · obtain ⟨p92, -⟩ := hp
      change ρ (.tmp 92) = _ at p92
      refine turn_plain (ok_is ?_ rfl)
      simp only [execOp, p92]; go_simp; try exact rfl
    refine ⟨fun ρ W ⟨hcst, hglb, hfun⟩ hX hp ho => ?_, ?_⟩ -- 61: slot 94 := Op.move t0   [guarded: some (60, true)]
    · obtain ⟨p93, -⟩ := hp
      change ρ (.tmp 93) = _ at p93
      obtain ⟨o0, -⟩ := ho
      change ρ (.tmp 0) = _ at o0
      refine turn_yes p93 (ok_is ?_ rfl)
      simp only [execOp, o0]; go_simp; try exact rfl
    refine ⟨fun ρ W ⟨hcst, hglb, hfun⟩ hX hp ho => ?_, ?_⟩ -- 62: slot 95 := Op.move t1   [guarded: some (60, true)]
    · obtain ⟨p93, -⟩ := hp
      change ρ (.tmp 93) = _ at p93
      obtain ⟨o1, -⟩ := ho
      change ρ (.tmp 1) = _ at o1
      refine turn_yes p93 (ok_is ?_ rfl)
      simp only [execOp, o1]; go_simp; try exact rfl
    refine ⟨fun ρ W ⟨hcst, hglb, hfun⟩ hX hp ho => ?_, ?_⟩ -- 63: slot 96 := Op.call { value (Operand.func 25), args := #[t94, t95], argTypes := #[31, 31] }   [guarded
    · obtain ⟨p94, p95, p93, -⟩ := hp
      change ρ (.tmp 94) = _ at p94
      change ρ (.tmp 95) = _ at p95
      change ρ (.tmp 93) = _ at p93
      have hW := (Below.refl _ _).drew.trans hX
      refine turn_yes p93 ?_
      have ce := @enter_of Tryd.prog 25 _ Tryd.func25 (by kernel_rfl) (by kernel_rfl)
      refine ok_call (op_call2 hfun ce (by exact rfl) p94 p95) ?_
      refine (sl_eq (P := fun _ _ => True) L2 L2.length HL2.out rfl (setLess_any A l.length c l A2 l2.length c2 l2 _ rfl Na.out (Sa.out.later (hW) (Nat.le_refl _)) rfl Nb.out (Sb.out.later (hW) (Nat.le_refl _)))).mono ?_
      rintro e W' ⟨A9, c9, rfl, hat9, bel⟩
      exact ⟨_, rfl, bel, A9, c9, rfl, hat9⟩
    refine ⟨fun ρ W ⟨hcst, hglb, hfun⟩ hX hp ho => ?_, ?_⟩ -- 64: slot 97 := Op.move t0   [guarded: some (60, true)]
    · obtain ⟨p93, -⟩ := hp
      change ρ (.tmp 93) = _ at p93
      obtain ⟨o0, -⟩ := ho
      change ρ (.tmp 0) = _ at o0
      refine turn_yes p93 (ok_is ?_ rfl)
      simp only [execOp, o0]; go_simp; try exact rfl
    refine ⟨fun ρ W ⟨hcst, hglb, hfun⟩ hX hp ho => ?_, ?_⟩ -- 65: slot 98 := Op.move t1   [guarded: some (60, true)]
    · obtain ⟨p93, -⟩ := hp
      change ρ (.tmp 93) = _ at p93
      obtain ⟨o1, -⟩ := ho
      change ρ (.tmp 1) = _ at o1
      refine turn_yes p93 (ok_is ?_ rfl)
      simp only [execOp, o1]; go_simp; try exact rfl
    refine ⟨fun ρ W ⟨hcst, hglb, hfun⟩ hX hp ho => ?_, ?_⟩ -- 66: slot 99 := Op.call { value (Operand.func 23), args := #[t97, t98, const (2:i64)], argTypes := #[31, 3
    · obtain ⟨p97, p98, p93, -⟩ := hp
      change ρ (.tmp 97) = _ at p97
      change ρ (.tmp 98) = _ at p98
      change ρ (.tmp 93) = _ at p93
      have hW := (Below.refl _ _).drew.trans hX
      refine turn_yes p93 ?_
      have ce := @enter_of Tryd.prog 23 _ Tryd.func23 (by kernel_rfl) (by kernel_rfl)
      refine ok_call (op_call3 hfun ce (by exact rfl) p97 p98 (hcst _)) ?_
      refine (sl_eq (P := fun _ _ => True) L2 L2.length HL2.out rfl (refSome2_any A l.length c l A2 l2.length c2 l2 _ rfl Na.out (Sa.out.later (hW) (Nat.le_refl _)) rfl Nb.out (Sb.out.later (hW) (Nat.le_refl _)))).mono ?_
      rintro e W' ⟨A9, c9, rfl, hat9, bel⟩
      exact ⟨_, rfl, bel, A9, c9, rfl, hat9⟩
    refine ⟨fun ρ W ⟨hcst, hglb, hfun⟩ hX hp ho => ?_, ?_⟩ -- 67: slot 100 := Op.call { value (Operand.func 17), args := #[t96, t99], argTypes := #[31, 31] }   [guarded
    · obtain ⟨p96, p99, p93, -⟩ := hp
      obtain ⟨A96, c96, p96, hat96⟩ := p96
      change ρ (.tmp 96) = _ at p96
      obtain ⟨A99, c99, p99, hat99⟩ := p99
      change ρ (.tmp 99) = _ at p99
      change ρ (.tmp 93) = _ at p93
      have hW := (Below.refl _ _).drew.trans hX
      refine turn_yes p93 ?_
      have ce := @enter_of Tryd.prog 17 _ Tryd.func17 (by kernel_rfl) (by kernel_rfl)
      refine ok_call (op_call2 hfun ce (by exact rfl) p96 p99) ?_
      refine (valB_eq (.bool true) (by simp) (ints15_any A96 L2.length c96 L2 A99 L2.length c99 L2 _ rfl NL2.out hat96 rfl NL2.out hat99)).mono ?_
      rintro e W' ⟨rfl, bel⟩
      exact ⟨_, rfl, bel, rfl⟩
    refine ⟨fun ρ W ⟨hcst, hglb, hfun⟩ hX hp ho => ?_, ?_⟩ -- 68: slot 101 := Op.pick t93 t100 (const (Value.bool false))
    · obtain ⟨p93, p100, -⟩ := hp
      change ρ (.tmp 93) = _ at p93
      change ρ (.tmp 100) = _ at p100
      refine turn_plain (ok_is ?_ rfl)
      simp only [execOp, hcst, p93, p100]; go_simp; try exact rfl
    refine ⟨fun ρ W ⟨hcst, hglb, hfun⟩ hX hp ho => ?_, ?_⟩ -- 69: slot 102 := Op.move t101
    · obtain ⟨p101, -⟩ := hp
      change ρ (.tmp 101) = _ at p101
      refine turn_plain (ok_is ?_ rfl)
      simp only [execOp, p101]; go_simp; try exact rfl
    refine ⟨fun ρ W ⟨hcst, hglb, hfun⟩ hX hp ho => ?_, ?_⟩ -- 70: slot 103 := Op.move t0   [guarded: some (69, true)]
    · obtain ⟨p102, -⟩ := hp
      change ρ (.tmp 102) = _ at p102
      obtain ⟨o0, -⟩ := ho
      change ρ (.tmp 0) = _ at o0
      refine turn_yes p102 (ok_is ?_ rfl)
      simp only [execOp, o0]; go_simp; try exact rfl
    refine ⟨fun ρ W ⟨hcst, hglb, hfun⟩ hX hp ho => ?_, ?_⟩ -- 71: slot 104 := Op.call { value (Operand.func 26), args := #[t103], argTypes := #[31] }   [guarded: some (
    · obtain ⟨p103, p102, -⟩ := hp
      change ρ (.tmp 103) = _ at p103
      change ρ (.tmp 102) = _ at p102
      have hW := (Below.refl _ _).drew.trans hX
      refine turn_yes p102 ?_
      have ce := @enter_of Tryd.prog 26 _ Tryd.func26 (by kernel_rfl) (by kernel_rfl)
      refine ok_call (op_call1 hfun ce (by exact rfl) p103) ?_
      refine (val_eq (.int .u64 (v : Nat)) (by rw [HV.out]) (setBits_any A l.length c l _ rfl Na.out (Sa.out.later (hW) (Nat.le_refl _)))).mono ?_
      rintro e W' ⟨rfl, rfl⟩
      exact ⟨_, rfl, Below.refl _ _, rfl⟩
    refine ⟨fun ρ W ⟨hcst, hglb, hfun⟩ hX hp ho => ?_, ?_⟩ -- 72: slot 105 := Op.move t0   [guarded: some (69, true)]
    · obtain ⟨p102, -⟩ := hp
      change ρ (.tmp 102) = _ at p102
      obtain ⟨o0, -⟩ := ho
      change ρ (.tmp 0) = _ at o0
      refine turn_yes p102 (ok_is ?_ rfl)
      simp only [execOp, o0]; go_simp; try exact rfl
    refine ⟨fun ρ W ⟨hcst, hglb, hfun⟩ hX hp ho => ?_, ?_⟩ -- 73: slot 106 := Op.call { value (Operand.func 27), args := #[t105], argTypes := #[31] }   [guarded: some (
    · obtain ⟨p105, p102, -⟩ := hp
      change ρ (.tmp 105) = _ at p105
      change ρ (.tmp 102) = _ at p102
      have hW := (Below.refl _ _).drew.trans hX
      refine turn_yes p102 ?_
      have ce := @enter_of Tryd.prog 27 _ Tryd.func27 (by kernel_rfl) (by kernel_rfl)
      refine ok_call (op_call1 hfun ce (by exact rfl) p105) ?_
      refine (val_eq (.int .u64 (v : Nat)) (by rw [HV.out]) (refBits_any A l.length c l _ rfl Na.out (Sa.out.later (hW) (Nat.le_refl _)))).mono ?_
      rintro e W' ⟨rfl, rfl⟩
      exact ⟨_, rfl, Below.refl _ _, rfl⟩
    refine ⟨fun ρ W ⟨hcst, hglb, hfun⟩ hX hp ho => ?_, ?_⟩ -- 74: slot 107 := Op.binOp BinOp.eql 43 t104 t106 43   [guarded: some (69, true)]
    · obtain ⟨p104, p106, p102, -⟩ := hp
      change ρ (.tmp 104) = _ at p104
      change ρ (.tmp 106) = _ at p106
      change ρ (.tmp 102) = _ at p102
      refine turn_yes p102 (ok_is ?_ rfl)
      simp only [execOp, p104, p106]; go_simp; try exact rfl
    refine ⟨fun ρ W ⟨hcst, hglb, hfun⟩ hX hp ho => ?_, ?_⟩ -- 75: slot 108 := Op.pick t102 t107 (const (Value.bool false))
    · obtain ⟨p102, p107, -⟩ := hp
      change ρ (.tmp 102) = _ at p102
      change ρ (.tmp 107) = _ at p107
      refine turn_plain (ok_is ?_ rfl)
      simp only [execOp, hcst, p102, p107]; go_simp; try exact rfl
    refine ⟨fun ρ W ⟨hcst, hglb, hfun⟩ hX hp ho => ?_, ?_⟩ -- 76: slot 109 := Op.move t108
    · obtain ⟨p108, -⟩ := hp
      change ρ (.tmp 108) = _ at p108
      refine turn_plain (ok_is ?_ rfl)
      simp only [execOp, p108]; go_simp; try exact rfl
    refine ⟨fun ρ W ⟨hcst, hglb, hfun⟩ hX hp ho => ?_, ?_⟩ -- 77: slot 110 := Op.call { value (Operand.func 13), args := #[], argTypes := #[] }   [guarded: some (76, tr
    · obtain ⟨p109, -⟩ := hp
      change ρ (.tmp 109) = _ at p109
      have hW := (Below.refl _ _).drew.trans hX
      refine turn_yes p109 ?_
      have ce := @enter_of Tryd.prog 13 _ Tryd.func13 (by kernel_rfl) (by kernel_rfl)
      refine ok_call (op_call0 hfun ce (by exact rfl) ) ?_
      refine (sure15 _ (HG.out.later (hW) (Nat.le_refl _))).mono ?_
      rintro e W' ⟨rfl, bel⟩
      exact ⟨_, rfl, bel, rfl⟩
    refine ⟨fun ρ W ⟨hcst, hglb, hfun⟩ hX hp ho => ?_, ?_⟩ -- 78: slot 111 := Op.pick t109 t110 (const (Value.bool false))
    · obtain ⟨p109, p110, -⟩ := hp
      change ρ (.tmp 109) = _ at p109
      change ρ (.tmp 110) = _ at p110
      refine turn_plain (ok_is ?_ rfl)
      simp only [execOp, hcst, p109, p110]; go_simp; try exact rfl
    refine ⟨fun ρ W ⟨hcst, hglb, hfun⟩ hX hp ho => ?_, ?_⟩ -- 79: slot 6 := Op.assign t111
    · obtain ⟨p111, -⟩ := hp
      change ρ (.tmp 111) = _ at p111
      refine turn_plain (ok_is ?_ rfl)
      simp only [execOp, p111]; go_simp; try exact rfl
    exact trivial
  case finc =>
    intro a W hX hsz hdf hold hR
    have hv := hR 79 6 rfl
    change a.tmps.getD 6 undef = _ at hv
    clear hold hR hsz
    go_wp2_with fail
    exact post_letter rfl hv hdf ⟨rfl, HB.out.trans (hX.mono HB.out.size)⟩
set_option maxRecDepth 100000 in
set_option maxHeartbeats 4000000 in
theorem tells_00 (A : Option Addr) (c : Nat) (l : List Int) (A2 : Option Addr) (c2 : Nat) (l2 : List Int) (x : Int) (w : World) (hl : l.length ≤ 100) (hl2 : l2.length ≤ 100) (ha : At w A (ints .i64 l)) (ha2 : At w A2 (ints .i64 l2)) (hg : Glob w) (hok : SetM.ok l = false) (hmay : SetM.may l = false) :
    Calls Tryd.prog 4 #[.slice A l.length c, .slice A2 l2.length c2, .int .i64 x] w fun e w' => e = .returned (.bool true) ∧ Below w.heap.size w w' := by
  have HG := Lib.hid hg
  have Sa := Lib.hid ha
  have Sb := Lib.hid ha2
  have Na := Lib.hid (show l.length ≤ 9223372036854775807 by omega)
  have Nb := Lib.hid (show l2.length ≤ 9223372036854775807 by omega)
  have HOK := Lib.hid hok
  have HMAY := Lib.hid hmay
  obtain ⟨r, hr⟩ : ∃ r, SetM.has l x = r := ⟨_, rfl⟩
  have HR := Lib.hid hr
  obtain ⟨L, hL⟩ : ∃ L, SetM.elems (SetM.bitsOf l) = L := ⟨_, rfl⟩
  have HL := Lib.hid hL
  have NL := Lib.hid (hL ▸ elems_len _ : L.length ≤ 9223372036854775807)
  obtain ⟨v, hv⟩ : ∃ v, SetM.bitsOf l = v := ⟨_, rfl⟩
  have HV := Lib.hid hv
  obtain ⟨L0, hL0⟩ : ∃ L, SetM.elems (SetM.op 0 (SetM.bitsOf l) (SetM.bitsOf l2)) = L := ⟨_, rfl⟩
  have HL0 := Lib.hid hL0
  have NL0 := Lib.hid (hL0 ▸ elems_len _ : L0.length ≤ 9223372036854775807)
  obtain ⟨L1, hL1⟩ : ∃ L, SetM.elems (SetM.op 1 (SetM.bitsOf l) (SetM.bitsOf l2)) = L := ⟨_, rfl⟩
  have HL1 := Lib.hid hL1
  have NL1 := Lib.hid (hL1 ▸ elems_len _ : L1.length ≤ 9223372036854775807)
  obtain ⟨L2, hL2⟩ : ∃ L, SetM.elems (SetM.op 2 (SetM.bitsOf l) (SetM.bitsOf l2)) = L := ⟨_, rfl⟩
  have HL2 := Lib.hid hL2
  have NL2 := Lib.hid (hL2 ▸ elems_len _ : L2.length ≤ 9223372036854775807)
  clear ha ha2 hg hok hmay hr hL hv hL0 hL1 hL2
  go_enter Tryd.func4, Tryd.ntmps4
  have HB := Lib.hid (Below.refl w.heap.size w)
  go_wp2_with fail
  refine (of_bad HOK.out (setOf_any A l.length c l _ rfl Na.out Sa.out)).mono ?_
  rintro e w1 ⟨A_l, c_l, rfl, bel⟩
  replace HB := Lib.hid (HB.out.trans (bel.mono HB.out.size))
  replace Sa := Lib.hid (Sa.out.later bel (Nat.le_refl _))
  replace Sb := Lib.hid (Sb.out.later bel (Nat.le_refl _))
  replace HG := Lib.hid (HG.out.later bel (Nat.le_refl _))
  clear bel
  have Sl := Lib.hid (show At w1 A_l (ints .i64 []) from At.nil _ _)
  have Nl := Lib.hid (show (0 : Nat) ≤ 9223372036854775807 by decide)
  go_wp2_with fail
  refine (refof_bad HOK.out (refOf_any A l.length c l _ rfl Na.out Sa.out)).mono ?_
  rintro e w2 ⟨A_m, c_m, rfl, bel⟩
  replace HB := Lib.hid (HB.out.trans (bel.mono HB.out.size))
  replace Sa := Lib.hid (Sa.out.later bel (Nat.le_refl _))
  replace Sb := Lib.hid (Sb.out.later bel (Nat.le_refl _))
  replace Sl := Lib.hid (Sl.out.later bel (Nat.le_refl _))
  replace HG := Lib.hid (HG.out.later bel (Nat.le_refl _))
  clear bel
  have Sm := Lib.hid (show At w2 A_m (ints .i64 []) from At.nil _ _)
  have Nm := Lib.hid (show (0 : Nat) ≤ 9223372036854775807 by decide)
  go_wp2_with fail
  refine (val_eq (.iface 48 (.int .i64 1)) (by rw [HMAY.out]; rfl) (setCheck_any A l.length c l _ rfl Na.out Sa.out)).mono ?_
  rintro e w' ⟨rfl, rfl⟩
  go_wp2_with fail
  refine wp_region_last [is ?c0, is ?c1, is (.bool true), is ?c3, is ?c4, is ?c5, is ?c6, is ?c7, is ?c8, is ?c9, is ?c10, is ?c11, is ?c12, is (.int .i64 1), is ?c14, is ?c15, is ?c16, is ?c17, is ?c18, is ?c19, is ?c20, is (.bool false), is ?c22, is ?c23, is ?c24, is ?c25, is ?c26, is ?c27, is ?c28, is (.int .i64 1), is ?c30, is ?c31, is ?c32, is ?c33, is ?c34, is ?c35, is (.bool r), is ?c37, is ?c38, is (.bool r), is ?c40, is ?c41, is ?c42, is ?c43, is ?c44, SlR L0 L0.length, is ?c46, is ?c47, SlR L0 L0.length, is (.bool true), is ?c50, is ?c51, is ?c52, is ?c53, SlR L1 L1.length, is ?c55, is ?c56, SlR L1 L1.length, is (.bool true), is ?c59, is ?c60, is ?c61, is ?c62, SlR L2 L2.length, is ?c64, is ?c65, SlR L2 L2.length, is (.bool true), is ?c68, is ?c69, is ?c70, is (.int .u64 (v : Nat)), is ?c72, is (.int .u64 (v : Nat)), is ?c74, is ?c75, is ?c76, is (.bool true), is ?c78, is ?c79]
    [⟨[], [7], none⟩, ⟨[], [9], none⟩, ⟨[(33, 0), (34, 1)], [], none⟩, ⟨[(35, 2)], [], none⟩, ⟨[(36, 3)], [8], some (36, true)⟩, ⟨[(37, 4), (36, 3)], [], some (36, true)⟩, ⟨[(36, 3)], [10], some (36, true)⟩, ⟨[(38, 5), (39, 6), (36, 3)], [], some (36, true)⟩, ⟨[(36, 3), (40, 7)], [], none⟩, ⟨[(41, 8)], [], none⟩, ⟨[(42, 9)], [10], some (42, true)⟩, ⟨[(43, 10), (42, 9)], [], some (42, true)⟩, ⟨[(44, 11)], [8], some (44, false)⟩, ⟨[(45, 12), (44, 11)], [], some (44, false)⟩, ⟨[(46, 13), (44, 11)], [], some (44, false)⟩, ⟨[(44, 11), (47, 14), (42, 9)], [], some (42, true)⟩, ⟨[(42, 9), (48, 15)], [], none⟩, ⟨[(49, 16)], [], none⟩, ⟨[(50, 17)], [11], some (50, true)⟩, ⟨[(51, 18), (50, 17)], [], some (50, true)⟩, ⟨[(50, 17)], [0], some (50, true)⟩, ⟨[(53, 20), (50, 17)], [], some (50, true)⟩, ⟨[(52, 19), (54, 21), (50, 17)], [], some (50, true)⟩, ⟨[(50, 17), (55, 22)], [], none⟩, ⟨[(56, 23)], [], none⟩, ⟨[(57, 24)], [11], some (57, true)⟩, ⟨[(58, 25), (57, 24)], [], some (57, true)⟩, ⟨[(59, 26), (57, 24)], [], some (57, true)⟩, ⟨[(60, 27)], [11], some (60, false)⟩, ⟨[(61, 28), (60, 27)], [], some (60, false)⟩, ⟨[(62, 29), (60, 27)], [], some (60, false)⟩, ⟨[(60, 27), (63, 30), (57, 24)], [], some (57, true)⟩, ⟨[(57, 24), (64, 31)], [], none⟩, ⟨[(65, 32)], [], none⟩, ⟨[(66, 33)], [0], some (66, true)⟩, ⟨[(66, 33)], [2], some (66, true)⟩, ⟨[(67, 34), (68, 35), (66, 33)], [], some (66, true)⟩, ⟨[(66, 33)], [0], some (66, true)⟩, ⟨[(66, 33)], [2], some (66, true)⟩, ⟨[(70, 37), (71, 38), (66, 33)], [], some (66, true)⟩, ⟨[(69, 36), (72, 39), (66, 33)], [], some (66, true)⟩, ⟨[(66, 33), (73, 40)], [], none⟩, ⟨[(74, 41)], [], none⟩, ⟨[(75, 42)], [0], some (75, true)⟩, ⟨[(75, 42)], [1], some (75, true)⟩, ⟨[(76, 43), (77, 44), (75, 42)], [], some (75, true)⟩, ⟨[(75, 42)], [0], some (75, true)⟩, ⟨[(75, 42)], [1], some (75, true)⟩, ⟨[(79, 46), (80, 47), (75, 42)], [], some (75, true)⟩, ⟨[(78, 45), (81, 48), (75, 42)], [], some (75, true)⟩, ⟨[(75, 42), (82, 49)], [], none⟩, ⟨[(83, 50)], [], none⟩, ⟨[(84, 51)], [0], some (84, true)⟩, ⟨[(84, 51)], [1], some (84, true)⟩, ⟨[(85, 52), (86, 53), (84, 51)], [], some (84, true)⟩, ⟨[(84, 51)], [0], some (84, true)⟩, ⟨[(84, 51)], [1], some (84, true)⟩, ⟨[(88, 55), (89, 56), (84, 51)], [], some (84, true)⟩, ⟨[(87, 54), (90, 57), (84, 51)], [], some (84, true)⟩, ⟨[(84, 51), (91, 58)], [], none⟩, ⟨[(92, 59)], [], none⟩, ⟨[(93, 60)], [0], some (93, true)⟩, ⟨[(93, 60)], [1], some (93, true)⟩, ⟨[(94, 61), (95, 62), (93, 60)], [], some (93, true)⟩, ⟨[(93, 60)], [0], some (93, true)⟩, ⟨[(93, 60)], [1], some (93, true)⟩, ⟨[(97, 64), (98, 65), (93, 60)], [], some (93, true)⟩, ⟨[(96, 63), (99, 66), (93, 60)], [], some (93, true)⟩, ⟨[(93, 60), (100, 67)], [], none⟩, ⟨[(101, 68)], [], none⟩, ⟨[(102, 69)], [0], some (102, true)⟩, ⟨[(103, 70), (102, 69)], [], some (102, true)⟩, ⟨[(102, 69)], [0], some (102, true)⟩, ⟨[(105, 72), (102, 69)], [], some (102, true)⟩, ⟨[(104, 71), (106, 73), (102, 69)], [], some (102, true)⟩, ⟨[(102, 69), (107, 74)], [], none⟩, ⟨[(108, 75)], [], none⟩, ⟨[(109, 76)], [], some (109, true)⟩, ⟨[(109, 76), (110, 77)], [], none⟩, ⟨[(111, 78)], [], none⟩] (by kernel_rfl) (by kernel_rfl) (by kernel_rfl) (by kernel_rfl) (by kernel_rfl) ?monoc ?stepsc ?finc
  case monoc => exact ⟨mono_eq _, mono_eq _, mono_eq _, mono_eq _, mono_eq _, mono_eq _, mono_eq _, mono_eq _, mono_eq _, mono_eq _, mono_eq _, mono_eq _, mono_eq _, mono_eq _, mono_eq _, mono_eq _, mono_eq _, mono_eq _, mono_eq _, mono_eq _, mono_eq _, mono_eq _, mono_eq _, mono_eq _, mono_eq _, mono_eq _, mono_eq _, mono_eq _, mono_eq _, mono_eq _, mono_eq _, mono_eq _, mono_eq _, mono_eq _, mono_eq _, mono_eq _, mono_eq _, mono_eq _, mono_eq _, mono_eq _, mono_eq _, mono_eq _, mono_eq _, mono_eq _, mono_eq _, mono_sl _ _, mono_eq _, mono_eq _, mono_sl _ _, mono_eq _, mono_eq _, mono_eq _, mono_eq _, mono_eq _, mono_sl _ _, mono_eq _, mono_eq _, mono_sl _ _, mono_eq _, mono_eq _, mono_eq _, mono_eq _, mono_eq _, mono_sl _ _, mono_eq _, mono_eq _, mono_sl _ _, mono_eq _, mono_eq _, mono_eq _, mono_eq _, mono_eq _, mono_eq _, mono_eq _, mono_eq _, mono_eq _, mono_eq _, mono_eq _, mono_eq _, mono_eq _, trivial⟩
  case stepsc =>
    refine ⟨fun ρ W ⟨hcst, hglb, hfun⟩ hX hp ho => ?_, ?_⟩ -- 0: slot 33 := Op.move t7
    · obtain ⟨o7, -⟩ := ho
      change ρ (.tmp 7) = _ at o7
      refine turn_plain (ok_is ?_ rfl)
      simp only [execOp, o7]; go_simp; try exact rfl
    refine ⟨fun ρ W ⟨hcst, hglb, hfun⟩ hX hp ho => ?_, ?_⟩ -- 1: slot 34 := Op.move t9
    · obtain ⟨o9, -⟩ := ho
      change ρ (.tmp 9) = _ at o9
      refine turn_plain (ok_is ?_ rfl)
      simp only [execOp, o9]; go_simp; try exact rfl
    refine ⟨fun ρ W ⟨hcst, hglb, hfun⟩ hX hp ho => ?_, ?_⟩ -- 2: slot 35 := Op.call { value (Operand.func 17), args := #[t33, t34], argTypes := #[31, 31] }
    · obtain ⟨p33, p34, -⟩ := hp
      change ρ (.tmp 33) = _ at p33
      change ρ (.tmp 34) = _ at p34
      have hW := (Below.refl _ _).drew.trans hX
      refine turn_plain ?_
      have ce := @enter_of Tryd.prog 17 _ Tryd.func17 (by kernel_rfl) (by kernel_rfl)
      refine ok_call (op_call2 hfun ce (by exact rfl) p33 p34) ?_
      refine (valB_eq (.bool true) (by simp) (ints15_any A_l 0 c_l [] A_m 0 c_m [] _ rfl Nl.out (Sl.out.later (hW) (Nat.le_refl _)) rfl Nm.out (Sm.out.later (hW) (Nat.le_refl _)))).mono ?_
      rintro e W' ⟨rfl, bel⟩
      exact ⟨_, rfl, bel, rfl⟩
    refine ⟨fun ρ W ⟨hcst, hglb, hfun⟩ hX hp ho => ?_, ?_⟩ -- 3: slot 36 := Op.move t35
    · obtain ⟨p35, -⟩ := hp
      change ρ (.tmp 35) = _ at p35
      refine turn_plain (ok_is ?_ rfl)
      simp only [execOp, p35]; go_simp; try exact rfl
    refine ⟨fun ρ W ⟨hcst, hglb, hfun⟩ hX hp ho => ?_, ?_⟩ -- 4: slot 37 := Op.move t8   [guarded: some (3, true)]
    · obtain ⟨p36, -⟩ := hp
      change ρ (.tmp 36) = _ at p36
      obtain ⟨o8, -⟩ := ho
      change ρ (.tmp 8) = _ at o8
      refine turn_yes p36 (ok_is ?_ rfl)
      simp only [execOp, o8]; go_simp; try exact rfl
    refine ⟨fun ρ W ⟨hcst, hglb, hfun⟩ hX hp ho => ?_, ?_⟩ -- 5: slot 38 := Op.binOp BinOp.eql 24 t37 (const Value.nilIface) 24   [guarded: some (3, true)]
    · obtain ⟨p37, p36, -⟩ := hp
      change ρ (.tmp 37) = _ at p37
      change ρ (.tmp 36) = _ at p36
      refine turn_yes p36 (ok_is ?_ rfl)
      simp only [execOp, hcst, p37]; go_simp; try exact rfl
    refine ⟨fun ρ W ⟨hcst, hglb, hfun⟩ hX hp ho => ?_, ?_⟩ -- 6: slot 39 := Op.move t10   [guarded: some (3, true)]
    · obtain ⟨p36, -⟩ := hp
      change ρ (.tmp 36) = _ at p36
      obtain ⟨o10, -⟩ := ho
      change ρ (.tmp 10) = _ at o10
      refine turn_yes p36 (ok_is ?_ rfl)
      simp only [execOp, o10]; go_simp; try exact rfl
    refine ⟨fun ρ W ⟨hcst, hglb, hfun⟩ hX hp ho => ?_, ?_⟩ -- 7: slot 40 := Op.binOp BinOp.eql 4 t38 t39 4   [guarded: some (3, true)]
    · obtain ⟨p38, p39, p36, -⟩ := hp
      change ρ (.tmp 38) = _ at p38
      change ρ (.tmp 39) = _ at p39
      change ρ (.tmp 36) = _ at p36
      refine turn_yes p36 (ok_is ?_ rfl)
      simp only [execOp, p38, p39]; go_simp; try exact rfl
    refine ⟨fun ρ W ⟨hcst, hglb, hfun⟩ hX hp ho => ?_, ?_⟩ -- 8: slot 41 := Op.pick t36 t40 (const (Value.bool false))
    · obtain ⟨p36, p40, -⟩ := hp
      change ρ (.tmp 36) = _ at p36
      change ρ (.tmp 40) = _ at p40
      refine turn_plain (ok_is ?_ rfl)
      simp only [execOp, hcst, p36, p40]; go_simp; try exact rfl
    refine ⟨fun ρ W ⟨hcst, hglb, hfun⟩ hX hp ho => ?_, ?_⟩ -- 9: slot 42 := Op.move t41
    · obtain ⟨p41, -⟩ := hp
      change ρ (.tmp 41) = _ at p41
      refine turn_plain (ok_is ?_ rfl)
      simp only [execOp, p41]; go_simp; try exact rfl
    refine ⟨fun ρ W ⟨hcst, hglb, hfun⟩ hX hp ho => ?_, ?_⟩ -- 10: slot 43 := Op.move t10   [guarded: some (9, true)]
    · obtain ⟨p42, -⟩ := hp
      change ρ (.tmp 42) = _ at p42
      obtain ⟨o10, -⟩ := ho
      change ρ (.tmp 10) = _ at o10
      refine turn_yes p42 (ok_is ?_ rfl)
      simp only [execOp, o10]; go_simp; try exact rfl
    refine ⟨fun ρ W ⟨hcst, hglb, hfun⟩ hX hp ho => ?_, ?_⟩ -- 11: slot 44 := Op.move t43   [guarded: some (9, true)]
    · obtain ⟨p43, p42, -⟩ := hp
      change ρ (.tmp 43) = _ at p43
      change ρ (.tmp 42) = _ at p42
      refine turn_yes p42 (ok_is ?_ rfl)
      simp only [execOp, p43]; go_simp; try exact rfl
    refine ⟨fun ρ W ⟨hcst, hglb, hfun⟩ hX hp ho => ?_, ?_⟩ -- 12: slot 45 := Op.move t8   [guarded: some (11, false)]
    · obtain ⟨p44, -⟩ := hp
      change ρ (.tmp 44) = _ at p44
      obtain ⟨o8, -⟩ := ho
      change ρ (.tmp 8) = _ at o8
      refine turn_yes p44 (ok_is ?_ rfl)
      simp only [execOp, o8]; go_simp; try exact rfl
    refine ⟨fun ρ W ⟨hcst, hglb, hfun⟩ hX hp ho => ?_, ?_⟩ -- 13: slot 46 := Op.call { value (Operand.func 18), args := #[t45], argTypes := #[24] }   [guarded: some (1
    · obtain ⟨p45, p44, -⟩ := hp
      change ρ (.tmp 45) = _ at p45
      change ρ (.tmp 44) = _ at p44
      have hW := (Below.refl _ _).drew.trans hX
      refine turn_yes p44 ?_
      have ce := @enter_of Tryd.prog 18 _ Tryd.func18 (by kernel_rfl) (by kernel_rfl)
      refine ok_call (op_call1 hfun ce (by exact rfl) p45) ?_
      refine (num15_err 1 _ (HG.out.later (hW) (Nat.le_refl _))).mono ?_
      rintro e W' ⟨rfl, bel⟩
      exact ⟨_, rfl, bel, rfl⟩
    refine ⟨fun ρ W ⟨hcst, hglb, hfun⟩ hX hp ho => ?_, ?_⟩ -- 14: slot 47 := Op.binOp BinOp.eql 3 t46 (const (1:i64)) 3   [guarded: some (11, false)]
    · obtain ⟨p46, p44, -⟩ := hp
      change ρ (.tmp 46) = _ at p46
      change ρ (.tmp 44) = _ at p44
      refine turn_yes p44 (ok_is ?_ rfl)
      simp only [execOp, hcst, p46]; go_simp; try exact rfl
    refine ⟨fun ρ W ⟨hcst, hglb, hfun⟩ hX hp ho => ?_, ?_⟩ -- 15: slot 48 := Op.pick t44 (const (Value.bool true)) t47   [guarded: some (9, true)]
    · obtain ⟨p44, p47, p42, -⟩ := hp
      change ρ (.tmp 44) = _ at p44
      change ρ (.tmp 47) = _ at p47
      change ρ (.tmp 42) = _ at p42
      refine turn_yes p42 (ok_is ?_ rfl)
      simp only [execOp, hcst, p44, p47]; go_simp; try exact rfl
    refine ⟨fun ρ W ⟨hcst, hglb, hfun⟩ hX hp ho => ?_, ?_⟩ -- 16: slot 49 := Op.pick t42 t48 (const (Value.bool false))
    · obtain ⟨p42, p48, -⟩ := hp
      change ρ (.tmp 42) = _ at p42
      change ρ (.tmp 48) = _ at p48
      refine turn_plain (ok_is ?_ rfl)
      simp only [execOp, hcst, p42, p48]; go_simp; try exact rfl
    refine ⟨fun ρ W ⟨hcst, hglb, hfun⟩ hX hp ho => ?_, ?_⟩ -- 17: slot 50 := Op.move t49
    · obtain ⟨p49, -⟩ := hp
      change ρ (.tmp 49) = _ at p49
      refine turn_plain (ok_is ?_ rfl)
      simp only [execOp, p49]; go_simp; try exact rfl
    refine ⟨fun ρ W ⟨hcst, hglb, hfun⟩ hX hp ho => ?_, ?_⟩ -- 18: slot 51 := Op.move t11   [guarded: some (17, true)]
    · obtain ⟨p50, -⟩ := hp
      change ρ (.tmp 50) = _ at p50
      obtain ⟨o11, -⟩ := ho
      change ρ (.tmp 11) = _ at o11
      refine turn_yes p50 (ok_is ?_ rfl)
      simp only [execOp, o11]; go_simp; try exact rfl
    refine ⟨fun ρ W ⟨hcst, hglb, hfun⟩ hX hp ho => ?_, ?_⟩ -- 19: slot 52 := Op.binOp BinOp.eql 24 t51 (const Value.nilIface) 24   [guarded: some (17, true)]
    · obtain ⟨p51, p50, -⟩ := hp
      change ρ (.tmp 51) = _ at p51
      change ρ (.tmp 50) = _ at p50
      refine turn_yes p50 (ok_is ?_ rfl)
      simp only [execOp, hcst, p51]; go_simp; try exact rfl
    refine ⟨fun ρ W ⟨hcst, hglb, hfun⟩ hX hp ho => ?_, ?_⟩ -- 20: slot 53 := Op.move t0   [guarded: some (17, true)]
    · obtain ⟨p50, -⟩ := hp
      change ρ (.tmp 50) = _ at p50
      obtain ⟨o0, -⟩ := ho
      change ρ (.tmp 0) = _ at o0
      refine turn_yes p50 (ok_is ?_ rfl)
      simp only [execOp, o0]; go_simp; try exact rfl
    refine ⟨fun ρ W ⟨hcst, hglb, hfun⟩ hX hp ho => ?_, ?_⟩ -- 21: slot 54 := Op.call { value (Operand.func 19), args := #[t53], argTypes := #[31] }   [guarded: some (1
    · obtain ⟨p53, p50, -⟩ := hp
      change ρ (.tmp 53) = _ at p53
      change ρ (.tmp 50) = _ at p50
      have hW := (Below.refl _ _).drew.trans hX
      refine turn_yes p50 ?_
      have ce := @enter_of Tryd.prog 19 _ Tryd.func19 (by kernel_rfl) (by kernel_rfl)
      refine ok_call (op_call1 hfun ce (by exact rfl) p53) ?_
      refine (valB_eq (.bool false) (by rw [HMAY.out]) (refMay_any A l.length c l _ rfl Na.out (Sa.out.later (hW) (Nat.le_refl _)))).mono ?_
      rintro e W' ⟨rfl, bel⟩
      exact ⟨_, rfl, bel, rfl⟩
    refine ⟨fun ρ W ⟨hcst, hglb, hfun⟩ hX hp ho => ?_, ?_⟩ -- 22: slot 55 := Op.binOp BinOp.eql 4 t52 t54 4   [guarded: some (17, true)]
    · obtain ⟨p52, p54, p50, -⟩ := hp
      change ρ (.tmp 52) = _ at p52
      change ρ (.tmp 54) = _ at p54
      change ρ (.tmp 50) = _ at p50
      refine turn_yes p50 (ok_is ?_ rfl)
      simp only [execOp, p52, p54]; go_simp; try exact rfl
    refine ⟨fun ρ W ⟨hcst, hglb, hfun⟩ hX hp ho => ?_, ?_⟩ -- 23: slot 56 := Op.pick t50 t55 (const (Value.bool false))
    · obtain ⟨p50, p55, -⟩ := hp
      change ρ (.tmp 50) = _ at p50
      change ρ (.tmp 55) = _ at p55
      refine turn_plain (ok_is ?_ rfl)
      simp only [execOp, hcst, p50, p55]; go_simp; try exact rfl
    refine ⟨fun ρ W ⟨hcst, hglb, hfun⟩ hX hp ho => ?_, ?_⟩ -- 24: slot 57 := Op.move t56
    · obtain ⟨p56, -⟩ := hp
      change ρ (.tmp 56) = _ at p56
      refine turn_plain (ok_is ?_ rfl)
      simp only [execOp, p56]; go_simp; try exact rfl
    refine ⟨fun ρ W ⟨hcst, hglb, hfun⟩ hX hp ho => ?_, ?_⟩ -- 25: slot 58 := Op.move t11   [guarded: some (24, true)]
    · obtain ⟨p57, -⟩ := hp
      change ρ (.tmp 57) = _ at p57
      obtain ⟨o11, -⟩ := ho
      change ρ (.tmp 11) = _ at o11
      refine turn_yes p57 (ok_is ?_ rfl)
      simp only [execOp, o11]; go_simp; try exact rfl
    refine ⟨fun ρ W ⟨hcst, hglb, hfun⟩ hX hp ho => ?_, ?_⟩ -- 26: slot 59 := Op.binOp BinOp.eql 24 t58 (const Value.nilIface) 24   [guarded: some (24, true)]
    · obtain ⟨p58, p57, -⟩ := hp
      change ρ (.tmp 58) = _ at p58
      change ρ (.tmp 57) = _ at p57
      refine turn_yes p57 (ok_is ?_ rfl)
      simp only [execOp, hcst, p58]; go_simp; try exact rfl
    refine ⟨fun ρ W ⟨hcst, hglb, hfun⟩ hX hp ho => ?_, ?_⟩ -- 27: slot 60 := Op.move t59   [guarded: some (24, true)]
    · obtain ⟨p59, p57, -⟩ := hp
      change ρ (.tmp 59) = _ at p59
      change ρ (.tmp 57) = _ at p57
      refine turn_yes p57 (ok_is ?_ rfl)
      simp only [execOp, p59]; go_simp; try exact rfl
    refine ⟨fun ρ W ⟨hcst, hglb, hfun⟩ hX hp ho => ?_, ?_⟩ -- 28: slot 61 := Op.move t11   [guarded: some (27, false)]
    · obtain ⟨p60, -⟩ := hp
      change ρ (.tmp 60) = _ at p60
      obtain ⟨o11, -⟩ := ho
      change ρ (.tmp 11) = _ at o11
      refine turn_yes p60 (ok_is ?_ rfl)
      simp only [execOp, o11]; go_simp; try exact rfl
    refine ⟨fun ρ W ⟨hcst, hglb, hfun⟩ hX hp ho => ?_, ?_⟩ -- 29: slot 62 := Op.call { value (Operand.func 18), args := #[t61], argTypes := #[24] }   [guarded: some (2
    · obtain ⟨p61, p60, -⟩ := hp
      change ρ (.tmp 61) = _ at p61
      change ρ (.tmp 60) = _ at p60
      have hW := (Below.refl _ _).drew.trans hX
      refine turn_yes p60 ?_
      have ce := @enter_of Tryd.prog 18 _ Tryd.func18 (by kernel_rfl) (by kernel_rfl)
      refine ok_call (op_call1 hfun ce (by exact rfl) p61) ?_
      refine (num15_err 1 _ (HG.out.later (hW) (Nat.le_refl _))).mono ?_
      rintro e W' ⟨rfl, bel⟩
      exact ⟨_, rfl, bel, rfl⟩
    refine ⟨fun ρ W ⟨hcst, hglb, hfun⟩ hX hp ho => ?_, ?_⟩ -- 30: slot 63 := Op.binOp BinOp.eql 3 t62 (const (1:i64)) 3   [guarded: some (27, false)]
    · obtain ⟨p62, p60, -⟩ := hp
      change ρ (.tmp 62) = _ at p62
      change ρ (.tmp 60) = _ at p60
      refine turn_yes p60 (ok_is ?_ rfl)
      simp only [execOp, hcst, p62]; go_simp; try exact rfl
    refine ⟨fun ρ W ⟨hcst, hglb, hfun⟩ hX hp ho => ?_, ?_⟩ -- 31: slot 64 := Op.pick t60 (const (Value.bool true)) t63   [guarded: some (24, true)]
    · obtain ⟨p60, p63, p57, -⟩ := hp
      change ρ (.tmp 60) = _ at p60
      change ρ (.tmp 63) = _ at p63
      change ρ (.tmp 57) = _ at p57
      refine turn_yes p57 (ok_is ?_ rfl)
      simp only [execOp, hcst, p60, p63]; go_simp; try exact rfl
    refine ⟨fun ρ W ⟨hcst, hglb, hfun⟩ hX hp ho => ?_, ?_⟩ -- 32: slot 65 := Op.pick t57 t64 (const (Value.bool false))
    · obtain ⟨p57, p64, -⟩ := hp
      change ρ (.tmp 57) = _ at p57
      change ρ (.tmp 64) = _ at p64
      refine turn_plain (ok_is ?_ rfl)
      simp only [execOp, hcst, p57, p64]; go_simp; try exact rfl
    refine ⟨fun ρ W ⟨hcst, hglb, hfun⟩ hX hp ho => ?_, ?_⟩ -- 33: slot 66 := Op.move t65
    · obtain ⟨p65, -⟩ := hp
      change ρ (.tmp 65) = _ at p65
      refine turn_plain (ok_is ?_ rfl)
      simp only [execOp, p65]; go_simp; try exact rfl
    refine ⟨fun ρ W ⟨hcst, hglb, hfun⟩ hX hp ho => ?_, ?_⟩ -- 34: slot 67 := Op.move t0   [guarded: some (33, true)]
    · obtain ⟨p66, -⟩ := hp
      change ρ (.tmp 66) = _ at p66
      obtain ⟨o0, -⟩ := ho
      change ρ (.tmp 0) = _ at o0
      refine turn_yes p66 (ok_is ?_ rfl)
      simp only [execOp, o0]; go_simp; try exact rfl
    refine ⟨fun ρ W ⟨hcst, hglb, hfun⟩ hX hp ho => ?_, ?_⟩ -- 35: slot 68 := Op.move t2   [guarded: some (33, true)]
    · obtain ⟨p66, -⟩ := hp
      change ρ (.tmp 66) = _ at p66
      obtain ⟨o2, -⟩ := ho
      change ρ (.tmp 2) = _ at o2
      refine turn_yes p66 (ok_is ?_ rfl)
      simp only [execOp, o2]; go_simp; try exact rfl
    refine ⟨fun ρ W ⟨hcst, hglb, hfun⟩ hX hp ho => ?_, ?_⟩ -- 36: slot 69 := Op.call { value (Operand.func 20), args := #[t67, t68], argTypes := #[31, 3] }   [guarded:
    · obtain ⟨p67, p68, p66, -⟩ := hp
      change ρ (.tmp 67) = _ at p67
      change ρ (.tmp 68) = _ at p68
      change ρ (.tmp 66) = _ at p66
      have hW := (Below.refl _ _).drew.trans hX
      refine turn_yes p66 ?_
      have ce := @enter_of Tryd.prog 20 _ Tryd.func20 (by kernel_rfl) (by kernel_rfl)
      refine ok_call (op_call2 hfun ce (by exact rfl) p67 p68) ?_
      refine (val_eq (.bool r) (by rw [HR.out]) (setHas_any A l.length c l x _ rfl Na.out (Sa.out.later (hW) (Nat.le_refl _)))).mono ?_
      rintro e W' ⟨rfl, rfl⟩
      exact ⟨_, rfl, Below.refl _ _, rfl⟩
    refine ⟨fun ρ W ⟨hcst, hglb, hfun⟩ hX hp ho => ?_, ?_⟩ -- 37: slot 70 := Op.move t0   [guarded: some (33, true)]
    · obtain ⟨p66, -⟩ := hp
      change ρ (.tmp 66) = _ at p66
      obtain ⟨o0, -⟩ := ho
      change ρ (.tmp 0) = _ at o0
      refine turn_yes p66 (ok_is ?_ rfl)
      simp only [execOp, o0]; go_simp; try exact rfl
    refine ⟨fun ρ W ⟨hcst, hglb, hfun⟩ hX hp ho => ?_, ?_⟩ -- 38: slot 71 := Op.move t2   [guarded: some (33, true)]
    · obtain ⟨p66, -⟩ := hp
      change ρ (.tmp 66) = _ at p66
      obtain ⟨o2, -⟩ := ho
      change ρ (.tmp 2) = _ at o2
      refine turn_yes p66 (ok_is ?_ rfl)
      simp only [execOp, o2]; go_simp; try exact rfl
    refine ⟨fun ρ W ⟨hcst, hglb, hfun⟩ hX hp ho => ?_, ?_⟩ -- 39: slot 72 := Op.call { value (Operand.func 21), args := #[t70, t71], argTypes := #[31, 3] }   [guarded:
    · obtain ⟨p70, p71, p66, -⟩ := hp
      change ρ (.tmp 70) = _ at p70
      change ρ (.tmp 71) = _ at p71
      change ρ (.tmp 66) = _ at p66
      have hW := (Below.refl _ _).drew.trans hX
      refine turn_yes p66 ?_
      have ce := @enter_of Tryd.prog 21 _ Tryd.func21 (by kernel_rfl) (by kernel_rfl)
      refine ok_call (op_call2 hfun ce (by exact rfl) p70 p71) ?_
      refine (val_eq (.bool r) (by rw [HR.out]) (refHas_any A l.length c l x _ rfl Na.out (Sa.out.later (hW) (Nat.le_refl _)))).mono ?_
      rintro e W' ⟨rfl, rfl⟩
      exact ⟨_, rfl, Below.refl _ _, rfl⟩
    refine ⟨fun ρ W ⟨hcst, hglb, hfun⟩ hX hp ho => ?_, ?_⟩ -- 40: slot 73 := Op.binOp BinOp.eql 4 t69 t72 4   [guarded: some (33, true)]
    · obtain ⟨p69, p72, p66, -⟩ := hp
      change ρ (.tmp 69) = _ at p69
      change ρ (.tmp 72) = _ at p72
      change ρ (.tmp 66) = _ at p66
      refine turn_yes p66 (ok_is ?_ rfl)
      simp only [execOp, p69, p72]; go_simp; try exact rfl
    refine ⟨fun ρ W ⟨hcst, hglb, hfun⟩ hX hp ho => ?_, ?_⟩ -- 41: slot 74 := Op.pick t66 t73 (const (Value.bool false))
    · obtain ⟨p66, p73, -⟩ := hp
      change ρ (.tmp 66) = _ at p66
      change ρ (.tmp 73) = _ at p73
      refine turn_plain (ok_is ?_ rfl)
      simp only [execOp, hcst, p66, p73]; go_simp; try exact rfl
    refine ⟨fun ρ W ⟨hcst, hglb, hfun⟩ hX hp ho => ?_, ?_⟩ -- 42: slot 75 := Op.move t74
    · obtain ⟨p74, -⟩ := hp
      change ρ (.tmp 74) = _ at p74
      refine turn_plain (ok_is ?_ rfl)
      simp only [execOp, p74]; go_simp; try exact rfl
    refine ⟨fun ρ W ⟨hcst, hglb, hfun⟩ hX hp ho => ?_, ?_⟩ -- 43: slot 76 := Op.move t0   [guarded: some (42, true)]
    · obtain ⟨p75, -⟩ := hp
      change ρ (.tmp 75) = _ at p75
      obtain ⟨o0, -⟩ := ho
      change ρ (.tmp 0) = _ at o0
      refine turn_yes p75 (ok_is ?_ rfl)
      simp only [execOp, o0]; go_simp; try exact rfl
    refine ⟨fun ρ W ⟨hcst, hglb, hfun⟩ hX hp ho => ?_, ?_⟩ -- 44: slot 77 := Op.move t1   [guarded: some (42, true)]
    · obtain ⟨p75, -⟩ := hp
      change ρ (.tmp 75) = _ at p75
      obtain ⟨o1, -⟩ := ho
      change ρ (.tmp 1) = _ at o1
      refine turn_yes p75 (ok_is ?_ rfl)
      simp only [execOp, o1]; go_simp; try exact rfl
    refine ⟨fun ρ W ⟨hcst, hglb, hfun⟩ hX hp ho => ?_, ?_⟩ -- 45: slot 78 := Op.call { value (Operand.func 22), args := #[t76, t77], argTypes := #[31, 31] }   [guarded
    · obtain ⟨p76, p77, p75, -⟩ := hp
      change ρ (.tmp 76) = _ at p76
      change ρ (.tmp 77) = _ at p77
      change ρ (.tmp 75) = _ at p75
      have hW := (Below.refl _ _).drew.trans hX
      refine turn_yes p75 ?_
      have ce := @enter_of Tryd.prog 22 _ Tryd.func22 (by kernel_rfl) (by kernel_rfl)
      refine ok_call (op_call2 hfun ce (by exact rfl) p76 p77) ?_
      refine (sl_eq (P := fun _ _ => True) L0 L0.length HL0.out rfl (setEither_any A l.length c l A2 l2.length c2 l2 _ rfl Na.out (Sa.out.later (hW) (Nat.le_refl _)) rfl Nb.out (Sb.out.later (hW) (Nat.le_refl _)))).mono ?_
      rintro e W' ⟨A9, c9, rfl, hat9, bel⟩
      exact ⟨_, rfl, bel, A9, c9, rfl, hat9⟩
    refine ⟨fun ρ W ⟨hcst, hglb, hfun⟩ hX hp ho => ?_, ?_⟩ -- 46: slot 79 := Op.move t0   [guarded: some (42, true)]
    · obtain ⟨p75, -⟩ := hp
      change ρ (.tmp 75) = _ at p75
      obtain ⟨o0, -⟩ := ho
      change ρ (.tmp 0) = _ at o0
      refine turn_yes p75 (ok_is ?_ rfl)
      simp only [execOp, o0]; go_simp; try exact rfl
    refine ⟨fun ρ W ⟨hcst, hglb, hfun⟩ hX hp ho => ?_, ?_⟩ -- 47: slot 80 := Op.move t1   [guarded: some (42, true)]
    · obtain ⟨p75, -⟩ := hp
      change ρ (.tmp 75) = _ at p75
      obtain ⟨o1, -⟩ := ho
      change ρ (.tmp 1) = _ at o1
      refine turn_yes p75 (ok_is ?_ rfl)
      simp only [execOp, o1]; go_simp; try exact rfl
    refine ⟨fun ρ W ⟨hcst, hglb, hfun⟩ hX hp ho => ?_, ?_⟩ -- 48: slot 81 := Op.call { value (Operand.func 23), args := #[t79, t80, const (0:i64)], argTypes := #[31, 3
    · obtain ⟨p79, p80, p75, -⟩ := hp
      change ρ (.tmp 79) = _ at p79
      change ρ (.tmp 80) = _ at p80
      change ρ (.tmp 75) = _ at p75
      have hW := (Below.refl _ _).drew.trans hX
      refine turn_yes p75 ?_
      have ce := @enter_of Tryd.prog 23 _ Tryd.func23 (by kernel_rfl) (by kernel_rfl)
      refine ok_call (op_call3 hfun ce (by exact rfl) p79 p80 (hcst _)) ?_
      refine (sl_eq (P := fun _ _ => True) L0 L0.length HL0.out rfl (refSome0_any A l.length c l A2 l2.length c2 l2 _ rfl Na.out (Sa.out.later (hW) (Nat.le_refl _)) rfl Nb.out (Sb.out.later (hW) (Nat.le_refl _)))).mono ?_
      rintro e W' ⟨A9, c9, rfl, hat9, bel⟩
      exact ⟨_, rfl, bel, A9, c9, rfl, hat9⟩
    refine ⟨fun ρ W ⟨hcst, hglb, hfun⟩ hX hp ho => ?_, ?_⟩ -- 49: slot 82 := Op.call { value (Operand.func 17), args := #[t78, t81], argTypes := #[31, 31] }   [guarded
    · obtain ⟨p78, p81, p75, -⟩ := hp
      obtain ⟨A78, c78, p78, hat78⟩ := p78
      change ρ (.tmp 78) = _ at p78
      obtain ⟨A81, c81, p81, hat81⟩ := p81
      change ρ (.tmp 81) = _ at p81
      change ρ (.tmp 75) = _ at p75
      have hW := (Below.refl _ _).drew.trans hX
      refine turn_yes p75 ?_
      have ce := @enter_of Tryd.prog 17 _ Tryd.func17 (by kernel_rfl) (by kernel_rfl)
      refine ok_call (op_call2 hfun ce (by exact rfl) p78 p81) ?_
      refine (valB_eq (.bool true) (by simp) (ints15_any A78 L0.length c78 L0 A81 L0.length c81 L0 _ rfl NL0.out hat78 rfl NL0.out hat81)).mono ?_
      rintro e W' ⟨rfl, bel⟩
      exact ⟨_, rfl, bel, rfl⟩
    refine ⟨fun ρ W ⟨hcst, hglb, hfun⟩ hX hp ho => ?_, ?_⟩ -- 50: slot 83 := Op.pick t75 t82 (const (Value.bool false))
    · obtain ⟨p75, p82, -⟩ := hp
      change ρ (.tmp 75) = _ at p75
      change ρ (.tmp 82) = _ at p82
      refine turn_plain (ok_is ?_ rfl)
      simp only [execOp, hcst, p75, p82]; go_simp; try exact rfl
    refine ⟨fun ρ W ⟨hcst, hglb, hfun⟩ hX hp ho => ?_, ?_⟩ -- 51: slot 84 := Op.move t83
    · obtain ⟨p83, -⟩ := hp
      change ρ (.tmp 83) = _ at p83
      refine turn_plain (ok_is ?_ rfl)
      simp only [execOp, p83]; go_simp; try exact rfl
    refine ⟨fun ρ W ⟨hcst, hglb, hfun⟩ hX hp ho => ?_, ?_⟩ -- 52: slot 85 := Op.move t0   [guarded: some (51, true)]
    · obtain ⟨p84, -⟩ := hp
      change ρ (.tmp 84) = _ at p84
      obtain ⟨o0, -⟩ := ho
      change ρ (.tmp 0) = _ at o0
      refine turn_yes p84 (ok_is ?_ rfl)
      simp only [execOp, o0]; go_simp; try exact rfl
    refine ⟨fun ρ W ⟨hcst, hglb, hfun⟩ hX hp ho => ?_, ?_⟩ -- 53: slot 86 := Op.move t1   [guarded: some (51, true)]
    · obtain ⟨p84, -⟩ := hp
      change ρ (.tmp 84) = _ at p84
      obtain ⟨o1, -⟩ := ho
      change ρ (.tmp 1) = _ at o1
      refine turn_yes p84 (ok_is ?_ rfl)
      simp only [execOp, o1]; go_simp; try exact rfl
    refine ⟨fun ρ W ⟨hcst, hglb, hfun⟩ hX hp ho => ?_, ?_⟩ -- 54: slot 87 := Op.call { value (Operand.func 24), args := #[t85, t86], argTypes := #[31, 31] }   [guarded
    · obtain ⟨p85, p86, p84, -⟩ := hp
      change ρ (.tmp 85) = _ at p85
      change ρ (.tmp 86) = _ at p86
      change ρ (.tmp 84) = _ at p84
      have hW := (Below.refl _ _).drew.trans hX
      refine turn_yes p84 ?_
      have ce := @enter_of Tryd.prog 24 _ Tryd.func24 (by kernel_rfl) (by kernel_rfl)
      refine ok_call (op_call2 hfun ce (by exact rfl) p85 p86) ?_
      refine (sl_eq (P := fun _ _ => True) L1 L1.length HL1.out rfl (setBoth_any A l.length c l A2 l2.length c2 l2 _ rfl Na.out (Sa.out.later (hW) (Nat.le_refl _)) rfl Nb.out (Sb.out.later (hW) (Nat.le_refl _)))).mono ?_
      rintro e W' ⟨A9, c9, rfl, hat9, bel⟩
      exact ⟨_, rfl, bel, A9, c9, rfl, hat9⟩
    refine ⟨fun ρ W ⟨hcst, hglb, hfun⟩ hX hp ho => ?_, ?_⟩ -- 55: slot 88 := Op.move t0   [guarded: some (51, true)]
    · obtain ⟨p84, -⟩ := hp
      change ρ (.tmp 84) = _ at p84
      obtain ⟨o0, -⟩ := ho
      change ρ (.tmp 0) = _ at o0
      refine turn_yes p84 (ok_is ?_ rfl)
      simp only [execOp, o0]; go_simp; try exact rfl
    refine ⟨fun ρ W ⟨hcst, hglb, hfun⟩ hX hp ho => ?_, ?_⟩ -- 56: slot 89 := Op.move t1   [guarded: some (51, true)]
    · obtain ⟨p84, -⟩ := hp
      change ρ (.tmp 84) = _ at p84
      obtain ⟨o1, -⟩ := ho
      change ρ (.tmp 1) = _ at o1
      refine turn_yes p84 (ok_is ?_ rfl)
      simp only [execOp, o1]; go_simp; try exact rfl
    refine ⟨fun ρ W ⟨hcst, hglb, hfun⟩ hX hp ho => ?_, ?_⟩ -- 57: slot 90 := Op.call { value (Operand.func 23), args := #[t88, t89, const (1:i64)], argTypes := #[31, 3
    · obtain ⟨p88, p89, p84, -⟩ := hp
      change ρ (.tmp 88) = _ at p88
      change ρ (.tmp 89) = _ at p89
      change ρ (.tmp 84) = _ at p84
      have hW := (Below.refl _ _).drew.trans hX
      refine turn_yes p84 ?_
      have ce := @enter_of Tryd.prog 23 _ Tryd.func23 (by kernel_rfl) (by kernel_rfl)
      refine ok_call (op_call3 hfun ce (by exact rfl) p88 p89 (hcst _)) ?_
      refine (sl_eq (P := fun _ _ => True) L1 L1.length HL1.out rfl (refSome1_any A l.length c l A2 l2.length c2 l2 _ rfl Na.out (Sa.out.later (hW) (Nat.le_refl _)) rfl Nb.out (Sb.out.later (hW) (Nat.le_refl _)))).mono ?_
      rintro e W' ⟨A9, c9, rfl, hat9, bel⟩
      exact ⟨_, rfl, bel, A9, c9, rfl, hat9⟩
    refine ⟨fun ρ W ⟨hcst, hglb, hfun⟩ hX hp ho => ?_, ?_⟩ -- 58: slot 91 := Op.call { value (Operand.func 17), args := #[t87, t90], argTypes := #[31, 31] }   [guarded
    · obtain ⟨p87, p90, p84, -⟩ := hp
      obtain ⟨A87, c87, p87, hat87⟩ := p87
      change ρ (.tmp 87) = _ at p87
      obtain ⟨A90, c90, p90, hat90⟩ := p90
      change ρ (.tmp 90) = _ at p90
      change ρ (.tmp 84) = _ at p84
      have hW := (Below.refl _ _).drew.trans hX
      refine turn_yes p84 ?_
      have ce := @enter_of Tryd.prog 17 _ Tryd.func17 (by kernel_rfl) (by kernel_rfl)
      refine ok_call (op_call2 hfun ce (by exact rfl) p87 p90) ?_
      refine (valB_eq (.bool true) (by simp) (ints15_any A87 L1.length c87 L1 A90 L1.length c90 L1 _ rfl NL1.out hat87 rfl NL1.out hat90)).mono ?_
      rintro e W' ⟨rfl, bel⟩
      exact ⟨_, rfl, bel, rfl⟩
    refine ⟨fun ρ W ⟨hcst, hglb, hfun⟩ hX hp ho => ?_, ?_⟩ -- 59: slot 92 := Op.pick t84 t91 (const (Value.bool false))
    · obtain ⟨p84, p91, -⟩ := hp
      change ρ (.tmp 84) = _ at p84
      change ρ (.tmp 91) = _ at p91
      refine turn_plain (ok_is ?_ rfl)
      simp only [execOp, hcst, p84, p91]; go_simp; try exact rfl
    refine ⟨fun ρ W ⟨hcst, hglb, hfun⟩ hX hp ho => ?_, ?_⟩ -- 60: slot 93 := Op.move t92
    · obtain ⟨p92, -⟩ := hp
      change ρ (.tmp 92) = _ at p92
      refine turn_plain (ok_is ?_ rfl)
      simp only [execOp, p92]; go_simp; try exact rfl
    refine ⟨fun ρ W ⟨hcst, hglb, hfun⟩ hX hp ho => ?_, ?_⟩ -- 61: slot 94 := Op.move t0   [guarded: some (60, true)]
    · obtain ⟨p93, -⟩ := hp
      change ρ (.tmp 93) = _ at p93
      obtain ⟨o0, -⟩ := ho
      change ρ (.tmp 0) = _ at o0
      refine turn_yes p93 (ok_is ?_ rfl)
      simp only [execOp, o0]; go_simp; try exact rfl
    refine ⟨fun ρ W ⟨hcst, hglb, hfun⟩ hX hp ho => ?_, ?_⟩ -- 62: slot 95 := Op.move t1   [guarded: some (60, true)]
    · obtain ⟨p93, -⟩ := hp
      change ρ (.tmp 93) = _ at p93
      obtain ⟨o1, -⟩ := ho
      change ρ (.tmp 1) = _ at o1
      refine turn_yes p93 (ok_is ?_ rfl)
      simp only [execOp, o1]; go_simp; try exact rfl
    refine ⟨fun ρ W ⟨hcst, hglb, hfun⟩ hX hp ho => ?_, ?_⟩ -- 63: slot 96 := Op.call { value (Operand.func 25), args := #[t94, t95], argTypes := #[31, 31] }   [guarded
    · obtain ⟨p94, p95, p93, -⟩ := hp
      change ρ (.tmp 94) = _ at p94
      change ρ (.tmp 95) = _ at p95
      change ρ (.tmp 93) = _ at p93
      have hW := (Below.refl _ _).drew.trans hX
      refine turn_yes p93 ?_
      have ce := @enter_of Tryd.prog 25 _ Tryd.func25 (by kernel_rfl) (by kernel_rfl)
      refine ok_call (op_call2 hfun ce (by exact rfl) p94 p95) ?_
      refine (sl_eq (P := fun _ _ => True) L2 L2.length HL2.out rfl (setLess_any A l.length c l A2 l2.length c2 l2 _ rfl Na.out (Sa.out.later (hW) (Nat.le_refl _)) rfl Nb.out (Sb.out.later (hW) (Nat.le_refl _)))).mono ?_
      rintro e W' ⟨A9, c9, rfl, hat9, bel⟩
      exact ⟨_, rfl, bel, A9, c9, rfl, hat9⟩
    refine ⟨fun ρ W ⟨hcst, hglb, hfun⟩ hX hp ho => ?_, ?_⟩ -- 64: slot 97 := Op.move t0   [guarded: some (60, true)]
    · obtain ⟨p93, -⟩ := hp
      change ρ (.tmp 93) = _ at p93
      obtain ⟨o0, -⟩ := ho
      change ρ (.tmp 0) = _ at o0
      refine turn_yes p93 (ok_is ?_ rfl)
      simp only [execOp, o0]; go_simp; try exact rfl
    refine ⟨fun ρ W ⟨hcst, hglb, hfun⟩ hX hp ho => ?_, ?_⟩ -- 65: slot 98 := Op.move t1   [guarded: some (60, true)]
    · obtain ⟨p93, -⟩ := hp
      change ρ (.tmp 93) = _ at p93
      obtain ⟨o1, -⟩ := ho
      change ρ (.tmp 1) = _ at o1
      refine turn_yes p93 (ok_is ?_ rfl)
      simp only [execOp, o1]; go_simp; try exact rfl
    refine ⟨fun ρ W ⟨hcst, hglb, hfun⟩ hX hp ho => ?_, ?_⟩ -- 66: slot 99 := Op.call { value (Operand.func 23), args := #[t97, t98, const (2:i64)], argTypes := #[31, 3
    · obtain ⟨p97, p98, p93, -⟩ := hp
      change ρ (.tmp 97) = _ at p97
      change ρ (.tmp 98) = _ at p98
      change ρ (.tmp 93) = _ at p93
      have hW := (Below.refl _ _).drew.trans hX
      refine turn_yes p93 ?_
      have ce := @enter_of Tryd.prog 23 _ Tryd.func23 (by kernel_rfl) (by kernel_rfl)
      refine ok_call (op_call3 hfun ce (by exact rfl) p97 p98 (hcst _)) ?_
      refine (sl_eq (P := fun _ _ => True) L2 L2.length HL2.out rfl (refSome2_any A l.length c l A2 l2.length c2 l2 _ rfl Na.out (Sa.out.later (hW) (Nat.le_refl _)) rfl Nb.out (Sb.out.later (hW) (Nat.le_refl _)))).mono ?_
      rintro e W' ⟨A9, c9, rfl, hat9, bel⟩
      exact ⟨_, rfl, bel, A9, c9, rfl, hat9⟩
    refine ⟨fun ρ W ⟨hcst, hglb, hfun⟩ hX hp ho => ?_, ?_⟩ -- 67: slot 100 := Op.call { value (Operand.func 17), args := #[t96, t99], argTypes := #[31, 31] }   [guarded
    · obtain ⟨p96, p99, p93, -⟩ := hp
      obtain ⟨A96, c96, p96, hat96⟩ := p96
      change ρ (.tmp 96) = _ at p96
      obtain ⟨A99, c99, p99, hat99⟩ := p99
      change ρ (.tmp 99) = _ at p99
      change ρ (.tmp 93) = _ at p93
      have hW := (Below.refl _ _).drew.trans hX
      refine turn_yes p93 ?_
      have ce := @enter_of Tryd.prog 17 _ Tryd.func17 (by kernel_rfl) (by kernel_rfl)
      refine ok_call (op_call2 hfun ce (by exact rfl) p96 p99) ?_
      refine (valB_eq (.bool true) (by simp) (ints15_any A96 L2.length c96 L2 A99 L2.length c99 L2 _ rfl NL2.out hat96 rfl NL2.out hat99)).mono ?_
      rintro e W' ⟨rfl, bel⟩
      exact ⟨_, rfl, bel, rfl⟩
    refine ⟨fun ρ W ⟨hcst, hglb, hfun⟩ hX hp ho => ?_, ?_⟩ -- 68: slot 101 := Op.pick t93 t100 (const (Value.bool false))
    · obtain ⟨p93, p100, -⟩ := hp
      change ρ (.tmp 93) = _ at p93
      change ρ (.tmp 100) = _ at p100
      refine turn_plain (ok_is ?_ rfl)
      simp only [execOp, hcst, p93, p100]; go_simp; try exact rfl
    refine ⟨fun ρ W ⟨hcst, hglb, hfun⟩ hX hp ho => ?_, ?_⟩ -- 69: slot 102 := Op.move t101
    · obtain ⟨p101, -⟩ := hp
      change ρ (.tmp 101) = _ at p101
      refine turn_plain (ok_is ?_ rfl)
      simp only [execOp, p101]; go_simp; try exact rfl
    refine ⟨fun ρ W ⟨hcst, hglb, hfun⟩ hX hp ho => ?_, ?_⟩ -- 70: slot 103 := Op.move t0   [guarded: some (69, true)]
    · obtain ⟨p102, -⟩ := hp
      change ρ (.tmp 102) = _ at p102
      obtain ⟨o0, -⟩ := ho
      change ρ (.tmp 0) = _ at o0
      refine turn_yes p102 (ok_is ?_ rfl)
      simp only [execOp, o0]; go_simp; try exact rfl
    refine ⟨fun ρ W ⟨hcst, hglb, hfun⟩ hX hp ho => ?_, ?_⟩ -- 71: slot 104 := Op.call { value (Operand.func 26), args := #[t103], argTypes := #[31] }   [guarded: some (
    · obtain ⟨p103, p102, -⟩ := hp
      change ρ (.tmp 103) = _ at p103
      change ρ (.tmp 102) = _ at p102
      have hW := (Below.refl _ _).drew.trans hX
      refine turn_yes p102 ?_
      have ce := @enter_of Tryd.prog 26 _ Tryd.func26 (by kernel_rfl) (by kernel_rfl)
      refine ok_call (op_call1 hfun ce (by exact rfl) p103) ?_
      refine (val_eq (.int .u64 (v : Nat)) (by rw [HV.out]) (setBits_any A l.length c l _ rfl Na.out (Sa.out.later (hW) (Nat.le_refl _)))).mono ?_
      rintro e W' ⟨rfl, rfl⟩
      exact ⟨_, rfl, Below.refl _ _, rfl⟩
    refine ⟨fun ρ W ⟨hcst, hglb, hfun⟩ hX hp ho => ?_, ?_⟩ -- 72: slot 105 := Op.move t0   [guarded: some (69, true)]
    · obtain ⟨p102, -⟩ := hp
      change ρ (.tmp 102) = _ at p102
      obtain ⟨o0, -⟩ := ho
      change ρ (.tmp 0) = _ at o0
      refine turn_yes p102 (ok_is ?_ rfl)
      simp only [execOp, o0]; go_simp; try exact rfl
    refine ⟨fun ρ W ⟨hcst, hglb, hfun⟩ hX hp ho => ?_, ?_⟩ -- 73: slot 106 := Op.call { value (Operand.func 27), args := #[t105], argTypes := #[31] }   [guarded: some (
    · obtain ⟨p105, p102, -⟩ := hp
      change ρ (.tmp 105) = _ at p105
      change ρ (.tmp 102) = _ at p102
      have hW := (Below.refl _ _).drew.trans hX
      refine turn_yes p102 ?_
      have ce := @enter_of Tryd.prog 27 _ Tryd.func27 (by kernel_rfl) (by kernel_rfl)
      refine ok_call (op_call1 hfun ce (by exact rfl) p105) ?_
      refine (val_eq (.int .u64 (v : Nat)) (by rw [HV.out]) (refBits_any A l.length c l _ rfl Na.out (Sa.out.later (hW) (Nat.le_refl _)))).mono ?_
      rintro e W' ⟨rfl, rfl⟩
      exact ⟨_, rfl, Below.refl _ _, rfl⟩
    refine ⟨fun ρ W ⟨hcst, hglb, hfun⟩ hX hp ho => ?_, ?_⟩ -- 74: slot 107 := Op.binOp BinOp.eql 43 t104 t106 43   [guarded: some (69, true)]
    · obtain ⟨p104, p106, p102, -⟩ := hp
      change ρ (.tmp 104) = _ at p104
      change ρ (.tmp 106) = _ at p106
      change ρ (.tmp 102) = _ at p102
      refine turn_yes p102 (ok_is ?_ rfl)
      simp only [execOp, p104, p106]; go_simp; try exact rfl
    refine ⟨fun ρ W ⟨hcst, hglb, hfun⟩ hX hp ho => ?_, ?_⟩ -- 75: slot 108 := Op.pick t102 t107 (const (Value.bool false))
    · obtain ⟨p102, p107, -⟩ := hp
      change ρ (.tmp 102) = _ at p102
      change ρ (.tmp 107) = _ at p107
      refine turn_plain (ok_is ?_ rfl)
      simp only [execOp, hcst, p102, p107]; go_simp; try exact rfl
    refine ⟨fun ρ W ⟨hcst, hglb, hfun⟩ hX hp ho => ?_, ?_⟩ -- 76: slot 109 := Op.move t108
    · obtain ⟨p108, -⟩ := hp
      change ρ (.tmp 108) = _ at p108
      refine turn_plain (ok_is ?_ rfl)
      simp only [execOp, p108]; go_simp; try exact rfl
    refine ⟨fun ρ W ⟨hcst, hglb, hfun⟩ hX hp ho => ?_, ?_⟩ -- 77: slot 110 := Op.call { value (Operand.func 13), args := #[], argTypes := #[] }   [guarded: some (76, tr
    · obtain ⟨p109, -⟩ := hp
      change ρ (.tmp 109) = _ at p109
      have hW := (Below.refl _ _).drew.trans hX
      refine turn_yes p109 ?_
      have ce := @enter_of Tryd.prog 13 _ Tryd.func13 (by kernel_rfl) (by kernel_rfl)
      refine ok_call (op_call0 hfun ce (by exact rfl) ) ?_
      refine (sure15 _ (HG.out.later (hW) (Nat.le_refl _))).mono ?_
      rintro e W' ⟨rfl, bel⟩
      exact ⟨_, rfl, bel, rfl⟩
    refine ⟨fun ρ W ⟨hcst, hglb, hfun⟩ hX hp ho => ?_, ?_⟩ -- 78: slot 111 := Op.pick t109 t110 (const (Value.bool false))
    · obtain ⟨p109, p110, -⟩ := hp
      change ρ (.tmp 109) = _ at p109
      change ρ (.tmp 110) = _ at p110
      refine turn_plain (ok_is ?_ rfl)
      simp only [execOp, hcst, p109, p110]; go_simp; try exact rfl
    refine ⟨fun ρ W ⟨hcst, hglb, hfun⟩ hX hp ho => ?_, ?_⟩ -- 79: slot 6 := Op.assign t111
    · obtain ⟨p111, -⟩ := hp
      change ρ (.tmp 111) = _ at p111
      refine turn_plain (ok_is ?_ rfl)
      simp only [execOp, p111]; go_simp; try exact rfl
    exact trivial
  case finc =>
    intro a W hX hsz hdf hold hR
    have hv := hR 79 6 rfl
    change a.tmps.getD 6 undef = _ at hv
    clear hold hR hsz
    go_wp2_with fail
    exact post_letter rfl hv hdf ⟨rfl, HB.out.trans (hX.mono HB.out.size)⟩
set_option maxRecDepth 100000 in
theorem tells15_any (A : Option Addr) (n c : Nat) (l : List Int) (A2 : Option Addr) (n2 c2 : Nat) (l2 : List Int) (x : Int) (w : World) (hl : l.length = n) (hl2 : l2.length = n2) (ha : At w A (ints .i64 l)) (ha2 : At w A2 (ints .i64 l2)) (hg : Glob w) :
    Calls Tryd.prog 4 #[.slice A n c, .slice A2 n2 c2, .int .i64 x] w fun e w' => e = .returned (.bool true) ∧ Below w.heap.size w w' := by
  subst hl; subst hl2
  by_cases h1 : l.length ≤ 100
  · by_cases h2 : l2.length ≤ 100
    · cases hok : SetM.ok l <;> cases hmay : SetM.may l
      · exact tells_00 A c l A2 c2 l2 x w h1 h2 ha ha2 hg hok hmay
      · exact tells_01 A c l A2 c2 l2 x w h1 h2 ha ha2 hg hok hmay
      · exact tells_10 A c l A2 c2 l2 x w h1 h2 ha ha2 hg hok hmay
      · exact tells_11 A c l A2 c2 l2 x w h1 h2 ha ha2 hg hok hmay
    · have HG := Lib.hid hg
      clear ha ha2 hg
      go_enter Tryd.func4, Tryd.ntmps4
      go_wp2_with (go_at_call 13; refine (sure15 _ HG.out).mono ?_; rintro e w1 ⟨rfl, bel⟩)
      go_ret
      exact ⟨rfl, bel⟩
  · have HG := Lib.hid hg
    clear ha ha2 hg
    go_enter Tryd.func4, Tryd.ntmps4
    go_wp2_with (go_at_call 13; refine (sure15 _ HG.out).mono ?_; rintro e w1 ⟨rfl, bel⟩)
    go_ret
    exact ⟨rfl, bel⟩
end Go.Proofs.YtpmejkgmeoajaaaDoor
