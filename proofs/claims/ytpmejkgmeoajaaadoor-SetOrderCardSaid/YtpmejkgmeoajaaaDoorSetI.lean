/- Layer 15: SetOrder's walk. -/
import Derived.Test.YtpmejkgmeoajaaaDoorSetH
import Derived.Deep.DeepCutAuto
namespace Go.Proofs.YtpmejkgmeoajaaaDoor
open Go.RowKit
theorem drop_rev {l : List Int} {k : Nat} (h : k < l.length) : (l.drop k).reverse = (l.drop (k + 1)).reverse ++ [l.getD k 0] := by
  rw [SetM.drop_consI h, List.reverse_cons]
namespace SetM
section
variable {v w : Nat} (hv : v < 2 ^ 64) (hw : w < 2 ^ 64)
include hv hw
theorem op0_comm : op 0 w v = op 0 v w := eq_bits fun i => by
  rw [op_testBit 0 hw hv, op_testBit 0 hv hw]
  cases v.testBit i <;> cases w.testBit i <;> rfl
end
theorem has_put (l : List Int) (x : Int) : has (elems (op 0 (bitsOf l) (bitsOf [x]))) x = can x := by
  have h1 := bitsOf_lt l
  have h2 := bitsOf_lt [x]
  unfold has
  rw [bitsOf_elems (op_lt 0 h1 h2), op_testBit 0 h1 h2, bitsOf_testBit [x]]
  cases hc : can x with
  | false => rfl
  | true =>
    have h3 := (can_iff x).1 hc
    have e : ((x.toNat : Nat) : Int) = x := by omega
    have e2 : x.toNat < 64 := by omega
    rw [e]
    simp [opb, e2]
end SetM
set_option maxRecDepth 100000 in
set_option maxHeartbeats 4000000 in
theorem order_1neg (A : Option Addr) (c : Nat) (l : List Int) (x : Int) (w : World) (hl : l.length ≤ 60) (ha : At w A (ints .i64 l)) (hg : Glob w) (hok : SetM.ok l = true) (hx : x < 0) :
    Calls Tryd.prog 6 #[.slice A l.length c, .int .i64 x] w fun e w' => e = .returned (.bool true) ∧ Below w.heap.size w w' := by
  have HG := Lib.hid hg
  have Sl := Lib.hid ha
  have Nl := Lib.hid (show l.length ≤ 9223372036854775807 by omega)
  have HOK := Lib.hid hok
  have HOKr := Lib.hid (show SetM.ok l.reverse = true by rw [SetM.ok_reverse, hok])
  obtain ⟨L, hL⟩ : ∃ L, SetM.elems (SetM.bitsOf l) = L := ⟨_, rfl⟩
  have HL := Lib.hid hL
  have HLr := Lib.hid (show SetM.elems (SetM.bitsOf l.reverse) = L by rw [SetM.bitsOf_reverse, hL])
  have NL := Lib.hid (hL ▸ elems_len _ : L.length ≤ 9223372036854775807)
  obtain ⟨v, hv⟩ : ∃ v, SetM.bitsOf l = v := ⟨_, rfl⟩
  have HV := Lib.hid hv
  have HVr := Lib.hid (show SetM.bitsOf l.reverse = v by rw [SetM.bitsOf_reverse, hv])
  obtain ⟨Lu, hLu⟩ : ∃ L, SetM.elems (SetM.op 0 (SetM.bitsOf l) (SetM.bitsOf [x])) = L := ⟨_, rfl⟩
  obtain ⟨Lq, hLq⟩ : ∃ L, SetM.elems (SetM.op 2 (SetM.bitsOf l) (SetM.bitsOf [x])) = L := ⟨_, rfl⟩
  have Nu := Lib.hid (hLu ▸ elems_len _ : Lu.length ≤ 9223372036854775807)
  have Nq := Lib.hid (hLq ▸ elems_len _ : Lq.length ≤ 9223372036854775807)
  have hb1 := SetM.bitsOf_lt l
  have hb2 := SetM.bitsOf_lt [x]
  have Eu := Lib.hid hLu
  have Eq := Lib.hid hLq
  have Enu := Lib.hid (show SetM.elems (SetM.op 0 (SetM.bitsOf [x]) (SetM.bitsOf l.reverse)) = Lu by rw [SetM.bitsOf_reverse, SetM.op0_comm hb1 hb2, hLu])
  have Eun := Lib.hid (show SetM.elems (SetM.op 2 (SetM.bitsOf Lu) (SetM.bitsOf [x])) = Lq by rw [← hLu, SetM.bitsOf_elems (SetM.op_lt 0 hb1 hb2), SetM.parts4 hb1 hb2, hLq])
  have Ku := Lib.hid (show SetM.has Lu x = false by rw [← hLu, SetM.has_put]; simp [SetM.can]; omega)
  have Mu := Lib.hid (show SetM.may Lu = true by rw [← hLu]; exact SetM.may_elems _)
  clear ha hg hok hL hv hLu hLq hb1 hb2
  obtain ⟨B, hB⟩ : ∃ B, w.heap.size = B := ⟨_, rfl⟩
  have HBS := Lib.hid hB
  clear hB
  go_enter Tryd.func6, Tryd.ntmps6
  go_wp2_with fail
  go_loopw [5, 6] (fun s i wr => ∃ (k : Nat) (A : Option Addr) (c : Nat), k ≤ l.length ∧ i = .int .i64 ((k : Int) - 1) ∧ s = .slice A (l.length - k) c ∧ Own wr B 3 1 A (l.length - k) c (ints .i64 (l.drop k).reverse) ∧ Below B w wr) (fun _ i _ => (intOf i + 1).toNat)
  case atStart => exact ⟨l.length, none, 0, Nat.le_refl _, rfl, by rw [Nat.sub_self], by rw [Nat.sub_self, List.drop_of_length_le (Nat.le_refl _)]; exact Own.none_ _ _ _ _, Below.refl _ _⟩
  case round =>
    obtain ⟨k, A5, c5, hk, rfl, rfl, hown, hbel⟩ := hrel
    have HO := Lib.hid hown
    have HBL := Lib.hid hbel
    clear hown hbel
    by_cases h0 : 1 ≤ k
    · obtain ⟨j, rfl⟩ : ∃ j, k = j + 1 := ⟨k - 1, by omega⟩
      obtain ⟨b, o, rfl, hc⟩ := (Sl.out.later (HBL.out) (Nat.le_of_eq HBS.out)).int j (by omega)
      have hdr := Lib.hid (drop_rev (l := l) (k := j) (by omega))
      obtain ⟨y, hy⟩ : ∃ y, l.getD j 0 = y := ⟨_, rfl⟩
      have hlen : l.length - (j + 1) + 1 = l.length - j := by omega
      obtain ⟨m, hm⟩ : ∃ m, l.length - (j + 1) = m := ⟨_, rfl⟩
      rw [hm] at hlen HO ⊢
      have HLN := Lib.hid hlen
      have hm2 : m ≤ 60 := by omega
      rw [hy] at hc
      have HY := Lib.hid hy
      have hj : ((j + 1 : Nat) : Int) - 1 = (j : Int) := by omega
      rw [hj]
      clear hm hlen hy hj
      have hz : B ≤ (wr.alloc (.cells #[.int .i64 y] 3)).heap.size := by have := HBL.out.size; have := HBS.out; simp; omega
      have HZ := Lib.hid hz
      clear hz
      go_wp2_with (at_builtin; refine wpList_app rfl elt_int B (.tmp 24) (.tmp 29) rfl (ints .i64 (l.drop (j + 1)).reverse) rfl (HO.out.alloc _) [.int .i64 y] rfl (show At _ _ [.int .i64 y] from At.lit _ _ _ _ _ rfl) rfl (by intro u hu; simp at hu; subst hu; rfl) (by unfold maxLen; omega) (by omega) HZ.out ?_; intro A' c' w1 own1 g1 _; have B1 := (HBL.out.alloc (by have := HBL.out.size; have := HBS.out; omega) _).grown g1 HZ.out (fun k hk => (HO.out.lt k hk).1); have HO1 := Lib.hid own1; have HB1 := Lib.hid B1; clear own1 g1 B1)
      exact ⟨⟨j, A', c', by omega, by simp, by rw [← HLN.out], by rw [← HLN.out, hdr.out, HY.out]; simpa [ints] using HO1.out, HB1.out⟩, by simp only [intOf]; omega⟩
    · obtain rfl : k = 0 := by omega
      rw [Nat.sub_zero, List.drop_zero] at HO
      rw [Nat.sub_zero]
      have St := Lib.hid HO.out.at_
      have HB := Lib.hid (show Below w.heap.size w wr by rw [HBS.out]; exact HBL.out)
      replace Sl := Lib.hid (Sl.out.later HB.out (Nat.le_refl _))
      replace HG := Lib.hid (HG.out.later HB.out (Nat.le_refl _))
      clear HO HBL hk h0
      go_wp2_with fail
      refine (of_good L L.length HOK.out HL.out rfl (setOf_any A l.length c l _ rfl Nl.out Sl.out)).mono ?_
      rintro e w1 ⟨A_a, c_a, rfl, hat, bel⟩
      replace HB := Lib.hid (HB.out.trans (bel.mono HB.out.size))
      replace Sl := Lib.hid (Sl.out.later bel (Nat.le_refl _))
      replace St := Lib.hid (St.out.later bel (Nat.le_refl _))
      replace HG := Lib.hid (HG.out.later bel (Nat.le_refl _))
      have Sa := Lib.hid hat
      clear hat
      have Na := NL
      clear bel
      go_wp2_with fail
      refine (of_good L L.length HOKr.out HLr.out rfl (setOf_any A5 l.length c5 l.reverse _ (by simp) Nl.out St.out)).mono ?_
      rintro e w2 ⟨A_b, c_b, rfl, hat, bel⟩
      replace HB := Lib.hid (HB.out.trans (bel.mono HB.out.size))
      replace Sl := Lib.hid (Sl.out.later bel (Nat.le_refl _))
      replace St := Lib.hid (St.out.later bel (Nat.le_refl _))
      replace Sa := Lib.hid (Sa.out.later bel (Nat.le_refl _))
      replace HG := Lib.hid (HG.out.later bel (Nat.le_refl _))
      have Sb := Lib.hid hat
      clear hat
      have Nb := NL
      clear bel
      go_upto_region 10 with (fail)
      go_cut [58] (fun cv wx => cv = .bool false ∧ Below w2.heap.size w2 wx)
      case first =>
        go_wp2_with fail
        refine wp_region_below [is ?c0, is ?c1, is ?c2, is ?c3, is ?c4, is ?c5, is ?c6, is ?c7, is (.bool true), is ?c9, is ?c10, is ?c11, is ?c12, is (.int .u64 (v : Nat)), is ?c14, is (.int .u64 (v : Nat)), is ?c16, is ?c17]
          [⟨[], [8], none⟩, ⟨[(41, 0)], [], none⟩, ⟨[], [10], none⟩, ⟨[(43, 2)], [], none⟩, ⟨[(42, 1), (44, 3)], [], none⟩, ⟨[(45, 4)], [], none⟩, ⟨[(46, 5)], [7], some (46, false)⟩, ⟨[(46, 5)], [9], some (46, false)⟩, ⟨[(47, 6), (48, 7), (46, 5)], [], some (46, false)⟩, ⟨[(49, 8), (46, 5)], [], some (46, false)⟩, ⟨[(46, 5), (50, 9)], [], none⟩, ⟨[(51, 10)], [], none⟩, ⟨[(52, 11)], [0], some (52, false)⟩, ⟨[(53, 12), (52, 11)], [], some (52, false)⟩, ⟨[(52, 11)], [5], some (52, false)⟩, ⟨[(55, 14), (52, 11)], [], some (52, false)⟩, ⟨[(54, 13), (56, 15), (52, 11)], [], some (52, false)⟩, ⟨[(52, 11), (57, 16)], [], none⟩] (by kernel_rfl) (by kernel_rfl) (by kernel_rfl) (by kernel_rfl) (by kernel_rfl) ?monoc ?stepsc ?finc
        case monoc => exact ⟨mono_eq _, mono_eq _, mono_eq _, mono_eq _, mono_eq _, mono_eq _, mono_eq _, mono_eq _, mono_eq _, mono_eq _, mono_eq _, mono_eq _, mono_eq _, mono_eq _, mono_eq _, mono_eq _, mono_eq _, mono_eq _, trivial⟩
        case stepsc =>
          refine ⟨fun ρ W ⟨hcst, hglb, hfun⟩ hX hp ho => ?_, ?_⟩ -- 0: slot 41 := Op.move t8
          · obtain ⟨o8, -⟩ := ho
            change ρ (.tmp 8) = _ at o8
            refine turn_plain (ok_is ?_ rfl)
            simp only [execOp, o8]; go_simp; try exact rfl
          refine ⟨fun ρ W ⟨hcst, hglb, hfun⟩ hX hp ho => ?_, ?_⟩ -- 1: slot 42 := Op.binOp BinOp.eql 24 t41 (const Value.nilIface) 24
          · obtain ⟨p41, -⟩ := hp
            change ρ (.tmp 41) = _ at p41
            refine turn_plain (ok_is ?_ rfl)
            simp only [execOp, hcst, p41]; go_simp; try exact rfl
          refine ⟨fun ρ W ⟨hcst, hglb, hfun⟩ hX hp ho => ?_, ?_⟩ -- 2: slot 43 := Op.move t10
          · obtain ⟨o10, -⟩ := ho
            change ρ (.tmp 10) = _ at o10
            refine turn_plain (ok_is ?_ rfl)
            simp only [execOp, o10]; go_simp; try exact rfl
          refine ⟨fun ρ W ⟨hcst, hglb, hfun⟩ hX hp ho => ?_, ?_⟩ -- 3: slot 44 := Op.binOp BinOp.eql 24 t43 (const Value.nilIface) 24
          · obtain ⟨p43, -⟩ := hp
            change ρ (.tmp 43) = _ at p43
            refine turn_plain (ok_is ?_ rfl)
            simp only [execOp, hcst, p43]; go_simp; try exact rfl
          refine ⟨fun ρ W ⟨hcst, hglb, hfun⟩ hX hp ho => ?_, ?_⟩ -- 4: slot 45 := Op.binOp BinOp.neq 4 t42 t44 4
          · obtain ⟨p42, p44, -⟩ := hp
            change ρ (.tmp 42) = _ at p42
            change ρ (.tmp 44) = _ at p44
            refine turn_plain (ok_is ?_ rfl)
            simp only [execOp, p42, p44]; go_simp; try exact rfl
          refine ⟨fun ρ W ⟨hcst, hglb, hfun⟩ hX hp ho => ?_, ?_⟩ -- 5: slot 46 := Op.move t45
          · obtain ⟨p45, -⟩ := hp
            change ρ (.tmp 45) = _ at p45
            refine turn_plain (ok_is ?_ rfl)
            simp only [execOp, p45]; go_simp; try exact rfl
          refine ⟨fun ρ W ⟨hcst, hglb, hfun⟩ hX hp ho => ?_, ?_⟩ -- 6: slot 47 := Op.move t7   [guarded: some (5, false)]
          · obtain ⟨p46, -⟩ := hp
            change ρ (.tmp 46) = _ at p46
            obtain ⟨o7, -⟩ := ho
            change ρ (.tmp 7) = _ at o7
            refine turn_yes p46 (ok_is ?_ rfl)
            simp only [execOp, o7]; go_simp; try exact rfl
          refine ⟨fun ρ W ⟨hcst, hglb, hfun⟩ hX hp ho => ?_, ?_⟩ -- 7: slot 48 := Op.move t9   [guarded: some (5, false)]
          · obtain ⟨p46, -⟩ := hp
            change ρ (.tmp 46) = _ at p46
            obtain ⟨o9, -⟩ := ho
            change ρ (.tmp 9) = _ at o9
            refine turn_yes p46 (ok_is ?_ rfl)
            simp only [execOp, o9]; go_simp; try exact rfl
          refine ⟨fun ρ W ⟨hcst, hglb, hfun⟩ hX hp ho => ?_, ?_⟩ -- 8: slot 49 := Op.call { value (Operand.func 17), args := #[t47, t48], argTypes := #[31, 31] }   [guarded
          · obtain ⟨p47, p48, p46, -⟩ := hp
            change ρ (.tmp 47) = _ at p47
            change ρ (.tmp 48) = _ at p48
            change ρ (.tmp 46) = _ at p46
            have hW := (Below.refl _ _).drew.trans hX
            refine turn_yes p46 ?_
            have ce := @enter_of Tryd.prog 17 _ Tryd.func17 (by kernel_rfl) (by kernel_rfl)
            refine ok_call (op_call2 hfun ce (by exact rfl) p47 p48) ?_
            refine (valB_eq (.bool true) (by simp) (ints15_any A_a L.length c_a L A_b L.length c_b L _ rfl Na.out (Sa.out.later (hW) (Nat.le_refl _)) rfl Nb.out (Sb.out.later (hW) (Nat.le_refl _)))).mono ?_
            rintro e W' ⟨rfl, bel⟩
            exact ⟨_, rfl, bel, rfl⟩
          refine ⟨fun ρ W ⟨hcst, hglb, hfun⟩ hX hp ho => ?_, ?_⟩ -- 9: slot 50 := Op.unOp UnOp.not 4 t49   [guarded: some (5, false)]
          · obtain ⟨p49, p46, -⟩ := hp
            change ρ (.tmp 49) = _ at p49
            change ρ (.tmp 46) = _ at p46
            refine turn_yes p46 (ok_is ?_ rfl)
            simp only [execOp, p49]; go_simp; try exact rfl
          refine ⟨fun ρ W ⟨hcst, hglb, hfun⟩ hX hp ho => ?_, ?_⟩ -- 10: slot 51 := Op.pick t46 (const (Value.bool true)) t50
          · obtain ⟨p46, p50, -⟩ := hp
            change ρ (.tmp 46) = _ at p46
            change ρ (.tmp 50) = _ at p50
            refine turn_plain (ok_is ?_ rfl)
            simp only [execOp, hcst, p46, p50]; go_simp; try exact rfl
          refine ⟨fun ρ W ⟨hcst, hglb, hfun⟩ hX hp ho => ?_, ?_⟩ -- 11: slot 52 := Op.move t51
          · obtain ⟨p51, -⟩ := hp
            change ρ (.tmp 51) = _ at p51
            refine turn_plain (ok_is ?_ rfl)
            simp only [execOp, p51]; go_simp; try exact rfl
          refine ⟨fun ρ W ⟨hcst, hglb, hfun⟩ hX hp ho => ?_, ?_⟩ -- 12: slot 53 := Op.move t0   [guarded: some (11, false)]
          · obtain ⟨p52, -⟩ := hp
            change ρ (.tmp 52) = _ at p52
            obtain ⟨o0, -⟩ := ho
            change ρ (.tmp 0) = _ at o0
            refine turn_yes p52 (ok_is ?_ rfl)
            simp only [execOp, o0]; go_simp; try exact rfl
          refine ⟨fun ρ W ⟨hcst, hglb, hfun⟩ hX hp ho => ?_, ?_⟩ -- 13: slot 54 := Op.call { value (Operand.func 26), args := #[t53], argTypes := #[31] }   [guarded: some (1
          · obtain ⟨p53, p52, -⟩ := hp
            change ρ (.tmp 53) = _ at p53
            change ρ (.tmp 52) = _ at p52
            have hW := (Below.refl _ _).drew.trans hX
            refine turn_yes p52 ?_
            have ce := @enter_of Tryd.prog 26 _ Tryd.func26 (by kernel_rfl) (by kernel_rfl)
            refine ok_call (op_call1 hfun ce (by exact rfl) p53) ?_
            refine (val_eq (.int .u64 (v : Nat)) (by rw [HV.out]) (setBits_any A l.length c l _ rfl Nl.out (Sl.out.later (hW) (Nat.le_refl _)))).mono ?_
            rintro e W' ⟨rfl, rfl⟩
            exact ⟨_, rfl, Below.refl _ _, rfl⟩
          refine ⟨fun ρ W ⟨hcst, hglb, hfun⟩ hX hp ho => ?_, ?_⟩ -- 14: slot 55 := Op.move t5   [guarded: some (11, false)]
          · obtain ⟨p52, -⟩ := hp
            change ρ (.tmp 52) = _ at p52
            obtain ⟨o5, -⟩ := ho
            change ρ (.tmp 5) = _ at o5
            refine turn_yes p52 (ok_is ?_ rfl)
            simp only [execOp, o5]; go_simp; try exact rfl
          refine ⟨fun ρ W ⟨hcst, hglb, hfun⟩ hX hp ho => ?_, ?_⟩ -- 15: slot 56 := Op.call { value (Operand.func 26), args := #[t55], argTypes := #[31] }   [guarded: some (1
          · obtain ⟨p55, p52, -⟩ := hp
            change ρ (.tmp 55) = _ at p55
            change ρ (.tmp 52) = _ at p52
            have hW := (Below.refl _ _).drew.trans hX
            refine turn_yes p52 ?_
            have ce := @enter_of Tryd.prog 26 _ Tryd.func26 (by kernel_rfl) (by kernel_rfl)
            refine ok_call (op_call1 hfun ce (by exact rfl) p55) ?_
            refine (val_eq (.int .u64 (v : Nat)) (by rw [HVr.out]) (setBits_any A5 l.length c5 l.reverse _ (by simp) Nl.out (St.out.later (hW) (Nat.le_refl _)))).mono ?_
            rintro e W' ⟨rfl, rfl⟩
            exact ⟨_, rfl, Below.refl _ _, rfl⟩
          refine ⟨fun ρ W ⟨hcst, hglb, hfun⟩ hX hp ho => ?_, ?_⟩ -- 16: slot 57 := Op.binOp BinOp.neq 43 t54 t56 43   [guarded: some (11, false)]
          · obtain ⟨p54, p56, p52, -⟩ := hp
            change ρ (.tmp 54) = _ at p54
            change ρ (.tmp 56) = _ at p56
            change ρ (.tmp 52) = _ at p52
            refine turn_yes p52 (ok_is ?_ rfl)
            simp only [execOp, p54, p56]; go_simp; try exact rfl
          refine ⟨fun ρ W ⟨hcst, hglb, hfun⟩ hX hp ho => ?_, ?_⟩ -- 17: slot 58 := Op.pick t52 (const (Value.bool true)) t57
          · obtain ⟨p52, p57, -⟩ := hp
            change ρ (.tmp 52) = _ at p52
            change ρ (.tmp 57) = _ at p57
            refine turn_plain (ok_is ?_ rfl)
            simp only [execOp, hcst, p52, p57]; go_simp; try exact rfl
          exact trivial
        case finc =>
          rintro v W hX ⟨f0, f1, f2, f3, f4, f5, f6, f7, f8, f9, f10, f11, f12, f13, f14, f15, f16, f17, -⟩
          simp only [is] at f0 f1 f2 f3 f4 f5 f6 f7 f8 f9 f10 f11 f12 f13 f14 f15 f16 f17
          simp only [putAll, Act.put, List.setIfInBounds_toArray, List.set_cons_succ, List.set_cons_zero, f0, f1, f2, f3, f4, f5, f6, f7, f8, f9, f10, f11, f12, f13, f14, f15, f16, f17]
          clear f0 f1 f2 f3 f4 f5 f6 f7 f8 f9 f10 f11 f12 f13 f14 f15 f16 f17
          go_wp2_with fail
          go_meet
          exact ⟨rfl, hX⟩
      case rest =>
        obtain ⟨rfl, bel⟩ := hcut
        replace HB := Lib.hid (HB.out.trans (bel.mono HB.out.size))
        replace Sl := Lib.hid (Sl.out.later bel (Nat.le_refl _))
        replace St := Lib.hid (St.out.later bel (Nat.le_refl _))
        replace Sa := Lib.hid (Sa.out.later bel (Nat.le_refl _))
        replace Sb := Lib.hid (Sb.out.later bel (Nat.le_refl _))
        replace HG := Lib.hid (HG.out.later bel (Nat.le_refl _))
        clear bel
        clear Sa Na
        clear Sb Nb
        go_wp2_with fail
        have bel := (Below.refl wc.heap.size wc).alloc (Nat.le_refl _) (.cells #[.int .i64 x] 3)
        have Sd := Lib.hid (show At (wc.alloc (.cells #[.int .i64 x] 3)) (some ⟨wc.heap.size, 0, none⟩) (ints .i64 [x]) from At.lit _ _ _ _ _ rfl)
        generalize (wc.alloc (.cells #[.int .i64 x] 3)) = w3 at bel Sd ⊢
        replace HB := Lib.hid (HB.out.trans (bel.mono HB.out.size))
        replace Sl := Lib.hid (Sl.out.later bel (Nat.le_refl _))
        replace St := Lib.hid (St.out.later bel (Nat.le_refl _))
        replace HG := Lib.hid (HG.out.later bel (Nat.le_refl _))
        have Nd := Lib.hid (show (1 : Nat) ≤ 9223372036854775807 by decide)
        clear bel
        go_wp2_with fail
        refine (sl_eq (P := fun _ _ => True) Lu Lu.length Eu.out rfl (setEither_any A l.length c l (some ⟨wc.heap.size, 0, none⟩) 1 1 [x] _ rfl Nl.out Sl.out rfl Nd.out Sd.out)).mono ?_
        rintro e w4 ⟨A_u, c_u, rfl, hat, bel⟩
        replace HB := Lib.hid (HB.out.trans (bel.mono HB.out.size))
        replace Sl := Lib.hid (Sl.out.later bel (Nat.le_refl _))
        replace St := Lib.hid (St.out.later bel (Nat.le_refl _))
        replace Sd := Lib.hid (Sd.out.later bel (Nat.le_refl _))
        replace HG := Lib.hid (HG.out.later bel (Nat.le_refl _))
        have Su := Lib.hid hat
        clear hat
        clear bel
        clear Sd Nd
        go_wp2_with fail
        refine (val_eq (.bool false) (by rw [Ku.out]) (setHas_any A_u Lu.length c_u Lu x _ rfl Nu.out Su.out)).mono ?_
        rintro e w' ⟨rfl, rfl⟩
        go_wp2_with fail
        have bel := (Below.refl w4.heap.size w4).alloc (Nat.le_refl _) (.cells #[.int .i64 x] 3)
        have Sd := Lib.hid (show At (w4.alloc (.cells #[.int .i64 x] 3)) (some ⟨w4.heap.size, 0, none⟩) (ints .i64 [x]) from At.lit _ _ _ _ _ rfl)
        generalize (w4.alloc (.cells #[.int .i64 x] 3)) = w5 at bel Sd ⊢
        replace HB := Lib.hid (HB.out.trans (bel.mono HB.out.size))
        replace Sl := Lib.hid (Sl.out.later bel (Nat.le_refl _))
        replace St := Lib.hid (St.out.later bel (Nat.le_refl _))
        replace Su := Lib.hid (Su.out.later bel (Nat.le_refl _))
        replace HG := Lib.hid (HG.out.later bel (Nat.le_refl _))
        have Nd := Lib.hid (show (1 : Nat) ≤ 9223372036854775807 by decide)
        clear bel
        go_wp2_with fail
        refine (sl_eq (P := fun _ _ => True) Lu Lu.length Enu.out rfl (setEither_any (some ⟨w4.heap.size, 0, none⟩) 1 1 [x] A5 l.length c5 l.reverse _ rfl Nd.out Sd.out (by simp) Nl.out St.out)).mono ?_
        rintro e w6 ⟨A_p, c_p, rfl, hat, bel⟩
        replace HB := Lib.hid (HB.out.trans (bel.mono HB.out.size))
        replace Sl := Lib.hid (Sl.out.later bel (Nat.le_refl _))
        replace St := Lib.hid (St.out.later bel (Nat.le_refl _))
        replace Su := Lib.hid (Su.out.later bel (Nat.le_refl _))
        replace Sd := Lib.hid (Sd.out.later bel (Nat.le_refl _))
        replace HG := Lib.hid (HG.out.later bel (Nat.le_refl _))
        have Sp := Lib.hid hat
        clear hat
        have Np := Nu
        clear bel
        go_wp2_with fail
        refine (valB_eq (.bool true) (by simp) (ints15_any A_p Lu.length c_p Lu A_u Lu.length c_u Lu _ rfl Np.out Sp.out rfl Nu.out Su.out)).mono ?_
        rintro e w7 ⟨rfl, bel⟩
        replace HB := Lib.hid (HB.out.trans (bel.mono HB.out.size))
        replace Sl := Lib.hid (Sl.out.later bel (Nat.le_refl _))
        replace St := Lib.hid (St.out.later bel (Nat.le_refl _))
        replace Su := Lib.hid (Su.out.later bel (Nat.le_refl _))
        replace Sd := Lib.hid (Sd.out.later bel (Nat.le_refl _))
        replace Sp := Lib.hid (Sp.out.later bel (Nat.le_refl _))
        replace HG := Lib.hid (HG.out.later bel (Nat.le_refl _))
        clear bel
        clear Sd Nd
        clear Sp Np
        go_wp2_with fail
        have bel := (Below.refl w7.heap.size w7).alloc (Nat.le_refl _) (.cells #[.int .i64 x] 3)
        have Sd := Lib.hid (show At (w7.alloc (.cells #[.int .i64 x] 3)) (some ⟨w7.heap.size, 0, none⟩) (ints .i64 [x]) from At.lit _ _ _ _ _ rfl)
        generalize (w7.alloc (.cells #[.int .i64 x] 3)) = w8 at bel Sd ⊢
        replace HB := Lib.hid (HB.out.trans (bel.mono HB.out.size))
        replace Sl := Lib.hid (Sl.out.later bel (Nat.le_refl _))
        replace St := Lib.hid (St.out.later bel (Nat.le_refl _))
        replace Su := Lib.hid (Su.out.later bel (Nat.le_refl _))
        replace HG := Lib.hid (HG.out.later bel (Nat.le_refl _))
        have Nd := Lib.hid (show (1 : Nat) ≤ 9223372036854775807 by decide)
        clear bel
        go_wp2_with fail
        refine (sl_eq (P := fun _ _ => True) Lq Lq.length Eun.out rfl (setLess_any A_u Lu.length c_u Lu (some ⟨w7.heap.size, 0, none⟩) 1 1 [x] _ rfl Nu.out Su.out rfl Nd.out Sd.out)).mono ?_
        rintro e w9 ⟨A_p, c_p, rfl, hat, bel⟩
        replace HB := Lib.hid (HB.out.trans (bel.mono HB.out.size))
        replace Sl := Lib.hid (Sl.out.later bel (Nat.le_refl _))
        replace St := Lib.hid (St.out.later bel (Nat.le_refl _))
        replace Su := Lib.hid (Su.out.later bel (Nat.le_refl _))
        replace Sd := Lib.hid (Sd.out.later bel (Nat.le_refl _))
        replace HG := Lib.hid (HG.out.later bel (Nat.le_refl _))
        have Sp := Lib.hid hat
        clear hat
        have Np := Nq
        clear bel
        clear Sd Nd
        go_wp2_with fail
        have bel := (Below.refl w9.heap.size w9).alloc (Nat.le_refl _) (.cells #[.int .i64 x] 3)
        have Sd := Lib.hid (show At (w9.alloc (.cells #[.int .i64 x] 3)) (some ⟨w9.heap.size, 0, none⟩) (ints .i64 [x]) from At.lit _ _ _ _ _ rfl)
        generalize (w9.alloc (.cells #[.int .i64 x] 3)) = w10 at bel Sd ⊢
        replace HB := Lib.hid (HB.out.trans (bel.mono HB.out.size))
        replace Sl := Lib.hid (Sl.out.later bel (Nat.le_refl _))
        replace St := Lib.hid (St.out.later bel (Nat.le_refl _))
        replace Su := Lib.hid (Su.out.later bel (Nat.le_refl _))
        replace Sp := Lib.hid (Sp.out.later bel (Nat.le_refl _))
        replace HG := Lib.hid (HG.out.later bel (Nat.le_refl _))
        have Nd := Lib.hid (show (1 : Nat) ≤ 9223372036854775807 by decide)
        clear bel
        go_wp2_with fail
        refine (sl_eq (P := fun _ _ => True) Lq Lq.length Eq.out rfl (setLess_any A l.length c l (some ⟨w9.heap.size, 0, none⟩) 1 1 [x] _ rfl Nl.out Sl.out rfl Nd.out Sd.out)).mono ?_
        rintro e w11 ⟨A_r, c_r, rfl, hat, bel⟩
        replace HB := Lib.hid (HB.out.trans (bel.mono HB.out.size))
        replace Sl := Lib.hid (Sl.out.later bel (Nat.le_refl _))
        replace St := Lib.hid (St.out.later bel (Nat.le_refl _))
        replace Su := Lib.hid (Su.out.later bel (Nat.le_refl _))
        replace Sp := Lib.hid (Sp.out.later bel (Nat.le_refl _))
        replace Sd := Lib.hid (Sd.out.later bel (Nat.le_refl _))
        replace HG := Lib.hid (HG.out.later bel (Nat.le_refl _))
        have Sr := Lib.hid hat
        clear hat
        have Nr := Nq
        clear bel
        clear Sd Nd
        go_wp2_with fail
        refine (valB_eq (.bool true) (by simp) (ints15_any A_p Lq.length c_p Lq A_r Lq.length c_r Lq _ rfl Np.out Sp.out rfl Nr.out Sr.out)).mono ?_
        rintro e w12 ⟨rfl, bel⟩
        replace HB := Lib.hid (HB.out.trans (bel.mono HB.out.size))
        replace Sl := Lib.hid (Sl.out.later bel (Nat.le_refl _))
        replace St := Lib.hid (St.out.later bel (Nat.le_refl _))
        replace Su := Lib.hid (Su.out.later bel (Nat.le_refl _))
        replace Sp := Lib.hid (Sp.out.later bel (Nat.le_refl _))
        replace Sr := Lib.hid (Sr.out.later bel (Nat.le_refl _))
        replace HG := Lib.hid (HG.out.later bel (Nat.le_refl _))
        clear bel
        clear Sp Np
        clear Sr Nr
        go_wp2_with fail
        refine (val_eq .nilIface (by rw [Mu.out]; rfl) (setCheck_any A_u Lu.length c_u Lu _ rfl Nu.out Su.out)).mono ?_
        rintro e w' ⟨rfl, rfl⟩
        go_wp2_with fail
        refine (sure15 _ HG.out).mono ?_
        rintro e w13 ⟨rfl, bel⟩
        replace HB := Lib.hid (HB.out.trans (bel.mono HB.out.size))
        replace Sl := Lib.hid (Sl.out.later bel (Nat.le_refl _))
        replace St := Lib.hid (St.out.later bel (Nat.le_refl _))
        replace Su := Lib.hid (Su.out.later bel (Nat.le_refl _))
        replace HG := Lib.hid (HG.out.later bel (Nat.le_refl _))
        clear bel
        go_wp2_with fail
        go_ret
        exact ⟨rfl, HB.out⟩
set_option maxRecDepth 100000 in
set_option maxHeartbeats 4000000 in
theorem order_1in (A : Option Addr) (c : Nat) (l : List Int) (x : Int) (w : World) (hl : l.length ≤ 60) (ha : At w A (ints .i64 l)) (hg : Glob w) (hok : SetM.ok l = true) (hx : 0 ≤ x ∧ x < 64) :
    Calls Tryd.prog 6 #[.slice A l.length c, .int .i64 x] w fun e w' => e = .returned (.bool true) ∧ Below w.heap.size w w' := by
  have HG := Lib.hid hg
  have Sl := Lib.hid ha
  have Nl := Lib.hid (show l.length ≤ 9223372036854775807 by omega)
  have HOK := Lib.hid hok
  have HOKr := Lib.hid (show SetM.ok l.reverse = true by rw [SetM.ok_reverse, hok])
  obtain ⟨L, hL⟩ : ∃ L, SetM.elems (SetM.bitsOf l) = L := ⟨_, rfl⟩
  have HL := Lib.hid hL
  have HLr := Lib.hid (show SetM.elems (SetM.bitsOf l.reverse) = L by rw [SetM.bitsOf_reverse, hL])
  have NL := Lib.hid (hL ▸ elems_len _ : L.length ≤ 9223372036854775807)
  obtain ⟨v, hv⟩ : ∃ v, SetM.bitsOf l = v := ⟨_, rfl⟩
  have HV := Lib.hid hv
  have HVr := Lib.hid (show SetM.bitsOf l.reverse = v by rw [SetM.bitsOf_reverse, hv])
  obtain ⟨Lu, hLu⟩ : ∃ L, SetM.elems (SetM.op 0 (SetM.bitsOf l) (SetM.bitsOf [x])) = L := ⟨_, rfl⟩
  obtain ⟨Lq, hLq⟩ : ∃ L, SetM.elems (SetM.op 2 (SetM.bitsOf l) (SetM.bitsOf [x])) = L := ⟨_, rfl⟩
  have Nu := Lib.hid (hLu ▸ elems_len _ : Lu.length ≤ 9223372036854775807)
  have Nq := Lib.hid (hLq ▸ elems_len _ : Lq.length ≤ 9223372036854775807)
  have hb1 := SetM.bitsOf_lt l
  have hb2 := SetM.bitsOf_lt [x]
  have Eu := Lib.hid hLu
  have Eq := Lib.hid hLq
  have Enu := Lib.hid (show SetM.elems (SetM.op 0 (SetM.bitsOf [x]) (SetM.bitsOf l.reverse)) = Lu by rw [SetM.bitsOf_reverse, SetM.op0_comm hb1 hb2, hLu])
  have Eun := Lib.hid (show SetM.elems (SetM.op 2 (SetM.bitsOf Lu) (SetM.bitsOf [x])) = Lq by rw [← hLu, SetM.bitsOf_elems (SetM.op_lt 0 hb1 hb2), SetM.parts4 hb1 hb2, hLq])
  have Ku := Lib.hid (show SetM.has Lu x = true by rw [← hLu, SetM.has_put]; exact (SetM.can_iff x).2 hx)
  have Mu := Lib.hid (show SetM.may Lu = true by rw [← hLu]; exact SetM.may_elems _)
  clear ha hg hok hL hv hLu hLq hb1 hb2
  obtain ⟨B, hB⟩ : ∃ B, w.heap.size = B := ⟨_, rfl⟩
  have HBS := Lib.hid hB
  clear hB
  obtain ⟨hx1, hx2⟩ := hx
  have hd : decide (x < 64) = true := decide_eq_true hx2
  go_enter Tryd.func6, Tryd.ntmps6
  go_wp2_with fail
  go_loopw [5, 6] (fun s i wr => ∃ (k : Nat) (A : Option Addr) (c : Nat), k ≤ l.length ∧ i = .int .i64 ((k : Int) - 1) ∧ s = .slice A (l.length - k) c ∧ Own wr B 3 1 A (l.length - k) c (ints .i64 (l.drop k).reverse) ∧ Below B w wr) (fun _ i _ => (intOf i + 1).toNat)
  case atStart => exact ⟨l.length, none, 0, Nat.le_refl _, rfl, by rw [Nat.sub_self], by rw [Nat.sub_self, List.drop_of_length_le (Nat.le_refl _)]; exact Own.none_ _ _ _ _, Below.refl _ _⟩
  case round =>
    obtain ⟨k, A5, c5, hk, rfl, rfl, hown, hbel⟩ := hrel
    have HO := Lib.hid hown
    have HBL := Lib.hid hbel
    clear hown hbel
    by_cases h0 : 1 ≤ k
    · obtain ⟨j, rfl⟩ : ∃ j, k = j + 1 := ⟨k - 1, by omega⟩
      obtain ⟨b, o, rfl, hc⟩ := (Sl.out.later (HBL.out) (Nat.le_of_eq HBS.out)).int j (by omega)
      have hdr := Lib.hid (drop_rev (l := l) (k := j) (by omega))
      obtain ⟨y, hy⟩ : ∃ y, l.getD j 0 = y := ⟨_, rfl⟩
      have hlen : l.length - (j + 1) + 1 = l.length - j := by omega
      obtain ⟨m, hm⟩ : ∃ m, l.length - (j + 1) = m := ⟨_, rfl⟩
      rw [hm] at hlen HO ⊢
      have HLN := Lib.hid hlen
      have hm2 : m ≤ 60 := by omega
      rw [hy] at hc
      have HY := Lib.hid hy
      have hj : ((j + 1 : Nat) : Int) - 1 = (j : Int) := by omega
      rw [hj]
      clear hm hlen hy hj
      have hz : B ≤ (wr.alloc (.cells #[.int .i64 y] 3)).heap.size := by have := HBL.out.size; have := HBS.out; simp; omega
      have HZ := Lib.hid hz
      clear hz
      go_wp2_with (at_builtin; refine wpList_app rfl elt_int B (.tmp 24) (.tmp 29) rfl (ints .i64 (l.drop (j + 1)).reverse) rfl (HO.out.alloc _) [.int .i64 y] rfl (show At _ _ [.int .i64 y] from At.lit _ _ _ _ _ rfl) rfl (by intro u hu; simp at hu; subst hu; rfl) (by unfold maxLen; omega) (by omega) HZ.out ?_; intro A' c' w1 own1 g1 _; have B1 := (HBL.out.alloc (by have := HBL.out.size; have := HBS.out; omega) _).grown g1 HZ.out (fun k hk => (HO.out.lt k hk).1); have HO1 := Lib.hid own1; have HB1 := Lib.hid B1; clear own1 g1 B1)
      exact ⟨⟨j, A', c', by omega, by simp, by rw [← HLN.out], by rw [← HLN.out, hdr.out, HY.out]; simpa [ints] using HO1.out, HB1.out⟩, by simp only [intOf]; omega⟩
    · obtain rfl : k = 0 := by omega
      rw [Nat.sub_zero, List.drop_zero] at HO
      rw [Nat.sub_zero]
      have St := Lib.hid HO.out.at_
      have HB := Lib.hid (show Below w.heap.size w wr by rw [HBS.out]; exact HBL.out)
      replace Sl := Lib.hid (Sl.out.later HB.out (Nat.le_refl _))
      replace HG := Lib.hid (HG.out.later HB.out (Nat.le_refl _))
      clear HO HBL hk h0
      go_wp2_with fail
      refine (of_good L L.length HOK.out HL.out rfl (setOf_any A l.length c l _ rfl Nl.out Sl.out)).mono ?_
      rintro e w1 ⟨A_a, c_a, rfl, hat, bel⟩
      replace HB := Lib.hid (HB.out.trans (bel.mono HB.out.size))
      replace Sl := Lib.hid (Sl.out.later bel (Nat.le_refl _))
      replace St := Lib.hid (St.out.later bel (Nat.le_refl _))
      replace HG := Lib.hid (HG.out.later bel (Nat.le_refl _))
      have Sa := Lib.hid hat
      clear hat
      have Na := NL
      clear bel
      go_wp2_with fail
      refine (of_good L L.length HOKr.out HLr.out rfl (setOf_any A5 l.length c5 l.reverse _ (by simp) Nl.out St.out)).mono ?_
      rintro e w2 ⟨A_b, c_b, rfl, hat, bel⟩
      replace HB := Lib.hid (HB.out.trans (bel.mono HB.out.size))
      replace Sl := Lib.hid (Sl.out.later bel (Nat.le_refl _))
      replace St := Lib.hid (St.out.later bel (Nat.le_refl _))
      replace Sa := Lib.hid (Sa.out.later bel (Nat.le_refl _))
      replace HG := Lib.hid (HG.out.later bel (Nat.le_refl _))
      have Sb := Lib.hid hat
      clear hat
      have Nb := NL
      clear bel
      go_upto_region 10 with (fail)
      go_cut [58] (fun cv wx => cv = .bool false ∧ Below w2.heap.size w2 wx)
      case first =>
        go_wp2_with fail
        refine wp_region_below [is ?c0, is ?c1, is ?c2, is ?c3, is ?c4, is ?c5, is ?c6, is ?c7, is (.bool true), is ?c9, is ?c10, is ?c11, is ?c12, is (.int .u64 (v : Nat)), is ?c14, is (.int .u64 (v : Nat)), is ?c16, is ?c17]
          [⟨[], [8], none⟩, ⟨[(41, 0)], [], none⟩, ⟨[], [10], none⟩, ⟨[(43, 2)], [], none⟩, ⟨[(42, 1), (44, 3)], [], none⟩, ⟨[(45, 4)], [], none⟩, ⟨[(46, 5)], [7], some (46, false)⟩, ⟨[(46, 5)], [9], some (46, false)⟩, ⟨[(47, 6), (48, 7), (46, 5)], [], some (46, false)⟩, ⟨[(49, 8), (46, 5)], [], some (46, false)⟩, ⟨[(46, 5), (50, 9)], [], none⟩, ⟨[(51, 10)], [], none⟩, ⟨[(52, 11)], [0], some (52, false)⟩, ⟨[(53, 12), (52, 11)], [], some (52, false)⟩, ⟨[(52, 11)], [5], some (52, false)⟩, ⟨[(55, 14), (52, 11)], [], some (52, false)⟩, ⟨[(54, 13), (56, 15), (52, 11)], [], some (52, false)⟩, ⟨[(52, 11), (57, 16)], [], none⟩] (by kernel_rfl) (by kernel_rfl) (by kernel_rfl) (by kernel_rfl) (by kernel_rfl) ?monoc ?stepsc ?finc
        case monoc => exact ⟨mono_eq _, mono_eq _, mono_eq _, mono_eq _, mono_eq _, mono_eq _, mono_eq _, mono_eq _, mono_eq _, mono_eq _, mono_eq _, mono_eq _, mono_eq _, mono_eq _, mono_eq _, mono_eq _, mono_eq _, mono_eq _, trivial⟩
        case stepsc =>
          refine ⟨fun ρ W ⟨hcst, hglb, hfun⟩ hX hp ho => ?_, ?_⟩ -- 0: slot 41 := Op.move t8
          · obtain ⟨o8, -⟩ := ho
            change ρ (.tmp 8) = _ at o8
            refine turn_plain (ok_is ?_ rfl)
            simp only [execOp, o8]; go_simp; try exact rfl
          refine ⟨fun ρ W ⟨hcst, hglb, hfun⟩ hX hp ho => ?_, ?_⟩ -- 1: slot 42 := Op.binOp BinOp.eql 24 t41 (const Value.nilIface) 24
          · obtain ⟨p41, -⟩ := hp
            change ρ (.tmp 41) = _ at p41
            refine turn_plain (ok_is ?_ rfl)
            simp only [execOp, hcst, p41]; go_simp; try exact rfl
          refine ⟨fun ρ W ⟨hcst, hglb, hfun⟩ hX hp ho => ?_, ?_⟩ -- 2: slot 43 := Op.move t10
          · obtain ⟨o10, -⟩ := ho
            change ρ (.tmp 10) = _ at o10
            refine turn_plain (ok_is ?_ rfl)
            simp only [execOp, o10]; go_simp; try exact rfl
          refine ⟨fun ρ W ⟨hcst, hglb, hfun⟩ hX hp ho => ?_, ?_⟩ -- 3: slot 44 := Op.binOp BinOp.eql 24 t43 (const Value.nilIface) 24
          · obtain ⟨p43, -⟩ := hp
            change ρ (.tmp 43) = _ at p43
            refine turn_plain (ok_is ?_ rfl)
            simp only [execOp, hcst, p43]; go_simp; try exact rfl
          refine ⟨fun ρ W ⟨hcst, hglb, hfun⟩ hX hp ho => ?_, ?_⟩ -- 4: slot 45 := Op.binOp BinOp.neq 4 t42 t44 4
          · obtain ⟨p42, p44, -⟩ := hp
            change ρ (.tmp 42) = _ at p42
            change ρ (.tmp 44) = _ at p44
            refine turn_plain (ok_is ?_ rfl)
            simp only [execOp, p42, p44]; go_simp; try exact rfl
          refine ⟨fun ρ W ⟨hcst, hglb, hfun⟩ hX hp ho => ?_, ?_⟩ -- 5: slot 46 := Op.move t45
          · obtain ⟨p45, -⟩ := hp
            change ρ (.tmp 45) = _ at p45
            refine turn_plain (ok_is ?_ rfl)
            simp only [execOp, p45]; go_simp; try exact rfl
          refine ⟨fun ρ W ⟨hcst, hglb, hfun⟩ hX hp ho => ?_, ?_⟩ -- 6: slot 47 := Op.move t7   [guarded: some (5, false)]
          · obtain ⟨p46, -⟩ := hp
            change ρ (.tmp 46) = _ at p46
            obtain ⟨o7, -⟩ := ho
            change ρ (.tmp 7) = _ at o7
            refine turn_yes p46 (ok_is ?_ rfl)
            simp only [execOp, o7]; go_simp; try exact rfl
          refine ⟨fun ρ W ⟨hcst, hglb, hfun⟩ hX hp ho => ?_, ?_⟩ -- 7: slot 48 := Op.move t9   [guarded: some (5, false)]
          · obtain ⟨p46, -⟩ := hp
            change ρ (.tmp 46) = _ at p46
            obtain ⟨o9, -⟩ := ho
            change ρ (.tmp 9) = _ at o9
            refine turn_yes p46 (ok_is ?_ rfl)
            simp only [execOp, o9]; go_simp; try exact rfl
          refine ⟨fun ρ W ⟨hcst, hglb, hfun⟩ hX hp ho => ?_, ?_⟩ -- 8: slot 49 := Op.call { value (Operand.func 17), args := #[t47, t48], argTypes := #[31, 31] }   [guarded
          · obtain ⟨p47, p48, p46, -⟩ := hp
            change ρ (.tmp 47) = _ at p47
            change ρ (.tmp 48) = _ at p48
            change ρ (.tmp 46) = _ at p46
            have hW := (Below.refl _ _).drew.trans hX
            refine turn_yes p46 ?_
            have ce := @enter_of Tryd.prog 17 _ Tryd.func17 (by kernel_rfl) (by kernel_rfl)
            refine ok_call (op_call2 hfun ce (by exact rfl) p47 p48) ?_
            refine (valB_eq (.bool true) (by simp) (ints15_any A_a L.length c_a L A_b L.length c_b L _ rfl Na.out (Sa.out.later (hW) (Nat.le_refl _)) rfl Nb.out (Sb.out.later (hW) (Nat.le_refl _)))).mono ?_
            rintro e W' ⟨rfl, bel⟩
            exact ⟨_, rfl, bel, rfl⟩
          refine ⟨fun ρ W ⟨hcst, hglb, hfun⟩ hX hp ho => ?_, ?_⟩ -- 9: slot 50 := Op.unOp UnOp.not 4 t49   [guarded: some (5, false)]
          · obtain ⟨p49, p46, -⟩ := hp
            change ρ (.tmp 49) = _ at p49
            change ρ (.tmp 46) = _ at p46
            refine turn_yes p46 (ok_is ?_ rfl)
            simp only [execOp, p49]; go_simp; try exact rfl
          refine ⟨fun ρ W ⟨hcst, hglb, hfun⟩ hX hp ho => ?_, ?_⟩ -- 10: slot 51 := Op.pick t46 (const (Value.bool true)) t50
          · obtain ⟨p46, p50, -⟩ := hp
            change ρ (.tmp 46) = _ at p46
            change ρ (.tmp 50) = _ at p50
            refine turn_plain (ok_is ?_ rfl)
            simp only [execOp, hcst, p46, p50]; go_simp; try exact rfl
          refine ⟨fun ρ W ⟨hcst, hglb, hfun⟩ hX hp ho => ?_, ?_⟩ -- 11: slot 52 := Op.move t51
          · obtain ⟨p51, -⟩ := hp
            change ρ (.tmp 51) = _ at p51
            refine turn_plain (ok_is ?_ rfl)
            simp only [execOp, p51]; go_simp; try exact rfl
          refine ⟨fun ρ W ⟨hcst, hglb, hfun⟩ hX hp ho => ?_, ?_⟩ -- 12: slot 53 := Op.move t0   [guarded: some (11, false)]
          · obtain ⟨p52, -⟩ := hp
            change ρ (.tmp 52) = _ at p52
            obtain ⟨o0, -⟩ := ho
            change ρ (.tmp 0) = _ at o0
            refine turn_yes p52 (ok_is ?_ rfl)
            simp only [execOp, o0]; go_simp; try exact rfl
          refine ⟨fun ρ W ⟨hcst, hglb, hfun⟩ hX hp ho => ?_, ?_⟩ -- 13: slot 54 := Op.call { value (Operand.func 26), args := #[t53], argTypes := #[31] }   [guarded: some (1
          · obtain ⟨p53, p52, -⟩ := hp
            change ρ (.tmp 53) = _ at p53
            change ρ (.tmp 52) = _ at p52
            have hW := (Below.refl _ _).drew.trans hX
            refine turn_yes p52 ?_
            have ce := @enter_of Tryd.prog 26 _ Tryd.func26 (by kernel_rfl) (by kernel_rfl)
            refine ok_call (op_call1 hfun ce (by exact rfl) p53) ?_
            refine (val_eq (.int .u64 (v : Nat)) (by rw [HV.out]) (setBits_any A l.length c l _ rfl Nl.out (Sl.out.later (hW) (Nat.le_refl _)))).mono ?_
            rintro e W' ⟨rfl, rfl⟩
            exact ⟨_, rfl, Below.refl _ _, rfl⟩
          refine ⟨fun ρ W ⟨hcst, hglb, hfun⟩ hX hp ho => ?_, ?_⟩ -- 14: slot 55 := Op.move t5   [guarded: some (11, false)]
          · obtain ⟨p52, -⟩ := hp
            change ρ (.tmp 52) = _ at p52
            obtain ⟨o5, -⟩ := ho
            change ρ (.tmp 5) = _ at o5
            refine turn_yes p52 (ok_is ?_ rfl)
            simp only [execOp, o5]; go_simp; try exact rfl
          refine ⟨fun ρ W ⟨hcst, hglb, hfun⟩ hX hp ho => ?_, ?_⟩ -- 15: slot 56 := Op.call { value (Operand.func 26), args := #[t55], argTypes := #[31] }   [guarded: some (1
          · obtain ⟨p55, p52, -⟩ := hp
            change ρ (.tmp 55) = _ at p55
            change ρ (.tmp 52) = _ at p52
            have hW := (Below.refl _ _).drew.trans hX
            refine turn_yes p52 ?_
            have ce := @enter_of Tryd.prog 26 _ Tryd.func26 (by kernel_rfl) (by kernel_rfl)
            refine ok_call (op_call1 hfun ce (by exact rfl) p55) ?_
            refine (val_eq (.int .u64 (v : Nat)) (by rw [HVr.out]) (setBits_any A5 l.length c5 l.reverse _ (by simp) Nl.out (St.out.later (hW) (Nat.le_refl _)))).mono ?_
            rintro e W' ⟨rfl, rfl⟩
            exact ⟨_, rfl, Below.refl _ _, rfl⟩
          refine ⟨fun ρ W ⟨hcst, hglb, hfun⟩ hX hp ho => ?_, ?_⟩ -- 16: slot 57 := Op.binOp BinOp.neq 43 t54 t56 43   [guarded: some (11, false)]
          · obtain ⟨p54, p56, p52, -⟩ := hp
            change ρ (.tmp 54) = _ at p54
            change ρ (.tmp 56) = _ at p56
            change ρ (.tmp 52) = _ at p52
            refine turn_yes p52 (ok_is ?_ rfl)
            simp only [execOp, p54, p56]; go_simp; try exact rfl
          refine ⟨fun ρ W ⟨hcst, hglb, hfun⟩ hX hp ho => ?_, ?_⟩ -- 17: slot 58 := Op.pick t52 (const (Value.bool true)) t57
          · obtain ⟨p52, p57, -⟩ := hp
            change ρ (.tmp 52) = _ at p52
            change ρ (.tmp 57) = _ at p57
            refine turn_plain (ok_is ?_ rfl)
            simp only [execOp, hcst, p52, p57]; go_simp; try exact rfl
          exact trivial
        case finc =>
          rintro v W hX ⟨f0, f1, f2, f3, f4, f5, f6, f7, f8, f9, f10, f11, f12, f13, f14, f15, f16, f17, -⟩
          simp only [is] at f0 f1 f2 f3 f4 f5 f6 f7 f8 f9 f10 f11 f12 f13 f14 f15 f16 f17
          simp only [putAll, Act.put, List.setIfInBounds_toArray, List.set_cons_succ, List.set_cons_zero, f0, f1, f2, f3, f4, f5, f6, f7, f8, f9, f10, f11, f12, f13, f14, f15, f16, f17]
          clear f0 f1 f2 f3 f4 f5 f6 f7 f8 f9 f10 f11 f12 f13 f14 f15 f16 f17
          go_wp2_with fail
          go_meet
          exact ⟨rfl, hX⟩
      case rest =>
        obtain ⟨rfl, bel⟩ := hcut
        replace HB := Lib.hid (HB.out.trans (bel.mono HB.out.size))
        replace Sl := Lib.hid (Sl.out.later bel (Nat.le_refl _))
        replace St := Lib.hid (St.out.later bel (Nat.le_refl _))
        replace Sa := Lib.hid (Sa.out.later bel (Nat.le_refl _))
        replace Sb := Lib.hid (Sb.out.later bel (Nat.le_refl _))
        replace HG := Lib.hid (HG.out.later bel (Nat.le_refl _))
        clear bel
        clear Sa Na
        clear Sb Nb
        go_wp2_with fail
        have bel := (Below.refl wc.heap.size wc).alloc (Nat.le_refl _) (.cells #[.int .i64 x] 3)
        have Sd := Lib.hid (show At (wc.alloc (.cells #[.int .i64 x] 3)) (some ⟨wc.heap.size, 0, none⟩) (ints .i64 [x]) from At.lit _ _ _ _ _ rfl)
        generalize (wc.alloc (.cells #[.int .i64 x] 3)) = w3 at bel Sd ⊢
        replace HB := Lib.hid (HB.out.trans (bel.mono HB.out.size))
        replace Sl := Lib.hid (Sl.out.later bel (Nat.le_refl _))
        replace St := Lib.hid (St.out.later bel (Nat.le_refl _))
        replace HG := Lib.hid (HG.out.later bel (Nat.le_refl _))
        have Nd := Lib.hid (show (1 : Nat) ≤ 9223372036854775807 by decide)
        clear bel
        go_wp2_with fail
        refine (sl_eq (P := fun _ _ => True) Lu Lu.length Eu.out rfl (setEither_any A l.length c l (some ⟨wc.heap.size, 0, none⟩) 1 1 [x] _ rfl Nl.out Sl.out rfl Nd.out Sd.out)).mono ?_
        rintro e w4 ⟨A_u, c_u, rfl, hat, bel⟩
        replace HB := Lib.hid (HB.out.trans (bel.mono HB.out.size))
        replace Sl := Lib.hid (Sl.out.later bel (Nat.le_refl _))
        replace St := Lib.hid (St.out.later bel (Nat.le_refl _))
        replace Sd := Lib.hid (Sd.out.later bel (Nat.le_refl _))
        replace HG := Lib.hid (HG.out.later bel (Nat.le_refl _))
        have Su := Lib.hid hat
        clear hat
        clear bel
        clear Sd Nd
        go_wp2_with fail
        refine (val_eq (.bool true) (by rw [Ku.out]) (setHas_any A_u Lu.length c_u Lu x _ rfl Nu.out Su.out)).mono ?_
        rintro e w' ⟨rfl, rfl⟩
        go_wp2_with fail
        have bel := (Below.refl w4.heap.size w4).alloc (Nat.le_refl _) (.cells #[.int .i64 x] 3)
        have Sd := Lib.hid (show At (w4.alloc (.cells #[.int .i64 x] 3)) (some ⟨w4.heap.size, 0, none⟩) (ints .i64 [x]) from At.lit _ _ _ _ _ rfl)
        generalize (w4.alloc (.cells #[.int .i64 x] 3)) = w5 at bel Sd ⊢
        replace HB := Lib.hid (HB.out.trans (bel.mono HB.out.size))
        replace Sl := Lib.hid (Sl.out.later bel (Nat.le_refl _))
        replace St := Lib.hid (St.out.later bel (Nat.le_refl _))
        replace Su := Lib.hid (Su.out.later bel (Nat.le_refl _))
        replace HG := Lib.hid (HG.out.later bel (Nat.le_refl _))
        have Nd := Lib.hid (show (1 : Nat) ≤ 9223372036854775807 by decide)
        clear bel
        go_wp2_with fail
        refine (sl_eq (P := fun _ _ => True) Lu Lu.length Enu.out rfl (setEither_any (some ⟨w4.heap.size, 0, none⟩) 1 1 [x] A5 l.length c5 l.reverse _ rfl Nd.out Sd.out (by simp) Nl.out St.out)).mono ?_
        rintro e w6 ⟨A_p, c_p, rfl, hat, bel⟩
        replace HB := Lib.hid (HB.out.trans (bel.mono HB.out.size))
        replace Sl := Lib.hid (Sl.out.later bel (Nat.le_refl _))
        replace St := Lib.hid (St.out.later bel (Nat.le_refl _))
        replace Su := Lib.hid (Su.out.later bel (Nat.le_refl _))
        replace Sd := Lib.hid (Sd.out.later bel (Nat.le_refl _))
        replace HG := Lib.hid (HG.out.later bel (Nat.le_refl _))
        have Sp := Lib.hid hat
        clear hat
        have Np := Nu
        clear bel
        go_wp2_with fail
        refine (valB_eq (.bool true) (by simp) (ints15_any A_p Lu.length c_p Lu A_u Lu.length c_u Lu _ rfl Np.out Sp.out rfl Nu.out Su.out)).mono ?_
        rintro e w7 ⟨rfl, bel⟩
        replace HB := Lib.hid (HB.out.trans (bel.mono HB.out.size))
        replace Sl := Lib.hid (Sl.out.later bel (Nat.le_refl _))
        replace St := Lib.hid (St.out.later bel (Nat.le_refl _))
        replace Su := Lib.hid (Su.out.later bel (Nat.le_refl _))
        replace Sd := Lib.hid (Sd.out.later bel (Nat.le_refl _))
        replace Sp := Lib.hid (Sp.out.later bel (Nat.le_refl _))
        replace HG := Lib.hid (HG.out.later bel (Nat.le_refl _))
        clear bel
        clear Sd Nd
        clear Sp Np
        go_wp2_with fail
        have bel := (Below.refl w7.heap.size w7).alloc (Nat.le_refl _) (.cells #[.int .i64 x] 3)
        have Sd := Lib.hid (show At (w7.alloc (.cells #[.int .i64 x] 3)) (some ⟨w7.heap.size, 0, none⟩) (ints .i64 [x]) from At.lit _ _ _ _ _ rfl)
        generalize (w7.alloc (.cells #[.int .i64 x] 3)) = w8 at bel Sd ⊢
        replace HB := Lib.hid (HB.out.trans (bel.mono HB.out.size))
        replace Sl := Lib.hid (Sl.out.later bel (Nat.le_refl _))
        replace St := Lib.hid (St.out.later bel (Nat.le_refl _))
        replace Su := Lib.hid (Su.out.later bel (Nat.le_refl _))
        replace HG := Lib.hid (HG.out.later bel (Nat.le_refl _))
        have Nd := Lib.hid (show (1 : Nat) ≤ 9223372036854775807 by decide)
        clear bel
        go_wp2_with fail
        refine (sl_eq (P := fun _ _ => True) Lq Lq.length Eun.out rfl (setLess_any A_u Lu.length c_u Lu (some ⟨w7.heap.size, 0, none⟩) 1 1 [x] _ rfl Nu.out Su.out rfl Nd.out Sd.out)).mono ?_
        rintro e w9 ⟨A_p, c_p, rfl, hat, bel⟩
        replace HB := Lib.hid (HB.out.trans (bel.mono HB.out.size))
        replace Sl := Lib.hid (Sl.out.later bel (Nat.le_refl _))
        replace St := Lib.hid (St.out.later bel (Nat.le_refl _))
        replace Su := Lib.hid (Su.out.later bel (Nat.le_refl _))
        replace Sd := Lib.hid (Sd.out.later bel (Nat.le_refl _))
        replace HG := Lib.hid (HG.out.later bel (Nat.le_refl _))
        have Sp := Lib.hid hat
        clear hat
        have Np := Nq
        clear bel
        clear Sd Nd
        go_wp2_with fail
        have bel := (Below.refl w9.heap.size w9).alloc (Nat.le_refl _) (.cells #[.int .i64 x] 3)
        have Sd := Lib.hid (show At (w9.alloc (.cells #[.int .i64 x] 3)) (some ⟨w9.heap.size, 0, none⟩) (ints .i64 [x]) from At.lit _ _ _ _ _ rfl)
        generalize (w9.alloc (.cells #[.int .i64 x] 3)) = w10 at bel Sd ⊢
        replace HB := Lib.hid (HB.out.trans (bel.mono HB.out.size))
        replace Sl := Lib.hid (Sl.out.later bel (Nat.le_refl _))
        replace St := Lib.hid (St.out.later bel (Nat.le_refl _))
        replace Su := Lib.hid (Su.out.later bel (Nat.le_refl _))
        replace Sp := Lib.hid (Sp.out.later bel (Nat.le_refl _))
        replace HG := Lib.hid (HG.out.later bel (Nat.le_refl _))
        have Nd := Lib.hid (show (1 : Nat) ≤ 9223372036854775807 by decide)
        clear bel
        go_wp2_with fail
        refine (sl_eq (P := fun _ _ => True) Lq Lq.length Eq.out rfl (setLess_any A l.length c l (some ⟨w9.heap.size, 0, none⟩) 1 1 [x] _ rfl Nl.out Sl.out rfl Nd.out Sd.out)).mono ?_
        rintro e w11 ⟨A_r, c_r, rfl, hat, bel⟩
        replace HB := Lib.hid (HB.out.trans (bel.mono HB.out.size))
        replace Sl := Lib.hid (Sl.out.later bel (Nat.le_refl _))
        replace St := Lib.hid (St.out.later bel (Nat.le_refl _))
        replace Su := Lib.hid (Su.out.later bel (Nat.le_refl _))
        replace Sp := Lib.hid (Sp.out.later bel (Nat.le_refl _))
        replace Sd := Lib.hid (Sd.out.later bel (Nat.le_refl _))
        replace HG := Lib.hid (HG.out.later bel (Nat.le_refl _))
        have Sr := Lib.hid hat
        clear hat
        have Nr := Nq
        clear bel
        clear Sd Nd
        go_wp2_with fail
        refine (valB_eq (.bool true) (by simp) (ints15_any A_p Lq.length c_p Lq A_r Lq.length c_r Lq _ rfl Np.out Sp.out rfl Nr.out Sr.out)).mono ?_
        rintro e w12 ⟨rfl, bel⟩
        replace HB := Lib.hid (HB.out.trans (bel.mono HB.out.size))
        replace Sl := Lib.hid (Sl.out.later bel (Nat.le_refl _))
        replace St := Lib.hid (St.out.later bel (Nat.le_refl _))
        replace Su := Lib.hid (Su.out.later bel (Nat.le_refl _))
        replace Sp := Lib.hid (Sp.out.later bel (Nat.le_refl _))
        replace Sr := Lib.hid (Sr.out.later bel (Nat.le_refl _))
        replace HG := Lib.hid (HG.out.later bel (Nat.le_refl _))
        clear bel
        clear Sp Np
        clear Sr Nr
        go_wp2_with fail
        refine (val_eq .nilIface (by rw [Mu.out]; rfl) (setCheck_any A_u Lu.length c_u Lu _ rfl Nu.out Su.out)).mono ?_
        rintro e w' ⟨rfl, rfl⟩
        go_wp2_with fail
        refine (sure15 _ HG.out).mono ?_
        rintro e w13 ⟨rfl, bel⟩
        replace HB := Lib.hid (HB.out.trans (bel.mono HB.out.size))
        replace Sl := Lib.hid (Sl.out.later bel (Nat.le_refl _))
        replace St := Lib.hid (St.out.later bel (Nat.le_refl _))
        replace Su := Lib.hid (Su.out.later bel (Nat.le_refl _))
        replace HG := Lib.hid (HG.out.later bel (Nat.le_refl _))
        clear bel
        go_wp2_with fail
        go_ret
        exact ⟨rfl, HB.out⟩
set_option maxRecDepth 100000 in
set_option maxHeartbeats 4000000 in
theorem order_1big (A : Option Addr) (c : Nat) (l : List Int) (x : Int) (w : World) (hl : l.length ≤ 60) (ha : At w A (ints .i64 l)) (hg : Glob w) (hok : SetM.ok l = true) (hx : 64 ≤ x) :
    Calls Tryd.prog 6 #[.slice A l.length c, .int .i64 x] w fun e w' => e = .returned (.bool true) ∧ Below w.heap.size w w' := by
  have HG := Lib.hid hg
  have Sl := Lib.hid ha
  have Nl := Lib.hid (show l.length ≤ 9223372036854775807 by omega)
  have HOK := Lib.hid hok
  have HOKr := Lib.hid (show SetM.ok l.reverse = true by rw [SetM.ok_reverse, hok])
  obtain ⟨L, hL⟩ : ∃ L, SetM.elems (SetM.bitsOf l) = L := ⟨_, rfl⟩
  have HL := Lib.hid hL
  have HLr := Lib.hid (show SetM.elems (SetM.bitsOf l.reverse) = L by rw [SetM.bitsOf_reverse, hL])
  have NL := Lib.hid (hL ▸ elems_len _ : L.length ≤ 9223372036854775807)
  obtain ⟨v, hv⟩ : ∃ v, SetM.bitsOf l = v := ⟨_, rfl⟩
  have HV := Lib.hid hv
  have HVr := Lib.hid (show SetM.bitsOf l.reverse = v by rw [SetM.bitsOf_reverse, hv])
  obtain ⟨Lu, hLu⟩ : ∃ L, SetM.elems (SetM.op 0 (SetM.bitsOf l) (SetM.bitsOf [x])) = L := ⟨_, rfl⟩
  obtain ⟨Lq, hLq⟩ : ∃ L, SetM.elems (SetM.op 2 (SetM.bitsOf l) (SetM.bitsOf [x])) = L := ⟨_, rfl⟩
  have Nu := Lib.hid (hLu ▸ elems_len _ : Lu.length ≤ 9223372036854775807)
  have Nq := Lib.hid (hLq ▸ elems_len _ : Lq.length ≤ 9223372036854775807)
  have hb1 := SetM.bitsOf_lt l
  have hb2 := SetM.bitsOf_lt [x]
  have Eu := Lib.hid hLu
  have Eq := Lib.hid hLq
  have Enu := Lib.hid (show SetM.elems (SetM.op 0 (SetM.bitsOf [x]) (SetM.bitsOf l.reverse)) = Lu by rw [SetM.bitsOf_reverse, SetM.op0_comm hb1 hb2, hLu])
  have Eun := Lib.hid (show SetM.elems (SetM.op 2 (SetM.bitsOf Lu) (SetM.bitsOf [x])) = Lq by rw [← hLu, SetM.bitsOf_elems (SetM.op_lt 0 hb1 hb2), SetM.parts4 hb1 hb2, hLq])
  have Ku := Lib.hid (show SetM.has Lu x = false by rw [← hLu, SetM.has_put]; simp [SetM.can]; omega)
  have Mu := Lib.hid (show SetM.may Lu = true by rw [← hLu]; exact SetM.may_elems _)
  clear ha hg hok hL hv hLu hLq hb1 hb2
  obtain ⟨B, hB⟩ : ∃ B, w.heap.size = B := ⟨_, rfl⟩
  have HBS := Lib.hid hB
  clear hB
  have hd : decide (x < 64) = false := decide_eq_false (by omega)
  go_enter Tryd.func6, Tryd.ntmps6
  go_wp2_with fail
  go_loopw [5, 6] (fun s i wr => ∃ (k : Nat) (A : Option Addr) (c : Nat), k ≤ l.length ∧ i = .int .i64 ((k : Int) - 1) ∧ s = .slice A (l.length - k) c ∧ Own wr B 3 1 A (l.length - k) c (ints .i64 (l.drop k).reverse) ∧ Below B w wr) (fun _ i _ => (intOf i + 1).toNat)
  case atStart => exact ⟨l.length, none, 0, Nat.le_refl _, rfl, by rw [Nat.sub_self], by rw [Nat.sub_self, List.drop_of_length_le (Nat.le_refl _)]; exact Own.none_ _ _ _ _, Below.refl _ _⟩
  case round =>
    obtain ⟨k, A5, c5, hk, rfl, rfl, hown, hbel⟩ := hrel
    have HO := Lib.hid hown
    have HBL := Lib.hid hbel
    clear hown hbel
    by_cases h0 : 1 ≤ k
    · obtain ⟨j, rfl⟩ : ∃ j, k = j + 1 := ⟨k - 1, by omega⟩
      obtain ⟨b, o, rfl, hc⟩ := (Sl.out.later (HBL.out) (Nat.le_of_eq HBS.out)).int j (by omega)
      have hdr := Lib.hid (drop_rev (l := l) (k := j) (by omega))
      obtain ⟨y, hy⟩ : ∃ y, l.getD j 0 = y := ⟨_, rfl⟩
      have hlen : l.length - (j + 1) + 1 = l.length - j := by omega
      obtain ⟨m, hm⟩ : ∃ m, l.length - (j + 1) = m := ⟨_, rfl⟩
      rw [hm] at hlen HO ⊢
      have HLN := Lib.hid hlen
      have hm2 : m ≤ 60 := by omega
      rw [hy] at hc
      have HY := Lib.hid hy
      have hj : ((j + 1 : Nat) : Int) - 1 = (j : Int) := by omega
      rw [hj]
      clear hm hlen hy hj
      have hz : B ≤ (wr.alloc (.cells #[.int .i64 y] 3)).heap.size := by have := HBL.out.size; have := HBS.out; simp; omega
      have HZ := Lib.hid hz
      clear hz
      go_wp2_with (at_builtin; refine wpList_app rfl elt_int B (.tmp 24) (.tmp 29) rfl (ints .i64 (l.drop (j + 1)).reverse) rfl (HO.out.alloc _) [.int .i64 y] rfl (show At _ _ [.int .i64 y] from At.lit _ _ _ _ _ rfl) rfl (by intro u hu; simp at hu; subst hu; rfl) (by unfold maxLen; omega) (by omega) HZ.out ?_; intro A' c' w1 own1 g1 _; have B1 := (HBL.out.alloc (by have := HBL.out.size; have := HBS.out; omega) _).grown g1 HZ.out (fun k hk => (HO.out.lt k hk).1); have HO1 := Lib.hid own1; have HB1 := Lib.hid B1; clear own1 g1 B1)
      exact ⟨⟨j, A', c', by omega, by simp, by rw [← HLN.out], by rw [← HLN.out, hdr.out, HY.out]; simpa [ints] using HO1.out, HB1.out⟩, by simp only [intOf]; omega⟩
    · obtain rfl : k = 0 := by omega
      rw [Nat.sub_zero, List.drop_zero] at HO
      rw [Nat.sub_zero]
      have St := Lib.hid HO.out.at_
      have HB := Lib.hid (show Below w.heap.size w wr by rw [HBS.out]; exact HBL.out)
      replace Sl := Lib.hid (Sl.out.later HB.out (Nat.le_refl _))
      replace HG := Lib.hid (HG.out.later HB.out (Nat.le_refl _))
      clear HO HBL hk h0
      go_wp2_with fail
      refine (of_good L L.length HOK.out HL.out rfl (setOf_any A l.length c l _ rfl Nl.out Sl.out)).mono ?_
      rintro e w1 ⟨A_a, c_a, rfl, hat, bel⟩
      replace HB := Lib.hid (HB.out.trans (bel.mono HB.out.size))
      replace Sl := Lib.hid (Sl.out.later bel (Nat.le_refl _))
      replace St := Lib.hid (St.out.later bel (Nat.le_refl _))
      replace HG := Lib.hid (HG.out.later bel (Nat.le_refl _))
      have Sa := Lib.hid hat
      clear hat
      have Na := NL
      clear bel
      go_wp2_with fail
      refine (of_good L L.length HOKr.out HLr.out rfl (setOf_any A5 l.length c5 l.reverse _ (by simp) Nl.out St.out)).mono ?_
      rintro e w2 ⟨A_b, c_b, rfl, hat, bel⟩
      replace HB := Lib.hid (HB.out.trans (bel.mono HB.out.size))
      replace Sl := Lib.hid (Sl.out.later bel (Nat.le_refl _))
      replace St := Lib.hid (St.out.later bel (Nat.le_refl _))
      replace Sa := Lib.hid (Sa.out.later bel (Nat.le_refl _))
      replace HG := Lib.hid (HG.out.later bel (Nat.le_refl _))
      have Sb := Lib.hid hat
      clear hat
      have Nb := NL
      clear bel
      go_upto_region 10 with (fail)
      go_cut [58] (fun cv wx => cv = .bool false ∧ Below w2.heap.size w2 wx)
      case first =>
        go_wp2_with fail
        refine wp_region_below [is ?c0, is ?c1, is ?c2, is ?c3, is ?c4, is ?c5, is ?c6, is ?c7, is (.bool true), is ?c9, is ?c10, is ?c11, is ?c12, is (.int .u64 (v : Nat)), is ?c14, is (.int .u64 (v : Nat)), is ?c16, is ?c17]
          [⟨[], [8], none⟩, ⟨[(41, 0)], [], none⟩, ⟨[], [10], none⟩, ⟨[(43, 2)], [], none⟩, ⟨[(42, 1), (44, 3)], [], none⟩, ⟨[(45, 4)], [], none⟩, ⟨[(46, 5)], [7], some (46, false)⟩, ⟨[(46, 5)], [9], some (46, false)⟩, ⟨[(47, 6), (48, 7), (46, 5)], [], some (46, false)⟩, ⟨[(49, 8), (46, 5)], [], some (46, false)⟩, ⟨[(46, 5), (50, 9)], [], none⟩, ⟨[(51, 10)], [], none⟩, ⟨[(52, 11)], [0], some (52, false)⟩, ⟨[(53, 12), (52, 11)], [], some (52, false)⟩, ⟨[(52, 11)], [5], some (52, false)⟩, ⟨[(55, 14), (52, 11)], [], some (52, false)⟩, ⟨[(54, 13), (56, 15), (52, 11)], [], some (52, false)⟩, ⟨[(52, 11), (57, 16)], [], none⟩] (by kernel_rfl) (by kernel_rfl) (by kernel_rfl) (by kernel_rfl) (by kernel_rfl) ?monoc ?stepsc ?finc
        case monoc => exact ⟨mono_eq _, mono_eq _, mono_eq _, mono_eq _, mono_eq _, mono_eq _, mono_eq _, mono_eq _, mono_eq _, mono_eq _, mono_eq _, mono_eq _, mono_eq _, mono_eq _, mono_eq _, mono_eq _, mono_eq _, mono_eq _, trivial⟩
        case stepsc =>
          refine ⟨fun ρ W ⟨hcst, hglb, hfun⟩ hX hp ho => ?_, ?_⟩ -- 0: slot 41 := Op.move t8
          · obtain ⟨o8, -⟩ := ho
            change ρ (.tmp 8) = _ at o8
            refine turn_plain (ok_is ?_ rfl)
            simp only [execOp, o8]; go_simp; try exact rfl
          refine ⟨fun ρ W ⟨hcst, hglb, hfun⟩ hX hp ho => ?_, ?_⟩ -- 1: slot 42 := Op.binOp BinOp.eql 24 t41 (const Value.nilIface) 24
          · obtain ⟨p41, -⟩ := hp
            change ρ (.tmp 41) = _ at p41
            refine turn_plain (ok_is ?_ rfl)
            simp only [execOp, hcst, p41]; go_simp; try exact rfl
          refine ⟨fun ρ W ⟨hcst, hglb, hfun⟩ hX hp ho => ?_, ?_⟩ -- 2: slot 43 := Op.move t10
          · obtain ⟨o10, -⟩ := ho
            change ρ (.tmp 10) = _ at o10
            refine turn_plain (ok_is ?_ rfl)
            simp only [execOp, o10]; go_simp; try exact rfl
          refine ⟨fun ρ W ⟨hcst, hglb, hfun⟩ hX hp ho => ?_, ?_⟩ -- 3: slot 44 := Op.binOp BinOp.eql 24 t43 (const Value.nilIface) 24
          · obtain ⟨p43, -⟩ := hp
            change ρ (.tmp 43) = _ at p43
            refine turn_plain (ok_is ?_ rfl)
            simp only [execOp, hcst, p43]; go_simp; try exact rfl
          refine ⟨fun ρ W ⟨hcst, hglb, hfun⟩ hX hp ho => ?_, ?_⟩ -- 4: slot 45 := Op.binOp BinOp.neq 4 t42 t44 4
          · obtain ⟨p42, p44, -⟩ := hp
            change ρ (.tmp 42) = _ at p42
            change ρ (.tmp 44) = _ at p44
            refine turn_plain (ok_is ?_ rfl)
            simp only [execOp, p42, p44]; go_simp; try exact rfl
          refine ⟨fun ρ W ⟨hcst, hglb, hfun⟩ hX hp ho => ?_, ?_⟩ -- 5: slot 46 := Op.move t45
          · obtain ⟨p45, -⟩ := hp
            change ρ (.tmp 45) = _ at p45
            refine turn_plain (ok_is ?_ rfl)
            simp only [execOp, p45]; go_simp; try exact rfl
          refine ⟨fun ρ W ⟨hcst, hglb, hfun⟩ hX hp ho => ?_, ?_⟩ -- 6: slot 47 := Op.move t7   [guarded: some (5, false)]
          · obtain ⟨p46, -⟩ := hp
            change ρ (.tmp 46) = _ at p46
            obtain ⟨o7, -⟩ := ho
            change ρ (.tmp 7) = _ at o7
            refine turn_yes p46 (ok_is ?_ rfl)
            simp only [execOp, o7]; go_simp; try exact rfl
          refine ⟨fun ρ W ⟨hcst, hglb, hfun⟩ hX hp ho => ?_, ?_⟩ -- 7: slot 48 := Op.move t9   [guarded: some (5, false)]
          · obtain ⟨p46, -⟩ := hp
            change ρ (.tmp 46) = _ at p46
            obtain ⟨o9, -⟩ := ho
            change ρ (.tmp 9) = _ at o9
            refine turn_yes p46 (ok_is ?_ rfl)
            simp only [execOp, o9]; go_simp; try exact rfl
          refine ⟨fun ρ W ⟨hcst, hglb, hfun⟩ hX hp ho => ?_, ?_⟩ -- 8: slot 49 := Op.call { value (Operand.func 17), args := #[t47, t48], argTypes := #[31, 31] }   [guarded
          · obtain ⟨p47, p48, p46, -⟩ := hp
            change ρ (.tmp 47) = _ at p47
            change ρ (.tmp 48) = _ at p48
            change ρ (.tmp 46) = _ at p46
            have hW := (Below.refl _ _).drew.trans hX
            refine turn_yes p46 ?_
            have ce := @enter_of Tryd.prog 17 _ Tryd.func17 (by kernel_rfl) (by kernel_rfl)
            refine ok_call (op_call2 hfun ce (by exact rfl) p47 p48) ?_
            refine (valB_eq (.bool true) (by simp) (ints15_any A_a L.length c_a L A_b L.length c_b L _ rfl Na.out (Sa.out.later (hW) (Nat.le_refl _)) rfl Nb.out (Sb.out.later (hW) (Nat.le_refl _)))).mono ?_
            rintro e W' ⟨rfl, bel⟩
            exact ⟨_, rfl, bel, rfl⟩
          refine ⟨fun ρ W ⟨hcst, hglb, hfun⟩ hX hp ho => ?_, ?_⟩ -- 9: slot 50 := Op.unOp UnOp.not 4 t49   [guarded: some (5, false)]
          · obtain ⟨p49, p46, -⟩ := hp
            change ρ (.tmp 49) = _ at p49
            change ρ (.tmp 46) = _ at p46
            refine turn_yes p46 (ok_is ?_ rfl)
            simp only [execOp, p49]; go_simp; try exact rfl
          refine ⟨fun ρ W ⟨hcst, hglb, hfun⟩ hX hp ho => ?_, ?_⟩ -- 10: slot 51 := Op.pick t46 (const (Value.bool true)) t50
          · obtain ⟨p46, p50, -⟩ := hp
            change ρ (.tmp 46) = _ at p46
            change ρ (.tmp 50) = _ at p50
            refine turn_plain (ok_is ?_ rfl)
            simp only [execOp, hcst, p46, p50]; go_simp; try exact rfl
          refine ⟨fun ρ W ⟨hcst, hglb, hfun⟩ hX hp ho => ?_, ?_⟩ -- 11: slot 52 := Op.move t51
          · obtain ⟨p51, -⟩ := hp
            change ρ (.tmp 51) = _ at p51
            refine turn_plain (ok_is ?_ rfl)
            simp only [execOp, p51]; go_simp; try exact rfl
          refine ⟨fun ρ W ⟨hcst, hglb, hfun⟩ hX hp ho => ?_, ?_⟩ -- 12: slot 53 := Op.move t0   [guarded: some (11, false)]
          · obtain ⟨p52, -⟩ := hp
            change ρ (.tmp 52) = _ at p52
            obtain ⟨o0, -⟩ := ho
            change ρ (.tmp 0) = _ at o0
            refine turn_yes p52 (ok_is ?_ rfl)
            simp only [execOp, o0]; go_simp; try exact rfl
          refine ⟨fun ρ W ⟨hcst, hglb, hfun⟩ hX hp ho => ?_, ?_⟩ -- 13: slot 54 := Op.call { value (Operand.func 26), args := #[t53], argTypes := #[31] }   [guarded: some (1
          · obtain ⟨p53, p52, -⟩ := hp
            change ρ (.tmp 53) = _ at p53
            change ρ (.tmp 52) = _ at p52
            have hW := (Below.refl _ _).drew.trans hX
            refine turn_yes p52 ?_
            have ce := @enter_of Tryd.prog 26 _ Tryd.func26 (by kernel_rfl) (by kernel_rfl)
            refine ok_call (op_call1 hfun ce (by exact rfl) p53) ?_
            refine (val_eq (.int .u64 (v : Nat)) (by rw [HV.out]) (setBits_any A l.length c l _ rfl Nl.out (Sl.out.later (hW) (Nat.le_refl _)))).mono ?_
            rintro e W' ⟨rfl, rfl⟩
            exact ⟨_, rfl, Below.refl _ _, rfl⟩
          refine ⟨fun ρ W ⟨hcst, hglb, hfun⟩ hX hp ho => ?_, ?_⟩ -- 14: slot 55 := Op.move t5   [guarded: some (11, false)]
          · obtain ⟨p52, -⟩ := hp
            change ρ (.tmp 52) = _ at p52
            obtain ⟨o5, -⟩ := ho
            change ρ (.tmp 5) = _ at o5
            refine turn_yes p52 (ok_is ?_ rfl)
            simp only [execOp, o5]; go_simp; try exact rfl
          refine ⟨fun ρ W ⟨hcst, hglb, hfun⟩ hX hp ho => ?_, ?_⟩ -- 15: slot 56 := Op.call { value (Operand.func 26), args := #[t55], argTypes := #[31] }   [guarded: some (1
          · obtain ⟨p55, p52, -⟩ := hp
            change ρ (.tmp 55) = _ at p55
            change ρ (.tmp 52) = _ at p52
            have hW := (Below.refl _ _).drew.trans hX
            refine turn_yes p52 ?_
            have ce := @enter_of Tryd.prog 26 _ Tryd.func26 (by kernel_rfl) (by kernel_rfl)
            refine ok_call (op_call1 hfun ce (by exact rfl) p55) ?_
            refine (val_eq (.int .u64 (v : Nat)) (by rw [HVr.out]) (setBits_any A5 l.length c5 l.reverse _ (by simp) Nl.out (St.out.later (hW) (Nat.le_refl _)))).mono ?_
            rintro e W' ⟨rfl, rfl⟩
            exact ⟨_, rfl, Below.refl _ _, rfl⟩
          refine ⟨fun ρ W ⟨hcst, hglb, hfun⟩ hX hp ho => ?_, ?_⟩ -- 16: slot 57 := Op.binOp BinOp.neq 43 t54 t56 43   [guarded: some (11, false)]
          · obtain ⟨p54, p56, p52, -⟩ := hp
            change ρ (.tmp 54) = _ at p54
            change ρ (.tmp 56) = _ at p56
            change ρ (.tmp 52) = _ at p52
            refine turn_yes p52 (ok_is ?_ rfl)
            simp only [execOp, p54, p56]; go_simp; try exact rfl
          refine ⟨fun ρ W ⟨hcst, hglb, hfun⟩ hX hp ho => ?_, ?_⟩ -- 17: slot 58 := Op.pick t52 (const (Value.bool true)) t57
          · obtain ⟨p52, p57, -⟩ := hp
            change ρ (.tmp 52) = _ at p52
            change ρ (.tmp 57) = _ at p57
            refine turn_plain (ok_is ?_ rfl)
            simp only [execOp, hcst, p52, p57]; go_simp; try exact rfl
          exact trivial
        case finc =>
          rintro v W hX ⟨f0, f1, f2, f3, f4, f5, f6, f7, f8, f9, f10, f11, f12, f13, f14, f15, f16, f17, -⟩
          simp only [is] at f0 f1 f2 f3 f4 f5 f6 f7 f8 f9 f10 f11 f12 f13 f14 f15 f16 f17
          simp only [putAll, Act.put, List.setIfInBounds_toArray, List.set_cons_succ, List.set_cons_zero, f0, f1, f2, f3, f4, f5, f6, f7, f8, f9, f10, f11, f12, f13, f14, f15, f16, f17]
          clear f0 f1 f2 f3 f4 f5 f6 f7 f8 f9 f10 f11 f12 f13 f14 f15 f16 f17
          go_wp2_with fail
          go_meet
          exact ⟨rfl, hX⟩
      case rest =>
        obtain ⟨rfl, bel⟩ := hcut
        replace HB := Lib.hid (HB.out.trans (bel.mono HB.out.size))
        replace Sl := Lib.hid (Sl.out.later bel (Nat.le_refl _))
        replace St := Lib.hid (St.out.later bel (Nat.le_refl _))
        replace Sa := Lib.hid (Sa.out.later bel (Nat.le_refl _))
        replace Sb := Lib.hid (Sb.out.later bel (Nat.le_refl _))
        replace HG := Lib.hid (HG.out.later bel (Nat.le_refl _))
        clear bel
        clear Sa Na
        clear Sb Nb
        go_wp2_with fail
        have bel := (Below.refl wc.heap.size wc).alloc (Nat.le_refl _) (.cells #[.int .i64 x] 3)
        have Sd := Lib.hid (show At (wc.alloc (.cells #[.int .i64 x] 3)) (some ⟨wc.heap.size, 0, none⟩) (ints .i64 [x]) from At.lit _ _ _ _ _ rfl)
        generalize (wc.alloc (.cells #[.int .i64 x] 3)) = w3 at bel Sd ⊢
        replace HB := Lib.hid (HB.out.trans (bel.mono HB.out.size))
        replace Sl := Lib.hid (Sl.out.later bel (Nat.le_refl _))
        replace St := Lib.hid (St.out.later bel (Nat.le_refl _))
        replace HG := Lib.hid (HG.out.later bel (Nat.le_refl _))
        have Nd := Lib.hid (show (1 : Nat) ≤ 9223372036854775807 by decide)
        clear bel
        go_wp2_with fail
        refine (sl_eq (P := fun _ _ => True) Lu Lu.length Eu.out rfl (setEither_any A l.length c l (some ⟨wc.heap.size, 0, none⟩) 1 1 [x] _ rfl Nl.out Sl.out rfl Nd.out Sd.out)).mono ?_
        rintro e w4 ⟨A_u, c_u, rfl, hat, bel⟩
        replace HB := Lib.hid (HB.out.trans (bel.mono HB.out.size))
        replace Sl := Lib.hid (Sl.out.later bel (Nat.le_refl _))
        replace St := Lib.hid (St.out.later bel (Nat.le_refl _))
        replace Sd := Lib.hid (Sd.out.later bel (Nat.le_refl _))
        replace HG := Lib.hid (HG.out.later bel (Nat.le_refl _))
        have Su := Lib.hid hat
        clear hat
        clear bel
        clear Sd Nd
        go_wp2_with fail
        refine (val_eq (.bool false) (by rw [Ku.out]) (setHas_any A_u Lu.length c_u Lu x _ rfl Nu.out Su.out)).mono ?_
        rintro e w' ⟨rfl, rfl⟩
        go_wp2_with fail
        have bel := (Below.refl w4.heap.size w4).alloc (Nat.le_refl _) (.cells #[.int .i64 x] 3)
        have Sd := Lib.hid (show At (w4.alloc (.cells #[.int .i64 x] 3)) (some ⟨w4.heap.size, 0, none⟩) (ints .i64 [x]) from At.lit _ _ _ _ _ rfl)
        generalize (w4.alloc (.cells #[.int .i64 x] 3)) = w5 at bel Sd ⊢
        replace HB := Lib.hid (HB.out.trans (bel.mono HB.out.size))
        replace Sl := Lib.hid (Sl.out.later bel (Nat.le_refl _))
        replace St := Lib.hid (St.out.later bel (Nat.le_refl _))
        replace Su := Lib.hid (Su.out.later bel (Nat.le_refl _))
        replace HG := Lib.hid (HG.out.later bel (Nat.le_refl _))
        have Nd := Lib.hid (show (1 : Nat) ≤ 9223372036854775807 by decide)
        clear bel
        go_wp2_with fail
        refine (sl_eq (P := fun _ _ => True) Lu Lu.length Enu.out rfl (setEither_any (some ⟨w4.heap.size, 0, none⟩) 1 1 [x] A5 l.length c5 l.reverse _ rfl Nd.out Sd.out (by simp) Nl.out St.out)).mono ?_
        rintro e w6 ⟨A_p, c_p, rfl, hat, bel⟩
        replace HB := Lib.hid (HB.out.trans (bel.mono HB.out.size))
        replace Sl := Lib.hid (Sl.out.later bel (Nat.le_refl _))
        replace St := Lib.hid (St.out.later bel (Nat.le_refl _))
        replace Su := Lib.hid (Su.out.later bel (Nat.le_refl _))
        replace Sd := Lib.hid (Sd.out.later bel (Nat.le_refl _))
        replace HG := Lib.hid (HG.out.later bel (Nat.le_refl _))
        have Sp := Lib.hid hat
        clear hat
        have Np := Nu
        clear bel
        go_wp2_with fail
        refine (valB_eq (.bool true) (by simp) (ints15_any A_p Lu.length c_p Lu A_u Lu.length c_u Lu _ rfl Np.out Sp.out rfl Nu.out Su.out)).mono ?_
        rintro e w7 ⟨rfl, bel⟩
        replace HB := Lib.hid (HB.out.trans (bel.mono HB.out.size))
        replace Sl := Lib.hid (Sl.out.later bel (Nat.le_refl _))
        replace St := Lib.hid (St.out.later bel (Nat.le_refl _))
        replace Su := Lib.hid (Su.out.later bel (Nat.le_refl _))
        replace Sd := Lib.hid (Sd.out.later bel (Nat.le_refl _))
        replace Sp := Lib.hid (Sp.out.later bel (Nat.le_refl _))
        replace HG := Lib.hid (HG.out.later bel (Nat.le_refl _))
        clear bel
        clear Sd Nd
        clear Sp Np
        go_wp2_with fail
        have bel := (Below.refl w7.heap.size w7).alloc (Nat.le_refl _) (.cells #[.int .i64 x] 3)
        have Sd := Lib.hid (show At (w7.alloc (.cells #[.int .i64 x] 3)) (some ⟨w7.heap.size, 0, none⟩) (ints .i64 [x]) from At.lit _ _ _ _ _ rfl)
        generalize (w7.alloc (.cells #[.int .i64 x] 3)) = w8 at bel Sd ⊢
        replace HB := Lib.hid (HB.out.trans (bel.mono HB.out.size))
        replace Sl := Lib.hid (Sl.out.later bel (Nat.le_refl _))
        replace St := Lib.hid (St.out.later bel (Nat.le_refl _))
        replace Su := Lib.hid (Su.out.later bel (Nat.le_refl _))
        replace HG := Lib.hid (HG.out.later bel (Nat.le_refl _))
        have Nd := Lib.hid (show (1 : Nat) ≤ 9223372036854775807 by decide)
        clear bel
        go_wp2_with fail
        refine (sl_eq (P := fun _ _ => True) Lq Lq.length Eun.out rfl (setLess_any A_u Lu.length c_u Lu (some ⟨w7.heap.size, 0, none⟩) 1 1 [x] _ rfl Nu.out Su.out rfl Nd.out Sd.out)).mono ?_
        rintro e w9 ⟨A_p, c_p, rfl, hat, bel⟩
        replace HB := Lib.hid (HB.out.trans (bel.mono HB.out.size))
        replace Sl := Lib.hid (Sl.out.later bel (Nat.le_refl _))
        replace St := Lib.hid (St.out.later bel (Nat.le_refl _))
        replace Su := Lib.hid (Su.out.later bel (Nat.le_refl _))
        replace Sd := Lib.hid (Sd.out.later bel (Nat.le_refl _))
        replace HG := Lib.hid (HG.out.later bel (Nat.le_refl _))
        have Sp := Lib.hid hat
        clear hat
        have Np := Nq
        clear bel
        clear Sd Nd
        go_wp2_with fail
        have bel := (Below.refl w9.heap.size w9).alloc (Nat.le_refl _) (.cells #[.int .i64 x] 3)
        have Sd := Lib.hid (show At (w9.alloc (.cells #[.int .i64 x] 3)) (some ⟨w9.heap.size, 0, none⟩) (ints .i64 [x]) from At.lit _ _ _ _ _ rfl)
        generalize (w9.alloc (.cells #[.int .i64 x] 3)) = w10 at bel Sd ⊢
        replace HB := Lib.hid (HB.out.trans (bel.mono HB.out.size))
        replace Sl := Lib.hid (Sl.out.later bel (Nat.le_refl _))
        replace St := Lib.hid (St.out.later bel (Nat.le_refl _))
        replace Su := Lib.hid (Su.out.later bel (Nat.le_refl _))
        replace Sp := Lib.hid (Sp.out.later bel (Nat.le_refl _))
        replace HG := Lib.hid (HG.out.later bel (Nat.le_refl _))
        have Nd := Lib.hid (show (1 : Nat) ≤ 9223372036854775807 by decide)
        clear bel
        go_wp2_with fail
        refine (sl_eq (P := fun _ _ => True) Lq Lq.length Eq.out rfl (setLess_any A l.length c l (some ⟨w9.heap.size, 0, none⟩) 1 1 [x] _ rfl Nl.out Sl.out rfl Nd.out Sd.out)).mono ?_
        rintro e w11 ⟨A_r, c_r, rfl, hat, bel⟩
        replace HB := Lib.hid (HB.out.trans (bel.mono HB.out.size))
        replace Sl := Lib.hid (Sl.out.later bel (Nat.le_refl _))
        replace St := Lib.hid (St.out.later bel (Nat.le_refl _))
        replace Su := Lib.hid (Su.out.later bel (Nat.le_refl _))
        replace Sp := Lib.hid (Sp.out.later bel (Nat.le_refl _))
        replace Sd := Lib.hid (Sd.out.later bel (Nat.le_refl _))
        replace HG := Lib.hid (HG.out.later bel (Nat.le_refl _))
        have Sr := Lib.hid hat
        clear hat
        have Nr := Nq
        clear bel
        clear Sd Nd
        go_wp2_with fail
        refine (valB_eq (.bool true) (by simp) (ints15_any A_p Lq.length c_p Lq A_r Lq.length c_r Lq _ rfl Np.out Sp.out rfl Nr.out Sr.out)).mono ?_
        rintro e w12 ⟨rfl, bel⟩
        replace HB := Lib.hid (HB.out.trans (bel.mono HB.out.size))
        replace Sl := Lib.hid (Sl.out.later bel (Nat.le_refl _))
        replace St := Lib.hid (St.out.later bel (Nat.le_refl _))
        replace Su := Lib.hid (Su.out.later bel (Nat.le_refl _))
        replace Sp := Lib.hid (Sp.out.later bel (Nat.le_refl _))
        replace Sr := Lib.hid (Sr.out.later bel (Nat.le_refl _))
        replace HG := Lib.hid (HG.out.later bel (Nat.le_refl _))
        clear bel
        clear Sp Np
        clear Sr Nr
        go_wp2_with fail
        refine (val_eq .nilIface (by rw [Mu.out]; rfl) (setCheck_any A_u Lu.length c_u Lu _ rfl Nu.out Su.out)).mono ?_
        rintro e w' ⟨rfl, rfl⟩
        go_wp2_with fail
        refine (sure15 _ HG.out).mono ?_
        rintro e w13 ⟨rfl, bel⟩
        replace HB := Lib.hid (HB.out.trans (bel.mono HB.out.size))
        replace Sl := Lib.hid (Sl.out.later bel (Nat.le_refl _))
        replace St := Lib.hid (St.out.later bel (Nat.le_refl _))
        replace Su := Lib.hid (Su.out.later bel (Nat.le_refl _))
        replace HG := Lib.hid (HG.out.later bel (Nat.le_refl _))
        clear bel
        go_wp2_with fail
        go_ret
        exact ⟨rfl, HB.out⟩
set_option maxRecDepth 100000 in
set_option maxHeartbeats 4000000 in
theorem order_0neg (A : Option Addr) (c : Nat) (l : List Int) (x : Int) (w : World) (hl : l.length ≤ 60) (ha : At w A (ints .i64 l)) (hg : Glob w) (hok : SetM.ok l = false) (hx : x < 0) :
    Calls Tryd.prog 6 #[.slice A l.length c, .int .i64 x] w fun e w' => e = .returned (.bool true) ∧ Below w.heap.size w w' := by
  have HG := Lib.hid hg
  have Sl := Lib.hid ha
  have Nl := Lib.hid (show l.length ≤ 9223372036854775807 by omega)
  have HOK := Lib.hid hok
  have HOKr := Lib.hid (show SetM.ok l.reverse = false by rw [SetM.ok_reverse, hok])
  obtain ⟨L, hL⟩ : ∃ L, SetM.elems (SetM.bitsOf l) = L := ⟨_, rfl⟩
  have HL := Lib.hid hL
  have HLr := Lib.hid (show SetM.elems (SetM.bitsOf l.reverse) = L by rw [SetM.bitsOf_reverse, hL])
  have NL := Lib.hid (hL ▸ elems_len _ : L.length ≤ 9223372036854775807)
  obtain ⟨v, hv⟩ : ∃ v, SetM.bitsOf l = v := ⟨_, rfl⟩
  have HV := Lib.hid hv
  have HVr := Lib.hid (show SetM.bitsOf l.reverse = v by rw [SetM.bitsOf_reverse, hv])
  obtain ⟨Lu, hLu⟩ : ∃ L, SetM.elems (SetM.op 0 (SetM.bitsOf l) (SetM.bitsOf [x])) = L := ⟨_, rfl⟩
  obtain ⟨Lq, hLq⟩ : ∃ L, SetM.elems (SetM.op 2 (SetM.bitsOf l) (SetM.bitsOf [x])) = L := ⟨_, rfl⟩
  have Nu := Lib.hid (hLu ▸ elems_len _ : Lu.length ≤ 9223372036854775807)
  have Nq := Lib.hid (hLq ▸ elems_len _ : Lq.length ≤ 9223372036854775807)
  have hb1 := SetM.bitsOf_lt l
  have hb2 := SetM.bitsOf_lt [x]
  have Eu := Lib.hid hLu
  have Eq := Lib.hid hLq
  have Enu := Lib.hid (show SetM.elems (SetM.op 0 (SetM.bitsOf [x]) (SetM.bitsOf l.reverse)) = Lu by rw [SetM.bitsOf_reverse, SetM.op0_comm hb1 hb2, hLu])
  have Eun := Lib.hid (show SetM.elems (SetM.op 2 (SetM.bitsOf Lu) (SetM.bitsOf [x])) = Lq by rw [← hLu, SetM.bitsOf_elems (SetM.op_lt 0 hb1 hb2), SetM.parts4 hb1 hb2, hLq])
  have Ku := Lib.hid (show SetM.has Lu x = false by rw [← hLu, SetM.has_put]; simp [SetM.can]; omega)
  have Mu := Lib.hid (show SetM.may Lu = true by rw [← hLu]; exact SetM.may_elems _)
  clear ha hg hok hL hv hLu hLq hb1 hb2
  obtain ⟨B, hB⟩ : ∃ B, w.heap.size = B := ⟨_, rfl⟩
  have HBS := Lib.hid hB
  clear hB
  go_enter Tryd.func6, Tryd.ntmps6
  go_wp2_with fail
  go_loopw [5, 6] (fun s i wr => ∃ (k : Nat) (A : Option Addr) (c : Nat), k ≤ l.length ∧ i = .int .i64 ((k : Int) - 1) ∧ s = .slice A (l.length - k) c ∧ Own wr B 3 1 A (l.length - k) c (ints .i64 (l.drop k).reverse) ∧ Below B w wr) (fun _ i _ => (intOf i + 1).toNat)
  case atStart => exact ⟨l.length, none, 0, Nat.le_refl _, rfl, by rw [Nat.sub_self], by rw [Nat.sub_self, List.drop_of_length_le (Nat.le_refl _)]; exact Own.none_ _ _ _ _, Below.refl _ _⟩
  case round =>
    obtain ⟨k, A5, c5, hk, rfl, rfl, hown, hbel⟩ := hrel
    have HO := Lib.hid hown
    have HBL := Lib.hid hbel
    clear hown hbel
    by_cases h0 : 1 ≤ k
    · obtain ⟨j, rfl⟩ : ∃ j, k = j + 1 := ⟨k - 1, by omega⟩
      obtain ⟨b, o, rfl, hc⟩ := (Sl.out.later (HBL.out) (Nat.le_of_eq HBS.out)).int j (by omega)
      have hdr := Lib.hid (drop_rev (l := l) (k := j) (by omega))
      obtain ⟨y, hy⟩ : ∃ y, l.getD j 0 = y := ⟨_, rfl⟩
      have hlen : l.length - (j + 1) + 1 = l.length - j := by omega
      obtain ⟨m, hm⟩ : ∃ m, l.length - (j + 1) = m := ⟨_, rfl⟩
      rw [hm] at hlen HO ⊢
      have HLN := Lib.hid hlen
      have hm2 : m ≤ 60 := by omega
      rw [hy] at hc
      have HY := Lib.hid hy
      have hj : ((j + 1 : Nat) : Int) - 1 = (j : Int) := by omega
      rw [hj]
      clear hm hlen hy hj
      have hz : B ≤ (wr.alloc (.cells #[.int .i64 y] 3)).heap.size := by have := HBL.out.size; have := HBS.out; simp; omega
      have HZ := Lib.hid hz
      clear hz
      go_wp2_with (at_builtin; refine wpList_app rfl elt_int B (.tmp 24) (.tmp 29) rfl (ints .i64 (l.drop (j + 1)).reverse) rfl (HO.out.alloc _) [.int .i64 y] rfl (show At _ _ [.int .i64 y] from At.lit _ _ _ _ _ rfl) rfl (by intro u hu; simp at hu; subst hu; rfl) (by unfold maxLen; omega) (by omega) HZ.out ?_; intro A' c' w1 own1 g1 _; have B1 := (HBL.out.alloc (by have := HBL.out.size; have := HBS.out; omega) _).grown g1 HZ.out (fun k hk => (HO.out.lt k hk).1); have HO1 := Lib.hid own1; have HB1 := Lib.hid B1; clear own1 g1 B1)
      exact ⟨⟨j, A', c', by omega, by simp, by rw [← HLN.out], by rw [← HLN.out, hdr.out, HY.out]; simpa [ints] using HO1.out, HB1.out⟩, by simp only [intOf]; omega⟩
    · obtain rfl : k = 0 := by omega
      rw [Nat.sub_zero, List.drop_zero] at HO
      rw [Nat.sub_zero]
      have St := Lib.hid HO.out.at_
      have HB := Lib.hid (show Below w.heap.size w wr by rw [HBS.out]; exact HBL.out)
      replace Sl := Lib.hid (Sl.out.later HB.out (Nat.le_refl _))
      replace HG := Lib.hid (HG.out.later HB.out (Nat.le_refl _))
      clear HO HBL hk h0
      go_wp2_with fail
      refine (of_bad HOK.out (setOf_any A l.length c l _ rfl Nl.out Sl.out)).mono ?_
      rintro e w1 ⟨A_a, c_a, rfl, bel⟩
      replace HB := Lib.hid (HB.out.trans (bel.mono HB.out.size))
      replace Sl := Lib.hid (Sl.out.later bel (Nat.le_refl _))
      replace St := Lib.hid (St.out.later bel (Nat.le_refl _))
      replace HG := Lib.hid (HG.out.later bel (Nat.le_refl _))
      clear bel
      have Sa := Lib.hid (show At w1 A_a (ints .i64 []) from At.nil _ _)
      have Na := Lib.hid (show (0 : Nat) ≤ 9223372036854775807 by decide)
      go_wp2_with fail
      refine (of_bad HOKr.out (setOf_any A5 l.length c5 l.reverse _ (by simp) Nl.out St.out)).mono ?_
      rintro e w2 ⟨A_b, c_b, rfl, bel⟩
      replace HB := Lib.hid (HB.out.trans (bel.mono HB.out.size))
      replace Sl := Lib.hid (Sl.out.later bel (Nat.le_refl _))
      replace St := Lib.hid (St.out.later bel (Nat.le_refl _))
      replace Sa := Lib.hid (Sa.out.later bel (Nat.le_refl _))
      replace HG := Lib.hid (HG.out.later bel (Nat.le_refl _))
      clear bel
      have Sb := Lib.hid (show At w2 A_b (ints .i64 []) from At.nil _ _)
      have Nb := Lib.hid (show (0 : Nat) ≤ 9223372036854775807 by decide)
      go_upto_region 10 with (fail)
      go_cut [58] (fun cv wx => cv = .bool false ∧ Below w2.heap.size w2 wx)
      case first =>
        go_wp2_with fail
        refine wp_region_below [is ?c0, is ?c1, is ?c2, is ?c3, is ?c4, is ?c5, is ?c6, is ?c7, is (.bool true), is ?c9, is ?c10, is ?c11, is ?c12, is (.int .u64 (v : Nat)), is ?c14, is (.int .u64 (v : Nat)), is ?c16, is ?c17]
          [⟨[], [8], none⟩, ⟨[(41, 0)], [], none⟩, ⟨[], [10], none⟩, ⟨[(43, 2)], [], none⟩, ⟨[(42, 1), (44, 3)], [], none⟩, ⟨[(45, 4)], [], none⟩, ⟨[(46, 5)], [7], some (46, false)⟩, ⟨[(46, 5)], [9], some (46, false)⟩, ⟨[(47, 6), (48, 7), (46, 5)], [], some (46, false)⟩, ⟨[(49, 8), (46, 5)], [], some (46, false)⟩, ⟨[(46, 5), (50, 9)], [], none⟩, ⟨[(51, 10)], [], none⟩, ⟨[(52, 11)], [0], some (52, false)⟩, ⟨[(53, 12), (52, 11)], [], some (52, false)⟩, ⟨[(52, 11)], [5], some (52, false)⟩, ⟨[(55, 14), (52, 11)], [], some (52, false)⟩, ⟨[(54, 13), (56, 15), (52, 11)], [], some (52, false)⟩, ⟨[(52, 11), (57, 16)], [], none⟩] (by kernel_rfl) (by kernel_rfl) (by kernel_rfl) (by kernel_rfl) (by kernel_rfl) ?monoc ?stepsc ?finc
        case monoc => exact ⟨mono_eq _, mono_eq _, mono_eq _, mono_eq _, mono_eq _, mono_eq _, mono_eq _, mono_eq _, mono_eq _, mono_eq _, mono_eq _, mono_eq _, mono_eq _, mono_eq _, mono_eq _, mono_eq _, mono_eq _, mono_eq _, trivial⟩
        case stepsc =>
          refine ⟨fun ρ W ⟨hcst, hglb, hfun⟩ hX hp ho => ?_, ?_⟩ -- 0: slot 41 := Op.move t8
          · obtain ⟨o8, -⟩ := ho
            change ρ (.tmp 8) = _ at o8
            refine turn_plain (ok_is ?_ rfl)
            simp only [execOp, o8]; go_simp; try exact rfl
          refine ⟨fun ρ W ⟨hcst, hglb, hfun⟩ hX hp ho => ?_, ?_⟩ -- 1: slot 42 := Op.binOp BinOp.eql 24 t41 (const Value.nilIface) 24
          · obtain ⟨p41, -⟩ := hp
            change ρ (.tmp 41) = _ at p41
            refine turn_plain (ok_is ?_ rfl)
            simp only [execOp, hcst, p41]; go_simp; try exact rfl
          refine ⟨fun ρ W ⟨hcst, hglb, hfun⟩ hX hp ho => ?_, ?_⟩ -- 2: slot 43 := Op.move t10
          · obtain ⟨o10, -⟩ := ho
            change ρ (.tmp 10) = _ at o10
            refine turn_plain (ok_is ?_ rfl)
            simp only [execOp, o10]; go_simp; try exact rfl
          refine ⟨fun ρ W ⟨hcst, hglb, hfun⟩ hX hp ho => ?_, ?_⟩ -- 3: slot 44 := Op.binOp BinOp.eql 24 t43 (const Value.nilIface) 24
          · obtain ⟨p43, -⟩ := hp
            change ρ (.tmp 43) = _ at p43
            refine turn_plain (ok_is ?_ rfl)
            simp only [execOp, hcst, p43]; go_simp; try exact rfl
          refine ⟨fun ρ W ⟨hcst, hglb, hfun⟩ hX hp ho => ?_, ?_⟩ -- 4: slot 45 := Op.binOp BinOp.neq 4 t42 t44 4
          · obtain ⟨p42, p44, -⟩ := hp
            change ρ (.tmp 42) = _ at p42
            change ρ (.tmp 44) = _ at p44
            refine turn_plain (ok_is ?_ rfl)
            simp only [execOp, p42, p44]; go_simp; try exact rfl
          refine ⟨fun ρ W ⟨hcst, hglb, hfun⟩ hX hp ho => ?_, ?_⟩ -- 5: slot 46 := Op.move t45
          · obtain ⟨p45, -⟩ := hp
            change ρ (.tmp 45) = _ at p45
            refine turn_plain (ok_is ?_ rfl)
            simp only [execOp, p45]; go_simp; try exact rfl
          refine ⟨fun ρ W ⟨hcst, hglb, hfun⟩ hX hp ho => ?_, ?_⟩ -- 6: slot 47 := Op.move t7   [guarded: some (5, false)]
          · obtain ⟨p46, -⟩ := hp
            change ρ (.tmp 46) = _ at p46
            obtain ⟨o7, -⟩ := ho
            change ρ (.tmp 7) = _ at o7
            refine turn_yes p46 (ok_is ?_ rfl)
            simp only [execOp, o7]; go_simp; try exact rfl
          refine ⟨fun ρ W ⟨hcst, hglb, hfun⟩ hX hp ho => ?_, ?_⟩ -- 7: slot 48 := Op.move t9   [guarded: some (5, false)]
          · obtain ⟨p46, -⟩ := hp
            change ρ (.tmp 46) = _ at p46
            obtain ⟨o9, -⟩ := ho
            change ρ (.tmp 9) = _ at o9
            refine turn_yes p46 (ok_is ?_ rfl)
            simp only [execOp, o9]; go_simp; try exact rfl
          refine ⟨fun ρ W ⟨hcst, hglb, hfun⟩ hX hp ho => ?_, ?_⟩ -- 8: slot 49 := Op.call { value (Operand.func 17), args := #[t47, t48], argTypes := #[31, 31] }   [guarded
          · obtain ⟨p47, p48, p46, -⟩ := hp
            change ρ (.tmp 47) = _ at p47
            change ρ (.tmp 48) = _ at p48
            change ρ (.tmp 46) = _ at p46
            have hW := (Below.refl _ _).drew.trans hX
            refine turn_yes p46 ?_
            have ce := @enter_of Tryd.prog 17 _ Tryd.func17 (by kernel_rfl) (by kernel_rfl)
            refine ok_call (op_call2 hfun ce (by exact rfl) p47 p48) ?_
            refine (valB_eq (.bool true) (by simp) (ints15_any A_a 0 c_a [] A_b 0 c_b [] _ rfl Na.out (Sa.out.later (hW) (Nat.le_refl _)) rfl Nb.out (Sb.out.later (hW) (Nat.le_refl _)))).mono ?_
            rintro e W' ⟨rfl, bel⟩
            exact ⟨_, rfl, bel, rfl⟩
          refine ⟨fun ρ W ⟨hcst, hglb, hfun⟩ hX hp ho => ?_, ?_⟩ -- 9: slot 50 := Op.unOp UnOp.not 4 t49   [guarded: some (5, false)]
          · obtain ⟨p49, p46, -⟩ := hp
            change ρ (.tmp 49) = _ at p49
            change ρ (.tmp 46) = _ at p46
            refine turn_yes p46 (ok_is ?_ rfl)
            simp only [execOp, p49]; go_simp; try exact rfl
          refine ⟨fun ρ W ⟨hcst, hglb, hfun⟩ hX hp ho => ?_, ?_⟩ -- 10: slot 51 := Op.pick t46 (const (Value.bool true)) t50
          · obtain ⟨p46, p50, -⟩ := hp
            change ρ (.tmp 46) = _ at p46
            change ρ (.tmp 50) = _ at p50
            refine turn_plain (ok_is ?_ rfl)
            simp only [execOp, hcst, p46, p50]; go_simp; try exact rfl
          refine ⟨fun ρ W ⟨hcst, hglb, hfun⟩ hX hp ho => ?_, ?_⟩ -- 11: slot 52 := Op.move t51
          · obtain ⟨p51, -⟩ := hp
            change ρ (.tmp 51) = _ at p51
            refine turn_plain (ok_is ?_ rfl)
            simp only [execOp, p51]; go_simp; try exact rfl
          refine ⟨fun ρ W ⟨hcst, hglb, hfun⟩ hX hp ho => ?_, ?_⟩ -- 12: slot 53 := Op.move t0   [guarded: some (11, false)]
          · obtain ⟨p52, -⟩ := hp
            change ρ (.tmp 52) = _ at p52
            obtain ⟨o0, -⟩ := ho
            change ρ (.tmp 0) = _ at o0
            refine turn_yes p52 (ok_is ?_ rfl)
            simp only [execOp, o0]; go_simp; try exact rfl
          refine ⟨fun ρ W ⟨hcst, hglb, hfun⟩ hX hp ho => ?_, ?_⟩ -- 13: slot 54 := Op.call { value (Operand.func 26), args := #[t53], argTypes := #[31] }   [guarded: some (1
          · obtain ⟨p53, p52, -⟩ := hp
            change ρ (.tmp 53) = _ at p53
            change ρ (.tmp 52) = _ at p52
            have hW := (Below.refl _ _).drew.trans hX
            refine turn_yes p52 ?_
            have ce := @enter_of Tryd.prog 26 _ Tryd.func26 (by kernel_rfl) (by kernel_rfl)
            refine ok_call (op_call1 hfun ce (by exact rfl) p53) ?_
            refine (val_eq (.int .u64 (v : Nat)) (by rw [HV.out]) (setBits_any A l.length c l _ rfl Nl.out (Sl.out.later (hW) (Nat.le_refl _)))).mono ?_
            rintro e W' ⟨rfl, rfl⟩
            exact ⟨_, rfl, Below.refl _ _, rfl⟩
          refine ⟨fun ρ W ⟨hcst, hglb, hfun⟩ hX hp ho => ?_, ?_⟩ -- 14: slot 55 := Op.move t5   [guarded: some (11, false)]
          · obtain ⟨p52, -⟩ := hp
            change ρ (.tmp 52) = _ at p52
            obtain ⟨o5, -⟩ := ho
            change ρ (.tmp 5) = _ at o5
            refine turn_yes p52 (ok_is ?_ rfl)
            simp only [execOp, o5]; go_simp; try exact rfl
          refine ⟨fun ρ W ⟨hcst, hglb, hfun⟩ hX hp ho => ?_, ?_⟩ -- 15: slot 56 := Op.call { value (Operand.func 26), args := #[t55], argTypes := #[31] }   [guarded: some (1
          · obtain ⟨p55, p52, -⟩ := hp
            change ρ (.tmp 55) = _ at p55
            change ρ (.tmp 52) = _ at p52
            have hW := (Below.refl _ _).drew.trans hX
            refine turn_yes p52 ?_
            have ce := @enter_of Tryd.prog 26 _ Tryd.func26 (by kernel_rfl) (by kernel_rfl)
            refine ok_call (op_call1 hfun ce (by exact rfl) p55) ?_
            refine (val_eq (.int .u64 (v : Nat)) (by rw [HVr.out]) (setBits_any A5 l.length c5 l.reverse _ (by simp) Nl.out (St.out.later (hW) (Nat.le_refl _)))).mono ?_
            rintro e W' ⟨rfl, rfl⟩
            exact ⟨_, rfl, Below.refl _ _, rfl⟩
          refine ⟨fun ρ W ⟨hcst, hglb, hfun⟩ hX hp ho => ?_, ?_⟩ -- 16: slot 57 := Op.binOp BinOp.neq 43 t54 t56 43   [guarded: some (11, false)]
          · obtain ⟨p54, p56, p52, -⟩ := hp
            change ρ (.tmp 54) = _ at p54
            change ρ (.tmp 56) = _ at p56
            change ρ (.tmp 52) = _ at p52
            refine turn_yes p52 (ok_is ?_ rfl)
            simp only [execOp, p54, p56]; go_simp; try exact rfl
          refine ⟨fun ρ W ⟨hcst, hglb, hfun⟩ hX hp ho => ?_, ?_⟩ -- 17: slot 58 := Op.pick t52 (const (Value.bool true)) t57
          · obtain ⟨p52, p57, -⟩ := hp
            change ρ (.tmp 52) = _ at p52
            change ρ (.tmp 57) = _ at p57
            refine turn_plain (ok_is ?_ rfl)
            simp only [execOp, hcst, p52, p57]; go_simp; try exact rfl
          exact trivial
        case finc =>
          rintro v W hX ⟨f0, f1, f2, f3, f4, f5, f6, f7, f8, f9, f10, f11, f12, f13, f14, f15, f16, f17, -⟩
          simp only [is] at f0 f1 f2 f3 f4 f5 f6 f7 f8 f9 f10 f11 f12 f13 f14 f15 f16 f17
          simp only [putAll, Act.put, List.setIfInBounds_toArray, List.set_cons_succ, List.set_cons_zero, f0, f1, f2, f3, f4, f5, f6, f7, f8, f9, f10, f11, f12, f13, f14, f15, f16, f17]
          clear f0 f1 f2 f3 f4 f5 f6 f7 f8 f9 f10 f11 f12 f13 f14 f15 f16 f17
          go_wp2_with fail
          go_meet
          exact ⟨rfl, hX⟩
      case rest =>
        obtain ⟨rfl, bel⟩ := hcut
        replace HB := Lib.hid (HB.out.trans (bel.mono HB.out.size))
        replace Sl := Lib.hid (Sl.out.later bel (Nat.le_refl _))
        replace St := Lib.hid (St.out.later bel (Nat.le_refl _))
        replace Sa := Lib.hid (Sa.out.later bel (Nat.le_refl _))
        replace Sb := Lib.hid (Sb.out.later bel (Nat.le_refl _))
        replace HG := Lib.hid (HG.out.later bel (Nat.le_refl _))
        clear bel
        clear Sa Na
        clear Sb Nb
        go_wp2_with fail
        have bel := (Below.refl wc.heap.size wc).alloc (Nat.le_refl _) (.cells #[.int .i64 x] 3)
        have Sd := Lib.hid (show At (wc.alloc (.cells #[.int .i64 x] 3)) (some ⟨wc.heap.size, 0, none⟩) (ints .i64 [x]) from At.lit _ _ _ _ _ rfl)
        generalize (wc.alloc (.cells #[.int .i64 x] 3)) = w3 at bel Sd ⊢
        replace HB := Lib.hid (HB.out.trans (bel.mono HB.out.size))
        replace Sl := Lib.hid (Sl.out.later bel (Nat.le_refl _))
        replace St := Lib.hid (St.out.later bel (Nat.le_refl _))
        replace HG := Lib.hid (HG.out.later bel (Nat.le_refl _))
        have Nd := Lib.hid (show (1 : Nat) ≤ 9223372036854775807 by decide)
        clear bel
        go_wp2_with fail
        refine (sl_eq (P := fun _ _ => True) Lu Lu.length Eu.out rfl (setEither_any A l.length c l (some ⟨wc.heap.size, 0, none⟩) 1 1 [x] _ rfl Nl.out Sl.out rfl Nd.out Sd.out)).mono ?_
        rintro e w4 ⟨A_u, c_u, rfl, hat, bel⟩
        replace HB := Lib.hid (HB.out.trans (bel.mono HB.out.size))
        replace Sl := Lib.hid (Sl.out.later bel (Nat.le_refl _))
        replace St := Lib.hid (St.out.later bel (Nat.le_refl _))
        replace Sd := Lib.hid (Sd.out.later bel (Nat.le_refl _))
        replace HG := Lib.hid (HG.out.later bel (Nat.le_refl _))
        have Su := Lib.hid hat
        clear hat
        clear bel
        clear Sd Nd
        go_wp2_with fail
        refine (val_eq (.bool false) (by rw [Ku.out]) (setHas_any A_u Lu.length c_u Lu x _ rfl Nu.out Su.out)).mono ?_
        rintro e w' ⟨rfl, rfl⟩
        go_wp2_with fail
        have bel := (Below.refl w4.heap.size w4).alloc (Nat.le_refl _) (.cells #[.int .i64 x] 3)
        have Sd := Lib.hid (show At (w4.alloc (.cells #[.int .i64 x] 3)) (some ⟨w4.heap.size, 0, none⟩) (ints .i64 [x]) from At.lit _ _ _ _ _ rfl)
        generalize (w4.alloc (.cells #[.int .i64 x] 3)) = w5 at bel Sd ⊢
        replace HB := Lib.hid (HB.out.trans (bel.mono HB.out.size))
        replace Sl := Lib.hid (Sl.out.later bel (Nat.le_refl _))
        replace St := Lib.hid (St.out.later bel (Nat.le_refl _))
        replace Su := Lib.hid (Su.out.later bel (Nat.le_refl _))
        replace HG := Lib.hid (HG.out.later bel (Nat.le_refl _))
        have Nd := Lib.hid (show (1 : Nat) ≤ 9223372036854775807 by decide)
        clear bel
        go_wp2_with fail
        refine (sl_eq (P := fun _ _ => True) Lu Lu.length Enu.out rfl (setEither_any (some ⟨w4.heap.size, 0, none⟩) 1 1 [x] A5 l.length c5 l.reverse _ rfl Nd.out Sd.out (by simp) Nl.out St.out)).mono ?_
        rintro e w6 ⟨A_p, c_p, rfl, hat, bel⟩
        replace HB := Lib.hid (HB.out.trans (bel.mono HB.out.size))
        replace Sl := Lib.hid (Sl.out.later bel (Nat.le_refl _))
        replace St := Lib.hid (St.out.later bel (Nat.le_refl _))
        replace Su := Lib.hid (Su.out.later bel (Nat.le_refl _))
        replace Sd := Lib.hid (Sd.out.later bel (Nat.le_refl _))
        replace HG := Lib.hid (HG.out.later bel (Nat.le_refl _))
        have Sp := Lib.hid hat
        clear hat
        have Np := Nu
        clear bel
        go_wp2_with fail
        refine (valB_eq (.bool true) (by simp) (ints15_any A_p Lu.length c_p Lu A_u Lu.length c_u Lu _ rfl Np.out Sp.out rfl Nu.out Su.out)).mono ?_
        rintro e w7 ⟨rfl, bel⟩
        replace HB := Lib.hid (HB.out.trans (bel.mono HB.out.size))
        replace Sl := Lib.hid (Sl.out.later bel (Nat.le_refl _))
        replace St := Lib.hid (St.out.later bel (Nat.le_refl _))
        replace Su := Lib.hid (Su.out.later bel (Nat.le_refl _))
        replace Sd := Lib.hid (Sd.out.later bel (Nat.le_refl _))
        replace Sp := Lib.hid (Sp.out.later bel (Nat.le_refl _))
        replace HG := Lib.hid (HG.out.later bel (Nat.le_refl _))
        clear bel
        clear Sd Nd
        clear Sp Np
        go_wp2_with fail
        have bel := (Below.refl w7.heap.size w7).alloc (Nat.le_refl _) (.cells #[.int .i64 x] 3)
        have Sd := Lib.hid (show At (w7.alloc (.cells #[.int .i64 x] 3)) (some ⟨w7.heap.size, 0, none⟩) (ints .i64 [x]) from At.lit _ _ _ _ _ rfl)
        generalize (w7.alloc (.cells #[.int .i64 x] 3)) = w8 at bel Sd ⊢
        replace HB := Lib.hid (HB.out.trans (bel.mono HB.out.size))
        replace Sl := Lib.hid (Sl.out.later bel (Nat.le_refl _))
        replace St := Lib.hid (St.out.later bel (Nat.le_refl _))
        replace Su := Lib.hid (Su.out.later bel (Nat.le_refl _))
        replace HG := Lib.hid (HG.out.later bel (Nat.le_refl _))
        have Nd := Lib.hid (show (1 : Nat) ≤ 9223372036854775807 by decide)
        clear bel
        go_wp2_with fail
        refine (sl_eq (P := fun _ _ => True) Lq Lq.length Eun.out rfl (setLess_any A_u Lu.length c_u Lu (some ⟨w7.heap.size, 0, none⟩) 1 1 [x] _ rfl Nu.out Su.out rfl Nd.out Sd.out)).mono ?_
        rintro e w9 ⟨A_p, c_p, rfl, hat, bel⟩
        replace HB := Lib.hid (HB.out.trans (bel.mono HB.out.size))
        replace Sl := Lib.hid (Sl.out.later bel (Nat.le_refl _))
        replace St := Lib.hid (St.out.later bel (Nat.le_refl _))
        replace Su := Lib.hid (Su.out.later bel (Nat.le_refl _))
        replace Sd := Lib.hid (Sd.out.later bel (Nat.le_refl _))
        replace HG := Lib.hid (HG.out.later bel (Nat.le_refl _))
        have Sp := Lib.hid hat
        clear hat
        have Np := Nq
        clear bel
        clear Sd Nd
        go_wp2_with fail
        have bel := (Below.refl w9.heap.size w9).alloc (Nat.le_refl _) (.cells #[.int .i64 x] 3)
        have Sd := Lib.hid (show At (w9.alloc (.cells #[.int .i64 x] 3)) (some ⟨w9.heap.size, 0, none⟩) (ints .i64 [x]) from At.lit _ _ _ _ _ rfl)
        generalize (w9.alloc (.cells #[.int .i64 x] 3)) = w10 at bel Sd ⊢
        replace HB := Lib.hid (HB.out.trans (bel.mono HB.out.size))
        replace Sl := Lib.hid (Sl.out.later bel (Nat.le_refl _))
        replace St := Lib.hid (St.out.later bel (Nat.le_refl _))
        replace Su := Lib.hid (Su.out.later bel (Nat.le_refl _))
        replace Sp := Lib.hid (Sp.out.later bel (Nat.le_refl _))
        replace HG := Lib.hid (HG.out.later bel (Nat.le_refl _))
        have Nd := Lib.hid (show (1 : Nat) ≤ 9223372036854775807 by decide)
        clear bel
        go_wp2_with fail
        refine (sl_eq (P := fun _ _ => True) Lq Lq.length Eq.out rfl (setLess_any A l.length c l (some ⟨w9.heap.size, 0, none⟩) 1 1 [x] _ rfl Nl.out Sl.out rfl Nd.out Sd.out)).mono ?_
        rintro e w11 ⟨A_r, c_r, rfl, hat, bel⟩
        replace HB := Lib.hid (HB.out.trans (bel.mono HB.out.size))
        replace Sl := Lib.hid (Sl.out.later bel (Nat.le_refl _))
        replace St := Lib.hid (St.out.later bel (Nat.le_refl _))
        replace Su := Lib.hid (Su.out.later bel (Nat.le_refl _))
        replace Sp := Lib.hid (Sp.out.later bel (Nat.le_refl _))
        replace Sd := Lib.hid (Sd.out.later bel (Nat.le_refl _))
        replace HG := Lib.hid (HG.out.later bel (Nat.le_refl _))
        have Sr := Lib.hid hat
        clear hat
        have Nr := Nq
        clear bel
        clear Sd Nd
        go_wp2_with fail
        refine (valB_eq (.bool true) (by simp) (ints15_any A_p Lq.length c_p Lq A_r Lq.length c_r Lq _ rfl Np.out Sp.out rfl Nr.out Sr.out)).mono ?_
        rintro e w12 ⟨rfl, bel⟩
        replace HB := Lib.hid (HB.out.trans (bel.mono HB.out.size))
        replace Sl := Lib.hid (Sl.out.later bel (Nat.le_refl _))
        replace St := Lib.hid (St.out.later bel (Nat.le_refl _))
        replace Su := Lib.hid (Su.out.later bel (Nat.le_refl _))
        replace Sp := Lib.hid (Sp.out.later bel (Nat.le_refl _))
        replace Sr := Lib.hid (Sr.out.later bel (Nat.le_refl _))
        replace HG := Lib.hid (HG.out.later bel (Nat.le_refl _))
        clear bel
        clear Sp Np
        clear Sr Nr
        go_wp2_with fail
        refine (val_eq .nilIface (by rw [Mu.out]; rfl) (setCheck_any A_u Lu.length c_u Lu _ rfl Nu.out Su.out)).mono ?_
        rintro e w' ⟨rfl, rfl⟩
        go_wp2_with fail
        refine (sure15 _ HG.out).mono ?_
        rintro e w13 ⟨rfl, bel⟩
        replace HB := Lib.hid (HB.out.trans (bel.mono HB.out.size))
        replace Sl := Lib.hid (Sl.out.later bel (Nat.le_refl _))
        replace St := Lib.hid (St.out.later bel (Nat.le_refl _))
        replace Su := Lib.hid (Su.out.later bel (Nat.le_refl _))
        replace HG := Lib.hid (HG.out.later bel (Nat.le_refl _))
        clear bel
        go_wp2_with fail
        go_ret
        exact ⟨rfl, HB.out⟩
set_option maxRecDepth 100000 in
set_option maxHeartbeats 4000000 in
theorem order_0in (A : Option Addr) (c : Nat) (l : List Int) (x : Int) (w : World) (hl : l.length ≤ 60) (ha : At w A (ints .i64 l)) (hg : Glob w) (hok : SetM.ok l = false) (hx : 0 ≤ x ∧ x < 64) :
    Calls Tryd.prog 6 #[.slice A l.length c, .int .i64 x] w fun e w' => e = .returned (.bool true) ∧ Below w.heap.size w w' := by
  have HG := Lib.hid hg
  have Sl := Lib.hid ha
  have Nl := Lib.hid (show l.length ≤ 9223372036854775807 by omega)
  have HOK := Lib.hid hok
  have HOKr := Lib.hid (show SetM.ok l.reverse = false by rw [SetM.ok_reverse, hok])
  obtain ⟨L, hL⟩ : ∃ L, SetM.elems (SetM.bitsOf l) = L := ⟨_, rfl⟩
  have HL := Lib.hid hL
  have HLr := Lib.hid (show SetM.elems (SetM.bitsOf l.reverse) = L by rw [SetM.bitsOf_reverse, hL])
  have NL := Lib.hid (hL ▸ elems_len _ : L.length ≤ 9223372036854775807)
  obtain ⟨v, hv⟩ : ∃ v, SetM.bitsOf l = v := ⟨_, rfl⟩
  have HV := Lib.hid hv
  have HVr := Lib.hid (show SetM.bitsOf l.reverse = v by rw [SetM.bitsOf_reverse, hv])
  obtain ⟨Lu, hLu⟩ : ∃ L, SetM.elems (SetM.op 0 (SetM.bitsOf l) (SetM.bitsOf [x])) = L := ⟨_, rfl⟩
  obtain ⟨Lq, hLq⟩ : ∃ L, SetM.elems (SetM.op 2 (SetM.bitsOf l) (SetM.bitsOf [x])) = L := ⟨_, rfl⟩
  have Nu := Lib.hid (hLu ▸ elems_len _ : Lu.length ≤ 9223372036854775807)
  have Nq := Lib.hid (hLq ▸ elems_len _ : Lq.length ≤ 9223372036854775807)
  have hb1 := SetM.bitsOf_lt l
  have hb2 := SetM.bitsOf_lt [x]
  have Eu := Lib.hid hLu
  have Eq := Lib.hid hLq
  have Enu := Lib.hid (show SetM.elems (SetM.op 0 (SetM.bitsOf [x]) (SetM.bitsOf l.reverse)) = Lu by rw [SetM.bitsOf_reverse, SetM.op0_comm hb1 hb2, hLu])
  have Eun := Lib.hid (show SetM.elems (SetM.op 2 (SetM.bitsOf Lu) (SetM.bitsOf [x])) = Lq by rw [← hLu, SetM.bitsOf_elems (SetM.op_lt 0 hb1 hb2), SetM.parts4 hb1 hb2, hLq])
  have Ku := Lib.hid (show SetM.has Lu x = true by rw [← hLu, SetM.has_put]; exact (SetM.can_iff x).2 hx)
  have Mu := Lib.hid (show SetM.may Lu = true by rw [← hLu]; exact SetM.may_elems _)
  clear ha hg hok hL hv hLu hLq hb1 hb2
  obtain ⟨B, hB⟩ : ∃ B, w.heap.size = B := ⟨_, rfl⟩
  have HBS := Lib.hid hB
  clear hB
  obtain ⟨hx1, hx2⟩ := hx
  have hd : decide (x < 64) = true := decide_eq_true hx2
  go_enter Tryd.func6, Tryd.ntmps6
  go_wp2_with fail
  go_loopw [5, 6] (fun s i wr => ∃ (k : Nat) (A : Option Addr) (c : Nat), k ≤ l.length ∧ i = .int .i64 ((k : Int) - 1) ∧ s = .slice A (l.length - k) c ∧ Own wr B 3 1 A (l.length - k) c (ints .i64 (l.drop k).reverse) ∧ Below B w wr) (fun _ i _ => (intOf i + 1).toNat)
  case atStart => exact ⟨l.length, none, 0, Nat.le_refl _, rfl, by rw [Nat.sub_self], by rw [Nat.sub_self, List.drop_of_length_le (Nat.le_refl _)]; exact Own.none_ _ _ _ _, Below.refl _ _⟩
  case round =>
    obtain ⟨k, A5, c5, hk, rfl, rfl, hown, hbel⟩ := hrel
    have HO := Lib.hid hown
    have HBL := Lib.hid hbel
    clear hown hbel
    by_cases h0 : 1 ≤ k
    · obtain ⟨j, rfl⟩ : ∃ j, k = j + 1 := ⟨k - 1, by omega⟩
      obtain ⟨b, o, rfl, hc⟩ := (Sl.out.later (HBL.out) (Nat.le_of_eq HBS.out)).int j (by omega)
      have hdr := Lib.hid (drop_rev (l := l) (k := j) (by omega))
      obtain ⟨y, hy⟩ : ∃ y, l.getD j 0 = y := ⟨_, rfl⟩
      have hlen : l.length - (j + 1) + 1 = l.length - j := by omega
      obtain ⟨m, hm⟩ : ∃ m, l.length - (j + 1) = m := ⟨_, rfl⟩
      rw [hm] at hlen HO ⊢
      have HLN := Lib.hid hlen
      have hm2 : m ≤ 60 := by omega
      rw [hy] at hc
      have HY := Lib.hid hy
      have hj : ((j + 1 : Nat) : Int) - 1 = (j : Int) := by omega
      rw [hj]
      clear hm hlen hy hj
      have hz : B ≤ (wr.alloc (.cells #[.int .i64 y] 3)).heap.size := by have := HBL.out.size; have := HBS.out; simp; omega
      have HZ := Lib.hid hz
      clear hz
      go_wp2_with (at_builtin; refine wpList_app rfl elt_int B (.tmp 24) (.tmp 29) rfl (ints .i64 (l.drop (j + 1)).reverse) rfl (HO.out.alloc _) [.int .i64 y] rfl (show At _ _ [.int .i64 y] from At.lit _ _ _ _ _ rfl) rfl (by intro u hu; simp at hu; subst hu; rfl) (by unfold maxLen; omega) (by omega) HZ.out ?_; intro A' c' w1 own1 g1 _; have B1 := (HBL.out.alloc (by have := HBL.out.size; have := HBS.out; omega) _).grown g1 HZ.out (fun k hk => (HO.out.lt k hk).1); have HO1 := Lib.hid own1; have HB1 := Lib.hid B1; clear own1 g1 B1)
      exact ⟨⟨j, A', c', by omega, by simp, by rw [← HLN.out], by rw [← HLN.out, hdr.out, HY.out]; simpa [ints] using HO1.out, HB1.out⟩, by simp only [intOf]; omega⟩
    · obtain rfl : k = 0 := by omega
      rw [Nat.sub_zero, List.drop_zero] at HO
      rw [Nat.sub_zero]
      have St := Lib.hid HO.out.at_
      have HB := Lib.hid (show Below w.heap.size w wr by rw [HBS.out]; exact HBL.out)
      replace Sl := Lib.hid (Sl.out.later HB.out (Nat.le_refl _))
      replace HG := Lib.hid (HG.out.later HB.out (Nat.le_refl _))
      clear HO HBL hk h0
      go_wp2_with fail
      refine (of_bad HOK.out (setOf_any A l.length c l _ rfl Nl.out Sl.out)).mono ?_
      rintro e w1 ⟨A_a, c_a, rfl, bel⟩
      replace HB := Lib.hid (HB.out.trans (bel.mono HB.out.size))
      replace Sl := Lib.hid (Sl.out.later bel (Nat.le_refl _))
      replace St := Lib.hid (St.out.later bel (Nat.le_refl _))
      replace HG := Lib.hid (HG.out.later bel (Nat.le_refl _))
      clear bel
      have Sa := Lib.hid (show At w1 A_a (ints .i64 []) from At.nil _ _)
      have Na := Lib.hid (show (0 : Nat) ≤ 9223372036854775807 by decide)
      go_wp2_with fail
      refine (of_bad HOKr.out (setOf_any A5 l.length c5 l.reverse _ (by simp) Nl.out St.out)).mono ?_
      rintro e w2 ⟨A_b, c_b, rfl, bel⟩
      replace HB := Lib.hid (HB.out.trans (bel.mono HB.out.size))
      replace Sl := Lib.hid (Sl.out.later bel (Nat.le_refl _))
      replace St := Lib.hid (St.out.later bel (Nat.le_refl _))
      replace Sa := Lib.hid (Sa.out.later bel (Nat.le_refl _))
      replace HG := Lib.hid (HG.out.later bel (Nat.le_refl _))
      clear bel
      have Sb := Lib.hid (show At w2 A_b (ints .i64 []) from At.nil _ _)
      have Nb := Lib.hid (show (0 : Nat) ≤ 9223372036854775807 by decide)
      go_upto_region 10 with (fail)
      go_cut [58] (fun cv wx => cv = .bool false ∧ Below w2.heap.size w2 wx)
      case first =>
        go_wp2_with fail
        refine wp_region_below [is ?c0, is ?c1, is ?c2, is ?c3, is ?c4, is ?c5, is ?c6, is ?c7, is (.bool true), is ?c9, is ?c10, is ?c11, is ?c12, is (.int .u64 (v : Nat)), is ?c14, is (.int .u64 (v : Nat)), is ?c16, is ?c17]
          [⟨[], [8], none⟩, ⟨[(41, 0)], [], none⟩, ⟨[], [10], none⟩, ⟨[(43, 2)], [], none⟩, ⟨[(42, 1), (44, 3)], [], none⟩, ⟨[(45, 4)], [], none⟩, ⟨[(46, 5)], [7], some (46, false)⟩, ⟨[(46, 5)], [9], some (46, false)⟩, ⟨[(47, 6), (48, 7), (46, 5)], [], some (46, false)⟩, ⟨[(49, 8), (46, 5)], [], some (46, false)⟩, ⟨[(46, 5), (50, 9)], [], none⟩, ⟨[(51, 10)], [], none⟩, ⟨[(52, 11)], [0], some (52, false)⟩, ⟨[(53, 12), (52, 11)], [], some (52, false)⟩, ⟨[(52, 11)], [5], some (52, false)⟩, ⟨[(55, 14), (52, 11)], [], some (52, false)⟩, ⟨[(54, 13), (56, 15), (52, 11)], [], some (52, false)⟩, ⟨[(52, 11), (57, 16)], [], none⟩] (by kernel_rfl) (by kernel_rfl) (by kernel_rfl) (by kernel_rfl) (by kernel_rfl) ?monoc ?stepsc ?finc
        case monoc => exact ⟨mono_eq _, mono_eq _, mono_eq _, mono_eq _, mono_eq _, mono_eq _, mono_eq _, mono_eq _, mono_eq _, mono_eq _, mono_eq _, mono_eq _, mono_eq _, mono_eq _, mono_eq _, mono_eq _, mono_eq _, mono_eq _, trivial⟩
        case stepsc =>
          refine ⟨fun ρ W ⟨hcst, hglb, hfun⟩ hX hp ho => ?_, ?_⟩ -- 0: slot 41 := Op.move t8
          · obtain ⟨o8, -⟩ := ho
            change ρ (.tmp 8) = _ at o8
            refine turn_plain (ok_is ?_ rfl)
            simp only [execOp, o8]; go_simp; try exact rfl
          refine ⟨fun ρ W ⟨hcst, hglb, hfun⟩ hX hp ho => ?_, ?_⟩ -- 1: slot 42 := Op.binOp BinOp.eql 24 t41 (const Value.nilIface) 24
          · obtain ⟨p41, -⟩ := hp
            change ρ (.tmp 41) = _ at p41
            refine turn_plain (ok_is ?_ rfl)
            simp only [execOp, hcst, p41]; go_simp; try exact rfl
          refine ⟨fun ρ W ⟨hcst, hglb, hfun⟩ hX hp ho => ?_, ?_⟩ -- 2: slot 43 := Op.move t10
          · obtain ⟨o10, -⟩ := ho
            change ρ (.tmp 10) = _ at o10
            refine turn_plain (ok_is ?_ rfl)
            simp only [execOp, o10]; go_simp; try exact rfl
          refine ⟨fun ρ W ⟨hcst, hglb, hfun⟩ hX hp ho => ?_, ?_⟩ -- 3: slot 44 := Op.binOp BinOp.eql 24 t43 (const Value.nilIface) 24
          · obtain ⟨p43, -⟩ := hp
            change ρ (.tmp 43) = _ at p43
            refine turn_plain (ok_is ?_ rfl)
            simp only [execOp, hcst, p43]; go_simp; try exact rfl
          refine ⟨fun ρ W ⟨hcst, hglb, hfun⟩ hX hp ho => ?_, ?_⟩ -- 4: slot 45 := Op.binOp BinOp.neq 4 t42 t44 4
          · obtain ⟨p42, p44, -⟩ := hp
            change ρ (.tmp 42) = _ at p42
            change ρ (.tmp 44) = _ at p44
            refine turn_plain (ok_is ?_ rfl)
            simp only [execOp, p42, p44]; go_simp; try exact rfl
          refine ⟨fun ρ W ⟨hcst, hglb, hfun⟩ hX hp ho => ?_, ?_⟩ -- 5: slot 46 := Op.move t45
          · obtain ⟨p45, -⟩ := hp
            change ρ (.tmp 45) = _ at p45
            refine turn_plain (ok_is ?_ rfl)
            simp only [execOp, p45]; go_simp; try exact rfl
          refine ⟨fun ρ W ⟨hcst, hglb, hfun⟩ hX hp ho => ?_, ?_⟩ -- 6: slot 47 := Op.move t7   [guarded: some (5, false)]
          · obtain ⟨p46, -⟩ := hp
            change ρ (.tmp 46) = _ at p46
            obtain ⟨o7, -⟩ := ho
            change ρ (.tmp 7) = _ at o7
            refine turn_yes p46 (ok_is ?_ rfl)
            simp only [execOp, o7]; go_simp; try exact rfl
          refine ⟨fun ρ W ⟨hcst, hglb, hfun⟩ hX hp ho => ?_, ?_⟩ -- 7: slot 48 := Op.move t9   [guarded: some (5, false)]
          · obtain ⟨p46, -⟩ := hp
            change ρ (.tmp 46) = _ at p46
            obtain ⟨o9, -⟩ := ho
            change ρ (.tmp 9) = _ at o9
            refine turn_yes p46 (ok_is ?_ rfl)
            simp only [execOp, o9]; go_simp; try exact rfl
          refine ⟨fun ρ W ⟨hcst, hglb, hfun⟩ hX hp ho => ?_, ?_⟩ -- 8: slot 49 := Op.call { value (Operand.func 17), args := #[t47, t48], argTypes := #[31, 31] }   [guarded
          · obtain ⟨p47, p48, p46, -⟩ := hp
            change ρ (.tmp 47) = _ at p47
            change ρ (.tmp 48) = _ at p48
            change ρ (.tmp 46) = _ at p46
            have hW := (Below.refl _ _).drew.trans hX
            refine turn_yes p46 ?_
            have ce := @enter_of Tryd.prog 17 _ Tryd.func17 (by kernel_rfl) (by kernel_rfl)
            refine ok_call (op_call2 hfun ce (by exact rfl) p47 p48) ?_
            refine (valB_eq (.bool true) (by simp) (ints15_any A_a 0 c_a [] A_b 0 c_b [] _ rfl Na.out (Sa.out.later (hW) (Nat.le_refl _)) rfl Nb.out (Sb.out.later (hW) (Nat.le_refl _)))).mono ?_
            rintro e W' ⟨rfl, bel⟩
            exact ⟨_, rfl, bel, rfl⟩
          refine ⟨fun ρ W ⟨hcst, hglb, hfun⟩ hX hp ho => ?_, ?_⟩ -- 9: slot 50 := Op.unOp UnOp.not 4 t49   [guarded: some (5, false)]
          · obtain ⟨p49, p46, -⟩ := hp
            change ρ (.tmp 49) = _ at p49
            change ρ (.tmp 46) = _ at p46
            refine turn_yes p46 (ok_is ?_ rfl)
            simp only [execOp, p49]; go_simp; try exact rfl
          refine ⟨fun ρ W ⟨hcst, hglb, hfun⟩ hX hp ho => ?_, ?_⟩ -- 10: slot 51 := Op.pick t46 (const (Value.bool true)) t50
          · obtain ⟨p46, p50, -⟩ := hp
            change ρ (.tmp 46) = _ at p46
            change ρ (.tmp 50) = _ at p50
            refine turn_plain (ok_is ?_ rfl)
            simp only [execOp, hcst, p46, p50]; go_simp; try exact rfl
          refine ⟨fun ρ W ⟨hcst, hglb, hfun⟩ hX hp ho => ?_, ?_⟩ -- 11: slot 52 := Op.move t51
          · obtain ⟨p51, -⟩ := hp
            change ρ (.tmp 51) = _ at p51
            refine turn_plain (ok_is ?_ rfl)
            simp only [execOp, p51]; go_simp; try exact rfl
          refine ⟨fun ρ W ⟨hcst, hglb, hfun⟩ hX hp ho => ?_, ?_⟩ -- 12: slot 53 := Op.move t0   [guarded: some (11, false)]
          · obtain ⟨p52, -⟩ := hp
            change ρ (.tmp 52) = _ at p52
            obtain ⟨o0, -⟩ := ho
            change ρ (.tmp 0) = _ at o0
            refine turn_yes p52 (ok_is ?_ rfl)
            simp only [execOp, o0]; go_simp; try exact rfl
          refine ⟨fun ρ W ⟨hcst, hglb, hfun⟩ hX hp ho => ?_, ?_⟩ -- 13: slot 54 := Op.call { value (Operand.func 26), args := #[t53], argTypes := #[31] }   [guarded: some (1
          · obtain ⟨p53, p52, -⟩ := hp
            change ρ (.tmp 53) = _ at p53
            change ρ (.tmp 52) = _ at p52
            have hW := (Below.refl _ _).drew.trans hX
            refine turn_yes p52 ?_
            have ce := @enter_of Tryd.prog 26 _ Tryd.func26 (by kernel_rfl) (by kernel_rfl)
            refine ok_call (op_call1 hfun ce (by exact rfl) p53) ?_
            refine (val_eq (.int .u64 (v : Nat)) (by rw [HV.out]) (setBits_any A l.length c l _ rfl Nl.out (Sl.out.later (hW) (Nat.le_refl _)))).mono ?_
            rintro e W' ⟨rfl, rfl⟩
            exact ⟨_, rfl, Below.refl _ _, rfl⟩
          refine ⟨fun ρ W ⟨hcst, hglb, hfun⟩ hX hp ho => ?_, ?_⟩ -- 14: slot 55 := Op.move t5   [guarded: some (11, false)]
          · obtain ⟨p52, -⟩ := hp
            change ρ (.tmp 52) = _ at p52
            obtain ⟨o5, -⟩ := ho
            change ρ (.tmp 5) = _ at o5
            refine turn_yes p52 (ok_is ?_ rfl)
            simp only [execOp, o5]; go_simp; try exact rfl
          refine ⟨fun ρ W ⟨hcst, hglb, hfun⟩ hX hp ho => ?_, ?_⟩ -- 15: slot 56 := Op.call { value (Operand.func 26), args := #[t55], argTypes := #[31] }   [guarded: some (1
          · obtain ⟨p55, p52, -⟩ := hp
            change ρ (.tmp 55) = _ at p55
            change ρ (.tmp 52) = _ at p52
            have hW := (Below.refl _ _).drew.trans hX
            refine turn_yes p52 ?_
            have ce := @enter_of Tryd.prog 26 _ Tryd.func26 (by kernel_rfl) (by kernel_rfl)
            refine ok_call (op_call1 hfun ce (by exact rfl) p55) ?_
            refine (val_eq (.int .u64 (v : Nat)) (by rw [HVr.out]) (setBits_any A5 l.length c5 l.reverse _ (by simp) Nl.out (St.out.later (hW) (Nat.le_refl _)))).mono ?_
            rintro e W' ⟨rfl, rfl⟩
            exact ⟨_, rfl, Below.refl _ _, rfl⟩
          refine ⟨fun ρ W ⟨hcst, hglb, hfun⟩ hX hp ho => ?_, ?_⟩ -- 16: slot 57 := Op.binOp BinOp.neq 43 t54 t56 43   [guarded: some (11, false)]
          · obtain ⟨p54, p56, p52, -⟩ := hp
            change ρ (.tmp 54) = _ at p54
            change ρ (.tmp 56) = _ at p56
            change ρ (.tmp 52) = _ at p52
            refine turn_yes p52 (ok_is ?_ rfl)
            simp only [execOp, p54, p56]; go_simp; try exact rfl
          refine ⟨fun ρ W ⟨hcst, hglb, hfun⟩ hX hp ho => ?_, ?_⟩ -- 17: slot 58 := Op.pick t52 (const (Value.bool true)) t57
          · obtain ⟨p52, p57, -⟩ := hp
            change ρ (.tmp 52) = _ at p52
            change ρ (.tmp 57) = _ at p57
            refine turn_plain (ok_is ?_ rfl)
            simp only [execOp, hcst, p52, p57]; go_simp; try exact rfl
          exact trivial
        case finc =>
          rintro v W hX ⟨f0, f1, f2, f3, f4, f5, f6, f7, f8, f9, f10, f11, f12, f13, f14, f15, f16, f17, -⟩
          simp only [is] at f0 f1 f2 f3 f4 f5 f6 f7 f8 f9 f10 f11 f12 f13 f14 f15 f16 f17
          simp only [putAll, Act.put, List.setIfInBounds_toArray, List.set_cons_succ, List.set_cons_zero, f0, f1, f2, f3, f4, f5, f6, f7, f8, f9, f10, f11, f12, f13, f14, f15, f16, f17]
          clear f0 f1 f2 f3 f4 f5 f6 f7 f8 f9 f10 f11 f12 f13 f14 f15 f16 f17
          go_wp2_with fail
          go_meet
          exact ⟨rfl, hX⟩
      case rest =>
        obtain ⟨rfl, bel⟩ := hcut
        replace HB := Lib.hid (HB.out.trans (bel.mono HB.out.size))
        replace Sl := Lib.hid (Sl.out.later bel (Nat.le_refl _))
        replace St := Lib.hid (St.out.later bel (Nat.le_refl _))
        replace Sa := Lib.hid (Sa.out.later bel (Nat.le_refl _))
        replace Sb := Lib.hid (Sb.out.later bel (Nat.le_refl _))
        replace HG := Lib.hid (HG.out.later bel (Nat.le_refl _))
        clear bel
        clear Sa Na
        clear Sb Nb
        go_wp2_with fail
        have bel := (Below.refl wc.heap.size wc).alloc (Nat.le_refl _) (.cells #[.int .i64 x] 3)
        have Sd := Lib.hid (show At (wc.alloc (.cells #[.int .i64 x] 3)) (some ⟨wc.heap.size, 0, none⟩) (ints .i64 [x]) from At.lit _ _ _ _ _ rfl)
        generalize (wc.alloc (.cells #[.int .i64 x] 3)) = w3 at bel Sd ⊢
        replace HB := Lib.hid (HB.out.trans (bel.mono HB.out.size))
        replace Sl := Lib.hid (Sl.out.later bel (Nat.le_refl _))
        replace St := Lib.hid (St.out.later bel (Nat.le_refl _))
        replace HG := Lib.hid (HG.out.later bel (Nat.le_refl _))
        have Nd := Lib.hid (show (1 : Nat) ≤ 9223372036854775807 by decide)
        clear bel
        go_wp2_with fail
        refine (sl_eq (P := fun _ _ => True) Lu Lu.length Eu.out rfl (setEither_any A l.length c l (some ⟨wc.heap.size, 0, none⟩) 1 1 [x] _ rfl Nl.out Sl.out rfl Nd.out Sd.out)).mono ?_
        rintro e w4 ⟨A_u, c_u, rfl, hat, bel⟩
        replace HB := Lib.hid (HB.out.trans (bel.mono HB.out.size))
        replace Sl := Lib.hid (Sl.out.later bel (Nat.le_refl _))
        replace St := Lib.hid (St.out.later bel (Nat.le_refl _))
        replace Sd := Lib.hid (Sd.out.later bel (Nat.le_refl _))
        replace HG := Lib.hid (HG.out.later bel (Nat.le_refl _))
        have Su := Lib.hid hat
        clear hat
        clear bel
        clear Sd Nd
        go_wp2_with fail
        refine (val_eq (.bool true) (by rw [Ku.out]) (setHas_any A_u Lu.length c_u Lu x _ rfl Nu.out Su.out)).mono ?_
        rintro e w' ⟨rfl, rfl⟩
        go_wp2_with fail
        have bel := (Below.refl w4.heap.size w4).alloc (Nat.le_refl _) (.cells #[.int .i64 x] 3)
        have Sd := Lib.hid (show At (w4.alloc (.cells #[.int .i64 x] 3)) (some ⟨w4.heap.size, 0, none⟩) (ints .i64 [x]) from At.lit _ _ _ _ _ rfl)
        generalize (w4.alloc (.cells #[.int .i64 x] 3)) = w5 at bel Sd ⊢
        replace HB := Lib.hid (HB.out.trans (bel.mono HB.out.size))
        replace Sl := Lib.hid (Sl.out.later bel (Nat.le_refl _))
        replace St := Lib.hid (St.out.later bel (Nat.le_refl _))
        replace Su := Lib.hid (Su.out.later bel (Nat.le_refl _))
        replace HG := Lib.hid (HG.out.later bel (Nat.le_refl _))
        have Nd := Lib.hid (show (1 : Nat) ≤ 9223372036854775807 by decide)
        clear bel
        go_wp2_with fail
        refine (sl_eq (P := fun _ _ => True) Lu Lu.length Enu.out rfl (setEither_any (some ⟨w4.heap.size, 0, none⟩) 1 1 [x] A5 l.length c5 l.reverse _ rfl Nd.out Sd.out (by simp) Nl.out St.out)).mono ?_
        rintro e w6 ⟨A_p, c_p, rfl, hat, bel⟩
        replace HB := Lib.hid (HB.out.trans (bel.mono HB.out.size))
        replace Sl := Lib.hid (Sl.out.later bel (Nat.le_refl _))
        replace St := Lib.hid (St.out.later bel (Nat.le_refl _))
        replace Su := Lib.hid (Su.out.later bel (Nat.le_refl _))
        replace Sd := Lib.hid (Sd.out.later bel (Nat.le_refl _))
        replace HG := Lib.hid (HG.out.later bel (Nat.le_refl _))
        have Sp := Lib.hid hat
        clear hat
        have Np := Nu
        clear bel
        go_wp2_with fail
        refine (valB_eq (.bool true) (by simp) (ints15_any A_p Lu.length c_p Lu A_u Lu.length c_u Lu _ rfl Np.out Sp.out rfl Nu.out Su.out)).mono ?_
        rintro e w7 ⟨rfl, bel⟩
        replace HB := Lib.hid (HB.out.trans (bel.mono HB.out.size))
        replace Sl := Lib.hid (Sl.out.later bel (Nat.le_refl _))
        replace St := Lib.hid (St.out.later bel (Nat.le_refl _))
        replace Su := Lib.hid (Su.out.later bel (Nat.le_refl _))
        replace Sd := Lib.hid (Sd.out.later bel (Nat.le_refl _))
        replace Sp := Lib.hid (Sp.out.later bel (Nat.le_refl _))
        replace HG := Lib.hid (HG.out.later bel (Nat.le_refl _))
        clear bel
        clear Sd Nd
        clear Sp Np
        go_wp2_with fail
        have bel := (Below.refl w7.heap.size w7).alloc (Nat.le_refl _) (.cells #[.int .i64 x] 3)
        have Sd := Lib.hid (show At (w7.alloc (.cells #[.int .i64 x] 3)) (some ⟨w7.heap.size, 0, none⟩) (ints .i64 [x]) from At.lit _ _ _ _ _ rfl)
        generalize (w7.alloc (.cells #[.int .i64 x] 3)) = w8 at bel Sd ⊢
        replace HB := Lib.hid (HB.out.trans (bel.mono HB.out.size))
        replace Sl := Lib.hid (Sl.out.later bel (Nat.le_refl _))
        replace St := Lib.hid (St.out.later bel (Nat.le_refl _))
        replace Su := Lib.hid (Su.out.later bel (Nat.le_refl _))
        replace HG := Lib.hid (HG.out.later bel (Nat.le_refl _))
        have Nd := Lib.hid (show (1 : Nat) ≤ 9223372036854775807 by decide)
        clear bel
        go_wp2_with fail
        refine (sl_eq (P := fun _ _ => True) Lq Lq.length Eun.out rfl (setLess_any A_u Lu.length c_u Lu (some ⟨w7.heap.size, 0, none⟩) 1 1 [x] _ rfl Nu.out Su.out rfl Nd.out Sd.out)).mono ?_
        rintro e w9 ⟨A_p, c_p, rfl, hat, bel⟩
        replace HB := Lib.hid (HB.out.trans (bel.mono HB.out.size))
        replace Sl := Lib.hid (Sl.out.later bel (Nat.le_refl _))
        replace St := Lib.hid (St.out.later bel (Nat.le_refl _))
        replace Su := Lib.hid (Su.out.later bel (Nat.le_refl _))
        replace Sd := Lib.hid (Sd.out.later bel (Nat.le_refl _))
        replace HG := Lib.hid (HG.out.later bel (Nat.le_refl _))
        have Sp := Lib.hid hat
        clear hat
        have Np := Nq
        clear bel
        clear Sd Nd
        go_wp2_with fail
        have bel := (Below.refl w9.heap.size w9).alloc (Nat.le_refl _) (.cells #[.int .i64 x] 3)
        have Sd := Lib.hid (show At (w9.alloc (.cells #[.int .i64 x] 3)) (some ⟨w9.heap.size, 0, none⟩) (ints .i64 [x]) from At.lit _ _ _ _ _ rfl)
        generalize (w9.alloc (.cells #[.int .i64 x] 3)) = w10 at bel Sd ⊢
        replace HB := Lib.hid (HB.out.trans (bel.mono HB.out.size))
        replace Sl := Lib.hid (Sl.out.later bel (Nat.le_refl _))
        replace St := Lib.hid (St.out.later bel (Nat.le_refl _))
        replace Su := Lib.hid (Su.out.later bel (Nat.le_refl _))
        replace Sp := Lib.hid (Sp.out.later bel (Nat.le_refl _))
        replace HG := Lib.hid (HG.out.later bel (Nat.le_refl _))
        have Nd := Lib.hid (show (1 : Nat) ≤ 9223372036854775807 by decide)
        clear bel
        go_wp2_with fail
        refine (sl_eq (P := fun _ _ => True) Lq Lq.length Eq.out rfl (setLess_any A l.length c l (some ⟨w9.heap.size, 0, none⟩) 1 1 [x] _ rfl Nl.out Sl.out rfl Nd.out Sd.out)).mono ?_
        rintro e w11 ⟨A_r, c_r, rfl, hat, bel⟩
        replace HB := Lib.hid (HB.out.trans (bel.mono HB.out.size))
        replace Sl := Lib.hid (Sl.out.later bel (Nat.le_refl _))
        replace St := Lib.hid (St.out.later bel (Nat.le_refl _))
        replace Su := Lib.hid (Su.out.later bel (Nat.le_refl _))
        replace Sp := Lib.hid (Sp.out.later bel (Nat.le_refl _))
        replace Sd := Lib.hid (Sd.out.later bel (Nat.le_refl _))
        replace HG := Lib.hid (HG.out.later bel (Nat.le_refl _))
        have Sr := Lib.hid hat
        clear hat
        have Nr := Nq
        clear bel
        clear Sd Nd
        go_wp2_with fail
        refine (valB_eq (.bool true) (by simp) (ints15_any A_p Lq.length c_p Lq A_r Lq.length c_r Lq _ rfl Np.out Sp.out rfl Nr.out Sr.out)).mono ?_
        rintro e w12 ⟨rfl, bel⟩
        replace HB := Lib.hid (HB.out.trans (bel.mono HB.out.size))
        replace Sl := Lib.hid (Sl.out.later bel (Nat.le_refl _))
        replace St := Lib.hid (St.out.later bel (Nat.le_refl _))
        replace Su := Lib.hid (Su.out.later bel (Nat.le_refl _))
        replace Sp := Lib.hid (Sp.out.later bel (Nat.le_refl _))
        replace Sr := Lib.hid (Sr.out.later bel (Nat.le_refl _))
        replace HG := Lib.hid (HG.out.later bel (Nat.le_refl _))
        clear bel
        clear Sp Np
        clear Sr Nr
        go_wp2_with fail
        refine (val_eq .nilIface (by rw [Mu.out]; rfl) (setCheck_any A_u Lu.length c_u Lu _ rfl Nu.out Su.out)).mono ?_
        rintro e w' ⟨rfl, rfl⟩
        go_wp2_with fail
        refine (sure15 _ HG.out).mono ?_
        rintro e w13 ⟨rfl, bel⟩
        replace HB := Lib.hid (HB.out.trans (bel.mono HB.out.size))
        replace Sl := Lib.hid (Sl.out.later bel (Nat.le_refl _))
        replace St := Lib.hid (St.out.later bel (Nat.le_refl _))
        replace Su := Lib.hid (Su.out.later bel (Nat.le_refl _))
        replace HG := Lib.hid (HG.out.later bel (Nat.le_refl _))
        clear bel
        go_wp2_with fail
        go_ret
        exact ⟨rfl, HB.out⟩
set_option maxRecDepth 100000 in
set_option maxHeartbeats 4000000 in
theorem order_0big (A : Option Addr) (c : Nat) (l : List Int) (x : Int) (w : World) (hl : l.length ≤ 60) (ha : At w A (ints .i64 l)) (hg : Glob w) (hok : SetM.ok l = false) (hx : 64 ≤ x) :
    Calls Tryd.prog 6 #[.slice A l.length c, .int .i64 x] w fun e w' => e = .returned (.bool true) ∧ Below w.heap.size w w' := by
  have HG := Lib.hid hg
  have Sl := Lib.hid ha
  have Nl := Lib.hid (show l.length ≤ 9223372036854775807 by omega)
  have HOK := Lib.hid hok
  have HOKr := Lib.hid (show SetM.ok l.reverse = false by rw [SetM.ok_reverse, hok])
  obtain ⟨L, hL⟩ : ∃ L, SetM.elems (SetM.bitsOf l) = L := ⟨_, rfl⟩
  have HL := Lib.hid hL
  have HLr := Lib.hid (show SetM.elems (SetM.bitsOf l.reverse) = L by rw [SetM.bitsOf_reverse, hL])
  have NL := Lib.hid (hL ▸ elems_len _ : L.length ≤ 9223372036854775807)
  obtain ⟨v, hv⟩ : ∃ v, SetM.bitsOf l = v := ⟨_, rfl⟩
  have HV := Lib.hid hv
  have HVr := Lib.hid (show SetM.bitsOf l.reverse = v by rw [SetM.bitsOf_reverse, hv])
  obtain ⟨Lu, hLu⟩ : ∃ L, SetM.elems (SetM.op 0 (SetM.bitsOf l) (SetM.bitsOf [x])) = L := ⟨_, rfl⟩
  obtain ⟨Lq, hLq⟩ : ∃ L, SetM.elems (SetM.op 2 (SetM.bitsOf l) (SetM.bitsOf [x])) = L := ⟨_, rfl⟩
  have Nu := Lib.hid (hLu ▸ elems_len _ : Lu.length ≤ 9223372036854775807)
  have Nq := Lib.hid (hLq ▸ elems_len _ : Lq.length ≤ 9223372036854775807)
  have hb1 := SetM.bitsOf_lt l
  have hb2 := SetM.bitsOf_lt [x]
  have Eu := Lib.hid hLu
  have Eq := Lib.hid hLq
  have Enu := Lib.hid (show SetM.elems (SetM.op 0 (SetM.bitsOf [x]) (SetM.bitsOf l.reverse)) = Lu by rw [SetM.bitsOf_reverse, SetM.op0_comm hb1 hb2, hLu])
  have Eun := Lib.hid (show SetM.elems (SetM.op 2 (SetM.bitsOf Lu) (SetM.bitsOf [x])) = Lq by rw [← hLu, SetM.bitsOf_elems (SetM.op_lt 0 hb1 hb2), SetM.parts4 hb1 hb2, hLq])
  have Ku := Lib.hid (show SetM.has Lu x = false by rw [← hLu, SetM.has_put]; simp [SetM.can]; omega)
  have Mu := Lib.hid (show SetM.may Lu = true by rw [← hLu]; exact SetM.may_elems _)
  clear ha hg hok hL hv hLu hLq hb1 hb2
  obtain ⟨B, hB⟩ : ∃ B, w.heap.size = B := ⟨_, rfl⟩
  have HBS := Lib.hid hB
  clear hB
  have hd : decide (x < 64) = false := decide_eq_false (by omega)
  go_enter Tryd.func6, Tryd.ntmps6
  go_wp2_with fail
  go_loopw [5, 6] (fun s i wr => ∃ (k : Nat) (A : Option Addr) (c : Nat), k ≤ l.length ∧ i = .int .i64 ((k : Int) - 1) ∧ s = .slice A (l.length - k) c ∧ Own wr B 3 1 A (l.length - k) c (ints .i64 (l.drop k).reverse) ∧ Below B w wr) (fun _ i _ => (intOf i + 1).toNat)
  case atStart => exact ⟨l.length, none, 0, Nat.le_refl _, rfl, by rw [Nat.sub_self], by rw [Nat.sub_self, List.drop_of_length_le (Nat.le_refl _)]; exact Own.none_ _ _ _ _, Below.refl _ _⟩
  case round =>
    obtain ⟨k, A5, c5, hk, rfl, rfl, hown, hbel⟩ := hrel
    have HO := Lib.hid hown
    have HBL := Lib.hid hbel
    clear hown hbel
    by_cases h0 : 1 ≤ k
    · obtain ⟨j, rfl⟩ : ∃ j, k = j + 1 := ⟨k - 1, by omega⟩
      obtain ⟨b, o, rfl, hc⟩ := (Sl.out.later (HBL.out) (Nat.le_of_eq HBS.out)).int j (by omega)
      have hdr := Lib.hid (drop_rev (l := l) (k := j) (by omega))
      obtain ⟨y, hy⟩ : ∃ y, l.getD j 0 = y := ⟨_, rfl⟩
      have hlen : l.length - (j + 1) + 1 = l.length - j := by omega
      obtain ⟨m, hm⟩ : ∃ m, l.length - (j + 1) = m := ⟨_, rfl⟩
      rw [hm] at hlen HO ⊢
      have HLN := Lib.hid hlen
      have hm2 : m ≤ 60 := by omega
      rw [hy] at hc
      have HY := Lib.hid hy
      have hj : ((j + 1 : Nat) : Int) - 1 = (j : Int) := by omega
      rw [hj]
      clear hm hlen hy hj
      have hz : B ≤ (wr.alloc (.cells #[.int .i64 y] 3)).heap.size := by have := HBL.out.size; have := HBS.out; simp; omega
      have HZ := Lib.hid hz
      clear hz
      go_wp2_with (at_builtin; refine wpList_app rfl elt_int B (.tmp 24) (.tmp 29) rfl (ints .i64 (l.drop (j + 1)).reverse) rfl (HO.out.alloc _) [.int .i64 y] rfl (show At _ _ [.int .i64 y] from At.lit _ _ _ _ _ rfl) rfl (by intro u hu; simp at hu; subst hu; rfl) (by unfold maxLen; omega) (by omega) HZ.out ?_; intro A' c' w1 own1 g1 _; have B1 := (HBL.out.alloc (by have := HBL.out.size; have := HBS.out; omega) _).grown g1 HZ.out (fun k hk => (HO.out.lt k hk).1); have HO1 := Lib.hid own1; have HB1 := Lib.hid B1; clear own1 g1 B1)
      exact ⟨⟨j, A', c', by omega, by simp, by rw [← HLN.out], by rw [← HLN.out, hdr.out, HY.out]; simpa [ints] using HO1.out, HB1.out⟩, by simp only [intOf]; omega⟩
    · obtain rfl : k = 0 := by omega
      rw [Nat.sub_zero, List.drop_zero] at HO
      rw [Nat.sub_zero]
      have St := Lib.hid HO.out.at_
      have HB := Lib.hid (show Below w.heap.size w wr by rw [HBS.out]; exact HBL.out)
      replace Sl := Lib.hid (Sl.out.later HB.out (Nat.le_refl _))
      replace HG := Lib.hid (HG.out.later HB.out (Nat.le_refl _))
      clear HO HBL hk h0
      go_wp2_with fail
      refine (of_bad HOK.out (setOf_any A l.length c l _ rfl Nl.out Sl.out)).mono ?_
      rintro e w1 ⟨A_a, c_a, rfl, bel⟩
      replace HB := Lib.hid (HB.out.trans (bel.mono HB.out.size))
      replace Sl := Lib.hid (Sl.out.later bel (Nat.le_refl _))
      replace St := Lib.hid (St.out.later bel (Nat.le_refl _))
      replace HG := Lib.hid (HG.out.later bel (Nat.le_refl _))
      clear bel
      have Sa := Lib.hid (show At w1 A_a (ints .i64 []) from At.nil _ _)
      have Na := Lib.hid (show (0 : Nat) ≤ 9223372036854775807 by decide)
      go_wp2_with fail
      refine (of_bad HOKr.out (setOf_any A5 l.length c5 l.reverse _ (by simp) Nl.out St.out)).mono ?_
      rintro e w2 ⟨A_b, c_b, rfl, bel⟩
      replace HB := Lib.hid (HB.out.trans (bel.mono HB.out.size))
      replace Sl := Lib.hid (Sl.out.later bel (Nat.le_refl _))
      replace St := Lib.hid (St.out.later bel (Nat.le_refl _))
      replace Sa := Lib.hid (Sa.out.later bel (Nat.le_refl _))
      replace HG := Lib.hid (HG.out.later bel (Nat.le_refl _))
      clear bel
      have Sb := Lib.hid (show At w2 A_b (ints .i64 []) from At.nil _ _)
      have Nb := Lib.hid (show (0 : Nat) ≤ 9223372036854775807 by decide)
      go_upto_region 10 with (fail)
      go_cut [58] (fun cv wx => cv = .bool false ∧ Below w2.heap.size w2 wx)
      case first =>
        go_wp2_with fail
        refine wp_region_below [is ?c0, is ?c1, is ?c2, is ?c3, is ?c4, is ?c5, is ?c6, is ?c7, is (.bool true), is ?c9, is ?c10, is ?c11, is ?c12, is (.int .u64 (v : Nat)), is ?c14, is (.int .u64 (v : Nat)), is ?c16, is ?c17]
          [⟨[], [8], none⟩, ⟨[(41, 0)], [], none⟩, ⟨[], [10], none⟩, ⟨[(43, 2)], [], none⟩, ⟨[(42, 1), (44, 3)], [], none⟩, ⟨[(45, 4)], [], none⟩, ⟨[(46, 5)], [7], some (46, false)⟩, ⟨[(46, 5)], [9], some (46, false)⟩, ⟨[(47, 6), (48, 7), (46, 5)], [], some (46, false)⟩, ⟨[(49, 8), (46, 5)], [], some (46, false)⟩, ⟨[(46, 5), (50, 9)], [], none⟩, ⟨[(51, 10)], [], none⟩, ⟨[(52, 11)], [0], some (52, false)⟩, ⟨[(53, 12), (52, 11)], [], some (52, false)⟩, ⟨[(52, 11)], [5], some (52, false)⟩, ⟨[(55, 14), (52, 11)], [], some (52, false)⟩, ⟨[(54, 13), (56, 15), (52, 11)], [], some (52, false)⟩, ⟨[(52, 11), (57, 16)], [], none⟩] (by kernel_rfl) (by kernel_rfl) (by kernel_rfl) (by kernel_rfl) (by kernel_rfl) ?monoc ?stepsc ?finc
        case monoc => exact ⟨mono_eq _, mono_eq _, mono_eq _, mono_eq _, mono_eq _, mono_eq _, mono_eq _, mono_eq _, mono_eq _, mono_eq _, mono_eq _, mono_eq _, mono_eq _, mono_eq _, mono_eq _, mono_eq _, mono_eq _, mono_eq _, trivial⟩
        case stepsc =>
          refine ⟨fun ρ W ⟨hcst, hglb, hfun⟩ hX hp ho => ?_, ?_⟩ -- 0: slot 41 := Op.move t8
          · obtain ⟨o8, -⟩ := ho
            change ρ (.tmp 8) = _ at o8
            refine turn_plain (ok_is ?_ rfl)
            simp only [execOp, o8]; go_simp; try exact rfl
          refine ⟨fun ρ W ⟨hcst, hglb, hfun⟩ hX hp ho => ?_, ?_⟩ -- 1: slot 42 := Op.binOp BinOp.eql 24 t41 (const Value.nilIface) 24
          · obtain ⟨p41, -⟩ := hp
            change ρ (.tmp 41) = _ at p41
            refine turn_plain (ok_is ?_ rfl)
            simp only [execOp, hcst, p41]; go_simp; try exact rfl
          refine ⟨fun ρ W ⟨hcst, hglb, hfun⟩ hX hp ho => ?_, ?_⟩ -- 2: slot 43 := Op.move t10
          · obtain ⟨o10, -⟩ := ho
            change ρ (.tmp 10) = _ at o10
            refine turn_plain (ok_is ?_ rfl)
            simp only [execOp, o10]; go_simp; try exact rfl
          refine ⟨fun ρ W ⟨hcst, hglb, hfun⟩ hX hp ho => ?_, ?_⟩ -- 3: slot 44 := Op.binOp BinOp.eql 24 t43 (const Value.nilIface) 24
          · obtain ⟨p43, -⟩ := hp
            change ρ (.tmp 43) = _ at p43
            refine turn_plain (ok_is ?_ rfl)
            simp only [execOp, hcst, p43]; go_simp; try exact rfl
          refine ⟨fun ρ W ⟨hcst, hglb, hfun⟩ hX hp ho => ?_, ?_⟩ -- 4: slot 45 := Op.binOp BinOp.neq 4 t42 t44 4
          · obtain ⟨p42, p44, -⟩ := hp
            change ρ (.tmp 42) = _ at p42
            change ρ (.tmp 44) = _ at p44
            refine turn_plain (ok_is ?_ rfl)
            simp only [execOp, p42, p44]; go_simp; try exact rfl
          refine ⟨fun ρ W ⟨hcst, hglb, hfun⟩ hX hp ho => ?_, ?_⟩ -- 5: slot 46 := Op.move t45
          · obtain ⟨p45, -⟩ := hp
            change ρ (.tmp 45) = _ at p45
            refine turn_plain (ok_is ?_ rfl)
            simp only [execOp, p45]; go_simp; try exact rfl
          refine ⟨fun ρ W ⟨hcst, hglb, hfun⟩ hX hp ho => ?_, ?_⟩ -- 6: slot 47 := Op.move t7   [guarded: some (5, false)]
          · obtain ⟨p46, -⟩ := hp
            change ρ (.tmp 46) = _ at p46
            obtain ⟨o7, -⟩ := ho
            change ρ (.tmp 7) = _ at o7
            refine turn_yes p46 (ok_is ?_ rfl)
            simp only [execOp, o7]; go_simp; try exact rfl
          refine ⟨fun ρ W ⟨hcst, hglb, hfun⟩ hX hp ho => ?_, ?_⟩ -- 7: slot 48 := Op.move t9   [guarded: some (5, false)]
          · obtain ⟨p46, -⟩ := hp
            change ρ (.tmp 46) = _ at p46
            obtain ⟨o9, -⟩ := ho
            change ρ (.tmp 9) = _ at o9
            refine turn_yes p46 (ok_is ?_ rfl)
            simp only [execOp, o9]; go_simp; try exact rfl
          refine ⟨fun ρ W ⟨hcst, hglb, hfun⟩ hX hp ho => ?_, ?_⟩ -- 8: slot 49 := Op.call { value (Operand.func 17), args := #[t47, t48], argTypes := #[31, 31] }   [guarded
          · obtain ⟨p47, p48, p46, -⟩ := hp
            change ρ (.tmp 47) = _ at p47
            change ρ (.tmp 48) = _ at p48
            change ρ (.tmp 46) = _ at p46
            have hW := (Below.refl _ _).drew.trans hX
            refine turn_yes p46 ?_
            have ce := @enter_of Tryd.prog 17 _ Tryd.func17 (by kernel_rfl) (by kernel_rfl)
            refine ok_call (op_call2 hfun ce (by exact rfl) p47 p48) ?_
            refine (valB_eq (.bool true) (by simp) (ints15_any A_a 0 c_a [] A_b 0 c_b [] _ rfl Na.out (Sa.out.later (hW) (Nat.le_refl _)) rfl Nb.out (Sb.out.later (hW) (Nat.le_refl _)))).mono ?_
            rintro e W' ⟨rfl, bel⟩
            exact ⟨_, rfl, bel, rfl⟩
          refine ⟨fun ρ W ⟨hcst, hglb, hfun⟩ hX hp ho => ?_, ?_⟩ -- 9: slot 50 := Op.unOp UnOp.not 4 t49   [guarded: some (5, false)]
          · obtain ⟨p49, p46, -⟩ := hp
            change ρ (.tmp 49) = _ at p49
            change ρ (.tmp 46) = _ at p46
            refine turn_yes p46 (ok_is ?_ rfl)
            simp only [execOp, p49]; go_simp; try exact rfl
          refine ⟨fun ρ W ⟨hcst, hglb, hfun⟩ hX hp ho => ?_, ?_⟩ -- 10: slot 51 := Op.pick t46 (const (Value.bool true)) t50
          · obtain ⟨p46, p50, -⟩ := hp
            change ρ (.tmp 46) = _ at p46
            change ρ (.tmp 50) = _ at p50
            refine turn_plain (ok_is ?_ rfl)
            simp only [execOp, hcst, p46, p50]; go_simp; try exact rfl
          refine ⟨fun ρ W ⟨hcst, hglb, hfun⟩ hX hp ho => ?_, ?_⟩ -- 11: slot 52 := Op.move t51
          · obtain ⟨p51, -⟩ := hp
            change ρ (.tmp 51) = _ at p51
            refine turn_plain (ok_is ?_ rfl)
            simp only [execOp, p51]; go_simp; try exact rfl
          refine ⟨fun ρ W ⟨hcst, hglb, hfun⟩ hX hp ho => ?_, ?_⟩ -- 12: slot 53 := Op.move t0   [guarded: some (11, false)]
          · obtain ⟨p52, -⟩ := hp
            change ρ (.tmp 52) = _ at p52
            obtain ⟨o0, -⟩ := ho
            change ρ (.tmp 0) = _ at o0
            refine turn_yes p52 (ok_is ?_ rfl)
            simp only [execOp, o0]; go_simp; try exact rfl
          refine ⟨fun ρ W ⟨hcst, hglb, hfun⟩ hX hp ho => ?_, ?_⟩ -- 13: slot 54 := Op.call { value (Operand.func 26), args := #[t53], argTypes := #[31] }   [guarded: some (1
          · obtain ⟨p53, p52, -⟩ := hp
            change ρ (.tmp 53) = _ at p53
            change ρ (.tmp 52) = _ at p52
            have hW := (Below.refl _ _).drew.trans hX
            refine turn_yes p52 ?_
            have ce := @enter_of Tryd.prog 26 _ Tryd.func26 (by kernel_rfl) (by kernel_rfl)
            refine ok_call (op_call1 hfun ce (by exact rfl) p53) ?_
            refine (val_eq (.int .u64 (v : Nat)) (by rw [HV.out]) (setBits_any A l.length c l _ rfl Nl.out (Sl.out.later (hW) (Nat.le_refl _)))).mono ?_
            rintro e W' ⟨rfl, rfl⟩
            exact ⟨_, rfl, Below.refl _ _, rfl⟩
          refine ⟨fun ρ W ⟨hcst, hglb, hfun⟩ hX hp ho => ?_, ?_⟩ -- 14: slot 55 := Op.move t5   [guarded: some (11, false)]
          · obtain ⟨p52, -⟩ := hp
            change ρ (.tmp 52) = _ at p52
            obtain ⟨o5, -⟩ := ho
            change ρ (.tmp 5) = _ at o5
            refine turn_yes p52 (ok_is ?_ rfl)
            simp only [execOp, o5]; go_simp; try exact rfl
          refine ⟨fun ρ W ⟨hcst, hglb, hfun⟩ hX hp ho => ?_, ?_⟩ -- 15: slot 56 := Op.call { value (Operand.func 26), args := #[t55], argTypes := #[31] }   [guarded: some (1
          · obtain ⟨p55, p52, -⟩ := hp
            change ρ (.tmp 55) = _ at p55
            change ρ (.tmp 52) = _ at p52
            have hW := (Below.refl _ _).drew.trans hX
            refine turn_yes p52 ?_
            have ce := @enter_of Tryd.prog 26 _ Tryd.func26 (by kernel_rfl) (by kernel_rfl)
            refine ok_call (op_call1 hfun ce (by exact rfl) p55) ?_
            refine (val_eq (.int .u64 (v : Nat)) (by rw [HVr.out]) (setBits_any A5 l.length c5 l.reverse _ (by simp) Nl.out (St.out.later (hW) (Nat.le_refl _)))).mono ?_
            rintro e W' ⟨rfl, rfl⟩
            exact ⟨_, rfl, Below.refl _ _, rfl⟩
          refine ⟨fun ρ W ⟨hcst, hglb, hfun⟩ hX hp ho => ?_, ?_⟩ -- 16: slot 57 := Op.binOp BinOp.neq 43 t54 t56 43   [guarded: some (11, false)]
          · obtain ⟨p54, p56, p52, -⟩ := hp
            change ρ (.tmp 54) = _ at p54
            change ρ (.tmp 56) = _ at p56
            change ρ (.tmp 52) = _ at p52
            refine turn_yes p52 (ok_is ?_ rfl)
            simp only [execOp, p54, p56]; go_simp; try exact rfl
          refine ⟨fun ρ W ⟨hcst, hglb, hfun⟩ hX hp ho => ?_, ?_⟩ -- 17: slot 58 := Op.pick t52 (const (Value.bool true)) t57
          · obtain ⟨p52, p57, -⟩ := hp
            change ρ (.tmp 52) = _ at p52
            change ρ (.tmp 57) = _ at p57
            refine turn_plain (ok_is ?_ rfl)
            simp only [execOp, hcst, p52, p57]; go_simp; try exact rfl
          exact trivial
        case finc =>
          rintro v W hX ⟨f0, f1, f2, f3, f4, f5, f6, f7, f8, f9, f10, f11, f12, f13, f14, f15, f16, f17, -⟩
          simp only [is] at f0 f1 f2 f3 f4 f5 f6 f7 f8 f9 f10 f11 f12 f13 f14 f15 f16 f17
          simp only [putAll, Act.put, List.setIfInBounds_toArray, List.set_cons_succ, List.set_cons_zero, f0, f1, f2, f3, f4, f5, f6, f7, f8, f9, f10, f11, f12, f13, f14, f15, f16, f17]
          clear f0 f1 f2 f3 f4 f5 f6 f7 f8 f9 f10 f11 f12 f13 f14 f15 f16 f17
          go_wp2_with fail
          go_meet
          exact ⟨rfl, hX⟩
      case rest =>
        obtain ⟨rfl, bel⟩ := hcut
        replace HB := Lib.hid (HB.out.trans (bel.mono HB.out.size))
        replace Sl := Lib.hid (Sl.out.later bel (Nat.le_refl _))
        replace St := Lib.hid (St.out.later bel (Nat.le_refl _))
        replace Sa := Lib.hid (Sa.out.later bel (Nat.le_refl _))
        replace Sb := Lib.hid (Sb.out.later bel (Nat.le_refl _))
        replace HG := Lib.hid (HG.out.later bel (Nat.le_refl _))
        clear bel
        clear Sa Na
        clear Sb Nb
        go_wp2_with fail
        have bel := (Below.refl wc.heap.size wc).alloc (Nat.le_refl _) (.cells #[.int .i64 x] 3)
        have Sd := Lib.hid (show At (wc.alloc (.cells #[.int .i64 x] 3)) (some ⟨wc.heap.size, 0, none⟩) (ints .i64 [x]) from At.lit _ _ _ _ _ rfl)
        generalize (wc.alloc (.cells #[.int .i64 x] 3)) = w3 at bel Sd ⊢
        replace HB := Lib.hid (HB.out.trans (bel.mono HB.out.size))
        replace Sl := Lib.hid (Sl.out.later bel (Nat.le_refl _))
        replace St := Lib.hid (St.out.later bel (Nat.le_refl _))
        replace HG := Lib.hid (HG.out.later bel (Nat.le_refl _))
        have Nd := Lib.hid (show (1 : Nat) ≤ 9223372036854775807 by decide)
        clear bel
        go_wp2_with fail
        refine (sl_eq (P := fun _ _ => True) Lu Lu.length Eu.out rfl (setEither_any A l.length c l (some ⟨wc.heap.size, 0, none⟩) 1 1 [x] _ rfl Nl.out Sl.out rfl Nd.out Sd.out)).mono ?_
        rintro e w4 ⟨A_u, c_u, rfl, hat, bel⟩
        replace HB := Lib.hid (HB.out.trans (bel.mono HB.out.size))
        replace Sl := Lib.hid (Sl.out.later bel (Nat.le_refl _))
        replace St := Lib.hid (St.out.later bel (Nat.le_refl _))
        replace Sd := Lib.hid (Sd.out.later bel (Nat.le_refl _))
        replace HG := Lib.hid (HG.out.later bel (Nat.le_refl _))
        have Su := Lib.hid hat
        clear hat
        clear bel
        clear Sd Nd
        go_wp2_with fail
        refine (val_eq (.bool false) (by rw [Ku.out]) (setHas_any A_u Lu.length c_u Lu x _ rfl Nu.out Su.out)).mono ?_
        rintro e w' ⟨rfl, rfl⟩
        go_wp2_with fail
        have bel := (Below.refl w4.heap.size w4).alloc (Nat.le_refl _) (.cells #[.int .i64 x] 3)
        have Sd := Lib.hid (show At (w4.alloc (.cells #[.int .i64 x] 3)) (some ⟨w4.heap.size, 0, none⟩) (ints .i64 [x]) from At.lit _ _ _ _ _ rfl)
        generalize (w4.alloc (.cells #[.int .i64 x] 3)) = w5 at bel Sd ⊢
        replace HB := Lib.hid (HB.out.trans (bel.mono HB.out.size))
        replace Sl := Lib.hid (Sl.out.later bel (Nat.le_refl _))
        replace St := Lib.hid (St.out.later bel (Nat.le_refl _))
        replace Su := Lib.hid (Su.out.later bel (Nat.le_refl _))
        replace HG := Lib.hid (HG.out.later bel (Nat.le_refl _))
        have Nd := Lib.hid (show (1 : Nat) ≤ 9223372036854775807 by decide)
        clear bel
        go_wp2_with fail
        refine (sl_eq (P := fun _ _ => True) Lu Lu.length Enu.out rfl (setEither_any (some ⟨w4.heap.size, 0, none⟩) 1 1 [x] A5 l.length c5 l.reverse _ rfl Nd.out Sd.out (by simp) Nl.out St.out)).mono ?_
        rintro e w6 ⟨A_p, c_p, rfl, hat, bel⟩
        replace HB := Lib.hid (HB.out.trans (bel.mono HB.out.size))
        replace Sl := Lib.hid (Sl.out.later bel (Nat.le_refl _))
        replace St := Lib.hid (St.out.later bel (Nat.le_refl _))
        replace Su := Lib.hid (Su.out.later bel (Nat.le_refl _))
        replace Sd := Lib.hid (Sd.out.later bel (Nat.le_refl _))
        replace HG := Lib.hid (HG.out.later bel (Nat.le_refl _))
        have Sp := Lib.hid hat
        clear hat
        have Np := Nu
        clear bel
        go_wp2_with fail
        refine (valB_eq (.bool true) (by simp) (ints15_any A_p Lu.length c_p Lu A_u Lu.length c_u Lu _ rfl Np.out Sp.out rfl Nu.out Su.out)).mono ?_
        rintro e w7 ⟨rfl, bel⟩
        replace HB := Lib.hid (HB.out.trans (bel.mono HB.out.size))
        replace Sl := Lib.hid (Sl.out.later bel (Nat.le_refl _))
        replace St := Lib.hid (St.out.later bel (Nat.le_refl _))
        replace Su := Lib.hid (Su.out.later bel (Nat.le_refl _))
        replace Sd := Lib.hid (Sd.out.later bel (Nat.le_refl _))
        replace Sp := Lib.hid (Sp.out.later bel (Nat.le_refl _))
        replace HG := Lib.hid (HG.out.later bel (Nat.le_refl _))
        clear bel
        clear Sd Nd
        clear Sp Np
        go_wp2_with fail
        have bel := (Below.refl w7.heap.size w7).alloc (Nat.le_refl _) (.cells #[.int .i64 x] 3)
        have Sd := Lib.hid (show At (w7.alloc (.cells #[.int .i64 x] 3)) (some ⟨w7.heap.size, 0, none⟩) (ints .i64 [x]) from At.lit _ _ _ _ _ rfl)
        generalize (w7.alloc (.cells #[.int .i64 x] 3)) = w8 at bel Sd ⊢
        replace HB := Lib.hid (HB.out.trans (bel.mono HB.out.size))
        replace Sl := Lib.hid (Sl.out.later bel (Nat.le_refl _))
        replace St := Lib.hid (St.out.later bel (Nat.le_refl _))
        replace Su := Lib.hid (Su.out.later bel (Nat.le_refl _))
        replace HG := Lib.hid (HG.out.later bel (Nat.le_refl _))
        have Nd := Lib.hid (show (1 : Nat) ≤ 9223372036854775807 by decide)
        clear bel
        go_wp2_with fail
        refine (sl_eq (P := fun _ _ => True) Lq Lq.length Eun.out rfl (setLess_any A_u Lu.length c_u Lu (some ⟨w7.heap.size, 0, none⟩) 1 1 [x] _ rfl Nu.out Su.out rfl Nd.out Sd.out)).mono ?_
        rintro e w9 ⟨A_p, c_p, rfl, hat, bel⟩
        replace HB := Lib.hid (HB.out.trans (bel.mono HB.out.size))
        replace Sl := Lib.hid (Sl.out.later bel (Nat.le_refl _))
        replace St := Lib.hid (St.out.later bel (Nat.le_refl _))
        replace Su := Lib.hid (Su.out.later bel (Nat.le_refl _))
        replace Sd := Lib.hid (Sd.out.later bel (Nat.le_refl _))
        replace HG := Lib.hid (HG.out.later bel (Nat.le_refl _))
        have Sp := Lib.hid hat
        clear hat
        have Np := Nq
        clear bel
        clear Sd Nd
        go_wp2_with fail
        have bel := (Below.refl w9.heap.size w9).alloc (Nat.le_refl _) (.cells #[.int .i64 x] 3)
        have Sd := Lib.hid (show At (w9.alloc (.cells #[.int .i64 x] 3)) (some ⟨w9.heap.size, 0, none⟩) (ints .i64 [x]) from At.lit _ _ _ _ _ rfl)
        generalize (w9.alloc (.cells #[.int .i64 x] 3)) = w10 at bel Sd ⊢
        replace HB := Lib.hid (HB.out.trans (bel.mono HB.out.size))
        replace Sl := Lib.hid (Sl.out.later bel (Nat.le_refl _))
        replace St := Lib.hid (St.out.later bel (Nat.le_refl _))
        replace Su := Lib.hid (Su.out.later bel (Nat.le_refl _))
        replace Sp := Lib.hid (Sp.out.later bel (Nat.le_refl _))
        replace HG := Lib.hid (HG.out.later bel (Nat.le_refl _))
        have Nd := Lib.hid (show (1 : Nat) ≤ 9223372036854775807 by decide)
        clear bel
        go_wp2_with fail
        refine (sl_eq (P := fun _ _ => True) Lq Lq.length Eq.out rfl (setLess_any A l.length c l (some ⟨w9.heap.size, 0, none⟩) 1 1 [x] _ rfl Nl.out Sl.out rfl Nd.out Sd.out)).mono ?_
        rintro e w11 ⟨A_r, c_r, rfl, hat, bel⟩
        replace HB := Lib.hid (HB.out.trans (bel.mono HB.out.size))
        replace Sl := Lib.hid (Sl.out.later bel (Nat.le_refl _))
        replace St := Lib.hid (St.out.later bel (Nat.le_refl _))
        replace Su := Lib.hid (Su.out.later bel (Nat.le_refl _))
        replace Sp := Lib.hid (Sp.out.later bel (Nat.le_refl _))
        replace Sd := Lib.hid (Sd.out.later bel (Nat.le_refl _))
        replace HG := Lib.hid (HG.out.later bel (Nat.le_refl _))
        have Sr := Lib.hid hat
        clear hat
        have Nr := Nq
        clear bel
        clear Sd Nd
        go_wp2_with fail
        refine (valB_eq (.bool true) (by simp) (ints15_any A_p Lq.length c_p Lq A_r Lq.length c_r Lq _ rfl Np.out Sp.out rfl Nr.out Sr.out)).mono ?_
        rintro e w12 ⟨rfl, bel⟩
        replace HB := Lib.hid (HB.out.trans (bel.mono HB.out.size))
        replace Sl := Lib.hid (Sl.out.later bel (Nat.le_refl _))
        replace St := Lib.hid (St.out.later bel (Nat.le_refl _))
        replace Su := Lib.hid (Su.out.later bel (Nat.le_refl _))
        replace Sp := Lib.hid (Sp.out.later bel (Nat.le_refl _))
        replace Sr := Lib.hid (Sr.out.later bel (Nat.le_refl _))
        replace HG := Lib.hid (HG.out.later bel (Nat.le_refl _))
        clear bel
        clear Sp Np
        clear Sr Nr
        go_wp2_with fail
        refine (val_eq .nilIface (by rw [Mu.out]; rfl) (setCheck_any A_u Lu.length c_u Lu _ rfl Nu.out Su.out)).mono ?_
        rintro e w' ⟨rfl, rfl⟩
        go_wp2_with fail
        refine (sure15 _ HG.out).mono ?_
        rintro e w13 ⟨rfl, bel⟩
        replace HB := Lib.hid (HB.out.trans (bel.mono HB.out.size))
        replace Sl := Lib.hid (Sl.out.later bel (Nat.le_refl _))
        replace St := Lib.hid (St.out.later bel (Nat.le_refl _))
        replace Su := Lib.hid (Su.out.later bel (Nat.le_refl _))
        replace HG := Lib.hid (HG.out.later bel (Nat.le_refl _))
        clear bel
        go_wp2_with fail
        go_ret
        exact ⟨rfl, HB.out⟩
set_option maxRecDepth 100000 in
theorem order15_any (A : Option Addr) (n c : Nat) (l : List Int) (x : Int) (w : World) (hl : l.length = n) (ha : At w A (ints .i64 l)) (hg : Glob w) :
    Calls Tryd.prog 6 #[.slice A n c, .int .i64 x] w fun e w' => e = .returned (.bool true) ∧ Below w.heap.size w w' := by
  subst hl
  by_cases h1 : l.length ≤ 60
  · cases hok : SetM.ok l
    · by_cases h2 : x < 0
      · exact order_0neg A c l x w h1 ha hg hok h2
      · by_cases h3 : x < 64
        · exact order_0in A c l x w h1 ha hg hok ⟨by omega, h3⟩
        · exact order_0big A c l x w h1 ha hg hok (by omega)
    · by_cases h2 : x < 0
      · exact order_1neg A c l x w h1 ha hg hok h2
      · by_cases h3 : x < 64
        · exact order_1in A c l x w h1 ha hg hok ⟨by omega, h3⟩
        · exact order_1big A c l x w h1 ha hg hok (by omega)
  · have HG := Lib.hid hg
    clear ha hg
    go_enter Tryd.func6, Tryd.ntmps6
    go_wp2_with (go_at_call 13; refine (sure15 _ HG.out).mono ?_; rintro e w1 ⟨rfl, bel⟩)
    go_ret
    exact ⟨rfl, bel⟩
end Go.Proofs.YtpmejkgmeoajaaaDoor
