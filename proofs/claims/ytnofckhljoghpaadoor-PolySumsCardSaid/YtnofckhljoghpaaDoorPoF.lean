/- Layer 3: whether points lie on a curve: the document's. -/
import Derived.Test.YtnofckhljoghpaaDoorPoE
import Derived.RegionTactic
namespace Go.Proofs.YtnofckhljoghpaaDoor
open Go.RowKit
/-- what the document's Line tells -/
def LineP (xs ys : List Nat) (m n : Nat) (w : World) (e : Ending) (w' : World) : Prop :=
  ∃ bb : Bool, e = .returned (.tuple #[.bool bb, .int .i64 0]) ∧ (bb = true ↔ ∀ i, m ≤ i → i < n → lv xs ys m i = ys.getD i 0 % FpM.p) ∧ Below w.heap.size w w'
section
variable (A : Option Addr) (n c : Nat) (xs ys : List Nat) (w : World)
set_option maxRecDepth 100000 in
set_option maxHeartbeats 2000000 in
theorem rline_neg (m : Int) (h : m < 0) : Calls Tryd.prog 11 #[.slice A n c, .int .i64 m] w fun e w' => e = .returned (.tuple #[.bool false, .int .i64 1]) ∧ w = w' := by
  have hd : decide (m < 0) = true := decide_eq_true h
  go_enter Tryd.func11, Tryd.ntmps11
  go_wp2_with fail
  exact bodyPost_ret (v := .tuple #[.bool false, .int .i64 1]) (by simp [results, Tryd.results11, go_sem]) rfl ⟨rfl, rfl⟩
set_option maxRecDepth 100000 in
set_option maxHeartbeats 2000000 in
theorem rline_bad (m : Int) (h0 : 0 ≤ m) (f : Int) (hB : Bad xs n f) (hl : xs.length = n) (hm : n ≤ 1000) (ha : Shs w A xs ys n) :
    Calls Tryd.prog 11 #[.slice A n c, .int .i64 m] w fun e w' => e = .returned (.tuple #[.bool false, .int .i64 f]) ∧ Below w.heap.size w w' := by
  have hd : decide (m < 0) = false := decide_eq_false (by omega)
  by_cases h64 : 64 < n
  · have hd2 : decide (64 < (n : Int)) = true := decide_eq_true (by omega)
    obtain rfl : f = 1 := by rcases hB with ⟨h, _⟩ | ⟨_, h, _⟩ <;> omega
    clear hB ha
    go_enter Tryd.func11, Tryd.ntmps11
    go_wp2_with fail
    exact bodyPost_ret (v := .tuple #[.bool false, .int .i64 1]) (by simp [results, Tryd.results11, go_sem]) rfl ⟨rfl, Below.refl _ _⟩
  · have hd2 : decide (64 < (n : Int)) = false := decide_eq_false (by omega)
    obtain rfl : f = 8 := by rcases hB with ⟨_, h⟩ | ⟨h, _⟩ <;> omega
    have C := Lib.hid (rxs_any A n c xs ys w hl hm ha)
    have HB := Lib.hid hB
    have HL := Lib.hid hl
    clear hB hl ha
    go_enter Tryd.func11, Tryd.ntmps11
    go_wp2_with fail
    refine C.out.mono ?_
    rintro e w1 ⟨A1, c1, rfl, h1, b1⟩
    have B1 := Lib.hid b1
    have H1 := Lib.hid h1
    clear b1 h1 C
    go_wp2_with fail
    refine (rapart_bad A1 n c1 xs w1 8 HB.out HL.out H1.out).mono ?_
    rintro e w2 ⟨rfl, b2⟩
    have B2 := Lib.hid (B1.out.trans (b2.mono B1.out.size))
    clear b2
    go_wp2_with fail
    exact bodyPost_ret (v := .tuple #[.bool false, .int .i64 8]) (by simp [results, Tryd.results11, go_sem]) rfl ⟨rfl, B2.out⟩
set_option maxRecDepth 100000 in
set_option maxHeartbeats 2000000 in
theorem rline_all (m : Int) (h0 : (n : Int) ≤ m) (hdf : PoM.Dif xs) (h : n ≤ 64) (hl : xs.length = n) (ha : Shs w A xs ys n) (hb : ∀ i, xs.getD i 0 < 18446744073709551616) :
    Calls Tryd.prog 11 #[.slice A n c, .int .i64 m] w fun e w' => e = .returned (.tuple #[.bool true, .int .i64 0]) ∧ Below w.heap.size w w' := by
  have hd : decide (m < 0) = false := decide_eq_false (by omega)
  have hd2 : decide (64 < (n : Int)) = false := decide_eq_false (by omega)
  by_cases hlt : (n : Int) < m
  · have hlt2 : decide ((n : Int) < m) = true := decide_eq_true hlt
    have C := Lib.hid (rxs_any A n c xs ys w hl (by omega) ha)
    have HD := Lib.hid hdf
    have HL := Lib.hid hl
    have HB64 := Lib.hid hb
    clear hdf hl hb
    go_enter Tryd.func11, Tryd.ntmps11
    go_wp2_with fail
    refine C.out.mono ?_
    rintro e w1 ⟨A1, c1, rfl, h1, b1⟩
    have B1 := Lib.hid b1
    have H1 := Lib.hid h1
    clear b1 h1 C
    go_wp2_with fail
    refine (rapart_ok A1 n c1 xs w1 HD.out h HL.out H1.out).mono ?_
    rintro e w2 ⟨rfl, b2⟩
    have B2 := Lib.hid (B1.out.trans (b2.mono B1.out.size))
    clear b2
    go_wp2_with fail
    refine wp_loop_rounds 1 ?_
    rw [rounds_succ]
    go_wp2_with fail
    exact bodyPost_ret (v := .tuple #[.bool true, .int .i64 0]) (by simp [results, Tryd.results11, go_sem]) rfl ⟨rfl, B2.out⟩
  · obtain rfl : m = (n : Int) := by omega
    clear hlt h0
    have C := Lib.hid (rxs_any A n c xs ys w hl (by omega) ha)
    have HD := Lib.hid hdf
    have HL := Lib.hid hl
    have HB64 := Lib.hid hb
    clear hdf hl hb
    go_enter Tryd.func11, Tryd.ntmps11
    go_wp2_with fail
    refine C.out.mono ?_
    rintro e w1 ⟨A1, c1, rfl, h1, b1⟩
    have B1 := Lib.hid b1
    have H1 := Lib.hid h1
    clear b1 h1 C
    go_wp2_with fail
    refine (rapart_ok A1 n c1 xs w1 HD.out h HL.out H1.out).mono ?_
    rintro e w2 ⟨rfl, b2⟩
    have B2 := Lib.hid (B1.out.trans (b2.mono B1.out.size))
    clear b2
    go_wp2_with fail
    refine wp_loop_rounds 1 ?_
    rw [rounds_succ]
    go_wp2_with fail
    exact bodyPost_ret (v := .tuple #[.bool true, .int .i64 0]) (by simp [results, Tryd.results11, go_sem]) rfl ⟨rfl, B2.out⟩
set_option maxRecDepth 100000 in
set_option maxHeartbeats 2000000 in
theorem rline_ok (m : Nat) (h0 : m < n) (hcc : n ≤ c) (hc9 : c ≤ 9223372036854775807) (hdf : PoM.Dif xs) (h : n ≤ 64) (hl : xs.length = n) (ha : Shs w A xs ys n) (hb : ∀ i, xs.getD i 0 < 18446744073709551616) (hy : ∀ i, ys.getD i 0 < 18446744073709551616) :
    Calls Tryd.prog 11 #[.slice A n c, .int .i64 (m : Nat)] w (LineP xs ys m n w) := by
  have hd : decide ((m : Int) < 0) = false := decide_eq_false (by omega)
  have hd2 : decide (64 < (n : Int)) = false := decide_eq_false (by omega)
  have HA := Lib.hid ha
  have HY64 := Lib.hid hy
  clear hy
  have hmin : min (m : Int) (n : Int) = (m : Int) := Int.min_eq_left (by omega)
  have hmi2 : (m : Int) < (n : Int) := by omega
  have C := Lib.hid (rxs_any A n c xs ys w hl (by omega) ha)
  have HD := Lib.hid hdf
  have HL := Lib.hid hl
  have HB64 := Lib.hid hb
  clear hdf hl hb
  go_enter Tryd.func11, Tryd.ntmps11
  go_wp2_with fail
  refine C.out.mono ?_
  rintro e w1 ⟨A1, c1, rfl, h1, b1⟩
  have B1 := Lib.hid b1
  have H1 := Lib.hid h1
  clear b1 h1 C
  go_wp2_with fail
  refine (rapart_ok A1 n c1 xs w1 HD.out h HL.out H1.out).mono ?_
  rintro e w2 ⟨rfl, b2⟩
  have B2 := Lib.hid (B1.out.trans (b2.mono B1.out.size))
  clear b2
  obtain ⟨b, o, rfl, g1, _⟩ := ha m h0
  have hbw0 : b < w.heap.size := World.block_lt_of_cell? w _ g1
  clear ha g1
  have hm0 : (0 : Int) ≤ (m : Int) := by omega
  have hmn : (m : Int) ≤ (n : Int) := by omega
  have hmc : m ≤ c := by omega
  go_wp2_with fail
  go_loopw [8] (fun i wr => ∃ k : Nat, m ≤ k ∧ k ≤ n ∧ i = .int .i64 (k : Nat) ∧ (∀ i, m ≤ i → i < k → lv xs ys m i = ys.getD i 0 % FpM.p) ∧ Below w.heap.size w wr) (fun i _ => n - (intOf i).toNat)
  case atStart => exact ⟨m, Nat.le_refl _, by omega, rfl, fun i h1 h2 => by omega, B2.out⟩
  case round =>
    obtain ⟨k, hmk, hk, rfl, hal, hbel⟩ := hrel
    have HAL := Lib.hid hal
    have HB := Lib.hid hbel
    clear hal hbel B2
    by_cases hjd : k < n
    · obtain ⟨b', o', e', g1, g2⟩ := (HA.out.later HB.out (Nat.le_refl _)) k hjd
      injection e' with e'; injection e' with a1 a2; subst a1; subst a2
      have hbw : b < wr.heap.size := World.block_lt_of_cell? wr _ g1
      have k0 : (0 : Int) ≤ (k : Int) := by omega
      have hx64 := HB64.out k
      have hy64 := HY64.out k
      have hlv := (show lv xs ys m k = PoM.sm (xs.take m) (ys.take m) (xs.getD k 0) m from rfl)
      obtain ⟨x, hx⟩ : ∃ x, xs.getD k 0 = x := ⟨_, rfl⟩
      obtain ⟨y, hy⟩ : ∃ y, ys.getD k 0 = y := ⟨_, rfl⟩
      rw [hx] at g1 hx64 hlv
      rw [hy] at g2 hy64
      have TC0 := fun (W : World) (hW : Below w.heap.size w W) => rthrough_ok (some ⟨b, o, none⟩) m c (xs.take m) (ys.take m) W x hx64 (Dif_take HD.out m) (by omega) (by rw [List.length_take, HL.out]; omega) ((HA.out.later hW (Nat.le_refl _)).take (by omega)) (take_lt (by decide) HB64.out m) (take_lt (by decide) HY64.out m)
      have hq64 := PoM.sm_lt (xs.take m) (ys.take m) x m
      obtain ⟨q, hq⟩ : ∃ q, PoM.sm (xs.take m) (ys.take m) x m = q := ⟨_, rfl⟩
      rw [hq] at TC0 hlv hq64
      obtain ⟨v, hv⟩ : ∃ v, y % 2305843009213693951 = v := ⟨_, rfl⟩
      have ey : (y : Int).tmod 2305843009213693951 = (v : Int) := by rw [Int.tmod_eq_emod_of_nonneg (by omega)]; omega
      have HV := Lib.hid hv
      have HY := Lib.hid hy
      have HLV := Lib.hid hlv
      have G1 := Lib.hid g1
      have G2 := Lib.hid g2
      clear hx hq hlv hy hv g1 g2
      have TC := Lib.hid (fun (W : World) (hW : Below wr.heap.size wr W) => TC0 W (HB.out.trans (hW.mono HB.out.size)))
      clear TC0
      go_upto_region 10 with fail
      go_cut [9, 10] from 35 to 54 (fun a b wx => a = .int .u64 (q : Nat) ∧ b = .int .i64 0 ∧ Below wr.heap.size wr wx)
      case first =>
        go_wp2_with fail
        refine wp_region_below [is ?c0, is ?c1, is ?c2, is ?c3, is ?c4, is ?c5, is ?c6, is ?c7, is (.tuple #[.int .u64 (q : Nat), .int .i64 0]), is ?c9, is ?c10, is ?c11, is ?c12, is ?c13]
          [⟨[], [0], none⟩, ⟨[], [7], none⟩, ⟨[(36, 0), (37, 1)], [], none⟩, ⟨[], [0], none⟩, ⟨[], [8], none⟩, ⟨[(39, 3), (40, 4)], [], none⟩, ⟨[(41, 5)], [], none⟩, ⟨[(42, 6)], [], none⟩, ⟨[(38, 2), (43, 7)], [], none⟩, ⟨[(44, 8)], [], none⟩, ⟨[(35, 9)], [], none⟩, ⟨[(35, 9)], [], none⟩, ⟨[(45, 10)], [], none⟩, ⟨[(46, 11)], [], none⟩] (by kernel_rfl) (by kernel_rfl) (by kernel_rfl) (by kernel_rfl) (by kernel_rfl) ?monoc ?stepsc ?finc
        case monoc => exact ⟨mono_eq _, mono_eq _, mono_eq _, mono_eq _, mono_eq _, mono_eq _, mono_eq _, mono_eq _, mono_eq _, mono_eq _, mono_eq _, mono_eq _, mono_eq _, mono_eq _, trivial⟩
        case stepsc =>
          refine ⟨fun ρ W ⟨hcst, hglb, hfun⟩ hX hp ho => ?_, ?_⟩ -- 0: slot 36 := Op.move t0
          · obtain ⟨o0, -⟩ := ho
            change ρ (.tmp 0) = _ at o0
            refine turn_plain (ok_is ?_ rfl)
            simp only [execOp, o0]; go_simp; try exact rfl
          refine ⟨fun ρ W ⟨hcst, hglb, hfun⟩ hX hp ho => ?_, ?_⟩ -- 1: slot 37 := Op.move t7
          · obtain ⟨o7, -⟩ := ho
            change ρ (.tmp 7) = _ at o7
            refine turn_plain (ok_is ?_ rfl)
            simp only [execOp, o7]; go_simp; try exact rfl
          refine ⟨fun ρ W ⟨hcst, hglb, hfun⟩ hX hp ho => ?_, ?_⟩ -- 2: slot 38 := Op.slice 23 t36 none (some t37) none
          · obtain ⟨p36, p37, -⟩ := hp
            change ρ (.tmp 36) = _ at p36
            change ρ (.tmp 37) = _ at p37
            refine turn_plain (ok_is ?_ rfl)
            simp only [execOp, p36, p37]; go_simp; try exact rfl
          refine ⟨fun ρ W ⟨hcst, hglb, hfun⟩ hX hp ho => ?_, ?_⟩ -- 3: slot 39 := Op.move t0
          · obtain ⟨o0, -⟩ := ho
            change ρ (.tmp 0) = _ at o0
            refine turn_plain (ok_is ?_ rfl)
            simp only [execOp, o0]; go_simp; try exact rfl
          refine ⟨fun ρ W ⟨hcst, hglb, hfun⟩ hX hp ho => ?_, ?_⟩ -- 4: slot 40 := Op.move t8
          · obtain ⟨o8, -⟩ := ho
            change ρ (.tmp 8) = _ at o8
            refine turn_plain (ok_is ?_ rfl)
            simp only [execOp, o8]; go_simp; try exact rfl
          refine ⟨fun ρ W ⟨hcst, hglb, hfun⟩ hX hp ho => ?_, ?_⟩ -- 5: slot 41 := Op.indexAddr 23 t39 t40
          · obtain ⟨p39, p40, -⟩ := hp
            change ρ (.tmp 39) = _ at p39
            change ρ (.tmp 40) = _ at p40
            refine turn_plain (ok_is ?_ rfl)
            simp only [execOp, p39, p40]; go_simp; try exact rfl
          refine ⟨fun ρ W ⟨hcst, hglb, hfun⟩ hX hp ho => ?_, ?_⟩ -- 6: slot 42 := Op.fieldAddr 41 t41 0
          · obtain ⟨p41, -⟩ := hp
            change ρ (.tmp 41) = _ at p41
            refine turn_plain (ok_is ?_ rfl)
            simp only [execOp, p41]; go_simp; try exact rfl
          refine ⟨fun ρ W ⟨hcst, hglb, hfun⟩ hX hp ho => ?_, ?_⟩ -- 7: slot 43 := Op.load 24 t42
          · obtain ⟨p42, -⟩ := hp
            change ρ (.tmp 42) = _ at p42
            have p0 := (hX.cell (p := ⟨b, o + k * 2, none⟩) hbw).trans G1.out
            refine turn_plain (ok_is ?_ rfl)
            simp only [execOp, p42]; go_simp; try exact rfl
          refine ⟨fun ρ W ⟨hcst, hglb, hfun⟩ hX hp ho => ?_, ?_⟩ -- 8: slot 44 := Op.call { value (Operand.func 9), args := #[t38, t43], argTypes := #[23, 24] }
          · obtain ⟨p38, p43, -⟩ := hp
            change ρ (.tmp 38) = _ at p38
            change ρ (.tmp 43) = _ at p43
            have hW := (Below.refl _ _).drew.trans hX
            refine turn_plain ?_
            have ce := @enter_of Tryd.prog 9 _ Tryd.func9 (by kernel_rfl) (by kernel_rfl)
            refine ok_call (op_call2 hfun ce (by exact rfl) p38 p43) ?_
            refine (TC.out W hW).mono ?_
            rintro e W' ⟨rfl, bel⟩
            exact ⟨_, rfl, bel, rfl⟩
          refine ⟨fun ρ W ⟨hcst, hglb, hfun⟩ hX hp ho => ?_, ?_⟩ -- 9: slot 35 := Op.move t44
          · obtain ⟨p44, -⟩ := hp
            change ρ (.tmp 44) = _ at p44
            refine turn_plain (ok_is ?_ rfl)
            simp only [execOp, p44]; go_simp; try exact rfl
          refine ⟨fun ρ W ⟨hcst, hglb, hfun⟩ hX hp ho => ?_, ?_⟩ -- 10: slot 45 := Op.extract t35 0
          · obtain ⟨p35, -⟩ := hp
            change ρ (.tmp 35) = _ at p35
            refine turn_plain (ok_is ?_ rfl)
            simp only [execOp, p35]; go_simp; try exact rfl
          refine ⟨fun ρ W ⟨hcst, hglb, hfun⟩ hX hp ho => ?_, ?_⟩ -- 11: slot 46 := Op.extract t35 1
          · obtain ⟨p35, -⟩ := hp
            change ρ (.tmp 35) = _ at p35
            refine turn_plain (ok_is ?_ rfl)
            simp only [execOp, p35]; go_simp; try exact rfl
          refine ⟨fun ρ W ⟨hcst, hglb, hfun⟩ hX hp ho => ?_, ?_⟩ -- 12: slot 9 := Op.assign t45
          · obtain ⟨p45, -⟩ := hp
            change ρ (.tmp 45) = _ at p45
            refine turn_plain (ok_is ?_ rfl)
            simp only [execOp, p45]; go_simp; try exact rfl
          refine ⟨fun ρ W ⟨hcst, hglb, hfun⟩ hX hp ho => ?_, ?_⟩ -- 13: slot 10 := Op.assign t46
          · obtain ⟨p46, -⟩ := hp
            change ρ (.tmp 46) = _ at p46
            refine turn_plain (ok_is ?_ rfl)
            simp only [execOp, p46]; go_simp; try exact rfl
          exact trivial
        case finc =>
          rintro v W hX ⟨f0, f1, f2, f3, f4, f5, f6, f7, f8, f9, f10, f11, f12, f13, -⟩
          simp only [is] at f0 f1 f2 f3 f4 f5 f6 f7 f8 f9 f10 f11 f12 f13
          simp only [putAll, Act.put, List.setIfInBounds_toArray, List.set_cons_succ, List.set_cons_zero, f0, f1, f2, f3, f4, f5, f6, f7, f8, f9, f10, f11, f12, f13]
          clear f0 f1 f2 f3 f4 f5 f6 f7 f8 f9 f10 f11 f12 f13
          go_wp2_with fail
          go_meet
          exact ⟨rfl, rfl, hX⟩
      case rest =>
        obtain ⟨rfl, rfl, bel⟩ := hcut
        have BB := Lib.hid (HB.out.trans (bel.mono HB.out.size))
        have p1 := (bel.cell (p := ⟨b, o + k * 2 + 1, none⟩) hbw).trans G2.out
        clear bel TC
        by_cases he : q = v
        · have HE := Lib.hid he
          have d1 : ((q : Int) == (v : Int)) = true := by simp [he]
          have d2 : (q == v) = true := by simp [he]
          have d3 : decide (q = v) = true := by simp [he]
          clear he
          go_wp2_with fail
          go_round
          case rel => exact ⟨k + 1, by omega, by omega, by go_num, fun i h1 h2 => by
              by_cases e : i = k
              · subst e; rw [HLV.out, HY.out]; exact HE.out.trans HV.out.symm
              · exact HAL.out i h1 (by omega), BB.out⟩
          case measure => simp [intOf]; omega
        · have HE := Lib.hid he
          have d1 : ((q : Int) == (v : Int)) = false := by simp; omega
          have d2 : (q == v) = false := by simp; omega
          have d3 : decide (q = v) = false := by simp; omega
          clear he
          go_wp2_with fail
          exact bodyPost_ret (v := .tuple #[.bool false, .int .i64 0]) (by simp [results, Tryd.results11, go_sem]) rfl ⟨false, rfl, ⟨fun h => (by cases h), fun h => absurd ((HLV.out.symm.trans (h k hmk hjd)).trans (by rw [HY.out]; exact HV.out)) HE.out⟩, BB.out⟩
    · obtain rfl : k = n := by omega
      go_wp2_with fail
      exact bodyPost_ret (v := .tuple #[.bool true, .int .i64 0]) (by simp [results, Tryd.results11, go_sem]) rfl ⟨true, rfl, ⟨fun _ i h1 h2 => HAL.out i h1 h2, fun _ => rfl⟩, HB.out⟩
end
end Go.Proofs.YtnofckhljoghpaaDoor
