/- Layer 3: the curve through points, and whether points lie on one: the program's. -/
import Derived.Test.YtnofckhljoghpaaDoorPoC
import Derived.Test.YtnofckhljoghpaaDoorRegionB
import Derived.Deep.CutRange
namespace Go.Proofs.YtnofckhljoghpaaDoor
open Go.RowKit
open PoM (ml ad sb iv)
theorem take_getD (l : List Nat) {m i : Nat} (h : i < m) : (l.take m).getD i 0 = l.getD i 0 := by
  simp [List.getD_eq_getElem?_getD, List.getElem?_take, h]
theorem Shs.take {w : World} {A : Option Addr} {xs ys : List Nat} {n m : Nat} (h : Shs w A xs ys n) (hm : m ≤ n) : Shs w A (xs.take m) (ys.take m) m := by
  intro i hi
  rw [take_getD xs hi, take_getD ys hi]
  exact h i (by omega)
theorem Dif_take {xs : List Nat} (h : PoM.Dif xs) (m : Nat) : PoM.Dif (xs.take m) := by
  intro i j hi hj e
  rw [List.length_take] at hi hj
  rw [take_getD xs (by omega), take_getD xs (by omega)]
  exact h i j (by omega) (by omega) e
theorem take_lt {xs : List Nat} {B : Nat} (h0 : 0 < B) (h : ∀ i, xs.getD i 0 < B) (m : Nat) : ∀ i, (xs.take m).getD i 0 < B := by
  intro i
  by_cases hi : i < m
  · rw [take_getD xs hi]; exact h i
  · rw [List.getD_eq_getElem?_getD, List.getElem?_eq_none (by rw [List.length_take]; omega)]; exact h0
/-- the value of the curve through points, at a place -/
def thr (xs ys : List Nat) (z n : Nat) : Nat := PoM.sm xs ys z n
theorem thr_step (xs ys : List Nat) (z k : Nat) : PoM.sm xs ys z (k + 1) = ad (PoM.sm xs ys z k) (ml (ys.getD k 0) (PoM.wt xs z k)) := rfl
section
variable (A : Option Addr) (n c : Nat) (xs ys : List Nat) (w : World)
set_option maxRecDepth 100000 in
set_option maxHeartbeats 2000000 in
theorem through_bad (z : Nat) (f : Int) (hB : Bad xs n f) (hl : xs.length = n) (hm : n ≤ 1000) (ha : Shs w A xs ys n) (hb : ∀ i, xs.getD i 0 < 18446744073709551616) :
    Calls Tryd.prog 8 #[.slice A n c, .int .u64 z] w fun e w' => e = .returned (.tuple #[.int .u64 0, .iface 57 (.int .i64 f)]) ∧ Below w.heap.size w w' := by
  have C := Lib.hid (places_any A n c xs ys w hl hm ha)
  have HB := Lib.hid hB
  have HL := Lib.hid hl
  have HB64 := Lib.hid hb
  clear hB hl ha hb
  go_enter Tryd.func8, Tryd.ntmps8
  go_wp2_with fail
  refine C.out.mono ?_
  rintro e w1 ⟨A1, c1, rfl, h1, b1⟩
  have B1 := Lib.hid b1
  have H1 := Lib.hid h1
  clear b1 h1 C
  go_wp2_with fail
  refine (weights_bad A1 n c1 xs w1 z f HB.out HL.out H1.out HB64.out).mono ?_
  rintro e w2 ⟨rfl, b2⟩
  have B2 := Lib.hid (B1.out.trans (b2.mono B1.out.size))
  clear b2
  go_wp2_with fail
  exact bodyPost_ret (v := .tuple #[.int .u64 0, .iface 57 (.int .i64 f)]) (by simp [results, Tryd.results8, go_sem]) rfl ⟨rfl, B2.out⟩
set_option maxRecDepth 100000 in
set_option maxHeartbeats 2000000 in
theorem through_ok (z : Nat) (hz : z < 18446744073709551616) (hd : PoM.Dif xs) (h : n ≤ 64) (hl : xs.length = n) (ha : Shs w A xs ys n) (hb : ∀ i, xs.getD i 0 < 18446744073709551616) (hy : ∀ i, ys.getD i 0 < 18446744073709551616) :
    Calls Tryd.prog 8 #[.slice A n c, .int .u64 z] w fun e w' => e = .returned (.tuple #[.int .u64 (PoM.sm xs ys z n : Nat), .nilIface]) ∧ Below w.heap.size w w' := by
  have C := Lib.hid (places_any A n c xs ys w hl (by omega) ha)
  have HD := Lib.hid hd
  have HL := Lib.hid hl
  have HA := Lib.hid ha
  have HB64 := Lib.hid hb
  have HY64 := Lib.hid hy
  clear hd hl ha hb hy
  go_enter Tryd.func8, Tryd.ntmps8
  go_wp2_with fail
  refine C.out.mono ?_
  rintro e w1 ⟨A1, c1, rfl, h1, b1⟩
  have B1 := Lib.hid b1
  have H1 := Lib.hid h1
  clear b1 h1 C
  go_wp2_with fail
  refine (weights_ok A1 n c1 xs w1 z hz HD.out h HL.out H1.out HB64.out).mono ?_
  rintro e w2 ⟨A2, c2, rfl, h2, b2⟩
  have B2 := Lib.hid (B1.out.trans (b2.mono B1.out.size))
  have H2 := Lib.hid h2
  clear b2 h2 B1 H1
  go_wp2_with fail
  go_loopw [8, 23] (fun u i wr => ∃ k : Nat, k ≤ n ∧ u = .int .u64 (PoM.sm xs ys z k : Nat) ∧ i = .int .i64 (k : Nat) ∧ Below w.heap.size w wr ∧ Below w2.heap.size w2 wr) (fun _ i _ => n - (intOf i).toNat)
  case atStart => exact ⟨0, Nat.zero_le _, rfl, rfl, B2.out, Below.refl _ _⟩
  case round =>
    obtain ⟨k, hk, rfl, rfl, hb1, hb2⟩ := hrel
    have HB := Lib.hid hb1
    have HB2 := Lib.hid hb2
    clear hb1 hb2
    have hu64 := lt64 (PoM.sm_lt xs ys z k)
    by_cases h0 : k < n
    · obtain ⟨b, o, rfl, g1, g2⟩ := (HA.out.later HB.out (Nat.le_refl _)) k h0
      obtain ⟨b2, o2, rfl, g3⟩ := (H2.out.later HB2.out (Nat.le_refl _)).nat k (by rw [wl_length]; exact h0)
      rw [wl_getD xs z h0] at g3
      have k0 : (0 : Int) ≤ (k : Int) := by omega
      have hst := thr_step xs ys z k
      have hy64 := HY64.out k
      have hw64 := lt64 (PoM.wt_lt xs z k)
      obtain ⟨x, hx⟩ : ∃ x, xs.getD k 0 = x := ⟨_, rfl⟩
      obtain ⟨y, hy⟩ : ∃ y, ys.getD k 0 = y := ⟨_, rfl⟩
      obtain ⟨v, hv⟩ : ∃ v, PoM.wt xs z k = v := ⟨_, rfl⟩
      obtain ⟨u, hu⟩ : ∃ u, PoM.sm xs ys z k = u := ⟨_, rfl⟩
      rw [hx] at g1
      rw [hy] at g2 hy64 hst
      rw [hv] at g3 hw64 hst
      rw [hu] at hst hu64
      rw [hu]
      have HST := Lib.hid hst
      clear hx hy hv hu hst
      have BA := Lib.hid ((Below.refl wr.heap.size wr).alloc (Nat.le_refl _) (.cells #[.int .u64 (x : Nat), .int .u64 (y : Nat)] 47))
      have P := Lib.hid (Holds.new wr 47 #[.int .u64 (x : Nat), .int .u64 (y : Nat)] wr.heap.size rfl)
      have gw : b2 < wr.heap.size := World.block_lt_of_cell? wr _ g3
      have g3' := Lib.hid ((BA.out.cell (p := ⟨b2, o2 + k, none⟩) gw).trans g3)
      go_upto_region 8 with fail
      generalize (wr.alloc (.cells #[.int .u64 (x : Nat), .int .u64 (y : Nat)] 47)) = wx at BA P g3' ⊢
      clear g1 g2 g3
      have p0 : wx.cell? ⟨wr.heap.size, 0, none⟩ = some (.int .u64 (x : Nat)) := P.out.cell 0
      have p1 : wx.cell? ⟨wr.heap.size, 1, none⟩ = some (.int .u64 (y : Nat)) := P.out.cell 1
      have p2 := g3'.out
      go_quiet (first
        | (go_at_call 20; exact Calls.quiet_of_same (Calls.flip (cml y v _ hy64 hw64)))
        | (go_at_call 19; exact Calls.quiet_of_same (Calls.flip (cad u _ _ hu64 (lt64 (PoM.ml_lt _ _))))))
      go_wp2_with fail
      go_round
      case rel => exact ⟨k + 1, by omega, by rw [HST.out], by go_num, HB.out.trans ((BA.out.trans (below_drewN _ _ _)).mono HB.out.size), HB2.out.trans ((BA.out.trans (below_drewN _ _ _)).mono HB2.out.size)⟩
      case measure => simp [intOf]; omega
    · obtain rfl : k = n := by omega
      go_wp2_with fail
      exact bodyPost_ret (v := .tuple #[.int .u64 (PoM.sm xs ys z k : Nat), .nilIface]) (by simp [results, Tryd.results8, go_sem]) rfl ⟨rfl, HB.out⟩
set_option maxRecDepth 100000 in
set_option maxHeartbeats 2000000 in
theorem line_neg (m : Int) (h : m < 0) : Calls Tryd.prog 10 #[.slice A n c, .int .i64 m] w fun e w' => e = .returned (.tuple #[.bool false, .iface 57 (.int .i64 1)]) ∧ w = w' := by
  have hd : decide (m < 0) = true := decide_eq_true h
  go_enter Tryd.func10, Tryd.ntmps10
  go_wp2_with fail
  exact bodyPost_ret (v := .tuple #[.bool false, .iface 57 (.int .i64 1)]) (by simp [results, Tryd.results10, go_sem]) rfl ⟨rfl, rfl⟩
set_option maxRecDepth 100000 in
set_option maxHeartbeats 2000000 in
theorem line_bad (m : Int) (h0 : 0 ≤ m) (f : Int) (hB : Bad xs n f) (hl : xs.length = n) (hm : n ≤ 1000) (ha : Shs w A xs ys n) (hb : ∀ i, xs.getD i 0 < 18446744073709551616) :
    Calls Tryd.prog 10 #[.slice A n c, .int .i64 m] w fun e w' => e = .returned (.tuple #[.bool false, .iface 57 (.int .i64 f)]) ∧ Below w.heap.size w w' := by
  have hd : decide (m < 0) = false := decide_eq_false (by omega)
  have C := Lib.hid (places_any A n c xs ys w hl hm ha)
  have HB := Lib.hid hB
  have HL := Lib.hid hl
  have HB64 := Lib.hid hb
  clear hB hl ha hb
  go_enter Tryd.func10, Tryd.ntmps10
  go_wp2_with fail
  refine C.out.mono ?_
  rintro e w1 ⟨A1, c1, rfl, h1, b1⟩
  have B1 := Lib.hid b1
  have H1 := Lib.hid h1
  clear b1 h1 C
  go_wp2_with fail
  refine (check_bad A1 n c1 xs w1 f HB.out HL.out H1.out HB64.out).mono ?_
  rintro e w2 ⟨rfl, b2⟩
  have B2 := Lib.hid (B1.out.trans (b2.mono B1.out.size))
  clear b2
  go_wp2_with fail
  exact bodyPost_ret (v := .tuple #[.bool false, .iface 57 (.int .i64 f)]) (by simp [results, Tryd.results10, go_sem]) rfl ⟨rfl, B2.out⟩
set_option maxRecDepth 100000 in
set_option maxHeartbeats 2000000 in
theorem line_all (m : Int) (h0 : (n : Int) ≤ m) (hdf : PoM.Dif xs) (h : n ≤ 64) (hl : xs.length = n) (ha : Shs w A xs ys n) (hb : ∀ i, xs.getD i 0 < 18446744073709551616) :
    Calls Tryd.prog 10 #[.slice A n c, .int .i64 m] w fun e w' => e = .returned (.tuple #[.bool true, .nilIface]) ∧ Below w.heap.size w w' := by
  have hd : decide (m < 0) = false := decide_eq_false (by omega)
  have hd2 : decide ((n : Int) ≤ m) = true := decide_eq_true h0
  have C := Lib.hid (places_any A n c xs ys w hl (by omega) ha)
  have HD := Lib.hid hdf
  have HL := Lib.hid hl
  have HB64 := Lib.hid hb
  clear hdf hl hb
  go_enter Tryd.func10, Tryd.ntmps10
  go_wp2_with fail
  refine C.out.mono ?_
  rintro e w1 ⟨A1, c1, rfl, h1, b1⟩
  have B1 := Lib.hid b1
  have H1 := Lib.hid h1
  clear b1 h1 C
  go_wp2_with fail
  refine (check_ok A1 n c1 xs w1 HD.out h HL.out H1.out HB64.out).mono ?_
  rintro e w2 ⟨rfl, b2⟩
  have B2 := Lib.hid (B1.out.trans (b2.mono B1.out.size))
  clear b2
  go_wp2_with fail
  exact bodyPost_ret (v := .tuple #[.bool true, .nilIface]) (by simp [results, Tryd.results10, go_sem]) rfl ⟨rfl, B2.out⟩
/-- the value at a point's place of the curve through the first m points -/
def lv (xs ys : List Nat) (m i : Nat) : Nat := PoM.sm (xs.take m) (ys.take m) (xs.getD i 0) m
set_option maxRecDepth 100000 in
set_option maxHeartbeats 2000000 in
theorem line_ok (m : Nat) (h0 : m < n) (hcc : n ≤ c) (hc9 : c ≤ 9223372036854775807) (hdf : PoM.Dif xs) (h : n ≤ 64) (hl : xs.length = n) (ha : Shs w A xs ys n) (hb : ∀ i, xs.getD i 0 < 18446744073709551616) (hy : ∀ i, ys.getD i 0 < 18446744073709551616) :
    Calls Tryd.prog 10 #[.slice A n c, .int .i64 (m : Nat)] w fun e w' => ∃ bb : Bool, e = .returned (.tuple #[.bool bb, .nilIface]) ∧ (bb = true ↔ ∀ i, m ≤ i → i < n → lv xs ys m i = ys.getD i 0 % FpM.p) ∧ Below w.heap.size w w' := by
  have hd : decide ((m : Int) < 0) = false := decide_eq_false (by omega)
  have hd2 : decide ((n : Int) ≤ (m : Int)) = false := decide_eq_false (by omega)
  have hd3 : decide (n ≤ m) = false := decide_eq_false (by omega)
  have HA := Lib.hid ha
  have HY64 := Lib.hid hy
  clear hy
  have C := Lib.hid (places_any A n c xs ys w hl (by omega) ha)
  have HD := Lib.hid hdf
  have HL := Lib.hid hl
  have HB64 := Lib.hid hb
  clear hdf hl hb
  go_enter Tryd.func10, Tryd.ntmps10
  go_wp2_with fail
  refine C.out.mono ?_
  rintro e w1 ⟨A1, c1, rfl, h1, b1⟩
  have B1 := Lib.hid b1
  have H1 := Lib.hid h1
  clear b1 h1 C
  go_wp2_with fail
  refine (check_ok A1 n c1 xs w1 HD.out h HL.out H1.out HB64.out).mono ?_
  rintro e w2 ⟨rfl, b2⟩
  have B2 := Lib.hid (B1.out.trans (b2.mono B1.out.size))
  clear b2
  obtain ⟨b, o, rfl, _, _⟩ := ha m h0
  clear ha
  have hm0 : (0 : Int) ≤ (m : Int) := by omega
  have hmn : (m : Int) ≤ (n : Int) := by omega
  have hmc : m ≤ c := by omega
  have hnm : ¬ c = m := by omega
  go_wp2_with fail
  obtain ⟨dd, hdd⟩ : ∃ dd, n - m = dd := ⟨_, rfl⟩
  rw [hdd]
  have HDD := Lib.hid hdd
  have hdd64 : dd ≤ 64 := by omega
  clear hdd
  go_loopw [28] (fun i wr => ∃ j : Nat, j ≤ dd ∧ i = .int .i64 (j : Nat) ∧ (∀ i, m ≤ i → i < m + j → lv xs ys m i = ys.getD i 0 % FpM.p) ∧ Below w.heap.size w wr) (fun i _ => dd - (intOf i).toNat)
  case atStart => exact ⟨0, Nat.zero_le _, rfl, fun i h1 h2 => by omega, B2.out⟩
  case round =>
    obtain ⟨j, hj, rfl, hal, hbel⟩ := hrel
    have HAL := Lib.hid hal
    have HB := Lib.hid hbel
    clear hal hbel B2
    by_cases hjd : j < dd
    · obtain ⟨b', o', e', g1, g2⟩ := (HA.out.later HB.out (Nat.le_refl _)) (m + j) (by have := HDD.out; omega)
      injection e' with e'; injection e' with a1 a2; subst a1; subst a2
      rw [show o + (m + j) * 2 = o + m * 2 + j * 2 by omega] at g1 g2
      have j0 : (0 : Int) ≤ (j : Int) := by omega
      have hx64 := HB64.out (m + j)
      have hy64 := HY64.out (m + j)
      have hlv := (show lv xs ys m (m + j) = PoM.sm (xs.take m) (ys.take m) (xs.getD (m + j) 0) m from rfl)
      obtain ⟨x, hx⟩ : ∃ x, xs.getD (m + j) 0 = x := ⟨_, rfl⟩
      obtain ⟨y, hy⟩ : ∃ y, ys.getD (m + j) 0 = y := ⟨_, rfl⟩
      rw [hx] at g1 hx64 hlv
      rw [hy] at g2 hy64
      have TC0 := fun (W : World) (hW : Below w.heap.size w W) => through_ok (some ⟨b, o, none⟩) m c (xs.take m) (ys.take m) W x hx64 (Dif_take HD.out m) (by omega) (by rw [List.length_take, HL.out]; omega) ((HA.out.later hW (Nat.le_refl _)).take (by omega)) (take_lt (by decide) HB64.out m) (take_lt (by decide) HY64.out m)
      have hq64 := PoM.sm_lt (xs.take m) (ys.take m) x m
      obtain ⟨q, hq⟩ : ∃ q, PoM.sm (xs.take m) (ys.take m) x m = q := ⟨_, rfl⟩
      rw [hq] at TC0 hlv hq64
      have FO := fpOf_any y
      obtain ⟨v, hv⟩ : ∃ v, y % 2305843009213693951 = v := ⟨_, rfl⟩
      rw [hv] at FO
      have HV := Lib.hid hv
      have FOH := Lib.hid FO
      have HY := Lib.hid hy
      have HLV := Lib.hid hlv
      have HX0 := Lib.hid hx
      clear hx hq hlv hy hv FO
      have BA := Lib.hid (HB.out.alloc HB.out.size (.cells #[.int .u64 (x : Nat), .int .u64 (y : Nat)] 47))
      have P := Lib.hid (Holds.new wr 47 #[.int .u64 (x : Nat), .int .u64 (y : Nat)] wr.heap.size rfl)
      go_upto_region 11 with fail
      generalize (wr.alloc (.cells #[.int .u64 (x : Nat), .int .u64 (y : Nat)] 47)) = wp at BA P ⊢
      generalize wr.heap.size = pq at P ⊢
      clear g1 g2 HB
      have TC := Lib.hid (fun (W : World) (hW : Below wp.heap.size wp W) => TC0 W (BA.out.trans (hW.mono BA.out.size)))
      clear TC0
      go_cut [9, 10] from 32 to 49 (fun a b wx => a = .int .u64 (q : Nat) ∧ b = .nilIface ∧ Below wp.heap.size wp wx)
      case first =>
        go_wp2_with fail
        refine wp_region_below [is ?c0, is ?c1, is ?c2, is ?c3, is ?c4, is (.tuple #[.int .u64 (q : Nat), .nilIface]), is ?c6, is ?c7, is ?c8, is ?c9, is ?c10]
          [⟨[], [0], none⟩, ⟨[], [1], none⟩, ⟨[(33, 0), (34, 1)], [], none⟩, ⟨[], [8], none⟩, ⟨[(36, 3)], [], none⟩, ⟨[(35, 2), (37, 4)], [], none⟩, ⟨[(38, 5)], [], none⟩, ⟨[(32, 6)], [], none⟩, ⟨[(32, 6)], [], none⟩, ⟨[(39, 7)], [], none⟩, ⟨[(40, 8)], [], none⟩] (by kernel_rfl) (by kernel_rfl) (by kernel_rfl) (by kernel_rfl) (by kernel_rfl) ?monoc ?stepsc ?finc
        case monoc => exact ⟨mono_eq _, mono_eq _, mono_eq _, mono_eq _, mono_eq _, mono_eq _, mono_eq _, mono_eq _, mono_eq _, mono_eq _, mono_eq _, trivial⟩
        case stepsc =>
          refine ⟨fun ρ W ⟨hcst, hglb, hfun⟩ hX hp ho => ?_, ?_⟩ -- 0: slot 33 := Op.move t0
          · obtain ⟨o0, -⟩ := ho
            change ρ (.tmp 0) = _ at o0
            refine turn_plain (ok_is ?_ rfl)
            simp only [execOp, o0]; go_simp; try exact rfl
          refine ⟨fun ρ W ⟨hcst, hglb, hfun⟩ hX hp ho => ?_, ?_⟩ -- 1: slot 34 := Op.move t1
          · obtain ⟨o1, -⟩ := ho
            change ρ (.tmp 1) = _ at o1
            refine turn_plain (ok_is ?_ rfl)
            simp only [execOp, o1]; go_simp; try exact rfl
          refine ⟨fun ρ W ⟨hcst, hglb, hfun⟩ hX hp ho => ?_, ?_⟩ -- 2: slot 35 := Op.slice 28 t33 none (some t34) none
          · obtain ⟨p33, p34, -⟩ := hp
            change ρ (.tmp 33) = _ at p33
            change ρ (.tmp 34) = _ at p34
            refine turn_plain (ok_is ?_ rfl)
            simp only [execOp, p33, p34]; go_simp; try exact rfl
          refine ⟨fun ρ W ⟨hcst, hglb, hfun⟩ hX hp ho => ?_, ?_⟩ -- 3: slot 36 := Op.fieldAddr 47 t8 0
          · obtain ⟨o8, -⟩ := ho
            change ρ (.tmp 8) = _ at o8
            refine turn_plain (ok_is ?_ rfl)
            simp only [execOp, o8]; go_simp; try exact rfl
          refine ⟨fun ρ W ⟨hcst, hglb, hfun⟩ hX hp ho => ?_, ?_⟩ -- 4: slot 37 := Op.load 24 t36
          · obtain ⟨p36, -⟩ := hp
            change ρ (.tmp 36) = _ at p36
            have p0 := (hX.cell (p := ⟨pq, 0, none⟩) P.out.lt).trans (P.out.cell 0)
            simp only [List.getElem?_toArray, List.getElem?_cons_zero, List.getElem?_cons_succ] at p0
            refine turn_plain (ok_is ?_ rfl)
            simp only [execOp, p36]; go_simp; try exact rfl
          refine ⟨fun ρ W ⟨hcst, hglb, hfun⟩ hX hp ho => ?_, ?_⟩ -- 5: slot 38 := Op.call { value (Operand.func 8), args := #[t35, t37], argTypes := #[28, 24] }
          · obtain ⟨p35, p37, -⟩ := hp
            change ρ (.tmp 35) = _ at p35
            change ρ (.tmp 37) = _ at p37
            have hW := (Below.refl _ _).drew.trans hX
            refine turn_plain ?_
            have ce := @enter_of Tryd.prog 8 _ Tryd.func8 (by kernel_rfl) (by kernel_rfl)
            refine ok_call (op_call2 hfun ce (by exact rfl) p35 p37) ?_
            refine (TC.out W hW).mono ?_
            rintro e W' ⟨rfl, bel⟩
            exact ⟨_, rfl, bel, rfl⟩
          refine ⟨fun ρ W ⟨hcst, hglb, hfun⟩ hX hp ho => ?_, ?_⟩ -- 6: slot 32 := Op.move t38
          · obtain ⟨p38, -⟩ := hp
            change ρ (.tmp 38) = _ at p38
            refine turn_plain (ok_is ?_ rfl)
            simp only [execOp, p38]; go_simp; try exact rfl
          refine ⟨fun ρ W ⟨hcst, hglb, hfun⟩ hX hp ho => ?_, ?_⟩ -- 7: slot 39 := Op.extract t32 0
          · obtain ⟨p32, -⟩ := hp
            change ρ (.tmp 32) = _ at p32
            refine turn_plain (ok_is ?_ rfl)
            simp only [execOp, p32]; go_simp; try exact rfl
          refine ⟨fun ρ W ⟨hcst, hglb, hfun⟩ hX hp ho => ?_, ?_⟩ -- 8: slot 40 := Op.extract t32 1
          · obtain ⟨p32, -⟩ := hp
            change ρ (.tmp 32) = _ at p32
            refine turn_plain (ok_is ?_ rfl)
            simp only [execOp, p32]; go_simp; try exact rfl
          refine ⟨fun ρ W ⟨hcst, hglb, hfun⟩ hX hp ho => ?_, ?_⟩ -- 9: slot 9 := Op.assign t39
          · obtain ⟨p39, -⟩ := hp
            change ρ (.tmp 39) = _ at p39
            refine turn_plain (ok_is ?_ rfl)
            simp only [execOp, p39]; go_simp; try exact rfl
          refine ⟨fun ρ W ⟨hcst, hglb, hfun⟩ hX hp ho => ?_, ?_⟩ -- 10: slot 10 := Op.assign t40
          · obtain ⟨p40, -⟩ := hp
            change ρ (.tmp 40) = _ at p40
            refine turn_plain (ok_is ?_ rfl)
            simp only [execOp, p40]; go_simp; try exact rfl
          exact trivial
        case finc =>
          rintro v W hX ⟨f0, f1, f2, f3, f4, f5, f6, f7, f8, f9, f10, -⟩
          simp only [is] at f0 f1 f2 f3 f4 f5 f6 f7 f8 f9 f10
          simp only [putAll, Act.put, List.setIfInBounds_toArray, List.set_cons_succ, List.set_cons_zero, f0, f1, f2, f3, f4, f5, f6, f7, f8, f9, f10]
          clear f0 f1 f2 f3 f4 f5 f6 f7 f8 f9 f10
          go_wp2_with fail
          go_meet
          exact ⟨rfl, rfl, hX⟩
      case rest =>
        obtain ⟨rfl, rfl, bel⟩ := hcut
        have P2 := Lib.hid (P.out.later bel (Nat.le_refl _))
        have BB := Lib.hid (BA.out.trans (bel.mono BA.out.size))
        clear bel BA P TC
        have p1 : wc.cell? ⟨pq, 1, none⟩ = some (.int .u64 (y : Nat)) := P2.out.cell 1
        go_wp2_with fail
        refine (FOH.out _ hy64).mono ?_
        rintro e w' ⟨rfl, rfl⟩
        by_cases he : q = v
        · have HE := Lib.hid he
          have d1 : ((q : Int) == (v : Int)) = true := by simp [he]
          have d2 : (q == v) = true := by simp [he]
          have d3 : decide (q = v) = true := by simp [he]
          clear he
          go_wp2_with fail
          go_round
          case rel => exact ⟨j + 1, by omega, by go_num, fun i h1 h2 => by
              by_cases e : i = m + j
              · subst e; rw [HLV.out, HY.out]; exact HE.out.trans HV.out.symm
              · exact HAL.out i h1 (by omega), BB.out⟩
          case measure => simp [intOf]; omega
        · have HE := Lib.hid he
          have d1 : ((q : Int) == (v : Int)) = false := by simp; omega
          have d2 : (q == v) = false := by simp; omega
          have d3 : decide (q = v) = false := by simp; omega
          clear he
          go_wp2_with fail
          exact bodyPost_ret (v := .tuple #[.bool false, .nilIface]) (by simp [results, Tryd.results10, go_sem]) rfl ⟨false, rfl, ⟨fun h => (by cases h), fun h => absurd ((HLV.out.symm.trans (h (m + j) (by omega) (by have := HDD.out; omega))).trans (by rw [HY.out]; exact HV.out)) HE.out⟩, BB.out⟩
    · obtain rfl : j = dd := by omega
      go_wp2_with fail
      exact bodyPost_ret (v := .tuple #[.bool true, .nilIface]) (by simp [results, Tryd.results10, go_sem]) rfl ⟨true, rfl, ⟨fun _ i h1 h2 => HAL.out i h1 (by have := HDD.out; omega), fun _ => rfl⟩, HB.out⟩
end
end Go.Proofs.YtnofckhljoghpaaDoor
