/- Layer 3: PolyTells. -/
import Derived.Test.YtnofckhljoghpaaDoorPoI
import Derived.Test.YtnofckhljoghpaaDoorRegionB
import Derived.Deep.CutRange
namespace Go.Proofs.YtnofckhljoghpaaDoor
open Go.RowKit
open PoM (ml ad sb iv)
/-- one point is worth something, the others are not -/
def ind (k n : Nat) : List Nat := (List.range n).map fun i => if i = k then 1 else 0
theorem ind_getD (k n i : Nat) (h : i < n) : (ind k n).getD i 0 = if i = k then 1 else 0 := map_range_getD _ h
theorem ind_lt (k n : Nat) : ∀ i, (ind k n).getD i 0 < 18446744073709551616 := by
  intro i
  by_cases hi : i < n
  · rw [ind_getD k n i hi]; split <;> decide
  · rw [List.getD_eq_getElem?_getD, List.getElem?_eq_none (by simp [ind]; omega)]; decide
theorem ml_zero (a : Nat) : ml 0 a = 0 := by simp [ml]
theorem ml_one {a : Nat} (h : a < FpM.p) : ml 1 a = a := by
  show 1 * a % FpM.p = a
  rw [Nat.one_mul, Nat.mod_eq_of_lt h]
theorem ad_zero {a : Nat} (h : a < FpM.p) : ad a 0 = a := by
  show (a + 0) % FpM.p = a
  rw [Nat.add_zero, Nat.mod_eq_of_lt h]
theorem zero_ad {a : Nat} (h : a < FpM.p) : ad 0 a = a := by
  show (0 + a) % FpM.p = a
  rw [Nat.zero_add, Nat.mod_eq_of_lt h]
theorem sm_ind (xs : List Nat) (z k n : Nat) : ∀ j, j ≤ n → PoM.sm xs (ind k n) z j = if k < j then PoM.wt xs z k else 0
  | 0, _ => by rw [if_neg (Nat.not_lt_zero _)]; rfl
  | j + 1, h => by
    have ih := sm_ind xs z k n j (by omega)
    rw [thr_step, ih, ind_getD k n j (by omega)]
    by_cases e : j = k
    · subst e
      rw [if_pos rfl, if_neg (Nat.lt_irrefl _), if_pos (Nat.lt_succ_self _), ml_one (PoM.wt_lt _ _ _), zero_ad (PoM.wt_lt _ _ _)]
    · rw [if_neg e, ml_zero]
      by_cases e2 : k < j
      · rw [if_pos e2, if_pos (by omega), ad_zero (PoM.wt_lt _ _ _)]
      · rw [if_neg e2, if_neg (by omega), ad_zero FpM.p_pos]
set_option maxRecDepth 100000 in
set_option maxHeartbeats 4000000 in
theorem ptells_short (A0 : Option Addr) (nc c0 : Nat) (cl : List Nat) (A : Option Addr) (n c : Nat) (xs ys : List Nat) (z : Nat) (m : Int) (w : World) (hg : Glob w) (h : 40 < nc ∨ (16 < n ∧ n ≤ 64) ∨ 100 < n) :
    Calls Tryd.prog 3 #[.slice A0 nc c0, .slice A n c, .agg #[.int .u64 (z : Nat), .int .i64 m]] w fun e w' => e = .returned (.bool true) ∧ Below w.heap.size w w' := by
  have HG := Lib.hid hg
  clear hg
  by_cases h1 : 40 < nc
  · clear h
    have d1 : decide (40 < (nc : Int)) = true := decide_eq_true (by omega)
    have BA := Lib.hid ((Below.refl w.heap.size w).alloc (Nat.le_refl _) (.cells #[.int .u64 (z : Nat), .int .i64 m] 26))
    go_enter Tryd.func3, Tryd.ntmps3
    go_wp2_with fail
    refine (sure03 _ (HG.out.later BA.out (Nat.le_refl _))).mono ?_
    rintro e w1 ⟨rfl, b1⟩
    have BB := Lib.hid (BA.out.trans (b1.mono BA.out.size))
    clear b1
    go_wp2_with fail
    go_ret
    exact ⟨rfl, BB.out⟩
  · by_cases h2 : 16 < n ∧ n ≤ 64
    · clear h
      have d1 : decide (40 < (nc : Int)) = false := decide_eq_false (by omega)
      have d2 : decide (16 < (n : Int)) = true := decide_eq_true (by omega)
      have d3 : decide ((n : Int) ≤ 64) = true := decide_eq_true (by omega)
      have BA := Lib.hid ((Below.refl w.heap.size w).alloc (Nat.le_refl _) (.cells #[.int .u64 (z : Nat), .int .i64 m] 26))
      go_enter Tryd.func3, Tryd.ntmps3
      go_wp2_with fail
      refine (sure03 _ (HG.out.later BA.out (Nat.le_refl _))).mono ?_
      rintro e w1 ⟨rfl, b1⟩
      have BB := Lib.hid (BA.out.trans (b1.mono BA.out.size))
      clear b1
      go_wp2_with fail
      go_ret
      exact ⟨rfl, BB.out⟩
    · have h3 : 100 < n := by omega
      clear h h2
      have d1 : decide (40 < (nc : Int)) = false := decide_eq_false (by omega)
      have d2 : decide (16 < (n : Int)) = true := decide_eq_true (by omega)
      have d3 : decide ((n : Int) ≤ 64) = false := decide_eq_false (by omega)
      have d4 : decide (100 < (n : Int)) = true := decide_eq_true (by omega)
      have BA := Lib.hid ((Below.refl w.heap.size w).alloc (Nat.le_refl _) (.cells #[.int .u64 (z : Nat), .int .i64 m] 26))
      go_enter Tryd.func3, Tryd.ntmps3
      go_wp2_with fail
      refine (sure03 _ (HG.out.later BA.out (Nat.le_refl _))).mono ?_
      rintro e w1 ⟨rfl, b1⟩
      have BB := Lib.hid (BA.out.trans (b1.mono BA.out.size))
      clear b1
      go_wp2_with fail
      go_ret
      exact ⟨rfl, BB.out⟩
set_option maxRecDepth 100000 in
set_option maxHeartbeats 4000000 in
theorem ptells_in (A0 : Option Addr) (nc c0 : Nat) (cl : List Nat) (A : Option Addr) (n c : Nat) (xs ys : List Nat) (z : Nat) (m : Int) (w : World) (hg : Glob w) (h1 : nc ≤ 40) (h2 : n ≤ 16 ∨ (64 < n ∧ n ≤ 100)) (hl0 : cl.length = nc) (a0 : At w A0 (nats .u64 cl)) (b0 : ∀ i, cl.getD i 0 < 18446744073709551616)
    (hl : xs.length = n) (ha : Shs w A xs ys n) (hx : ∀ i, xs.getD i 0 < 18446744073709551616) (hy : ∀ i, ys.getD i 0 < 18446744073709551616) (hcc : n ≤ c) (hc9 : c ≤ 9223372036854775807) (hz : z < 18446744073709551616) :
    Calls Tryd.prog 3 #[.slice A0 nc c0, .slice A n c, .agg #[.int .u64 (z : Nat), .int .i64 m]] w fun e w' => e = .returned (.bool true) ∧ Below w.heap.size w w' := by
  have HG := Lib.hid hg
  have HL := Lib.hid hl
  have HA := Lib.hid ha
  have HX := Lib.hid hx
  have HY := Lib.hid hy
  have hn100 : n ≤ 100 := by omega
  have HFC := Lib.hid (fOf_cases xs n)
  have E1 := fun (W : World) (hW : Below w.heap.size w W) => peval_any A0 nc c0 cl z W hl0 (by omega) (a0.later hW (Nat.le_refl _)) b0 hz
  have E2 := fun (W : World) (hW : Below w.heap.size w W) => reval_any A0 nc c0 cl z W hl0 (by omega) (a0.later hW (Nat.le_refl _)) b0 hz
  have T1 := fun (W : World) (A' : Option Addr) (c' : Nat) (h : Shs W A' xs ys n) => through_any A' n c' xs ys W z hz (by omega) hl h hx hy
  have T2 := fun (W : World) (A' : Option Addr) (c' : Nat) (h : Shs W A' xs ys n) => rthrough_any A' n c' xs ys W z hz (by omega) hl h hx hy
  have L1 := fun (W : World) (A' : Option Addr) (c' : Nat) (h : Shs W A' xs ys n) (k1 : n ≤ c') (k2 : c' ≤ 9223372036854775807) => line_any A' n c' xs ys W m (by omega) k1 k2 hl h hx hy
  have L2 := fun (W : World) (A' : Option Addr) (c' : Nat) (h : Shs W A' xs ys n) (k1 : n ≤ c') (k2 : c' ≤ 9223372036854775807) => rline_any A' n c' xs ys W m (by omega) k1 k2 hl h hx hy
  have W1 := fun (W : World) (A' : Option Addr) (c' : Nat) (h : At W A' (nats .u64 xs)) => weights_any A' n c' xs W z hz hl h hx
  have N1 := fun (W : World) (h : Glob W) => num_er (fOf xs n) W h
  have N2 := fun (W : World) (h : Glob W) => num_er (lnF xs n m) W h
  unfold WtP at W1
  obtain ⟨q, hq⟩ : ∃ q, PoM.hor cl z = q := ⟨_, rfl⟩
  obtain ⟨u, hu⟩ : ∃ u, thV xs ys z n = u := ⟨_, rfl⟩
  obtain ⟨f, hf⟩ : ∃ f, fOf xs n = f := ⟨_, rfl⟩
  obtain ⟨bb, hbb⟩ : ∃ bb, lnB xs ys n m = bb := ⟨_, rfl⟩
  obtain ⟨h, hh⟩ : ∃ h, lnF xs n m = h := ⟨_, rfl⟩
  rw [hq] at E1 E2
  rw [hu, hf] at T1 T2
  rw [hbb, hh] at L1 L2
  rw [hf] at W1 N1 HFC
  rw [hh] at N2
  obtain ⟨ve, hve⟩ : ∃ ve, erV f = ve := ⟨_, rfl⟩
  obtain ⟨vh, hvh⟩ : ∃ vh, erV h = vh := ⟨_, rfl⟩
  rw [hve] at T1 W1 N1
  rw [hvh] at L1 N2
  have HE1 := Lib.hid E1
  have HE2 := Lib.hid E2
  have HT1 := Lib.hid T1
  have HT2 := Lib.hid T2
  have HL1 := Lib.hid L1
  have HL2 := Lib.hid L2
  have HW1 := Lib.hid W1
  have HN1 := Lib.hid N1
  have HN2 := Lib.hid N2
  clear E1 E2 T1 T2 L1 L2 W1 N1 N2 hq hu hf hbb hh hve hvh hl ha hx hy hg a0 b0 hl0
  have BA := Lib.hid ((Below.refl w.heap.size w).alloc (Nat.le_refl _) (.cells #[.int .u64 (z : Nat), .int .i64 m] 26))
  have PA := Lib.hid (Holds.new w 26 #[.int .u64 (z : Nat), .int .i64 m] w.heap.size rfl)
  go_enter Tryd.func3, Tryd.ntmps3
  go_upto_region 1 with fail
  generalize (w.alloc (.cells #[.int .u64 (z : Nat), .int .i64 m] 26)) = wa at *
  go_cut [42] from 25 to 42 (fun cv wx => cv = .bool false ∧ wa = wx)
  case first =>
    have d1 : decide (40 < (nc : Int)) = false := decide_eq_false (by omega)
    by_cases h3 : n ≤ 16
    · have d2 : decide (16 < (n : Int)) = false := decide_eq_false (by omega)
      have d4 : decide (100 < (n : Int)) = false := decide_eq_false (by omega)
      go_wp2_with fail
      go_meet
      exact ⟨rfl, rfl⟩
    · have d2 : decide (16 < (n : Int)) = true := decide_eq_true (by omega)
      have d3 : decide ((n : Int) ≤ 64) = false := decide_eq_false (by omega)
      have d4 : decide (100 < (n : Int)) = false := decide_eq_false (by omega)
      go_wp2_with fail
      go_meet
      exact ⟨rfl, rfl⟩
  case rest =>
  obtain ⟨rfl, rfl⟩ := hcut
  go_wp2_with fail
  refine (give_any A n c xs ys wa (by omega) (HA.out.later BA.out (Nat.le_refl _))).mono ?_
  rintro e w1 ⟨A1, c1, rfl, s1, k1, k2, b1⟩
  have B1 := Lib.hid (BA.out.trans (b1.mono BA.out.size))
  have P1 := Lib.hid (PA.out.later b1 (Nat.le_refl _))
  have S1 := Lib.hid s1
  have hk2 := k2
  unfold maxLen at hk2
  clear b1 s1 k2 BA PA
  have p0 : w1.cell? ⟨w.heap.size, 0, none⟩ = some (.int .u64 (z : Nat)) := P1.out.cell 0
  go_wp2_with fail
  with_reducible refine (HT1.out w1 A1 c1 S1.out).mono ?_
  rintro e w2 ⟨rfl, b2⟩
  have B2 := Lib.hid (B1.out.trans (b2.mono B1.out.size))
  have P2 := Lib.hid (P1.out.later b2 (Nat.le_refl _))
  have S2 := Lib.hid (S1.out.later b2 (Nat.le_refl _))
  clear b2 p0 B1 P1 S1
  have p0 : w2.cell? ⟨w.heap.size, 0, none⟩ = some (.int .u64 (z : Nat)) := P2.out.cell 0
  go_wp2_with fail
  with_reducible refine (HT2.out w2 A c (HA.out.later B2.out (Nat.le_refl _))).mono ?_
  rintro e w3 ⟨rfl, b3⟩
  have B3 := Lib.hid (B2.out.trans (b3.mono B2.out.size))
  have P3 := Lib.hid (P2.out.later b3 (Nat.le_refl _))
  have S3 := Lib.hid (S2.out.later b3 (Nat.le_refl _))
  clear b3 p0 B2 P2 S2
  have p1 : w3.cell? ⟨w.heap.size, 1, none⟩ = some (.int .i64 m) := P3.out.cell 1
  go_wp2_with fail
  with_reducible refine (HL1.out w3 A1 c1 S3.out k1 hk2).mono ?_
  rintro e w4 ⟨rfl, b4⟩
  have B4 := Lib.hid (B3.out.trans (b4.mono B3.out.size))
  have P4 := Lib.hid (P3.out.later b4 (Nat.le_refl _))
  clear b4 p1 B3 P3 S3
  have p1 : w4.cell? ⟨w.heap.size, 1, none⟩ = some (.int .i64 m) := P4.out.cell 1
  go_wp2_with fail
  with_reducible refine (HL2.out w4 A c (HA.out.later B4.out (Nat.le_refl _)) hcc hc9).mono ?_
  rintro e w5 ⟨rfl, b5⟩
  have B5 := Lib.hid (B4.out.trans (b5.mono B4.out.size))
  have P5 := Lib.hid (P4.out.later b5 (Nat.le_refl _))
  clear b5 p1 B4 P4
  go_wp2_with fail
  go_loopw [16, 17] (fun ov i wr => ∃ (k : Nat) (A' : Option Addr) (c' : Nat), k ≤ n ∧ ov = .slice A' k c' ∧ i = .int .i64 (k : Nat) ∧ Own wr w5.heap.size 24 1 A' k c' (nats .u64 (xs.take k)) ∧ Below w5.heap.size w5 wr) (fun _ i _ => n - (intOf i).toNat)
  case atStart => exact ⟨0, none, 0, Nat.zero_le _, rfl, rfl, by simpa [nats] using Own.none_ w5 w5.heap.size 24 1, Below.refl _ _⟩
  case round =>
  obtain ⟨k, A', c', hk, rfl, rfl, hown, hbel⟩ := hrel
  have HO := Lib.hid hown
  have HB := Lib.hid hbel
  clear hown hbel
  by_cases h0 : k < n
  · obtain ⟨b, o, rfl, g1, g2⟩ := (HA.out.later (B5.out.trans (HB.out.mono B5.out.size)) (Nat.le_refl _)) k h0
    have k0 : (0 : Int) ≤ (k : Int) := by omega
    have hsn := nats_snoc xs k (by rw [HL.out]; exact h0)
    obtain ⟨x, hx⟩ : ∃ x, xs.getD k 0 = x := ⟨_, rfl⟩
    rw [hx] at g1 hsn
    have HSN := Lib.hid hsn
    clear hsn hx g2
    go_wp2_with (at_builtin; go_loud (refine wpList_app rfl elt_u64 w5.heap.size (.tmp 80) (.tmp 86) rfl _ rfl (HO.out.alloc _) [.int .u64 (x : Nat)] rfl (At.lit _ _ _ _ _ rfl) rfl (by intro u hu; simp at hu; subst hu; rfl) (by unfold maxLen; omega) (by omega) (by have h5 := HB.out.size; simp; omega) ?_; intro A3 c3 w6 own3 g3 _; have B3 := Lib.hid ((HB.out.alloc HB.out.size (.cells #[.int .u64 (x : Nat)] 24)).grown g3 (by have h5 := (HB.out.alloc HB.out.size (.cells #[.int .u64 (x : Nat)] 24)).size; exact h5) (by intro j e; exact (HO.out.lt j e).1)); have O3 := Lib.hid own3; clear own3 g3))
    go_round
    case rel => exact ⟨k + 1, A3, c3, by omega, rfl, by go_num, HSN.out ▸ O3.out, B3.out⟩
    case measure => simp [intOf]; omega
  · obtain rfl : k = n := by omega
    have XA := Lib.hid (show At wr A' (nats .u64 xs) from by have h := HO.out.at_; rwa [List.take_of_length_le (by rw [HL.out]; exact Nat.le_refl _)] at h)
    have B6 := Lib.hid (B5.out.trans (HB.out.mono B5.out.size))
    have P6 := Lib.hid (P5.out.later HB.out (Nat.le_refl _))
    clear HO HB B5 P5
    have p0 : wr.cell? ⟨w.heap.size, 0, none⟩ = some (.int .u64 (z : Nat)) := P6.out.cell 0
    go_wp2_with fail
    with_reducible refine (HW1.out wr A' c' XA.out).mono ?_
    rintro e w7 ⟨Aw, mw, cw, rfl, i1, i2, b7⟩
    have I1 := Lib.hid i1
    have I2 := Lib.hid i2
    have BW := Lib.hid (B6.out.trans (b7.mono B6.out.size))
    have PB := Lib.hid (P6.out.later b7 (Nat.le_refl _))
    have GW := Lib.hid (HG.out.later BW.out (Nat.le_refl _))
    clear i1 i2 b7 p0 B6 P6 XA
    go_upto_region 14 with fail
    go_cut [131] from 95 to 131 (fun cv wx => cv = .bool false ∧ Below w7.heap.size w7 wx)
    case first =>
      go_wp2_with fail
      refine wp_region_below [is ?c0, is ?c1, is ?c2, is (.int .u64 (q : Nat)), is ?c4, is ?c5, is ?c6, is (.int .u64 (q : Nat)), is ?c8, is ?c9, is ?c10, is ?c11, is ?c12, is ?c13, is ?c14, is ?c15, is (.int .i64 f), is ?c17, is ?c18, is ?c19, is ?c20, is ?c21, is ?c22, is ?c23, is ?c24, is ?c25, is ?c26, is (.int .i64 h), is ?c28, is ?c29, is ?c30, is ?c31, is ?c32, is (.int .i64 f), is ?c34, is ?c35, is ?c36]
        [⟨[], [0], none⟩, ⟨[], [5], none⟩, ⟨[(96, 1)], [], none⟩, ⟨[(95, 0), (97, 2)], [], none⟩, ⟨[], [0], none⟩, ⟨[], [5], none⟩, ⟨[(100, 5)], [], none⟩, ⟨[(99, 4), (101, 6)], [], none⟩, ⟨[(98, 3), (102, 7)], [], none⟩, ⟨[(103, 8)], [], none⟩, ⟨[(104, 9)], [8], some (104, false)⟩, ⟨[(104, 9)], [10], some (104, false)⟩, ⟨[(105, 10), (106, 11), (104, 9)], [], some (104, false)⟩, ⟨[(104, 9), (107, 12)], [], none⟩, ⟨[(108, 13)], [], none⟩, ⟨[(109, 14)], [9], some (109, false)⟩, ⟨[(110, 15), (109, 14)], [], some (109, false)⟩, ⟨[(109, 14)], [11], some (109, false)⟩, ⟨[(111, 16), (112, 17), (109, 14)], [], some (109, false)⟩, ⟨[(109, 14), (113, 18)], [], none⟩, ⟨[(114, 19)], [], none⟩, ⟨[(115, 20)], [12], some (115, false)⟩, ⟨[(115, 20)], [14], some (115, false)⟩, ⟨[(116, 21), (117, 22), (115, 20)], [], some (115, false)⟩, ⟨[(115, 20), (118, 23)], [], none⟩, ⟨[(119, 24)], [], none⟩, ⟨[(120, 25)], [13], some (120, false)⟩, ⟨[(121, 26), (120, 25)], [], some (120, false)⟩, ⟨[(120, 25)], [15], some (120, false)⟩, ⟨[(122, 27), (123, 28), (120, 25)], [], some (120, false)⟩, ⟨[(120, 25), (124, 29)], [], none⟩, ⟨[(125, 30)], [], none⟩, ⟨[(126, 31)], [19], some (126, false)⟩, ⟨[(127, 32), (126, 31)], [], some (126, false)⟩, ⟨[(126, 31)], [11], some (126, false)⟩, ⟨[(128, 33), (129, 34), (126, 31)], [], some (126, false)⟩, ⟨[(126, 31), (130, 35)], [], none⟩] (by kernel_rfl) (by kernel_rfl) (by kernel_rfl) (by kernel_rfl) (by kernel_rfl) ?monoc ?stepsc ?finc
      case monoc => exact ⟨mono_eq _, mono_eq _, mono_eq _, mono_eq _, mono_eq _, mono_eq _, mono_eq _, mono_eq _, mono_eq _, mono_eq _, mono_eq _, mono_eq _, mono_eq _, mono_eq _, mono_eq _, mono_eq _, mono_eq _, mono_eq _, mono_eq _, mono_eq _, mono_eq _, mono_eq _, mono_eq _, mono_eq _, mono_eq _, mono_eq _, mono_eq _, mono_eq _, mono_eq _, mono_eq _, mono_eq _, mono_eq _, mono_eq _, mono_eq _, mono_eq _, mono_eq _, mono_eq _, trivial⟩
      case stepsc =>
        refine ⟨fun ρ W ⟨hcst, hglb, hfun⟩ hX hp ho => ?_, ?_⟩ -- 0: slot 95 := Op.move t0
        · obtain ⟨o0, -⟩ := ho
          change ρ (.tmp 0) = _ at o0
          refine turn_plain (ok_is ?_ rfl)
          simp only [execOp, o0]; go_simp; try exact rfl
        refine ⟨fun ρ W ⟨hcst, hglb, hfun⟩ hX hp ho => ?_, ?_⟩ -- 1: slot 96 := Op.fieldAddr 26 t5 0
        · obtain ⟨o5, -⟩ := ho
          change ρ (.tmp 5) = _ at o5
          refine turn_plain (ok_is ?_ rfl)
          simp only [execOp, o5]; go_simp; try exact rfl
        refine ⟨fun ρ W ⟨hcst, hglb, hfun⟩ hX hp ho => ?_, ?_⟩ -- 2: slot 97 := Op.load 24 t96
        · obtain ⟨p96, -⟩ := hp
          change ρ (.tmp 96) = _ at p96
          have p0 := (hX.cell (p := ⟨w.heap.size, 0, none⟩) PB.out.lt).trans (PB.out.cell 0)
          simp only [List.getElem?_toArray, List.getElem?_cons_zero, List.getElem?_cons_succ] at p0
          refine turn_plain (ok_is ?_ rfl)
          simp only [execOp, p96]; go_simp; try exact rfl
        refine ⟨fun ρ W ⟨hcst, hglb, hfun⟩ hX hp ho => ?_, ?_⟩ -- 3: slot 98 := Op.call { value (Operand.func 13), args := #[t95, t97], argTypes := #[22, 24] }
        · obtain ⟨p95, p97, -⟩ := hp
          change ρ (.tmp 95) = _ at p95
          change ρ (.tmp 97) = _ at p97
          have hW := (Below.refl _ _).drew.trans hX
          refine turn_plain ?_
          have ce := @enter_of Tryd.prog 13 _ Tryd.func13 (by kernel_rfl) (by kernel_rfl)
          refine ok_call (op_call2 hfun ce (by exact rfl) p95 p97) ?_
          refine (HE1.out W (BW.out.trans (hW.mono BW.out.size))).mono ?_
          rintro e W' ⟨rfl, mm, rfl⟩
          exact ⟨_, rfl, below_drewN _ _ _, rfl⟩
        refine ⟨fun ρ W ⟨hcst, hglb, hfun⟩ hX hp ho => ?_, ?_⟩ -- 4: slot 99 := Op.move t0
        · obtain ⟨o0, -⟩ := ho
          change ρ (.tmp 0) = _ at o0
          refine turn_plain (ok_is ?_ rfl)
          simp only [execOp, o0]; go_simp; try exact rfl
        refine ⟨fun ρ W ⟨hcst, hglb, hfun⟩ hX hp ho => ?_, ?_⟩ -- 5: slot 100 := Op.fieldAddr 26 t5 0
        · obtain ⟨o5, -⟩ := ho
          change ρ (.tmp 5) = _ at o5
          refine turn_plain (ok_is ?_ rfl)
          simp only [execOp, o5]; go_simp; try exact rfl
        refine ⟨fun ρ W ⟨hcst, hglb, hfun⟩ hX hp ho => ?_, ?_⟩ -- 6: slot 101 := Op.load 24 t100
        · obtain ⟨p100, -⟩ := hp
          change ρ (.tmp 100) = _ at p100
          have p0 := (hX.cell (p := ⟨w.heap.size, 0, none⟩) PB.out.lt).trans (PB.out.cell 0)
          simp only [List.getElem?_toArray, List.getElem?_cons_zero, List.getElem?_cons_succ] at p0
          refine turn_plain (ok_is ?_ rfl)
          simp only [execOp, p100]; go_simp; try exact rfl
        refine ⟨fun ρ W ⟨hcst, hglb, hfun⟩ hX hp ho => ?_, ?_⟩ -- 7: slot 102 := Op.call { value (Operand.func 14), args := #[t99, t101], argTypes := #[22, 24] }
        · obtain ⟨p99, p101, -⟩ := hp
          change ρ (.tmp 99) = _ at p99
          change ρ (.tmp 101) = _ at p101
          have hW := (Below.refl _ _).drew.trans hX
          refine turn_plain ?_
          have ce := @enter_of Tryd.prog 14 _ Tryd.func14 (by kernel_rfl) (by kernel_rfl)
          refine ok_call (op_call2 hfun ce (by exact rfl) p99 p101) ?_
          refine (HE2.out W (BW.out.trans (hW.mono BW.out.size))).mono ?_
          rintro e W' ⟨rfl, rfl⟩
          exact ⟨_, rfl, Below.refl _ _, rfl⟩
        refine ⟨fun ρ W ⟨hcst, hglb, hfun⟩ hX hp ho => ?_, ?_⟩ -- 8: slot 103 := Op.binOp BinOp.neq 24 t98 t102 24
        · obtain ⟨p98, p102, -⟩ := hp
          change ρ (.tmp 98) = _ at p98
          change ρ (.tmp 102) = _ at p102
          refine turn_plain (ok_is ?_ rfl)
          simp only [execOp, p98, p102]; go_simp; try exact rfl
        refine ⟨fun ρ W ⟨hcst, hglb, hfun⟩ hX hp ho => ?_, ?_⟩ -- 9: slot 104 := Op.move t103
        · obtain ⟨p103, -⟩ := hp
          change ρ (.tmp 103) = _ at p103
          refine turn_plain (ok_is ?_ rfl)
          simp only [execOp, p103]; go_simp; try exact rfl
        refine ⟨fun ρ W ⟨hcst, hglb, hfun⟩ hX hp ho => ?_, ?_⟩ -- 10: slot 105 := Op.move t8   [guarded: some (9, false)]
        · obtain ⟨p104, -⟩ := hp
          change ρ (.tmp 104) = _ at p104
          obtain ⟨o8, -⟩ := ho
          change ρ (.tmp 8) = _ at o8
          refine turn_yes p104 (ok_is ?_ rfl)
          simp only [execOp, o8]; go_simp; try exact rfl
        refine ⟨fun ρ W ⟨hcst, hglb, hfun⟩ hX hp ho => ?_, ?_⟩ -- 11: slot 106 := Op.move t10   [guarded: some (9, false)]
        · obtain ⟨p104, -⟩ := hp
          change ρ (.tmp 104) = _ at p104
          obtain ⟨o10, -⟩ := ho
          change ρ (.tmp 10) = _ at o10
          refine turn_yes p104 (ok_is ?_ rfl)
          simp only [execOp, o10]; go_simp; try exact rfl
        refine ⟨fun ρ W ⟨hcst, hglb, hfun⟩ hX hp ho => ?_, ?_⟩ -- 12: slot 107 := Op.binOp BinOp.neq 24 t105 t106 24   [guarded: some (9, false)]
        · obtain ⟨p105, p106, p104, -⟩ := hp
          change ρ (.tmp 105) = _ at p105
          change ρ (.tmp 106) = _ at p106
          change ρ (.tmp 104) = _ at p104
          refine turn_yes p104 (ok_is ?_ rfl)
          simp only [execOp, p105, p106]; go_simp; try exact rfl
        refine ⟨fun ρ W ⟨hcst, hglb, hfun⟩ hX hp ho => ?_, ?_⟩ -- 13: slot 108 := Op.pick t104 (const (Value.bool true)) t107
        · obtain ⟨p104, p107, -⟩ := hp
          change ρ (.tmp 104) = _ at p104
          change ρ (.tmp 107) = _ at p107
          refine turn_plain (ok_is ?_ rfl)
          simp only [execOp, hcst, p104, p107]; go_simp; try exact rfl
        refine ⟨fun ρ W ⟨hcst, hglb, hfun⟩ hX hp ho => ?_, ?_⟩ -- 14: slot 109 := Op.move t108
        · obtain ⟨p108, -⟩ := hp
          change ρ (.tmp 108) = _ at p108
          refine turn_plain (ok_is ?_ rfl)
          simp only [execOp, p108]; go_simp; try exact rfl
        refine ⟨fun ρ W ⟨hcst, hglb, hfun⟩ hX hp ho => ?_, ?_⟩ -- 15: slot 110 := Op.move t9   [guarded: some (14, false)]
        · obtain ⟨p109, -⟩ := hp
          change ρ (.tmp 109) = _ at p109
          obtain ⟨o9, -⟩ := ho
          change ρ (.tmp 9) = _ at o9
          refine turn_yes p109 (ok_is ?_ rfl)
          simp only [execOp, o9]; go_simp; try exact rfl
        refine ⟨fun ρ W ⟨hcst, hglb, hfun⟩ hX hp ho => ?_, ?_⟩ -- 16: slot 111 := Op.call { value (Operand.func 15), args := #[t110], argTypes := #[31] }   [guarded: some (
        · obtain ⟨p110, p109, -⟩ := hp
          change ρ (.tmp 110) = _ at p110
          change ρ (.tmp 109) = _ at p109
          have hW := (Below.refl _ _).drew.trans hX
          refine turn_yes p109 ?_
          have ce := @enter_of Tryd.prog 15 _ Tryd.func15 (by kernel_rfl) (by kernel_rfl)
          refine ok_call (op_call1 hfun ce (by exact rfl) p110) ?_
          refine (HN1.out W (GW.out.later hW (Nat.le_refl _))).mono ?_
          rintro e W' ⟨rfl, bel⟩
          exact ⟨_, rfl, bel, rfl⟩
        refine ⟨fun ρ W ⟨hcst, hglb, hfun⟩ hX hp ho => ?_, ?_⟩ -- 17: slot 112 := Op.move t11   [guarded: some (14, false)]
        · obtain ⟨p109, -⟩ := hp
          change ρ (.tmp 109) = _ at p109
          obtain ⟨o11, -⟩ := ho
          change ρ (.tmp 11) = _ at o11
          refine turn_yes p109 (ok_is ?_ rfl)
          simp only [execOp, o11]; go_simp; try exact rfl
        refine ⟨fun ρ W ⟨hcst, hglb, hfun⟩ hX hp ho => ?_, ?_⟩ -- 18: slot 113 := Op.binOp BinOp.neq 3 t111 t112 3   [guarded: some (14, false)]
        · obtain ⟨p111, p112, p109, -⟩ := hp
          change ρ (.tmp 111) = _ at p111
          change ρ (.tmp 112) = _ at p112
          change ρ (.tmp 109) = _ at p109
          refine turn_yes p109 (ok_is ?_ rfl)
          simp only [execOp, p111, p112]; go_simp; try exact rfl
        refine ⟨fun ρ W ⟨hcst, hglb, hfun⟩ hX hp ho => ?_, ?_⟩ -- 19: slot 114 := Op.pick t109 (const (Value.bool true)) t113
        · obtain ⟨p109, p113, -⟩ := hp
          change ρ (.tmp 109) = _ at p109
          change ρ (.tmp 113) = _ at p113
          refine turn_plain (ok_is ?_ rfl)
          simp only [execOp, hcst, p109, p113]; go_simp; try exact rfl
        refine ⟨fun ρ W ⟨hcst, hglb, hfun⟩ hX hp ho => ?_, ?_⟩ -- 20: slot 115 := Op.move t114
        · obtain ⟨p114, -⟩ := hp
          change ρ (.tmp 114) = _ at p114
          refine turn_plain (ok_is ?_ rfl)
          simp only [execOp, p114]; go_simp; try exact rfl
        refine ⟨fun ρ W ⟨hcst, hglb, hfun⟩ hX hp ho => ?_, ?_⟩ -- 21: slot 116 := Op.move t12   [guarded: some (20, false)]
        · obtain ⟨p115, -⟩ := hp
          change ρ (.tmp 115) = _ at p115
          obtain ⟨o12, -⟩ := ho
          change ρ (.tmp 12) = _ at o12
          refine turn_yes p115 (ok_is ?_ rfl)
          simp only [execOp, o12]; go_simp; try exact rfl
        refine ⟨fun ρ W ⟨hcst, hglb, hfun⟩ hX hp ho => ?_, ?_⟩ -- 22: slot 117 := Op.move t14   [guarded: some (20, false)]
        · obtain ⟨p115, -⟩ := hp
          change ρ (.tmp 115) = _ at p115
          obtain ⟨o14, -⟩ := ho
          change ρ (.tmp 14) = _ at o14
          refine turn_yes p115 (ok_is ?_ rfl)
          simp only [execOp, o14]; go_simp; try exact rfl
        refine ⟨fun ρ W ⟨hcst, hglb, hfun⟩ hX hp ho => ?_, ?_⟩ -- 23: slot 118 := Op.binOp BinOp.neq 4 t116 t117 4   [guarded: some (20, false)]
        · obtain ⟨p116, p117, p115, -⟩ := hp
          change ρ (.tmp 116) = _ at p116
          change ρ (.tmp 117) = _ at p117
          change ρ (.tmp 115) = _ at p115
          refine turn_yes p115 (ok_is ?_ rfl)
          simp only [execOp, p116, p117]; go_simp; try exact rfl
        refine ⟨fun ρ W ⟨hcst, hglb, hfun⟩ hX hp ho => ?_, ?_⟩ -- 24: slot 119 := Op.pick t115 (const (Value.bool true)) t118
        · obtain ⟨p115, p118, -⟩ := hp
          change ρ (.tmp 115) = _ at p115
          change ρ (.tmp 118) = _ at p118
          refine turn_plain (ok_is ?_ rfl)
          simp only [execOp, hcst, p115, p118]; go_simp; try exact rfl
        refine ⟨fun ρ W ⟨hcst, hglb, hfun⟩ hX hp ho => ?_, ?_⟩ -- 25: slot 120 := Op.move t119
        · obtain ⟨p119, -⟩ := hp
          change ρ (.tmp 119) = _ at p119
          refine turn_plain (ok_is ?_ rfl)
          simp only [execOp, p119]; go_simp; try exact rfl
        refine ⟨fun ρ W ⟨hcst, hglb, hfun⟩ hX hp ho => ?_, ?_⟩ -- 26: slot 121 := Op.move t13   [guarded: some (25, false)]
        · obtain ⟨p120, -⟩ := hp
          change ρ (.tmp 120) = _ at p120
          obtain ⟨o13, -⟩ := ho
          change ρ (.tmp 13) = _ at o13
          refine turn_yes p120 (ok_is ?_ rfl)
          simp only [execOp, o13]; go_simp; try exact rfl
        refine ⟨fun ρ W ⟨hcst, hglb, hfun⟩ hX hp ho => ?_, ?_⟩ -- 27: slot 122 := Op.call { value (Operand.func 15), args := #[t121], argTypes := #[31] }   [guarded: some (
        · obtain ⟨p121, p120, -⟩ := hp
          change ρ (.tmp 121) = _ at p121
          change ρ (.tmp 120) = _ at p120
          have hW := (Below.refl _ _).drew.trans hX
          refine turn_yes p120 ?_
          have ce := @enter_of Tryd.prog 15 _ Tryd.func15 (by kernel_rfl) (by kernel_rfl)
          refine ok_call (op_call1 hfun ce (by exact rfl) p121) ?_
          refine (HN2.out W (GW.out.later hW (Nat.le_refl _))).mono ?_
          rintro e W' ⟨rfl, bel⟩
          exact ⟨_, rfl, bel, rfl⟩
        refine ⟨fun ρ W ⟨hcst, hglb, hfun⟩ hX hp ho => ?_, ?_⟩ -- 28: slot 123 := Op.move t15   [guarded: some (25, false)]
        · obtain ⟨p120, -⟩ := hp
          change ρ (.tmp 120) = _ at p120
          obtain ⟨o15, -⟩ := ho
          change ρ (.tmp 15) = _ at o15
          refine turn_yes p120 (ok_is ?_ rfl)
          simp only [execOp, o15]; go_simp; try exact rfl
        refine ⟨fun ρ W ⟨hcst, hglb, hfun⟩ hX hp ho => ?_, ?_⟩ -- 29: slot 124 := Op.binOp BinOp.neq 3 t122 t123 3   [guarded: some (25, false)]
        · obtain ⟨p122, p123, p120, -⟩ := hp
          change ρ (.tmp 122) = _ at p122
          change ρ (.tmp 123) = _ at p123
          change ρ (.tmp 120) = _ at p120
          refine turn_yes p120 (ok_is ?_ rfl)
          simp only [execOp, p122, p123]; go_simp; try exact rfl
        refine ⟨fun ρ W ⟨hcst, hglb, hfun⟩ hX hp ho => ?_, ?_⟩ -- 30: slot 125 := Op.pick t120 (const (Value.bool true)) t124
        · obtain ⟨p120, p124, -⟩ := hp
          change ρ (.tmp 120) = _ at p120
          change ρ (.tmp 124) = _ at p124
          refine turn_plain (ok_is ?_ rfl)
          simp only [execOp, hcst, p120, p124]; go_simp; try exact rfl
        refine ⟨fun ρ W ⟨hcst, hglb, hfun⟩ hX hp ho => ?_, ?_⟩ -- 31: slot 126 := Op.move t125
        · obtain ⟨p125, -⟩ := hp
          change ρ (.tmp 125) = _ at p125
          refine turn_plain (ok_is ?_ rfl)
          simp only [execOp, p125]; go_simp; try exact rfl
        refine ⟨fun ρ W ⟨hcst, hglb, hfun⟩ hX hp ho => ?_, ?_⟩ -- 32: slot 127 := Op.move t19   [guarded: some (31, false)]
        · obtain ⟨p126, -⟩ := hp
          change ρ (.tmp 126) = _ at p126
          obtain ⟨o19, -⟩ := ho
          change ρ (.tmp 19) = _ at o19
          refine turn_yes p126 (ok_is ?_ rfl)
          simp only [execOp, o19]; go_simp; try exact rfl
        refine ⟨fun ρ W ⟨hcst, hglb, hfun⟩ hX hp ho => ?_, ?_⟩ -- 33: slot 128 := Op.call { value (Operand.func 15), args := #[t127], argTypes := #[31] }   [guarded: some (
        · obtain ⟨p127, p126, -⟩ := hp
          change ρ (.tmp 127) = _ at p127
          change ρ (.tmp 126) = _ at p126
          have hW := (Below.refl _ _).drew.trans hX
          refine turn_yes p126 ?_
          have ce := @enter_of Tryd.prog 15 _ Tryd.func15 (by kernel_rfl) (by kernel_rfl)
          refine ok_call (op_call1 hfun ce (by exact rfl) p127) ?_
          refine (HN1.out W (GW.out.later hW (Nat.le_refl _))).mono ?_
          rintro e W' ⟨rfl, bel⟩
          exact ⟨_, rfl, bel, rfl⟩
        refine ⟨fun ρ W ⟨hcst, hglb, hfun⟩ hX hp ho => ?_, ?_⟩ -- 34: slot 129 := Op.move t11   [guarded: some (31, false)]
        · obtain ⟨p126, -⟩ := hp
          change ρ (.tmp 126) = _ at p126
          obtain ⟨o11, -⟩ := ho
          change ρ (.tmp 11) = _ at o11
          refine turn_yes p126 (ok_is ?_ rfl)
          simp only [execOp, o11]; go_simp; try exact rfl
        refine ⟨fun ρ W ⟨hcst, hglb, hfun⟩ hX hp ho => ?_, ?_⟩ -- 35: slot 130 := Op.binOp BinOp.neq 3 t128 t129 3   [guarded: some (31, false)]
        · obtain ⟨p128, p129, p126, -⟩ := hp
          change ρ (.tmp 128) = _ at p128
          change ρ (.tmp 129) = _ at p129
          change ρ (.tmp 126) = _ at p126
          refine turn_yes p126 (ok_is ?_ rfl)
          simp only [execOp, p128, p129]; go_simp; try exact rfl
        refine ⟨fun ρ W ⟨hcst, hglb, hfun⟩ hX hp ho => ?_, ?_⟩ -- 36: slot 131 := Op.pick t126 (const (Value.bool true)) t130
        · obtain ⟨p126, p130, -⟩ := hp
          change ρ (.tmp 126) = _ at p126
          change ρ (.tmp 130) = _ at p130
          refine turn_plain (ok_is ?_ rfl)
          simp only [execOp, hcst, p126, p130]; go_simp; try exact rfl
        exact trivial
      case finc =>
        rintro v W hX ⟨f0, f1, f2, f3, f4, f5, f6, f7, f8, f9, f10, f11, f12, f13, f14, f15, f16, f17, f18, f19, f20, f21, f22, f23, f24, f25, f26, f27, f28, f29, f30, f31, f32, f33, f34, f35, f36, -⟩
        simp only [is] at f0 f1 f2 f3 f4 f5 f6 f7 f8 f9 f10 f11 f12 f13 f14 f15 f16 f17 f18 f19 f20 f21 f22 f23 f24 f25 f26 f27 f28 f29 f30 f31 f32 f33 f34 f35 f36
        simp only [putAll, Act.put, List.setIfInBounds_toArray, List.set_cons_succ, List.set_cons_zero, f0, f1, f2, f3, f4, f5, f6, f7, f8, f9, f10, f11, f12, f13, f14, f15, f16, f17, f18, f19, f20, f21, f22, f23, f24, f25, f26, f27, f28, f29, f30, f31, f32, f33, f34, f35, f36]
        clear f0 f1 f2 f3 f4 f5 f6 f7 f8 f9 f10 f11 f12 f13 f14 f15 f16 f17 f18 f19 f20 f21 f22 f23 f24 f25 f26 f27 f28 f29 f30 f31 f32 f33 f34 f35 f36
        go_wp2_with fail
        go_meet
        exact ⟨rfl, hX⟩
    case rest =>
    obtain ⟨rfl, bel⟩ := hcut
    have BV := Lib.hid (BW.out.trans (bel.mono BW.out.size))
    have GV := Lib.hid (GW.out.later bel (Nat.le_refl _))
    have PV := Lib.hid (PB.out.later bel (Nat.le_refl _))
    have IV := Lib.hid (fun hf : f = 0 => (show mw = k ∧ At wc Aw (nats .u64 (wl xs z k)) from ⟨(I1.out hf).1, (I1.out hf).2.later bel (Nat.le_refl _)⟩))
    clear bel BW GW PB I1
    by_cases hf0 : f = 0
    · skip
      subst hf0
      have hok := (show k ≤ 64 ∧ PoM.Dif xs from by rcases HFC.out with ⟨_, h3, h4⟩ | ⟨h3, _⟩; exact ⟨h3, h4⟩; exact absurd rfl h3)
      have h64 := hok.1
      have HD := Lib.hid hok.2
      obtain ⟨hmw, hatw⟩ := IV.out rfl
      have HW := Lib.hid hatw
      obtain rfl : k = mw := hmw.symm
      clear hok hmw hatw IV I2
      go_wp2_with fail
      go_loopw [20] (fun i wr => ∃ j : Nat, j ≤ k ∧ i = .int .i64 (j : Nat) ∧ Below wc.heap.size wc wr) (fun i _ => k - (intOf i).toNat)
      case atStart => exact ⟨0, Nat.zero_le _, rfl, Below.refl _ _⟩
      case round =>
      obtain ⟨j, hj, rfl, hbel⟩ := hrel
      have HB := Lib.hid hbel
      clear hbel
      have BC := Lib.hid (BV.out.trans (HB.out.mono BV.out.size))
      by_cases hjk : j < k
      · have hl2 := Lib.hid ((HA.out.later BC.out (Nat.le_refl _)).at_)
        obtain ⟨b, o, rfl, _, _⟩ := HA.out j hjk
        have j0 : (0 : Int) ≤ (j : Int) := by omega
        go_wp2_with (at_builtin; go_loud (refine wpList_app rfl elt_rs wr.heap.size (.tmp 146) (.tmp 147) rfl [] rfl (Own.lit #[] 0 (Nat.le_refl _) (by decide) rfl) (shs xs ys k) rfl (hl2.out.later ((Below.refl _ _).alloc (Nat.le_refl _) _) (Nat.le_refl _)) (shs_length xs ys k) (shs_one xs ys k) (by unfold maxLen; omega) (by omega) (by simp) ?_; intro A3 c3 w8 own3 g3 _; simp only [Nat.zero_add, List.nil_append] at own3; have B8 := Lib.hid (((Below.refl wr.heap.size wr).alloc (Nat.le_refl _) (.cells #[] 41)).grown g3 (((Below.refl wr.heap.size wr).alloc (Nat.le_refl _) (.cells #[] 41)).size) (by intro j e; simp [blk] at e; omega)); have O8 := Lib.hid own3; clear own3 g3))
        obtain ⟨g, cur, rfl, hbg, hh, hcur⟩ := O8.out.holds (by omega)
        have hc3 := O8.out.cap.1
        have HCB := Lib.hid (HB.out.trans (B8.out.mono HB.out.size))
        have hgc : wc.heap.size ≤ g := Nat.le_trans HB.out.size hbg
        have hgw : w.heap.size ≠ g := by have h5 := PV.out.lt; omega
        have HH := Lib.hid hh
        have HC := Lib.hid (fun (i : Nat) (hi : i < k) => (show cur[i * 2]? = some (.int .u64 (xs.getD i 0 : Nat)) ∧ cur[i * 2 + 1]? = some (.int .u64 ((if i < 0 then 0 else ys.getD i 0 : Nat) : Int)) from ⟨hcur _ _ (shs_get xs ys k i hi).1, by rw [if_neg (Nat.not_lt_zero _)]; exact hcur _ _ (shs_get xs ys k i hi).2⟩))
        clear hh hcur hl2 B8 hbg
        go_wp2_with fail
        go_loopw [22] (fun i wq => ∃ (jj : Nat) (cu : Array Value), jj ≤ k ∧ i = .int .i64 (jj : Nat) ∧ Holds wq g 41 cu ∧ (∀ i, i < k → cu[i * 2]? = some (.int .u64 (xs.getD i 0 : Nat)) ∧ cu[i * 2 + 1]? = some (.int .u64 ((if i < jj then 0 else ys.getD i 0 : Nat) : Int))) ∧ w8.grownBy wq (some g)) (fun i _ => k - (intOf i).toNat)
        case atStart => exact ⟨0, cur, Nat.zero_le _, rfl, HH.out, HC.out, grown_refl _ _⟩
        case round =>
        obtain ⟨jj, cu, hjj, rfl, hh2, hc2, hg2⟩ := hrel
        have HH2 := Lib.hid hh2
        have HC2 := Lib.hid hc2
        have HG2 := Lib.hid hg2
        clear hh2 hc2 hg2 HH HC
        by_cases hlt : jj < k
        · have q0 : (0 : Int) ≤ (jj : Int) := by omega
          have hcell := (HH2.out.cell (jj * 2 + 1)).trans (HC2.out jj hlt).2
          have hfro := HH2.out.frozen (jj * 2 + 1)
          have hsz : jj * 2 + 1 < cu.size := (Array.getElem?_eq_some_iff.1 (HC2.out jj hlt).2).1
          go_wp2_with fail
          go_round
          case rel => exact ⟨jj + 1, _, by omega, by go_num, HH2.out.set (jj * 2 + 1) (.int .u64 0), fun i hi => ⟨by rw [Array.getElem?_setIfInBounds_ne (by omega)]; exact (HC2.out i hi).1, by
              by_cases e : i = jj
              · subst e
                rw [Array.getElem?_setIfInBounds_self_of_lt hsz, if_pos (Nat.lt_succ_self _)]; rfl
              · rw [Array.getElem?_setIfInBounds_ne (by omega), (HC2.out i hi).2]
                by_cases e2 : i < jj
                · rw [if_pos e2, if_pos (by omega)]
                · rw [if_neg e2, if_neg (by omega)]⟩, grown_set HG2.out _ _⟩
          case measure => simp [intOf]; omega
        · obtain rfl : k = jj := by omega
          have hcell := (HH2.out.cell (j * 2 + 1)).trans (HC2.out j hjk).2
          have hfro := HH2.out.frozen (j * 2 + 1)
          have hsz : j * 2 + 1 < cu.size := (Array.getElem?_eq_some_iff.1 (HC2.out j hjk).2).1
          have H3 := Lib.hid (HH2.out.set (j * 2 + 1) (.int .u64 1))
          have G3 := Lib.hid (grown_set HG2.out (j * 2 + 1) (.int .u64 1))
          go_upto_region 27 with fail
          generalize wr.setCell ⟨g, j * 2 + 1, none⟩ (.int .u64 1) = wy at *
          have S3 := Lib.hid (show Shs wy (some ⟨g, 0, none⟩) xs (ind j k) k from fun i hi => ⟨g, 0, rfl, by
            rw [H3.out.cell (0 + i * 2), Nat.zero_add, Array.getElem?_setIfInBounds_ne (by omega)]; exact (HC2.out i hi).1, by
            rw [H3.out.cell (0 + i * 2 + 1), Nat.zero_add, ind_getD _ _ _ hi]
            by_cases e : i = j
            · subst e; rw [Array.getElem?_setIfInBounds_self_of_lt hsz, if_pos rfl]; rfl
            · rw [Array.getElem?_setIfInBounds_ne (by omega), (HC2.out i hi).2, if_pos hi, if_neg e]⟩)
          have BY := Lib.hid (HCB.out.grown G3.out HCB.out.size (fun j e => by injection e with e; omega))
          have PY := Lib.hid (PV.out.later BY.out (Nat.le_refl _))
          clear hcell hfro hsz H3 G3 HH2 HC2 HG2
          have p0 : wy.cell? ⟨w.heap.size, 0, none⟩ = some (.int .u64 (z : Nat)) := PY.out.cell 0
          have RT := fun (W : World) (hS : Shs W (some ⟨g, 0, none⟩) xs (ind j k) k) => rthrough_ok (some ⟨g, 0, none⟩) k c3 xs (ind j k) W z hz HD.out h64 HL.out hS HX.out (ind_lt j k)
          have hsm := (sm_ind xs z j k k (Nat.le_refl _)).trans (if_pos hjk)
          have hwl := wl_getD xs z hjk
          obtain ⟨v, hv⟩ : ∃ v, PoM.wt xs z j = v := ⟨_, rfl⟩
          rw [hv] at hsm hwl
          rw [hsm] at RT
          have HRT := Lib.hid RT
          clear RT hsm hv
          go_wp2_with fail
          with_reducible refine (HRT.out wy S3.out).mono ?_
          rintro e w9 ⟨rfl, b9⟩
          have B9 := Lib.hid (BY.out.trans (b9.mono BY.out.size))
          obtain ⟨b4, o4, rfl, g4⟩ := (HW.out.later B9.out (Nat.le_refl _)).nat j (by rw [wl_length]; exact hjk)
          rw [hwl] at g4
          clear b9 p0 hwl BY PY S3 HRT
          go_wp2_with fail
          go_round
          case rel => exact ⟨j + 1, by omega, by go_num, B9.out⟩
          case measure => simp [intOf]; omega
      · obtain rfl : k = j := by omega
        have GC := Lib.hid (HG.out.later BC.out (Nat.le_refl _))
        go_wp2_with fail
        refine (sure03 wr GC.out).mono ?_
        rintro e w9 ⟨rfl, b9⟩
        have B9 := Lib.hid (BC.out.trans (b9.mono BC.out.size))
        clear b9
        go_wp2_with fail
        go_ret
        exact ⟨rfl, B9.out⟩
    · have hm0 := I2.out hf0
      subst hm0
      have d1 : (f == 0) = false := by simpa using hf0
      have d2 : decide (f = 0) = false := by simpa using hf0
      have HF0 := Lib.hid hf0
      clear hf0
      go_wp2_with fail
      refine (sure03 wc GV.out).mono ?_
      rintro e w9 ⟨rfl, b9⟩
      have B9 := Lib.hid (BV.out.trans (b9.mono BV.out.size))
      clear b9
      go_wp2_with fail
      go_ret
      exact ⟨rfl, B9.out⟩
end Go.Proofs.YtnofckhljoghpaaDoor
