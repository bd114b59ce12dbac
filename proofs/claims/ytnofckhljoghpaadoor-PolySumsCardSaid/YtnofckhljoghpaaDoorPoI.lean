/- Layer 3: what must come whatever the input is. -/
import Derived.Test.YtnofckhljoghpaaDoorPoH
namespace Go.Proofs.YtnofckhljoghpaaDoor
open Go.RowKit
open PoM (ml ad sb iv)
theorem iv_val {a y : Nat} (h : (y * a) % FpM.p = 1) (hy : y < FpM.p) : iv a = y := by
  have h0 : a % FpM.p ≠ 0 := by
    intro e
    rw [Nat.mul_mod, e, Nat.mul_zero] at h
    exact absurd h (by decide)
  have h1 := FpM.inv_one (FpM.inv_mul a h0) h
  rw [Nat.mod_eq_of_lt hy] at h1
  exact h1
theorem dif12 : PoM.Dif [1, 2] := by
  intro i j hi hj e
  simp at hi hj
  have : (i = 0 ∧ j = 1) ∨ (i = 1 ∧ j = 0) := by omega
  rcases this with ⟨rfl, rfl⟩ | ⟨rfl, rfl⟩ <;> decide
theorem dif123 : PoM.Dif [1, 2, 3] := by
  intro i j hi hj e
  simp at hi hj
  have h1 : i = 0 ∨ i = 1 ∨ i = 2 := by omega
  have h2 : j = 0 ∨ j = 1 ∨ j = 2 := by omega
  rcases h1 with rfl | rfl | rfl <;> rcases h2 with rfl | rfl | rfl <;> first | exact absurd rfl e | decide
theorem ndif : ¬ PoM.Dif [1, 2305843009213693952] := fun h => h 0 1 (by decide) (by decide) (by decide) (by decide)
theorem sm_lin (z v : Nat) (hv : v < FpM.p) (h : PoM.Eq ((v : Nat) : Int) (3 + 2 * (z : Int))) : PoM.sm [1, 2] [5, 7] z 2 = v := by
  refine PoM.Eq.nat (PoM.sm_lt _ _ _ _) hv ?_
  have hc : PoM.Curve 2 (PoM.ev [3, 2]) := ⟨[3, 2], Nat.le_refl _, fun _ => PoM.Eq.rfl' _⟩
  have := PoM.sm_curve (xs := [1, 2]) (ys := [5, 7]) dif12 hc (fun i hi => by
    simp at hi
    have : i = 0 ∨ i = 1 := by omega
    rcases this with rfl | rfl <;> exact PoM.Eq.of (by decide)) z
  refine (show PoM.Eq ((PoM.sm [1, 2] [5, 7] z 2 : Nat) : Int) _ from this).trans (PoM.Eq.trans (PoM.Eq.of ?_) h.symm)
  simp [PoM.ev]
  omega
theorem sm0 : PoM.sm [1, 2] [5, 7] 0 2 = 3 := sm_lin 0 3 (by decide) (PoM.Eq.of (by decide))
theorem sm3 : PoM.sm [1, 2] [5, 7] 3 2 = 9 := sm_lin 3 9 (by decide) (PoM.Eq.of (by decide))
theorem iv_m1 : iv 2305843009213693950 = 2305843009213693950 := iv_val (by decide) (by decide)
theorem wt_step (xs : List Nat) (z i n : Nat) (h : xs.length = n) (u v : Nat) (hu : PoM.prd xs i z n = u) (hv : PoM.prd xs i (xs.getD i 0) n = v) : PoM.wt xs z i = ml u (iv v) := by
  subst h; subst hu; subst hv; rfl
theorem wt0 : PoM.wt [1, 2] 0 0 = 2 := by
  rw [wt_step [1, 2] 0 0 2 rfl 2305843009213693949 2305843009213693950 (by decide) (by decide), iv_m1]
  decide
theorem wl0 : (wl [1, 2] 0 2).getD 0 0 = 2 := by rw [wl_getD [1, 2] 0 (by decide : 0 < 2)]; exact wt0
theorem lv_any (y : Nat) : lv [1, 2, 3] [5, 7, y] 2 2 = 9 := sm3
theorem bb_true {bb : Bool} (h : bb = true ↔ ∀ i, 2 ≤ i → i < 3 → lv [1, 2, 3] [5, 7, 9] 2 i = ([5, 7, 9] : List Nat).getD i 0 % FpM.p) : bb = true :=
  h.2 fun i h1 h2 => by
    obtain rfl : i = 2 := by omega
    rw [lv_any]; decide
theorem bb_false {bb : Bool} (h : bb = true ↔ ∀ i, 2 ≤ i → i < 3 → lv [1, 2, 3] [5, 7, 8] 2 i = ([5, 7, 8] : List Nat).getD i 0 % FpM.p) : bb = false := by
  cases bb with
  | false => rfl
  | true =>
    have := h.1 rfl 2 (by decide) (by decide)
    rw [lv_any] at this
    exact absurd this (by decide)
theorem get2_lt {a b : Nat} (ha : a < 18446744073709551616) (hb : b < 18446744073709551616) : ∀ i, ([a, b] : List Nat).getD i 0 < 18446744073709551616
  | 0 => ha
  | 1 => hb
  | i + 2 => by simp
theorem get3_lt {a b c : Nat} (ha : a < 18446744073709551616) (hb : b < 18446744073709551616) (hc : c < 18446744073709551616) : ∀ i, ([a, b, c] : List Nat).getD i 0 < 18446744073709551616
  | 0 => ha
  | 1 => hb
  | 2 => hc
  | i + 3 => by simp
set_option maxRecDepth 100000 in
set_option maxHeartbeats 2000000 in
theorem sure03 (w : World) (hg : Glob w) : Calls Tryd.prog 6 #[] w fun e w' => e = .returned (.bool true) ∧ Below w.heap.size w w' := by
  have HG := Lib.hid hg
  have B0 := Lib.hid ((Below.refl w.heap.size w).alloc (Nat.le_refl _) (.cells #[.int .u64 1, .int .u64 5, .int .u64 2, .int .u64 7] 47))
  have O0 := Lib.hid (Own.lit (w := w) (base := w.heap.size) (e := 47) (size := 2) #[.int .u64 1, .int .u64 5, .int .u64 2, .int .u64 7] 2 (Nat.le_refl _) (by decide) rfl)
  clear hg
  go_enter Tryd.func6, Tryd.ntmps6
  go_wp2_with fail
  generalize (w.alloc (.cells #[.int .u64 1, .int .u64 5, .int .u64 2, .int .u64 7] 47)) = w0 at *
  have S0 := Lib.hid (show Shs w0 (some ⟨w.heap.size, 0, none⟩) [1, 2] [5, 7] 2 from Shs.of_at O0.out.at_)
  refine (through_ok (some ⟨w.heap.size, 0, none⟩) 2 2 [1, 2] [5, 7] w0 0 (by decide) dif12 (by decide) rfl S0.out (get2_lt (by decide) (by decide)) (get2_lt (by decide) (by decide))).mono ?_
  rintro e w1 ⟨rfl, b1⟩
  rw [sm0]
  have B1 := Lib.hid (B0.out.trans (b1.mono B0.out.size))
  have O1 := Lib.hid (O0.out.below b1 (Nat.le_refl _))
  clear b1 B0 O0 S0
  go_wp2_with fail
  have BL := Lib.hid ((Below.refl w1.heap.size w1).alloc (Nat.le_refl _) (.cells #[.int .u64 1, .int .u64 2] 24))
  refine (weights_ok (some ⟨w1.heap.size, 0, none⟩) 2 2 [1, 2] _ 0 (by decide) dif12 (by decide) rfl (At.lit _ _ _ _ _ rfl) (get2_lt (by decide) (by decide))).mono ?_
  rintro e w2 ⟨A2, c2, rfl, h2, b2⟩
  have BB := Lib.hid (BL.out.trans (b2.mono BL.out.size))
  have B2 := Lib.hid (B1.out.trans (BB.out.mono B1.out.size))
  have O2 := Lib.hid (O1.out.below BB.out (Nat.le_refl _))
  have H2 := Lib.hid h2
  clear b2 h2 BL BB B1 O1
  go_wp2_with (at_builtin; go_loud (refine wpList_grow elt_sh rfl (.tmp 26) (.tmp 28) rfl (shs [1, 2] [5, 7] 2) rfl (by intro h; cases h) (by decide) (O2.out.at_.later ((Below.refl _ _).alloc (Nat.le_refl _) _) (Nat.le_refl _)) [.int .u64 (3 : Nat), .int .u64 (9 : Nat)] rfl rfl (At.lit _ _ _ _ _ rfl) (by intro u hu; simp at hu; rcases hu with rfl | rfl <;> rfl) (by decide) (by decide) (by decide) ?_; intro A3 c3 w3 own3 g3; have BG := Lib.hid (((Below.refl w2.heap.size w2).alloc (Nat.le_refl _) (.cells #[.int .u64 3, .int .u64 9] 47)).grown g3 (((Below.refl w2.heap.size w2).alloc (Nat.le_refl _) (.cells #[.int .u64 3, .int .u64 9] 47)).size) (fun j e => by cases e)); have X3 := Lib.hid own3; clear own3 g3))
  have hcap := X3.out.cap
  unfold maxLen at hcap
  refine (line_ok A3 3 c3 [1, 2, 3] [5, 7, 9] w3 2 (by decide) hcap.1 hcap.2 dif123 (by decide) rfl (Shs.of_at X3.out.at_) (get3_lt (by decide) (by decide) (by decide)) (get3_lt (by decide) (by decide) (by decide))).mono ?_
  rintro e w4 ⟨bb, rfl, hbb, b4⟩
  obtain rfl := bb_true hbb
  have BX := Lib.hid (BG.out.trans (b4.mono BG.out.size))
  have B4 := Lib.hid (B2.out.trans (BX.out.mono B2.out.size))
  have O4 := Lib.hid (O2.out.below BX.out (Nat.le_refl _))
  have H4 := Lib.hid (H2.out.later BX.out (Nat.le_refl _))
  clear b4 hbb hcap X3 BG BX B2 O2 H2
  go_wp2_with (at_builtin; go_loud (refine wpList_grow elt_sh rfl (.tmp 34) (.tmp 36) rfl (shs [1, 2] [5, 7] 2) rfl (by intro h; cases h) (by decide) (O4.out.at_.later ((Below.refl _ _).alloc (Nat.le_refl _) _) (Nat.le_refl _)) [.int .u64 (3 : Nat), .int .u64 (8 : Nat)] rfl rfl (At.lit _ _ _ _ _ rfl) (by intro u hu; simp at hu; rcases hu with rfl | rfl <;> rfl) (by decide) (by decide) (by decide) ?_; intro A5 c5 w5 own5 g5; have BG := Lib.hid (((Below.refl w4.heap.size w4).alloc (Nat.le_refl _) (.cells #[.int .u64 3, .int .u64 8] 47)).grown g5 (((Below.refl w4.heap.size w4).alloc (Nat.le_refl _) (.cells #[.int .u64 3, .int .u64 8] 47)).size) (fun j e => by cases e)); have X5 := Lib.hid own5; clear own5 g5))
  have hcap := X5.out.cap
  unfold maxLen at hcap
  refine (line_ok A5 3 c5 [1, 2, 3] [5, 7, 8] w5 2 (by decide) hcap.1 hcap.2 dif123 (by decide) rfl (Shs.of_at X5.out.at_) (get3_lt (by decide) (by decide) (by decide)) (get3_lt (by decide) (by decide) (by decide))).mono ?_
  rintro e w6 ⟨bb, rfl, hbb, b6⟩
  obtain rfl := bb_false hbb
  have BX := Lib.hid (BG.out.trans (b6.mono BG.out.size))
  have B6 := Lib.hid (B4.out.trans (BX.out.mono B4.out.size))
  have H6 := Lib.hid (H4.out.later BX.out (Nat.le_refl _))
  clear b6 hbb hcap X5 BG BX B4 O4 H4
  go_wp2_with fail
  have BL := Lib.hid ((Below.refl w6.heap.size w6).alloc (Nat.le_refl _) (.cells #[.int .u64 1, .int .u64 0, .int .u64 2305843009213693952, .int .u64 0] 47))
  refine (through_bad (some ⟨w6.heap.size, 0, none⟩) 2 2 [1, 2305843009213693952] [0, 0] _ 0 8 (.inr ⟨rfl, by decide, ndif⟩) rfl (by decide) (Shs.of_at (show At _ _ (shs [1, 2305843009213693952] [0, 0] 2) from At.lit _ _ _ _ _ rfl)) (get2_lt (by decide) (by decide))).mono ?_
  rintro e w7 ⟨rfl, b7⟩
  have BX := Lib.hid (BL.out.trans (b7.mono BL.out.size))
  have B7 := Lib.hid (B6.out.trans (BX.out.mono B6.out.size))
  have H7 := Lib.hid (H6.out.later BX.out (Nat.le_refl _))
  have G7 := Lib.hid (HG.out.later B7.out (Nat.le_refl _))
  clear b7 BX BL B6 H6
  obtain ⟨b2, o2, rfl, hc2⟩ := H7.out.nat 0 (by rw [wl_length]; decide)
  rw [wl0, Nat.add_zero] at hc2
  go_wp2_with fail
  refine (num03_err 8 w7 G7.out).mono ?_
  rintro e w8 ⟨rfl, b8⟩
  have B8 := Lib.hid (B7.out.trans (b8.mono B7.out.size))
  clear b8 hc2
  go_wp2_with fail
  have BL := Lib.hid (B8.out.alloc B8.out.size (.cells #[.int .u64 3, .int .u64 2] 24))
  refine (peval_any (some ⟨w8.heap.size, 0, none⟩) 2 2 [3, 2] 2 _ rfl (by decide) (At.lit _ _ _ _ _ rfl) (get2_lt (by decide) (by decide)) (by decide)).mono ?_
  rintro e w9 ⟨rfl, m9, rfl⟩
  rw [show PoM.hor [3, 2] 2 = 7 by decide]
  go_wp2_with fail
  go_ret
  exact ⟨rfl, BL.out.trans (below_drewN _ _ _)⟩
end Go.Proofs.YtnofckhljoghpaaDoor
