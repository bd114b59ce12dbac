/- Layer 1: the document's Inv, as Euclid did. -/
import Derived.Test.YtnofckhljoghpaaDoorFpBm
namespace Go.Proofs.YtnofckhljoghpaaDoor
open Go.RowKit
namespace FpM
def fib : Nat → Nat
  | 0 => 0
  | 1 => 1
  | n + 2 => fib (n + 1) + fib n
theorem fib_101 : 2305843009213693951 < fib 101 := by
  have h : ∀ n a b, fib n = a → fib (n + 1) = b → fib (n + 2) = b + a := fun n a b h1 h2 => by rw [fib, h1, h2]
  have go : ∀ k n a b, fib n = a → fib (n + 1) = b → fib (n + k) = (Nat.rec (motive := fun _ => Nat × Nat) (a, b) (fun _ p => (p.2, p.2 + p.1)) k).1 ∧ fib (n + k + 1) = (Nat.rec (motive := fun _ => Nat × Nat) (a, b) (fun _ p => (p.2, p.2 + p.1)) k).2 := by
    intro k
    induction k with
    | zero => intro n a b h1 h2; exact ⟨h1, h2⟩
    | succ k ih =>
      intro n a b h1 h2
      obtain ⟨h3, h4⟩ := ih n a b h1 h2
      exact ⟨h4, h (n + k) _ _ h3 h4⟩
  have h1 := (go 101 0 0 1 rfl rfl).1
  rw [Nat.zero_add] at h1
  rw [h1]
  decide +kernel
theorem gcd_one (a : Nat) (h : a % p ≠ 0) : Nat.gcd p (a % p) = 1 := by
  have h1 := inv_mul a h
  have h2 : (a ^ e2 * (a % p)) % p = 1 := by rw [Nat.mul_mod, Nat.mod_mod, ← Nat.mul_mod]; exact h1
  have hd1 := Nat.gcd_dvd_left p (a % p)
  have hd2 : Nat.gcd p (a % p) ∣ a ^ e2 * (a % p) := Nat.dvd_trans (Nat.gcd_dvd_right p (a % p)) (Nat.dvd_mul_left _ _)
  have h3 : Nat.gcd p (a % p) ∣ (a ^ e2 * (a % p)) % p := (Nat.dvd_mod_iff hd1).2 hd2
  rw [h2] at h3
  exact Nat.dvd_one.1 h3
theorem eu_step (a r s x m q y : Nat) (hx : x < 2305843009213693951) (hm : m = q * y % 2305843009213693951) (h1 : (x * a) % 2305843009213693951 = r % 2305843009213693951) (h2 : (y * a) % 2305843009213693951 = s % 2305843009213693951) (hq : q * s ≤ r) :
    ((x % 2305843009213693951 + 2305843009213693951 - m % 2305843009213693951) % 2305843009213693951 * a) % 2305843009213693951 = (r - q * s) % 2305843009213693951 := by
  have hm2 : m < 2305843009213693951 := by rw [hm]; exact Nat.mod_lt _ (by decide)
  obtain ⟨u, hu⟩ : ∃ u, (x % 2305843009213693951 + 2305843009213693951 - m % 2305843009213693951) % 2305843009213693951 = u := ⟨_, rfl⟩
  rw [hu]
  have e1 : (u + m) % 2305843009213693951 = x % 2305843009213693951 := by omega
  have e2 : ((u + m) * a) % 2305843009213693951 = r % 2305843009213693951 := by rw [Nat.mul_mod, e1, ← Nat.mul_mod, h1]
  have e3 : (m * a) % 2305843009213693951 = (q * s) % 2305843009213693951 := by
    rw [hm, Nat.mul_mod, Nat.mod_mod, ← Nat.mul_mod, Nat.mul_assoc, Nat.mul_mod, h2, ← Nat.mul_mod]
  rw [Nat.add_mul] at e2
  generalize u * a = A at *
  generalize m * a = B at *
  generalize q * s = C at *
  omega
end FpM
/-- what holds ahead of each round -/
def Eu (a k r s x y : Nat) : Prop :=
  s < r ∧ r ≤ 2305843009213693951 ∧ x < 2305843009213693951 ∧ y < 2305843009213693951 ∧ (x * a) % 2305843009213693951 = r % 2305843009213693951 ∧ (y * a) % 2305843009213693951 = s % 2305843009213693951 ∧ Nat.gcd r s = 1 ∧ FpM.fib (k + 1) * r + FpM.fib k * s ≤ 2305843009213693951
theorem Eu.next {a k r s x y m : Nat} (h : Eu a k r s x y) (h0 : 0 < s) (hm : r / s * y % 2305843009213693951 = m) : Eu a (k + 1) s (r - r / s * s) y ((x % 2305843009213693951 + 2305843009213693951 - m % 2305843009213693951) % 2305843009213693951) := by
  obtain ⟨h1, h2, h3, h4, h5, h6, h7, h8⟩ := h
  have hdm := Nat.div_add_mod r s
  have hlt := Nat.mod_lt r h0
  have e : r - r / s * s = r % s := by rw [Nat.mul_comm (r / s) s]; omega
  have hq : r / s * s ≤ r := Nat.div_mul_le_self r s
  have hst := FpM.eu_step a r s x m (r / s) y h3 hm.symm h5 h6 hq
  refine ⟨by rw [e]; exact hlt, by omega, h4, Nat.mod_lt _ (by decide), h6, hst, ?_, ?_⟩
  · rw [e, Nat.gcd_comm, ← Nat.gcd_rec, Nat.gcd_comm]; exact h7
  · rw [e]
    have h9 : 1 ≤ r / s := (Nat.one_le_div_iff h0).2 (by omega)
    have h10 : s + r % s ≤ r := by
      have : s * 1 ≤ s * (r / s) := Nat.mul_le_mul_left s h9
      omega
    have h11 : FpM.fib (k + 1) * (s + r % s) ≤ FpM.fib (k + 1) * r := Nat.mul_le_mul_left _ h10
    rw [Nat.mul_add] at h11
    show (FpM.fib (k + 1) + FpM.fib k) * s + FpM.fib (k + 1) * (r % s) ≤ _
    rw [Nat.add_mul]
    omega
theorem Eu.stop {a r s x y : Nat} (h : Eu a 100 r s x y) : s = 0 := by
  obtain ⟨h1, _, _, _, _, _, _, h8⟩ := h
  have hf := FpM.fib_101
  have h2 : FpM.fib 101 * 1 ≤ FpM.fib 101 * r := Nat.mul_le_mul_left _ (by omega)
  rw [show 100 + 1 = 101 from rfl] at h8
  omega
theorem Eu.last {a k r x y : Nat} (ha : a % 2305843009213693951 ≠ 0) (h : Eu a k r 0 x y) : r = 1 ∧ x = a ^ FpM.e2 % 2305843009213693951 := by
  obtain ⟨h1, h2, h3, h4, h5, h6, h7, h8⟩ := h
  rw [Nat.gcd_zero_right] at h7
  subst h7
  refine ⟨rfl, ?_⟩
  have := FpM.inv_one (a := a) (x := x) (y := a ^ FpM.e2) (by exact h5) (FpM.inv_mul a ha)
  rw [← Nat.mod_eq_of_lt h3]; exact this
set_option maxRecDepth 100000 in
set_option maxHeartbeats 1000000 in
theorem rfInv_ok (a : Nat) (w : World) (ha : a < 18446744073709551616) (h0 : a % 2305843009213693951 ≠ 0) :
    Calls Tryd.prog 24 #[.int .u64 a] w fun e w' => e = .returned (.int .u64 (a ^ FpM.e2 % 2305843009213693951 : Nat)) ∧ w = w' := by
  have hlast := fun k r x y => Eu.last (k := k) (r := r) (x := x) (y := y) h0
  obtain ⟨v, hv⟩ : ∃ v, a ^ FpM.e2 % 2305843009213693951 = v := ⟨_, rfl⟩
  rw [hv] at hlast ⊢
  have HLAST := Lib.hid hlast
  have hst : Eu a 0 2305843009213693951 (a % 2305843009213693951) 0 1 := ⟨Nat.mod_lt _ (by decide), Nat.le_refl _, by decide, by decide, by rw [Nat.zero_mul], by rw [Nat.one_mul, Nat.mod_mod], FpM.gcd_one a h0, by show 1 * _ + 0 * _ ≤ _; omega⟩
  have HST := Lib.hid hst
  clear hst hlast hv h0
  go_enter Tryd.func24, Tryd.ntmps24
  go_wp2_with fail
  go_loop [3, 4, 5, 6, 7, 8] (fun v3 v4 v5 v6 v7 _ => ∃ k r s x y : Nat, k ≤ 100 ∧ v3 = .int .u64 r ∧ v4 = .int .u64 s ∧ v5 = .int .u64 x ∧ v6 = .int .u64 y ∧ v7 = .int .i64 k ∧ Eu a k r s x y) (fun _ _ _ _ v7 _ => 100 - (intOf v7).toNat)
  case atStart => exact ⟨0, 2305843009213693951, a % 2305843009213693951, 0, 1, by omega, rfl, int_eq (by omega), rfl, rfl, rfl, HST.out⟩
  case round =>
    obtain ⟨k, r, s, x, y, hk, rfl, rfl, rfl, rfl, rfl, hE⟩ := hrel
    clear HST
    have hr1 := hE.1
    have hr2 : r < 2305843009213693952 := by have := hE.2.1; omega
    have hx1 := hE.2.2.1
    have hy1 := hE.2.2.2.1
    by_cases h0 : 0 < s
    · have hk2 : k < 100 := by
        rcases Nat.lt_or_ge k 100 with h | h
        · exact h
        · obtain rfl : k = 100 := by omega
          have := hE.stop; omega
      have hq : r / s * s ≤ r := Nat.div_mul_le_self r s
      have hq2 : r / s ≤ r := Nat.div_le_self r s
      have M := rfMul_any (r / s) y w (by omega) (by omega)
      obtain ⟨m, hm⟩ : ∃ m, r / s * y % 2305843009213693951 = m := ⟨_, rfl⟩
      have hml : m < 2305843009213693951 := by rw [← hm]; exact Nat.mod_lt _ (by decide)
      rw [hm] at M
      have B := rfSub_any x m w (by omega) (by omega)
      have hN := hE.next h0 hm
      obtain ⟨u, hu⟩ : ∃ u, (x % 2305843009213693951 + 2305843009213693951 - m % 2305843009213693951) % 2305843009213693951 = u := ⟨_, rfl⟩
      rw [hu] at B hN
      obtain ⟨q, hqq⟩ : ∃ q, r / s = q := ⟨_, rfl⟩
      have hqi : (r : Int) / (s : Int) = (q : Int) := by rw [← hqq]; push_cast; rfl
      rw [hqq] at M hN hq hq2
      have hqs : (q : Int) * (s : Int) ≤ (r : Int) := by exact_mod_cast hq
      have hqs0 : (0 : Int) ≤ (q : Int) * (s : Int) := Int.mul_nonneg (by omega) (by omega)
      have hsub : (r : Int) - (q : Int) * (s : Int) = ((r - q * s : Nat) : Int) := by rw [Int.ofNat_sub hq]; push_cast; rfl
      have HM := Lib.hid M
      have HB := Lib.hid B
      have HN := Lib.hid hN
      have HSB := Lib.hid hsub
      clear hE M B hN hm hu hqq hsub hq
      go_wp2_with fail
      refine HM.out.mono ?_
      rintro e w' ⟨rfl, rfl⟩
      go_wp2_with fail
      refine HB.out.mono ?_
      rintro e w' ⟨rfl, rfl⟩
      go_wp2_with fail
      go_round
      case rel => exact ⟨k + 1, s, r - q * s, y, u, by omega, rfl, int_eq HSB.out, rfl, rfl, by go_num, HN.out⟩
      case measure => simp [intOf]; omega
    · obtain rfl : s = 0 := by omega
      obtain ⟨rfl, rfl⟩ := HLAST.out k r x y hE
      clear hE HLAST
      by_cases hk2 : k < 100
      all_goals
        go_wp2_with fail
        go_ret
        exact ⟨rfl, rfl⟩
set_option maxRecDepth 100000 in
theorem rfInv_no (a : Nat) (w : World) (ha : a < 18446744073709551616) (h0 : a % 2305843009213693951 = 0) :
    Calls Tryd.prog 24 #[.int .u64 a] w fun e w' => e = .returned (.int .u64 0) ∧ w = w' := by
  have h1 : (a : Int) % 2305843009213693951 = 0 := by omega
  clear h0
  go_enter Tryd.func24, Tryd.ntmps24
  go_wp2_with fail
  refine wp_loop_rounds 1 ?_
  rw [rounds_succ]
  go_wp2_with fail
  go_ret
  exact ⟨rfl, rfl⟩
end Go.Proofs.YtnofckhljoghpaaDoor
