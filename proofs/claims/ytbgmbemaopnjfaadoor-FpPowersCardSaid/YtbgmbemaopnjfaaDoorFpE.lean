/- Layer 1: FpPowers' walk. -/
import Derived.Test.YtbgmbemaopnjfaaDoorFpD
namespace Go.Proofs.YtbgmbemaopnjfaaDoor
open Go.RowKit
theorem fpPowI_any (a k : Nat) (z : Int) (w : World) (hz : z = k) (ha : a < 18446744073709551616) (hk : k < 18446744073709551616) :
    Calls Tryd.prog 24 #[.int .u64 a, .int .u64 z] w fun e w' => e = .returned (.int .u64 (a ^ k % 2305843009213693951 : Nat)) ∧ w = w' := by
  subst hz; exact fpPow_any a k w ha hk
set_option maxRecDepth 100000 in
set_option maxHeartbeats 4000000 in
theorem powers01_any (a m n : Nat) (w : World) (ha : a < 18446744073709551616) (hm : m < 4294967296) (hn : n < 4294967296) (hg : Glob w) :
    Calls Tryd.prog 5 #[.int .u64 a, .int .u32 m, .int .u32 n] w fun e w' => e = .returned (.bool true) ∧ Below w.heap.size w w' := by
  have HG := Lib.hid hg
  have hmn : m * n ≤ 4294967295 * 4294967295 := Nat.mul_le_mul (by omega) (by omega)
  have hmnI : (m : Int) * (n : Int) ≤ 18446744065119617025 := by rw [← Int.natCast_mul]; omega
  have hmn0 : (0 : Int) ≤ (m : Int) * (n : Int) := Int.mul_nonneg (by omega) (by omega)
  obtain ⟨x, hx⟩ : ∃ x, a ^ m % 2305843009213693951 = x := ⟨_, rfl⟩
  obtain ⟨y, hy⟩ : ∃ x, a ^ n % 2305843009213693951 = x := ⟨_, rfl⟩
  obtain ⟨r1, hr1⟩ : ∃ x, a ^ (m + n) % 2305843009213693951 = x := ⟨_, rfl⟩
  obtain ⟨r2, hr2⟩ : ∃ x, a ^ (m * n) % 2305843009213693951 = x := ⟨_, rfl⟩
  obtain ⟨r3, hr3⟩ : ∃ x, a % 2305843009213693951 = x := ⟨_, rfl⟩
  have hx1 : x < 2305843009213693951 := by rw [← hx]; exact Nat.mod_lt _ (by decide)
  have hy1 : y < 2305843009213693951 := by rw [← hy]; exact Nat.mod_lt _ (by decide)
  have C1 := Lib.hid (fval (.int .u64 (x : Nat)) (by rw [hx]) (fpPow_any a m w ha (by omega)))
  have C2 := Lib.hid (fval (.int .u64 (y : Nat)) (by rw [hy]) (fpPow_any a n w ha (by omega)))
  have C3 := Lib.hid (fval (.int .u64 (r1 : Nat)) (by rw [← hx, ← hy, ← Nat.mul_mod, ← Nat.pow_add, hr1]) (fpMul_any x y w (by omega) (by omega)))
  have C4 := Lib.hid (fval (.int .u64 (r1 : Nat)) (by rw [hr1]) (fpPowI_any a (m + n) (↑m + ↑n) w (by omega) ha (by omega)))
  have C5 := Lib.hid (fval (.int .u64 (r2 : Nat)) (by rw [← hx, ← Nat.pow_mod, ← Nat.pow_mul, hr2]) (fpPow_any x n w (by omega) (by omega)))
  have C6 := Lib.hid (fval (.int .u64 (r2 : Nat)) (by rw [hr2]) (fpPowI_any a (m * n) (↑m * ↑n) w (by push_cast; rfl) ha (by omega)))
  have C7 := Lib.hid (fval (.int .u64 (r3 : Nat)) (by rw [show a ^ FpM.p % 2305843009213693951 = a % 2305843009213693951 from FpM.pow_p a, hr3]) (fpPowI_any a FpM.p 2305843009213693951 w rfl ha (by decide)))
  have C8 := Lib.hid (fval (.int .u64 (r3 : Nat)) (by rw [hr3]) (fpOf_any a w ha))
  have C9 := Lib.hid (fval (.int .u64 1) (by rw [Nat.pow_zero]; rfl) (fpPow_any a 0 w ha (by decide)))
  clear hg hx hy hr1 hr2 hr3 hmn
  go_enter Tryd.func5, Tryd.ntmps5
  have HB := Lib.hid (Below.refl w.heap.size w)
  go_wp2_with fail
  refine (C1.out).mono ?_
  rintro e w' ⟨rfl, rfl⟩
  go_wp2_with fail
  refine (C2.out).mono ?_
  rintro e w' ⟨rfl, rfl⟩
  go_wp2_with fail
  refine (C3.out).mono ?_
  rintro e w' ⟨rfl, rfl⟩
  go_wp2_with fail
  refine (C4.out).mono ?_
  rintro e w' ⟨rfl, rfl⟩
  go_wp2_with fail
  refine (C1.out).mono ?_
  rintro e w' ⟨rfl, rfl⟩
  go_wp2_with fail
  refine (C5.out).mono ?_
  rintro e w' ⟨rfl, rfl⟩
  go_wp2_with fail
  refine (C6.out).mono ?_
  rintro e w' ⟨rfl, rfl⟩
  go_wp2_with fail
  refine (C7.out).mono ?_
  rintro e w' ⟨rfl, rfl⟩
  go_wp2_with fail
  refine (C8.out).mono ?_
  rintro e w' ⟨rfl, rfl⟩
  go_wp2_with fail
  refine (C9.out).mono ?_
  rintro e w' ⟨rfl, rfl⟩
  go_wp2_with fail
  refine (sure01 _ HG.out).mono ?_
  rintro e w1 ⟨rfl, bel⟩
  replace HB := Lib.hid (HB.out.trans (bel.mono HB.out.size))
  replace HG := Lib.hid (HG.out.later bel (Nat.le_refl _))
  clear bel
  go_wp2_with fail
  go_ret
  exact ⟨rfl, HB.out⟩
end Go.Proofs.YtbgmbemaopnjfaaDoor
