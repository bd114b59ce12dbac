/- Layer 1: the document's numbers: Add, Sub, Mul, Pow, Inv. -/
import Derived.Test.YtbgmbemaopnjfaaDoorFpA
namespace Go.Proofs.YtbgmbemaopnjfaaDoor
open Go.RowKit
set_option maxRecDepth 100000 in
theorem rfAdd_any (a b : Nat) (w : World) (ha : a < 18446744073709551616) (hb : b < 18446744073709551616) :
    Calls Tryd.prog 19 #[.int .u64 a, .int .u64 b] w fun e w' => e = .returned (.int .u64 ((a + b) % 2305843009213693951 : Nat)) ∧ w = w' := by
  go_enter Tryd.func19, Tryd.ntmps19
  go_wp2
  go_ret
  exact ⟨ret_int (by omega), rfl⟩
set_option maxRecDepth 100000 in
theorem rfSub_any (a b : Nat) (w : World) (ha : a < 18446744073709551616) (hb : b < 18446744073709551616) :
    Calls Tryd.prog 21 #[.int .u64 a, .int .u64 b] w fun e w' => e = .returned (.int .u64 ((a % 2305843009213693951 + 2305843009213693951 - b % 2305843009213693951) % 2305843009213693951 : Nat)) ∧ w = w' := by
  go_enter Tryd.func21, Tryd.ntmps21
  go_wp2
  go_ret
  exact ⟨ret_int (by omega), rfl⟩
theorem half2 (v n : Nat) : v / 2 ^ n = 2 * (v / 2 ^ (n + 1)) + v / 2 ^ n % 2 := by
  rw [Nat.pow_succ, ← Nat.div_div_eq_div_mul]
  generalize v / 2 ^ n = x
  omega
theorem mul_step (x y k P : Nat) : (2 * (x * (y / 2 ^ (k + 1)) % P) + x * (y / 2 ^ k % 2)) % P = x * (y / 2 ^ k) % P := by
  have h := half2 y k
  have e : x * (y / 2 ^ k) = 2 * (x * (y / 2 ^ (k + 1))) + x * (y / 2 ^ k % 2) := by
    conv => lhs; rw [h]
    rw [Nat.mul_add, ← Nat.mul_assoc, Nat.mul_comm x 2, Nat.mul_assoc]
  rw [e, Nat.add_mod, Nat.mul_mod, Nat.mod_mod, ← Nat.mul_mod, ← Nat.add_mod]
set_option maxRecDepth 100000 in
set_option maxHeartbeats 1000000 in
theorem rfMul_any (a b : Nat) (w : World) (ha : a < 18446744073709551616) (hb : b < 18446744073709551616) :
    Calls Tryd.prog 23 #[.int .u64 a, .int .u64 b] w fun e w' => e = .returned (.int .u64 (a * b % 2305843009213693951 : Nat)) ∧ w = w' := by
  have hab : a * b % 2305843009213693951 = (a % 2305843009213693951) * (b % 2305843009213693951) % 2305843009213693951 := Nat.mul_mod ..
  obtain ⟨x, hx⟩ : ∃ x, a % 2305843009213693951 = x := ⟨_, rfl⟩
  obtain ⟨y, hy⟩ : ∃ y, b % 2305843009213693951 = y := ⟨_, rfl⟩
  have hx2 : x < 2305843009213693951 := by omega
  have hy2 : y < 2305843009213693951 := by omega
  rw [hx, hy] at hab
  rw [hab]
  have HX := Lib.hid hx
  have HY := Lib.hid hy
  clear hab hx hy
  go_enter Tryd.func23, Tryd.ntmps23
  go_upto_region 2 with fail
  go_cut [0, 1] (fun va vb wx => va = .int .u64 x ∧ vb = .int .u64 y ∧ wx = w)
  case first =>
    go_wp2_with fail
    go_meet
    exact ⟨int_eq (by have := HX.out; omega), int_eq (by have := HY.out; omega), rfl⟩
  case rest =>
    obtain ⟨rfl, rfl, rfl⟩ := hcut
    clear HX HY
    go_wp2_with fail
    go_loop [5, 6] (fun vo vi => ∃ k : Nat, k ≤ 61 ∧ vi = .int .i64 ((k : Int) - 1) ∧ vo = .int .u64 (x * (y / 2 ^ k) % 2305843009213693951 : Nat)) (fun _ vi => (intOf vi + 1).toNat)
    case atStart => exact ⟨61, by omega, rfl, by rw [Nat.div_eq_of_lt (by omega)]; rfl⟩
    case round =>
      obtain ⟨k, hk, rfl, rfl⟩ := hrel
      by_cases h0 : 1 ≤ k
      · obtain ⟨j, rfl⟩ : ∃ j, k = j + 1 := ⟨k - 1, by omega⟩
        have hs := mul_step x y j 2305843009213693951
        have hlt : x * (y / 2 ^ (j + 1)) % 2305843009213693951 < 2305843009213693951 := Nat.mod_lt _ (by decide)
        generalize x * (y / 2 ^ (j + 1)) % 2305843009213693951 = o at *
        have hlt2 : x * (y / 2 ^ j) % 2305843009213693951 < 2305843009213693951 := Nat.mod_lt _ (by decide)
        obtain ⟨r, hr⟩ : ∃ r, x * (y / 2 ^ j) % 2305843009213693951 = r := ⟨_, rfl⟩
        rw [hr] at hs hlt2
        have HR := Lib.hid hr
        have hj : ((j + 1 : Nat) : Int) - 1 = (j : Int) := by omega
        rw [hj]
        clear hj hr
        have hj60 : j ≤ 60 := by omega
        obtain ⟨z, hz⟩ : ∃ z, y / 2 ^ j = z := ⟨_, rfl⟩
        have hzc : (y : Int) / 2 ^ j = (z : Int) := by rw [← hz]; push_cast; rfl
        rw [hz] at hs
        have HZ := Lib.hid hz
        clear hz
        have HS := Lib.hid hs
        clear hs
        by_cases hb1 : z % 2 = 1
        · have HB := Lib.hid hb1
          have ht : ((z : Int) % 2 == 1) = true := by simp; omega
          clear hb1
          go_wp2_with fail
          go_loop [5] (fun vo => ∃ t : Nat, t < 6917529027641081853 ∧ vo = .int .u64 t ∧ t % 2305843009213693951 = r) (fun vo => (intOf vo).toNat)
          case atStart => exact ⟨2 * o + x, by omega, by go_num, by have := HS.out; rw [HB.out] at this; simpa using this⟩
          case round =>
            obtain ⟨t, ht3, rfl, htr⟩ := hrel
            have HTR := Lib.hid htr
            clear htr ht
            by_cases hge : (2305843009213693951 : Int) ≤ (t : Int)
            · have ht4 : (t : Int) < 6917529027641081853 := by omega
              clear ht3
              go_wp2_with fail
              go_round
              case rel => exact ⟨t - 2305843009213693951, by omega, int_eq (by omega), by have := HTR.out; omega⟩
              case measure => simp only [intOf]; omega
            · have he : t = r := by have := HTR.out; omega
              have HE := Lib.hid he
              have ht5 : decide ((2305843009213693951 : Int) ≤ (t : Int)) = false := decide_eq_false hge
              clear he ht3 hge
              go_wp2_with fail
              go_round
              case rel => exact ⟨j, by omega, rfl, by rw [HE.out, ← HR.out]⟩
              case measure => simp [intOf]
        · have HB := Lib.hid hb1
          have ht : ((z : Int) % 2 == 1) = false := by simp; omega
          clear hb1
          go_wp2_with fail
          go_loop [5] (fun vo => ∃ t : Nat, t < 6917529027641081853 ∧ vo = .int .u64 t ∧ t % 2305843009213693951 = r) (fun vo => (intOf vo).toNat)
          case atStart => exact ⟨2 * o, by omega, by go_num, by have := HS.out; rw [show z % 2 = 0 by have := HB.out; omega] at this; simpa using this⟩
          case round =>
            obtain ⟨t, ht3, rfl, htr⟩ := hrel
            have HTR := Lib.hid htr
            clear htr ht
            by_cases hge : (2305843009213693951 : Int) ≤ (t : Int)
            · have ht4 : (t : Int) < 6917529027641081853 := by omega
              clear ht3
              go_wp2_with fail
              go_round
              case rel => exact ⟨t - 2305843009213693951, by omega, int_eq (by omega), by have := HTR.out; omega⟩
              case measure => simp only [intOf]; omega
            · have he : t = r := by have := HTR.out; omega
              have HE := Lib.hid he
              have ht5 : decide ((2305843009213693951 : Int) ≤ (t : Int)) = false := decide_eq_false hge
              clear he ht3 hge
              go_wp2_with fail
              go_round
              case rel => exact ⟨j, by omega, rfl, by rw [HE.out, ← HR.out]⟩
              case measure => simp [intOf]
      · obtain rfl : k = 0 := by omega
        rw [Nat.pow_zero, Nat.div_one]
        go_wp2_with fail
        go_ret
        exact ⟨rfl, rfl⟩
theorem pow_step_odd (a n k P : Nat) (h : n / 2 ^ k % 2 = 1) : (a ^ (n / 2 ^ (k + 1)) % P * (a ^ (n / 2 ^ (k + 1)) % P) % P * a) % P = a ^ (n / 2 ^ k) % P := by
  have e := half2 n k
  rw [h] at e
  rw [e]
  generalize n / 2 ^ (k + 1) = m
  have e2 : a ^ (2 * m + 1) = a ^ m * a ^ m * a := by rw [Nat.pow_succ, Nat.two_mul, Nat.pow_add]
  rw [e2, ← Nat.mul_mod, Nat.mul_mod, Nat.mod_mod, ← Nat.mul_mod]
theorem pow_step_even (a n k P : Nat) (h : ¬ n / 2 ^ k % 2 = 1) : (a ^ (n / 2 ^ (k + 1)) % P * (a ^ (n / 2 ^ (k + 1)) % P)) % P = a ^ (n / 2 ^ k) % P := by
  have e := half2 n k
  rw [show n / 2 ^ k % 2 = 0 by omega, Nat.add_zero] at e
  rw [e]
  generalize n / 2 ^ (k + 1) = m
  rw [Nat.two_mul, Nat.pow_add, ← Nat.mul_mod]
set_option maxRecDepth 100000 in
set_option maxHeartbeats 1000000 in
theorem rfPow_any (a n : Nat) (w : World) (ha : a < 18446744073709551616) (hn : n < 18446744073709551616) :
    Calls Tryd.prog 25 #[.int .u64 a, .int .u64 n] w fun e w' => e = .returned (.int .u64 (a ^ n % 2305843009213693951 : Nat)) ∧ w = w' := by
  obtain ⟨r0, hr0⟩ : ∃ r, a ^ n % 2305843009213693951 = r := ⟨_, rfl⟩
  rw [hr0]
  have HR0 := Lib.hid hr0
  clear hr0
  go_enter Tryd.func25, Tryd.ntmps25
  go_wp2_with fail
  go_loop [5, 6] (fun vo vi => ∃ k : Nat, k ≤ 64 ∧ vi = .int .i64 ((k : Int) - 1) ∧ vo = .int .u64 (a ^ (n / 2 ^ k) % 2305843009213693951 : Nat)) (fun _ vi => (intOf vi + 1).toNat)
  case atStart => exact ⟨64, by omega, rfl, by rw [Nat.div_eq_of_lt (by omega)]; rfl⟩
  case round =>
    obtain ⟨k, hk, rfl, rfl⟩ := hrel
    by_cases h0 : 1 ≤ k
    · obtain ⟨j, rfl⟩ : ∃ j, k = j + 1 := ⟨k - 1, by omega⟩
      have ho := fun h => pow_step_odd a n j 2305843009213693951 h
      have he := fun h => pow_step_even a n j 2305843009213693951 h
      have hlt : a ^ (n / 2 ^ (j + 1)) % 2305843009213693951 < 2305843009213693951 := Nat.mod_lt _ (by decide)
      generalize a ^ (n / 2 ^ (j + 1)) % 2305843009213693951 = o at *
      have M1 := Lib.hid (rfMul_any o o w (by omega) (by omega))
      have hlt2 : o * o % 2305843009213693951 < 2305843009213693951 := Nat.mod_lt _ (by decide)
      generalize o * o % 2305843009213693951 = q at *
      have M2 := Lib.hid (rfMul_any q a w (by omega) ha)
      obtain ⟨r, hr⟩ : ∃ r, a ^ (n / 2 ^ j) % 2305843009213693951 = r := ⟨_, rfl⟩
      rw [hr] at ho he
      have HR := Lib.hid hr
      have hj : ((j + 1 : Nat) : Int) - 1 = (j : Int) := by omega
      rw [hj]
      obtain ⟨z, hz⟩ : ∃ z, n / 2 ^ j = z := ⟨_, rfl⟩
      have hzc : (n : Int) / 2 ^ j = (z : Int) := by rw [← hz]; push_cast; rfl
      rw [hz] at ho he
      have HO := Lib.hid ho
      have HE := Lib.hid he
      clear hz hj hr ho he
      by_cases hb1 : z % 2 = 1
      · have HB := Lib.hid hb1
        have ht : ((z : Int) % 2 == 1) = true := by simp; omega
        have HV := HO.out hb1
        have M2' := M2.out
        rw [HV] at M2'
        replace M2 := Lib.hid M2'
        have HV' := Lib.hid HV
        clear M2'
        clear hb1 HV HO HE
        go_wp2_with fail
        refine M1.out.mono ?_
        rintro e w' ⟨rfl, rfl⟩
        go_wp2_with fail
        refine M2.out.mono ?_
        rintro e w' ⟨rfl, rfl⟩
        go_wp2_with fail
        go_round
        case rel => exact ⟨j, by omega, rfl, by rw [HR.out]⟩
        case measure => simp [intOf]
      · have HB := Lib.hid hb1
        have ht : ((z : Int) % 2 == 1) = false := by simp; omega
        have HV := HE.out hb1
        have HV' := Lib.hid HV
        clear hb1 HV HO HE
        go_wp2_with fail
        refine M1.out.mono ?_
        rintro e w' ⟨rfl, rfl⟩
        go_wp2_with fail
        go_round
        case rel => exact ⟨j, by omega, rfl, by rw [HR.out, HV'.out]⟩
        case measure => simp [intOf]
    · obtain rfl : k = 0 := by omega
      rw [Nat.pow_zero, Nat.div_one]
      rw [HR0.out]
      go_wp2_with fail
      go_ret
      exact ⟨rfl, rfl⟩
end Go.Proofs.YtbgmbemaopnjfaaDoor
