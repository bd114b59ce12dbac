/- Layer 1: the document's numbers: Add, Sub, Mul, Pow, Inv. -/
import Derived.Test.YtnofckhljoghpaaDoorFpA
namespace Go.Proofs.YtnofckhljoghpaaDoor
open Go.RowKit
set_option maxRecDepth 100000 in
theorem rfAdd_any (a b : Nat) (w : World) (ha : a < 18446744073709551616) (hb : b < 18446744073709551616) :
    Calls Tryd.prog 16 #[.int .u64 a, .int .u64 b] w fun e w' => e = .returned (.int .u64 ((a + b) % 2305843009213693951 : Nat)) ∧ w = w' := by
  go_enter Tryd.func16, Tryd.ntmps16
  go_wp2
  go_ret
  exact ⟨ret_int (by omega), rfl⟩
set_option maxRecDepth 100000 in
theorem rfSub_any (a b : Nat) (w : World) (ha : a < 18446744073709551616) (hb : b < 18446744073709551616) :
    Calls Tryd.prog 23 #[.int .u64 a, .int .u64 b] w fun e w' => e = .returned (.int .u64 ((a % 2305843009213693951 + 2305843009213693951 - b % 2305843009213693951) % 2305843009213693951 : Nat)) ∧ w = w' := by
  go_enter Tryd.func23, Tryd.ntmps23
  go_wp2
  go_ret
  exact ⟨ret_int (by omega), rfl⟩
theorem half2 (v n : Nat) : v / 2 ^ n = 2 * (v / 2 ^ (n + 1)) + v / 2 ^ n % 2 := by
  rw [Nat.pow_succ, ← Nat.div_div_eq_div_mul]
  generalize v / 2 ^ n = x
  omega
theorem mul_step (x y k P : Nat) : (2 * (x * (y / 2 ^ (k + 1)) % P) + x * (y / 2 ^ k % 2)) % P = x * (y / 2 ^ k) % P := by
  have h := half2 y k
  have e : x * (y / 2 ^ k) = 2 * (x * (y / 2 ^ (k + 1))) + x * (y / 2 ^ k % 2) := by
    conv => lhs; rw [h]
    rw [Nat.mul_add, ← Nat.mul_assoc, Nat.mul_comm x 2, Nat.mul_assoc]
  rw [e, Nat.add_mod, Nat.mul_mod, Nat.mod_mod, ← Nat.mul_mod, ← Nat.add_mod]
set_option maxRecDepth 100000 in
set_option maxHeartbeats 1000000 in
theorem rfMul_any (a b : Nat) (w : World) (ha : a < 18446744073709551616) (hb : b < 18446744073709551616) :
    Calls Tryd.prog 17 #[.int .u64 a, .int .u64 b] w fun e w' => e = .returned (.int .u64 (a * b % 2305843009213693951 : Nat)) ∧ w = w' := by
  have hab : a * b % 2305843009213693951 = (a % 2305843009213693951) * (b % 2305843009213693951) % 2305843009213693951 := Nat.mul_mod ..
  obtain ⟨x, hx⟩ : ∃ x, a % 2305843009213693951 = x := ⟨_, rfl⟩
  obtain ⟨y, hy⟩ : ∃ y, b % 2305843009213693951 = y := ⟨_, rfl⟩
  have hx2 : x < 2305843009213693951 := by omega
  have hy2 : y < 2305843009213693951 := by omega
  rw [hx, hy] at hab
  rw [hab]
  have HX := Lib.hid hx
  have HY := Lib.hid hy
  clear hab hx hy
  go_enter Tryd.func17, Tryd.ntmps17
  go_upto_region 2 with fail
  go_cut [0, 1] (fun va vb wx => va = .int .u64 x ∧ vb = .int .u64 y ∧ wx = w)
  case first =>
    go_wp2_with fail
    go_meet
    exact ⟨int_eq (by have := HX.out; omega), int_eq (by have := HY.out; omega), rfl⟩
  case rest =>
    obtain ⟨rfl, rfl, rfl⟩ := hcut
    clear HX HY
    go_wp2_with fail
    go_loop [5, 6] (fun vo vi => ∃ k : Nat, k ≤ 61 ∧ vi = .int .i64 ((k : Int) - 1) ∧ vo = .int .u64 (x * (y / 2 ^ k) % 2305843009213693951 : Nat)) (fun _ vi => (intOf vi + 1).toNat)
    case atStart => exact ⟨61, by omega, rfl, by rw [Nat.div_eq_of_lt (by omega)]; rfl⟩
    case round =>
      obtain ⟨k, hk, rfl, rfl⟩ := hrel
      by_cases h0 : 1 ≤ k
      · obtain ⟨j, rfl⟩ : ∃ j, k = j + 1 := ⟨k - 1, by omega⟩
        have hs := mul_step x y j 2305843009213693951
        have hlt : x * (y / 2 ^ (j + 1)) % 2305843009213693951 < 2305843009213693951 := Nat.mod_lt _ (by decide)
        generalize x * (y / 2 ^ (j + 1)) % 2305843009213693951 = o at *
        have hlt2 : x * (y / 2 ^ j) % 2305843009213693951 < 2305843009213693951 := Nat.mod_lt _ (by decide)
        obtain ⟨r, hr⟩ : ∃ r, x * (y / 2 ^ j) % 2305843009213693951 = r := ⟨_, rfl⟩
        rw [hr] at hs hlt2
        have HR := Lib.hid hr
        have hj : ((j + 1 : Nat) : Int) - 1 = (j : Int) := by omega
        rw [hj]
        clear hj hr
        have hj60 : j ≤ 60 := by omega
        obtain ⟨z, hz⟩ : ∃ z, y / 2 ^ j = z := ⟨_, rfl⟩
        have hzc : (y : Int) / 2 ^ j = (z : Int) := by rw [← hz]; push_cast; rfl
        rw [hz] at hs
        have HZ := Lib.hid hz
        clear hz
        have HS := Lib.hid hs
        clear hs
        by_cases hb1 : z % 2 = 1
        · have HB := Lib.hid hb1
          have ht : ((z : Int) % 2 == 1) = true := by simp; omega
          clear hb1
          go_wp2_with fail
          go_loop [5] (fun vo => ∃ t : Nat, t < 6917529027641081853 ∧ vo = .int .u64 t ∧ t % 2305843009213693951 = r) (fun vo => (intOf vo).toNat)
          case atStart => exact ⟨2 * o + x, by omega, by go_num, by have := HS.out; rw [HB.out] at this; simpa using this⟩
          case round =>
            obtain ⟨t, ht3, rfl, htr⟩ := hrel
            have HTR := Lib.hid htr
            clear htr ht
            by_cases hge : (2305843009213693951 : Int) ≤ (t : Int)
            · have ht4 : (t : Int) < 6917529027641081853 := by omega
              clear ht3
              go_wp2_with fail
              go_round
              case rel => exact ⟨t - 2305843009213693951, by omega, int_eq (by omega), by have := HTR.out; omega⟩
              case measure => simp only [intOf]; omega
            · have he : t = r := by have := HTR.out; omega
              have HE := Lib.hid he
              have ht5 : decide ((2305843009213693951 : Int) ≤ (t : Int)) = false := decide_eq_false hge
              clear he ht3 hge
              go_wp2_with fail
              go_round
              case rel => exact ⟨j, by omega, rfl, by rw [HE.out, ← HR.out]⟩
              case measure => simp [intOf]
        · have HB := Lib.hid hb1
          have ht : ((z : Int) % 2 == 1) = false := by simp; omega
          clear hb1
          go_wp2_with fail
          go_loop [5] (fun vo => ∃ t : Nat, t < 6917529027641081853 ∧ vo = .int .u64 t ∧ t % 2305843009213693951 = r) (fun vo => (intOf vo).toNat)
          case atStart => exact ⟨2 * o, by omega, by go_num, by have := HS.out; rw [show z % 2 = 0 by have := HB.out; omega] at this; simpa using this⟩
          case round =>
            obtain ⟨t, ht3, rfl, htr⟩ := hrel
            have HTR := Lib.hid htr
            clear htr ht
            by_cases hge : (2305843009213693951 : Int) ≤ (t : Int)
            · have ht4 : (t : Int) < 6917529027641081853 := by omega
              clear ht3
              go_wp2_with fail
              go_round
              case rel => exact ⟨t - 2305843009213693951, by omega, int_eq (by omega), by have := HTR.out; omega⟩
              case measure => simp only [intOf]; omega
            · have he : t = r := by have := HTR.out; omega
              have HE := Lib.hid he
              have ht5 : decide ((2305843009213693951 : Int) ≤ (t : Int)) = false := decide_eq_false hge
              clear he ht3 hge
              go_wp2_with fail
              go_round
              case rel => exact ⟨j, by omega, rfl, by rw [HE.out, ← HR.out]⟩
              case measure => simp [intOf]
      · obtain rfl : k = 0 := by omega
        rw [Nat.pow_zero, Nat.div_one]
        go_wp2_with fail
        go_ret
        exact ⟨rfl, rfl⟩
end Go.Proofs.YtnofckhljoghpaaDoor
