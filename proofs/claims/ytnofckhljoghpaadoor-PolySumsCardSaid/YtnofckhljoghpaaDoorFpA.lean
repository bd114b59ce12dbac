/- Layer 1: package fp's walks. -/
import Derived.Test.YtnofckhljoghpaaDoorProg
import Derived.Test.YtnofckhljoghpaaDoorHolds
import Derived.Test.YtnofckhljoghpaaDoorFpMath
import Derived.WalkKit
import Derived.Lib.Mul64
import Derived.Laws.Bits64b
import Derived.Laws.BitsAllLaws
import Derived.Outline
import Derived.Deep.DeepCutAuto
namespace Go.Proofs.YtnofckhljoghpaaDoor
open Go.RowKit
namespace FpW
theorem maskN (a : Nat) (ha : a < 18446744073709551616) : bits .and .u64 (a : Int) 4294967295 = ((a % 4294967296 : Nat) : Int) := by
  have h : bits .and .u64 (a : Int) 4294967295 = ((a &&& 4294967295 : Nat) : Int) := u64_and_nat a 4294967295 ha (by omega)
  have e : a &&& 4294967295 = a % 4294967296 := Nat.and_two_pow_sub_one_eq_mod a 32
  rw [e] at h
  exact h
theorem maskP (a : Nat) (ha : a < 18446744073709551616) : bits .and .u64 (a : Int) 2305843009213693951 = ((a % 2305843009213693952 : Nat) : Int) := by
  have h : bits .and .u64 (a : Int) 2305843009213693951 = ((a &&& 2305843009213693951 : Nat) : Int) := u64_and_nat a 2305843009213693951 ha (by omega)
  have e : a &&& 2305843009213693951 = a % 2305843009213693952 := Nat.and_two_pow_sub_one_eq_mod a 61
  rw [e] at h
  exact h
theorem divN (a : Nat) : (a : Int) / 4294967296 = ((a / 4294967296 : Nat) : Int) := by omega
theorem mulN (a b : Nat) : (a : Int) * (b : Int) = ((a * b : Nat) : Int) := (Int.natCast_mul a b).symm
theorem addN (a b : Nat) : (a : Int) + (b : Int) = ((a + b : Nat) : Int) := (Int.natCast_add a b).symm
theorem wrapN (a : Nat) (ha : a < 18446744073709551616) : IntKind.u64.wrap (a : Int) = (a : Int) := by rw [IntKind.wrap_u64]; omega
theorem wrapM (a : Nat) : IntKind.u64.wrap (a : Int) = ((a % 18446744073709551616 : Nat) : Int) := by rw [IntKind.wrap_u64]; omega
end FpW
set_option maxRecDepth 100000 in
set_option maxHeartbeats 1000000 in
/-- math/bits.Mul64, after the library's own proof of it -/
theorem mul64_any (x y : Nat) (hx : x < 18446744073709551616) (hy : y < 18446744073709551616) (w : World) :
    Calls Tryd.prog 30 #[.int .u64 x, .int .u64 y] w fun e w' => e = .returned (.tuple #[.int .u64 (x * y / 18446744073709551616 : Nat), .int .u64 (x * y % 18446744073709551616 : Nat)]) ∧ w = w' := by
  obtain ⟨bd, bt, bw, hhi⟩ := Lib.mul64_hi x y hx hy
  have ba := Lib.half_mul_le (a := x / 4294967296) (b := y / 4294967296) (by omega) (by omega)
  have bb := Lib.half_mul_le (a := x / 4294967296) (b := y % 4294967296) (by omega) (by omega)
  have bc := Lib.half_mul_le (a := x % 4294967296) (b := y / 4294967296) (by omega) (by omega)
  have ba' : x / 4294967296 * (y / 4294967296) < 18446744073709551616 := by omega
  have bb' : x / 4294967296 * (y % 4294967296) < 18446744073709551616 := by omega
  have bc' : x % 4294967296 * (y / 4294967296) < 18446744073709551616 := by omega
  have bh1 : x / 4294967296 * (y / 4294967296) + (x / 4294967296 * (y % 4294967296) + x % 4294967296 * (y % 4294967296) / 4294967296) / 4294967296 < 18446744073709551616 := by omega
  have bh : x / 4294967296 * (y / 4294967296) + (x / 4294967296 * (y % 4294967296) + x % 4294967296 * (y % 4294967296) / 4294967296) / 4294967296 + ((x / 4294967296 * (y % 4294967296) + x % 4294967296 * (y % 4294967296) / 4294967296) % 4294967296 + x % 4294967296 * (y / 4294967296)) / 4294967296 < 18446744073709551616 := by omega
  go_enter Tryd.func30, Tryd.ntmps30
  go_wp2
  simp only [FpW.maskN x hx, FpW.maskN y hy, FpW.divN, FpW.mulN, FpW.addN, FpW.wrapN _ bd, FpW.wrapN _ bb', FpW.wrapN _ bt, FpW.maskN _ bt, FpW.wrapN _ bc', FpW.wrapN _ bw, FpW.wrapN _ ba', FpW.wrapN _ bh1, FpW.wrapN _ bh, FpW.wrapM (x * y)]
  rw [hhi]
  go_ret2
  exact ⟨rfl, rfl⟩
theorem p_val : FpM.p = 2305843009213693951 := rfl
set_option maxRecDepth 100000 in
theorem fpOf_any (v : Nat) (w : World) (hv : v < 18446744073709551616) :
    Calls Tryd.prog 26 #[.int .u64 v] w fun e w' => e = .returned (.int .u64 (v % 2305843009213693951 : Nat)) ∧ w = w' := by
  go_enter Tryd.func26, Tryd.ntmps26
  go_wp2
  go_ret
  exact ⟨ret_int (by omega), rfl⟩
set_option maxRecDepth 100000 in
theorem fpOfI_any (z : Int) (v : Nat) (w : World) (hz : z = v) (hv : v < 18446744073709551616) :
    Calls Tryd.prog 26 #[.int .u64 z] w fun e w' => e = .returned (.int .u64 (v % 2305843009213693951 : Nat)) ∧ w = w' := by
  subst hz; exact fpOf_any v w hv
set_option maxRecDepth 100000 in
theorem fpAdd_any (a b : Nat) (w : World) (ha : a < 18446744073709551616) (hb : b < 18446744073709551616) :
    Calls Tryd.prog 19 #[.int .u64 a, .int .u64 b] w fun e w' => e = .returned (.int .u64 ((a + b) % 2305843009213693951 : Nat)) ∧ w = w' := by
  have HA := Lib.hid (fpOf_any a w ha)
  have HB := Lib.hid (fpOf_any b w hb)
  obtain ⟨x, hx⟩ : ∃ x, a % 2305843009213693951 = x := ⟨_, rfl⟩
  obtain ⟨y, hy⟩ : ∃ y, b % 2305843009213693951 = y := ⟨_, rfl⟩
  obtain ⟨r, hr⟩ : ∃ r, (a + b) % 2305843009213693951 = r := ⟨_, rfl⟩
  have hr2 : (x + y) % 2305843009213693951 = r := by omega
  have hx2 : x < 2305843009213693951 := by omega
  have hy2 : y < 2305843009213693951 := by omega
  have C := fpOfI_any (↑x + ↑y) (x + y) w (by omega) (by omega)
  rw [hx] at HA
  rw [hy] at HB
  rw [hr]
  rw [hr2] at C
  have HC := Lib.hid C
  clear hx hy hr hr2 C
  go_enter Tryd.func19, Tryd.ntmps19
  go_wp2_with fail
  refine HA.out.mono ?_
  rintro e w' ⟨rfl, rfl⟩
  go_wp2_with fail
  refine HB.out.mono ?_
  rintro e w' ⟨rfl, rfl⟩
  go_wp2_with fail
  refine HC.out.mono ?_
  rintro e w' ⟨rfl, rfl⟩
  go_wp2_with fail
  go_ret
  exact ⟨rfl, rfl⟩
set_option maxRecDepth 100000 in
theorem fpSub_any (a b : Nat) (w : World) (ha : a < 18446744073709551616) (hb : b < 18446744073709551616) :
    Calls Tryd.prog 27 #[.int .u64 a, .int .u64 b] w fun e w' => e = .returned (.int .u64 ((a % 2305843009213693951 + 2305843009213693951 - b % 2305843009213693951) % 2305843009213693951 : Nat)) ∧ w = w' := by
  have HA := Lib.hid (fpOf_any a w ha)
  have HB := Lib.hid (fpOf_any b w hb)
  obtain ⟨x, hx⟩ : ∃ x, a % 2305843009213693951 = x := ⟨_, rfl⟩
  obtain ⟨y, hy⟩ : ∃ y, b % 2305843009213693951 = y := ⟨_, rfl⟩
  have hx2 : x < 2305843009213693951 := by omega
  have hy2 : y < 2305843009213693951 := by omega
  have C := fpOfI_any (↑x + 2305843009213693951 - ↑y) (x + 2305843009213693951 - y) w (by omega) (by omega)
  rw [hx] at HA ⊢
  rw [hy] at HB ⊢
  generalize (x + 2305843009213693951 - y) % 2305843009213693951 = r at *
  have HC := Lib.hid C
  clear hx hy C
  go_enter Tryd.func27, Tryd.ntmps27
  go_wp2_with fail
  refine HA.out.mono ?_
  rintro e w' ⟨rfl, rfl⟩
  go_wp2_with fail
  refine HB.out.mono ?_
  rintro e w' ⟨rfl, rfl⟩
  go_wp2_with fail
  refine HC.out.mono ?_
  rintro e w' ⟨rfl, rfl⟩
  go_wp2_with fail
  go_ret
  exact ⟨rfl, rfl⟩
theorem red61 (n : Nat) : (n / 2305843009213693952 + n % 2305843009213693952) % 2305843009213693951 = n % 2305843009213693951 := by omega
set_option maxRecDepth 100000 in
theorem fpMul_any (a b : Nat) (w : World) (ha : a < 18446744073709551616) (hb : b < 18446744073709551616) :
    Calls Tryd.prog 20 #[.int .u64 a, .int .u64 b] w fun e w' => e = .returned (.int .u64 (a * b % 2305843009213693951 : Nat)) ∧ w = w' := by
  have HA := Lib.hid (fpOf_any a w ha)
  have HB := Lib.hid (fpOf_any b w hb)
  have hab : a * b % 2305843009213693951 = (a % 2305843009213693951) * (b % 2305843009213693951) % 2305843009213693951 := Nat.mul_mod ..
  obtain ⟨x, hx⟩ : ∃ x, a % 2305843009213693951 = x := ⟨_, rfl⟩
  obtain ⟨y, hy⟩ : ∃ y, b % 2305843009213693951 = y := ⟨_, rfl⟩
  have hx2 : x < 2305843009213693951 := by omega
  have hy2 : y < 2305843009213693951 := by omega
  rw [hx] at HA hab
  rw [hy] at HB hab
  have M := mul64_any x y (by omega) (by omega) w
  have hpb : x * y ≤ 2305843009213693950 * 2305843009213693950 := Nat.mul_le_mul (by omega) (by omega)
  obtain ⟨n, hn⟩ : ∃ n, x * y = n := ⟨_, rfl⟩
  rw [hn] at M hab hpb
  obtain ⟨hi, hhi⟩ : ∃ h, n / 18446744073709551616 = h := ⟨_, rfl⟩
  obtain ⟨lo, hlo⟩ : ∃ h, n % 18446744073709551616 = h := ⟨_, rfl⟩
  have b1 : hi < 288230376151711744 := by omega
  have b2 : lo < 18446744073709551616 := by omega
  obtain ⟨s, hs⟩ : ∃ s, hi * 8 + lo / 2305843009213693952 = s := ⟨_, rfl⟩
  obtain ⟨t, ht⟩ : ∃ s, lo % 2305843009213693952 = s := ⟨_, rfl⟩
  have hor : bits .or .u64 ((hi : Int) * 8) ((lo : Int) / 2305843009213693952) = (s : Int) := by
    have h := u64_or_nat (hi * 8) (lo / 2305843009213693952) (by omega) (by omega)
    have e : hi * 8 ||| lo / 2305843009213693952 = hi * 8 + lo / 2305843009213693952 := by
      have := Nat.two_pow_add_eq_or_of_lt (i := 3) (b := lo / 2305843009213693952) (by omega) hi
      rw [show (2 : Nat) ^ 3 = 8 from rfl, Nat.mul_comm 8 hi] at this
      exact this.symm
    rw [e, hs] at h
    rw [← h]; congr 1
  have hand : bits .and .u64 (lo : Int) 2305843009213693951 = (t : Int) := by rw [FpW.maskP lo b2, ht]
  have hst : (s + t) % 2305843009213693951 = a * b % 2305843009213693951 := by rw [hab, ← red61 n]; congr 1; omega
  have C := fpOfI_any (↑s + ↑t) (s + t) w (by omega) (by omega)
  have b3 : s < 2305843009213693952 := by omega
  have b4 : t < 2305843009213693952 := by omega
  rw [hst] at C
  rw [hhi, hlo] at M
  generalize a * b % 2305843009213693951 = r at *
  have HC := Lib.hid C
  have HM := Lib.hid M
  clear hx hy C M hab hn hpb hhi hlo hs ht hst
  go_enter Tryd.func20, Tryd.ntmps20
  go_wp2_with fail
  refine HA.out.mono ?_
  rintro e w' ⟨rfl, rfl⟩
  go_wp2_with fail
  refine HB.out.mono ?_
  rintro e w' ⟨rfl, rfl⟩
  go_wp2_with fail
  refine HM.out.mono ?_
  rintro e w' ⟨rfl, rfl⟩
  go_wp2_with fail
  refine HC.out.mono ?_
  rintro e w' ⟨rfl, rfl⟩
  go_wp2_with fail
  go_ret
  exact ⟨rfl, rfl⟩
theorem and1 (n : Nat) (hn : n < 18446744073709551616) : bits .and .u64 (n : Int) 1 = ((n % 2 : Nat) : Int) := by
  have h : bits .and .u64 (n : Int) 1 = ((n &&& 1 : Nat) : Int) := u64_and_nat n 1 hn (by decide)
  rw [h, Nat.and_one_is_mod]
theorem pow_odd (o a n P : Nat) (h : n % 2 = 1) : ((o * a % P) * (a * a % P) ^ (n / 2)) % P = (o * a ^ n) % P := by
  have e : a ^ n = a * (a * a) ^ (n / 2) := by
    rw [← Nat.pow_two, ← Nat.pow_mul, Nat.mul_comm a, ← Nat.pow_succ]; congr 1; omega
  rw [Nat.mul_mod, Nat.mod_mod, ← Nat.pow_mod, ← Nat.mul_mod, e, Nat.mul_assoc]
theorem pow_even (o a n P : Nat) (h : ¬ n % 2 = 1) : (o * (a * a % P) ^ (n / 2)) % P = (o * a ^ n) % P := by
  have e : a ^ n = (a * a) ^ (n / 2) := by
    rw [← Nat.pow_two, ← Nat.pow_mul]; congr 1; omega
  rw [Nat.mul_mod, ← Nat.pow_mod, ← Nat.mul_mod, e]
set_option maxRecDepth 100000 in
theorem fpPow_any (a n : Nat) (w : World) (ha : a < 18446744073709551616) (hn : n < 18446744073709551616) :
    Calls Tryd.prog 36 #[.int .u64 a, .int .u64 n] w fun e w' => e = .returned (.int .u64 (a ^ n % 2305843009213693951 : Nat)) ∧ w = w' := by
  obtain ⟨r, hr⟩ : ∃ r, a ^ n % 2305843009213693951 = r := ⟨_, rfl⟩
  rw [hr]
  have HR := Lib.hid hr
  clear hr
  go_enter Tryd.func36, Tryd.ntmps36
  go_wp2
  go_loop [0, 1, 5] (fun va vn vo => ∃ o x m : Nat, o < 2305843009213693951 ∧ x < 18446744073709551616 ∧ m < 18446744073709551616 ∧ va = .int .u64 x ∧ vn = .int .u64 m ∧ vo = .int .u64 o ∧ (o * x ^ m) % 2305843009213693951 = r) (fun _ vn _ => (intOf vn).toNat)
  case atStart => exact ⟨1, a, n, by omega, ha, hn, rfl, rfl, rfl, by rw [Nat.one_mul]; exact HR.out⟩
  case round =>
    obtain ⟨o, x, m, ho, hx, hm, rfl, rfl, rfl, hrm⟩ := hrel
    have HRM := Lib.hid hrm
    clear hrm ha hn HR
    by_cases h0 : 0 < m
    · have ha1 := and1 m hm
      have hxx := fpMul_any x x w hx hx
      have hox := fpMul_any o x w (by omega) hx
      have hb1 : x * x % 2305843009213693951 < 2305843009213693951 := Nat.mod_lt _ (by decide)
      have hb2 : o * x % 2305843009213693951 < 2305843009213693951 := Nat.mod_lt _ (by decide)
      have ho1 := fun h => pow_odd o x m 2305843009213693951 h
      have he1 := fun h => pow_even o x m 2305843009213693951 h
      generalize x * x % 2305843009213693951 = y at *
      generalize o * x % 2305843009213693951 = q at *
      have HXX := Lib.hid hxx
      have HOX := Lib.hid hox
      have HO := Lib.hid ho1
      have HE := Lib.hid he1
      clear hxx hox ho1 he1
      by_cases hodd : m % 2 = 1
      · have ht : (bits .and .u64 (m : Int) 1 == 1) = true := by rw [ha1, hodd]; rfl
        have HD := Lib.hid hodd
        clear ha1 hodd
        go_wp2_with fail
        refine HOX.out.mono ?_
        rintro e w' ⟨rfl, rfl⟩
        go_wp2_with fail
        refine HXX.out.mono ?_
        rintro e w' ⟨rfl, rfl⟩
        go_wp2_with fail
        go_round
        case rel => exact ⟨q, y, m / 2, by omega, by omega, by omega, rfl, by go_num, rfl, by rw [HO.out HD.out]; exact HRM.out⟩
        case measure => simp [intOf]; omega
      · have ht : (bits .and .u64 (m : Int) 1 == 1) = false := by rw [ha1, show m % 2 = 0 by omega]; rfl
        have HD := Lib.hid hodd
        clear ha1 hodd
        go_wp2_with fail
        refine HXX.out.mono ?_
        rintro e w' ⟨rfl, rfl⟩
        go_wp2_with fail
        go_round
        case rel => exact ⟨o, y, m / 2, by omega, by omega, by omega, rfl, by go_num, rfl, by rw [HE.out HD.out]; exact HRM.out⟩
        case measure => simp [intOf]; omega
    · obtain rfl : m = 0 := by omega
      have hr : o = r := by have := HRM.out; rw [Nat.pow_zero, Nat.mul_one, Nat.mod_eq_of_lt ho] at this; exact this
      subst hr
      go_wp2_with fail
      go_ret
      exact ⟨rfl, rfl⟩
set_option maxRecDepth 100000 in
/-- a nonzero number's inverse -/
theorem fpInv_ok (a : Nat) (w : World) (ha : a < 18446744073709551616) (h0 : a % 2305843009213693951 ≠ 0) :
    Calls Tryd.prog 31 #[.int .u64 a] w fun e w' => e = .returned (.tuple #[.int .u64 (a ^ FpM.e2 % 2305843009213693951 : Nat), .nilIface]) ∧ w = w' := by
  have HO := Lib.hid (fpOf_any a w ha)
  have HP0 := fpPow_any a FpM.e2 w ha (by decide)
  rw [show ((FpM.e2 : Nat) : Int) = 2305843009213693949 from rfl] at HP0
  have HP := Lib.hid HP0
  clear HP0
  generalize a ^ FpM.e2 % 2305843009213693951 = r at *
  generalize a % 2305843009213693951 = x at *
  have hx : 0 < x := by omega
  go_enter Tryd.func31, Tryd.ntmps31
  go_wp2_with fail
  refine HO.out.mono ?_
  rintro e w' ⟨rfl, rfl⟩
  go_wp2_with fail
  refine HP.out.mono ?_
  rintro e w' ⟨rfl, rfl⟩
  go_wp2_with fail
  go_ret2
  exact ⟨rfl, rfl⟩
set_option maxRecDepth 100000 in
theorem fpInv_no (a : Nat) (w : World) (ha : a < 18446744073709551616) (h0 : a % 2305843009213693951 = 0) :
    Calls Tryd.prog 31 #[.int .u64 a] w fun e w' => e = .returned (.tuple #[.int .u64 0, .iface 57 (.int .i64 1)]) ∧ w = w' := by
  have HO := fpOf_any a w ha
  rw [h0] at HO
  have HO' := Lib.hid HO
  clear HO h0
  go_enter Tryd.func31, Tryd.ntmps31
  go_wp2_with fail
  refine HO'.out.mono ?_
  rintro e w' ⟨rfl, rfl⟩
  go_wp2_with fail
  go_ret2
  exact ⟨rfl, rfl⟩
set_option maxRecDepth 100000 in
theorem fpDiv_ok (a b : Nat) (w : World) (ha : a < 18446744073709551616) (hb : b < 18446744073709551616) (h0 : b % 2305843009213693951 ≠ 0) :
    Calls Tryd.prog 28 #[.int .u64 a, .int .u64 b] w fun e w' => e = .returned (.tuple #[.int .u64 (a * (b ^ FpM.e2 % 2305843009213693951) % 2305843009213693951 : Nat), .nilIface]) ∧ w = w' := by
  have HI := Lib.hid (fpInv_ok b w hb h0)
  have hlt : b ^ FpM.e2 % 2305843009213693951 < 2305843009213693951 := Nat.mod_lt _ (by decide)
  have hm := fun r (h : r < 2305843009213693951) => fpMul_any a r w ha (by omega)
  generalize b ^ FpM.e2 % 2305843009213693951 = r at *
  have HM := Lib.hid (hm r hlt)
  clear hm
  generalize a * r % 2305843009213693951 = q at *
  go_enter Tryd.func28, Tryd.ntmps28
  go_wp2_with fail
  refine HI.out.mono ?_
  rintro e w' ⟨rfl, rfl⟩
  go_wp2_with fail
  refine HM.out.mono ?_
  rintro e w' ⟨rfl, rfl⟩
  go_wp2_with fail
  go_ret2
  exact ⟨rfl, rfl⟩
set_option maxRecDepth 100000 in
theorem fpDiv_no (a b : Nat) (w : World) (hb : b < 18446744073709551616) (h0 : b % 2305843009213693951 = 0) :
    Calls Tryd.prog 28 #[.int .u64 a, .int .u64 b] w fun e w' => e = .returned (.tuple #[.int .u64 0, .iface 57 (.int .i64 1)]) ∧ w = w' := by
  have HI := Lib.hid (fpInv_no b w hb h0)
  clear h0
  go_enter Tryd.func28, Tryd.ntmps28
  go_wp2_with fail
  refine HI.out.mono ?_
  rintro e w' ⟨rfl, rfl⟩
  go_wp2_with fail
  go_ret2
  exact ⟨rfl, rfl⟩
end Go.Proofs.YtnofckhljoghpaaDoor
