/- Layer 1: what must come whatever the input is. -/
import Derived.Test.YtbgmbemaopnjfaaDoorFpC
import Derived.Test.YtbgmbemaopnjfaaDoorNum01
namespace Go.Proofs.YtbgmbemaopnjfaaDoor
open Go.RowKit
theorem fval {w : World} {v : Value} (v' : Value) (h : v = v') {f : FuncId} {args : Array Value} {Q : Program} (hc : Calls Q f args w fun e w' => e = .returned v ∧ w = w') : Calls Q f args w fun e w' => e = .returned v' ∧ w = w' := by
  subst h; exact hc
theorem inv_val (a v : Nat) (h0 : a % 2305843009213693951 ≠ 0) (hv : (v * a) % 2305843009213693951 = 1) (hl : v < 2305843009213693951) : a ^ FpM.e2 % 2305843009213693951 = v := by
  have h1 : a ^ FpM.e2 % 2305843009213693951 = v % 2305843009213693951 := FpM.inv_one (a := a) (x := a ^ FpM.e2) (y := v) (FpM.inv_mul a h0) hv
  rw [h1, Nat.mod_eq_of_lt hl]
theorem div_val (a b v : Nat) (h0 : b % 2305843009213693951 ≠ 0) (hv : (v * b) % 2305843009213693951 = a % 2305843009213693951) (hl : v < 2305843009213693951) : a * (b ^ FpM.e2 % 2305843009213693951) % 2305843009213693951 = v := by
  have h : (b ^ FpM.e2 * b) % 2305843009213693951 = 1 := FpM.inv_mul b h0
  have e1 : a * (b ^ FpM.e2 % 2305843009213693951) % 2305843009213693951 = (v * b) * b ^ FpM.e2 % 2305843009213693951 := by
    rw [Nat.mul_mod, Nat.mod_mod, ← hv, ← Nat.mul_mod]
  rw [e1, Nat.mul_assoc, Nat.mul_comm b, Nat.mul_mod, h, Nat.mul_one, Nat.mod_mod, Nat.mod_eq_of_lt hl]
set_option maxRecDepth 100000 in
set_option maxHeartbeats 4000000 in
theorem sure01 (w : World) (hg : Glob w) : Calls Tryd.prog 28 #[] w fun e w' => e = .returned (.bool true) ∧ Below w.heap.size w w' := by
  have HG := Lib.hid hg
  clear hg
  go_enter Tryd.func28, Tryd.ntmps28
  have HB := Lib.hid (Below.refl w.heap.size w)
  go_wp2_with fail
  refine (fval (.tuple #[.int .u64 1152921504606846976, .nilIface]) (by rw [inv_val 2 1152921504606846976 (by decide) (by decide) (by decide)]; rfl) (fpInv_ok 2 _ (by decide) (by decide))).mono ?_
  rintro e w' ⟨rfl, rfl⟩
  go_wp2_with fail
  refine (fpInv_no 2305843009213693951 _ (by decide) (by decide)).mono ?_
  rintro e w' ⟨rfl, rfl⟩
  go_wp2_with fail
  refine (fval (.tuple #[.int .u64 2, .nilIface]) (by rw [div_val 6 3 2 (by decide) (by decide) (by decide)]; rfl) (fpDiv_ok 6 3 _ (by decide) (by decide) (by decide))).mono ?_
  rintro e w' ⟨rfl, rfl⟩
  go_wp2_with fail
  refine (fval (.int .u64 1) (by rfl) (fpOf_any 2305843009213693952 _ (by decide))).mono ?_
  rintro e w' ⟨rfl, rfl⟩
  go_wp2_with fail
  refine (fval (.int .u64 0) (by rfl) (fpAdd_any 2305843009213693950 1 _ (by decide) (by decide))).mono ?_
  rintro e w' ⟨rfl, rfl⟩
  go_wp2_with fail
  refine (fval (.int .u64 2305843009213693950) (by rfl) (fpSub_any 0 1 _ (by decide) (by decide))).mono ?_
  rintro e w' ⟨rfl, rfl⟩
  go_wp2_with fail
  refine (fval (.int .u64 1) (by rfl) (fpMul_any 2147483648 1073741824 _ (by decide) (by decide))).mono ?_
  rintro e w' ⟨rfl, rfl⟩
  go_wp2_with fail
  refine (fval (.int .u64 1) (by rfl) (fpPow_any 2 61 _ (by decide) (by decide))).mono ?_
  rintro e w' ⟨rfl, rfl⟩
  go_wp2_with fail
  refine (num01_err 1 _ HG.out).mono ?_
  rintro e w1 ⟨rfl, bel⟩
  replace HB := Lib.hid (HB.out.trans (bel.mono HB.out.size))
  replace HG := Lib.hid (HG.out.later bel (Nat.le_refl _))
  clear bel
  go_wp2_with fail
  go_ret
  exact ⟨rfl, HB.out⟩
end Go.Proofs.YtbgmbemaopnjfaaDoor
