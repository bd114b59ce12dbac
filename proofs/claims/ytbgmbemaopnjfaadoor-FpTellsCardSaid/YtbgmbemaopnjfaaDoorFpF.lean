/- Layer 1: FpTells' walk. -/
import Derived.Test.YtbgmbemaopnjfaaDoorFpD
namespace Go.Proofs.YtbgmbemaopnjfaaDoor
open Go.RowKit
set_option maxRecDepth 100000 in
set_option maxHeartbeats 4000000 in
theorem fpTells_11 (a b : Nat) (w : World) (ha : a < 18446744073709551616) (hb : b < 18446744073709551616) (hg : Glob w) (h0 : a % 2305843009213693951 = 0) (h1 : b % 2305843009213693951 = 0) :
    Calls Tryd.prog 3 #[.int .u64 a, .int .u64 b] w fun e w' => e = .returned (.bool true) ∧ Below w.heap.size w w' := by
  have HG := Lib.hid hg
  obtain ⟨r, hr⟩ : ∃ x, a % 2305843009213693951 = x := ⟨_, rfl⟩
  have hri : (a : Int) % 2305843009213693951 = (r : Int) := by omega
  obtain ⟨s, hs⟩ : ∃ x, b % 2305843009213693951 = x := ⟨_, rfl⟩
  have hsi : (b : Int) % 2305843009213693951 = (s : Int) := by omega
  have Ca := fpAdd_any a b w ha hb
  have Cb := rfAdd_any a b w ha hb
  have Cc := fpSub_any a b w ha hb
  have Cd := rfSub_any a b w ha hb
  have Ce := fpMul_any a b w ha hb
  have Cf := rfMul_any a b w ha hb
  have Cg := fpPow_any a b w ha hb
  have Ch := rfPow_any a b w ha hb
  have Ci := fpOf_any a w ha
  rw [hr] at Ci
  have hr0 : r = 0 := by omega
  have hs0 : s = 0 := by omega
  have Cj := fpInv_no a w ha h0
  have Ck := rfInv_no a w ha h0
  have Cl := fpDiv_no a b w hb h1
  generalize (a + b) % 2305843009213693951 = q1 at *
  generalize (a % 2305843009213693951 + 2305843009213693951 - b % 2305843009213693951) % 2305843009213693951 = q2 at *
  generalize a * b % 2305843009213693951 = q3 at *
  generalize a ^ b % 2305843009213693951 = q4 at *
  have HCa := Lib.hid Ca
  have HCb := Lib.hid Cb
  have HCc := Lib.hid Cc
  have HCd := Lib.hid Cd
  have HCe := Lib.hid Ce
  have HCf := Lib.hid Cf
  have HCg := Lib.hid Cg
  have HCh := Lib.hid Ch
  have HCi := Lib.hid Ci
  have HCj := Lib.hid Cj
  have HCk := Lib.hid Ck
  have HCl := Lib.hid Cl
  clear hg h0 h1 hr hs Ca Cb Cc Cd Ce Cf Cg Ch Ci Cj Ck Cl
  subst hr0
  subst hs0
  go_enter Tryd.func3, Tryd.ntmps3
  have HB := Lib.hid (Below.refl w.heap.size w)
  go_wp2_with fail
  refine (HCj.out).mono ?_
  rintro e w' ⟨rfl, rfl⟩
  go_wp2_with fail
  refine (HCl.out).mono ?_
  rintro e w' ⟨rfl, rfl⟩
  go_wp2_with fail
  refine (HCi.out).mono ?_
  rintro e w' ⟨rfl, rfl⟩
  go_wp2_with fail
  refine (HCa.out).mono ?_
  rintro e w' ⟨rfl, rfl⟩
  go_wp2_with fail
  refine (HCb.out).mono ?_
  rintro e w' ⟨rfl, rfl⟩
  go_wp2_with fail
  refine (HCc.out).mono ?_
  rintro e w' ⟨rfl, rfl⟩
  go_wp2_with fail
  refine (HCd.out).mono ?_
  rintro e w' ⟨rfl, rfl⟩
  go_wp2_with fail
  refine (HCe.out).mono ?_
  rintro e w' ⟨rfl, rfl⟩
  go_wp2_with fail
  refine (HCf.out).mono ?_
  rintro e w' ⟨rfl, rfl⟩
  go_wp2_with fail
  refine (HCg.out).mono ?_
  rintro e w' ⟨rfl, rfl⟩
  go_wp2_with fail
  refine (HCh.out).mono ?_
  rintro e w' ⟨rfl, rfl⟩
  go_wp2_with fail
  refine (HCk.out).mono ?_
  rintro e w' ⟨rfl, rfl⟩
  go_wp2_with fail
  refine (num01_err 1 _ HG.out).mono ?_
  rintro e w1 ⟨rfl, bel⟩
  replace HB := Lib.hid (HB.out.trans (bel.mono HB.out.size))
  replace HG := Lib.hid (HG.out.later bel (Nat.le_refl _))
  clear bel
  go_wp2_with fail
  refine (num01_err 1 _ HG.out).mono ?_
  rintro e w2 ⟨rfl, bel⟩
  replace HB := Lib.hid (HB.out.trans (bel.mono HB.out.size))
  replace HG := Lib.hid (HG.out.later bel (Nat.le_refl _))
  clear bel
  go_wp2_with fail
  refine (sure01 _ HG.out).mono ?_
  rintro e w3 ⟨rfl, bel⟩
  replace HB := Lib.hid (HB.out.trans (bel.mono HB.out.size))
  replace HG := Lib.hid (HG.out.later bel (Nat.le_refl _))
  clear bel
  go_wp2_with fail
  go_ret
  exact ⟨rfl, HB.out⟩
set_option maxRecDepth 100000 in
set_option maxHeartbeats 4000000 in
theorem fpTells_10 (a b : Nat) (w : World) (ha : a < 18446744073709551616) (hb : b < 18446744073709551616) (hg : Glob w) (h0 : a % 2305843009213693951 = 0) (h1 : b % 2305843009213693951 ≠ 0) :
    Calls Tryd.prog 3 #[.int .u64 a, .int .u64 b] w fun e w' => e = .returned (.bool true) ∧ Below w.heap.size w w' := by
  have HG := Lib.hid hg
  obtain ⟨r, hr⟩ : ∃ x, a % 2305843009213693951 = x := ⟨_, rfl⟩
  have hri : (a : Int) % 2305843009213693951 = (r : Int) := by omega
  obtain ⟨s, hs⟩ : ∃ x, b % 2305843009213693951 = x := ⟨_, rfl⟩
  have hsi : (b : Int) % 2305843009213693951 = (s : Int) := by omega
  have Ca := fpAdd_any a b w ha hb
  have Cb := rfAdd_any a b w ha hb
  have Cc := fpSub_any a b w ha hb
  have Cd := rfSub_any a b w ha hb
  have Ce := fpMul_any a b w ha hb
  have Cf := rfMul_any a b w ha hb
  have Cg := fpPow_any a b w ha hb
  have Ch := rfPow_any a b w ha hb
  have Ci := fpOf_any a w ha
  rw [hr] at Ci
  have hr0 : r = 0 := by omega
  have hs0 : 0 < s := by omega
  have Cj := fpInv_no a w ha h0
  have Ck := rfInv_no a w ha h0
  have Cl := fpDiv_ok a b w ha hb h1
  have Cm := fun w => rfInv_ok b w hb h1
  have hlb : b ^ FpM.e2 % 2305843009213693951 < 2305843009213693951 := Nat.mod_lt _ (by decide)
  generalize b ^ FpM.e2 % 2305843009213693951 = ib at *
  have Cn := fun w => rfMul_any a ib w ha (by omega)
  generalize a * ib % 2305843009213693951 = dd at *
  generalize (a + b) % 2305843009213693951 = q1 at *
  generalize (a % 2305843009213693951 + 2305843009213693951 - b % 2305843009213693951) % 2305843009213693951 = q2 at *
  generalize a * b % 2305843009213693951 = q3 at *
  generalize a ^ b % 2305843009213693951 = q4 at *
  have HCa := Lib.hid Ca
  have HCb := Lib.hid Cb
  have HCc := Lib.hid Cc
  have HCd := Lib.hid Cd
  have HCe := Lib.hid Ce
  have HCf := Lib.hid Cf
  have HCg := Lib.hid Cg
  have HCh := Lib.hid Ch
  have HCi := Lib.hid Ci
  have HCj := Lib.hid Cj
  have HCk := Lib.hid Ck
  have HCl := Lib.hid Cl
  have HCm := Lib.hid Cm
  have HCn := Lib.hid Cn
  clear hg h0 h1 hr hs Ca Cb Cc Cd Ce Cf Cg Ch Ci Cj Ck Cl Cm Cn hlb
  subst hr0
  go_enter Tryd.func3, Tryd.ntmps3
  have HB := Lib.hid (Below.refl w.heap.size w)
  go_wp2_with fail
  refine (HCj.out).mono ?_
  rintro e w' ⟨rfl, rfl⟩
  go_wp2_with fail
  refine (HCl.out).mono ?_
  rintro e w' ⟨rfl, rfl⟩
  go_wp2_with fail
  refine (HCi.out).mono ?_
  rintro e w' ⟨rfl, rfl⟩
  go_wp2_with fail
  refine (HCa.out).mono ?_
  rintro e w' ⟨rfl, rfl⟩
  go_wp2_with fail
  refine (HCb.out).mono ?_
  rintro e w' ⟨rfl, rfl⟩
  go_wp2_with fail
  refine (HCc.out).mono ?_
  rintro e w' ⟨rfl, rfl⟩
  go_wp2_with fail
  refine (HCd.out).mono ?_
  rintro e w' ⟨rfl, rfl⟩
  go_wp2_with fail
  refine (HCe.out).mono ?_
  rintro e w' ⟨rfl, rfl⟩
  go_wp2_with fail
  refine (HCf.out).mono ?_
  rintro e w' ⟨rfl, rfl⟩
  go_wp2_with fail
  refine (HCg.out).mono ?_
  rintro e w' ⟨rfl, rfl⟩
  go_wp2_with fail
  refine (HCh.out).mono ?_
  rintro e w' ⟨rfl, rfl⟩
  go_wp2_with fail
  refine (HCk.out).mono ?_
  rintro e w' ⟨rfl, rfl⟩
  go_wp2_with fail
  refine (num01_err 1 _ HG.out).mono ?_
  rintro e w1 ⟨rfl, bel⟩
  replace HB := Lib.hid (HB.out.trans (bel.mono HB.out.size))
  replace HG := Lib.hid (HG.out.later bel (Nat.le_refl _))
  clear bel
  go_wp2_with fail
  refine (HCm.out _).mono ?_
  rintro e w' ⟨rfl, rfl⟩
  go_wp2_with fail
  refine (HCn.out _).mono ?_
  rintro e w' ⟨rfl, rfl⟩
  go_wp2_with fail
  refine (sure01 _ HG.out).mono ?_
  rintro e w2 ⟨rfl, bel⟩
  replace HB := Lib.hid (HB.out.trans (bel.mono HB.out.size))
  replace HG := Lib.hid (HG.out.later bel (Nat.le_refl _))
  clear bel
  go_wp2_with fail
  go_ret
  exact ⟨rfl, HB.out⟩
set_option maxRecDepth 100000 in
set_option maxHeartbeats 4000000 in
theorem fpTells_01 (a b : Nat) (w : World) (ha : a < 18446744073709551616) (hb : b < 18446744073709551616) (hg : Glob w) (h0 : a % 2305843009213693951 ≠ 0) (h1 : b % 2305843009213693951 = 0) :
    Calls Tryd.prog 3 #[.int .u64 a, .int .u64 b] w fun e w' => e = .returned (.bool true) ∧ Below w.heap.size w w' := by
  have HG := Lib.hid hg
  obtain ⟨r, hr⟩ : ∃ x, a % 2305843009213693951 = x := ⟨_, rfl⟩
  have hri : (a : Int) % 2305843009213693951 = (r : Int) := by omega
  obtain ⟨s, hs⟩ : ∃ x, b % 2305843009213693951 = x := ⟨_, rfl⟩
  have hsi : (b : Int) % 2305843009213693951 = (s : Int) := by omega
  have Ca := fpAdd_any a b w ha hb
  have Cb := rfAdd_any a b w ha hb
  have Cc := fpSub_any a b w ha hb
  have Cd := rfSub_any a b w ha hb
  have Ce := fpMul_any a b w ha hb
  have Cf := rfMul_any a b w ha hb
  have Cg := fpPow_any a b w ha hb
  have Ch := rfPow_any a b w ha hb
  have Ci := fpOf_any a w ha
  rw [hr] at Ci
  have hr0 : 0 < r := by omega
  have hs0 : s = 0 := by omega
  have Cj := fpInv_ok a w ha h0
  have Ck := rfInv_ok a w ha h0
  have Cl := fpDiv_no a b w hb h1
  generalize (a + b) % 2305843009213693951 = q1 at *
  generalize (a % 2305843009213693951 + 2305843009213693951 - b % 2305843009213693951) % 2305843009213693951 = q2 at *
  generalize a * b % 2305843009213693951 = q3 at *
  generalize a ^ b % 2305843009213693951 = q4 at *
  generalize a ^ FpM.e2 % 2305843009213693951 = ia at *
  have HCa := Lib.hid Ca
  have HCb := Lib.hid Cb
  have HCc := Lib.hid Cc
  have HCd := Lib.hid Cd
  have HCe := Lib.hid Ce
  have HCf := Lib.hid Cf
  have HCg := Lib.hid Cg
  have HCh := Lib.hid Ch
  have HCi := Lib.hid Ci
  have HCj := Lib.hid Cj
  have HCk := Lib.hid Ck
  have HCl := Lib.hid Cl
  clear hg h0 h1 hr hs Ca Cb Cc Cd Ce Cf Cg Ch Ci Cj Ck Cl
  subst hs0
  go_enter Tryd.func3, Tryd.ntmps3
  have HB := Lib.hid (Below.refl w.heap.size w)
  go_wp2_with fail
  refine (HCj.out).mono ?_
  rintro e w' ⟨rfl, rfl⟩
  go_wp2_with fail
  refine (HCl.out).mono ?_
  rintro e w' ⟨rfl, rfl⟩
  go_wp2_with fail
  refine (HCi.out).mono ?_
  rintro e w' ⟨rfl, rfl⟩
  go_wp2_with fail
  refine (HCa.out).mono ?_
  rintro e w' ⟨rfl, rfl⟩
  go_wp2_with fail
  refine (HCb.out).mono ?_
  rintro e w' ⟨rfl, rfl⟩
  go_wp2_with fail
  refine (HCc.out).mono ?_
  rintro e w' ⟨rfl, rfl⟩
  go_wp2_with fail
  refine (HCd.out).mono ?_
  rintro e w' ⟨rfl, rfl⟩
  go_wp2_with fail
  refine (HCe.out).mono ?_
  rintro e w' ⟨rfl, rfl⟩
  go_wp2_with fail
  refine (HCf.out).mono ?_
  rintro e w' ⟨rfl, rfl⟩
  go_wp2_with fail
  refine (HCg.out).mono ?_
  rintro e w' ⟨rfl, rfl⟩
  go_wp2_with fail
  refine (HCh.out).mono ?_
  rintro e w' ⟨rfl, rfl⟩
  go_wp2_with fail
  refine (HCk.out).mono ?_
  rintro e w' ⟨rfl, rfl⟩
  go_wp2_with fail
  refine (num01_err 1 _ HG.out).mono ?_
  rintro e w1 ⟨rfl, bel⟩
  replace HB := Lib.hid (HB.out.trans (bel.mono HB.out.size))
  replace HG := Lib.hid (HG.out.later bel (Nat.le_refl _))
  clear bel
  go_wp2_with fail
  refine (sure01 _ HG.out).mono ?_
  rintro e w2 ⟨rfl, bel⟩
  replace HB := Lib.hid (HB.out.trans (bel.mono HB.out.size))
  replace HG := Lib.hid (HG.out.later bel (Nat.le_refl _))
  clear bel
  go_wp2_with fail
  go_ret
  exact ⟨rfl, HB.out⟩
set_option maxRecDepth 100000 in
set_option maxHeartbeats 4000000 in
theorem fpTells_00 (a b : Nat) (w : World) (ha : a < 18446744073709551616) (hb : b < 18446744073709551616) (hg : Glob w) (h0 : a % 2305843009213693951 ≠ 0) (h1 : b % 2305843009213693951 ≠ 0) :
    Calls Tryd.prog 3 #[.int .u64 a, .int .u64 b] w fun e w' => e = .returned (.bool true) ∧ Below w.heap.size w w' := by
  have HG := Lib.hid hg
  obtain ⟨r, hr⟩ : ∃ x, a % 2305843009213693951 = x := ⟨_, rfl⟩
  have hri : (a : Int) % 2305843009213693951 = (r : Int) := by omega
  obtain ⟨s, hs⟩ : ∃ x, b % 2305843009213693951 = x := ⟨_, rfl⟩
  have hsi : (b : Int) % 2305843009213693951 = (s : Int) := by omega
  have Ca := fpAdd_any a b w ha hb
  have Cb := rfAdd_any a b w ha hb
  have Cc := fpSub_any a b w ha hb
  have Cd := rfSub_any a b w ha hb
  have Ce := fpMul_any a b w ha hb
  have Cf := rfMul_any a b w ha hb
  have Cg := fpPow_any a b w ha hb
  have Ch := rfPow_any a b w ha hb
  have Ci := fpOf_any a w ha
  rw [hr] at Ci
  have hr0 : 0 < r := by omega
  have hs0 : 0 < s := by omega
  have Cj := fpInv_ok a w ha h0
  have Ck := rfInv_ok a w ha h0
  have Cl := fpDiv_ok a b w ha hb h1
  have Cm := fun w => rfInv_ok b w hb h1
  have hlb : b ^ FpM.e2 % 2305843009213693951 < 2305843009213693951 := Nat.mod_lt _ (by decide)
  generalize b ^ FpM.e2 % 2305843009213693951 = ib at *
  have Cn := fun w => rfMul_any a ib w ha (by omega)
  generalize a * ib % 2305843009213693951 = dd at *
  generalize (a + b) % 2305843009213693951 = q1 at *
  generalize (a % 2305843009213693951 + 2305843009213693951 - b % 2305843009213693951) % 2305843009213693951 = q2 at *
  generalize a * b % 2305843009213693951 = q3 at *
  generalize a ^ b % 2305843009213693951 = q4 at *
  generalize a ^ FpM.e2 % 2305843009213693951 = ia at *
  have HCa := Lib.hid Ca
  have HCb := Lib.hid Cb
  have HCc := Lib.hid Cc
  have HCd := Lib.hid Cd
  have HCe := Lib.hid Ce
  have HCf := Lib.hid Cf
  have HCg := Lib.hid Cg
  have HCh := Lib.hid Ch
  have HCi := Lib.hid Ci
  have HCj := Lib.hid Cj
  have HCk := Lib.hid Ck
  have HCl := Lib.hid Cl
  have HCm := Lib.hid Cm
  have HCn := Lib.hid Cn
  clear hg h0 h1 hr hs Ca Cb Cc Cd Ce Cf Cg Ch Ci Cj Ck Cl Cm Cn hlb
  go_enter Tryd.func3, Tryd.ntmps3
  have HB := Lib.hid (Below.refl w.heap.size w)
  go_wp2_with fail
  refine (HCj.out).mono ?_
  rintro e w' ⟨rfl, rfl⟩
  go_wp2_with fail
  refine (HCl.out).mono ?_
  rintro e w' ⟨rfl, rfl⟩
  go_wp2_with fail
  refine (HCi.out).mono ?_
  rintro e w' ⟨rfl, rfl⟩
  go_wp2_with fail
  refine (HCa.out).mono ?_
  rintro e w' ⟨rfl, rfl⟩
  go_wp2_with fail
  refine (HCb.out).mono ?_
  rintro e w' ⟨rfl, rfl⟩
  go_wp2_with fail
  refine (HCc.out).mono ?_
  rintro e w' ⟨rfl, rfl⟩
  go_wp2_with fail
  refine (HCd.out).mono ?_
  rintro e w' ⟨rfl, rfl⟩
  go_wp2_with fail
  refine (HCe.out).mono ?_
  rintro e w' ⟨rfl, rfl⟩
  go_wp2_with fail
  refine (HCf.out).mono ?_
  rintro e w' ⟨rfl, rfl⟩
  go_wp2_with fail
  refine (HCg.out).mono ?_
  rintro e w' ⟨rfl, rfl⟩
  go_wp2_with fail
  refine (HCh.out).mono ?_
  rintro e w' ⟨rfl, rfl⟩
  go_wp2_with fail
  refine (HCk.out).mono ?_
  rintro e w' ⟨rfl, rfl⟩
  go_wp2_with fail
  refine (HCm.out _).mono ?_
  rintro e w' ⟨rfl, rfl⟩
  go_wp2_with fail
  refine (HCn.out _).mono ?_
  rintro e w' ⟨rfl, rfl⟩
  go_wp2_with fail
  refine (sure01 _ HG.out).mono ?_
  rintro e w1 ⟨rfl, bel⟩
  replace HB := Lib.hid (HB.out.trans (bel.mono HB.out.size))
  replace HG := Lib.hid (HG.out.later bel (Nat.le_refl _))
  clear bel
  go_wp2_with fail
  go_ret
  exact ⟨rfl, HB.out⟩
theorem fpTells_any (a b : Nat) (w : World) (ha : a < 18446744073709551616) (hb : b < 18446744073709551616) (hg : Glob w) :
    Calls Tryd.prog 3 #[.int .u64 a, .int .u64 b] w fun e w' => e = .returned (.bool true) ∧ Below w.heap.size w w' := by
  by_cases h0 : a % 2305843009213693951 = 0 <;> by_cases h1 : b % 2305843009213693951 = 0
  · exact fpTells_11 a b w ha hb hg h0 h1
  · exact fpTells_10 a b w ha hb hg h0 h1
  · exact fpTells_01 a b w ha hb hg h0 h1
  · exact fpTells_00 a b w ha hb hg h0 h1
end Go.Proofs.YtbgmbemaopnjfaaDoor
