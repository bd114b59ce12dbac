/- Layer 1: FpField's walk. -/
import Derived.Test.YtbgmbemaopnjfaaDoorFpD
namespace Go.Proofs.YtbgmbemaopnjfaaDoor
open Go.RowKit
theorem mulL (x c : Nat) : x % 2305843009213693951 * c % 2305843009213693951 = x * c % 2305843009213693951 := by
  rw [Nat.mul_mod, Nat.mod_mod, ← Nat.mul_mod]
theorem mulR (x c : Nat) : x * (c % 2305843009213693951) % 2305843009213693951 = x * c % 2305843009213693951 := by
  rw [Nat.mul_mod, Nat.mod_mod, ← Nat.mul_mod]
set_option maxRecDepth 100000 in
set_option maxHeartbeats 4000000 in
theorem fpField_11 (a b c : Nat) (w : World) (ha : a < 18446744073709551616) (hb : b < 18446744073709551616) (hc : c < 18446744073709551616) (hg : Glob w) (h0 : a % 2305843009213693951 = 0) (h1 : b % 2305843009213693951 = 0) :
    Calls Tryd.prog 4 #[.int .u64 a, .int .u64 b, .int .u64 c] w fun e w' => e = .returned (.bool true) ∧ Below w.heap.size w w' := by
  have HG := Lib.hid hg
  obtain ⟨r, er⟩ : ∃ x, a % 2305843009213693951 = x := ⟨_, rfl⟩
  have lr : r < 2305843009213693951 := by rw [← er]; exact Nat.mod_lt _ (by decide)
  obtain ⟨S2, eS2⟩ : ∃ x, (a + b) % 2305843009213693951 = x := ⟨_, rfl⟩
  have lS2 : S2 < 2305843009213693951 := by rw [← eS2]; exact Nat.mod_lt _ (by decide)
  obtain ⟨S3, eS3⟩ : ∃ x, (a + b + c) % 2305843009213693951 = x := ⟨_, rfl⟩
  have lS3 : S3 < 2305843009213693951 := by rw [← eS3]; exact Nat.mod_lt _ (by decide)
  obtain ⟨T2, eT2⟩ : ∃ x, (b + c) % 2305843009213693951 = x := ⟨_, rfl⟩
  have lT2 : T2 < 2305843009213693951 := by rw [← eT2]; exact Nat.mod_lt _ (by decide)
  obtain ⟨M2, eM2⟩ : ∃ x, a * b % 2305843009213693951 = x := ⟨_, rfl⟩
  have lM2 : M2 < 2305843009213693951 := by rw [← eM2]; exact Nat.mod_lt _ (by decide)
  obtain ⟨M3, eM3⟩ : ∃ x, a * b * c % 2305843009213693951 = x := ⟨_, rfl⟩
  have lM3 : M3 < 2305843009213693951 := by rw [← eM3]; exact Nat.mod_lt _ (by decide)
  obtain ⟨N2, eN2⟩ : ∃ x, b * c % 2305843009213693951 = x := ⟨_, rfl⟩
  have lN2 : N2 < 2305843009213693951 := by rw [← eN2]; exact Nat.mod_lt _ (by decide)
  obtain ⟨O2, eO2⟩ : ∃ x, a * c % 2305843009213693951 = x := ⟨_, rfl⟩
  have lO2 : O2 < 2305843009213693951 := by rw [← eO2]; exact Nat.mod_lt _ (by decide)
  obtain ⟨D, eD⟩ : ∃ x, a * (b + c) % 2305843009213693951 = x := ⟨_, rfl⟩
  have lD : D < 2305843009213693951 := by rw [← eD]; exact Nat.mod_lt _ (by decide)
  obtain ⟨U, eU⟩ : ∃ x, (a % 2305843009213693951 + 2305843009213693951 - b % 2305843009213693951) % 2305843009213693951 = x := ⟨_, rfl⟩
  have lU : U < 2305843009213693951 := by rw [← eU]; exact Nat.mod_lt _ (by decide)
  have Ca := fval (.int .u64 (r : Nat)) (by rw [er]) (fpOf_any a w ha)
  have Cb := fval (.int .u64 (S2 : Nat)) (by rw [eS2]) (fpAdd_any a b w ha hb)
  have Cc := fval (.int .u64 (S2 : Nat)) (by rw [Nat.add_comm b a, eS2]) (fpAdd_any b a w hb ha)
  have Cd := fval (.int .u64 (M2 : Nat)) (by rw [eM2]) (fpMul_any a b w ha hb)
  have Ce := fval (.int .u64 (M2 : Nat)) (by rw [Nat.mul_comm b a, eM2]) (fpMul_any b a w hb ha)
  have Cf := fval (.int .u64 (S3 : Nat)) (by rw [show (S2 + c) % 2305843009213693951 = S3 by omega]) (fpAdd_any S2 c w (by omega) hc)
  have Cg := fval (.int .u64 (T2 : Nat)) (by rw [eT2]) (fpAdd_any b c w hb hc)
  have Ch := fval (.int .u64 (S3 : Nat)) (by rw [show (a + T2) % 2305843009213693951 = S3 by omega]) (fpAdd_any a T2 w ha (by omega))
  have Ci := fval (.int .u64 (M3 : Nat)) (by rw [← eM2, mulL, eM3]) (fpMul_any M2 c w (by omega) hc)
  have Cj := fval (.int .u64 (N2 : Nat)) (by rw [eN2]) (fpMul_any b c w hb hc)
  have Ck := fval (.int .u64 (M3 : Nat)) (by rw [← eN2, mulR, ← Nat.mul_assoc, eM3]) (fpMul_any a N2 w ha (by omega))
  have Cl := fval (.int .u64 (D : Nat)) (by rw [← eT2, mulR, eD]) (fpMul_any a T2 w ha (by omega))
  have Cm := fval (.int .u64 (O2 : Nat)) (by rw [eO2]) (fpMul_any a c w ha hc)
  have Cn := fval (.int .u64 (D : Nat)) (by rw [← eM2, ← eO2, ← Nat.add_mod, ← Nat.mul_add, eD]) (fpAdd_any M2 O2 w (by omega) (by omega))
  have Co := fval (.int .u64 (U : Nat)) (by rw [eU]) (fpSub_any a b w ha hb)
  have Cp := fval (.int .u64 (r : Nat)) (by rw [show (U + b) % 2305843009213693951 = r by omega]) (fpAdd_any U b w (by omega) hb)
  have Cq := fval (.int .u64 (r : Nat)) (by rw [show (S2 % 2305843009213693951 + 2305843009213693951 - b % 2305843009213693951) % 2305843009213693951 = r by omega]) (fpSub_any S2 b w (by omega) hb)
  have Cr := fval (.int .u64 (r : Nat)) (by rw [Nat.add_zero, er]) (fpAdd_any a 0 w ha (by decide))
  have Cs := fval (.int .u64 (r : Nat)) (by rw [Nat.mul_one, er]) (fpMul_any a 1 w ha (by decide))
  have Ct := fval (.int .u64 0) (by rw [Nat.mul_zero]; rfl) (fpMul_any a 0 w ha (by decide))
  have Cu := fpInv_no a w ha h0
  have Cv := fpDiv_no a b w hb h1
  have hr0 : r = 0 := by omega
  have jS2 : (S2 : Int) < 2305843009213693951 := by omega
  have jM2 : (M2 : Int) < 2305843009213693951 := by omega
  have Ha := Lib.hid Ca
  have Hb := Lib.hid Cb
  have Hc := Lib.hid Cc
  have Hd := Lib.hid Cd
  have He := Lib.hid Ce
  have Hf := Lib.hid Cf
  have Hg := Lib.hid Cg
  have Hh := Lib.hid Ch
  have Hi := Lib.hid Ci
  have Hj := Lib.hid Cj
  have Hk := Lib.hid Ck
  have Hl := Lib.hid Cl
  have Hm := Lib.hid Cm
  have Hn := Lib.hid Cn
  have Ho := Lib.hid Co
  have Hp := Lib.hid Cp
  have Hq := Lib.hid Cq
  have Hr := Lib.hid Cr
  have Hs := Lib.hid Cs
  have Ht := Lib.hid Ct
  have Hu := Lib.hid Cu
  have Hv := Lib.hid Cv
  clear hg h0 h1 Ca Cb Cc Cd Ce Cf Cg Ch Ci Cj Ck Cl Cm Cn Co Cp Cq Cr Cs Ct Cu Cv er eS2 eS3 eT2 eM2 eM3 eN2 eO2 eD eU lr lS2 lS3 lT2 lM2 lM3 lN2 lO2 lD lU
  subst hr0
  go_enter Tryd.func4, Tryd.ntmps4
  have HB := Lib.hid (Below.refl w.heap.size w)
  go_wp2_with fail
  refine (Ha.out).mono ?_
  rintro e w' ⟨rfl, rfl⟩
  go_wp2_with fail
  refine (Hv.out).mono ?_
  rintro e w' ⟨rfl, rfl⟩
  go_wp2_with fail
  refine (Hb.out).mono ?_
  rintro e w' ⟨rfl, rfl⟩
  go_wp2_with fail
  refine (Hc.out).mono ?_
  rintro e w' ⟨rfl, rfl⟩
  go_wp2_with fail
  refine (Hd.out).mono ?_
  rintro e w' ⟨rfl, rfl⟩
  go_wp2_with fail
  refine (He.out).mono ?_
  rintro e w' ⟨rfl, rfl⟩
  go_wp2_with fail
  refine (Hb.out).mono ?_
  rintro e w' ⟨rfl, rfl⟩
  go_wp2_with fail
  refine (Hf.out).mono ?_
  rintro e w' ⟨rfl, rfl⟩
  go_wp2_with fail
  refine (Hg.out).mono ?_
  rintro e w' ⟨rfl, rfl⟩
  go_wp2_with fail
  refine (Hh.out).mono ?_
  rintro e w' ⟨rfl, rfl⟩
  go_wp2_with fail
  refine (Hd.out).mono ?_
  rintro e w' ⟨rfl, rfl⟩
  go_wp2_with fail
  refine (Hi.out).mono ?_
  rintro e w' ⟨rfl, rfl⟩
  go_wp2_with fail
  refine (Hj.out).mono ?_
  rintro e w' ⟨rfl, rfl⟩
  go_wp2_with fail
  refine (Hk.out).mono ?_
  rintro e w' ⟨rfl, rfl⟩
  go_wp2_with fail
  refine (Hg.out).mono ?_
  rintro e w' ⟨rfl, rfl⟩
  go_wp2_with fail
  refine (Hl.out).mono ?_
  rintro e w' ⟨rfl, rfl⟩
  go_wp2_with fail
  refine (Hd.out).mono ?_
  rintro e w' ⟨rfl, rfl⟩
  go_wp2_with fail
  refine (Hm.out).mono ?_
  rintro e w' ⟨rfl, rfl⟩
  go_wp2_with fail
  refine (Hn.out).mono ?_
  rintro e w' ⟨rfl, rfl⟩
  go_wp2_with fail
  refine (Ho.out).mono ?_
  rintro e w' ⟨rfl, rfl⟩
  go_wp2_with fail
  refine (Hp.out).mono ?_
  rintro e w' ⟨rfl, rfl⟩
  go_wp2_with fail
  refine (Hb.out).mono ?_
  rintro e w' ⟨rfl, rfl⟩
  go_wp2_with fail
  refine (Hq.out).mono ?_
  rintro e w' ⟨rfl, rfl⟩
  go_wp2_with fail
  refine (Hr.out).mono ?_
  rintro e w' ⟨rfl, rfl⟩
  go_wp2_with fail
  refine (Hs.out).mono ?_
  rintro e w' ⟨rfl, rfl⟩
  go_wp2_with fail
  refine (Ht.out).mono ?_
  rintro e w' ⟨rfl, rfl⟩
  go_wp2_with fail
  refine (Hu.out).mono ?_
  rintro e w' ⟨rfl, rfl⟩
  go_wp2_with fail
  refine (Hb.out).mono ?_
  rintro e w' ⟨rfl, rfl⟩
  go_wp2_with fail
  refine (Hd.out).mono ?_
  rintro e w' ⟨rfl, rfl⟩
  go_wp2_with fail
  refine (sure01 _ HG.out).mono ?_
  rintro e w1 ⟨rfl, bel⟩
  replace HB := Lib.hid (HB.out.trans (bel.mono HB.out.size))
  replace HG := Lib.hid (HG.out.later bel (Nat.le_refl _))
  clear bel
  go_wp2_with fail
  go_ret
  exact ⟨rfl, HB.out⟩
set_option maxRecDepth 100000 in
set_option maxHeartbeats 4000000 in
theorem fpField_10 (a b c : Nat) (w : World) (ha : a < 18446744073709551616) (hb : b < 18446744073709551616) (hc : c < 18446744073709551616) (hg : Glob w) (h0 : a % 2305843009213693951 = 0) (h1 : b % 2305843009213693951 ≠ 0) :
    Calls Tryd.prog 4 #[.int .u64 a, .int .u64 b, .int .u64 c] w fun e w' => e = .returned (.bool true) ∧ Below w.heap.size w w' := by
  have HG := Lib.hid hg
  obtain ⟨r, er⟩ : ∃ x, a % 2305843009213693951 = x := ⟨_, rfl⟩
  have lr : r < 2305843009213693951 := by rw [← er]; exact Nat.mod_lt _ (by decide)
  obtain ⟨S2, eS2⟩ : ∃ x, (a + b) % 2305843009213693951 = x := ⟨_, rfl⟩
  have lS2 : S2 < 2305843009213693951 := by rw [← eS2]; exact Nat.mod_lt _ (by decide)
  obtain ⟨S3, eS3⟩ : ∃ x, (a + b + c) % 2305843009213693951 = x := ⟨_, rfl⟩
  have lS3 : S3 < 2305843009213693951 := by rw [← eS3]; exact Nat.mod_lt _ (by decide)
  obtain ⟨T2, eT2⟩ : ∃ x, (b + c) % 2305843009213693951 = x := ⟨_, rfl⟩
  have lT2 : T2 < 2305843009213693951 := by rw [← eT2]; exact Nat.mod_lt _ (by decide)
  obtain ⟨M2, eM2⟩ : ∃ x, a * b % 2305843009213693951 = x := ⟨_, rfl⟩
  have lM2 : M2 < 2305843009213693951 := by rw [← eM2]; exact Nat.mod_lt _ (by decide)
  obtain ⟨M3, eM3⟩ : ∃ x, a * b * c % 2305843009213693951 = x := ⟨_, rfl⟩
  have lM3 : M3 < 2305843009213693951 := by rw [← eM3]; exact Nat.mod_lt _ (by decide)
  obtain ⟨N2, eN2⟩ : ∃ x, b * c % 2305843009213693951 = x := ⟨_, rfl⟩
  have lN2 : N2 < 2305843009213693951 := by rw [← eN2]; exact Nat.mod_lt _ (by decide)
  obtain ⟨O2, eO2⟩ : ∃ x, a * c % 2305843009213693951 = x := ⟨_, rfl⟩
  have lO2 : O2 < 2305843009213693951 := by rw [← eO2]; exact Nat.mod_lt _ (by decide)
  obtain ⟨D, eD⟩ : ∃ x, a * (b + c) % 2305843009213693951 = x := ⟨_, rfl⟩
  have lD : D < 2305843009213693951 := by rw [← eD]; exact Nat.mod_lt _ (by decide)
  obtain ⟨U, eU⟩ : ∃ x, (a % 2305843009213693951 + 2305843009213693951 - b % 2305843009213693951) % 2305843009213693951 = x := ⟨_, rfl⟩
  have lU : U < 2305843009213693951 := by rw [← eU]; exact Nat.mod_lt _ (by decide)
  have Ca := fval (.int .u64 (r : Nat)) (by rw [er]) (fpOf_any a w ha)
  have Cb := fval (.int .u64 (S2 : Nat)) (by rw [eS2]) (fpAdd_any a b w ha hb)
  have Cc := fval (.int .u64 (S2 : Nat)) (by rw [Nat.add_comm b a, eS2]) (fpAdd_any b a w hb ha)
  have Cd := fval (.int .u64 (M2 : Nat)) (by rw [eM2]) (fpMul_any a b w ha hb)
  have Ce := fval (.int .u64 (M2 : Nat)) (by rw [Nat.mul_comm b a, eM2]) (fpMul_any b a w hb ha)
  have Cf := fval (.int .u64 (S3 : Nat)) (by rw [show (S2 + c) % 2305843009213693951 = S3 by omega]) (fpAdd_any S2 c w (by omega) hc)
  have Cg := fval (.int .u64 (T2 : Nat)) (by rw [eT2]) (fpAdd_any b c w hb hc)
  have Ch := fval (.int .u64 (S3 : Nat)) (by rw [show (a + T2) % 2305843009213693951 = S3 by omega]) (fpAdd_any a T2 w ha (by omega))
  have Ci := fval (.int .u64 (M3 : Nat)) (by rw [← eM2, mulL, eM3]) (fpMul_any M2 c w (by omega) hc)
  have Cj := fval (.int .u64 (N2 : Nat)) (by rw [eN2]) (fpMul_any b c w hb hc)
  have Ck := fval (.int .u64 (M3 : Nat)) (by rw [← eN2, mulR, ← Nat.mul_assoc, eM3]) (fpMul_any a N2 w ha (by omega))
  have Cl := fval (.int .u64 (D : Nat)) (by rw [← eT2, mulR, eD]) (fpMul_any a T2 w ha (by omega))
  have Cm := fval (.int .u64 (O2 : Nat)) (by rw [eO2]) (fpMul_any a c w ha hc)
  have Cn := fval (.int .u64 (D : Nat)) (by rw [← eM2, ← eO2, ← Nat.add_mod, ← Nat.mul_add, eD]) (fpAdd_any M2 O2 w (by omega) (by omega))
  have Co := fval (.int .u64 (U : Nat)) (by rw [eU]) (fpSub_any a b w ha hb)
  have Cp := fval (.int .u64 (r : Nat)) (by rw [show (U + b) % 2305843009213693951 = r by omega]) (fpAdd_any U b w (by omega) hb)
  have Cq := fval (.int .u64 (r : Nat)) (by rw [show (S2 % 2305843009213693951 + 2305843009213693951 - b % 2305843009213693951) % 2305843009213693951 = r by omega]) (fpSub_any S2 b w (by omega) hb)
  have Cr := fval (.int .u64 (r : Nat)) (by rw [Nat.add_zero, er]) (fpAdd_any a 0 w ha (by decide))
  have Cs := fval (.int .u64 (r : Nat)) (by rw [Nat.mul_one, er]) (fpMul_any a 1 w ha (by decide))
  have Ct := fval (.int .u64 0) (by rw [Nat.mul_zero]; rfl) (fpMul_any a 0 w ha (by decide))
  have Cu := fpInv_no a w ha h0
  have hib : (b ^ FpM.e2 * b) % 2305843009213693951 = 1 := FpM.inv_mul b h1
  have Cv := fpDiv_ok a b w ha hb h1
  have lib : a * (b ^ FpM.e2 % 2305843009213693951) % 2305843009213693951 < 2305843009213693951 := Nat.mod_lt _ (by decide)
  have Cw := fval (.int .u64 (r : Nat)) (by rw [mulL, Nat.mul_assoc, ← mulR, mulL, hib, Nat.mul_one, er]) (fpMul_any (a * (b ^ FpM.e2 % 2305843009213693951) % 2305843009213693951) b w (by omega) hb)
  generalize a * (b ^ FpM.e2 % 2305843009213693951) % 2305843009213693951 = qq at *
  have hr0 : r = 0 := by omega
  have jS2 : (S2 : Int) < 2305843009213693951 := by omega
  have jM2 : (M2 : Int) < 2305843009213693951 := by omega
  have Ha := Lib.hid Ca
  have Hb := Lib.hid Cb
  have Hc := Lib.hid Cc
  have Hd := Lib.hid Cd
  have He := Lib.hid Ce
  have Hf := Lib.hid Cf
  have Hg := Lib.hid Cg
  have Hh := Lib.hid Ch
  have Hi := Lib.hid Ci
  have Hj := Lib.hid Cj
  have Hk := Lib.hid Ck
  have Hl := Lib.hid Cl
  have Hm := Lib.hid Cm
  have Hn := Lib.hid Cn
  have Ho := Lib.hid Co
  have Hp := Lib.hid Cp
  have Hq := Lib.hid Cq
  have Hr := Lib.hid Cr
  have Hs := Lib.hid Cs
  have Ht := Lib.hid Ct
  have Hu := Lib.hid Cu
  have Hv := Lib.hid Cv
  have Hw := Lib.hid Cw
  clear hg h0 h1 Ca Cb Cc Cd Ce Cf Cg Ch Ci Cj Ck Cl Cm Cn Co Cp Cq Cr Cs Ct Cu Cv Cw er eS2 eS3 eT2 eM2 eM3 eN2 eO2 eD eU lr lS2 lS3 lT2 lM2 lM3 lN2 lO2 lD lU hib lib
  subst hr0
  go_enter Tryd.func4, Tryd.ntmps4
  have HB := Lib.hid (Below.refl w.heap.size w)
  go_wp2_with fail
  refine (Ha.out).mono ?_
  rintro e w' ⟨rfl, rfl⟩
  go_wp2_with fail
  refine (Hv.out).mono ?_
  rintro e w' ⟨rfl, rfl⟩
  go_wp2_with fail
  refine (Hb.out).mono ?_
  rintro e w' ⟨rfl, rfl⟩
  go_wp2_with fail
  refine (Hc.out).mono ?_
  rintro e w' ⟨rfl, rfl⟩
  go_wp2_with fail
  refine (Hd.out).mono ?_
  rintro e w' ⟨rfl, rfl⟩
  go_wp2_with fail
  refine (He.out).mono ?_
  rintro e w' ⟨rfl, rfl⟩
  go_wp2_with fail
  refine (Hb.out).mono ?_
  rintro e w' ⟨rfl, rfl⟩
  go_wp2_with fail
  refine (Hf.out).mono ?_
  rintro e w' ⟨rfl, rfl⟩
  go_wp2_with fail
  refine (Hg.out).mono ?_
  rintro e w' ⟨rfl, rfl⟩
  go_wp2_with fail
  refine (Hh.out).mono ?_
  rintro e w' ⟨rfl, rfl⟩
  go_wp2_with fail
  refine (Hd.out).mono ?_
  rintro e w' ⟨rfl, rfl⟩
  go_wp2_with fail
  refine (Hi.out).mono ?_
  rintro e w' ⟨rfl, rfl⟩
  go_wp2_with fail
  refine (Hj.out).mono ?_
  rintro e w' ⟨rfl, rfl⟩
  go_wp2_with fail
  refine (Hk.out).mono ?_
  rintro e w' ⟨rfl, rfl⟩
  go_wp2_with fail
  refine (Hg.out).mono ?_
  rintro e w' ⟨rfl, rfl⟩
  go_wp2_with fail
  refine (Hl.out).mono ?_
  rintro e w' ⟨rfl, rfl⟩
  go_wp2_with fail
  refine (Hd.out).mono ?_
  rintro e w' ⟨rfl, rfl⟩
  go_wp2_with fail
  refine (Hm.out).mono ?_
  rintro e w' ⟨rfl, rfl⟩
  go_wp2_with fail
  refine (Hn.out).mono ?_
  rintro e w' ⟨rfl, rfl⟩
  go_wp2_with fail
  refine (Ho.out).mono ?_
  rintro e w' ⟨rfl, rfl⟩
  go_wp2_with fail
  refine (Hp.out).mono ?_
  rintro e w' ⟨rfl, rfl⟩
  go_wp2_with fail
  refine (Hb.out).mono ?_
  rintro e w' ⟨rfl, rfl⟩
  go_wp2_with fail
  refine (Hq.out).mono ?_
  rintro e w' ⟨rfl, rfl⟩
  go_wp2_with fail
  refine (Hr.out).mono ?_
  rintro e w' ⟨rfl, rfl⟩
  go_wp2_with fail
  refine (Hs.out).mono ?_
  rintro e w' ⟨rfl, rfl⟩
  go_wp2_with fail
  refine (Ht.out).mono ?_
  rintro e w' ⟨rfl, rfl⟩
  go_wp2_with fail
  refine (Hu.out).mono ?_
  rintro e w' ⟨rfl, rfl⟩
  go_wp2_with fail
  refine (Hw.out).mono ?_
  rintro e w' ⟨rfl, rfl⟩
  go_wp2_with fail
  refine (Hb.out).mono ?_
  rintro e w' ⟨rfl, rfl⟩
  go_wp2_with fail
  refine (Hd.out).mono ?_
  rintro e w' ⟨rfl, rfl⟩
  go_wp2_with fail
  refine (sure01 _ HG.out).mono ?_
  rintro e w1 ⟨rfl, bel⟩
  replace HB := Lib.hid (HB.out.trans (bel.mono HB.out.size))
  replace HG := Lib.hid (HG.out.later bel (Nat.le_refl _))
  clear bel
  go_wp2_with fail
  go_ret
  exact ⟨rfl, HB.out⟩
set_option maxRecDepth 100000 in
set_option maxHeartbeats 4000000 in
theorem fpField_01 (a b c : Nat) (w : World) (ha : a < 18446744073709551616) (hb : b < 18446744073709551616) (hc : c < 18446744073709551616) (hg : Glob w) (h0 : a % 2305843009213693951 ≠ 0) (h1 : b % 2305843009213693951 = 0) :
    Calls Tryd.prog 4 #[.int .u64 a, .int .u64 b, .int .u64 c] w fun e w' => e = .returned (.bool true) ∧ Below w.heap.size w w' := by
  have HG := Lib.hid hg
  obtain ⟨r, er⟩ : ∃ x, a % 2305843009213693951 = x := ⟨_, rfl⟩
  have lr : r < 2305843009213693951 := by rw [← er]; exact Nat.mod_lt _ (by decide)
  obtain ⟨S2, eS2⟩ : ∃ x, (a + b) % 2305843009213693951 = x := ⟨_, rfl⟩
  have lS2 : S2 < 2305843009213693951 := by rw [← eS2]; exact Nat.mod_lt _ (by decide)
  obtain ⟨S3, eS3⟩ : ∃ x, (a + b + c) % 2305843009213693951 = x := ⟨_, rfl⟩
  have lS3 : S3 < 2305843009213693951 := by rw [← eS3]; exact Nat.mod_lt _ (by decide)
  obtain ⟨T2, eT2⟩ : ∃ x, (b + c) % 2305843009213693951 = x := ⟨_, rfl⟩
  have lT2 : T2 < 2305843009213693951 := by rw [← eT2]; exact Nat.mod_lt _ (by decide)
  obtain ⟨M2, eM2⟩ : ∃ x, a * b % 2305843009213693951 = x := ⟨_, rfl⟩
  have lM2 : M2 < 2305843009213693951 := by rw [← eM2]; exact Nat.mod_lt _ (by decide)
  obtain ⟨M3, eM3⟩ : ∃ x, a * b * c % 2305843009213693951 = x := ⟨_, rfl⟩
  have lM3 : M3 < 2305843009213693951 := by rw [← eM3]; exact Nat.mod_lt _ (by decide)
  obtain ⟨N2, eN2⟩ : ∃ x, b * c % 2305843009213693951 = x := ⟨_, rfl⟩
  have lN2 : N2 < 2305843009213693951 := by rw [← eN2]; exact Nat.mod_lt _ (by decide)
  obtain ⟨O2, eO2⟩ : ∃ x, a * c % 2305843009213693951 = x := ⟨_, rfl⟩
  have lO2 : O2 < 2305843009213693951 := by rw [← eO2]; exact Nat.mod_lt _ (by decide)
  obtain ⟨D, eD⟩ : ∃ x, a * (b + c) % 2305843009213693951 = x := ⟨_, rfl⟩
  have lD : D < 2305843009213693951 := by rw [← eD]; exact Nat.mod_lt _ (by decide)
  obtain ⟨U, eU⟩ : ∃ x, (a % 2305843009213693951 + 2305843009213693951 - b % 2305843009213693951) % 2305843009213693951 = x := ⟨_, rfl⟩
  have lU : U < 2305843009213693951 := by rw [← eU]; exact Nat.mod_lt _ (by decide)
  have Ca := fval (.int .u64 (r : Nat)) (by rw [er]) (fpOf_any a w ha)
  have Cb := fval (.int .u64 (S2 : Nat)) (by rw [eS2]) (fpAdd_any a b w ha hb)
  have Cc := fval (.int .u64 (S2 : Nat)) (by rw [Nat.add_comm b a, eS2]) (fpAdd_any b a w hb ha)
  have Cd := fval (.int .u64 (M2 : Nat)) (by rw [eM2]) (fpMul_any a b w ha hb)
  have Ce := fval (.int .u64 (M2 : Nat)) (by rw [Nat.mul_comm b a, eM2]) (fpMul_any b a w hb ha)
  have Cf := fval (.int .u64 (S3 : Nat)) (by rw [show (S2 + c) % 2305843009213693951 = S3 by omega]) (fpAdd_any S2 c w (by omega) hc)
  have Cg := fval (.int .u64 (T2 : Nat)) (by rw [eT2]) (fpAdd_any b c w hb hc)
  have Ch := fval (.int .u64 (S3 : Nat)) (by rw [show (a + T2) % 2305843009213693951 = S3 by omega]) (fpAdd_any a T2 w ha (by omega))
  have Ci := fval (.int .u64 (M3 : Nat)) (by rw [← eM2, mulL, eM3]) (fpMul_any M2 c w (by omega) hc)
  have Cj := fval (.int .u64 (N2 : Nat)) (by rw [eN2]) (fpMul_any b c w hb hc)
  have Ck := fval (.int .u64 (M3 : Nat)) (by rw [← eN2, mulR, ← Nat.mul_assoc, eM3]) (fpMul_any a N2 w ha (by omega))
  have Cl := fval (.int .u64 (D : Nat)) (by rw [← eT2, mulR, eD]) (fpMul_any a T2 w ha (by omega))
  have Cm := fval (.int .u64 (O2 : Nat)) (by rw [eO2]) (fpMul_any a c w ha hc)
  have Cn := fval (.int .u64 (D : Nat)) (by rw [← eM2, ← eO2, ← Nat.add_mod, ← Nat.mul_add, eD]) (fpAdd_any M2 O2 w (by omega) (by omega))
  have Co := fval (.int .u64 (U : Nat)) (by rw [eU]) (fpSub_any a b w ha hb)
  have Cp := fval (.int .u64 (r : Nat)) (by rw [show (U + b) % 2305843009213693951 = r by omega]) (fpAdd_any U b w (by omega) hb)
  have Cq := fval (.int .u64 (r : Nat)) (by rw [show (S2 % 2305843009213693951 + 2305843009213693951 - b % 2305843009213693951) % 2305843009213693951 = r by omega]) (fpSub_any S2 b w (by omega) hb)
  have Cr := fval (.int .u64 (r : Nat)) (by rw [Nat.add_zero, er]) (fpAdd_any a 0 w ha (by decide))
  have Cs := fval (.int .u64 (r : Nat)) (by rw [Nat.mul_one, er]) (fpMul_any a 1 w ha (by decide))
  have Ct := fval (.int .u64 0) (by rw [Nat.mul_zero]; rfl) (fpMul_any a 0 w ha (by decide))
  have hia := FpM.inv_mul a h0
  have hia2 : (a ^ FpM.e2 * a) % 2305843009213693951 = 1 := hia
  have Cu := fpInv_ok a w ha h0
  have lia : a ^ FpM.e2 % 2305843009213693951 < 2305843009213693951 := Nat.mod_lt _ (by decide)
  have Cx := fval (.int .u64 1) (by rw [mulL, hia2]; rfl) (fpMul_any (a ^ FpM.e2 % 2305843009213693951) a w (by omega) ha)
  generalize a ^ FpM.e2 % 2305843009213693951 = ia at *
  have Cv := fpDiv_no a b w hb h1
  have hr0 : 0 < r := by omega
  have hrz : ((r : Int) == 0) = false := by simp; omega
  have hrd : decide ((r : Int) = 0) = false := by simp; omega
  have jS2 : (S2 : Int) < 2305843009213693951 := by omega
  have jM2 : (M2 : Int) < 2305843009213693951 := by omega
  have Ha := Lib.hid Ca
  have Hb := Lib.hid Cb
  have Hc := Lib.hid Cc
  have Hd := Lib.hid Cd
  have He := Lib.hid Ce
  have Hf := Lib.hid Cf
  have Hg := Lib.hid Cg
  have Hh := Lib.hid Ch
  have Hi := Lib.hid Ci
  have Hj := Lib.hid Cj
  have Hk := Lib.hid Ck
  have Hl := Lib.hid Cl
  have Hm := Lib.hid Cm
  have Hn := Lib.hid Cn
  have Ho := Lib.hid Co
  have Hp := Lib.hid Cp
  have Hq := Lib.hid Cq
  have Hr := Lib.hid Cr
  have Hs := Lib.hid Cs
  have Ht := Lib.hid Ct
  have Hu := Lib.hid Cu
  have Hv := Lib.hid Cv
  have Hx := Lib.hid Cx
  clear hg h0 h1 Ca Cb Cc Cd Ce Cf Cg Ch Ci Cj Ck Cl Cm Cn Co Cp Cq Cr Cs Ct Cu Cv Cx er eS2 eS3 eT2 eM2 eM3 eN2 eO2 eD eU lr lS2 lS3 lT2 lM2 lM3 lN2 lO2 lD lU hia hia2 lia
  go_enter Tryd.func4, Tryd.ntmps4
  have HB := Lib.hid (Below.refl w.heap.size w)
  go_wp2_with fail
  refine (Ha.out).mono ?_
  rintro e w' ⟨rfl, rfl⟩
  go_wp2_with fail
  refine (Hv.out).mono ?_
  rintro e w' ⟨rfl, rfl⟩
  go_wp2_with fail
  refine (Hb.out).mono ?_
  rintro e w' ⟨rfl, rfl⟩
  go_wp2_with fail
  refine (Hc.out).mono ?_
  rintro e w' ⟨rfl, rfl⟩
  go_wp2_with fail
  refine (Hd.out).mono ?_
  rintro e w' ⟨rfl, rfl⟩
  go_wp2_with fail
  refine (He.out).mono ?_
  rintro e w' ⟨rfl, rfl⟩
  go_wp2_with fail
  refine (Hb.out).mono ?_
  rintro e w' ⟨rfl, rfl⟩
  go_wp2_with fail
  refine (Hf.out).mono ?_
  rintro e w' ⟨rfl, rfl⟩
  go_wp2_with fail
  refine (Hg.out).mono ?_
  rintro e w' ⟨rfl, rfl⟩
  go_wp2_with fail
  refine (Hh.out).mono ?_
  rintro e w' ⟨rfl, rfl⟩
  go_wp2_with fail
  refine (Hd.out).mono ?_
  rintro e w' ⟨rfl, rfl⟩
  go_wp2_with fail
  refine (Hi.out).mono ?_
  rintro e w' ⟨rfl, rfl⟩
  go_wp2_with fail
  refine (Hj.out).mono ?_
  rintro e w' ⟨rfl, rfl⟩
  go_wp2_with fail
  refine (Hk.out).mono ?_
  rintro e w' ⟨rfl, rfl⟩
  go_wp2_with fail
  refine (Hg.out).mono ?_
  rintro e w' ⟨rfl, rfl⟩
  go_wp2_with fail
  refine (Hl.out).mono ?_
  rintro e w' ⟨rfl, rfl⟩
  go_wp2_with fail
  refine (Hd.out).mono ?_
  rintro e w' ⟨rfl, rfl⟩
  go_wp2_with fail
  refine (Hm.out).mono ?_
  rintro e w' ⟨rfl, rfl⟩
  go_wp2_with fail
  refine (Hn.out).mono ?_
  rintro e w' ⟨rfl, rfl⟩
  go_wp2_with fail
  refine (Ho.out).mono ?_
  rintro e w' ⟨rfl, rfl⟩
  go_wp2_with fail
  refine (Hp.out).mono ?_
  rintro e w' ⟨rfl, rfl⟩
  go_wp2_with fail
  refine (Hb.out).mono ?_
  rintro e w' ⟨rfl, rfl⟩
  go_wp2_with fail
  refine (Hq.out).mono ?_
  rintro e w' ⟨rfl, rfl⟩
  go_wp2_with fail
  refine (Hr.out).mono ?_
  rintro e w' ⟨rfl, rfl⟩
  go_wp2_with fail
  refine (Hs.out).mono ?_
  rintro e w' ⟨rfl, rfl⟩
  go_wp2_with fail
  refine (Ht.out).mono ?_
  rintro e w' ⟨rfl, rfl⟩
  go_wp2_with fail
  refine (Hu.out).mono ?_
  rintro e w' ⟨rfl, rfl⟩
  go_wp2_with fail
  refine (Hx.out).mono ?_
  rintro e w' ⟨rfl, rfl⟩
  go_wp2_with fail
  refine (Hb.out).mono ?_
  rintro e w' ⟨rfl, rfl⟩
  go_wp2_with fail
  refine (Hd.out).mono ?_
  rintro e w' ⟨rfl, rfl⟩
  go_wp2_with fail
  refine (sure01 _ HG.out).mono ?_
  rintro e w1 ⟨rfl, bel⟩
  replace HB := Lib.hid (HB.out.trans (bel.mono HB.out.size))
  replace HG := Lib.hid (HG.out.later bel (Nat.le_refl _))
  clear bel
  go_wp2_with fail
  go_ret
  exact ⟨rfl, HB.out⟩
set_option maxRecDepth 100000 in
set_option maxHeartbeats 4000000 in
theorem fpField_00 (a b c : Nat) (w : World) (ha : a < 18446744073709551616) (hb : b < 18446744073709551616) (hc : c < 18446744073709551616) (hg : Glob w) (h0 : a % 2305843009213693951 ≠ 0) (h1 : b % 2305843009213693951 ≠ 0) :
    Calls Tryd.prog 4 #[.int .u64 a, .int .u64 b, .int .u64 c] w fun e w' => e = .returned (.bool true) ∧ Below w.heap.size w w' := by
  have HG := Lib.hid hg
  obtain ⟨r, er⟩ : ∃ x, a % 2305843009213693951 = x := ⟨_, rfl⟩
  have lr : r < 2305843009213693951 := by rw [← er]; exact Nat.mod_lt _ (by decide)
  obtain ⟨S2, eS2⟩ : ∃ x, (a + b) % 2305843009213693951 = x := ⟨_, rfl⟩
  have lS2 : S2 < 2305843009213693951 := by rw [← eS2]; exact Nat.mod_lt _ (by decide)
  obtain ⟨S3, eS3⟩ : ∃ x, (a + b + c) % 2305843009213693951 = x := ⟨_, rfl⟩
  have lS3 : S3 < 2305843009213693951 := by rw [← eS3]; exact Nat.mod_lt _ (by decide)
  obtain ⟨T2, eT2⟩ : ∃ x, (b + c) % 2305843009213693951 = x := ⟨_, rfl⟩
  have lT2 : T2 < 2305843009213693951 := by rw [← eT2]; exact Nat.mod_lt _ (by decide)
  obtain ⟨M2, eM2⟩ : ∃ x, a * b % 2305843009213693951 = x := ⟨_, rfl⟩
  have lM2 : M2 < 2305843009213693951 := by rw [← eM2]; exact Nat.mod_lt _ (by decide)
  obtain ⟨M3, eM3⟩ : ∃ x, a * b * c % 2305843009213693951 = x := ⟨_, rfl⟩
  have lM3 : M3 < 2305843009213693951 := by rw [← eM3]; exact Nat.mod_lt _ (by decide)
  obtain ⟨N2, eN2⟩ : ∃ x, b * c % 2305843009213693951 = x := ⟨_, rfl⟩
  have lN2 : N2 < 2305843009213693951 := by rw [← eN2]; exact Nat.mod_lt _ (by decide)
  obtain ⟨O2, eO2⟩ : ∃ x, a * c % 2305843009213693951 = x := ⟨_, rfl⟩
  have lO2 : O2 < 2305843009213693951 := by rw [← eO2]; exact Nat.mod_lt _ (by decide)
  obtain ⟨D, eD⟩ : ∃ x, a * (b + c) % 2305843009213693951 = x := ⟨_, rfl⟩
  have lD : D < 2305843009213693951 := by rw [← eD]; exact Nat.mod_lt _ (by decide)
  obtain ⟨U, eU⟩ : ∃ x, (a % 2305843009213693951 + 2305843009213693951 - b % 2305843009213693951) % 2305843009213693951 = x := ⟨_, rfl⟩
  have lU : U < 2305843009213693951 := by rw [← eU]; exact Nat.mod_lt _ (by decide)
  have Ca := fval (.int .u64 (r : Nat)) (by rw [er]) (fpOf_any a w ha)
  have Cb := fval (.int .u64 (S2 : Nat)) (by rw [eS2]) (fpAdd_any a b w ha hb)
  have Cc := fval (.int .u64 (S2 : Nat)) (by rw [Nat.add_comm b a, eS2]) (fpAdd_any b a w hb ha)
  have Cd := fval (.int .u64 (M2 : Nat)) (by rw [eM2]) (fpMul_any a b w ha hb)
  have Ce := fval (.int .u64 (M2 : Nat)) (by rw [Nat.mul_comm b a, eM2]) (fpMul_any b a w hb ha)
  have Cf := fval (.int .u64 (S3 : Nat)) (by rw [show (S2 + c) % 2305843009213693951 = S3 by omega]) (fpAdd_any S2 c w (by omega) hc)
  have Cg := fval (.int .u64 (T2 : Nat)) (by rw [eT2]) (fpAdd_any b c w hb hc)
  have Ch := fval (.int .u64 (S3 : Nat)) (by rw [show (a + T2) % 2305843009213693951 = S3 by omega]) (fpAdd_any a T2 w ha (by omega))
  have Ci := fval (.int .u64 (M3 : Nat)) (by rw [← eM2, mulL, eM3]) (fpMul_any M2 c w (by omega) hc)
  have Cj := fval (.int .u64 (N2 : Nat)) (by rw [eN2]) (fpMul_any b c w hb hc)
  have Ck := fval (.int .u64 (M3 : Nat)) (by rw [← eN2, mulR, ← Nat.mul_assoc, eM3]) (fpMul_any a N2 w ha (by omega))
  have Cl := fval (.int .u64 (D : Nat)) (by rw [← eT2, mulR, eD]) (fpMul_any a T2 w ha (by omega))
  have Cm := fval (.int .u64 (O2 : Nat)) (by rw [eO2]) (fpMul_any a c w ha hc)
  have Cn := fval (.int .u64 (D : Nat)) (by rw [← eM2, ← eO2, ← Nat.add_mod, ← Nat.mul_add, eD]) (fpAdd_any M2 O2 w (by omega) (by omega))
  have Co := fval (.int .u64 (U : Nat)) (by rw [eU]) (fpSub_any a b w ha hb)
  have Cp := fval (.int .u64 (r : Nat)) (by rw [show (U + b) % 2305843009213693951 = r by omega]) (fpAdd_any U b w (by omega) hb)
  have Cq := fval (.int .u64 (r : Nat)) (by rw [show (S2 % 2305843009213693951 + 2305843009213693951 - b % 2305843009213693951) % 2305843009213693951 = r by omega]) (fpSub_any S2 b w (by omega) hb)
  have Cr := fval (.int .u64 (r : Nat)) (by rw [Nat.add_zero, er]) (fpAdd_any a 0 w ha (by decide))
  have Cs := fval (.int .u64 (r : Nat)) (by rw [Nat.mul_one, er]) (fpMul_any a 1 w ha (by decide))
  have Ct := fval (.int .u64 0) (by rw [Nat.mul_zero]; rfl) (fpMul_any a 0 w ha (by decide))
  have hia := FpM.inv_mul a h0
  have hia2 : (a ^ FpM.e2 * a) % 2305843009213693951 = 1 := hia
  have Cu := fpInv_ok a w ha h0
  have lia : a ^ FpM.e2 % 2305843009213693951 < 2305843009213693951 := Nat.mod_lt _ (by decide)
  have Cx := fval (.int .u64 1) (by rw [mulL, hia2]; rfl) (fpMul_any (a ^ FpM.e2 % 2305843009213693951) a w (by omega) ha)
  generalize a ^ FpM.e2 % 2305843009213693951 = ia at *
  have hib : (b ^ FpM.e2 * b) % 2305843009213693951 = 1 := FpM.inv_mul b h1
  have Cv := fpDiv_ok a b w ha hb h1
  have lib : a * (b ^ FpM.e2 % 2305843009213693951) % 2305843009213693951 < 2305843009213693951 := Nat.mod_lt _ (by decide)
  have Cw := fval (.int .u64 (r : Nat)) (by rw [mulL, Nat.mul_assoc, ← mulR, mulL, hib, Nat.mul_one, er]) (fpMul_any (a * (b ^ FpM.e2 % 2305843009213693951) % 2305843009213693951) b w (by omega) hb)
  generalize a * (b ^ FpM.e2 % 2305843009213693951) % 2305843009213693951 = qq at *
  have hr0 : 0 < r := by omega
  have hrz : ((r : Int) == 0) = false := by simp; omega
  have hrd : decide ((r : Int) = 0) = false := by simp; omega
  have jS2 : (S2 : Int) < 2305843009213693951 := by omega
  have jM2 : (M2 : Int) < 2305843009213693951 := by omega
  have Ha := Lib.hid Ca
  have Hb := Lib.hid Cb
  have Hc := Lib.hid Cc
  have Hd := Lib.hid Cd
  have He := Lib.hid Ce
  have Hf := Lib.hid Cf
  have Hg := Lib.hid Cg
  have Hh := Lib.hid Ch
  have Hi := Lib.hid Ci
  have Hj := Lib.hid Cj
  have Hk := Lib.hid Ck
  have Hl := Lib.hid Cl
  have Hm := Lib.hid Cm
  have Hn := Lib.hid Cn
  have Ho := Lib.hid Co
  have Hp := Lib.hid Cp
  have Hq := Lib.hid Cq
  have Hr := Lib.hid Cr
  have Hs := Lib.hid Cs
  have Ht := Lib.hid Ct
  have Hu := Lib.hid Cu
  have Hv := Lib.hid Cv
  have Hx := Lib.hid Cx
  have Hw := Lib.hid Cw
  clear hg h0 h1 Ca Cb Cc Cd Ce Cf Cg Ch Ci Cj Ck Cl Cm Cn Co Cp Cq Cr Cs Ct Cu Cv Cx Cw er eS2 eS3 eT2 eM2 eM3 eN2 eO2 eD eU lr lS2 lS3 lT2 lM2 lM3 lN2 lO2 lD lU hia hia2 lia hib lib
  go_enter Tryd.func4, Tryd.ntmps4
  have HB := Lib.hid (Below.refl w.heap.size w)
  go_wp2_with fail
  refine (Ha.out).mono ?_
  rintro e w' ⟨rfl, rfl⟩
  go_wp2_with fail
  refine (Hv.out).mono ?_
  rintro e w' ⟨rfl, rfl⟩
  go_wp2_with fail
  refine (Hb.out).mono ?_
  rintro e w' ⟨rfl, rfl⟩
  go_wp2_with fail
  refine (Hc.out).mono ?_
  rintro e w' ⟨rfl, rfl⟩
  go_wp2_with fail
  refine (Hd.out).mono ?_
  rintro e w' ⟨rfl, rfl⟩
  go_wp2_with fail
  refine (He.out).mono ?_
  rintro e w' ⟨rfl, rfl⟩
  go_wp2_with fail
  refine (Hb.out).mono ?_
  rintro e w' ⟨rfl, rfl⟩
  go_wp2_with fail
  refine (Hf.out).mono ?_
  rintro e w' ⟨rfl, rfl⟩
  go_wp2_with fail
  refine (Hg.out).mono ?_
  rintro e w' ⟨rfl, rfl⟩
  go_wp2_with fail
  refine (Hh.out).mono ?_
  rintro e w' ⟨rfl, rfl⟩
  go_wp2_with fail
  refine (Hd.out).mono ?_
  rintro e w' ⟨rfl, rfl⟩
  go_wp2_with fail
  refine (Hi.out).mono ?_
  rintro e w' ⟨rfl, rfl⟩
  go_wp2_with fail
  refine (Hj.out).mono ?_
  rintro e w' ⟨rfl, rfl⟩
  go_wp2_with fail
  refine (Hk.out).mono ?_
  rintro e w' ⟨rfl, rfl⟩
  go_wp2_with fail
  refine (Hg.out).mono ?_
  rintro e w' ⟨rfl, rfl⟩
  go_wp2_with fail
  refine (Hl.out).mono ?_
  rintro e w' ⟨rfl, rfl⟩
  go_wp2_with fail
  refine (Hd.out).mono ?_
  rintro e w' ⟨rfl, rfl⟩
  go_wp2_with fail
  refine (Hm.out).mono ?_
  rintro e w' ⟨rfl, rfl⟩
  go_wp2_with fail
  refine (Hn.out).mono ?_
  rintro e w' ⟨rfl, rfl⟩
  go_wp2_with fail
  refine (Ho.out).mono ?_
  rintro e w' ⟨rfl, rfl⟩
  go_wp2_with fail
  refine (Hp.out).mono ?_
  rintro e w' ⟨rfl, rfl⟩
  go_wp2_with fail
  refine (Hb.out).mono ?_
  rintro e w' ⟨rfl, rfl⟩
  go_wp2_with fail
  refine (Hq.out).mono ?_
  rintro e w' ⟨rfl, rfl⟩
  go_wp2_with fail
  refine (Hr.out).mono ?_
  rintro e w' ⟨rfl, rfl⟩
  go_wp2_with fail
  refine (Hs.out).mono ?_
  rintro e w' ⟨rfl, rfl⟩
  go_wp2_with fail
  refine (Ht.out).mono ?_
  rintro e w' ⟨rfl, rfl⟩
  go_wp2_with fail
  refine (Hu.out).mono ?_
  rintro e w' ⟨rfl, rfl⟩
  go_wp2_with fail
  refine (Hw.out).mono ?_
  rintro e w' ⟨rfl, rfl⟩
  go_wp2_with fail
  refine (Hx.out).mono ?_
  rintro e w' ⟨rfl, rfl⟩
  go_wp2_with fail
  refine (Hb.out).mono ?_
  rintro e w' ⟨rfl, rfl⟩
  go_wp2_with fail
  refine (Hd.out).mono ?_
  rintro e w' ⟨rfl, rfl⟩
  go_wp2_with fail
  refine (sure01 _ HG.out).mono ?_
  rintro e w1 ⟨rfl, bel⟩
  replace HB := Lib.hid (HB.out.trans (bel.mono HB.out.size))
  replace HG := Lib.hid (HG.out.later bel (Nat.le_refl _))
  clear bel
  go_wp2_with fail
  go_ret
  exact ⟨rfl, HB.out⟩
theorem fpField_any (a b c : Nat) (w : World) (ha : a < 18446744073709551616) (hb : b < 18446744073709551616) (hc : c < 18446744073709551616) (hg : Glob w) :
    Calls Tryd.prog 4 #[.int .u64 a, .int .u64 b, .int .u64 c] w fun e w' => e = .returned (.bool true) ∧ Below w.heap.size w w' := by
  by_cases h0 : a % 2305843009213693951 = 0 <;> by_cases h1 : b % 2305843009213693951 = 0
  · exact fpField_11 a b c w ha hb hc hg h0 h1
  · exact fpField_10 a b c w ha hb hc hg h0 h1
  · exact fpField_01 a b c w ha hb hc hg h0 h1
  · exact fpField_00 a b c w ha hb hc hg h0 h1
end Go.Proofs.YtbgmbemaopnjfaaDoor
