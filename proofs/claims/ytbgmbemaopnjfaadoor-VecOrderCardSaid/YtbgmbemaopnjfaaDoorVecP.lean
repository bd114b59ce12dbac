/- Layer 2: VecOrder's walk. -/
import Derived.Test.YtbgmbemaopnjfaaDoorVecF
import Derived.Test.YtbgmbemaopnjfaaDoorVecN
import Derived.Test.YtbgmbemaopnjfaaDoorVecO
namespace Go.Proofs.YtbgmbemaopnjfaaDoor
open Go.RowKit
set_option maxRecDepth 100000 in
set_option maxHeartbeats 16000000 in
theorem vorder_in (b o c : Nat) (l : List (List Nat)) (m : Nat) (cut q : Nat) (w : World) (hl : l.length = m) (hm : m ≤ 60) (hm0 : 0 < m) (ha : At w (some ⟨b, o, none⟩) (nats .u32 l.flatten)) (hgd : VE.good 8 l) (hr : ∀ r ∈ l, ∀ x ∈ r, x < 4294967296) (hcut : cut < 256) (hq : q < 4294967296) (hg : Glob w) :
    Calls Tryd.prog 12 #[.slice (some ⟨b, o, none⟩) m c, .int .u8 cut, .int .u32 q] w fun e w' => e = .returned (.bool true) ∧ Below w.heap.size w w' := by
  have HG0 := Lib.hid hg
  have HL := Lib.hid hl
  have HA := Lib.hid ha
  have HGD := Lib.hid hgd
  have HR := Lib.hid hr
  have HQ := Lib.hid hq
  have HLR := Lib.hid (show l.reverse.length = m by rw [List.length_reverse, hl])
  have HLT := Lib.hid (show (l.map (VE.times q)).length = m by rw [List.length_map, hl])
  obtain ⟨p, hp⟩ : ∃ p, cut % m = p := ⟨_, rfl⟩
  have hpm : p < m := by rw [← hp]; exact Nat.mod_lt _ hm0
  have HP := Lib.hid hp
  have hmi : ((m : Int) == 0) = false := by simp; omega
  clear hl ha hgd hr hg hp hq
  go_enter Tryd.func12, Tryd.ntmps12
  go_wp2
  go_loopw [7, 8, 9, 10] (fun s1 s2 s3 i wr => ∃ (j : Nat) (A1 A2 A3 : Option Addr) (c1 c2 c3 : Nat) (v1 v2 v3 : List Value), j ≤ m ∧ i = .int .i64 j ∧ s1 = .slice A1 j c1 ∧ s2 = .slice A2 j c2 ∧ s3 = .slice A3 j c3 ∧ Tri w.heap.size w wr A1 j c1 v1 (l.take j) A2 j c2 v2 (l.reverse.take j) A3 j c3 v3 ((l.map (VE.times q)).take j)) (fun _ _ _ i _ => m - (intOf i).toNat)
  case atStart => exact ⟨0, none, none, none, 0, 0, 0, [], [], [], by omega, rfl, rfl, rfl, rfl, Tri.start w⟩
  case round =>
    obtain ⟨j, A1, A2, A3, c1, c2, c3, v1, v2, v3, hj, rfl, rfl, rfl, rfl, htri⟩ := hrel
    have T0 := Lib.hid htri
    have HZ0 := Lib.hid htri.bel.size
    clear htri
    by_cases hlt : j < m
    · have hpi : (m : Int) - 1 - (j : Int) = ((m - 1 - j : Nat) : Int) := by omega
      have hp2 : m - 1 - j < m := by omega
      have HJ := Lib.hid (show j < l.length by rw [HL.out]; exact hlt)
      have HJ2 := Lib.hid (show m - 1 - j < l.length by rw [HL.out]; exact hp2)
      have S1 := Lib.hid (HA.out.row8 HGD.out j HJ.out)
      have S2 := Lib.hid (HA.out.row8 HGD.out (m - 1 - j) HJ2.out)
      have R1 := Lib.hid (HGD.out _ (getD_mem HJ.out))
      have R2 := Lib.hid (HGD.out _ (getD_mem HJ2.out))
      have Y1 := Lib.hid (HR.out _ (getD_mem HJ.out))
      have E1 := Lib.hid (take_snocR (l := l) (k := j) HJ.out)
      have E2 := Lib.hid (show l.reverse.take (j + 1) = l.reverse.take j ++ [l.getD (m - 1 - j) []] by
        rw [take_snocR (by rw [HLR.out]; exact hlt)]
        congr 2
        have h1 : j < l.reverse.length := by rw [HLR.out]; exact hlt
        rw [List.getD_eq_getElem?_getD, List.getD_eq_getElem?_getD, List.getElem?_reverse HJ.out, HL.out])
      have E3 := Lib.hid (show (l.map (VE.times q)).take (j + 1) = (l.map (VE.times q)).take j ++ [VE.times q (l.getD j [])] by
        rw [take_snocR (by rw [HLT.out]; exact hlt)]
        congr 2
        simp [List.getD_eq_getElem?_getD, List.getElem?_eq_getElem HJ.out])
      generalize l.getD j [] = r1 at *
      generalize l.getD (m - 1 - j) [] = r2 at *
      generalize m - 1 - j = p2 at *
      have N1 := Lib.hid (show r1 ≠ [] by intro e; have := R1.out; rw [e] at this; cases this)
      have N2 := Lib.hid (show r2 ≠ [] by intro e; have := R2.out; rw [e] at this; cases this)
      have R3 := Lib.hid (show (VE.times q r1).length = 8 by rw [VE.times_length, R1.out])
      have N3 := Lib.hid (show VE.times q r1 ≠ [] by intro e; have := R3.out; rw [e] at this; cases this)
      have S10 := Lib.hid (S1.out.later T0.out.bel (Nat.le_refl _))
      go_wp2_with (first
        | (at_builtin; refine wpList_app rfl elt_u32 w.heap.size (.tmp 46) (.tmp 50) rfl _ rfl (Own.lit #[] 0 HZ0.out (by decide) rfl) (nats .u32 r1) rfl (S10.out.later ((Below.refl _ _).alloc (Nat.le_refl _) _) (Nat.le_refl _)) (by rw [nats_length, R1.out, Nat.mul_one]) (nats_one _ _) (by unfold maxLen; omega) (by omega) (by have := HZ0.out; simp; omega) ?_; intro A_r1 c_r1 w_r1 own g k5; have belr := Lib.hid (lit_grown g); have KR1 := Lib.hid (lit_far k5); simp only [Nat.zero_add] at own; have AR1 := Lib.hid (show At w_r1 A_r1 (nats .u32 r1) from by have h := own.at_; simpa using h); have CR1 := Lib.hid own.cap; have FR1 := Lib.hid ((T0.out).far AR1.out N1.out KR1.out); have TR1 := Lib.hid ((T0.out).later belr.out HZ0.out); have HZR1 := Lib.hid (Nat.le_trans HZ0.out belr.out.size); clear own g k5 belr)
        | (at_builtin; refine wpList_app rfl elt_sl32 w.heap.size (.tmp 45) (.tmp 52) rfl _ rfl (TR1.out.o1.alloc _) [.slice A_r1 8 c_r1] rfl (At.lit _ _ _ _ _ rfl) rfl (by intro u hu; simp at hu; subst hu; rfl) (by unfold maxLen; omega) (by omega) (by have := HZR1.out; simp; omega) ?_; intro A_h1 c_h1 w_h1 own g k5; have belr := Lib.hid ((Below.refl w_r1.heap.size w_r1).alloc (Nat.le_refl _) (.cells #[.slice A_r1 8 c_r1] 58)); have T1 := Lib.hid (((TR1.out.later belr.out HZR1.out).push (Nat.le_trans HZR1.out belr.out.size) R1.out (AR1.out.later belr.out (Nat.le_refl _)) N1.out CR1.out.1 CR1.out.2 FR1.out g own (new_of k5 (Nat.le_refl _)))); have HZ1 := Lib.hid T1.out.bel.size; clear own g k5 belr TR1 AR1 CR1 FR1 KR1 HZR1)
        | (at_builtin; refine wpList_app rfl elt_u32 w.heap.size (.tmp 55) (.tmp 63) rfl _ rfl (Own.lit #[] 0 HZ1.out (by decide) rfl) (nats .u32 r2) rfl ((S2.out.later T1.out.bel (Nat.le_refl _)).later ((Below.refl _ _).alloc (Nat.le_refl _) _) (Nat.le_refl _)) (by rw [nats_length, R2.out, Nat.mul_one]) (nats_one _ _) (by unfold maxLen; omega) (by omega) (by have := HZ1.out; simp; omega) ?_; intro A_r2 c_r2 w_r2 own g k5; have belr := Lib.hid (lit_grown g); have KR2 := Lib.hid (lit_far k5); simp only [Nat.zero_add] at own; have AR2 := Lib.hid (show At w_r2 A_r2 (nats .u32 r2) from by have h := own.at_; simpa using h); have CR2 := Lib.hid own.cap; have FR2 := Lib.hid ((T1.out.turn).far AR2.out N2.out KR2.out); have TR2 := Lib.hid ((T1.out.turn).later belr.out HZ1.out); have HZR2 := Lib.hid (Nat.le_trans HZ1.out belr.out.size); clear own g k5 belr)
        | (at_builtin; refine wpList_app rfl elt_sl32 w.heap.size (.tmp 54) (.tmp 65) rfl _ rfl (TR2.out.o1.alloc _) [.slice A_r2 8 c_r2] rfl (At.lit _ _ _ _ _ rfl) rfl (by intro u hu; simp at hu; subst hu; rfl) (by unfold maxLen; omega) (by omega) (by have := HZR2.out; simp; omega) ?_; intro A_h2 c_h2 w_h2 own g k5; have belr := Lib.hid ((Below.refl w_r2.heap.size w_r2).alloc (Nat.le_refl _) (.cells #[.slice A_r2 8 c_r2] 58)); have T2 := Lib.hid (((TR2.out.later belr.out HZR2.out).push (Nat.le_trans HZR2.out belr.out.size) R2.out (AR2.out.later belr.out (Nat.le_refl _)) N2.out CR2.out.1 CR2.out.2 FR2.out g own (new_of k5 (Nat.le_refl _))).turn.turn); have HZ2 := Lib.hid T2.out.bel.size; clear own g k5 belr TR2 AR2 CR2 FR2 KR2 HZR2))
      refine (vtimes_cap (some ⟨b, o + j * 8, none⟩) 8 8 r1 q w_h2 R1.out (by decide) (S1.out.later T2.out.bel (Nat.le_refl _)) Y1.out HQ.out).mono ?_
      rintro e w_r3 ⟨rfl, hat, bel⟩
      have AR3 := Lib.hid hat
      have TR3 := Lib.hid (T2.out.turn.turn.later bel HZ2.out)
      have FR3 := Lib.hid (T2.out.turn.turn.far AR3.out N3.out (fun k hk => by simp [blk] at hk; omega))
      have HZR3 := Lib.hid (Nat.le_trans HZ2.out bel.size)
      have CR3 := Lib.hid (show 8 ≤ 8 ∧ 8 ≤ maxLen by unfold maxLen; omega)
      have KR3 := Lib.hid hat
      clear hat bel
      generalize hA3 : (some ⟨w_h2.heap.size, 0, none⟩ : Option Addr) = A_r3 at *
      clear hA3
      go_wp2_with (at_builtin; refine wpList_app rfl elt_sl32 w.heap.size (.tmp 78) (.tmp 80) rfl _ rfl (TR3.out.o1.alloc _) [.slice A_r3 8 8] rfl (At.lit _ _ _ _ _ rfl) rfl (by intro u hu; simp at hu; subst hu; rfl) (by unfold maxLen; omega) (by omega) (by have := HZR3.out; simp; omega) ?_; intro A_h3 c_h3 w_h3 own g k5; have belr := Lib.hid ((Below.refl w_r3.heap.size w_r3).alloc (Nat.le_refl _) (.cells #[.slice A_r3 8 8] 58)); have T3 := Lib.hid (((TR3.out.later belr.out HZR3.out).push (Nat.le_trans HZR3.out belr.out.size) R3.out (AR3.out.later belr.out (Nat.le_refl _)) N3.out CR3.out.1 CR3.out.2 FR3.out g own (new_of k5 (Nat.le_refl _))).turn); have HZ3 := Lib.hid T3.out.bel.size; clear own g k5 belr TR3 AR3 CR3 FR3 KR3 HZR3)
      refine ⟨⟨j + 1, A_h1, A_h2, A_h3, c_h1, c_h2, c_h3, v1 ++ [.slice A_r1 8 c_r1], v2 ++ [.slice A_r2 8 c_r2], v3 ++ [.slice A_r3 8 8], by omega, by simp, rfl, rfl, rfl, ?_⟩, by simp only [intOf]; omega⟩
      rw [E1.out, E2.out, E3.out]
      exact T3.out
    · obtain rfl : j = m := by omega
      clear hlt hj
      rw [List.take_of_length_le (Nat.le_of_eq HL.out), List.take_of_length_le (Nat.le_of_eq HLR.out), List.take_of_length_le (Nat.le_of_eq HLT.out)] at T0
      have hci : (cut : Int) % (j : Int) = (p : Int) := by rw [← HP.out]; push_cast; rfl
      have RW1 := Lib.hid (T0.out.r1.rows T0.out.o1.at_)
      have RW2 := Lib.hid (T0.out.r2.rows T0.out.o2.at_)
      have RW3 := Lib.hid (T0.out.r3.rows T0.out.o3.at_)
      obtain ⟨kc1, kc2⟩ := T0.out.o1.cap
      unfold maxLen at kc2
      have HB := Lib.hid T0.out.bel
      obtain ⟨g1, hg1⟩ : ∃ g, A1 = some ⟨g, 0, none⟩ := by
        rcases T0.out.o1.lies with ⟨_, h, _⟩ | ⟨g, h, _⟩
        · omega
        · exact ⟨g, h⟩
      subst hg1
      have hpc : p ≤ c1 := by omega
      have hcp : ¬ c1 = p := by omega
      have HG := Lib.hid (HG0.out.later HB.out (Nat.le_refl _))
      have G1 := Lib.hid (VE.good_take p HGD.out)
      have G2 := Lib.hid (VE.good_drop p HGD.out)
      have D1 := Lib.hid (show ∀ r ∈ l.take p, ∀ x ∈ r, x < 4294967296 from fun r hr => HR.out r (List.mem_of_mem_take hr))
      have D2 := Lib.hid (show ∀ r ∈ l.drop p, ∀ x ∈ r, x < 4294967296 from fun r hr => HR.out r (List.mem_of_mem_drop hr))
      have D3 := Lib.hid (show ∀ r ∈ l.reverse, ∀ x ∈ r, x < 4294967296 from fun r hr => HR.out r (List.mem_reverse.1 hr))
      have D4 := Lib.hid (show ∀ r ∈ l.map (VE.times q), ∀ x ∈ r, x < 4294967296 from fun r hr => by obtain ⟨y, _, rfl⟩ := List.mem_map.1 hr; exact VE.times_lt q y)
      obtain ⟨S, hS⟩ : ∃ S, VE.acc 8 l = S := ⟨_, rfl⟩
      obtain ⟨Sa_, hSa⟩ : ∃ S, VE.acc 8 (l.take p) = S := ⟨_, rfl⟩
      obtain ⟨Sb_, hSb⟩ : ∃ S, VE.acc 8 (l.drop p) = S := ⟨_, rfl⟩
      obtain ⟨M, hM⟩ : ∃ M, VE.times q S = M := ⟨_, rfl⟩
      have Q1 := Lib.hid (show VE.sums 8 l = some S from (VE.sums_ok (n := 8) (by decide) HGD.out).trans (by rw [hS]))
      have Q2 := Lib.hid (show VE.sums 8 l.reverse = some S from (VE.sums_ok (n := 8) (by decide) (VE.good_reverse HGD.out)).trans (by rw [VE.acc_reverse HGD.out, hS]))
      have Q3 := Lib.hid (show VE.sums 8 (l.take p) = some Sa_ from (VE.sums_ok (n := 8) (by decide) G1.out).trans (by rw [hSa]))
      have Q4 := Lib.hid (show VE.sums 8 (l.drop p) = some Sb_ from (VE.sums_ok (n := 8) (by decide) G2.out).trans (by rw [hSb]))
      have Q5 := Lib.hid (show VE.lin 1 Sa_ Sb_ = S by rw [← hSa, ← hSb, ← hS]; exact VE.acc_split p HGD.out)
      have Q6 := Lib.hid (show VE.lin 4294967295 S Sb_ = Sa_ by rw [← hSa, ← hSb, ← hS]; exact VE.acc_less p HGD.out)
      have Q7 := Lib.hid (show VE.sums 8 (l.map (VE.times q)) = some M from (VE.sums_ok (n := 8) (by decide) (VE.good_times q HGD.out)).trans (by rw [VE.acc_times q HGD.out, hS, hM]))
      have Q8 := Lib.hid hM
      have L0 := Lib.hid (show S.length = 8 by rw [← hS]; exact VE.acc_length _ HGD.out)
      have La := Lib.hid (show Sa_.length = 8 by rw [← hSa]; exact VE.acc_length _ G1.out)
      have Lb := Lib.hid (show Sb_.length = 8 by rw [← hSb]; exact VE.acc_length _ G2.out)
      have Lm := Lib.hid (show M.length = 8 by rw [← hM, VE.times_length, L0.out])
      have V0 := Lib.hid (show ∀ x ∈ S, x < 4294967296 by rw [← hS]; exact VE.acc_lt l)
      have Va := Lib.hid (show ∀ x ∈ Sa_, x < 4294967296 by rw [← hSa]; exact VE.acc_lt _)
      have Vb := Lib.hid (show ∀ x ∈ Sb_, x < 4294967296 by rw [← hSb]; exact VE.acc_lt _)
      have N8 := Lib.hid (show (8 : Nat) ≤ 9223372036854775807 by decide)
      have K1 := Lib.hid (show (l.take p).length = p by rw [List.length_take, HL.out]; omega)
      have K2 := Lib.hid (show (l.drop p).length = j - p by rw [List.length_drop, HL.out])
      clear T0 HZ0 hS hSa hSb hM
      go_wp2_with fail
      refine (ends_some S 8 Q1.out L0.out (vsum_any (some ⟨g1, 0, none⟩) j c1 v1 l 8 _ HL.out (by omega) RW1.out HR.out (by decide))).mono ?_
      rintro e w1 ⟨A_s, c_s, rfl, hat, bel⟩
      replace HB := Lib.hid (HB.out.trans (bel.mono HB.out.size))
      replace RW1 := Lib.hid (RW1.out.later bel (Nat.le_refl _))
      replace RW2 := Lib.hid (RW2.out.later bel (Nat.le_refl _))
      replace RW3 := Lib.hid (RW3.out.later bel (Nat.le_refl _))
      replace HG := Lib.hid (HG.out.later bel (Nat.le_refl _))
      have Ss := Lib.hid hat
      clear hat
      have Ns := N8
      clear bel
      go_wp2_with fail
      refine (ends_some S 8 Q2.out L0.out (vsum_any A2 j c2 v2 l.reverse 8 _ HLR.out (by omega) RW2.out D3.out (by decide))).mono ?_
      rintro e w2 ⟨A_t, c_t, rfl, hat, bel⟩
      replace HB := Lib.hid (HB.out.trans (bel.mono HB.out.size))
      replace Ss := Lib.hid (Ss.out.later bel (Nat.le_refl _))
      replace RW1 := Lib.hid (RW1.out.later bel (Nat.le_refl _))
      replace RW2 := Lib.hid (RW2.out.later bel (Nat.le_refl _))
      replace RW3 := Lib.hid (RW3.out.later bel (Nat.le_refl _))
      replace HG := Lib.hid (HG.out.later bel (Nat.le_refl _))
      have St := Lib.hid hat
      clear hat
      have Nt := N8
      clear bel
      go_wp2_with fail
      refine (ends_some Sa_ 8 Q3.out La.out (vsum_any (some ⟨g1, 0, none⟩) p c1 (v1.take p) (l.take p) 8 _ K1.out (by omega) (RW1.out.take p) D1.out (by decide))).mono ?_
      rintro e w3 ⟨A_a, c_a, rfl, hat, bel⟩
      replace HB := Lib.hid (HB.out.trans (bel.mono HB.out.size))
      replace Ss := Lib.hid (Ss.out.later bel (Nat.le_refl _))
      replace St := Lib.hid (St.out.later bel (Nat.le_refl _))
      replace RW1 := Lib.hid (RW1.out.later bel (Nat.le_refl _))
      replace RW2 := Lib.hid (RW2.out.later bel (Nat.le_refl _))
      replace RW3 := Lib.hid (RW3.out.later bel (Nat.le_refl _))
      replace HG := Lib.hid (HG.out.later bel (Nat.le_refl _))
      have Sa := Lib.hid hat
      clear hat
      have Na := N8
      clear bel
      go_wp2_with fail
      refine (ends_some Sb_ 8 Q4.out Lb.out (vsum_any (some ⟨g1, p, none⟩) (j - p) (c1 - p) (v1.drop p) (l.drop p) 8 _ K2.out (by omega) (by have h := RW1.out.drop p; rw [Nat.zero_add] at h; exact h) D2.out (by decide))).mono ?_
      rintro e w4 ⟨A_b, c_b, rfl, hat, bel⟩
      replace HB := Lib.hid (HB.out.trans (bel.mono HB.out.size))
      replace Ss := Lib.hid (Ss.out.later bel (Nat.le_refl _))
      replace St := Lib.hid (St.out.later bel (Nat.le_refl _))
      replace Sa := Lib.hid (Sa.out.later bel (Nat.le_refl _))
      replace RW1 := Lib.hid (RW1.out.later bel (Nat.le_refl _))
      replace RW2 := Lib.hid (RW2.out.later bel (Nat.le_refl _))
      replace RW3 := Lib.hid (RW3.out.later bel (Nat.le_refl _))
      replace HG := Lib.hid (HG.out.later bel (Nat.le_refl _))
      have Sb := Lib.hid hat
      clear hat
      have Nb := N8
      clear bel
      go_wp2_with fail
      refine (rowe_eq S 8 Q5.out L0.out (vadd_ok A_a 8 c_a Sa_ A_b 8 c_b Sb_ _ La.out Lb.out N8.out N8.out Sa.out Sb.out Va.out Vb.out (by decide) rfl)).mono ?_
      rintro e w5 ⟨A_c, c_c, rfl, hat, bel⟩
      replace HB := Lib.hid (HB.out.trans (bel.mono HB.out.size))
      replace Ss := Lib.hid (Ss.out.later bel (Nat.le_refl _))
      replace St := Lib.hid (St.out.later bel (Nat.le_refl _))
      replace Sa := Lib.hid (Sa.out.later bel (Nat.le_refl _))
      replace Sb := Lib.hid (Sb.out.later bel (Nat.le_refl _))
      replace RW1 := Lib.hid (RW1.out.later bel (Nat.le_refl _))
      replace RW2 := Lib.hid (RW2.out.later bel (Nat.le_refl _))
      replace RW3 := Lib.hid (RW3.out.later bel (Nat.le_refl _))
      replace HG := Lib.hid (HG.out.later bel (Nat.le_refl _))
      have Sc := Lib.hid hat
      clear hat
      have Nc := N8
      clear bel
      go_wp2_with fail
      refine (rowe_eq Sa_ 8 Q6.out La.out (vsub_ok A_s 8 c_s S A_b 8 c_b Sb_ _ L0.out Lb.out N8.out N8.out Ss.out Sb.out V0.out Vb.out (by decide) rfl)).mono ?_
      rintro e w6 ⟨A_d, c_d, rfl, hat, bel⟩
      replace HB := Lib.hid (HB.out.trans (bel.mono HB.out.size))
      replace Ss := Lib.hid (Ss.out.later bel (Nat.le_refl _))
      replace St := Lib.hid (St.out.later bel (Nat.le_refl _))
      replace Sa := Lib.hid (Sa.out.later bel (Nat.le_refl _))
      replace Sb := Lib.hid (Sb.out.later bel (Nat.le_refl _))
      replace Sc := Lib.hid (Sc.out.later bel (Nat.le_refl _))
      replace RW1 := Lib.hid (RW1.out.later bel (Nat.le_refl _))
      replace RW2 := Lib.hid (RW2.out.later bel (Nat.le_refl _))
      replace RW3 := Lib.hid (RW3.out.later bel (Nat.le_refl _))
      replace HG := Lib.hid (HG.out.later bel (Nat.le_refl _))
      have Sd := Lib.hid hat
      clear hat
      have Nd := N8
      clear bel
      go_wp2_with fail
      refine (rowe_eq M 8 Q8.out Lm.out (vtimes_ok A_s 8 c_s S q _ L0.out (by decide) Ss.out V0.out HQ.out)).mono ?_
      rintro e w7 ⟨A_m, c_m, rfl, hat, bel⟩
      replace HB := Lib.hid (HB.out.trans (bel.mono HB.out.size))
      replace Ss := Lib.hid (Ss.out.later bel (Nat.le_refl _))
      replace St := Lib.hid (St.out.later bel (Nat.le_refl _))
      replace Sa := Lib.hid (Sa.out.later bel (Nat.le_refl _))
      replace Sb := Lib.hid (Sb.out.later bel (Nat.le_refl _))
      replace Sc := Lib.hid (Sc.out.later bel (Nat.le_refl _))
      replace Sd := Lib.hid (Sd.out.later bel (Nat.le_refl _))
      replace RW1 := Lib.hid (RW1.out.later bel (Nat.le_refl _))
      replace RW2 := Lib.hid (RW2.out.later bel (Nat.le_refl _))
      replace RW3 := Lib.hid (RW3.out.later bel (Nat.le_refl _))
      replace HG := Lib.hid (HG.out.later bel (Nat.le_refl _))
      have Sm := Lib.hid hat
      clear hat
      have Nm := N8
      clear bel
      go_wp2_with fail
      refine (ends_some M 8 Q7.out Lm.out (vsum_any A3 j c3 v3 (l.map (VE.times q)) 8 _ HLT.out (by omega) RW3.out D4.out (by decide))).mono ?_
      rintro e w8 ⟨A_q, c_q, rfl, hat, bel⟩
      replace HB := Lib.hid (HB.out.trans (bel.mono HB.out.size))
      replace Ss := Lib.hid (Ss.out.later bel (Nat.le_refl _))
      replace St := Lib.hid (St.out.later bel (Nat.le_refl _))
      replace Sa := Lib.hid (Sa.out.later bel (Nat.le_refl _))
      replace Sb := Lib.hid (Sb.out.later bel (Nat.le_refl _))
      replace Sc := Lib.hid (Sc.out.later bel (Nat.le_refl _))
      replace Sd := Lib.hid (Sd.out.later bel (Nat.le_refl _))
      replace Sm := Lib.hid (Sm.out.later bel (Nat.le_refl _))
      replace RW1 := Lib.hid (RW1.out.later bel (Nat.le_refl _))
      replace RW2 := Lib.hid (RW2.out.later bel (Nat.le_refl _))
      replace RW3 := Lib.hid (RW3.out.later bel (Nat.le_refl _))
      replace HG := Lib.hid (HG.out.later bel (Nat.le_refl _))
      have Sq := Lib.hid hat
      clear hat
      have Nq := N8
      clear bel
      go_wp2_with fail
      refine (valB_eq (.bool true) (by simp) (vsame_any A_s 8 c_s S A_t 8 c_t S _ L0.out N8.out Ss.out L0.out N8.out St.out)).mono ?_
      rintro e w9 ⟨rfl, bel⟩
      replace HB := Lib.hid (HB.out.trans (bel.mono HB.out.size))
      replace Ss := Lib.hid (Ss.out.later bel (Nat.le_refl _))
      replace St := Lib.hid (St.out.later bel (Nat.le_refl _))
      replace Sa := Lib.hid (Sa.out.later bel (Nat.le_refl _))
      replace Sb := Lib.hid (Sb.out.later bel (Nat.le_refl _))
      replace Sc := Lib.hid (Sc.out.later bel (Nat.le_refl _))
      replace Sd := Lib.hid (Sd.out.later bel (Nat.le_refl _))
      replace Sm := Lib.hid (Sm.out.later bel (Nat.le_refl _))
      replace Sq := Lib.hid (Sq.out.later bel (Nat.le_refl _))
      replace RW1 := Lib.hid (RW1.out.later bel (Nat.le_refl _))
      replace RW2 := Lib.hid (RW2.out.later bel (Nat.le_refl _))
      replace RW3 := Lib.hid (RW3.out.later bel (Nat.le_refl _))
      replace HG := Lib.hid (HG.out.later bel (Nat.le_refl _))
      clear bel
      go_wp2_with fail
      refine (valB_eq (.bool true) (by simp) (vsame_any A_s 8 c_s S A_c 8 c_c S _ L0.out N8.out Ss.out L0.out N8.out Sc.out)).mono ?_
      rintro e w10 ⟨rfl, bel⟩
      replace HB := Lib.hid (HB.out.trans (bel.mono HB.out.size))
      replace Ss := Lib.hid (Ss.out.later bel (Nat.le_refl _))
      replace St := Lib.hid (St.out.later bel (Nat.le_refl _))
      replace Sa := Lib.hid (Sa.out.later bel (Nat.le_refl _))
      replace Sb := Lib.hid (Sb.out.later bel (Nat.le_refl _))
      replace Sc := Lib.hid (Sc.out.later bel (Nat.le_refl _))
      replace Sd := Lib.hid (Sd.out.later bel (Nat.le_refl _))
      replace Sm := Lib.hid (Sm.out.later bel (Nat.le_refl _))
      replace Sq := Lib.hid (Sq.out.later bel (Nat.le_refl _))
      replace RW1 := Lib.hid (RW1.out.later bel (Nat.le_refl _))
      replace RW2 := Lib.hid (RW2.out.later bel (Nat.le_refl _))
      replace RW3 := Lib.hid (RW3.out.later bel (Nat.le_refl _))
      replace HG := Lib.hid (HG.out.later bel (Nat.le_refl _))
      clear bel
      go_wp2_with fail
      refine (valB_eq (.bool true) (by simp) (vsame_any A_d 8 c_d Sa_ A_a 8 c_a Sa_ _ La.out N8.out Sd.out La.out N8.out Sa.out)).mono ?_
      rintro e w11 ⟨rfl, bel⟩
      replace HB := Lib.hid (HB.out.trans (bel.mono HB.out.size))
      replace Ss := Lib.hid (Ss.out.later bel (Nat.le_refl _))
      replace St := Lib.hid (St.out.later bel (Nat.le_refl _))
      replace Sa := Lib.hid (Sa.out.later bel (Nat.le_refl _))
      replace Sb := Lib.hid (Sb.out.later bel (Nat.le_refl _))
      replace Sc := Lib.hid (Sc.out.later bel (Nat.le_refl _))
      replace Sd := Lib.hid (Sd.out.later bel (Nat.le_refl _))
      replace Sm := Lib.hid (Sm.out.later bel (Nat.le_refl _))
      replace Sq := Lib.hid (Sq.out.later bel (Nat.le_refl _))
      replace RW1 := Lib.hid (RW1.out.later bel (Nat.le_refl _))
      replace RW2 := Lib.hid (RW2.out.later bel (Nat.le_refl _))
      replace RW3 := Lib.hid (RW3.out.later bel (Nat.le_refl _))
      replace HG := Lib.hid (HG.out.later bel (Nat.le_refl _))
      clear bel
      go_wp2_with fail
      refine (valB_eq (.bool true) (by simp) (vsame_any A_m 8 c_m M A_q 8 c_q M _ Lm.out N8.out Sm.out Lm.out N8.out Sq.out)).mono ?_
      rintro e w12 ⟨rfl, bel⟩
      replace HB := Lib.hid (HB.out.trans (bel.mono HB.out.size))
      replace Ss := Lib.hid (Ss.out.later bel (Nat.le_refl _))
      replace St := Lib.hid (St.out.later bel (Nat.le_refl _))
      replace Sa := Lib.hid (Sa.out.later bel (Nat.le_refl _))
      replace Sb := Lib.hid (Sb.out.later bel (Nat.le_refl _))
      replace Sc := Lib.hid (Sc.out.later bel (Nat.le_refl _))
      replace Sd := Lib.hid (Sd.out.later bel (Nat.le_refl _))
      replace Sm := Lib.hid (Sm.out.later bel (Nat.le_refl _))
      replace Sq := Lib.hid (Sq.out.later bel (Nat.le_refl _))
      replace RW1 := Lib.hid (RW1.out.later bel (Nat.le_refl _))
      replace RW2 := Lib.hid (RW2.out.later bel (Nat.le_refl _))
      replace RW3 := Lib.hid (RW3.out.later bel (Nat.le_refl _))
      replace HG := Lib.hid (HG.out.later bel (Nat.le_refl _))
      clear bel
      go_wp2_with fail
      refine (sure02 _ HG.out).mono ?_
      rintro e w13 ⟨rfl, bel⟩
      replace HB := Lib.hid (HB.out.trans (bel.mono HB.out.size))
      replace Ss := Lib.hid (Ss.out.later bel (Nat.le_refl _))
      replace St := Lib.hid (St.out.later bel (Nat.le_refl _))
      replace Sa := Lib.hid (Sa.out.later bel (Nat.le_refl _))
      replace Sb := Lib.hid (Sb.out.later bel (Nat.le_refl _))
      replace Sc := Lib.hid (Sc.out.later bel (Nat.le_refl _))
      replace Sd := Lib.hid (Sd.out.later bel (Nat.le_refl _))
      replace Sm := Lib.hid (Sm.out.later bel (Nat.le_refl _))
      replace Sq := Lib.hid (Sq.out.later bel (Nat.le_refl _))
      replace RW1 := Lib.hid (RW1.out.later bel (Nat.le_refl _))
      replace RW2 := Lib.hid (RW2.out.later bel (Nat.le_refl _))
      replace RW3 := Lib.hid (RW3.out.later bel (Nat.le_refl _))
      replace HG := Lib.hid (HG.out.later bel (Nat.le_refl _))
      clear bel
      go_wp2_with fail
      go_ret
      exact ⟨rfl, HB.out⟩
set_option maxRecDepth 100000 in
theorem vorder_sure (A : Option Addr) (m c : Nat) (cut q : Nat) (w : World) (hm : 60 < m ∨ m = 0) (hm63 : m ≤ 9223372036854775807) (hg : Glob w) :
    Calls Tryd.prog 12 #[.slice A m c, .int .u8 cut, .int .u32 q] w fun e w' => e = .returned (.bool true) ∧ Below w.heap.size w w' := by
  have HG := Lib.hid hg
  clear hg
  by_cases h : 60 < m
  · clear hm
    go_enter Tryd.func12, Tryd.ntmps12
    go_wp2_with fail
    refine (sure02 _ HG.out).mono ?_
    rintro e w1 ⟨rfl, bel⟩
    go_wp2_with fail
    go_ret
    exact ⟨rfl, bel⟩
  · obtain rfl : m = 0 := by omega
    clear hm h
    go_enter Tryd.func12, Tryd.ntmps12
    go_wp2_with fail
    refine (sure02 _ HG.out).mono ?_
    rintro e w1 ⟨rfl, bel⟩
    go_wp2_with fail
    go_ret
    exact ⟨rfl, bel⟩
theorem vorder_any (A : Option Addr) (m c : Nat) (l : List (List Nat)) (cut q : Nat) (w : World) (hl : l.length = m) (hm63 : m ≤ 9223372036854775807) (ha : At w A (nats .u32 l.flatten)) (hgd : VE.good 8 l) (hr : ∀ r ∈ l, ∀ x ∈ r, x < 4294967296) (hcut : cut < 256) (hq : q < 4294967296) (hg : Glob w) :
    Calls Tryd.prog 12 #[.slice A m c, .int .u8 cut, .int .u32 q] w fun e w' => e = .returned (.bool true) ∧ Below w.heap.size w w' := by
  by_cases h : 60 < m ∨ m = 0
  · exact vorder_sure A m c cut q w h hm63 hg
  · have hf : 0 < l.flatten.length := by
      cases l with
      | nil => simp at hl; omega
      | cons r l => have := hgd r (by simp); simp; omega
    obtain ⟨b, o, rfl, _⟩ := ha.nat 0 hf
    exact vorder_in b o c l m cut q w hl (by omega) (by omega) ha hgd hr hcut hq hg
end Go.Proofs.YtbgmbemaopnjfaaDoor
