/- Layer 20: the walk of BagRuns. -/
import Derived.Test.YtaehlafaehpbjaaDoorBagO
namespace Go.Proofs.YtaehlafaehpbjaaDoor
open Go.RowKit
theorem bel_drewN {B : Nat} {a w : World} (h : Below B a w) (n : Nat) : Below B a (w.drewN n) := ⟨h.os, h.tape, h.output, h.size, h.block⟩
theorem outI_nat {β : Type} (l : List β) (j : Nat) : outI l (j : Int) = l.eraseIdx j := by
  have h : ¬ (j : Int) < 0 := by omega
  simp only [outI, h, if_false, Int.toNat_natCast]
set_option maxRecDepth 100000 in
set_option maxHeartbeats 32000000 in
theorem bruns_in (M : Int) (A1 : Option Addr) (n1 c1 : Nat) (w : World) (hM : 1 ≤ M ∧ M ≤ 4096) (hn1 : n1 ≤ 9223372036854775807) (hacts : ∀ i, i < n1 → ActAt w A1 i) (hg : Glob w) :
    Calls Tryd.prog 3 #[.int .i64 M, .slice A1 n1 c1] w fun e w' => e = .returned (.bool true) ∧ Below w.heap.size w w' := by
  have HG := Lib.hid hg
  have HC := Lib.hid hacts
  clear hg hacts
  go_enter Tryd.func3, Tryd.ntmps3
  go_wp2_with fail
  refine (nil_take _ _).mono ?_
  rintro e w1 ⟨rfl, rfl⟩
  go_wp2_with fail
  refine (nil_put _ _ _).mono ?_
  rintro e w1 ⟨rfl, k1, rfl⟩
  go_wp2_with fail
  refine (nil_len _).mono ?_
  rintro e w1 ⟨rfl, rfl⟩
  go_wp2_with fail
  refine (nil_double _ _).mono ?_
  rintro e w1 ⟨rfl, k2, rfl⟩
  go_wp2_with fail
  refine (nil_lose _ _).mono ?_
  rintro e w1 ⟨rfl, rfl⟩
  go_wp2_with fail
  refine (nil_to _ _).mono ?_
  rintro e w1 ⟨rfl, rfl⟩
  go_wp2_with fail
  have B0 := Lib.hid (below_drewN w (k1 + k2))
  have S0 := Lib.hid (show (w.drewN (k1 + k2)).heap.size = w.heap.size from rfl)
  have G0 := Lib.hid (HG.out.later B0.out (Nat.le_refl _))
  generalize w.drewN (k1 + k2) = w2 at *
  refine (bnew_ok M _ hM).mono ?_
  rintro e w3 ⟨rfl, rfl⟩
  have m1 : decide (M < 1) = false := by simp; omega
  have m2 : decide (4096 < M) = false := by simp; omega
  have ST := Lib.hid (St.start w2 M)
  have hM1 := hM.1
  have hM2 := hM.2
  clear hM
  go_wp2_with fail
  clear m1 m2
  go_loopw [11, 12] (fun s i wr => ∃ (k n c : Nat) (A : Option Addr) (vs : List (Int × Value)) (L : List (Int × List Nat)) (AB : Option Addr) (nB cB : Nat) (vsB : List (Int × Value)), k ≤ n1 ∧ k ≤ 100 ∧ i = .int .i64 (k : Int) ∧ s = .slice A n c ∧ (n : Int) ≤ M ∧ St w2 wr M A n c vs L L AB nB cB vsB) (fun _ i _ => n1 - (intOf i).toNat)
  case atStart => exact ⟨0, 0, 0, none, [], [], none, 0, 0, [], by omega, by omega, rfl, rfl, by omega, ST.out⟩
  case round =>
    obtain ⟨k, n, c, A, vs, L, AB, nB, cB, vsB, hk1, hk2, rfl, rfl, hnM, hst⟩ := hrel
    have HS := Lib.hid hst
    clear hst
    by_cases hlt : k < n1
    · by_cases h100 : k < 100
      · obtain ⟨b, o, D, cD, K, T, d, rfl, q0, q1, q2, hat, hnn, hlim, hb⟩ := HC.out k hlt
        have BW := Lib.hid (B0.out.trans (HS.out.bel.mono (Nat.le_of_eq S0.out.symm)))
        have r0 := (BW.out.cell (p := ⟨b, o + k * 3, none⟩) hb).trans q0
        have r1 := (BW.out.cell (p := ⟨b, o + k * 3 + 1, none⟩) hb).trans q1
        have r2 := (BW.out.cell (p := ⟨b, o + k * 3 + 2, none⟩) hb).trans q2
        have HD := Lib.hid (hat.later B0.out (Nat.le_refl _))
        have HN := Lib.hid hnn
        have HL := Lib.hid hlim
        have SP := Lib.hid (Sp.start HS.out K T D cD d)
        have k0 : (0 : Int) ≤ (k : Int) := by omega
        clear q0 q1 q2 hat hnn hlim
        by_cases hd : d.length ≤ 300
        · have d1 : decide (300 < d.length) = false := by simp; omega
          go_upto_region 16 with fail
          go_cut [14] from 79 to 276 (fun v wx => v = .bool (decide (0 ≤ T) && decide (T < (n : Int))) ∧ wx = wr.alloc (.cells #[.int .i64 K, .int .i64 T, .slice D d.length cD] 40))
          case first =>
            by_cases t0 : 0 ≤ T
            · have e0 : decide (0 ≤ T) = true := decide_eq_true t0
              by_cases t1 : T < (n : Int)
              · as_aux_lemma =>
                have e1 : decide (T < (n : Int)) = true := decide_eq_true t1
                go_wp2_with fail
                go_meet
                exact ⟨by rw [e0, e1]; rfl, rfl⟩
              · as_aux_lemma =>
                have e1 : decide (T < (n : Int)) = false := decide_eq_false t1
                go_wp2_with fail
                go_meet
                exact ⟨by rw [e0, e1]; rfl, rfl⟩
            · as_aux_lemma =>
              have e0 : decide (0 ≤ T) = false := decide_eq_false t0
              go_wp2_with fail
              go_meet
              exact ⟨by rw [e0]; rfl, rfl⟩
          case rest =>
          obtain ⟨rfl, hwc⟩ := hcut
          rw [← hwc] at SP
          obtain ⟨p, hp⟩ : ∃ p, wr.heap.size = p := ⟨_, rfl⟩
          rw [hp] at SP ⊢
          have HSZ := Lib.hid (show wr.heap.size ≤ wc.heap.size from by rw [hwc]; simp)
          clear hwc hp r0 r1 r2
          have s0 : wc.cell? ⟨p, 0, none⟩ = some (.int .i64 K) := SP.out.cp.cell 0
          have s1 : wc.cell? ⟨p, 1, none⟩ = some (.int .i64 T) := SP.out.cp.cell 1
          have s2 : wc.cell? ⟨p, 2, none⟩ = some (.slice D d.length cD) := SP.out.cp.cell 2
          go_upto_block 2 with fail
          go_cut [11, 14, 15, 16, 17] from 79 to 276 (fun s _ _ _ _ wx => ∃ (n c : Nat) (A : Option Addr) (vs : List (Int × Value)) (L : List (Int × List Nat)) (AB : Option Addr) (nB cB : Nat) (vsB : List (Int × Value)), s = .slice A n c ∧ (n : Int) ≤ M ∧ Sp w2 wx M A n c vs L L AB nB cB vsB p K T D cD d)
          case first =>
            have DAT := Lib.hid (fun (W : World) (hW : Below w2.heap.size w2 W) => HD.out.later (B := w2.heap.size) hW (Nat.le_refl _))
            have LBD := Lib.hid (fun (W : World) (hW : Below w2.heap.size w2 W) => (⟨D, cD, rfl, hd, HD.out.later hW (Nat.le_refl _), HN.out, fun k e => (HL.out k e).imp (fun h => by rw [S0.out]; exact h) id⟩ : LB W w2.heap.size (.slice D d.length cD) d))
            have hn4 : n ≤ 4096 := by omega
            have LEN := Lib.hid SP.out.st.lets.len
            have LENB := Lib.hid SP.out.st.bag.len
            have ltg := SP.out.st.bag.blk_.lt
            have CAPB := Lib.hid SP.out.st.bag.c63
            by_cases K0 : K = 0
            · subst K0
              by_cases hnl : (n : Int) < M
              · as_aux_lemma =>
                have d3 : decide ((n : Int) < M) = true := decide_eq_true hnl
                have nB : nB = n := by have := LEN.out; have := LENB.out; omega
                subst nB
                go_wp2_with fail
                refine (mput_any _ T SP.out.st.bag hnl hM2 SP.out.st.size D cD d hd (DAT.out _ SP.out.st.bel) HN.out).mono ?_
                rintro e w5 ⟨rfl, AB', nB', cB', vsB', hb5, hm5, hd5⟩
                have SP5 := Lib.hid (SP.out.moved hb5 hm5 hd5)
                have z0 : w5.cell? ⟨p, 0, none⟩ = some (.int .i64 0) := SP5.out.cp.cell 0
                have z1 : w5.cell? ⟨p, 1, none⟩ = some (.int .i64 T) := SP5.out.cp.cell 1
                have z2 : w5.cell? ⟨p, 2, none⟩ = some (.slice D d.length cD) := SP5.out.cp.cell 2
                clear hb5 hm5 hd5 s0 s1 s2 SP
                go_wp2_with (at_builtin; go_loud (refine wpList_app rfl elt_let w2.heap.size (.tmp 126) (.tmp 132) rfl _ rfl (SP5.out.st.lets.own.alloc _) [.int .i64 T, .slice D d.length cD] rfl (At.lit _ _ _ _ _ rfl) rfl (by intro u hu; simp at hu; rcases hu with rfl | rfl <;> rfl) (by unfold maxLen; omega) (by omega) (by have := SP5.out.st.size0; simp; omega) ?_); intro A6 c6 w6 own6 g6 k6; have SP6 := Lib.hid (SP5.out.snoc ((Below.refl _ _).alloc (Nat.le_refl _) _) (LBD.out _ SP5.out.st.bel) own6 g6 k6); clear own6 g6 k6 SP5)
                go_meet
                exact ⟨_, _, _, _, _, _, _, _, _, rfl, by omega, SP6.out⟩
              · as_aux_lemma =>
                have d3 : decide ((n : Int) < M) = false := decide_eq_false hnl
                have nB : nB = n := by have := LEN.out; have := LENB.out; omega
                subst nB
                go_wp2_with fail
                refine (bput_full _ T _ SP.out.st.bag (by omega)).mono ?_
                rintro e w5 ⟨rfl, q, rfl⟩
                go_wp2_with fail
                go_meet
                exact ⟨_, _, _, _, _, _, _, _, _, rfl, hnM, SP.out.later (below_drewN _ q)⟩
            · have x0 : (K == 0) = false := by simpa using K0
              have X0 := Lib.hid K0
              clear K0
              by_cases K1 : K = 1
              · subst K1
                have nB : nB = n := by have := LEN.out; have := LENB.out; omega
                subst nB
                by_cases t0 : 0 ≤ T ∧ T < (nB : Int)
                · as_aux_lemma =>
                  obtain ⟨j, rfl⟩ := Int.eq_ofNat_of_zero_le t0.1
                  have hj : j < nB := by omega
                  have e0 : decide ((0 : Int) ≤ (j : Int)) = true := decide_eq_true t0.1
                  have e1 : decide ((j : Int) < (nB : Int)) = true := decide_eq_true t0.2
                  have j0 : (0 : Int) ≤ (j : Int) := t0.1
                  rw [show (decide ((0 : Int) ≤ (j : Int)) && decide ((j : Int) < (nB : Int))) = true by rw [e0, e1]; rfl]
                  go_wp2_with fail
                  refine (mtake_any _ j SP.out.st.bag hj SP.out.st.size CAPB.out).mono ?_
                  rintro e w5 ⟨A5, c5, rfl, hat5, AB', nB', cB', vsB', hb5, hm5, hd5⟩
                  have SP5 := Lib.hid (SP.out.moved hb5 hm5 hd5)
                  have z1 : w5.cell? ⟨p, 1, none⟩ = some (.int .i64 (j : Int)) := SP5.out.cp.cell 1
                  obtain ⟨g2, A1', c1', rfl, hb2, hl2, q0, q1, lb, hv⟩ := SP5.out.st.lets.item j hj
                  obtain ⟨_, _, ev, _, hat1, _⟩ := lb
                  injection ev with ev1 ev2 ev3
                  subst ev1
                  clear hb5 hm5 hd5 s0 s1 s2 SP hv ev2 ev3
                  obtain ⟨t, bb, hq⟩ : ∃ t bb, L.getD j (0, []) = (t, bb) := ⟨_, _, rfl⟩
                  rw [hq] at q0 q1 hat1 hat5 ⊢
                  have cv1 : ∀ m, (convert 24 9 (.slice A5 bb.length c5)).run Tryd.prog (w5.drewN m) = .ok (.string (strN bb)) (w5.drewN m) := fun m => run_str (e := 5) _ (by kernel_rfl) (by kernel_rfl) (by kernel_rfl) rfl hat5
                  have cv2 : ∀ m, (convert 24 9 (.slice A1' bb.length c1')).run Tryd.prog (w5.drewN m) = .ok (.string (strN bb)) (w5.drewN m) := fun m => run_str (e := 5) _ (by kernel_rfl) (by kernel_rfl) (by kernel_rfl) rfl hat1
                  clear hat1 hat5 hq
                  go_wp2_with fail
                  go_quiet (fail)
                  have SP6 := Lib.hid (SP5.out.later (below_drewN w5 nq))
                  clear q0 q1 cv1 cv2 SP5 z1
                  generalize w5.drewN nq = w6 at *
                  have z1 : w6.cell? ⟨p, 1, none⟩ = some (.int .i64 (j : Int)) := SP6.out.cp.cell 1
                  go_wp2_with fail
                  refine (rout_any (j : Int) SP6.out.st.lets (by omega) SP6.out.st.size0).mono ?_
                  rintro e w7 ⟨A7, n7, c7, rfl, ll, bb7, ff⟩
                  have hn7 : n7 ≤ nB := by have h1 := ll.len; have h2 := outI_le L (j : Int); have h3 := LEN.out; omega
                  have SP7 := SP6.out.anew ll bb7 ff
                  rw [outI_nat L j] at SP7
                  have SP7' := Lib.hid SP7
                  clear SP7 ll bb7 ff SP6 z1
                  go_wp2_with fail
                  go_meet
                  exact ⟨_, _, _, _, _, _, _, _, _, rfl, by omega, SP7'.out⟩
                · as_aux_lemma =>
                  have SPT := SP.out.st.bag
                  have z1 : wc.cell? ⟨p, 1, none⟩ = some (.int .i64 T) := s1
                  have HT := Lib.hid t0
                  have eT : (decide (0 ≤ T) && decide (T < (nB : Int))) = false := by
                    rw [Bool.and_eq_false_iff, decide_eq_false_iff_not, decide_eq_false_iff_not]
                    rcases Classical.em (0 ≤ T) with h | h
                    · exact .inr fun h2 => t0 ⟨h, h2⟩
                    · exact .inl h
                  rw [eT]
                  clear eT
                  clear t0
                  go_wp2_with fail
                  refine (btake_no _ T SPT HT.out).mono ?_
                  rintro e w5 ⟨rfl, rfl⟩
                  clear SPT
                  go_wp2_with fail
                  go_quiet (fail)
                  have SP6 := Lib.hid (SP.out.later (below_drewN wc nq))
                  clear s0 s1 s2 SP z1
                  generalize wc.drewN nq = w6 at *
                  have z1 : w6.cell? ⟨p, 1, none⟩ = some (.int .i64 T) := SP6.out.cp.cell 1
                  go_wp2_with fail
                  refine (rout_any T SP6.out.st.lets (by omega) SP6.out.st.size0).mono ?_
                  rintro e w7 ⟨A7, n7, c7, rfl, ll, bb7, ff⟩
                  have hn7 : n7 ≤ nB := by have h1 := ll.len; have h2 := outI_le L T; have h3 := LEN.out; omega
                  have SP7 := SP6.out.anew ll bb7 ff
                  rw [outI_all L T (by rw [LEN.out]; exact HT.out)] at SP7
                  have SP7' := Lib.hid SP7
                  clear SP7 ll bb7 ff SP6 z1
                  go_wp2_with fail
                  go_meet
                  exact ⟨_, _, _, _, _, _, _, _, _, rfl, by omega, SP7'.out⟩
              · have x1 : (K == 1) = false := by simpa using K1
                have X1 := Lib.hid K1
                clear K1
                by_cases K2 : K = 2
                · subst K2
                  have nB : nB = n := by have := LEN.out; have := LENB.out; omega
                  subst nB
                  by_cases t0 : 0 ≤ T ∧ T < (nB : Int)
                  · obtain ⟨j, rfl⟩ := Int.eq_ofNat_of_zero_le t0.1
                    have hj : j < nB := by omega
                    have e0 : decide ((0 : Int) ≤ (j : Int)) = true := decide_eq_true t0.1
                    have e1 : decide ((j : Int) < (nB : Int)) = true := decide_eq_true t0.2
                    have j0 : (0 : Int) ≤ (j : Int) := t0.1
                    rw [show (decide ((0 : Int) ≤ (j : Int)) && decide ((j : Int) < (nB : Int))) = true by rw [e0, e1]; rfl]
                    clear t0 e0
                    by_cases hnl : (nB : Int) < M
                    · as_aux_lemma =>
                      have d3 : decide ((nB : Int) < M) = true := decide_eq_true hnl
                      go_wp2_with fail
                      refine (mdouble_any _ j SP.out.st.bag hj hnl hM2 SP.out.st.size).mono ?_
                      rintro e w5 ⟨rfl, AB', nB', cB', vsB', hb5, hm5, hd5⟩
                      have SP5 := Lib.hid (SP.out.moved hb5 hm5 hd5)
                      have z1 : w5.cell? ⟨p, 1, none⟩ = some (.int .i64 (j : Int)) := SP5.out.cp.cell 1
                      obtain ⟨g2, A1', c1', rfl, hb2, hl2, q0, q1, lb, hv⟩ := SP5.out.st.lets.item j hj
                      have HLB := Lib.hid lb
                      clear hb5 hm5 hd5 s0 s1 s2 SP hv lb
                      obtain ⟨t, bb, hq⟩ : ∃ t bb, L.getD j (0, []) = (t, bb) := ⟨_, _, rfl⟩
                      rw [hq] at q0 q1 HLB SP5
                      clear hq
                      go_wp2_with (at_builtin; go_loud (refine wpList_app rfl elt_let w2.heap.size (.tmp 210) (.tmp 216) rfl _ rfl (SP5.out.st.lets.own.alloc _) [.int .i64 t, .slice A1' bb.length c1'] rfl (At.lit _ _ _ _ _ rfl) rfl (by intro u hu; simp at hu; rcases hu with rfl | rfl <;> rfl) (by unfold maxLen; omega) (by omega) (by have := SP5.out.st.size0; simp; omega) ?_); intro A6 c6 w6 own6 g6 k6; have SP6 := Lib.hid (SP5.out.snoc ((Below.refl _ _).alloc (Nat.le_refl _) _) HLB.out own6 g6 k6); clear own6 g6 k6 SP5)
                      go_meet
                      exact ⟨_, _, _, _, _, _, _, _, _, rfl, by omega, SP6.out⟩
                    · as_aux_lemma =>
                      have d3 : decide ((nB : Int) < M) = false := decide_eq_false hnl
                      go_wp2_with fail
                      refine (bdouble_no _ (j : Int) SP.out.st.bag (.inr (by omega))).mono ?_
                      rintro e w5 ⟨rfl, q, rfl⟩
                      go_wp2_with fail
                      go_meet
                      exact ⟨_, _, _, _, _, _, _, _, _, rfl, hnM, SP.out.later (below_drewN _ q)⟩
                  · as_aux_lemma =>
                    have HT := Lib.hid t0
                    have eT : (decide (0 ≤ T) && decide (T < (nB : Int))) = false := by
                      rw [Bool.and_eq_false_iff, decide_eq_false_iff_not, decide_eq_false_iff_not]
                      rcases Classical.em (0 ≤ T) with h | h
                      · exact .inr fun h2 => t0 ⟨h, h2⟩
                      · exact .inl h
                    rw [eT]
                    clear eT
                    clear t0
                    go_wp2_with fail
                    refine (bdouble_no _ T SP.out.st.bag (.inl HT.out)).mono ?_
                    rintro e w5 ⟨rfl, q, rfl⟩
                    go_wp2_with fail
                    go_meet
                    exact ⟨_, _, _, _, _, _, _, _, _, rfl, hnM, SP.out.later (below_drewN _ q)⟩
                · have x2 : (K == 2) = false := by simpa using K2
                  have X2 := Lib.hid K2
                  clear K2
                  by_cases K3 : K = 3
                  · subst K3
                    have nB : nB = n := by have := LEN.out; have := LENB.out; omega
                    subst nB
                    by_cases t0 : 0 ≤ T ∧ T < (nB : Int)
                    · as_aux_lemma =>
                      obtain ⟨j, rfl⟩ := Int.eq_ofNat_of_zero_le t0.1
                      have hj : j < nB := by omega
                      have e0 : decide ((0 : Int) ≤ (j : Int)) = true := decide_eq_true t0.1
                      have e1 : decide ((j : Int) < (nB : Int)) = true := decide_eq_true t0.2
                      rw [show (decide ((0 : Int) ≤ (j : Int)) && decide ((j : Int) < (nB : Int))) = true by rw [e0, e1]; rfl]
                      clear t0 e0 e1
                      go_wp2_with fail
                      refine (mlose_any _ j SP.out.st.bag hj SP.out.st.size CAPB.out).mono ?_
                      rintro e w5 ⟨rfl, AB', nB', cB', vsB', hb5, hm5, hd5⟩
                      have SP5 := Lib.hid (SP.out.moved hb5 hm5 hd5)
                      have z1 : w5.cell? ⟨p, 1, none⟩ = some (.int .i64 (j : Int)) := SP5.out.cp.cell 1
                      clear hb5 hm5 hd5 s0 s1 s2 SP
                      go_wp2_with fail
                      refine (rout_any (j : Int) SP5.out.st.lets (by omega) SP5.out.st.size0).mono ?_
                      rintro e w7 ⟨A7, n7, c7, rfl, ll, bb7, ff⟩
                      have hn7 : n7 ≤ nB := by have h1 := ll.len; have h2 := outI_le L (j : Int); have h3 := LEN.out; omega
                      have SP7 := SP5.out.anew ll bb7 ff
                      rw [outI_nat L j] at SP7
                      have SP7' := Lib.hid SP7
                      clear SP7 ll bb7 ff SP5 z1
                      go_wp2_with fail
                      go_meet
                      exact ⟨_, _, _, _, _, _, _, _, _, rfl, by omega, SP7'.out⟩
                    · as_aux_lemma =>
                      have HT := Lib.hid t0
                      have z1 := s1
                      have eT : (decide (0 ≤ T) && decide (T < (nB : Int))) = false := by
                        rw [Bool.and_eq_false_iff, decide_eq_false_iff_not, decide_eq_false_iff_not]
                        rcases Classical.em (0 ≤ T) with h | h
                        · exact .inr fun h2 => t0 ⟨h, h2⟩
                        · exact .inl h
                      rw [eT]
                      clear eT
                      clear t0
                      go_wp2_with fail
                      refine (blose_no _ T SP.out.st.bag HT.out).mono ?_
                      rintro e w5 ⟨rfl, rfl⟩
                      have SP5 := SP
                      go_wp2_with fail
                      refine (rout_any T SP5.out.st.lets (by omega) SP5.out.st.size0).mono ?_
                      rintro e w7 ⟨A7, n7, c7, rfl, ll, bb7, ff⟩
                      have hn7 : n7 ≤ nB := by have h1 := ll.len; have h2 := outI_le L T; have h3 := LEN.out; omega
                      have SP7 := SP5.out.anew ll bb7 ff
                      rw [outI_all L T (by rw [LEN.out]; exact HT.out)] at SP7
                      have SP7' := Lib.hid SP7
                      clear SP7 ll bb7 ff SP5 z1
                      go_wp2_with fail
                      go_meet
                      exact ⟨_, _, _, _, _, _, _, _, _, rfl, by omega, SP7'.out⟩
                  · as_aux_lemma =>
                    have x3 : (K == 3) = false := by simpa using K3
                    have X3 := Lib.hid K3
                    clear K3
                    go_wp2_with fail
                    go_meet
                    exact ⟨_, _, _, _, _, _, _, _, _, rfl, hnM, SP.out⟩
          case rest =>
            obtain ⟨n, c, A, vs, L, AB, nB, cB, vsB, rfl, hnM, hsp⟩ := hcut
            have hn4 : n ≤ 4096 := by omega
            have nB : nB = n := by have := hsp.st.lets.len; have := hsp.st.bag.len; omega
            subst nB
            have SQ := Lib.hid hsp
            clear hsp SP HS s0 s1 s2
            have s1 : wc.cell? ⟨p, 1, none⟩ = some (.int .i64 T) := SQ.out.cp.cell 1
            go_wp2_with fail
            refine (blen_any _ SQ.out.st.bag).mono ?_
            rintro e w5 ⟨rfl, rfl⟩
            go_wp2_with fail
            have PY := Lib.hid (places_yes L T)
            have PN := Lib.hid (places_no L T)
            have PL := Lib.hid (places_le L T)
            have HPW := Lib.hid SQ.out.cp.lt
            go_loopw [18, 19] (fun s i wq => ∃ (q m : Nat) (Aq : Option Addr) (cq : Nat), q ≤ nB ∧ i = .int .i64 (q : Int) ∧ (places L T q).length = m ∧ s = .slice Aq m cq ∧ Own wq wc.heap.size 3 1 Aq m cq (ints .i64 (places L T q)) ∧ Below wc.heap.size wc wq) (fun _ i _ => nB - (intOf i).toNat)
            case atStart => exact ⟨0, 0, none, 0, by omega, rfl, rfl, rfl, Own.none_ _ _ _ _, Below.refl _ _⟩
            case round =>
              obtain ⟨q, m, Aq, cq, hq, rfl, hm, rfl, hown, hbel⟩ := hrel
              have HO := Lib.hid hown
              have HBL := Lib.hid hbel
              have hmk := PL.out q
              rw [hm] at hmk
              clear hown hbel
              have r1 : wr.cell? ⟨p, 1, none⟩ = some (.int .i64 T) := (HBL.out.cell (p := ⟨p, 1, none⟩) HPW.out).trans s1
              by_cases hlq : q < nB
              · obtain ⟨g2, A2', c2', rfl, hb2, hl2, q0, _, _, _⟩ := SQ.out.st.lets.item q hlq
                have q0' := (HBL.out.cell (p := ⟨g2, q * 2, none⟩) hl2).trans q0
                have hpy := Lib.hid (PY.out q)
                have hpn := Lib.hid (PN.out q)
                clear q0
                obtain ⟨t, hqt⟩ : ∃ t, (L.getD q (0, [])).1 = t := ⟨_, rfl⟩
                rw [hqt] at q0' hpy hpn
                clear hqt
                have k63 : (0 : Int) ≤ (q : Int) := by omega
                by_cases ht : t = T
                · as_aux_lemma =>
                  have E := Lib.hid (hpy.out ht)
                  subst ht
                  go_wp2_with fail
                  go_quiet (fail)
                  have HO' := Lib.hid (HO.out.drewN nq)
                  have HB' := Lib.hid (bel_drewN HBL.out nq)
                  clear q0' r1
                  generalize wr.drewN nq = w9 at *
                  go_wp2_with (at_builtin; go_loud (refine wpList_app rfl elt_int wc.heap.size (.tmp 249) (.tmp 251) rfl _ rfl (HO'.out.alloc _) [.int .i64 (q : Int)] rfl (At.lit _ _ _ _ _ rfl) rfl (by intro u hu; simp at hu; subst hu; rfl) (by unfold maxLen; omega) (by omega) (by have := HB'.out.size; simp; omega) ?_); intro A3 c3 w3 own3 g3 _; have B3 := Lib.hid ((HB'.out.alloc HB'.out.size _).grown g3 (by have := HB'.out.size; simp; omega) (fun k hk => (HO'.out.lt k hk).1)); have O3 := Lib.hid own3; clear own3 g3)
                  go_round
                  case rel => exact ⟨q + 1, m + 1, A3, c3, by omega, by go_num, by rw [E.out]; simp [hm], rfl, by rw [E.out]; simpa [ints] using O3.out, B3.out⟩
                  case measure => simp [intOf]; omega
                · as_aux_lemma =>
                  have E := Lib.hid (hpn.out ht)
                  have hne : (t == T) = false := by simpa using ht
                  have HT := Lib.hid ht
                  clear ht
                  go_wp2_with fail
                  go_quiet (fail)
                  have HO' := Lib.hid (HO.out.drewN nq)
                  have HB' := Lib.hid (bel_drewN HBL.out nq)
                  clear q0' r1
                  generalize wr.drewN nq = w9 at *
                  go_wp2_with fail
                  go_round
                  case rel => exact ⟨q + 1, m, Aq, cq, by omega, by go_num, by rw [E.out]; exact hm, rfl, by rw [E.out]; exact HO'.out, HB'.out⟩
                  case measure => simp [intOf]; omega
              · obtain rfl : q = nB := by omega
                have SR := Lib.hid (SQ.out.later HBL.out)
                have HAQ := Lib.hid HO.out.at_
                clear PY PN PL SQ HO
                go_wp2_with fail
                refine (bto_any _ T SR.out.st.bag (by omega)).mono ?_
                rintro e w8 ⟨A8, c8, rfl, hat8, bel8⟩
                have SR8 := Lib.hid (SR.out.later bel8)
                have AQ8 := Lib.hid (HAQ.out.later bel8 (Nat.le_refl _))
                have A88 := Lib.hid hat8
                clear hat8 bel8 SR HAQ r1 HBL s1
                obtain ⟨pl, hpl⟩ : ∃ pl, places L T q = pl := ⟨_, rfl⟩
                rw [hpl] at hm AQ8 A88 ⊢
                clear hpl
                subst hm
                go_wp2_with fail
                go_loopw [21] (fun i wq => ∃ q : Nat, q ≤ pl.length ∧ i = .int .i64 (q : Int) ∧ Below w8.heap.size w8 wq) (fun i _ => pl.length - (intOf i).toNat)
                case atStart => exact ⟨0, by omega, rfl, Below.refl _ _⟩
                case round =>
                  obtain ⟨u, hu, rfl, hbel⟩ := hrel
                  have HBU := Lib.hid hbel
                  clear hbel
                  by_cases hlu : u < pl.length
                  · as_aux_lemma =>
                    obtain ⟨b8, o8, rfl, hc8⟩ := (A88.out.later HBU.out (Nat.le_refl _)).int u hlu
                    obtain ⟨b9, o9, rfl, hc9⟩ := (AQ8.out.later HBU.out (Nat.le_refl _)).int u hlu
                    generalize pl.getD u 0 = y at *
                    have u63 : (0 : Int) ≤ (u : Int) := by omega
                    go_wp2_with fail
                    go_quiet (fail)
                    have HB' := Lib.hid (bel_drewN HBU.out nq)
                    clear hc8 hc9
                    generalize wr.drewN nq = w9 at *
                    go_wp2_with fail
                    go_round
                    case rel => exact ⟨u + 1, by omega, by go_num, HB'.out⟩
                    case measure => simp [intOf]; omega
                  · as_aux_lemma =>
                    obtain rfl : u = pl.length := by omega
                    have SR9 := Lib.hid (SR8.out.st.later HBU.out)
                    clear SR8 A88 AQ8 HBU
                    go_wp2_with fail
                    go_round
                    case rel => exact ⟨k + 1, _, _, _, _, _, _, _, _, _, by omega, by omega, by go_num, rfl, hnM, SR9.out⟩
                    case measure => simp [intOf]; omega
        · as_aux_lemma =>
          have d1 : decide (300 < d.length) = true := by simp; omega
          go_wp2_with fail
          go_round
          case rel => exact ⟨k + 1, n, c, A, vs, L, AB, nB, cB, vsB, by omega, by omega, by go_num, rfl, hnM, SP.out.st⟩
          case measure => simp [intOf]; omega
      · as_aux_lemma =>
        obtain rfl : k = 100 := by omega
        go_wp2_with fail
        refine (sure20 _ (G0.out.later HS.out.bel (Nat.le_refl _))).mono ?_
        rintro e w3 ⟨rfl, b3⟩
        have B3 := Lib.hid b3
        clear b3
        go_wp2_with fail
        go_ret
        exact ⟨rfl, (B0.out.trans (HS.out.bel.mono (Nat.le_of_eq S0.out.symm))).trans (B3.out.mono (by have := HS.out.size0; have := S0.out; omega))⟩
    · as_aux_lemma =>
      obtain rfl : k = n1 := by omega
      go_wp2_with fail
      refine (sure20 _ (G0.out.later HS.out.bel (Nat.le_refl _))).mono ?_
      rintro e w3 ⟨rfl, b3⟩
      have B3 := Lib.hid b3
      clear b3
      go_wp2_with fail
      go_ret
      exact ⟨rfl, (B0.out.trans (HS.out.bel.mono (Nat.le_of_eq S0.out.symm))).trans (B3.out.mono (by have := HS.out.size0; have := S0.out; omega))⟩
end Go.Proofs.YtaehlafaehpbjaaDoor
