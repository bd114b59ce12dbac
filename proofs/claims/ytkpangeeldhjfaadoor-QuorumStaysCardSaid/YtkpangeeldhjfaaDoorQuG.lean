/- Layer 23: the walk of QuorumStays. -/
import Derived.Test.YtkpangeeldhjfaaDoorQuF
import Derived.Deep.CutRange
import Derived.Deep.CutBlock
import Derived.Deep.QuietTactic
import Derived.BigQuiet
namespace Go.Proofs.YtkpangeeldhjfaaDoor
open Go.RowKit
/-- what holds of the tally, and of the ticks told -/
structure QR (w wr : World) (q : Nat) (who inn gone : List Int) (need term went ticks : Int) (Aw : Option Addr) (cw : Nat) (Ai : Option Addr) (ci : Nat) (Ag : Option Addr) (cg : Nat) : Prop where
  qu : Qu wr q who inn gone need term went Aw cw Ai ci Ag cg
  bel : Below w.heap.size w wr
  qs : w.heap.size ≤ q
  inw : InW who inn
  tick : qst who.length inn.length gone.length need term went = 0 → went = ticks
  wb : 0 ≤ went ∧ went ≤ ticks
section
variable {w wr w' : World} {q : Nat} {who inn inn' gone gone' : List Int} {need term went went' ticks ticks' : Int} {Aw Ai Ai' Ag Ag' : Option Addr} {cw ci ci' cg cg' : Nat}
theorem QR.later (h : QR w wr q who inn gone need term went ticks Aw cw Ai ci Ag cg) (hb : Below wr.heap.size wr w') : QR w w' q who inn gone need term went ticks Aw cw Ai ci Ag cg :=
  ⟨h.qu.later hb, h.bel.trans (hb.mono h.bel.size), h.qs, h.inw, h.tick, h.wb⟩
end
set_option maxRecDepth 100000 in
set_option maxHeartbeats 8000000 in
theorem qstays_any (x0 x1 x2 : Nat) (A2 : Option Addr) (n2 c2 : Nat) (w : World) (h0 : x0 < 256) (h1 : x1 < 256) (h2 : x2 < 256) (m2 : n2 ≤ 9223372036854775807) (a2 : ∀ i, i < n2 → Act2 w A2 i) (hg : Glob w) :
    Calls Tryd.prog 4 #[.int .u8 x0, .agg #[.int .u8 x1, .int .u8 x2], .slice A2 n2 c2] w fun e w' => e = .returned (.bool true) ∧ Below w.heap.size w w' := by
  have HG := Lib.hid hg
  have HC := Lib.hid a2
  clear hg a2
  obtain ⟨n, hn⟩ : ∃ n, 1 + x0 % 12 = n := ⟨_, rfl⟩
  have hn12 : n ≤ 12 := by omega
  have hn1 : 1 ≤ n := by omega
  go_enter Tryd.func4, Tryd.ntmps4
  go_wp2_with fail
  have hnI : 1 + (x0 : Int) % 12 = (n : Int) := by omega
  rw [hnI]
  clear hnI hn
  have P0 := Lib.hid (Holds.new w 47 #[.int .u8 x1, .int .u8 x2] w.heap.size rfl)
  have BA := Lib.hid ((Below.refl w.heap.size w).alloc (Nat.le_refl _) (.cells #[.int .u8 x1, .int .u8 x2] 47))
  generalize (w.alloc (.cells #[.int .u8 x1, .int .u8 x2] 47)) = w0 at *
  go_loopw [8, 9] (fun s i wr => ∃ (k : Nat) (A : Option Addr) (c : Nat), k ≤ n ∧ i = .int .i64 (k : Int) ∧ s = .slice A k c ∧ Own wr w0.heap.size 3 1 A k c (ints .i64 (who3 k)) ∧ Below w0.heap.size w0 wr) (fun _ i _ => n - (intOf i).toNat)
  case atStart => exact ⟨0, none, 0, by omega, rfl, rfl, Own.none_ _ _ _ _, Below.refl _ _⟩
  case round =>
    obtain ⟨k, A, c, hk, rfl, rfl, hown, hbel⟩ := hrel
    have HO := Lib.hid hown
    have HBL := Lib.hid hbel
    clear hown hbel
    by_cases hlt : k < n
    · have E := Lib.hid (who3_succ k)
      go_wp2_with (at_builtin; go_loud (refine wpList_app rfl elt_int w0.heap.size (.tmp 30) (.tmp 33) rfl _ rfl (HO.out.alloc _) [.int .i64 (3 * (k : Int))] rfl (At.lit _ _ _ _ _ rfl) rfl (by intro u hu; simp at hu; subst hu; rfl) (by unfold maxLen; omega) (by omega) (by have := HBL.out.size; simp; omega) ?_); intro A3 c3 w3 own3 g3 _; have B3 := Lib.hid ((HBL.out.alloc HBL.out.size _).grown g3 (by have := HBL.out.size; simp; omega) (fun k hk => (HO.out.lt k hk).1)); have O3 := Lib.hid own3; clear own3 g3)
      go_round
      case rel => exact ⟨k + 1, A3, c3, by omega, by go_num, rfl, by rw [E.out]; simpa [ints] using O3.out, B3.out⟩
      case measure => simp [intOf]; omega
    · obtain rfl : n = k := by omega
      have hq := Nat.mod_lt x1 (show 0 < n by omega)
      have p0 := (P0.out.later HBL.out (Nat.le_refl _)).cell 0
      have p1 := (P0.out.later HBL.out (Nat.le_refl _)).cell 1
      simp only [List.getElem?_toArray, List.getElem?_cons_zero, List.getElem?_cons_succ] at p0 p1
      have d4 : (n : Int) ≠ 0 := by omega
      have AW := Lib.hid HO.out.at_
      have AZ := Lib.hid (show A = none → n = 0 from fun e => by
        rcases HO.out.lies with ⟨_, h, _⟩ | ⟨g, h, _⟩
        · exact h
        · rw [e] at h; cases h)
      clear HO
      go_wp2_with fail
      go_quiet (fail)
      have BQ := Lib.hid ((BA.out.trans (HBL.out.mono BA.out.size)).trans (below_drewN wr nq _))
      have AQ := Lib.hid (AW.out.later (below_drewN wr nq wr.heap.size) (Nat.le_refl _))
      clear p0 p1 AW HBL P0
      generalize wr.drewN nq = w1 at *
      go_wp2_with fail
      obtain ⟨N, hN⟩ : ∃ N : Int, 1 + (x1 : Int) % (n : Int) = N := ⟨_, rfl⟩
      obtain ⟨T, hT⟩ : ∃ T : Int, 1 + (x2 : Int) % 9 = T := ⟨_, rfl⟩
      rw [hN, hT]
      have hN1 : 1 ≤ N := by have := Int.emod_nonneg (x1 : Int) d4; omega
      have hN2 : N ≤ n := by have := Int.emod_lt_of_pos (x1 : Int) (show 0 < (n : Int) by omega); omega
      have hT1 : 1 ≤ T := by omega
      have hT2 : T ≤ 9 := by omega
      clear hN hT hq d4
      refine (qnew_ok A n c (who3 n) N T w1 (who3_len n) (by omega) AQ.out AZ.out (who3_may n hn12) (by omega) (by omega) (by omega) (by omega)).mono ?_
      rintro e w2 ⟨q, Aw, cw, rfl, gd, b2, hqs⟩
      have RA := Lib.hid (show QR w w2 q (who3 n) [] [] N T 0 0 Aw cw none 0 none 0 from ⟨gd, BQ.out.trans (b2.mono BQ.out.size), Nat.le_trans BQ.out.size hqs, InW.nil _, fun _ => rfl, by omega⟩)
      clear gd b2 hqs AQ AZ BQ BA
      go_wp2_with fail
      go_loopw [14, 15] (fun tk i wq => ∃ (k : Nat) (inn gone : List Int) (went ticks : Int) (Ai : Option Addr) (ci : Nat) (Ag : Option Addr) (cg : Nat), k ≤ n2 ∧ k ≤ 60 ∧ i = .int .i64 (k : Int) ∧ tk = .int .i64 ticks ∧ ticks ≤ k ∧ QR w wq q (who3 n) inn gone N T went ticks Aw cw Ai ci Ag cg) (fun _ i _ => n2 - (intOf i).toNat)
      case atStart => exact ⟨0, [], [], 0, 0, none, 0, none, 0, by omega, by omega, rfl, rfl, by omega, RA.out⟩
      case round =>
        obtain ⟨k, inn, gone, went, ticks, Ai, ci, Ag, cg, hk1, hk2, rfl, rfl, htk, hr⟩ := hrel
        have RR := Lib.hid hr
        have ht0 : 0 ≤ ticks := by have := hr.wb; omega
        clear hr RA
        by_cases hlt : k < n2
        · by_cases h60 : k < 60
          · obtain ⟨b, o, K, X, rfl, q0, q1, hb⟩ := HC.out k hlt
            have QC0 := Lib.hid q0
            have QC1 := Lib.hid q1
            clear q0 q1
            have k0 : (0 : Int) ≤ (k : Int) := by omega
            obtain ⟨s, hs⟩ : ∃ s, qst (who3 n).length inn.length gone.length N T went = s := ⟨_, rfl⟩
            have HS0 := Lib.hid hs
            have CS := Lib.hid (qst_cases (who3 n).length inn.length gone.length N T went)
            rw [hs] at CS
            clear hs
            go_wp2_with fail
            refine (qstate_any RR.out.qu s HS0.out).mono ?_
            rintro e w3 ⟨rfl, m3, rfl⟩
            have R3 := Lib.hid (RR.out.later (below_drewN wr m3 _))
            clear RR
            generalize wr.drewN m3 = w3 at *
            go_wp2_with fail
            refine (qin_f R3.out.qu).mono ?_
            rintro e w5 ⟨M5, k5, rfl, hat, bb, hf⟩
            have R5 := Lib.hid (R3.out.later bb)
            have T5 := Lib.hid hat
            have NE := Lib.hid (show blk M5 = none ∨ blk M5 ≠ some q from by
              cases e : blk M5 with
              | none => exact .inl rfl
              | some j => exact .inr (fun e2 => by injection e2 with e2; have h1 := hf j e; have h2 := R3.out.qu.lay.lt; omega))
            have HI := Lib.hid R5.out.qu.leni
            clear hat bb hf R3
            have r0 := (R5.out.bel.cell (p := ⟨b, o + k * 2, none⟩) hb).trans QC0.out
            have r1 := (R5.out.bel.cell (p := ⟨b, o + k * 2 + 1, none⟩) hb).trans QC1.out
            go_upto_region 16 with fail
            go_cut [18] from 59 to 158 (fun v wx => ∃ x, v = .int .i64 x ∧ wx = w5)
            case first =>
              go_wp2_with fail
              go_meet
              exact ⟨_, rfl, rfl⟩
            case rest =>
            obtain ⟨x, rfl, hwc⟩ := hcut
            subst hwc
            go_upto_block 4 with fail
            go_cut [14] from 59 to 158 (fun tk wx => ∃ (inn' gone' : List Int) (went' ticks' : Int) (Ai' : Option Addr) (ci' : Nat) (Ag' : Option Addr) (cg' : Nat), tk = .int .i64 ticks' ∧ ticks' ≤ k + 1 ∧ QR w wx q (who3 n) inn' gone' N T went' ticks' Aw cw Ai' ci' Ag' cg' ∧ At wx M5 (ints .i64 inn) ∧ (s ≠ 0 → inn' = inn ∧ qst (who3 n).length inn'.length gone'.length N T went' = s))
            case first =>
              by_cases K0 : K = 0
              · subst K0
                by_cases hk : canK (who3 n) inn gone N T went x = 0
                · have HK := Lib.hid hk
                  clear hk
                  go_wp2_with fail
                  refine (qcame_0 x R5.out.qu HK.out).mono ?_
                  rintro e w9 ⟨rfl, gr, A9, c9, gd⟩
                  have GD := Lib.hid gd
                  have BG := Lib.hid (below_grown R5.out.bel gr R5.out.qs)
                  have T9 := Lib.hid (T5.out.grown gr NE.out)
                  clear gd gr
                  go_wp2_with fail
                  go_meet
                  exact ⟨qput inn x, gone, went, ticks, A9, c9, Ag, cg, rfl, by omega, ⟨GD.out, BG.out, R5.out.qs, R5.out.inw.put (canK_zero HK.out).2, fun _ => R5.out.tick (canK_zero HK.out).1, R5.out.wb⟩, T9.out, fun h => absurd (HS0.out.symm.trans (canK_zero HK.out).1) h⟩
                · have HK := Lib.hid hk
                  clear hk
                  go_wp2_with fail
                  refine (qcame_k x R5.out.qu _ rfl HK.out).mono ?_
                  rintro e w9 ⟨rfl, m9, rfl⟩
                  have R9 := Lib.hid (R5.out.later (below_drewN wc m9 _))
                  go_wp2_with fail
                  go_meet
                  exact ⟨inn, gone, went, ticks, Ai, ci, Ag, cg, rfl, by omega, R9.out, T5.out.later (below_drewN wc m9 wc.heap.size) (Nat.le_refl _), fun _ => ⟨rfl, HS0.out⟩⟩
              · have x0' : (K == 0) = false := by simpa using K0
                have X0 := Lib.hid K0
                clear K0
                by_cases K1 : K = 1
                · subst K1
                  by_cases hk : canK (who3 n) inn gone N T went x = 0
                  · have HK := Lib.hid hk
                    clear hk
                    go_wp2_with fail
                    refine (qgone_0 x R5.out.qu HK.out).mono ?_
                    rintro e w9 ⟨rfl, gr, A9, c9, gd⟩
                    have GD := Lib.hid gd
                    have BG := Lib.hid (below_grown R5.out.bel gr R5.out.qs)
                    have T9 := Lib.hid (T5.out.grown gr NE.out)
                    clear gd gr
                    go_wp2_with fail
                    go_meet
                    exact ⟨inn, qput gone x, went, ticks, Ai, ci, A9, c9, rfl, by omega, ⟨GD.out, BG.out, R5.out.qs, R5.out.inw, fun _ => R5.out.tick (canK_zero HK.out).1, R5.out.wb⟩, T9.out, fun h => absurd (HS0.out.symm.trans (canK_zero HK.out).1) h⟩
                  · have HK := Lib.hid hk
                    clear hk
                    go_wp2_with fail
                    refine (qgone_k x R5.out.qu _ rfl HK.out).mono ?_
                    rintro e w9 ⟨rfl, m9, rfl⟩
                    have R9 := Lib.hid (R5.out.later (below_drewN wc m9 _))
                    go_wp2_with fail
                    go_meet
                    exact ⟨inn, gone, went, ticks, Ai, ci, Ag, cg, rfl, by omega, R9.out, T5.out.later (below_drewN wc m9 wc.heap.size) (Nat.le_refl _), fun _ => ⟨rfl, HS0.out⟩⟩
                · have x1' : (K == 1) = false := by simpa using K1
                  have X1 := Lib.hid K1
                  clear K1
                  go_wp2_with fail
                  refine (qtick_any R5.out.qu s HS0.out ⟨R5.out.wb.1, by have := R5.out.wb.2; omega⟩).mono ?_
                  rintro e w9 ⟨rfl, gd, gr⟩
                  have GD := Lib.hid gd
                  have BG := Lib.hid (below_grown R5.out.bel gr R5.out.qs)
                  have T9 := Lib.hid (T5.out.grown gr NE.out)
                  clear gd gr
                  go_wp2_with fail
                  go_meet
                  refine ⟨inn, gone, _, ticks + 1, Ai, ci, Ag, cg, rfl, by omega, ⟨GD.out, BG.out, R5.out.qs, R5.out.inw, fun hz => ?_, ?_⟩, T9.out, fun h => ⟨rfl, by rw [if_neg h]; exact HS0.out⟩⟩
                  · by_cases h : s = 0
                    · rw [if_pos h]
                      have := R5.out.tick (HS0.out.trans h)
                      omega
                    · rw [if_neg h, HS0.out] at hz
                      exact absurd hz h
                  · have := R5.out.wb
                    split <;> omega
            case rest =>
            obtain ⟨inn', gone', went', ticks', Ai', ci', Ag', cg', rfl, htk', hqr, hat5, hst⟩ := hcut
            have R6 := Lib.hid hqr
            have ht0' : 0 ≤ ticks' := by have := hqr.wb; omega
            replace T5 := Lib.hid hat5
            have HST := Lib.hid hst
            clear hqr hat5 hst R5 NE r0 r1
            obtain ⟨s2, hs2⟩ : ∃ s2, qst (who3 n).length inn'.length gone'.length N T went' = s2 := ⟨_, rfl⟩
            have HQ := Lib.hid hs2
            have CS2 := qst_cases (who3 n).length inn'.length gone'.length N T went'
            rw [hs2] at CS2
            have ST := Lib.hid (qstate_any R6.out.qu s2 hs2)
            clear hs2
            go_wp2_with fail
            refine ST.out.mono ?_
            rintro e v0 ⟨rfl, mv, rfl⟩
            have Qv0 := Lib.hid (R6.out.later (below_drewN wc mv _))
            have Lv0 := Lib.hid (below_drewN wc mv wc.heap.size)
            clear R6 ST
            generalize wc.drewN mv = v0 at *
            by_cases hs0 : s = 0
            · subst hs0
              clear CS HST HS0
              rcases CS2 with rfl | rfl | rfl
              · skip
                have hz := HQ.out
                have ht : ticks' < T := by have h1 := qst_zero hz; have h2 := Qv0.out.tick hz; omega
                have dt : decide (T ≤ ticks') = false := decide_eq_false (by omega)
                clear hz
                go_wp2_with fail
                refine (qin_any Qv0.out.qu).mono ?_
                rintro e v1 ⟨Mv1, kv1, rfl, hat, bb⟩
                have Tv1 := Lib.hid hat
                have Qv1 := Lib.hid (Qv0.out.later bb)
                have Lv1 := Lib.hid (Lv0.out.trans (bb.mono Lv0.out.size))
                clear hat bb Qv0 Lv0
                obtain ⟨LL, hLL⟩ : ∃ LL, SetM.elems (SetM.op 2 (SetM.bitsOf (who3 n)) (SetM.bitsOf inn')) = LL := ⟨_, rfl⟩
                have hcnt := Qv1.out.inw.count (who3_elems n hn12)
                rw [hLL, who3_len] at hcnt
                have hsum : (inn'.length : Int) + (LL.length : Int) = (n : Int) := by omega
                have li := Qv1.out.qu.leni
                clear hcnt
                go_wp2_with fail
                refine (qlacks_any Qv1.out.qu LL hLL).mono ?_
                rintro e v2 ⟨Mv2, kv2, rfl, hat, bb⟩
                have Tv2 := Lib.hid hat
                have Qv2 := Lib.hid (Qv1.out.later bb)
                have Lv2 := Lib.hid (Lv1.out.trans (bb.mono Lv1.out.size))
                clear hat bb Qv1 Lv1
                clear hLL
                go_wp2_with fail
                go_round
                case rel => exact ⟨k + 1, inn', gone', went', ticks', Ai', ci', Ag', cg', by omega, by omega, by go_num, rfl, by push_cast; omega, Qv2.out⟩
                case measure => simp [intOf]; omega
              · skip
                have hz := qst_one (by rw [who3_len]; exact hN2) HQ.out
                have dt : decide ((inn'.length : Int) < N) = false := decide_eq_false (by omega)
                clear hz
                go_wp2_with fail
                refine (qin_any Qv0.out.qu).mono ?_
                rintro e v1 ⟨Mv1, kv1, rfl, hat, bb⟩
                have Tv1 := Lib.hid hat
                have Qv1 := Lib.hid (Qv0.out.later bb)
                have Lv1 := Lib.hid (Lv0.out.trans (bb.mono Lv0.out.size))
                clear hat bb Qv0 Lv0
                go_wp2_with fail
                refine (qin_any Qv1.out.qu).mono ?_
                rintro e v2 ⟨Mv2, kv2, rfl, hat, bb⟩
                have Tv2 := Lib.hid hat
                have Qv2 := Lib.hid (Qv1.out.later bb)
                have Lv2 := Lib.hid (Lv1.out.trans (bb.mono Lv1.out.size))
                clear hat bb Qv1 Lv1
                obtain ⟨LL, hLL⟩ : ∃ LL, SetM.elems (SetM.op 2 (SetM.bitsOf (who3 n)) (SetM.bitsOf inn')) = LL := ⟨_, rfl⟩
                have hcnt := Qv2.out.inw.count (who3_elems n hn12)
                rw [hLL, who3_len] at hcnt
                have hsum : (inn'.length : Int) + (LL.length : Int) = (n : Int) := by omega
                have li := Qv2.out.qu.leni
                clear hcnt
                go_wp2_with fail
                refine (qlacks_any Qv2.out.qu LL hLL).mono ?_
                rintro e v3 ⟨Mv3, kv3, rfl, hat, bb⟩
                have Tv3 := Lib.hid hat
                have Qv3 := Lib.hid (Qv2.out.later bb)
                have Lv3 := Lib.hid (Lv2.out.trans (bb.mono Lv2.out.size))
                clear hat bb Qv2 Lv2
                clear hLL
                go_wp2_with fail
                go_round
                case rel => exact ⟨k + 1, inn', gone', went', ticks', Ai', ci', Ag', cg', by omega, by omega, by go_num, rfl, by push_cast; omega, Qv3.out⟩
                case measure => simp [intOf]; omega
              · skip
                have hz := qst_two HQ.out
                have dt : decide (N ≤ (inn'.length : Int)) = false := decide_eq_false (by omega)
                clear hz
                go_wp2_with fail
                refine (qin_any Qv0.out.qu).mono ?_
                rintro e v1 ⟨Mv1, kv1, rfl, hat, bb⟩
                have Tv1 := Lib.hid hat
                have Qv1 := Lib.hid (Qv0.out.later bb)
                have Lv1 := Lib.hid (Lv0.out.trans (bb.mono Lv0.out.size))
                clear hat bb Qv0 Lv0
                go_wp2_with fail
                refine (qin_any Qv1.out.qu).mono ?_
                rintro e v2 ⟨Mv2, kv2, rfl, hat, bb⟩
                have Tv2 := Lib.hid hat
                have Qv2 := Lib.hid (Qv1.out.later bb)
                have Lv2 := Lib.hid (Lv1.out.trans (bb.mono Lv1.out.size))
                clear hat bb Qv1 Lv1
                obtain ⟨LL, hLL⟩ : ∃ LL, SetM.elems (SetM.op 2 (SetM.bitsOf (who3 n)) (SetM.bitsOf inn')) = LL := ⟨_, rfl⟩
                have hcnt := Qv2.out.inw.count (who3_elems n hn12)
                rw [hLL, who3_len] at hcnt
                have hsum : (inn'.length : Int) + (LL.length : Int) = (n : Int) := by omega
                have li := Qv2.out.qu.leni
                clear hcnt
                go_wp2_with fail
                refine (qlacks_any Qv2.out.qu LL hLL).mono ?_
                rintro e v3 ⟨Mv3, kv3, rfl, hat, bb⟩
                have Tv3 := Lib.hid hat
                have Qv3 := Lib.hid (Qv2.out.later bb)
                have Lv3 := Lib.hid (Lv2.out.trans (bb.mono Lv2.out.size))
                clear hat bb Qv2 Lv2
                clear hLL
                go_wp2_with fail
                go_round
                case rel => exact ⟨k + 1, inn', gone', went', ticks', Ai', ci', Ag', cg', by omega, by omega, by go_num, rfl, by push_cast; omega, Qv3.out⟩
                case measure => simp [intOf]; omega
            · have HS := Lib.hid (HST.out hs0)
              have e2 : s2 = s := HQ.out.symm.trans HS.out.2
              have CS' := CS.out
              clear CS CS2 HST HS0
              subst e2
              rcases CS' with rfl | rfl | rfl
              · exact absurd rfl hs0
              · clear hs0
                go_wp2_with fail
                refine (qin_any Qv0.out.qu).mono ?_
                rintro e v1 ⟨Mv1, kv1, rfl, hat, bb⟩
                have Tv1 := Lib.hid hat
                have Qv1 := Lib.hid (Qv0.out.later bb)
                have Lv1 := Lib.hid (Lv0.out.trans (bb.mono Lv0.out.size))
                clear hat bb Qv0 Lv0
                go_wp2_with fail
                refine (ints_is Mv1 inn'.length kv1 inn' M5 inn.length k5 inn _ true (decide_eq_true HS.out.1) rfl Qv1.out.qu.leni Tv1.out rfl HI.out (T5.out.later Lv1.out (Nat.le_refl _))).mono ?_
                rintro e v2 ⟨rfl, mv2, rfl⟩
                have Qv2 := Lib.hid (Qv1.out.later (below_drewN v1 mv2 _))
                have Lv2 := Lib.hid (Lv1.out.trans ((below_drewN v1 mv2 v1.heap.size).mono Lv1.out.size))
                clear Qv1 Lv1
                generalize v1.drewN mv2 = v2 at *
                have hz := qst_one (by rw [who3_len]; exact hN2) HQ.out
                have dt : decide ((inn'.length : Int) < N) = false := decide_eq_false (by omega)
                clear hz
                go_wp2_with fail
                refine (qin_any Qv2.out.qu).mono ?_
                rintro e v3 ⟨Mv3, kv3, rfl, hat, bb⟩
                have Tv3 := Lib.hid hat
                have Qv3 := Lib.hid (Qv2.out.later bb)
                have Lv3 := Lib.hid (Lv2.out.trans (bb.mono Lv2.out.size))
                clear hat bb Qv2 Lv2
                go_wp2_with fail
                refine (qin_any Qv3.out.qu).mono ?_
                rintro e v4 ⟨Mv4, kv4, rfl, hat, bb⟩
                have Tv4 := Lib.hid hat
                have Qv4 := Lib.hid (Qv3.out.later bb)
                have Lv4 := Lib.hid (Lv3.out.trans (bb.mono Lv3.out.size))
                clear hat bb Qv3 Lv3
                obtain ⟨LL, hLL⟩ : ∃ LL, SetM.elems (SetM.op 2 (SetM.bitsOf (who3 n)) (SetM.bitsOf inn')) = LL := ⟨_, rfl⟩
                have hcnt := Qv4.out.inw.count (who3_elems n hn12)
                rw [hLL, who3_len] at hcnt
                have hsum : (inn'.length : Int) + (LL.length : Int) = (n : Int) := by omega
                have li := Qv4.out.qu.leni
                clear hcnt
                go_wp2_with fail
                refine (qlacks_any Qv4.out.qu LL hLL).mono ?_
                rintro e v5 ⟨Mv5, kv5, rfl, hat, bb⟩
                have Tv5 := Lib.hid hat
                have Qv5 := Lib.hid (Qv4.out.later bb)
                have Lv5 := Lib.hid (Lv4.out.trans (bb.mono Lv4.out.size))
                clear hat bb Qv4 Lv4
                clear hLL
                go_wp2_with fail
                go_round
                case rel => exact ⟨k + 1, inn', gone', went', ticks', Ai', ci', Ag', cg', by omega, by omega, by go_num, rfl, by push_cast; omega, Qv5.out⟩
                case measure => simp [intOf]; omega
              · clear hs0
                go_wp2_with fail
                refine (qin_any Qv0.out.qu).mono ?_
                rintro e v1 ⟨Mv1, kv1, rfl, hat, bb⟩
                have Tv1 := Lib.hid hat
                have Qv1 := Lib.hid (Qv0.out.later bb)
                have Lv1 := Lib.hid (Lv0.out.trans (bb.mono Lv0.out.size))
                clear hat bb Qv0 Lv0
                go_wp2_with fail
                refine (ints_is Mv1 inn'.length kv1 inn' M5 inn.length k5 inn _ true (decide_eq_true HS.out.1) rfl Qv1.out.qu.leni Tv1.out rfl HI.out (T5.out.later Lv1.out (Nat.le_refl _))).mono ?_
                rintro e v2 ⟨rfl, mv2, rfl⟩
                have Qv2 := Lib.hid (Qv1.out.later (below_drewN v1 mv2 _))
                have Lv2 := Lib.hid (Lv1.out.trans ((below_drewN v1 mv2 v1.heap.size).mono Lv1.out.size))
                clear Qv1 Lv1
                generalize v1.drewN mv2 = v2 at *
                have hz := qst_two HQ.out
                have dt : decide (N ≤ (inn'.length : Int)) = false := decide_eq_false (by omega)
                clear hz
                go_wp2_with fail
                refine (qin_any Qv2.out.qu).mono ?_
                rintro e v3 ⟨Mv3, kv3, rfl, hat, bb⟩
                have Tv3 := Lib.hid hat
                have Qv3 := Lib.hid (Qv2.out.later bb)
                have Lv3 := Lib.hid (Lv2.out.trans (bb.mono Lv2.out.size))
                clear hat bb Qv2 Lv2
                go_wp2_with fail
                refine (qin_any Qv3.out.qu).mono ?_
                rintro e v4 ⟨Mv4, kv4, rfl, hat, bb⟩
                have Tv4 := Lib.hid hat
                have Qv4 := Lib.hid (Qv3.out.later bb)
                have Lv4 := Lib.hid (Lv3.out.trans (bb.mono Lv3.out.size))
                clear hat bb Qv3 Lv3
                obtain ⟨LL, hLL⟩ : ∃ LL, SetM.elems (SetM.op 2 (SetM.bitsOf (who3 n)) (SetM.bitsOf inn')) = LL := ⟨_, rfl⟩
                have hcnt := Qv4.out.inw.count (who3_elems n hn12)
                rw [hLL, who3_len] at hcnt
                have hsum : (inn'.length : Int) + (LL.length : Int) = (n : Int) := by omega
                have li := Qv4.out.qu.leni
                clear hcnt
                go_wp2_with fail
                refine (qlacks_any Qv4.out.qu LL hLL).mono ?_
                rintro e v5 ⟨Mv5, kv5, rfl, hat, bb⟩
                have Tv5 := Lib.hid hat
                have Qv5 := Lib.hid (Qv4.out.later bb)
                have Lv5 := Lib.hid (Lv4.out.trans (bb.mono Lv4.out.size))
                clear hat bb Qv4 Lv4
                clear hLL
                go_wp2_with fail
                go_round
                case rel => exact ⟨k + 1, inn', gone', went', ticks', Ai', ci', Ag', cg', by omega, by omega, by go_num, rfl, by push_cast; omega, Qv5.out⟩
                case measure => simp [intOf]; omega
          · obtain rfl : k = 60 := by omega
            go_wp2_with fail
            go_loopw [20] (fun j wq => ∃ (jn : Nat) (went' : Int), (jn : Int) ≤ T ∧ j = .int .i64 (jn : Int) ∧ 0 ≤ went' ∧ went' ≤ 60 + jn ∧ Qu wq q (who3 n) inn gone N T went' Aw cw Ai ci Ag cg ∧ Below w.heap.size w wq ∧ (qst (who3 n).length inn.length gone.length N T went' = 0 → (jn : Int) ≤ went')) (fun j _ => (T - intOf j).toNat)
            case atStart => exact ⟨0, went, by omega, rfl, RR.out.wb.1, by have := RR.out.wb.2; omega, RR.out.qu, RR.out.bel, fun _ => RR.out.wb.1⟩
            case round =>
              obtain ⟨jn, wt, hj, rfl, hw0, hw1, hqu, hbl, hq0⟩ := hrel
              have QU := Lib.hid hqu
              have BL := Lib.hid hbl
              have H0 := Lib.hid hq0
              clear hqu hbl hq0
              obtain ⟨s, hs⟩ : ∃ s, qst (who3 n).length inn.length gone.length N T wt = s := ⟨_, rfl⟩
              by_cases hlj : (jn : Int) < T
              · have dj : decide ((jn : Int) < T) = true := decide_eq_true hlj
                have HQ := Lib.hid hs
                have TK := Lib.hid (qtick_any QU.out s hs ⟨hw0, by omega⟩)
                clear hs
                go_wp2_with fail
                refine TK.out.mono ?_
                rintro e wz ⟨rfl, gd, gr⟩
                have GD := Lib.hid gd
                have BZ := Lib.hid (below_grown BL.out gr RR.out.qs)
                clear gd gr TK
                go_wp2_with fail
                go_round
                case rel =>
                  refine ⟨jn + 1, _, by push_cast; omega, by go_num, ?_, ?_, GD.out, BZ.out, fun hz => ?_⟩
                  · split <;> omega
                  · push_cast; split <;> omega
                  · by_cases hs0 : s = 0
                    · rw [if_pos hs0]
                      have := H0.out (by rw [HQ.out]; exact hs0)
                      push_cast; omega
                    · rw [if_neg hs0] at hz
                      rw [HQ.out] at hz
                      exact absurd hz hs0
                case measure => simp [intOf]; omega
              · have dj : decide ((jn : Int) < T) = false := decide_eq_false hlj
                have hs0 : s ≠ 0 := by
                  intro h
                  rw [h] at hs
                  have h1 := qst_zero hs
                  have h2 := H0.out hs
                  omega
                have ds : (s != 0) = true := by simpa using hs0
                have ST := Lib.hid (qstate_any QU.out s hs)
                clear hs hs0
                go_wp2_with fail
                refine ST.out.mono ?_
                rintro e wz ⟨rfl, mz, rfl⟩
                have BZ := Lib.hid (BL.out.trans (below_drewN wr mz _))
                generalize wr.drewN mz = wz at *
                have GZ := Lib.hid (HG.out.later BZ.out (Nat.le_refl _))
                go_wp2_with fail
                refine (sure23 _ GZ.out).mono ?_
                rintro e w' ⟨rfl, bb⟩
                have BB := Lib.hid (BZ.out.trans (bb.mono BZ.out.size))
                clear bb
                go_wp2_with fail
                go_ret
                exact ⟨rfl, BB.out⟩
        · obtain rfl : k = n2 := by omega
          go_wp2_with fail
          go_loopw [20] (fun j wq => ∃ (jn : Nat) (went' : Int), (jn : Int) ≤ T ∧ j = .int .i64 (jn : Int) ∧ 0 ≤ went' ∧ went' ≤ 60 + jn ∧ Qu wq q (who3 n) inn gone N T went' Aw cw Ai ci Ag cg ∧ Below w.heap.size w wq ∧ (qst (who3 n).length inn.length gone.length N T went' = 0 → (jn : Int) ≤ went')) (fun j _ => (T - intOf j).toNat)
          case atStart => exact ⟨0, went, by omega, rfl, RR.out.wb.1, by have := RR.out.wb.2; omega, RR.out.qu, RR.out.bel, fun _ => RR.out.wb.1⟩
          case round =>
            obtain ⟨jn, wt, hj, rfl, hw0, hw1, hqu, hbl, hq0⟩ := hrel
            have QU := Lib.hid hqu
            have BL := Lib.hid hbl
            have H0 := Lib.hid hq0
            clear hqu hbl hq0
            obtain ⟨s, hs⟩ : ∃ s, qst (who3 n).length inn.length gone.length N T wt = s := ⟨_, rfl⟩
            by_cases hlj : (jn : Int) < T
            · have dj : decide ((jn : Int) < T) = true := decide_eq_true hlj
              have HQ := Lib.hid hs
              have TK := Lib.hid (qtick_any QU.out s hs ⟨hw0, by omega⟩)
              clear hs
              go_wp2_with fail
              refine TK.out.mono ?_
              rintro e wz ⟨rfl, gd, gr⟩
              have GD := Lib.hid gd
              have BZ := Lib.hid (below_grown BL.out gr RR.out.qs)
              clear gd gr TK
              go_wp2_with fail
              go_round
              case rel =>
                refine ⟨jn + 1, _, by push_cast; omega, by go_num, ?_, ?_, GD.out, BZ.out, fun hz => ?_⟩
                · split <;> omega
                · push_cast; split <;> omega
                · by_cases hs0 : s = 0
                  · rw [if_pos hs0]
                    have := H0.out (by rw [HQ.out]; exact hs0)
                    push_cast; omega
                  · rw [if_neg hs0] at hz
                    rw [HQ.out] at hz
                    exact absurd hz hs0
              case measure => simp [intOf]; omega
            · have dj : decide ((jn : Int) < T) = false := decide_eq_false hlj
              have hs0 : s ≠ 0 := by
                intro h
                rw [h] at hs
                have h1 := qst_zero hs
                have h2 := H0.out hs
                omega
              have ds : (s != 0) = true := by simpa using hs0
              have ST := Lib.hid (qstate_any QU.out s hs)
              clear hs hs0
              go_wp2_with fail
              refine ST.out.mono ?_
              rintro e wz ⟨rfl, mz, rfl⟩
              have BZ := Lib.hid (BL.out.trans (below_drewN wr mz _))
              generalize wr.drewN mz = wz at *
              have GZ := Lib.hid (HG.out.later BZ.out (Nat.le_refl _))
              go_wp2_with fail
              refine (sure23 _ GZ.out).mono ?_
              rintro e w' ⟨rfl, bb⟩
              have BB := Lib.hid (BZ.out.trans (bb.mono BZ.out.size))
              clear bb
              go_wp2_with fail
              go_ret
              exact ⟨rfl, BB.out⟩
end Go.Proofs.YtkpangeeldhjfaaDoor
