/- Layer 26: the walk of GuardFirst. -/
import Derived.Test.YtpcghenjmiacbaaDoorGdD
import Derived.Deep.QuietTactic
import Derived.BigQuiet
namespace Go.Proofs.YtpcghenjmiacbaaDoor
open Go.RowKit
set_option maxRecDepth 100000 in
set_option maxHeartbeats 1000000 in
theorem gfirst_short (A0 : Option Addr) (n0 c0 : Nat) (l0 : List Int) (A1 : Option Addr) (n1 c1 : Nat) (l1 : List Int) (A2 : Option Addr) (n2 c2 : Nat) (l2 : List Int) (x : Nat) (w : World) (e0 : l0.length = n0) (e1 : l1.length = n1) (e2 : l2.length = n2) (a0 : At w A0 (ints .i64 l0)) (a1 : At w A1 (ints .i64 l1)) (a2 : At w A2 (ints .i64 l2)) (y0 : A0 = none → n0 = 0) (y1 : A1 = none → n1 = 0) (y2 : A2 = none → n2 = 0) (hx : x < 256) (hg : Glob w) (h : n0 = 0 ∨ 64 < n0 ∨ 64 < n1 ∨ 64 < n2) :
    Calls Tryd.prog 5 #[.slice A0 n0 c0, .agg #[.slice A1 n1 c1, .slice A2 n2 c2], .int .u8 x] w fun e w' => e = .returned (.bool true) ∧ Below w.heap.size w w' := by
  have HG := Lib.hid hg
  clear hg a0 a1 a2 y0 y1 y2
  go_enter Tryd.func5, Tryd.ntmps5
  go_wp2_with fail
  have q0 : (w.alloc (.cells #[.slice A1 n1 c1, .slice A2 n2 c2] 46)).cell? ⟨w.heap.size, 0, none⟩ = some (.slice A1 n1 c1) := by simp
  have q1 : (w.alloc (.cells #[.slice A1 n1 c1, .slice A2 n2 c2] 46)).cell? ⟨w.heap.size, 1, none⟩ = some (.slice A2 n2 c2) := by simp
  have BA := Lib.hid ((Below.refl w.heap.size w).alloc (Nat.le_refl _) (.cells #[.slice A1 n1 c1, .slice A2 n2 c2] 46))
  go_quiet (fail)
  have B1 := Lib.hid (show Below w.heap.size w ((w.alloc (.cells #[.slice A1 n1 c1, .slice A2 n2 c2] 46)).drewN nq) from BA.out.trans (below_drewN _ nq _))
  clear q0 q1
  generalize (w.alloc (.cells #[.slice A1 n1 c1, .slice A2 n2 c2] 46)).drewN nq = v1 at *
  have G1 := Lib.hid (HG.out.later B1.out (Nat.le_refl _))
  by_cases h0 : n0 = 0
  · have d0 : ((n0 : Int) == 0) = true := by simp [h0]
    clear h h0
    go_wp2_with fail
    refine (sure26 _ G1.out).mono ?_
    rintro e w' ⟨rfl, bb⟩
    have BB := Lib.hid (B1.out.trans (bb.mono B1.out.size))
    clear bb
    go_wp2_with fail
    go_ret
    exact ⟨rfl, BB.out⟩
  · have d0 : ((n0 : Int) == 0) = false := by simp [h0]
    by_cases h1 : 64 < n0
    · have d1 : decide (64 < n0) = true := decide_eq_true h1
      clear h h0
      go_wp2_with fail
      refine (sure26 _ G1.out).mono ?_
      rintro e w' ⟨rfl, bb⟩
      have BB := Lib.hid (B1.out.trans (bb.mono B1.out.size))
      clear bb
      go_wp2_with fail
      go_ret
      exact ⟨rfl, BB.out⟩
    · have d1 : decide (64 < n0) = false := decide_eq_false h1
      by_cases h2 : 64 < n1
      · have d2 : decide (64 < n1) = true := decide_eq_true h2
        clear h h0
        go_wp2_with fail
        refine (sure26 _ G1.out).mono ?_
        rintro e w' ⟨rfl, bb⟩
        have BB := Lib.hid (B1.out.trans (bb.mono B1.out.size))
        clear bb
        go_wp2_with fail
        go_ret
        exact ⟨rfl, BB.out⟩
      · have d2 : decide (64 < n1) = false := decide_eq_false h2
        have h3 : 64 < n2 := by omega
        have d3 : decide (64 < n2) = true := decide_eq_true h3
        clear h h0
        go_wp2_with fail
        refine (sure26 _ G1.out).mono ?_
        rintro e w' ⟨rfl, bb⟩
        have BB := Lib.hid (B1.out.trans (bb.mono B1.out.size))
        clear bb
        go_wp2_with fail
        go_ret
        exact ⟨rfl, BB.out⟩
set_option maxRecDepth 100000 in
set_option maxHeartbeats 1000000 in
theorem gfirst_bad (A0 : Option Addr) (n0 c0 : Nat) (l0 : List Int) (A1 : Option Addr) (n1 c1 : Nat) (l1 : List Int) (A2 : Option Addr) (n2 c2 : Nat) (l2 : List Int) (x : Nat) (w : World) (e0 : l0.length = n0) (e1 : l1.length = n1) (e2 : l2.length = n2) (a0 : At w A0 (ints .i64 l0)) (a1 : At w A1 (ints .i64 l1)) (a2 : At w A2 (ints .i64 l2)) (y0 : A0 = none → n0 = 0) (y1 : A1 = none → n1 = 0) (y2 : A2 = none → n2 = 0) (hx : x < 256) (hg : Glob w) (h1 : 1 ≤ n0) (h2 : n0 ≤ 64) (h3 : n1 ≤ 64) (h4 : n2 ≤ 64) (hm : SetM.may l0 = false) :
    Calls Tryd.prog 5 #[.slice A0 n0 c0, .agg #[.slice A1 n1 c1, .slice A2 n2 c2], .int .u8 x] w fun e w' => e = .returned (.bool true) ∧ Below w.heap.size w w' := by
  have HG := Lib.hid hg
  have E0 := Lib.hid e0
  have E1 := Lib.hid e1
  have E2 := Lib.hid e2
  have T0 := Lib.hid a0
  have T1 := Lib.hid a1
  have T2 := Lib.hid a2
  have Y0 := Lib.hid y0
  have Y1 := Lib.hid y1
  have Y2 := Lib.hid y2
  have HM := Lib.hid hm
  clear hg a0 a1 a2 y0 y1 y2 hm e0 e1 e2
  go_enter Tryd.func5, Tryd.ntmps5
  go_wp2_with fail
  have q0 : (w.alloc (.cells #[.slice A1 n1 c1, .slice A2 n2 c2] 46)).cell? ⟨w.heap.size, 0, none⟩ = some (.slice A1 n1 c1) := by simp
  have q1 : (w.alloc (.cells #[.slice A1 n1 c1, .slice A2 n2 c2] 46)).cell? ⟨w.heap.size, 1, none⟩ = some (.slice A2 n2 c2) := by simp
  have BA := Lib.hid ((Below.refl w.heap.size w).alloc (Nat.le_refl _) (.cells #[.slice A1 n1 c1, .slice A2 n2 c2] 46))
  go_quiet (fail)
  have B1 := Lib.hid (show Below w.heap.size w ((w.alloc (.cells #[.slice A1 n1 c1, .slice A2 n2 c2] 46)).drewN nq) from BA.out.trans (below_drewN _ nq _))
  clear q0 q1
  generalize (w.alloc (.cells #[.slice A1 n1 c1, .slice A2 n2 c2] 46)).drewN nq = v1 at *
  have G1 := Lib.hid (HG.out.later B1.out (Nat.le_refl _))
  have d0 : ((n0 : Int) == 0) = false := by simp; omega
  have d1 : decide (64 < n0) = false := decide_eq_false (by omega)
  have d2 : decide (64 < n1) = false := decide_eq_false (by omega)
  have d3 : decide (64 < n2) = false := decide_eq_false (by omega)
  have d4 : (n0 : Int) ≠ 0 := by omega
  have hq := Nat.mod_lt x (show 0 < n0 by omega)
  go_wp2_with fail
  refine (gnew_no A0 n0 c0 l0 _ _ E0.out (by omega) (T0.out.later B1.out (Nat.le_refl _)) (.inl HM.out)).mono ?_
  rintro e w2 ⟨rfl, rfl⟩
  go_wp2_with fail
  refine (sure26 _ G1.out).mono ?_
  rintro e w' ⟨rfl, bb⟩
  have BB := Lib.hid (B1.out.trans (bb.mono B1.out.size))
  clear bb
  go_wp2_with fail
  go_ret
  exact ⟨rfl, BB.out⟩
theorem code_sub {who l cur : List Int} {need : Int} {asked : Bool} (h : SetM.askCode who need cur asked l = 0) : ¬ (l.length : Int) < need ∧ (SetM.may l && SetM.sub who l) = true ∧ (asked = false ∨ l = cur) := by
  unfold SetM.askCode at h
  by_cases h1 : (SetM.may l && SetM.sub who l) = false
  · rw [if_pos h1] at h; cases h
  · rw [if_neg h1] at h
    by_cases h2 : (l.length : Int) < need
    · rw [if_pos h2] at h; cases h
    · rw [if_neg h2] at h
      by_cases h3 : (asked && !decide (l = cur)) = true
      · rw [if_pos h3] at h; cases h
      · refine ⟨h2, by simpa using h1, ?_⟩
        cases asked
        · exact .inl rfl
        · simp at h3; exact .inr h3
/-- whoever was taken is taken again -/
theorem code_again {who l cur : List Int} {need : Int} {asked : Bool} (h : SetM.askCode who need cur asked l = 0) : SetM.askCode who need l true l = 0 :=
  SetM.askCode_0 (code_sub h).2.1 (code_sub h).1 (.inr rfl)
theorem ints_is (A : Option Addr) (n c : Nat) (l : List Int) (A2 : Option Addr) (n2 c2 : Nat) (l2 : List Int) (w : World) (b : Bool) (hb : decide (l = l2) = b) (hl : l.length = n) (hm : n ≤ 100) (ha : At w A (ints .i64 l)) (hl2 : l2.length = n2) (hm2 : n2 ≤ 100) (ha2 : At w A2 (ints .i64 l2)) :
    Calls Tryd.prog 15 #[.slice A n c, .slice A2 n2 c2] w fun e w' => e = .returned (.bool b) ∧ ∃ m, w' = w.drewN m := by
  subst hb
  exact ints26_any A n c l A2 n2 c2 l2 w hl (by omega) ha hl2 (by omega) ha2
set_option maxRecDepth 100000 in
set_option maxHeartbeats 4000000 in
theorem gfirst_in (A0 : Option Addr) (n0 c0 : Nat) (l0 : List Int) (A1 : Option Addr) (n1 c1 : Nat) (l1 : List Int) (A2 : Option Addr) (n2 c2 : Nat) (l2 : List Int) (x : Nat) (w : World) (e0 : l0.length = n0) (e1 : l1.length = n1) (e2 : l2.length = n2) (a0 : At w A0 (ints .i64 l0)) (a1 : At w A1 (ints .i64 l1)) (a2 : At w A2 (ints .i64 l2)) (y0 : A0 = none → n0 = 0) (y1 : A1 = none → n1 = 0) (y2 : A2 = none → n2 = 0) (hx : x < 256) (hg : Glob w) (h1 : 1 ≤ n0) (h2 : n0 ≤ 64) (h3 : n1 ≤ 64) (h4 : n2 ≤ 64) (hm : SetM.may l0 = true) :
    Calls Tryd.prog 5 #[.slice A0 n0 c0, .agg #[.slice A1 n1 c1, .slice A2 n2 c2], .int .u8 x] w fun e w' => e = .returned (.bool true) ∧ Below w.heap.size w w' := by
  have HG := Lib.hid hg
  have E0 := Lib.hid e0
  have E1 := Lib.hid e1
  have E2 := Lib.hid e2
  have T0 := Lib.hid a0
  have T1 := Lib.hid a1
  have T2 := Lib.hid a2
  have Y0 := Lib.hid y0
  have Y1 := Lib.hid y1
  have Y2 := Lib.hid y2
  have HM := Lib.hid hm
  clear hg a0 a1 a2 y0 y1 y2 hm e0 e1 e2
  go_enter Tryd.func5, Tryd.ntmps5
  go_wp2_with fail
  have q0 : (w.alloc (.cells #[.slice A1 n1 c1, .slice A2 n2 c2] 46)).cell? ⟨w.heap.size, 0, none⟩ = some (.slice A1 n1 c1) := by simp
  have q1 : (w.alloc (.cells #[.slice A1 n1 c1, .slice A2 n2 c2] 46)).cell? ⟨w.heap.size, 1, none⟩ = some (.slice A2 n2 c2) := by simp
  have BA := Lib.hid ((Below.refl w.heap.size w).alloc (Nat.le_refl _) (.cells #[.slice A1 n1 c1, .slice A2 n2 c2] 46))
  go_quiet (fail)
  have B1 := Lib.hid (show Below w.heap.size w ((w.alloc (.cells #[.slice A1 n1 c1, .slice A2 n2 c2] 46)).drewN nq) from BA.out.trans (below_drewN _ nq _))
  clear q0 q1
  generalize (w.alloc (.cells #[.slice A1 n1 c1, .slice A2 n2 c2] 46)).drewN nq = v1 at *
  have G1 := Lib.hid (HG.out.later B1.out (Nat.le_refl _))
  have d0 : ((n0 : Int) == 0) = false := by simp; omega
  have d1 : decide (64 < n0) = false := decide_eq_false (by omega)
  have d2 : decide (64 < n1) = false := decide_eq_false (by omega)
  have d3 : decide (64 < n2) = false := decide_eq_false (by omega)
  have d4 : (n0 : Int) ≠ 0 := by omega
  have hq := Nat.mod_lt x (show 0 < n0 by omega)
  go_wp2_with fail
  obtain ⟨N, hN⟩ : ∃ N : Int, 1 + (x : Int) % (n0 : Int) = N := ⟨_, rfl⟩
  rw [hN]
  have hN1 : 1 ≤ N := by have := Int.emod_nonneg (x : Int) d4; omega
  have hN2 : N ≤ n0 := by have := Int.emod_lt_of_pos (x : Int) (show 0 < (n0 : Int) by omega); omega
  clear hN hq d4
  refine (gnew_ok A0 n0 c0 l0 N _ E0.out (by omega) (T0.out.later B1.out (Nat.le_refl _)) Y0.out HM.out (by omega) (by omega)).mono ?_
  rintro e w2 ⟨g, Aw, cw, rfl, gd, b2, hgs⟩
  have GS := Lib.hid (show w.heap.size ≤ g from Nat.le_trans B1.out.size hgs)
  have D2 := Lib.hid gd
  have B2 := Lib.hid (B1.out.trans (b2.mono B1.out.size))
  clear gd b2 hgs G1 B1
  by_cases hk : SetM.askCode l0 N [] false l1 = 0
  · have AG := Lib.hid (code_again hk)
    have hlt := (code_sub hk).1
    have d5 : decide ((n1 : Int) < N) = false := decide_eq_false (by rw [← E1.out]; exact hlt)
    have HK := Lib.hid hk
    clear hk hlt
    go_wp2_with fail
    refine (gask_0 A1 n1 c1 l1 D2.out E1.out (by omega) (T1.out.later B2.out (Nat.le_refl _)) Y1.out HK.out).mono ?_
    rintro e w3 ⟨rfl, Acw3, ccw3, gd, gr⟩
    have D3 := Lib.hid gd
    have B3 := Lib.hid (below_grown B2.out gr GS.out)
    clear gd gr
    go_wp2_with fail
    refine (gcame_any D3.out).mono ?_
    rintro e w4 ⟨Mw4, kw4, rfl, hat, bb⟩
    have Tw4 := Lib.hid hat
    have D4 := Lib.hid (D3.out.later bb)
    have B4 := Lib.hid (B3.out.trans (bb.mono B3.out.size))
    clear hat bb
    go_wp2_with fail
    refine (ints_is Mw4 l1.length kw4 l1 A1 n1 c1 l1 _ true (decide_eq_true rfl) rfl (by rw [E1.out]; omega) Tw4.out E1.out (by omega) (T1.out.later B4.out (Nat.le_refl _))).mono ?_
    rintro e w5 ⟨rfl, m5, rfl⟩
    have bq := below_drewN w4 m5 w4.heap.size
    have D5 := Lib.hid (D4.out.later bq)
    have B5 := Lib.hid (B4.out.trans (bq.mono B4.out.size))
    clear bq
    generalize w4.drewN m5 = w5 at *
    by_cases hk2 : SetM.askCode l0 N l1 true l2 = 0
    · have he : l2 = l1 := by
        rcases (code_sub hk2).2.2 with h | h
        · cases h
        · exact h
      have HE := Lib.hid he
      have HK2 := Lib.hid hk2
      clear hk2 he
      go_wp2_with fail
      refine (gask_0 A2 n2 c2 l2 D5.out E2.out (by omega) (T2.out.later B5.out (Nat.le_refl _)) Y2.out HK2.out).mono ?_
      rintro e w6 ⟨rfl, Acw6, ccw6, gd, gr⟩
      have D6 := Lib.hid gd
      have B6 := Lib.hid (below_grown B5.out gr GS.out)
      clear gd gr
      go_wp2_with fail
      refine (gcame_any D6.out).mono ?_
      rintro e w7 ⟨Mw7, kw7, rfl, hat, bb⟩
      have Tw7 := Lib.hid hat
      have D7 := Lib.hid (D6.out.later bb)
      have B7 := Lib.hid (B6.out.trans (bb.mono B6.out.size))
      clear hat bb
      have Q1 := Lib.hid (fun (W : World) (hW : Below w7.heap.size w7 W) => ints_is Mw7 l2.length kw7 l2 A1 n1 c1 l1 W true (decide_eq_true HE.out) rfl (by rw [E2.out]; omega) (Tw7.out.later hW (Nat.le_refl _)) E1.out (by omega) (T1.out.later (B7.out.trans (hW.mono B7.out.size)) (Nat.le_refl _)))
      have Q2 := Lib.hid (fun (W : World) (hW : Below w7.heap.size w7 W) => ints_is A2 n2 c2 l2 A1 n1 c1 l1 W true (decide_eq_true HE.out) E2.out (by omega) (T2.out.later (B7.out.trans (hW.mono B7.out.size)) (Nat.le_refl _)) E1.out (by omega) (T1.out.later (B7.out.trans (hW.mono B7.out.size)) (Nat.le_refl _)))
      go_wp2_with fail
      go_quiet (first | (go_at_call 15; with_reducible exact Calls.quiet_of (Q1.out _ (below_drewN _ _ _))) | (go_at_call 15; with_reducible exact Calls.quiet_of (Q2.out _ (below_drewN _ _ _))))
      have bq := below_drewN w7 nq w7.heap.size
      have D8 := Lib.hid (D7.out.later bq)
      have B8 := Lib.hid (B7.out.trans (bq.mono B7.out.size))
      clear bq
      generalize w7.drewN nq = w8 at *
      have AG2 := Lib.hid (show SetM.askCode l0 N l2 true l1 = 0 by rw [HE.out]; exact AG.out)
      go_wp2_with fail
      refine (gask_0 A1 n1 c1 l1 D8.out E1.out (by omega) (T1.out.later B8.out (Nat.le_refl _)) Y1.out AG2.out).mono ?_
      rintro e w9 ⟨rfl, Acw9, ccw9, gd, gr⟩
      have D9 := Lib.hid gd
      have B9 := Lib.hid (below_grown B8.out gr GS.out)
      clear gd gr
      have G9 := Lib.hid (HG.out.later B9.out (Nat.le_refl _))
      go_wp2_with fail
      refine (sure26 _ G9.out).mono ?_
      rintro e w' ⟨rfl, bb⟩
      have BB := Lib.hid (B9.out.trans (bb.mono B9.out.size))
      clear bb
      go_wp2_with fail
      go_ret
      exact ⟨rfl, BB.out⟩
    · have he : l2 ≠ l1 := by
        rintro rfl
        exact hk2 AG.out
      have HE := Lib.hid he
      have HK2 := Lib.hid hk2
      clear hk2 he
      go_wp2_with fail
      refine (gask_k A2 n2 c2 l2 D5.out E2.out (by omega) (T2.out.later B5.out (Nat.le_refl _)) Y2.out _ rfl HK2.out).mono ?_
      rintro e w6 ⟨rfl, Acw6, ccw6, gd, gr⟩
      have D6 := Lib.hid gd
      have B6 := Lib.hid (below_grown B5.out gr GS.out)
      clear gd gr
      go_wp2_with fail
      refine (gcame_any D6.out).mono ?_
      rintro e w7 ⟨Mw7, kw7, rfl, hat, bb⟩
      have Tw7 := Lib.hid hat
      have D7 := Lib.hid (D6.out.later bb)
      have B7 := Lib.hid (B6.out.trans (bb.mono B6.out.size))
      clear hat bb
      have Q1 := Lib.hid (fun (W : World) (hW : Below w7.heap.size w7 W) => ints_is Mw7 l1.length kw7 l1 A1 n1 c1 l1 W true (decide_eq_true rfl) rfl (by rw [E1.out]; omega) (Tw7.out.later hW (Nat.le_refl _)) E1.out (by omega) (T1.out.later (B7.out.trans (hW.mono B7.out.size)) (Nat.le_refl _)))
      have Q2 := Lib.hid (fun (W : World) (hW : Below w7.heap.size w7 W) => ints_is A2 n2 c2 l2 A1 n1 c1 l1 W false (decide_eq_false HE.out) E2.out (by omega) (T2.out.later (B7.out.trans (hW.mono B7.out.size)) (Nat.le_refl _)) E1.out (by omega) (T1.out.later (B7.out.trans (hW.mono B7.out.size)) (Nat.le_refl _)))
      go_wp2_with fail
      go_quiet (first | (go_at_call 15; with_reducible exact Calls.quiet_of (Q1.out _ (below_drewN _ _ _))) | (go_at_call 15; with_reducible exact Calls.quiet_of (Q2.out _ (below_drewN _ _ _))))
      have bq := below_drewN w7 nq w7.heap.size
      have D8 := Lib.hid (D7.out.later bq)
      have B8 := Lib.hid (B7.out.trans (bq.mono B7.out.size))
      clear bq
      generalize w7.drewN nq = w8 at *
      go_wp2_with fail
      refine (gask_0 A1 n1 c1 l1 D8.out E1.out (by omega) (T1.out.later B8.out (Nat.le_refl _)) Y1.out AG.out).mono ?_
      rintro e w9 ⟨rfl, Acw9, ccw9, gd, gr⟩
      have D9 := Lib.hid gd
      have B9 := Lib.hid (below_grown B8.out gr GS.out)
      clear gd gr
      have G9 := Lib.hid (HG.out.later B9.out (Nat.le_refl _))
      go_wp2_with fail
      refine (sure26 _ G9.out).mono ?_
      rintro e w' ⟨rfl, bb⟩
      have BB := Lib.hid (B9.out.trans (bb.mono B9.out.size))
      clear bb
      go_wp2_with fail
      go_ret
      exact ⟨rfl, BB.out⟩
  · have HK := Lib.hid hk
    clear hk
    go_wp2_with fail
    refine (gask_k A1 n1 c1 l1 D2.out E1.out (by omega) (T1.out.later B2.out (Nat.le_refl _)) Y1.out _ rfl HK.out).mono ?_
    rintro e w3 ⟨rfl, Acw3, ccw3, gd, gr⟩
    have D3 := Lib.hid gd
    have B3 := Lib.hid (below_grown B2.out gr GS.out)
    clear gd gr
    go_wp2_with fail
    refine (gcame_no D3.out).mono ?_
    rintro e w' ⟨rfl, rfl⟩
    by_cases hk2 : SetM.askCode l0 N [] false l2 = 0
    · have HK2 := Lib.hid hk2
      clear hk2
      go_wp2_with fail
      refine (gask_0 A2 n2 c2 l2 D3.out E2.out (by omega) (T2.out.later B3.out (Nat.le_refl _)) Y2.out HK2.out).mono ?_
      rintro e w4 ⟨rfl, Acw4, ccw4, gd, gr⟩
      have D4 := Lib.hid gd
      have B4 := Lib.hid (below_grown B3.out gr GS.out)
      clear gd gr
      go_wp2_with fail
      refine (gcame_any D4.out).mono ?_
      rintro e w5 ⟨Mw5, kw5, rfl, hat, bb⟩
      have Tw5 := Lib.hid hat
      have D5 := Lib.hid (D4.out.later bb)
      have B5 := Lib.hid (B4.out.trans (bb.mono B4.out.size))
      clear hat bb
      go_wp2_with fail
      go_quiet (fail)
      have bq := below_drewN w5 nq w5.heap.size
      have D6 := Lib.hid (D5.out.later bq)
      have B6 := Lib.hid (B5.out.trans (bq.mono B5.out.size))
      clear bq
      generalize w5.drewN nq = w6 at *
      go_wp2_with fail
      refine (gask_any A1 n1 c1 l1 D6.out E1.out (by omega) (T1.out.later B6.out (Nat.le_refl _)) Y1.out).mono ?_
      rintro e w7 ⟨cur', asked', Ac', cc', rfl, _, _, gr, _⟩
      have B7 := Lib.hid (below_grown B6.out gr GS.out)
      clear gr
      generalize errK _ = ve
      have G7 := Lib.hid (HG.out.later B7.out (Nat.le_refl _))
      go_wp2_with fail
      refine (sure26 _ G7.out).mono ?_
      rintro e w' ⟨rfl, bb⟩
      have BB := Lib.hid (B7.out.trans (bb.mono B7.out.size))
      clear bb
      go_wp2_with fail
      go_ret
      exact ⟨rfl, BB.out⟩
    · have HK2 := Lib.hid hk2
      clear hk2
      go_wp2_with fail
      refine (gask_k A2 n2 c2 l2 D3.out E2.out (by omega) (T2.out.later B3.out (Nat.le_refl _)) Y2.out _ rfl HK2.out).mono ?_
      rintro e w4 ⟨rfl, Acw4, ccw4, gd, gr⟩
      have D4 := Lib.hid gd
      have B4 := Lib.hid (below_grown B3.out gr GS.out)
      clear gd gr
      go_wp2_with fail
      refine (gcame_no D4.out).mono ?_
      rintro e w' ⟨rfl, rfl⟩
      go_wp2_with fail
      go_quiet (fail)
      have bq := below_drewN w4 nq w4.heap.size
      have D5 := Lib.hid (D4.out.later bq)
      have B5 := Lib.hid (B4.out.trans (bq.mono B4.out.size))
      clear bq
      generalize w4.drewN nq = w5 at *
      go_wp2_with fail
      refine (gask_any A1 n1 c1 l1 D5.out E1.out (by omega) (T1.out.later B5.out (Nat.le_refl _)) Y1.out).mono ?_
      rintro e w6 ⟨cur', asked', Ac', cc', rfl, _, _, gr, _⟩
      have B6 := Lib.hid (below_grown B5.out gr GS.out)
      clear gr
      generalize errK _ = ve
      have G6 := Lib.hid (HG.out.later B6.out (Nat.le_refl _))
      go_wp2_with fail
      refine (sure26 _ G6.out).mono ?_
      rintro e w' ⟨rfl, bb⟩
      have BB := Lib.hid (B6.out.trans (bb.mono B6.out.size))
      clear bb
      go_wp2_with fail
      go_ret
      exact ⟨rfl, BB.out⟩
theorem gfirst_any (A0 : Option Addr) (n0 c0 : Nat) (l0 : List Int) (A1 : Option Addr) (n1 c1 : Nat) (l1 : List Int) (A2 : Option Addr) (n2 c2 : Nat) (l2 : List Int) (x : Nat) (w : World) (e0 : l0.length = n0) (e1 : l1.length = n1) (e2 : l2.length = n2) (a0 : At w A0 (ints .i64 l0)) (a1 : At w A1 (ints .i64 l1)) (a2 : At w A2 (ints .i64 l2)) (y0 : A0 = none → n0 = 0) (y1 : A1 = none → n1 = 0) (y2 : A2 = none → n2 = 0) (hx : x < 256) (hg : Glob w) :
    Calls Tryd.prog 5 #[.slice A0 n0 c0, .agg #[.slice A1 n1 c1, .slice A2 n2 c2], .int .u8 x] w fun e w' => e = .returned (.bool true) ∧ Below w.heap.size w w' := by
  by_cases h : n0 = 0 ∨ 64 < n0 ∨ 64 < n1 ∨ 64 < n2
  · exact gfirst_short A0 n0 c0 l0 A1 n1 c1 l1 A2 n2 c2 l2 x w e0 e1 e2 a0 a1 a2 y0 y1 y2 hx hg h
  · cases hm : SetM.may l0 with
    | false => exact gfirst_bad A0 n0 c0 l0 A1 n1 c1 l1 A2 n2 c2 l2 x w e0 e1 e2 a0 a1 a2 y0 y1 y2 hx hg (by omega) (by omega) (by omega) (by omega) hm
    | true => exact gfirst_in A0 n0 c0 l0 A1 n1 c1 l1 A2 n2 c2 l2 x w e0 e1 e2 a0 a1 a2 y0 y1 y2 hx hg (by omega) (by omega) (by omega) (by omega) hm
end Go.Proofs.YtpcghenjmiacbaaDoor
