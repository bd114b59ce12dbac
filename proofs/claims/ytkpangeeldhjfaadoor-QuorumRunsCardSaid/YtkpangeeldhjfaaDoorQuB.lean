/- Layer 23: the tally: New, State, can, Tick, In, Lacks. -/
import Derived.Test.YtkpangeeldhjfaaDoorQuA
import Derived.Deep.QuietTactic
import Derived.BigQuiet
namespace Go.Proofs.YtkpangeeldhjfaaDoor
open Go.RowKit
/-- whether it is decided: of n, m came, g are gone -/
def qst (n m g : Nat) (need term went : Int) : Int :=
  if (m : Int) = n then 1 else if need ≤ m ∧ (term ≤ went ∨ (n : Int) - m - g = 0) then 1 else if (m : Int) < need ∧ (term ≤ went ∨ (m : Int) + ((n : Int) - m - g) < need) then 2 else 0
structure Qu (w : World) (q : Nat) (who inn gone : List Int) (need term went : Int) (Aw : Option Addr) (cw : Nat) (Ai : Option Addr) (ci : Nat) (Ag : Option Addr) (cg : Nat) : Prop where
  lay : Holds w q 51 #[.slice Aw who.length cw, .slice Ai inn.length ci, .slice Ag gone.length cg, .int .i64 need, .int .i64 term, .int .i64 went]
  atw : At w Aw (ints .i64 who)
  ati : At w Ai (ints .i64 inn)
  atg : At w Ag (ints .i64 gone)
  farw : ∀ k, blk Aw = some k → k < w.heap.size ∧ k ≠ q
  fari : ∀ k, blk Ai = some k → k < w.heap.size ∧ k ≠ q
  farg : ∀ k, blk Ag = some k → k < w.heap.size ∧ k ≠ q
  nili : Ai = none → inn.length = 0
  lenw : who.length ≤ 100
  leni : inn.length ≤ 100
  leng : gone.length ≤ 100
section
variable {w w' : World} {q : Nat} {who inn gone : List Int} {need term went : Int} {Aw Ai Ag : Option Addr} {cw ci cg : Nat}
theorem Qu.later (h : Qu w q who inn gone need term went Aw cw Ai ci Ag cg) (hb : Below w.heap.size w w') : Qu w' q who inn gone need term went Aw cw Ai ci Ag cg :=
  ⟨h.lay.later hb (Nat.le_refl _), h.atw.later hb (Nat.le_refl _), h.ati.later hb (Nat.le_refl _), h.atg.later hb (Nat.le_refl _), fun k e => ⟨Nat.lt_of_lt_of_le (h.farw k e).1 hb.size, (h.farw k e).2⟩, fun k e => ⟨Nat.lt_of_lt_of_le (h.fari k e).1 hb.size, (h.fari k e).2⟩, fun k e => ⟨Nat.lt_of_lt_of_le (h.farg k e).1 hb.size, (h.farg k e).2⟩, h.nili, h.lenw, h.leni, h.leng⟩
theorem Qu.drewN (h : Qu w q who inn gone need term went Aw cw Ai ci Ag cg) (k : Nat) : Qu (w.drewN k) q who inn gone need term went Aw cw Ai ci Ag cg := h.later (below_drewN w k _)
set_option maxRecDepth 100000 in
theorem qstate_nil (w : World) : Calls Tryd.prog 9 #[.pointer none] w fun e w' => e = .returned (.int .i64 2) ∧ w = w' := by
  go_enter Tryd.func9, Tryd.ntmps9
  go_wp2_with fail
  go_ret
  exact ⟨rfl, rfl⟩
set_option maxRecDepth 100000 in
set_option maxHeartbeats 2000000 in
/-- by the cells alone -/
theorem qstate_c (w : World) (n m g : Nat) (hn : n ≤ 100) (hm : m ≤ 100) (hg : g ≤ 100) (s : Int) (hs : qst n m g need term went = s)
    (q0 : w.cell? ⟨q, 0, none⟩ = some (.slice Aw n cw)) (q1 : w.cell? ⟨q, 1, none⟩ = some (.slice Ai m ci)) (q2 : w.cell? ⟨q, 2, none⟩ = some (.slice Ag g cg)) (q3 : w.cell? ⟨q, 3, none⟩ = some (.int .i64 need)) (q4 : w.cell? ⟨q, 4, none⟩ = some (.int .i64 term)) (q5 : w.cell? ⟨q, 5, none⟩ = some (.int .i64 went)) :
    Calls Tryd.prog 9 #[.pointer (some ⟨q, 0, none⟩)] w fun e w' => e = .returned (.int .i64 s) ∧ ∃ k, w' = w.drewN k := by
  have b1 : -9223372036854775808 ≤ (n : Int) - m ∧ (n : Int) - m < 9223372036854775808 := by omega
  go_enter Tryd.func9, Tryd.ntmps9
  go_wp2_with fail
  go_quiet (fail)
  go_wp2_with fail
  go_quiet (fail)
  by_cases ha : (m : Int) = n
  · have fa : ((m : Int) == n) = true := by simpa using ha
    skip
    obtain rfl : s = 1 := by rw [← hs]; unfold qst; rw [if_pos ha]
    clear hs
    go_wp2_with fail
    go_ret
    exact ⟨rfl, _, rfl⟩
  · have fa : ((m : Int) == n) = false := by simpa using ha
    by_cases hb : need ≤ (m : Int)
    · have fb : decide (need ≤ (m : Int)) = true := decide_eq_true hb
      have fl : decide ((m : Int) < need) = false := decide_eq_false (by omega)
      by_cases hc : term ≤ went
      · have fc : decide (term ≤ went) = true := decide_eq_true hc
        skip
        obtain rfl : s = 1 := by rw [← hs]; unfold qst; rw [if_neg ha, if_pos ⟨hb, .inl hc⟩]
        clear hs
        go_wp2_with fail
        go_ret
        exact ⟨rfl, _, rfl⟩
      · have fc : decide (term ≤ went) = false := decide_eq_false hc
        by_cases hd : (n : Int) - m - g = 0
        · have fd : ((n : Int) - m - g == 0) = true := by simpa using hd
          skip
          obtain rfl : s = 1 := by rw [← hs]; unfold qst; rw [if_neg ha, if_pos ⟨hb, .inr hd⟩]
          clear hs
          go_wp2_with fail
          go_ret
          exact ⟨rfl, _, rfl⟩
        · have fd : ((n : Int) - m - g == 0) = false := by simpa using hd
          skip
          obtain rfl : s = 0 := by rw [← hs]; unfold qst; rw [if_neg ha, if_neg (fun h => h.2.elim hc hd), if_neg (fun h => absurd h.1 (by omega))]
          clear hs
          go_wp2_with fail
          go_ret
          exact ⟨rfl, _, rfl⟩
    · have fb : decide (need ≤ (m : Int)) = false := decide_eq_false hb
      have fl : decide ((m : Int) < need) = true := decide_eq_true (by omega)
      by_cases hc : term ≤ went
      · have fc : decide (term ≤ went) = true := decide_eq_true hc
        skip
        obtain rfl : s = 2 := by rw [← hs]; unfold qst; rw [if_neg ha, if_neg (fun h => hb h.1), if_pos ⟨by omega, .inl hc⟩]
        clear hs
        go_wp2_with fail
        go_ret
        exact ⟨rfl, _, rfl⟩
      · have fc : decide (term ≤ went) = false := decide_eq_false hc
        by_cases he : (m : Int) + ((n : Int) - m - g) < need
        · have fe : decide ((m : Int) + ((n : Int) - m - g) < need) = true := decide_eq_true he
          skip
          obtain rfl : s = 2 := by rw [← hs]; unfold qst; rw [if_neg ha, if_neg (fun h => hb h.1), if_pos ⟨by omega, .inr he⟩]
          clear hs
          go_wp2_with fail
          go_ret
          exact ⟨rfl, _, rfl⟩
        · have fe : decide ((m : Int) + ((n : Int) - m - g) < need) = false := decide_eq_false he
          skip
          obtain rfl : s = 0 := by rw [← hs]; unfold qst; rw [if_neg ha, if_neg (fun h => hb h.1), if_neg (fun h => h.2.elim hc he)]
          clear hs
          go_wp2_with fail
          go_ret
          exact ⟨rfl, _, rfl⟩
/-- what one that can neither come nor be gone is answered -/
def canK (who inn gone : List Int) (need term went : Int) (id : Int) : Int :=
  if qst who.length inn.length gone.length need term went ≠ 0 then 9 else if SetM.has who id = false then 6 else if (SetM.has inn id || SetM.has gone id) = true then 8 else 0
def errK (k : Int) : Value := if k = 0 then .nilIface else .iface 52 (.int .i64 k)
theorem errK_ne {k : Int} (h : k ≠ 0) : errK k = .iface 52 (.int .i64 k) := by simp [errK, h]
theorem qstate_any (h : Qu w q who inn gone need term went Aw cw Ai ci Ag cg) (s : Int) (hs : qst who.length inn.length gone.length need term went = s) :
    Calls Tryd.prog 9 #[.pointer (some ⟨q, 0, none⟩)] w fun e w' => e = .returned (.int .i64 s) ∧ ∃ k, w' = w.drewN k :=
  qstate_c w who.length inn.length gone.length h.lenw h.leni h.leng s hs (h.lay.cell 0) (h.lay.cell 1) (h.lay.cell 2) (h.lay.cell 3) (h.lay.cell 4) (h.lay.cell 5)
set_option maxRecDepth 100000 in
theorem qcan_nil (i : Int) (w : World) : Calls Tryd.prog 21 #[.pointer none, .int .i64 i] w fun e w' => e = .returned (.iface 52 (.int .i64 1)) ∧ w = w' := by
  go_enter Tryd.func21, Tryd.ntmps21
  go_wp2_with fail
  go_ret
  exact ⟨rfl, rfl⟩
set_option maxRecDepth 100000 in
set_option maxHeartbeats 2000000 in
theorem qcan_any (id : Int) (h : Qu w q who inn gone need term went Aw cw Ai ci Ag cg) (k : Int) (hk : canK who inn gone need term went id = k) :
    Calls Tryd.prog 21 #[.pointer (some ⟨q, 0, none⟩), .int .i64 id] w fun e w' => e = .returned (errK k) ∧ ∃ m, w' = w.drewN m := by
  obtain ⟨s, hs⟩ : ∃ s, qst who.length inn.length gone.length need term went = s := ⟨_, rfl⟩
  have C := Lib.hid (qstate_any h s hs)
  have QH := Lib.hid h
  unfold canK at hk
  rw [hs] at hk
  clear h hs
  by_cases h0 : s = 0
  · subst h0
    rw [if_neg (by decide)] at hk
    cases e1 : SetM.has who id with
    | false =>
      rw [e1, if_pos rfl] at hk
      subst hk
      go_enter Tryd.func21, Tryd.ntmps21
      go_wp2_with fail
      refine C.out.mono ?_
      rintro e w1 ⟨rfl, m, rfl⟩
      have Q1 := Lib.hid (QH.out.drewN m)
      generalize hw1 : w.drewN m = w1 at *
      have c0 := Q1.out.lay.cell 0
      simp only [List.getElem?_toArray, List.getElem?_cons_zero] at c0
      have H1 := setHas_any Aw who.length cw who id w1 rfl (by have := Q1.out.lenw; omega) Q1.out.atw
      rw [e1] at H1
      have HH1 := Lib.hid H1
      have HW := Lib.hid hw1
      clear e1 H1 hw1 C
      go_wp2_with fail
      refine HH1.out.mono ?_
      rintro e w2 ⟨rfl, rfl⟩
      go_wp2_with fail
      go_ret
      exact ⟨rfl, m, HW.out.symm⟩
    | true =>
      rw [e1, if_neg (by decide)] at hk
      cases e2 : SetM.has inn id with
      | true =>
        rw [e2, Bool.true_or, if_pos rfl] at hk
        subst hk
        go_enter Tryd.func21, Tryd.ntmps21
        go_wp2_with fail
        refine C.out.mono ?_
        rintro e w1 ⟨rfl, m, rfl⟩
        have Q1 := Lib.hid (QH.out.drewN m)
        generalize hw1 : w.drewN m = w1 at *
        have c0 := Q1.out.lay.cell 0
        have c1 := Q1.out.lay.cell 1
        simp only [List.getElem?_toArray, List.getElem?_cons_zero, List.getElem?_cons_succ] at c0 c1
        have H1 := setHas_any Aw who.length cw who id w1 rfl (by have := Q1.out.lenw; omega) Q1.out.atw
        have H2 := setHas_any Ai inn.length ci inn id w1 rfl (by have := Q1.out.leni; omega) Q1.out.ati
        rw [e1] at H1
        rw [e2] at H2
        have HH1 := Lib.hid H1
        have HH2 := Lib.hid H2
        have HW := Lib.hid hw1
        clear e1 e2 H1 H2 hw1 C
        go_wp2_with fail
        refine HH1.out.mono ?_
        rintro e w2 ⟨rfl, rfl⟩
        go_wp2_with fail
        refine HH2.out.mono ?_
        rintro e w2 ⟨rfl, rfl⟩
        go_wp2_with fail
        go_ret
        exact ⟨rfl, m, HW.out.symm⟩
      | false =>
        rw [e2, Bool.false_or] at hk
        obtain ⟨g, hg⟩ : ∃ g, SetM.has gone id = g := ⟨_, rfl⟩
        rw [hg] at hk
        have HG := Lib.hid hg
        clear hg
        cases g
        all_goals
          first
            | rw [if_pos rfl] at hk
            | rw [if_neg (by decide)] at hk
          subst hk
          go_enter Tryd.func21, Tryd.ntmps21
          go_wp2_with fail
          refine C.out.mono ?_
          rintro e w1 ⟨rfl, m, rfl⟩
          have Q1 := Lib.hid (QH.out.drewN m)
          generalize hw1 : w.drewN m = w1 at *
          have c0 := Q1.out.lay.cell 0
          have c1 := Q1.out.lay.cell 1
          have c2 := Q1.out.lay.cell 2
          simp only [List.getElem?_toArray, List.getElem?_cons_zero, List.getElem?_cons_succ] at c0 c1 c2
          have H1 := setHas_any Aw who.length cw who id w1 rfl (by have := Q1.out.lenw; omega) Q1.out.atw
          have H2 := setHas_any Ai inn.length ci inn id w1 rfl (by have := Q1.out.leni; omega) Q1.out.ati
          have H3 := setHas_any Ag gone.length cg gone id w1 rfl (by have := Q1.out.leng; omega) Q1.out.atg
          rw [e1] at H1
          rw [e2] at H2
          rw [HG.out] at H3
          have HH1 := Lib.hid H1
          have HH2 := Lib.hid H2
          have HH3 := Lib.hid H3
          have HW := Lib.hid hw1
          clear e1 e2 H1 H2 H3 hw1 C HG
          go_wp2_with fail
          refine HH1.out.mono ?_
          rintro e w2 ⟨rfl, rfl⟩
          go_wp2_with fail
          refine HH2.out.mono ?_
          rintro e w2 ⟨rfl, rfl⟩
          go_wp2_with fail
          refine HH3.out.mono ?_
          rintro e w2 ⟨rfl, rfl⟩
          go_wp2_with fail
          go_ret
          exact ⟨rfl, m, HW.out.symm⟩
  · rw [if_pos h0] at hk
    subst hk
    have hs0 : (s != 0) = true := by simpa using h0
    have H0 := Lib.hid h0
    clear h0
    go_enter Tryd.func21, Tryd.ntmps21
    go_wp2_with fail
    refine C.out.mono ?_
    rintro e w1 ⟨rfl, m, rfl⟩
    go_wp2_with fail
    go_ret
    exact ⟨rfl, m, rfl⟩
end
end Go.Proofs.YtkpangeeldhjfaaDoor
