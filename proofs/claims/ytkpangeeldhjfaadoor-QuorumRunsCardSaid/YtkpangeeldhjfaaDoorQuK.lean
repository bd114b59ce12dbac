/- Layer 23: New that fails; the document's May. -/
import Derived.Test.YtkpangeeldhjfaaDoorQuJ
namespace Go.Proofs.YtkpangeeldhjfaaDoor
open Go.RowKit
/-- whether there may be one -/
def mayT (l : List Int) (need term : Int) : Bool := SetM.may l && decide (1 ≤ need) && decide (need ≤ (l.length : Int)) && decide (1 ≤ term) && decide (term ≤ 1000)
section
variable (A : Option Addr) (n c : Nat) (l : List Int) (need term : Int) (w : World)
set_option maxRecDepth 100000 in
theorem qnew_no (hl : l.length = n) (hn : n ≤ 100) (ha : At w A (ints .i64 l)) (hb : mayT l need term = false) :
    Calls Tryd.prog 13 #[.slice A n c, .int .i64 need, .int .i64 term] w fun e w' => e = .returned (.tuple #[.pointer none, .iface 52 (.int .i64 1)]) ∧ w = w' := by
  have C := Lib.hid (setCheck_any A n c l w hl (by omega) ha)
  clear ha
  cases hm : SetM.may l with
  | false =>
    rw [hm] at C
    clear hm hb hl
    go_enter Tryd.func13, Tryd.ntmps13
    go_wp2_with fail
    refine C.out.mono ?_
    rintro e w1 ⟨rfl, rfl⟩
    simp only [errIf, Bool.false_eq_true, if_false]
    go_wp2_with fail
    go_ret2
    exact ⟨rfl, rfl⟩
  | true =>
    by_cases h1 : need < 1
    · have d1 : decide (need < 1) = true := decide_eq_true h1
      have e1 : decide (1 ≤ need) = false := decide_eq_false (by omega)
      rw [hm] at C
      clear hm hb hl
      go_enter Tryd.func13, Tryd.ntmps13
      go_wp2_with fail
      refine C.out.mono ?_
      rintro e w1 ⟨rfl, rfl⟩
      simp only [errIf, if_true]
      go_wp2_with fail
      go_ret2
      exact ⟨rfl, rfl⟩
    · have d1 : decide (need < 1) = false := decide_eq_false h1
      have e1 : decide (1 ≤ need) = true := decide_eq_true (by omega)
      by_cases h2 : (n : Int) < need
      · have d2 : decide ((n : Int) < need) = true := decide_eq_true h2
        have e2 : decide (need ≤ (n : Int)) = false := decide_eq_false (by omega)
        rw [hm] at C
        clear hm hb hl
        go_enter Tryd.func13, Tryd.ntmps13
        go_wp2_with fail
        refine C.out.mono ?_
        rintro e w1 ⟨rfl, rfl⟩
        simp only [errIf, if_true]
        go_wp2_with fail
        go_ret2
        exact ⟨rfl, rfl⟩
      · have d2 : decide ((n : Int) < need) = false := decide_eq_false h2
        have e2 : decide (need ≤ (n : Int)) = true := decide_eq_true (by omega)
        by_cases h3 : term < 1
        · have d3 : decide (term < 1) = true := decide_eq_true h3
          have e3 : decide (1 ≤ term) = false := decide_eq_false (by omega)
          rw [hm] at C
          clear hm hb hl
          go_enter Tryd.func13, Tryd.ntmps13
          go_wp2_with fail
          refine C.out.mono ?_
          rintro e w1 ⟨rfl, rfl⟩
          simp only [errIf, if_true]
          go_wp2_with fail
          go_ret2
          exact ⟨rfl, rfl⟩
        · have d3 : decide (term < 1) = false := decide_eq_false h3
          have e3 : decide (1 ≤ term) = true := decide_eq_true (by omega)
          by_cases h4 : 1000 < term
          · have d4 : decide (1000 < term) = true := decide_eq_true h4
            have e4 : decide (term ≤ 1000) = false := decide_eq_false (by omega)
            rw [hm] at C
            clear hm hb hl
            go_enter Tryd.func13, Tryd.ntmps13
            go_wp2_with fail
            refine C.out.mono ?_
            rintro e w1 ⟨rfl, rfl⟩
            simp only [errIf, if_true]
            go_wp2_with fail
            go_ret2
            exact ⟨rfl, rfl⟩
          · have d4 : decide (1000 < term) = false := decide_eq_false h4
            have e4 : decide (term ≤ 1000) = true := decide_eq_true (by omega)
            unfold mayT at hb
            rw [hm, hl, e1, e2, e3, e4] at hb
            cases hb
set_option maxRecDepth 100000 in
theorem rmay_any (hl : l.length = n) (hn : n ≤ 100) (ha : At w A (ints .i64 l)) :
    Calls Tryd.prog 14 #[.slice A n c, .int .i64 need, .int .i64 term] w fun e w' => e = .returned (.bool (mayT l need term)) ∧ Below w.heap.size w w' := by
  have C := Lib.hid (refMay_any A n c l w hl (by omega) ha)
  clear ha
  cases hm : SetM.may l with
  | false =>
    have hv : mayT l need term = false := by unfold mayT; rw [hm]; simp
    rw [hm] at C
    rw [hv]
    clear hm hl hv
    go_enter Tryd.func14, Tryd.ntmps14
    go_wp2_with fail
    refine C.out.mono ?_
    rintro e w1 ⟨rfl, bb⟩
    have BB := Lib.hid bb
    clear bb
    go_wp2_with fail
    go_ret
    exact ⟨rfl, BB.out⟩
  | true =>
    by_cases h1 : need < 1
    · have d1 : decide (need < 1) = true := decide_eq_true h1
      have e1 : decide (1 ≤ need) = false := decide_eq_false (by omega)
      have hv : mayT l need term = false := by unfold mayT; rw [hm, e1]; simp
      rw [hm] at C
      rw [hv]
      clear hm hl hv
      go_enter Tryd.func14, Tryd.ntmps14
      go_wp2_with fail
      refine C.out.mono ?_
      rintro e w1 ⟨rfl, bb⟩
      have BB := Lib.hid bb
      clear bb
      go_wp2_with fail
      go_ret
      exact ⟨rfl, BB.out⟩
    · have d1 : decide (need < 1) = false := decide_eq_false h1
      have e1 : decide (1 ≤ need) = true := decide_eq_true (by omega)
      by_cases h2 : (n : Int) < need
      · have d2 : decide ((n : Int) < need) = true := decide_eq_true h2
        have e2 : decide (need ≤ (n : Int)) = false := decide_eq_false (by omega)
        have hv : mayT l need term = false := by unfold mayT; rw [hm, hl, e1, e2]; simp
        rw [hm] at C
        rw [hv]
        clear hm hl hv
        go_enter Tryd.func14, Tryd.ntmps14
        go_wp2_with fail
        refine C.out.mono ?_
        rintro e w1 ⟨rfl, bb⟩
        have BB := Lib.hid bb
        clear bb
        go_wp2_with fail
        go_ret
        exact ⟨rfl, BB.out⟩
      · have d2 : decide ((n : Int) < need) = false := decide_eq_false h2
        have e2 : decide (need ≤ (n : Int)) = true := decide_eq_true (by omega)
        by_cases h3 : term < 1
        · have d3 : decide (term < 1) = true := decide_eq_true h3
          have e3 : decide (1 ≤ term) = false := decide_eq_false (by omega)
          have hv : mayT l need term = false := by unfold mayT; rw [hm, hl, e1, e2, e3]; simp
          rw [hm] at C
          rw [hv]
          clear hm hl hv
          go_enter Tryd.func14, Tryd.ntmps14
          go_wp2_with fail
          refine C.out.mono ?_
          rintro e w1 ⟨rfl, bb⟩
          have BB := Lib.hid bb
          clear bb
          go_wp2_with fail
          go_ret
          exact ⟨rfl, BB.out⟩
        · have d3 : decide (term < 1) = false := decide_eq_false h3
          have e3 : decide (1 ≤ term) = true := decide_eq_true (by omega)
          by_cases h4 : 1000 < term
          · have d4 : decide (1000 < term) = true := decide_eq_true h4
            have e4 : decide (term ≤ 1000) = false := decide_eq_false (by omega)
            have hv : mayT l need term = false := by unfold mayT; rw [hm, hl, e1, e2, e3, e4]; simp
            rw [hm] at C
            rw [hv]
            clear hm hl hv
            go_enter Tryd.func14, Tryd.ntmps14
            go_wp2_with fail
            refine C.out.mono ?_
            rintro e w1 ⟨rfl, bb⟩
            have BB := Lib.hid bb
            clear bb
            go_wp2_with fail
            go_ret
            exact ⟨rfl, BB.out⟩
          · have d4 : decide (1000 < term) = false := decide_eq_false h4
            have e4 : decide (term ≤ 1000) = true := decide_eq_true (by omega)
            have hv : mayT l need term = true := by unfold mayT; rw [hm, hl, e1, e2, e3, e4]; simp
            rw [hm] at C
            rw [hv]
            clear hm hl hv
            go_enter Tryd.func14, Tryd.ntmps14
            go_wp2_with fail
            refine C.out.mono ?_
            rintro e w1 ⟨rfl, bb⟩
            have BB := Lib.hid bb
            clear bb
            go_wp2_with fail
            go_ret
            exact ⟨rfl, BB.out⟩
end
end Go.Proofs.YtkpangeeldhjfaaDoor
