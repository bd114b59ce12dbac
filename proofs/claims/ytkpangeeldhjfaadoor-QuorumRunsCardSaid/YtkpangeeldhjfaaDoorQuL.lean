/- Layer 23: plain law of QuorumRuns: those that came, and those that are gone, are apart. -/
import Derived.Test.YtkpangeeldhjfaaDoorQuK
namespace Go.Proofs.YtkpangeeldhjfaaDoor
open Go.RowKit
theorem count_put (v y : Nat) : ∀ n, (SetM.elemsTo (v ||| 2 ^ y) n).length ≤ (SetM.elemsTo v n).length + (if y < n then 1 else 0) := by
  intro n
  induction n with
  | zero => simp [SetM.elemsTo]
  | succ k ih =>
    rw [SetM.elemsTo_succ, SetM.elemsTo_succ]
    simp only [List.length_append]
    have hb : (v ||| 2 ^ y).testBit k = (v.testBit k || decide (y = k)) := by
      rw [Nat.testBit_or, Nat.testBit_two_pow]
    rw [hb]
    by_cases hy : y = k
    · subst hy
      simp only [Nat.lt_irrefl, if_false, Nat.lt_succ_self, if_true, decide_true, Bool.or_true] at ih ⊢
      split <;> simp <;> omega
    · rw [decide_eq_false hy, Bool.or_false]
      by_cases h1 : y < k
      · rw [if_pos h1] at ih; rw [if_pos (show y < k + 1 by omega)]; omega
      · rw [if_neg h1] at ih; rw [if_neg (show ¬ y < k + 1 by omega)]; omega
theorem count_bits_rev (l : List Int) : (SetM.elems (SetM.bitsOf l.reverse)).length ≤ l.length := by
  induction l with
  | nil => decide
  | cons x t ih =>
    rw [List.reverse_cons, SetM.bitsOf_snoc]
    unfold SetM.put
    split
    · have := count_put (SetM.bitsOf t.reverse) x.toNat 64
      unfold SetM.elems at ih ⊢
      simp only [List.length_cons]
      split at this <;> omega
    · simp only [List.length_cons]; omega
theorem count_bits (l : List Int) : (SetM.elems (SetM.bitsOf l)).length ≤ l.length := by
  have := count_bits_rev l.reverse
  rw [List.reverse_reverse, List.length_reverse] at this
  exact this
/-- those that came, and those that are gone: some of who, and nobody twice -/
structure Ap (who inn gone : List Int) : Prop where
  inw : InW who inn
  gnw : InW who gone
  apart : ∀ i, ¬ ((SetM.bitsOf inn).testBit i = true ∧ (SetM.bitsOf gone).testBit i = true)
theorem Ap.nil (who : List Int) : Ap who [] [] := ⟨InW.nil _, InW.nil _, fun i h => by simp [SetM.bitsOf] at h⟩
theorem Ap.count {who inn gone : List Int} (h : Ap who inn gone) : inn.length + gone.length ≤ who.length := by
  have key : ∀ n, (SetM.elemsTo (SetM.bitsOf inn) n).length + (SetM.elemsTo (SetM.bitsOf gone) n).length ≤ (SetM.elemsTo (SetM.bitsOf who) n).length := by
    intro n
    induction n with
    | zero => simp [SetM.elemsTo]
    | succ k ih =>
      rw [SetM.elemsTo_succ, SetM.elemsTo_succ, SetM.elemsTo_succ]
      have h1 := h.inw.sub k
      have h2 := h.gnw.sub k
      have h3 := h.apart k
      simp only [List.length_append]
      cases e1 : (SetM.bitsOf inn).testBit k <;> cases e2 : (SetM.bitsOf gone).testBit k <;> cases e3 : (SetM.bitsOf who).testBit k <;> simp [e1, e2, e3] at h1 h2 h3 ⊢ <;> omega
  have h64 := key 64
  have e1 : SetM.elemsTo (SetM.bitsOf inn) 64 = inn := h.inw.set
  have e2 : SetM.elemsTo (SetM.bitsOf gone) 64 = gone := h.gnw.set
  rw [e1, e2] at h64
  exact Nat.le_trans h64 (count_bits who)
theorem qput_bit (l : List Int) (id : Int) (i : Nat) : (SetM.bitsOf (qput l id)).testBit i = ((SetM.bitsOf l).testBit i || (SetM.bitsOf [id]).testBit i) := by
  unfold qput
  rw [SetM.bitsOf_elems (SetM.op_lt 0 (SetM.bitsOf_lt l) (SetM.bitsOf_lt [id])), SetM.op_testBit 0 (SetM.bitsOf_lt l) (SetM.bitsOf_lt [id])]
  simp [SetM.opb]
theorem one_bit {id : Int} {i : Nat} (h : (SetM.bitsOf [id]).testBit i = true) : id = (i : Int) ∧ i < 64 := by
  rw [SetM.bitsOf_testBit] at h
  simp at h
  exact ⟨h.2.symm, h.1⟩
/-- one that can come, or be gone, is in neither -/
theorem canS_zero {who inn gone : List Int} {s id : Int} (h : canS s who inn gone id = 0) : s = 0 ∧ SetM.has who id = true ∧ SetM.has inn id = false ∧ SetM.has gone id = false := by
  unfold canS at h
  by_cases h1 : s ≠ 0
  · rw [if_pos h1] at h; cases h
  · rw [if_neg h1] at h
    refine ⟨by simpa using h1, ?_⟩
    cases h2 : SetM.has who id <;> cases h3 : SetM.has inn id <;> cases h4 : SetM.has gone id <;> simp [h2, h3, h4] at h ⊢
theorem Ap.came {who inn gone : List Int} {id : Int} (h : Ap who inn gone) (h1 : SetM.has who id = true) (h2 : SetM.has gone id = false) : Ap who (qput inn id) gone := by
  refine ⟨h.inw.put h1, h.gnw, fun i hi => ?_⟩
  rw [qput_bit, Bool.or_eq_true] at hi
  rcases hi.1 with h3 | h3
  · exact h.apart i ⟨h3, hi.2⟩
  · obtain ⟨rfl, hlt⟩ := one_bit h3
    rw [SetM.has_nat gone i hlt] at h2
    rw [h2] at hi
    exact absurd hi.2 (by simp)
theorem Ap.gone {who inn gone : List Int} {id : Int} (h : Ap who inn gone) (h1 : SetM.has who id = true) (h2 : SetM.has inn id = false) : Ap who inn (qput gone id) := by
  refine ⟨h.inw, h.gnw.put h1, fun i hi => ?_⟩
  rw [qput_bit, Bool.or_eq_true] at hi
  rcases hi.2 with h3 | h3
  · exact h.apart i ⟨hi.1, h3⟩
  · obtain ⟨rfl, hlt⟩ := one_bit h3
    rw [SetM.has_nat inn i hlt] at h2
    rw [h2] at hi
    exact absurd hi.1 (by simp)
end Go.Proofs.YtkpangeeldhjfaaDoor
