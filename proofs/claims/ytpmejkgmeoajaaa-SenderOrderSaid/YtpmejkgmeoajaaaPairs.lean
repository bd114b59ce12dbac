/- Slices of pairs of numbers that come in. -/
import Derived.Test.YtpmejkgmeoajaaaOpen
import Derived.Deep.Slices
namespace Go.Proofs.Ytpmejkgmeoajaaa
open Go.RowKit Go.ChangeShapes Go.WideShapes Go.ChangeAt

def prs (t : IntKind) (l : List (Int × Int)) : List Value := l.flatMap fun p => [.int t p.1, .int t p.2]
theorem prs_at {t : IntKind} : ∀ (l : List (Int × Int)) (i : Nat) (h : i < l.length), (prs t l)[i * 2]? = some (.int t l[i].1) ∧ (prs t l)[i * 2 + 1]? = some (.int t l[i].2)
  | [], i, h => by simp at h
  | p :: l, 0, _ => by simp [prs]
  | p :: l, i + 1, h => by
    have := prs_at (t := t) l i (by simpa using h)
    have e1 : (i + 1) * 2 = i * 2 + 1 + 1 := by omega
    have e2 : (i + 1) * 2 + 1 = i * 2 + 1 + 1 + 1 := by omega
    rw [e1]
    simpa [prs] using this
theorem At.pair {t : IntKind} {w : World} {A : Option Addr} {l : List (Int × Int)} (h : At w A (prs t l)) (i : Nat) (hi : i < l.length) :
    ∃ b o, A = some ⟨b, o, none⟩ ∧ w.cell? ⟨b, o + i * 2, none⟩ = some (.int t l[i].1) ∧ w.cell? ⟨b, o + i * 2 + 1, none⟩ = some (.int t l[i].2) := by
  obtain ⟨h1, h2⟩ := prs_at l i hi
  obtain ⟨b, o, e, hc⟩ := h _ _ h1
  obtain ⟨b', o', e', hc'⟩ := h _ _ h2
  subst e; injection e' with e'; injection e' with a1 a2; subst a1; subst a2
  exact ⟨b, o, rfl, hc, hc'⟩
theorem prs_length {k : IntKind} : ∀ l : List (Int × Int), (prs k l).length = l.length * 2
  | [] => rfl
  | p :: l => by have := prs_length (k := k) l; simp [prs] at this ⊢; omega
variable {H : Type} {enc : TypeId × Value → H} {P : Program} {W : World}
theorem At.of_pairs {k : IntKind} {b o : Nat} {l : List (Int × Int)} (h : ∀ i (hi : i < l.length), W.cell? ⟨b, o + i * 2, none⟩ = some (.int k l[i].1) ∧ W.cell? ⟨b, o + i * 2 + 1, none⟩ = some (.int k l[i].2)) : At W (some ⟨b, o, none⟩) (prs k l) := by
  intro j x hx
  have hj : j < (prs k l).length := by
    rcases Nat.lt_or_ge j (prs k l).length with h | h
    · exact h
    · rw [List.getElem?_eq_none h] at hx; cases hx
  rw [prs_length] at hj
  have hi : j / 2 < l.length := by omega
  have hp := prs_at (t := k) l (j / 2) hi
  have hc := h (j / 2) hi
  refine ⟨b, o, rfl, ?_⟩
  rcases Nat.mod_two_eq_zero_or_one j with e | e
  · have ej : j = j / 2 * 2 := by omega
    rw [ej] at hx ⊢
    rw [hp.1] at hx
    rw [hc.1, ← hx]
  · have ej : j = j / 2 * 2 + 1 := by omega
    rw [ej] at hx ⊢
    rw [hp.2] at hx
    rw [← Nat.add_assoc, hc.2, ← hx]
/-- a slice of arrays of two numbers that came in -/
theorem open_pairs {t a e : TypeId} {k : IntKind} (ht : P.underlying t = some (.slice a)) (ha : P.underlying a = some (.array 2 e)) (he : P.underlying e = some (.int k)) (hc : P.cellsOf e = 1) (hca : P.cellsOf a = 2)
    {v : Value} {d : DataW H} {p : List MemPlace} {r : Reach} {b0 : Nat} (hv : Value.okWide P W r b0 t v) (h : DataW.Trod enc P W 0 (fun _ => true) true t v d p) :
    ∃ A n c l, v = .slice A n c ∧ l.length = n ∧ n ≤ c ∧ c ≤ maxLen ∧ At W A (prs k l) ∧ (∀ p ∈ l, (Lit.int k p.1).wf = true ∧ (Lit.int k p.2).wf = true) := by
  obtain ⟨A, n, c, rfl⟩ := okWide_slice ht hv
  obtain ⟨fuel, hf⟩ := h
  rcases Deep.open_slice ht hf with ⟨hcs, _⟩ | ⟨ad, len, cap, m, fu, D, Pl, hcs, _, hl, hm, hmm, _, hi⟩
  · simp [Value.cells] at hcs
    obtain ⟨rfl, rfl, rfl⟩ := hcs
    exact ⟨none, 0, 0, [], rfl, rfl, Nat.le_refl _, by unfold maxLen; omega, by simp [prs]; exact At.nil _ _, by simp⟩
  · simp [Value.cells] at hcs
    obtain ⟨rfl, rfl, rfl⟩ := hcs
    simp only [if_true] at hmm
    have key : ∀ i, i < n → ∃ q : Int × Int, W.cell? (ad.add (i * 2)) = some (.int k q.1) ∧ W.cell? ((ad.add (i * 2)).add 1) = some (.int k q.2) ∧ (Lit.int k q.1).wf = true ∧ (Lit.int k q.2).wf = true := by
      intro i hin
      obtain ⟨cs, hcs, htr⟩ := hi i (by omega)
      rw [hca] at hcs
      obtain ⟨_, hlen, hcell⟩ := World.cells?_some hcs
      obtain ⟨xs, m', _, _, _, hxs, hel⟩ := DataW.trod_array ha htr
      obtain ⟨c0, c1, rfl⟩ : ∃ c0 c1, cs = [c0, c1] := by
        match cs, hlen with
        | [c0, c1], _ => exact ⟨c0, c1, rfl⟩
      have h0 := hel 0 (by omega)
      have h1 := hel 1 (by omega)
      obtain ⟨x0, h0x⟩ : ∃ x0, xs[0]? = some x0 := ⟨xs[0], by simp [hxs]⟩
      obtain ⟨x1, h1x⟩ : ∃ x1, xs[1]? = some x1 := ⟨xs[1], by simp [hxs]⟩
      rw [h0x] at h0
      rw [h1x] at h1
      simp [hc] at h0 h1
      obtain ⟨x, ex, _, wx⟩ := DataW.trod_int he h0
      obtain ⟨y, ey, _, wy⟩ := DataW.trod_int he h1
      simp at ex ey
      subst ex; subst ey
      have q0 := hcell 0 (by omega)
      have q1 := hcell 1 (by omega)
      simp [Addr.add] at q0
      exact ⟨(x, y), by simpa [Addr.add] using q0, by simpa using q1, wx, wy⟩
    obtain ⟨f, hf⟩ := Deep.choose_lt key
    obtain ⟨b, off, spot⟩ := ad
    refine ⟨_, n, c, (List.range n).map f, rfl, by simp, hl, hm, ?_, ?_⟩
    · by_cases h0 : n = 0
      · subst h0; simp [prs]; exact At.nil _ _
      · have hspot : spot = none := by simpa [Addr.add] using World.cell?_spot (hf 0 (by omega)).1
        subst hspot
        refine At.of_pairs fun i hi => ?_
        have := hf i (by simpa using hi)
        rw [addr_add, addr_add] at this
        simpa using ⟨this.1, this.2.1⟩
    · intro p hp
      simp at hp
      obtain ⟨i, hi, rfl⟩ := hp
      exact (hf i hi).2.2
end Go.Proofs.Ytpmejkgmeoajaaa
