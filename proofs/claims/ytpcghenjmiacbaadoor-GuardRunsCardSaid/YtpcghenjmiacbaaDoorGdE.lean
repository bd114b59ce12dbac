/- Openers: a slice of slices of numbers, two slices of numbers in an array. -/
import Derived.Test.YtpcghenjmiacbaaDoorOpenI
import Derived.Deep.Slices
namespace Go.Proofs.YtpcghenjmiacbaaDoor
open Go.RowKit Go.ChangeShapes Go.WideShapes Go.ChangeAt
variable {H : Type} {enc : TypeId × Value → H} {P : Program} {W : World}
theorem At.none_ints {w : World} {A : Option Addr} {k : IntKind} {l : List Int} (h : At w A (ints k l)) (e : A = none) : l.length = 0 := by
  rcases Nat.eq_zero_or_pos l.length with h0 | h0
  · exact h0
  · obtain ⟨b, o, e2, _⟩ := h.int 0 h0
    rw [e] at e2; cases e2
/-- a slice of numbers that stands in a cell -/
theorem cell_intz {t e : TypeId} {k : IntKind} (ht : P.underlying t = some (.slice e)) (he : P.underlying e = some (.int k)) (hc : P.cellsOf e = 1)
    {fuel : Nat} {v : Value} {x : DataW H × List MemPlace} (h : DataW.trod enc P W 0 (fun _ => true) true fuel t [v] = some x) :
    ∃ A n c l, v = .slice A n c ∧ l.length = n ∧ n ≤ c ∧ c ≤ maxLen ∧ At W A (ints k l) ∧ (A = none → n = 0) := by
  rcases open_ints ht he hc h with ⟨hcs, _⟩ | ⟨a, len, cap, zs, hcs, _, hl, hm, hz, hx, hcell, hwz⟩
  · simp at hcs
    subst hcs
    exact ⟨none, 0, 0, [], rfl, rfl, Nat.le_refl _, by unfold maxLen; omega, At.nil _ _, fun _ => rfl⟩
  · simp at hcs
    subst hcs
    simp only [if_true] at hz
    have hlen : (zs.take len).length = len := by simp; omega
    refine ⟨_, len, cap, zs.take len, rfl, hlen, hl, hm, ?_, by simp⟩
    intro i x hx
    have hi : i < len := by
      rcases Nat.lt_or_ge i len with h | h
      · exact h
      · rw [List.getElem?_eq_none (by rw [ints_length, hlen]; exact h)] at hx; cases hx
    have hiz : i < zs.length := by omega
    have hx' : x = .int k (zs[i]) := by
      simp [ints, List.getElem?_take, hi, List.getElem?_eq_getElem hiz] at hx
      exact hx.symm
    have h1 := hcell i hiz
    obtain ⟨b, off, spot⟩ := a
    have hspot : spot = none := by simpa [Addr.add] using World.cell?_spot (hcell 0 (by omega))
    subst hspot
    rw [addr_add] at h1
    refine ⟨b, off, rfl, ?_⟩
    rw [h1, hx']
    simp [List.getD_eq_getElem?_getD, List.getElem?_eq_getElem hiz]
/-- a place's slice of numbers -/
def RowAt (W : World) (k : IntKind) (A : Option Addr) (i : Nat) : Prop :=
  ∃ b o A' n' c' l', A = some ⟨b, o, none⟩ ∧ W.cell? ⟨b, o + i, none⟩ = some (.slice A' n' c') ∧ List.length (α := Int) l' = n' ∧ n' ≤ maxLen ∧ At W A' (ints k l') ∧ (A' = none → n' = 0)
theorem open_rowsI {t a e : TypeId} {k : IntKind} (ht : P.underlying t = some (.slice a)) (ha : P.underlying a = some (.slice e)) (he : P.underlying e = some (.int k)) (hc : P.cellsOf e = 1) (hca : P.cellsOf a = 1)
    {v : Value} {d : DataW H} {p : List MemPlace} {r : Reach} {b0 : Nat} (hv : Value.okWide P W r b0 t v) (h : DataW.Trod enc P W 0 (fun _ => true) true t v d p) :
    ∃ A n c, v = .slice A n c ∧ n ≤ c ∧ c ≤ maxLen ∧ ∀ i, i < n → RowAt W k A i := by
  obtain ⟨A, n, c, rfl⟩ := okWide_slice ht hv
  obtain ⟨fuel, hf⟩ := h
  rcases Deep.open_slice1 ht hca hf with ⟨hcs, _⟩ | ⟨ad, len, cap, m', fu, V, D, Pl, hcs, _, hl, hm, hmm, _, hi⟩
  · simp [Value.cells] at hcs
    obtain ⟨rfl, rfl, rfl⟩ := hcs
    exact ⟨none, 0, 0, rfl, Nat.le_refl _, by unfold maxLen; omega, fun i h => absurd h (Nat.not_lt_zero _)⟩
  · simp [Value.cells] at hcs
    obtain ⟨rfl, rfl, rfl⟩ := hcs
    simp only [if_true] at hmm
    refine ⟨_, n, c, rfl, hl, hm, fun i hin => ?_⟩
    obtain ⟨A1, n1, c1, l1, e1, h1, h2, h3, h4, h5⟩ := cell_intz ha he hc (hi i (by omega)).2
    obtain ⟨b, off, spot⟩ := ad
    have hspot : spot = none := by simpa [Addr.add] using World.cell?_spot (hi 0 (by omega)).1
    subst hspot
    have := (hi i (by omega)).1
    rw [addr_add, e1] at this
    exact ⟨b, off, A1, n1, c1, l1, rfl, this, h1, by omega, h4, h5⟩
/-- two slices of numbers by value -/
theorem open_pairI {t a e : TypeId} {k : IntKind} (ht : P.underlying t = some (.array 2 a)) (ha : P.underlying a = some (.slice e)) (he : P.underlying e = some (.int k)) (hc : P.cellsOf e = 1) (hca : P.cellsOf a = 1) (hct : P.cellsOf t = 2)
    {v : Value} {d : DataW H} {p : List MemPlace} {r : Reach} {b0 : Nat} (hv : Value.okWide P W r b0 t v) (h : DataW.Trod enc P W 0 (fun _ => true) true t v d p) :
    ∃ A n c l A' n' c' l', v = .agg #[.slice A n c, .slice A' n' c'] ∧ List.length (α := Int) l = n ∧ List.length (α := Int) l' = n' ∧ n ≤ maxLen ∧ n' ≤ maxLen ∧ At W A (ints k l) ∧ At W A' (ints k l') ∧ (A = none → n = 0) ∧ (A' = none → n' = 0) := by
  obtain ⟨fuel, hf⟩ := h
  obtain ⟨xs, fu, rfl, hx, hlen, hxs, hi⟩ := DataW.trod_array ht hf
  simp only [Value.okWide, ht] at hv
  obtain ⟨cs, rfl, hsz, _⟩ := hv
  rw [hct] at hsz
  have key : ∀ i, i < 2 → ∃ A n c l, cs[i]? = some (.slice A n c) ∧ List.length (α := Int) l = n ∧ n ≤ maxLen ∧ At W A (ints k l) ∧ (A = none → n = 0) := by
    intro i hin
    obtain ⟨x, hxi⟩ : ∃ x, xs[i]? = some x := ⟨xs[i], by simp [hxs, hin]⟩
    have h0 := hi i hin
    rw [hxi] at h0
    simp only [Value.cells, hca, Nat.mul_one] at h0
    have hcs : (cs.toList.drop i).take 1 = [cs[i]] := by
      rw [List.drop_eq_getElem_cons (by simpa using (by omega : i < cs.size))]
      simp
    rw [hcs] at h0
    obtain ⟨A1, n1, c1, l1, e1, h1, h2, h3, h4, h5⟩ := cell_intz ha he hc h0
    exact ⟨A1, n1, c1, l1, by rw [← e1]; simp [hsz, hin], h1, by omega, h4, h5⟩
  obtain ⟨A, n, c, l, q1, q2, q3, q4, q5⟩ := key 0 (by decide)
  obtain ⟨A', n', c', l', u1, u2, u3, u4, u5⟩ := key 1 (by decide)
  refine ⟨A, n, c, l, A', n', c', l', ?_, q2, u2, q3, u3, q4, u4, q5, u5⟩
  congr 1
  apply Array.ext
  · simp [hsz]
  · intro i h1 h2
    have hi2 : i < 2 := by omega
    rcases Nat.lt_or_ge i 1 with h | h
    · have : i = 0 := by omega
      subst this
      rw [Array.getElem?_eq_getElem h1] at q1; injection q1
    · have : i = 1 := by omega
      subst this
      rw [Array.getElem?_eq_getElem h1] at u1; injection u1
end Go.Proofs.YtpcghenjmiacbaaDoor
