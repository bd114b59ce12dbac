/- Slices of numbers of any kind that come in. -/
import Derived.Test.YtkpangeeldhjfaaDoorOpen
import Derived.Test.YtkpangeeldhjfaaDoorQSetA
namespace Go.Proofs.YtkpangeeldhjfaaDoor
open Go.RowKit Go.ChangeShapes Go.WideShapes Go.ChangeAt
variable {H : Type} {enc : TypeId × Value → H} {P : Program} {W : World}
theorem open_intz {t e : TypeId} {k : IntKind} (ht : P.underlying t = some (.slice e)) (he : P.underlying e = some (.int k)) (hc : P.cellsOf e = 1)
    {v : Value} {d : DataW H} {p : List MemPlace} {r : Reach} {b0 : Nat} (hv : Value.okWide P W r b0 t v) (h : DataW.Trod enc P W 0 (fun _ => true) true t v d p) :
    ∃ A n c l, v = .slice A n c ∧ l.length = n ∧ n ≤ c ∧ c ≤ maxLen ∧ At W A (ints k l) ∧ (∀ x ∈ l, (Lit.int k x).wf = true) := by
  obtain ⟨A, n, c, rfl⟩ := okWide_slice ht hv
  obtain ⟨fuel, hf⟩ := h
  rcases open_ints ht he hc hf with ⟨hcs, _⟩ | ⟨a, len, cap, zs, hcs, _, hl, hm, hz, hx, hcell, hwz⟩
  · simp [Value.cells] at hcs
    obtain ⟨rfl, rfl, rfl⟩ := hcs
    exact ⟨none, 0, 0, [], rfl, rfl, Nat.le_refl _, by unfold maxLen; omega, At.nil _ _, by simp⟩
  · simp [Value.cells] at hcs
    obtain ⟨rfl, rfl, rfl⟩ := hcs
    simp only [if_true] at hz
    have hlen : (zs.take n).length = n := by simp; omega
    refine ⟨_, n, c, zs.take n, rfl, hlen, hl, hm, ?_, fun x hx => hwz x (List.mem_of_mem_take hx)⟩
    intro i x hx
    have hi : i < n := by
      rcases Nat.lt_or_ge i n with h | h
      · exact h
      · rw [List.getElem?_eq_none (by rw [ints_length, hlen]; exact h)] at hx; cases hx
    have hiz : i < zs.length := by omega
    have hx' : x = .int k (zs[i]) := by
      simp [ints, List.getElem?_take, hi, List.getElem?_eq_getElem hiz] at hx
      exact hx.symm
    have h1 := hcell i hiz
    obtain ⟨b, off, spot⟩ := a
    have hspot : spot = none := by simpa [Addr.add] using World.cell?_spot (hcell 0 (by omega))
    subst hspot
    rw [addr_add] at h1
    refine ⟨b, off, rfl, ?_⟩
    rw [h1, hx']
    simp [List.getD_eq_getElem?_getD, List.getElem?_eq_getElem hiz]
end Go.Proofs.YtkpangeeldhjfaaDoor
