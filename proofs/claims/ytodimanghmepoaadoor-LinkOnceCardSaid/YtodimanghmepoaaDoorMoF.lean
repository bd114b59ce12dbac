/- Layer 19: the steps that come in. -/
import Derived.Test.YtodimanghmepoaaDoorMoA
import Derived.Test.YtodimanghmepoaaDoorOpen
import Derived.Deep.Slices
import Derived.Deep.Strs
namespace Go.Proofs.YtodimanghmepoaaDoor
open Go.RowKit Go.ChangeShapes Go.WideShapes Go.ChangeAt
section
variable {H : Type} {enc : TypeId × Value → H} {P : Program} {W : World}
theorem open_step3 {t s : TypeId} {f0 f1 f2 : Field} (ht : P.underlying t = some (.slice s)) (hs : P.underlying s = some (.struct #[f0, f1, f2])) (hsz : P.cellsOf s = 3)
    (o0 : f0.offset = 0) (o1 : f1.offset = 1) (o2 : f2.offset = 2) (h0 : P.underlying f0.type = some (.int .u8)) (h1 : P.underlying f1.type = some (.int .u8)) (h2 : P.underlying f2.type = some (.int .u8))
    (z0 : P.cellsOf f0.type = 1) (z1 : P.cellsOf f1.type = 1) (z2 : P.cellsOf f2.type = 1)
    {v : Value} {d : DataW H} {p : List MemPlace} {r : Reach} {b0 : Nat} (hv : Value.okWide P W r b0 t v) (h : DataW.Trod enc P W 0 (fun _ => true) true t v d p) :
    ∃ A n c, v = .slice A n c ∧ n ≤ c ∧ c ≤ maxLen ∧ ∀ i, i < n → StepL W A i := by
  obtain ⟨A, n, c, rfl⟩ := okWide_slice ht hv
  obtain ⟨fuel, hf⟩ := h
  rcases Deep.open_slice ht hf with ⟨hcs, _⟩ | ⟨ad, len, cap, m, fu, D, Pl, hcs, _, hl, hm, hmm, _, hi⟩
  · simp [Value.cells] at hcs
    obtain ⟨rfl, rfl, rfl⟩ := hcs
    exact ⟨none, 0, 0, rfl, Nat.le_refl _, by unfold maxLen; omega, fun i h => absurd h (Nat.not_lt_zero _)⟩
  · simp [Value.cells] at hcs
    obtain ⟨rfl, rfl, rfl⟩ := hcs
    simp only [if_true] at hmm
    refine ⟨_, n, c, rfl, hl, hm, fun i hin => ?_⟩
    obtain ⟨cs, hcs, htr⟩ := hi i (by omega)
    rw [hsz] at hcs
    obtain ⟨_, hlen, hcell⟩ := World.cells?_some hcs
    obtain ⟨y0, y1, y2, n', _, _, e0, e1, e2⟩ := Deep.trod_struct3 hs htr
    obtain ⟨c0, c1, c2, rfl⟩ : ∃ c0 c1 c2, cs = [c0, c1, c2] := by
      match cs, hlen with
      | [c0, c1, c2], _ => exact ⟨c0, c1, c2, rfl⟩
    rw [o0, z0] at e0
    rw [o1, z1] at e1
    rw [o2, z2] at e2
    simp at e0 e1 e2
    obtain ⟨K, ek, _, wk⟩ := DataW.trod_int h0 e0
    obtain ⟨T, et, _, wt⟩ := DataW.trod_int h1 e1
    obtain ⟨X, ex, _, wx⟩ := DataW.trod_int h2 e2
    simp at ek et ex
    subst ek; subst et; subst ex
    obtain ⟨K, rfl⟩ := Int.eq_ofNat_of_zero_le (wf_u8_bd _ wk).1
    obtain ⟨T, rfl⟩ := Int.eq_ofNat_of_zero_le (wf_u8_bd _ wt).1
    obtain ⟨X, rfl⟩ := Int.eq_ofNat_of_zero_le (wf_u8_bd _ wx).1
    have bk := Int.ofNat_lt.1 (wf_u8_bd _ wk).2
    have bt := Int.ofNat_lt.1 (wf_u8_bd _ wt).2
    have bx := Int.ofNat_lt.1 (wf_u8_bd _ wx).2
    have q0 := hcell 0 (by omega)
    have q1 := hcell 1 (by omega)
    have q2 := hcell 2 (by omega)
    obtain ⟨b, off, spot⟩ := ad
    have hspot : spot = none := by
      obtain ⟨cs', hcs', _⟩ := hi 0 (by omega)
      rw [hsz] at hcs'
      obtain ⟨_, hlen', hcell'⟩ := World.cells?_some hcs'
      have := hcell' 0 (by omega)
      rw [List.getElem?_eq_getElem (by omega)] at this
      simpa [Addr.add] using World.cell?_spot this
    subst hspot
    rw [addr_add, addr_add] at q0 q1 q2
    simp only [Nat.add_zero, List.getD_cons_zero, List.getD_cons_succ, List.getElem?_cons_zero, List.getElem?_cons_succ] at q0 q1 q2
    exact ⟨b, off, K, T, X, rfl, q0, q1, q2, bk, bt, bx⟩
end
end Go.Proofs.YtodimanghmepoaaDoor
