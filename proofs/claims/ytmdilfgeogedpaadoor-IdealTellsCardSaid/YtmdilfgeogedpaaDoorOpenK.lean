/- A struct of a slice of numbers and two slices of rows that comes in (Ask of layer 37). -/
import Derived.Test.YtmdilfgeogedpaaDoorOpenT
import Derived.Test.YtmdilfgeogedpaaDoorISetA
namespace Go.Proofs.YtmdilfgeogedpaaDoor
open Go.RowKit Go.ChangeShapes Go.WideShapes Go.ChangeAt
variable {H : Type} {enc : TypeId × Value → H} {P : Program} {W : World}
theorem cell_intz {t e : TypeId} {k : IntKind} (ht : P.underlying t = some (.slice e)) (he : P.underlying e = some (.int k)) (hc : P.cellsOf e = 1)
    {fuel : Nat} {v : Value} {x : DataW H × List MemPlace} (h : DataW.trod enc P W 0 (fun _ => true) true fuel t [v] = some x) :
    ∃ A n c l, v = .slice A n c ∧ l.length = n ∧ n ≤ c ∧ c ≤ maxLen ∧ At W A (ints k l) := by
  rcases open_ints ht he hc h with ⟨hcs, _⟩ | ⟨a, len, cap, zs, hcs, _, hl, hm, hz, hx, hcell, hwz⟩
  · simp at hcs
    subst hcs
    exact ⟨none, 0, 0, [], rfl, rfl, Nat.le_refl _, by unfold maxLen; omega, At.nil _ _⟩
  · simp at hcs
    subst hcs
    simp only [if_true] at hz
    have hlen : (zs.take len).length = len := by simp; omega
    refine ⟨_, len, cap, zs.take len, rfl, hlen, hl, hm, ?_⟩
    intro i x hx
    have hi : i < len := by
      rcases Nat.lt_or_ge i len with h | h
      · exact h
      · rw [List.getElem?_eq_none (by rw [ints_length, hlen]; exact h)] at hx; cases hx
    have hiz : i < zs.length := by omega
    have hx' : x = .int k (zs[i]) := by
      simp [ints, List.getElem?_take, hi, List.getElem?_eq_getElem hiz] at hx
      exact hx.symm
    have h1 := hcell i hiz
    obtain ⟨b, off, spot⟩ := a
    have hspot : spot = none := by simpa [Addr.add] using World.cell?_spot (hcell 0 (by omega))
    subst hspot
    rw [addr_add] at h1
    refine ⟨b, off, rfl, ?_⟩
    rw [h1, hx']
    simp [List.getD_eq_getElem?_getD, List.getElem?_eq_getElem hiz]
theorem open_ask {tt ti ei t a e : TypeId} {k : IntKind} {m : Nat} {f0 f1 f2 : Field} (hk : ∀ n : Int, (Lit.int k n).wf = true → 0 ≤ n ∧ n < m) (htt : P.underlying tt = some (.struct #[f0, f1, f2])) (hsz : P.cellsOf tt = 3) (o0 : f0.offset = 0) (o1 : f1.offset = 1) (o2 : f2.offset = 2) (y0 : f0.type = ti) (y1 : f1.type = t) (y2 : f2.type = t)
    (hti : P.underlying ti = some (.slice ei)) (hei : P.underlying ei = some (.int .i64)) (hci : P.cellsOf ei = 1) (hcti : P.cellsOf ti = 1)
    (ht : P.underlying t = some (.slice a)) (ha : P.underlying a = some (.slice e)) (he : P.underlying e = some (.int k)) (hct : P.cellsOf t = 1) (hca : P.cellsOf a = 1) (hc : P.cellsOf e = 1)
    {v : Value} {d : DataW H} {p : List MemPlace} {r : Reach} {b0 : Nat} (hv : Value.okWide P W r b0 tt v) (h : DataW.Trod enc P W 0 (fun _ => true) true tt v d p) :
    ∃ (A : Option Addr) (n c : Nat) (l : List Int) (B : Option Addr) (p q : Nat) (vs : List Value) (rs : List (List Nat)) (C : Option Addr) (s t : Nat) (us : List Value) (os : List (List Nat)), v = .agg #[.slice A n c, .slice B p q, .slice C s t] ∧ l.length = n ∧ n ≤ c ∧ c ≤ maxLen ∧ At W A (ints .i64 l) ∧
      rs.length = p ∧ p ≤ q ∧ q ≤ maxLen ∧ Rows_ W k B vs rs ∧ (∀ b ∈ rs, ∀ i, b.getD i 0 < max m 1) ∧ os.length = s ∧ s ≤ t ∧ t ≤ maxLen ∧ Rows_ W k C us os ∧ (∀ b ∈ os, ∀ i, b.getD i 0 < max m 1) := by
  obtain ⟨fuel, hf⟩ := h
  obtain ⟨xs, q, _, hx, hlen0, hxs, hi⟩ := DataW.trod_struct htt hf
  simp only [Value.okWide, htt] at hv
  obtain ⟨cs, rfl, hcsz, _⟩ := hv
  have hcs3 : cs.size = 3 := by simpa [hsz, Value.cells] using hlen0
  obtain ⟨c0, c1, c2, rfl⟩ : ∃ c0 c1 c2, cs = #[c0, c1, c2] := by
    obtain ⟨l⟩ := cs
    match l, hcs3 with
    | [c0, c1, c2], _ => exact ⟨c0, c1, c2, rfl⟩
  have e0 := hi 0 f0 rfl
  have e1 := hi 1 f1 rfl
  have e2 := hi 2 f2 rfl
  match xs, hxs with
  | [x0, x1, x2], _ =>
    simp [Value.cells, o0, y0, hcti] at e0
    simp [Value.cells, o1, y1, hct] at e1
    simp [Value.cells, o2, y2, hct] at e2
    obtain ⟨A, n, c, l, rfl, h1, h2, h3, h4⟩ := cell_intz hti hei hci e0
    obtain ⟨B, p, q, vs, rs, rfl, g1, g2, g3, g4, _, g6⟩ := cell_rows hk ht ha he hca hc e1
    obtain ⟨C, s, t, us, os, rfl, i1, i2, i3, i4, _, i6⟩ := cell_rows hk ht ha he hca hc e2
    exact ⟨A, n, c, l, B, p, q, vs, rs, C, s, t, us, os, rfl, h1, h2, h3, h4, g1, g2, g3, g4, g6, i1, i2, i3, i4, i6⟩
end Go.Proofs.YtmdilfgeogedpaaDoor
