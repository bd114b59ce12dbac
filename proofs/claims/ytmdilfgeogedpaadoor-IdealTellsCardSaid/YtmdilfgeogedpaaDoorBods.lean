/- Slices of slices of numbers that come in. -/
import Derived.Test.YtmdilfgeogedpaaDoorOpen
import Derived.Deep.Slices
namespace Go.Proofs.YtmdilfgeogedpaaDoor
open Go.RowKit Go.ChangeShapes Go.WideShapes Go.ChangeAt

/-- a slice of slices of numbers -/
structure Rows_ (w : World) (k : IntKind) (A : Option Addr) (vs : List Value) (l : List (List Nat)) : Prop where
  at_ : At w A vs
  len : vs.length = l.length
  each : ∀ (i : Nat) (v : Value) (b : List Nat), vs[i]? = some v → l[i]? = some b → ∃ A1 c1, v = .slice A1 b.length c1 ∧ At w A1 (nats k b) ∧ (A1 = none → b.length = 0) ∧ b.length ≤ c1 ∧ c1 ≤ maxLen
abbrev Bods (w : World) (A : Option Addr) (vs : List Value) (l : List (List Nat)) : Prop := Rows_ w .u8 A vs l
section
variable {w w' : World} {k : IntKind} {A : Option Addr} {vs : List Value} {l : List (List Nat)}
theorem Rows_.get (h : Rows_ w k A vs l) (i : Nat) (hi : i < l.length) :
    ∃ b o A1 c1, A = some ⟨b, o, none⟩ ∧ w.cell? ⟨b, o + i, none⟩ = some (.slice A1 (l.getD i []).length c1) ∧ At w A1 (nats k (l.getD i [])) ∧ (A1 = none → (l.getD i []).length = 0) ∧ (l.getD i []).length ≤ c1 ∧ c1 ≤ maxLen ∧ b < w.heap.size := by
  have hv : i < vs.length := by rw [h.len]; exact hi
  obtain ⟨b, o, e, hc⟩ := h.at_ i _ (List.getElem?_eq_getElem hv)
  obtain ⟨A1, c1, e1, h2, h3, h4, h5⟩ := h.each i _ _ (List.getElem?_eq_getElem hv) (List.getElem?_eq_getElem hi)
  rw [e1] at hc
  have : l.getD i [] = l[i] := by simp [List.getD_eq_getElem?_getD, List.getElem?_eq_getElem hi]
  rw [this]
  refine ⟨b, o, A1, c1, e, hc, h2, h3, h4, h5, ?_⟩
  have h6 := At.lt h.at_ (by intro e0; rw [e0] at hv; simp at hv) b (by subst e; rfl)
  exact h6
theorem Rows_.later {B : Nat} (h : Rows_ w k A vs l) (hb : Below B w w') (hB : w.heap.size ≤ B) : Rows_ w' k A vs l where
  at_ := h.at_.later hb hB
  len := h.len
  each := fun i v b h1 h2 => by
    obtain ⟨A1, c1, e1, h2, h3, h4⟩ := h.each i v b h1 h2
    exact ⟨A1, c1, e1, h2.later hb hB, h3, h4⟩
end
variable {H : Type} {enc : TypeId × Value → H} {P : Program} {W : World}
/-- a slice of numbers that stands in a cell -/
theorem cell_nats {t e : TypeId} {k : IntKind} {m : Nat} (hk : ∀ n : Int, (Lit.int k n).wf = true → 0 ≤ n ∧ n < m) (ht : P.underlying t = some (.slice e)) (he : P.underlying e = some (.int k)) (hc : P.cellsOf e = 1)
    {fuel : Nat} {v : Value} {x : DataW H × List MemPlace} (h : DataW.trod enc P W 0 (fun _ => true) true fuel t [v] = some x) :
    ∃ A n c l, v = .slice A n c ∧ l.length = n ∧ n ≤ c ∧ c ≤ maxLen ∧ At W A (nats k l) ∧ (A = none → n = 0) ∧ (∀ i, l.getD i 0 < max m 1) := by
  rcases open_ints ht he hc h with ⟨hcs, _⟩ | ⟨a, len, cap, zs, hcs, _, hl, hm, hz, hx, hcell, hwz⟩
  · simp at hcs
    subst hcs
    exact ⟨none, 0, 0, [], rfl, rfl, Nat.le_refl _, by unfold maxLen; omega, by simp [nats]; exact At.nil _ _, fun _ => rfl, by simp; omega⟩
  · simp at hcs
    subst hcs
    simp only [if_true] at hz
    have hlen : ((zs.take len).map Int.toNat).length = len := by simp; omega
    refine ⟨_, len, cap, (zs.take len).map Int.toNat, rfl, hlen, hl, hm, ?_, by simp, ?_⟩
    · intro i x hx
      have hi : i < len := by
        rcases Nat.lt_or_ge i len with h | h
        · exact h
        · rw [List.getElem?_eq_none (by rw [nats_length, hlen]; exact h)] at hx; cases hx
      have hiz : i < zs.length := by omega
      have hx' : x = .int k (zs[i]) := by
        have hb := hk _ (hwz zs[i] (List.getElem_mem hiz))
        simp [nats, List.getElem?_take, hi, List.getElem?_eq_getElem hiz] at hx
        rw [← hx]; congr 1; omega
      have h1 := hcell i hiz
      obtain ⟨b, off, spot⟩ := a
      have hspot : spot = none := by simpa [Addr.add] using World.cell?_spot (hcell 0 (by omega))
      subst hspot
      rw [addr_add] at h1
      refine ⟨b, off, rfl, ?_⟩
      rw [h1, hx']
      simp [List.getD_eq_getElem?_getD, List.getElem?_eq_getElem hiz]
    · intro i
      by_cases hi : i < len
      · have hiz : i < zs.length := by omega
        have hb := hk _ (hwz zs[i] (List.getElem_mem hiz))
        simp [List.getD_eq_getElem?_getD, List.getElem?_take, hi, List.getElem?_eq_getElem hiz]
        omega
      · rw [List.getD_eq_getElem?_getD, List.getElem?_eq_none (by rw [hlen]; omega)]; simp; omega
/-- a slice of slices of numbers that came in -/
theorem open_rows {t a e : TypeId} {k : IntKind} {m : Nat} (hk : ∀ n : Int, (Lit.int k n).wf = true → 0 ≤ n ∧ n < m) (ht : P.underlying t = some (.slice a)) (ha : P.underlying a = some (.slice e)) (he : P.underlying e = some (.int k)) (hc : P.cellsOf e = 1) (hca : P.cellsOf a = 1)
    {v : Value} {d : DataW H} {p : List MemPlace} {r : Reach} {b0 : Nat} (hv : Value.okWide P W r b0 t v) (h : DataW.Trod enc P W 0 (fun _ => true) true t v d p) :
    ∃ A n c vs l, v = .slice A n c ∧ l.length = n ∧ n ≤ c ∧ c ≤ maxLen ∧ Rows_ W k A vs l ∧ (∀ b ∈ l, ∀ i, b.getD i 0 < max m 1) := by
  obtain ⟨A, n, c, rfl⟩ := okWide_slice ht hv
  obtain ⟨fuel, hf⟩ := h
  rcases Deep.open_slice1 ht hca hf with ⟨hcs, _⟩ | ⟨ad, len, cap, m', fu, V, D, Pl, hcs, _, hl, hm, hmm, _, hi⟩
  · simp [Value.cells] at hcs
    obtain ⟨rfl, rfl, rfl⟩ := hcs
    exact ⟨none, 0, 0, [], [], rfl, rfl, Nat.le_refl _, by unfold maxLen; omega, ⟨At.nil _ _, rfl, by intro i v b h; simp at h⟩, by simp⟩
  · simp [Value.cells] at hcs
    obtain ⟨rfl, rfl, rfl⟩ := hcs
    simp only [if_true] at hmm
    have key : ∀ i, i < n → ∃ q : Value × List Nat, V i = q.1 ∧ (∃ A1 c1, q.1 = .slice A1 q.2.length c1 ∧ At W A1 (nats k q.2) ∧ (A1 = none → q.2.length = 0) ∧ q.2.length ≤ c1 ∧ c1 ≤ maxLen) ∧ ∀ i, q.2.getD i 0 < max m 1 := by
      intro i hin
      obtain ⟨A1, n1, c1, l1, e1, h1, h2, h3, h4, h5, h6⟩ := cell_nats hk ha he hc (hi i (by omega)).2
      subst h1
      exact ⟨(V i, l1), rfl, ⟨A1, c1, e1, h4, h5, h2, h3⟩, h6⟩
    obtain ⟨f, hg⟩ := Deep.choose_lt key
    obtain ⟨b, off, spot⟩ := ad
    refine ⟨_, n, c, (List.range n).map fun i => (f i).1, (List.range n).map fun i => (f i).2, rfl, by simp, hl, hm, ⟨?_, by simp, ?_⟩, ?_⟩
    · intro i x hx
      have hin : i < n := by
        rcases Nat.lt_or_ge i n with h | h
        · exact h
        · rw [List.getElem?_eq_none (by simpa using h)] at hx; cases hx
      have hspot : spot = none := by simpa [Addr.add] using World.cell?_spot (hi 0 (by omega)).1
      subst hspot
      have := (hi i (by omega)).1
      rw [addr_add, (hg i hin).1] at this
      simp [hin] at hx
      exact ⟨b, off, rfl, by rw [this, hx]⟩
    · intro i v b h1 h2
      have hin : i < n := by
        rcases Nat.lt_or_ge i n with h | h
        · exact h
        · rw [List.getElem?_eq_none (by simpa using h)] at h1; cases h1
      simp [hin] at h1 h2
      subst h1; subst h2
      exact (hg i hin).2.1
    · intro b hb
      simp at hb
      obtain ⟨i, hi, rfl⟩ := hb
      exact (hg i hi).2.2
end Go.Proofs.YtmdilfgeogedpaaDoor
