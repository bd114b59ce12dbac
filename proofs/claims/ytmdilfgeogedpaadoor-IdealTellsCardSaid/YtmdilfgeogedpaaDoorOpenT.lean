/- What comes in, opened: a table of layer 37: rows of rows of numbers. -/
import Derived.Test.YtmdilfgeogedpaaDoorBods
import Derived.Deep.Strs
namespace Go.Proofs.YtmdilfgeogedpaaDoor
open Go.RowKit Go.ChangeShapes Go.WideShapes Go.ChangeAt
/-- a slice of slices of slices of numbers -/
structure Rows3 (w : World) (k : IntKind) (A : Option Addr) (vs : List Value) (l : List (List (List Nat))) : Prop where
  at_ : At w A vs
  len : vs.length = l.length
  each : ∀ (i : Nat) (v : Value) (b : List (List Nat)), vs[i]? = some v → l[i]? = some b → ∃ A1 c1 ws, v = .slice A1 b.length c1 ∧ Rows_ w k A1 ws b ∧ (A1 = none → b.length = 0) ∧ b.length ≤ c1 ∧ c1 ≤ maxLen
section
variable {w w' : World} {k : IntKind} {A : Option Addr} {vs : List Value} {l : List (List (List Nat))}
theorem Rows3.get (h : Rows3 w k A vs l) (i : Nat) (hi : i < l.length) :
    ∃ b o A1 c1 ws, A = some ⟨b, o, none⟩ ∧ w.cell? ⟨b, o + i, none⟩ = some (.slice A1 (l.getD i []).length c1) ∧ Rows_ w k A1 ws (l.getD i []) ∧ (A1 = none → (l.getD i []).length = 0) ∧ (l.getD i []).length ≤ c1 ∧ c1 ≤ maxLen ∧ b < w.heap.size := by
  have hv : i < vs.length := by rw [h.len]; exact hi
  obtain ⟨b, o, e, hc⟩ := h.at_ i _ (List.getElem?_eq_getElem hv)
  obtain ⟨A1, c1, ws, e1, h2, h3, h4, h5⟩ := h.each i _ _ (List.getElem?_eq_getElem hv) (List.getElem?_eq_getElem hi)
  rw [e1] at hc
  have : l.getD i [] = l[i] := by simp [List.getD_eq_getElem?_getD, List.getElem?_eq_getElem hi]
  rw [this]
  refine ⟨b, o, A1, c1, ws, e, hc, h2, h3, h4, h5, ?_⟩
  exact At.lt h.at_ (by intro e0; rw [e0] at hv; simp at hv) b (by subst e; rfl)
theorem Rows3.later {B : Nat} (h : Rows3 w k A vs l) (hb : Below B w w') (hB : w.heap.size ≤ B) : Rows3 w' k A vs l where
  at_ := h.at_.later hb hB
  len := h.len
  each := fun i v b h1 h2 => by
    obtain ⟨A1, c1, ws, e1, h2, h3, h4⟩ := h.each i v b h1 h2
    exact ⟨A1, c1, ws, e1, h2.later hb hB, h3, h4⟩
end
section
variable {H : Type} {enc : TypeId × Value → H} {P : Program} {W : World}
/-- a slice of slices of numbers that stands in a cell -/
theorem cell_rows {t a e : TypeId} {k : IntKind} {m : Nat} (hk : ∀ n : Int, (Lit.int k n).wf = true → 0 ≤ n ∧ n < m) (ht : P.underlying t = some (.slice a)) (ha : P.underlying a = some (.slice e)) (he : P.underlying e = some (.int k)) (hca : P.cellsOf a = 1) (hc : P.cellsOf e = 1)
    {fuel : Nat} {v : Value} {x : DataW H × List MemPlace} (h : DataW.trod enc P W 0 (fun _ => true) true fuel t [v] = some x) :
    ∃ A n c vs l, v = .slice A n c ∧ l.length = n ∧ n ≤ c ∧ c ≤ maxLen ∧ Rows_ W k A vs l ∧ (A = none → n = 0) ∧ (∀ b ∈ l, ∀ i, b.getD i 0 < max m 1) := by
  rcases Deep.open_slice1 ht hca h with ⟨hcs, _⟩ | ⟨ad, len, cap, mm, fu, V, D, Pl, hcs, _, hl, hm, hmm, _, hi⟩
  · simp at hcs
    subst hcs
    exact ⟨none, 0, 0, [], [], rfl, rfl, Nat.le_refl _, by unfold maxLen; omega, ⟨At.nil _ _, rfl, by intro i v b h; simp at h⟩, fun _ => rfl, by simp⟩
  · simp at hcs
    subst hcs
    simp only [if_true] at hmm
    have key : ∀ i, i < len → ∃ q : Value × List Nat, V i = q.1 ∧ (∃ A1 c1, q.1 = .slice A1 q.2.length c1 ∧ At W A1 (nats k q.2) ∧ (A1 = none → q.2.length = 0) ∧ q.2.length ≤ c1 ∧ c1 ≤ maxLen) ∧ ∀ i, q.2.getD i 0 < max m 1 := by
      intro i hin
      obtain ⟨A1, n1, c1, l1, e1, h1, h2, h3, h4, h5, h6⟩ := cell_nats hk ha he hc (hi i (by omega)).2
      subst h1
      exact ⟨(V i, l1), rfl, ⟨A1, c1, e1, h4, h5, h2, h3⟩, h6⟩
    obtain ⟨f, hg⟩ := Deep.choose_lt key
    obtain ⟨b, off, spot⟩ := ad
    refine ⟨_, len, cap, (List.range len).map fun i => (f i).1, (List.range len).map fun i => (f i).2, rfl, by simp, hl, hm, ⟨?_, by simp, ?_⟩, (by intro e; cases e), ?_⟩
    · intro i x hx
      have hin : i < len := by
        rcases Nat.lt_or_ge i len with h | h
        · exact h
        · rw [List.getElem?_eq_none (by simpa using h)] at hx; cases hx
      have hspot : spot = none := by simpa [Addr.add] using World.cell?_spot (hi 0 (by omega)).1
      subst hspot
      have := (hi i (by omega)).1
      rw [addr_add, (hg i hin).1] at this
      simp [hin] at hx
      exact ⟨b, off, rfl, by rw [this, hx]⟩
    · intro i v b h1 h2
      have hin : i < len := by
        rcases Nat.lt_or_ge i len with h | h
        · exact h
        · rw [List.getElem?_eq_none (by simpa using h)] at h1; cases h1
      simp [hin] at h1 h2
      subst h1; subst h2
      exact (hg i hin).2.1
    · intro b hb
      simp at hb
      obtain ⟨i, hi, rfl⟩ := hb
      exact (hg i hi).2.2
/-- a slice of slices of slices of numbers that stands in a cell -/
theorem cell_rows3 {s t a e : TypeId} {k : IntKind} {m : Nat} (hk : ∀ n : Int, (Lit.int k n).wf = true → 0 ≤ n ∧ n < m) (hs : P.underlying s = some (.slice t)) (ht : P.underlying t = some (.slice a)) (ha : P.underlying a = some (.slice e)) (he : P.underlying e = some (.int k)) (hct : P.cellsOf t = 1) (hca : P.cellsOf a = 1) (hc : P.cellsOf e = 1)
    {fuel : Nat} {v : Value} {x : DataW H × List MemPlace} (h : DataW.trod enc P W 0 (fun _ => true) true fuel s [v] = some x) :
    ∃ A n c vs l, v = .slice A n c ∧ l.length = n ∧ n ≤ c ∧ c ≤ maxLen ∧ Rows3 W k A vs l ∧ (A = none → n = 0) ∧ (∀ r ∈ l, ∀ b ∈ r, ∀ i, b.getD i 0 < max m 1) := by
  rcases Deep.open_slice1 hs hct h with ⟨hcs, _⟩ | ⟨ad, len, cap, mm, fu, V, D, Pl, hcs, _, hl, hm, hmm, _, hi⟩
  · simp at hcs
    subst hcs
    exact ⟨none, 0, 0, [], [], rfl, rfl, Nat.le_refl _, by unfold maxLen; omega, ⟨At.nil _ _, rfl, by intro i v b h; simp at h⟩, fun _ => rfl, by simp⟩
  · simp at hcs
    subst hcs
    simp only [if_true] at hmm
    have key : ∀ i, i < len → ∃ q : Value × List (List Nat), V i = q.1 ∧ (∃ A1 c1 ws, q.1 = .slice A1 q.2.length c1 ∧ Rows_ W k A1 ws q.2 ∧ (A1 = none → q.2.length = 0) ∧ q.2.length ≤ c1 ∧ c1 ≤ maxLen) ∧ ∀ b ∈ q.2, ∀ i, b.getD i 0 < max m 1 := by
      intro i hin
      obtain ⟨A1, n1, c1, ws, l1, e1, h1, h2, h3, h4, h5, h6⟩ := cell_rows hk ht ha he hca hc (hi i (by omega)).2
      subst h1
      exact ⟨(V i, l1), rfl, ⟨A1, c1, ws, e1, h4, h5, h2, h3⟩, h6⟩
    obtain ⟨f, hg⟩ := Deep.choose_lt key
    obtain ⟨b, off, spot⟩ := ad
    refine ⟨_, len, cap, (List.range len).map fun i => (f i).1, (List.range len).map fun i => (f i).2, rfl, by simp, hl, hm, ⟨?_, by simp, ?_⟩, (by intro e; cases e), ?_⟩
    · intro i x hx
      have hin : i < len := by
        rcases Nat.lt_or_ge i len with h | h
        · exact h
        · rw [List.getElem?_eq_none (by simpa using h)] at hx; cases hx
      have hspot : spot = none := by simpa [Addr.add] using World.cell?_spot (hi 0 (by omega)).1
      subst hspot
      have := (hi i (by omega)).1
      rw [addr_add, (hg i hin).1] at this
      simp [hin] at hx
      exact ⟨b, off, rfl, by rw [this, hx]⟩
    · intro i v b h1 h2
      have hin : i < len := by
        rcases Nat.lt_or_ge i len with h | h
        · exact h
        · rw [List.getElem?_eq_none (by simpa using h)] at h1; cases h1
      simp [hin] at h1 h2
      subst h1; subst h2
      exact (hg i hin).2.1
    · intro b hb
      simp at hb
      obtain ⟨i, hi, rfl⟩ := hb
      exact (hg i hi).2.2
/-- a table that comes in by value -/
theorem open_table {tt s t a e : TypeId} {k : IntKind} {m : Nat} {f0 f1 : Field} (hk : ∀ n : Int, (Lit.int k n).wf = true → 0 ≤ n ∧ n < m) (htt : P.underlying tt = some (.struct #[f0, f1])) (hsz : P.cellsOf tt = 2) (o0 : f0.offset = 0) (o1 : f1.offset = 1) (y0 : f0.type = t) (y1 : f1.type = s)
    (hs : P.underlying s = some (.slice t)) (ht : P.underlying t = some (.slice a)) (ha : P.underlying a = some (.slice e)) (he : P.underlying e = some (.int k)) (hcs : P.cellsOf s = 1) (hct : P.cellsOf t = 1) (hca : P.cellsOf a = 1) (hc : P.cellsOf e = 1)
    {v : Value} {d : DataW H} {p : List MemPlace} {r : Reach} {b0 : Nat} (hv : Value.okWide P W r b0 tt v) (h : DataW.Trod enc P W 0 (fun _ => true) true tt v d p) :
    ∃ (A : Option Addr) (n c : Nat) (vs : List Value) (l : List (List Nat)) (A2 : Option Addr) (n2 c2 : Nat) (vs2 : List Value) (l2 : List (List (List Nat))), v = .agg #[.slice A n c, .slice A2 n2 c2] ∧ l.length = n ∧ n ≤ c ∧ c ≤ maxLen ∧ Rows_ W k A vs l ∧ (∀ b ∈ l, ∀ i, b.getD i 0 < max m 1) ∧
      l2.length = n2 ∧ n2 ≤ c2 ∧ c2 ≤ maxLen ∧ Rows3 W k A2 vs2 l2 ∧ (∀ r ∈ l2, ∀ b ∈ r, ∀ i, b.getD i 0 < max m 1) := by
  obtain ⟨fuel, hf⟩ := h
  obtain ⟨xs, q, _, hx, hlen0, hxs, hi⟩ := DataW.trod_struct htt hf
  simp only [Value.okWide, htt] at hv
  obtain ⟨cs, rfl, hcsz, _⟩ := hv
  have hcs2 : cs.size = 2 := by simpa [hsz, Value.cells] using hlen0
  obtain ⟨c0, c1, rfl⟩ : ∃ c0 c1, cs = #[c0, c1] := by
    obtain ⟨l⟩ := cs
    match l, hcs2 with
    | [c0, c1], _ => exact ⟨c0, c1, rfl⟩
  have e0 := hi 0 f0 rfl
  have e1 := hi 1 f1 rfl
  match xs, hxs with
  | [x0, x1], _ =>
    simp [Value.cells, o0, y0, hct] at e0
    simp [Value.cells, o1, y1, hcs] at e1
    obtain ⟨A, n, c, vs, l, rfl, h1, h2, h3, h4, _, h6⟩ := cell_rows hk ht ha he hca hc e0
    obtain ⟨A2, n2, c2, vs2, l2, rfl, g1, g2, g3, g4, _, g6⟩ := cell_rows3 hk hs ht ha he hct hca hc e1
    exact ⟨A, n, c, vs, l, A2, n2, c2, vs2, l2, rfl, h1, h2, h3, h4, h6, g1, g2, g3, g4, g6⟩
end
end Go.Proofs.YtmdilfgeogedpaaDoor
