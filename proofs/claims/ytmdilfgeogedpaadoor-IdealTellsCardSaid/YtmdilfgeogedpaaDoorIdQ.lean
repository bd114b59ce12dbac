/- Layer 37: the table moved, in plain Lean; a pair put anew. -/
import Derived.Test.YtmdilfgeogedpaaDoorIdP
namespace Go.Proofs.YtmdilfgeogedpaaDoor
open Go.RowKit
/-- who did not come has the same rows -/
def Agree (came : List Int) (rows other : List (List Nat)) : Prop := ∀ i, i < rows.length → SetM.has came (i : Nat) = true ∨ rows.getD i [] = other.getD i []
def MvArg (own : List (List Nat)) (P : List (List (List Nat))) (came : List Int) (rows other : List (List Nat)) : Prop :=
  (Fit own P rows ∧ allB other rows.length (dimOf rows) = true ∧ PlB came rows.length = true) ∧ Agree came rows other
def MvSum (came : List Int) (rows other : List (List Nat)) : Prop := VE.acc (dimOf rows) (picked came rows) = VE.acc (dimOf rows) (picked came other)
/-- the moved row of a pair -/
def mvR (P : List (List (List Nat))) (rows other : List (List Nat)) (f i : Nat) : List Nat := VE.lin 1 (VE.pairOf P f i) (VE.lin 4294967295 (other.getD i []) (rows.getD i []))
/-- the pairs, the first m of those behind the first one moved -/
def mvP (came : List Nat) (P : List (List (List Nat))) (rows other : List (List Nat)) : Nat → List (List (List Nat))
  | 0 => P
  | m + 1 => (mvP came P rows other m).set (came.getD 0 0) (((mvP came P rows other m).getD (came.getD 0 0) []).set (came.getD (m + 1) 0 - came.getD 0 0 - 1) (mvR P rows other (came.getD 0 0) (came.getD (m + 1) 0)))
theorem mvP_length (came : List Nat) (P : List (List (List Nat))) (rows other : List (List Nat)) : ∀ m, (mvP came P rows other m).length = P.length
  | 0 => rfl
  | m + 1 => by show (List.set _ _ _).length = _; rw [List.length_set]; exact mvP_length came P rows other m
theorem getD_set_any {α : Type} (l : List α) (k i : Nat) (x d : α) : (l.set k x).getD i d = if i = k ∧ k < l.length then x else l.getD i d := by
  simp only [List.getD_eq_getElem?_getD, List.getElem?_set]
  by_cases e : i = k
  · subst e
    by_cases h : i < l.length
    · simp [h]
    · simp [h]
  · rw [if_neg (fun h => e h.symm), if_neg (fun h => e h.1)]
theorem mvP_row (came : List Nat) (P : List (List (List Nat))) (rows other : List (List Nat)) (i : Nat) : ∀ m, ((mvP came P rows other m).getD i []).length = (P.getD i []).length
  | 0 => rfl
  | m + 1 => by
    show ((List.set _ _ _).getD i []).length = _
    rw [getD_set_any]
    split
    · rename_i h
      rw [List.length_set, ← h.1]; exact mvP_row came P rows other i m
    · exact mvP_row came P rows other i m
/-- a set's places: ascending, from 0 -/
theorem may_asc : ∀ (l : List Int) (last : Int), SetM.mayFrom last l = true → -1 ≤ last → (∀ x ∈ l, last < x ∧ x < 64) ∧ l.Pairwise (· < ·)
  | [], _, _, _ => ⟨fun x h => (by cases h), List.Pairwise.nil⟩
  | y :: l, last, h, hl => by
    simp only [SetM.mayFrom, Bool.and_eq_true, decide_eq_true_eq] at h
    have hc := (SetM.can_iff y).1 h.1.2
    obtain ⟨a, b⟩ := may_asc l y h.2 (by omega)
    refine ⟨fun x hx => ?_, List.Pairwise.cons (fun x hx => (a x hx).1) b⟩
    rcases List.mem_cons.1 hx with rfl | hx
    · exact ⟨h.1.1, hc.2⟩
    · have := a x hx; exact ⟨by omega, this.2⟩
/-- places as naturals -/
theorem PlB.nats {came : List Int} {n : Nat} (h : PlB came n = true) : ∃ l : List Nat, came = l.map (fun (x : Nat) => (x : Int)) ∧ (∀ x ∈ l, x < n) ∧ l.Pairwise (· < ·) := by
  simp only [PlB, Bool.and_eq_true, decide_eq_true_eq] at h
  obtain ⟨a, b⟩ := may_asc came (-1) h.1 (by omega)
  refine ⟨came.map Int.toNat, ?_, ?_, ?_⟩
  · rw [List.map_map]
    conv => lhs; rw [← List.map_id came]
    exact List.map_congr_left fun x hx => by have := (a x hx).1; simp; omega
  · intro x hx
    obtain ⟨y, hy, rfl⟩ := List.mem_map.1 hx
    have h1 := a y hy
    obtain ⟨i, hi, rfl⟩ := List.mem_iff_getElem.1 hy
    have h2 : came.getD (came.length - 1) 0 < n := h.2.resolve_left (by omega)
    rw [List.getD_eq_getElem?_getD, List.getElem?_eq_getElem (by omega)] at h2
    have h2 : came[came.length - 1] < (n : Int) := h2
    have h3 : came[i] ≤ came[came.length - 1] := by
      by_cases e : i = came.length - 1
      · subst e; exact Int.le_refl _
      · exact Int.le_of_lt (List.pairwise_iff_getElem.1 b i (came.length - 1) hi (by omega) (by omega))
    omega
  · refine List.Pairwise.map _ (fun x y hxy => ?_) (List.Pairwise.and_mem.1 b)
    have h1 := (a x hxy.1).1
    have := hxy.2.2
    omega
theorem asc_ge {l : List Nat} (h : l.Pairwise (· < ·)) : ∀ i, i < l.length → i ≤ l.getD i 0
  | 0, _ => Nat.zero_le _
  | i + 1, hi => by
    have h1 := asc_ge h i (by omega)
    have h2 := List.pairwise_iff_getElem.1 h i (i + 1) (by omega) hi (by omega)
    rw [List.getD_eq_getElem?_getD, List.getElem?_eq_getElem (by omega)] at h1
    rw [List.getD_eq_getElem?_getD, List.getElem?_eq_getElem hi]
    simp at h1 ⊢
    omega
theorem asc_lt {l : List Nat} (h : l.Pairwise (· < ·)) {i j : Nat} (hij : i < j) (hj : j < l.length) : l.getD i 0 < l.getD j 0 := by
  rw [List.getD_eq_getElem?_getD, List.getElem?_eq_getElem (by omega), List.getD_eq_getElem?_getD, List.getElem?_eq_getElem hj]
  exact List.pairwise_iff_getElem.1 h i j (by omega) hj hij
theorem getD_ltN {l : List Nat} {n : Nat} (hn : ∀ x ∈ l, x < n) {i : Nat} (hi : i < l.length) : l.getD i 0 < n := by
  rw [List.getD_eq_getElem?_getD, List.getElem?_eq_getElem hi]
  exact hn _ (List.getElem_mem hi)
theorem asc_length {l : List Nat} {n : Nat} (h : l.Pairwise (· < ·)) (hn : ∀ x ∈ l, x < n) : l.length ≤ n := by
  rcases Nat.eq_zero_or_pos l.length with h0 | h0
  · omega
  · have h1 := asc_ge h (l.length - 1) (by omega)
    have h2 := getD_ltN hn (show l.length - 1 < l.length by omega)
    omega
theorem ints_cast {l : List Nat} : (l.map (fun (x : Nat) => (x : Int))).map Int.toNat = l := by
  rw [List.map_map]
  conv => rhs; rw [← List.map_id l]
  exact List.map_congr_left fun x _ => by simp
theorem cast_getD {l : List Nat} (i : Nat) : (l.map (fun (x : Nat) => (x : Int))).getD i 0 = ((l.getD i 0 : Nat) : Int) := by
  simp only [List.getD_eq_getElem?_getD, List.getElem?_map]
  cases l[i]? <;> rfl
/-- a row of a family made anew, another one written -/
theorem Fam.put {ι : Type} [DecidableEq ι] {w0 W : World} {B : Nat} {D : ι → Pie} (h : Fam w0 B D) (hB : B ≤ w0.heap.size) {p q : ι} (hpq : p ≠ q) {g : Nat} (hA : (D q).A = some ⟨g, 0, none⟩) (hg : w0.grownBy W (some g)) {x : Pie}
    (hx : Own W w0.heap.size x.e 1 x.A x.n x.c x.xs) {ys : List Value} (hy : Own W B (D q).e 1 (D q).A (D q).n (D q).c ys) : Fam W B (upd (upd D p x) q { D q with xs := ys }) where
  own := fun r => by
    by_cases e : r = q
    · subst e; rw [upd_same]; exact hy
    · rw [upd_other _ e]
      by_cases e2 : r = p
      · subst e2; rw [upd_same]; exact ownsRow_le_ hx hB
      · rw [upd_other _ e2]
        have h1 := h.dist r q e
        rw [hA] at h1
        exact (h.own r).kept hg h1
  dist := fun r s hrs => by
    have hq : ∀ t, (upd (upd D p x) q { D q with xs := ys } t).A = (upd D p x t).A := fun t => by
      by_cases e : t = q
      · subst e; rw [upd_same, upd_other _ (Ne.symm hpq)]
      · rw [upd_other _ e]
    rw [hq, hq]
    by_cases e : r = p
    · subst e
      rw [upd_same, upd_other _ (fun e => hrs e.symm)]
      cases hA : blk x.A with
      | none => exact .inl rfl
      | some k =>
        refine .inr fun e2 => ?_
        have h1 := (hx.lt k hA).1
        have h2 := ((h.own s).lt k e2.symm).2
        omega
    · rw [upd_other _ e]
      by_cases e2 : s = p
      · subst e2
        rw [upd_same]
        cases hA : blk (D r).A with
        | none => exact .inl rfl
        | some k =>
          refine .inr fun e3 => ?_
          have h1 := (hx.lt k e3.symm).1
          have h2 := ((h.own r).lt k hA).2
          omega
      · rw [upd_other _ e2]; exact h.dist r s hrs
section
variable {D : Pc → Pie} {own : List (List Nat)} {P : List (List (List Nat))}
theorem Tab.putPr {i j : Nat} (h : Tab D own P) (hi : i < P.length) (hj : j < (P.getD i []).length) (x : Pie) (r : List Nat) (hx : x.n = r.length ∧ x.xs = nats .u32 r) (y : Pie) (hy : y.n = (D (.hh i)).n ∧ y.A = (D (.hh i)).A ∧ y.c = (D (.hh i)).c ∧ y.xs = (D (.hh i)).xs.set j x.v) :
    Tab (upd (upd D (.pr i j) x) (.hh i) y) own (P.set i ((P.getD i []).set j r)) := by
  obtain ⟨⟨a1, a2⟩, b, ⟨c1, c2⟩, d, e⟩ := h
  have hlen : ∀ q, ((P.set i ((P.getD i []).set j r)).getD q []).length = (P.getD q []).length := fun q => by
    rw [getD_set _ _ _ _ _ hi]
    by_cases e0 : q = i
    · subst e0; rw [if_pos rfl, List.length_set]
    · rw [if_neg e0]
  have hv : ∀ q, (upd (upd D (.pr i j) x) (.hh i) y (.hh q)).v = (D (.hh q)).v := fun q => by
    by_cases e0 : q = i
    · subst e0; rw [upd_same]; unfold Pie.v; rw [hy.1, hy.2.1, hy.2.2.1]
    · rw [upd_other _ (by simp [e0]), upd_other _ (by simp)]
  refine ⟨⟨by rw [upd_other _ (by simp), upd_other _ (by simp), a1], ?_⟩, fun q hq => ?_, ⟨by rw [upd_other _ (by simp), upd_other _ (by simp), c1, List.length_set], ?_⟩, fun q hq => ?_, fun q s hq hs => ?_⟩
  · rw [upd_other _ (by simp), upd_other _ (by simp), a2]
    exact List.map_congr_left fun q _ => by rw [upd_other _ (by simp), upd_other _ (by simp)]
  · rw [upd_other _ (by simp), upd_other _ (by simp)]
    exact b q hq
  · rw [upd_other _ (by simp), upd_other _ (by simp), c2, List.length_set]
    exact List.map_congr_left fun q _ => (hv q).symm
  · rw [List.length_set] at hq
    rw [hlen]
    by_cases e0 : q = i
    · subst e0
      rw [upd_same, hy.1, hy.2.2.2, (d q hq).2]
      refine ⟨(d q hq).1, ?_⟩
      apply List.ext_getElem?
      intro s
      rw [List.getElem?_set]
      by_cases e1 : j = s
      · subst e1
        rw [if_pos rfl, if_pos (by simpa using hj)]
        rw [List.getElem?_map, List.getElem?_range hj]
        show some x.v = some (Pie.v _)
        rw [upd_other _ (by simp), upd_same]
      · rw [if_neg e1]
        by_cases hs : s < (P.getD q []).length
        · rw [List.getElem?_map, List.getElem?_map, List.getElem?_range hs]
          show some (D (.pr q s)).v = some (Pie.v _)
          rw [upd_other _ (by simp), upd_other _ (by simp; omega)]
        · rw [List.getElem?_eq_none (by rw [List.length_map, List.length_range]; omega), List.getElem?_eq_none (by rw [List.length_map, List.length_range]; omega)]
    · rw [upd_other _ (by simp [e0]), upd_other _ (by simp)]
      refine ⟨(d q hq).1, ?_⟩
      rw [(d q hq).2]
      exact List.map_congr_left fun s _ => by rw [upd_other _ (by simp), upd_other _ (by simp [e0])]
  · rw [List.length_set] at hq
    rw [hlen] at hs
    rw [upd_other _ (by simp), getD_set _ _ _ _ _ hi]
    by_cases e0 : q = i
    · subst e0
      rw [if_pos rfl, getD_set _ _ _ _ _ hj]
      by_cases e1 : s = j
      · subst e1; rw [if_pos rfl, upd_same]; exact hx
      · rw [if_neg e1, upd_other _ (by simpa using e1)]
        exact e q s hq hs
    · rw [if_neg e0, upd_other _ (by simp [e0])]
      exact e q s hq hs
end
end Go.Proofs.YtmdilfgeogedpaaDoor
