/- Layer 37: a row cleared; a table's pairs as rows of rows. -/
import Derived.Test.YtmdilfgeogedpaaDoorIdI
namespace Go.Proofs.YtmdilfgeogedpaaDoor
open Go.RowKit
theorem Tab.rows3 {w : World} {B : Nat} {D : Pc → Pie} {own : List (List Nat)} {P : List (List (List Nat))} (h : Tab D own P) (f : Fam w B D) : Rows3 w .u32 (D .ph).A (D .ph).xs P where
  at_ := (f.own .ph).at_
  len := by rw [h.ph.2]; simp
  each := fun i v b hv hb => by
    have hi : i < P.length := by
      rcases Nat.lt_or_ge i P.length with h | h
      · exact h
      · rw [List.getElem?_eq_none h] at hb; cases hb
    have e : P.getD i [] = b := by rw [List.getD_eq_getElem?_getD, hb]; rfl
    obtain ⟨g1, g2⟩ := h.hh i hi
    have g3 := fun j hj => h.pr i j hi hj
    rw [e] at g1 g2 g3
    rw [h.ph.2] at hv
    simp [hi] at hv
    subst hv
    have o := f.own (.hh i)
    refine ⟨(D (.hh i)).A, (D (.hh i)).c, (D (.hh i)).xs, by unfold Pie.v; rw [g1], fam_rows f (.hh i) (fun j => .pr i j) b g2 g3, ?_, ?_, o.cap.2⟩
    · intro e2
      rcases o.lies with ⟨_, h, _⟩ | ⟨g, h, _⟩
      · omega
      · rw [e2] at h; cases h
    · have := o.cap.1; omega
def setL (xs : List Value) (o : Nat) : List Value → List Value
  | [] => xs
  | v :: vs => setL (xs.set o v) (o + 1) vs
theorem setL_get : ∀ (vs xs : List Value) (o i : Nat), (setL xs o vs)[i]? = if o ≤ i ∧ i < o + vs.length ∧ i < xs.length then vs[i - o]? else xs[i]?
  | [], xs, o, i => by
    rw [if_neg (by simp; omega)]; rfl
  | v :: vs, xs, o, i => by
    show (setL (xs.set o v) (o + 1) vs)[i]? = _
    rw [setL_get vs, List.length_set, List.length_cons]
    by_cases h : o = i
    · subst h
      rw [if_neg (by omega)]
      by_cases h2 : o < xs.length
      · rw [if_pos ⟨by omega, by omega, h2⟩]
        simp [List.getElem?_set, h2]
      · rw [if_neg (by omega), List.getElem?_eq_none (by simp; omega), List.getElem?_eq_none (by omega)]
    · rw [List.getElem?_set_ne h]
      by_cases h2 : o + 1 ≤ i ∧ i < o + 1 + vs.length ∧ i < xs.length
      · rw [if_pos h2, if_pos (by omega), show i - o = (i - (o + 1)) + 1 by omega, List.getElem?_cons_succ]
      · rw [if_neg h2, if_neg (by omega)]
theorem setL_all (xs : List Value) (z : Value) : setL xs 0 (List.replicate xs.length z) = List.replicate xs.length z := by
  apply List.ext_getElem?
  intro i
  rw [setL_get, List.length_replicate]
  by_cases h : i < xs.length
  · rw [if_pos (by omega)]; rfl
  · rw [if_neg (by omega), List.getElem?_eq_none (by omega), List.getElem?_eq_none (by simp; omega)]
theorem Own.setCells {base : Nat} {e : TypeId} {g : Nat} {n c : Nat} : ∀ (vs : List Value) (o : Nat) {w : World} {xs : List Value}, Own w base e 1 (some ⟨g, 0, none⟩) n c xs → Own (w.setCells g o vs) base e 1 (some ⟨g, 0, none⟩) n c (setL xs o vs)
  | [], _, _, _, h => h
  | v :: vs, o, _, _, h => Own.setCells vs (o + 1) (h.set_in o v)
theorem Own.setCells_else {base : Nat} {e : TypeId} {g : Nat} {A : Option Addr} {n c : Nat} {xs : List Value} (hne : blk A = none ∨ blk A ≠ some g) : ∀ (vs : List Value) (o : Nat) {w : World}, Own w base e 1 A n c xs → Own (w.setCells g o vs) base e 1 A n c xs
  | [], _, _, h => h
  | v :: vs, o, _, h => Own.setCells_else hne vs (o + 1) (h.set_else hne o v)
theorem Below.setCells {B g : Nat} {w0 : World} (hB : B ≤ g) : ∀ (vs : List Value) (o : Nat) {w : World}, Below B w0 w → Below B w0 (w.setCells g o vs)
  | [], _, _, h => h
  | v :: vs, o, _, h => Below.setCells hB vs (o + 1) (h.setCell (p := ⟨g, o, none⟩) hB v)
theorem Holds.setCells {g g' : Nat} {t : TypeId} {cs : Array Value} (hg : g' ≠ g) : ∀ (vs : List Value) (o : Nat) {w : World}, Holds w g' t cs → Holds (w.setCells g o vs) g' t cs
  | [], _, _, h => h
  | v :: vs, o, _, h => Holds.setCells hg vs (o + 1) (h.far (p := ⟨g, o, none⟩) hg v)
theorem Fam.clear {ι : Type} [DecidableEq ι] {w : World} {B : Nat} {D : ι → Pie} (h : Fam w B D) (p : ι) {g : Nat} (hA : (D p).A = some ⟨g, 0, none⟩) (z : Value) : Fam (w.setCells g 0 (List.replicate (D p).n z)) B (upd D p { D p with xs := List.replicate (D p).n z }) where
  own := fun q => by
    by_cases e : q = p
    · subst e
      rw [upd_same]
      have h1 := h.own q
      dsimp only
      have hl : (D q).xs.length = (D q).n := by have := h1.len; omega
      have h2 := setL_all (D q).xs z
      rw [hl] at h2
      rw [hA] at h1 ⊢
      have h3 := h1.setCells (List.replicate (D q).n z) 0
      rw [h2] at h3
      exact h3
    · rw [upd_other _ e]
      refine Own.setCells_else ?_ _ _ (h.own q)
      have := h.dist q p e
      rw [hA] at this
      exact this
  dist := fun q r hqr => by
    have hs : ∀ s, (upd D p { D p with xs := List.replicate (D p).n z } s).A = (D s).A := fun s => by
      by_cases e : s = p
      · subst e; rw [upd_same]
      · rw [upd_other _ e]
    rw [hs, hs]
    exact h.dist q r hqr
end Go.Proofs.YtmdilfgeogedpaaDoor
