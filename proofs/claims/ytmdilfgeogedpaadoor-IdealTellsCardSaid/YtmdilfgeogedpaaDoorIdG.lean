/- Layer 37: a family of pieces of memory, each in a block of its own. -/
import Derived.Test.YtmdilfgeogedpaaDoorIdF
namespace Go.Proofs.YtmdilfgeogedpaaDoor
open Go.RowKit
/-- a piece of memory: a slice and what it holds -/
structure Pie where
  e : TypeId
  A : Option Addr
  n : Nat
  c : Nat
  xs : List Value
def Pie.v (p : Pie) : Value := .slice p.A p.n p.c
structure Fam {ι : Type} (w : World) (B : Nat) (D : ι → Pie) : Prop where
  own : ∀ p, Own w B (D p).e 1 (D p).A (D p).n (D p).c (D p).xs
  dist : ∀ p q, p ≠ q → blk (D p).A = none ∨ blk (D p).A ≠ blk (D q).A
def upd {ι : Type} [DecidableEq ι] (D : ι → Pie) (p : ι) (x : Pie) : ι → Pie := fun q => if q = p then x else D q
section
variable {ι : Type} [DecidableEq ι] {w w' : World} {B : Nat} {D : ι → Pie}
theorem upd_same (p : ι) (x : Pie) : upd D p x p = x := if_pos rfl
theorem upd_other {p q : ι} (x : Pie) (h : q ≠ p) : upd D p x q = D q := if_neg h
omit [DecidableEq ι] in
theorem Fam.none_ (w : World) (B : Nat) (e : ι → TypeId) : Fam w B fun p => ⟨e p, none, 0, 0, []⟩ := ⟨fun _ => Own.none_ _ _ _ _, fun _ _ _ => .inl rfl⟩
omit [DecidableEq ι] in
theorem Fam.later (h : Fam w B D) (hb : Below w.heap.size w w') : Fam w' B D := ⟨fun p => (h.own p).below hb (Nat.le_refl _), h.dist⟩
theorem Fam.add (h : Fam w B D) (p : ι) {x : Pie} (hx : Own w' w.heap.size x.e 1 x.A x.n x.c x.xs) (hb : Below w.heap.size w w') (hB : B ≤ w.heap.size) : Fam w' B (upd D p x) where
  own := fun q => by
    by_cases e : q = p
    · subst e; rw [upd_same]; exact ownsRow_le_ hx hB
    · rw [upd_other x e]; exact (h.own q).below hb (Nat.le_refl _)
  dist := fun q r hqr => by
    by_cases e : q = p
    · subst e
      rw [upd_same, upd_other x (fun e => hqr e.symm)]
      cases hA : blk x.A with
      | none => exact .inl rfl
      | some k =>
        refine .inr fun e2 => ?_
        have h1 := (hx.lt k hA).1
        have h2 := ((h.own r).lt k e2.symm).2
        omega
    · rw [upd_other x e]
      by_cases e2 : r = p
      · subst e2
        rw [upd_same]
        cases hA : blk (D q).A with
        | none => exact .inl rfl
        | some k =>
          refine .inr fun e3 => ?_
          have h1 := (hx.lt k e3.symm).1
          have h2 := ((h.own q).lt k hA).2
          omega
      · rw [upd_other x e2]; exact h.dist q r hqr
theorem Fam.grow (h : Fam w B D) (p : ι) {x : Pie} (hx : Own w' B x.e 1 x.A x.n x.c x.xs) (hg : w.grownBy w' (blk (D p).A)) (hA : blk x.A = blk (D p).A ∨ blk x.A = some w.heap.size) : Fam w' B (upd D p x) where
  own := fun q => by
    by_cases e : q = p
    · subst e; rw [upd_same]; exact hx
    · rw [upd_other x e]; exact (h.own q).kept hg (h.dist q p e)
  dist := fun q r hqr => by
    by_cases e : q = p
    · subst e
      rw [upd_same, upd_other x (fun e => hqr e.symm)]
      rcases hA with e2 | e2
      · rw [e2]; exact h.dist q r hqr
      · rw [e2]
        refine .inr fun e3 => ?_
        have h2 := ((h.own r).lt _ e3.symm).2
        omega
    · rw [upd_other x e]
      by_cases e2 : r = p
      · subst e2
        rw [upd_same]
        rcases hA with e2 | e2
        · rw [e2]; exact h.dist q r hqr
        · rw [e2]
          cases hq : blk (D q).A with
          | none => exact .inl rfl
          | some k =>
            refine .inr fun e3 => ?_
            cases e3
            have h2 := ((h.own q).lt _ hq).2
            omega
      · rw [upd_other x e2]; exact h.dist q r hqr
end
theorem Own.set_in {w : World} {base : Nat} {e : TypeId} {g : Nat} {n c : Nat} {xs : List Value} (h : Own w base e 1 (some ⟨g, 0, none⟩) n c xs) (i : Nat) (u : Value) : Own (w.setCell ⟨g, i, none⟩ u) base e 1 (some ⟨g, 0, none⟩) n c (xs.set i u) := by
  refine ⟨by rw [List.length_set]; exact h.1, ?_⟩
  rcases h.2 with ⟨h0, _⟩ | ⟨g', cap, cur, hv, hb, hh, hn, hm, hc, ht⟩
  · cases h0
  · cases hv
    refine .inr ⟨g, c, cur.setIfInBounds i u, rfl, hb, ?_, hn, hm, by simpa using hc, ?_⟩
    · simp [World.setCell, Array.getElem?_modify, hh]
    · rw [← ht]
      simp only [Array.toList_setIfInBounds, List.take_set]
theorem Own.set_else {w : World} {base : Nat} {e : TypeId} {g : Nat} {A : Option Addr} {n c : Nat} {xs : List Value} (h : Own w base e 1 A n c xs) (hne : blk A = none ∨ blk A ≠ some g) (i : Nat) (u : Value) : Own (w.setCell ⟨g, i, none⟩ u) base e 1 A n c xs := by
  refine ⟨h.1, ?_⟩
  rcases h.2 with h0 | ⟨g', cap, cur, hv, hb, hh, hr⟩
  · exact .inl h0
  · refine .inr ⟨g', cap, cur, hv, hb, ?_, hr⟩
    have : g' ≠ g := by
      rintro rfl
      injection hv with hv
      subst hv
      rcases hne with h | h
      · cases h
      · exact h rfl
    simp only [World.setCell, Array.getElem?_modify]
    rw [if_neg (fun e => this e.symm)]
    exact hh
theorem Fam.set {ι : Type} [DecidableEq ι] {w : World} {B : Nat} {D : ι → Pie} (h : Fam w B D) (p : ι) {g : Nat} (hA : (D p).A = some ⟨g, 0, none⟩) (i : Nat) (u : Value) : Fam (w.setCell ⟨g, i, none⟩ u) B (upd D p { D p with xs := (D p).xs.set i u }) where
  own := fun q => by
    by_cases e : q = p
    · subst e
      rw [upd_same]
      have := h.own q
      dsimp only
      rw [hA] at this ⊢
      exact this.set_in i u
    · rw [upd_other _ e]
      refine (h.own q).set_else ?_ i u
      have := h.dist q p e
      rw [hA] at this
      exact this
  dist := fun q r hqr => by
    have hs : ∀ s, (upd D p { D p with xs := (D p).xs.set i u } s).A = (D s).A := fun s => by
      by_cases e : s = p
      · subst e; rw [upd_same]
      · rw [upd_other _ e]
    rw [hs, hs]
    exact h.dist q r hqr
/-! ### a table in such pieces -/
inductive Pc
  | oh | ow (i : Nat) | ph | hh (i : Nat) | pr (i j : Nat)
  deriving DecidableEq
structure Tab (D : Pc → Pie) (own : List (List Nat)) (P : List (List (List Nat))) : Prop where
  oh : (D .oh).n = own.length ∧ (D .oh).xs = (List.range own.length).map fun i => (D (.ow i)).v
  ow : ∀ i, i < own.length → (D (.ow i)).n = (own.getD i []).length ∧ (D (.ow i)).xs = nats .u32 (own.getD i [])
  ph : (D .ph).n = P.length ∧ (D .ph).xs = (List.range P.length).map fun i => (D (.hh i)).v
  hh : ∀ i, i < P.length → (D (.hh i)).n = (P.getD i []).length ∧ (D (.hh i)).xs = (List.range (P.getD i []).length).map fun j => (D (.pr i j)).v
  pr : ∀ i j, i < P.length → j < (P.getD i []).length → (D (.pr i j)).n = ((P.getD i []).getD j []).length ∧ (D (.pr i j)).xs = nats .u32 ((P.getD i []).getD j [])
theorem fam_rows {ι : Type} {w : World} {B : Nat} {D : ι → Pie} (h : Fam w B D) (hd : ι) (row : Nat → ι) (l : List (List Nat)) (h1 : (D hd).xs = (List.range l.length).map fun i => (D (row i)).v)
    (h2 : ∀ i, i < l.length → (D (row i)).n = (l.getD i []).length ∧ (D (row i)).xs = nats .u32 (l.getD i [])) : Rows_ w .u32 (D hd).A (D hd).xs l where
  at_ := (h.own hd).at_
  len := by rw [h1]; simp
  each := fun i v b hv hb => by
    have hi : i < l.length := by
      rcases Nat.lt_or_ge i l.length with h | h
      · exact h
      · rw [List.getElem?_eq_none h] at hb; cases hb
    have e : l.getD i [] = b := by rw [List.getD_eq_getElem?_getD, hb]; rfl
    obtain ⟨g1, g2⟩ := h2 i hi
    rw [e] at g1 g2
    rw [h1] at hv
    simp [hi] at hv
    subst hv
    have o := h.own (row i)
    refine ⟨(D (row i)).A, (D (row i)).c, by unfold Pie.v; rw [g1], ?_, ?_, ?_, o.cap.2⟩
    · have := o.at_; rw [g2] at this; exact this
    · intro e2
      rcases o.lies with ⟨_, h, _⟩ | ⟨g, h, _⟩
      · omega
      · rw [e2] at h; cases h
    · have := o.cap.1; omega
theorem Tab.rows {w : World} {B : Nat} {D : Pc → Pie} {own : List (List Nat)} {P : List (List (List Nat))} (h : Tab D own P) (f : Fam w B D) : Rows_ w .u32 (D .oh).A (D .oh).xs own := fam_rows f .oh .ow own h.oh.2 h.ow
end Go.Proofs.YtmdilfgeogedpaaDoor
