/- Layer 37, the document's tables: rows, and rows of rows, that lie apart from some blocks. Layer 37, the document's Hidden. Printed by ied.py. -/
import Derived.Test.YtmdilfgeogedpaaDoorIdV
import Derived.Test.YtmdilfgeogedpaaDoorIdZ
import Derived.Test.YtmdilfgeogedpaaDoorIdRa
namespace Go.Proofs.YtmdilfgeogedpaaDoor
open Go.RowKit
/-- cells that lie in none of the blocks X -/
def AtX (w : World) (X : Nat → Prop) (A : Option Addr) (xs : List Value) : Prop := At w A xs ∧ (xs = [] ∨ ∀ k, blk A = some k → ¬ X k)
section
variable {w w' wl : World} {X X' : Nat → Prop} {A : Option Addr} {xs : List Value}
theorem AtX.later (h : AtX w X A xs) (hb : Below w.heap.size w w') : AtX w' X A xs := ⟨h.1.later hb (Nat.le_refl _), h.2⟩
theorem AtX.sub (h : AtX w X A xs) (hx : ∀ k, X' k → X k) : AtX w X' A xs := ⟨h.1, h.2.imp id fun h k e hk => h k e (hx k hk)⟩
theorem AtX.widen (h : AtX w X A xs) (hx : ∀ k, X' k → X k ∨ w.heap.size ≤ k) : AtX w X' A xs := by
  refine ⟨h.1, ?_⟩
  by_cases h0 : xs = []
  · exact .inl h0
  · refine .inr fun k e hk => ?_
    rcases hx k hk with h1 | h1
    · exact h.2.resolve_left h0 k e h1
    · have := h.1.lt h0 k e; omega
theorem AtX.grown (h : AtX w X A xs) {r : Option Nat} (hr : ∀ k, r = some k → X k) (hg : w.grownBy w' r) : AtX w' X A xs := by
  refine ⟨?_, h.2⟩
  rcases h.2 with h0 | h0
  · rw [h0]; exact At.nil _ _
  · refine h.1.grown hg ?_
    cases hA : blk A with
    | none => exact .inl rfl
    | some k => exact .inr fun e => h0 k hA (hr k e.symm)
/-- behind an alloc and an append to a head in X -/
theorem AtX.turn (h : AtX w X A xs) (hb : Below w.heap.size w wl) {r : Option Nat} (hr : ∀ k, r = some k → X k) (hg : wl.grownBy w' r) (hx : ∀ k, X' k → X k ∨ wl.heap.size ≤ k) : AtX w' X' A xs := by
  have h1 := (h.later hb).widen (X' := fun k => X k ∨ X' k) (fun k hk => hk.elim .inl (hx k))
  exact (h1.grown (fun k e => .inl (hr k e)) hg).sub fun k hk => .inr hk
theorem AtX.of_low {B : Nat} (h : At w A xs) (hl : ∀ k, blk A = some k → xs ≠ [] → k < B) (hx : ∀ k, X k → B ≤ k) : AtX w X A xs := by
  refine ⟨h, ?_⟩
  by_cases h0 : xs = []
  · exact .inl h0
  · exact .inr fun k e hk => by have := hl k e h0; have := hx k hk; omega
end
structure RowsX (w : World) (X : Nat → Prop) (vs : List Value) (l : List (List Nat)) : Prop where
  len : vs.length = l.length
  each : ∀ (i : Nat) (v : Value) (b : List Nat), vs[i]? = some v → l[i]? = some b → ∃ A1 c1, v = .slice A1 b.length c1 ∧ AtX w X A1 (nats .u32 b) ∧ (A1 = none → b.length = 0) ∧ b.length ≤ c1 ∧ c1 ≤ maxLen
section
variable {w w' wl : World} {X X' : Nat → Prop} {vs : List Value} {l : List (List Nat)}
theorem RowsX.nil (w : World) (X : Nat → Prop) : RowsX w X [] [] := ⟨rfl, by intro i v b h; simp at h⟩
theorem RowsX.imp {w w' : World} (h : RowsX w X vs l) (hh : ∀ A xs, AtX w X A xs → AtX w' X' A xs) : RowsX w' X' vs l := ⟨h.len, fun i v b h1 h2 => by
  obtain ⟨A1, c1, e1, h2, h3⟩ := h.each i v b h1 h2
  exact ⟨A1, c1, e1, hh _ _ h2, h3⟩⟩
theorem RowsX.later (h : RowsX w X vs l) (hb : Below w.heap.size w w') : RowsX w' X vs l := h.imp fun _ _ h => h.later hb
theorem RowsX.turn (h : RowsX w X vs l) (hb : Below w.heap.size w wl) {r : Option Nat} (hr : ∀ k, r = some k → X k) (hg : wl.grownBy w' r) (hx : ∀ k, X' k → X k ∨ wl.heap.size ≤ k) : RowsX w' X' vs l := h.imp fun _ _ h => h.turn hb hr hg hx
theorem RowsX.snoc (h : RowsX w X vs l) {A1 : Option Addr} {c1 m : Nat} {b : List Nat} (hm : b.length = m) (h2 : AtX w X A1 (nats .u32 b)) (h3 : A1 = none → m = 0) (h4 : m ≤ c1) (h5 : c1 ≤ maxLen) : RowsX w X (vs ++ [.slice A1 m c1]) (l ++ [b]) := ⟨by simp [h.len], fun i v b' e1 e2 => by
  subst hm
  rcases Nat.lt_trichotomy i l.length with hi | hi | hi
  · rw [List.getElem?_append_left (by rw [h.len]; exact hi)] at e1
    rw [List.getElem?_append_left hi] at e2
    exact h.each i v b' e1 e2
  · subst hi
    rw [List.getElem?_append_right (by rw [h.len]; exact Nat.le_refl _), h.len, Nat.sub_self] at e1
    rw [List.getElem?_append_right (Nat.le_refl _), Nat.sub_self] at e2
    simp at e1 e2; subst e1; subst e2
    exact ⟨A1, c1, rfl, h2, h3, h4, h5⟩
  · rw [List.getElem?_eq_none (by simp; omega)] at e2; cases e2⟩
theorem RowsX.rows {A : Option Addr} (h : RowsX w X vs l) (ha : At w A vs) : Rows_ w .u32 A vs l where
  at_ := ha
  len := h.len
  each := fun i v b h1 h2 => by
    obtain ⟨A1, c1, e1, h2, h3, h4, h5⟩ := h.each i v b h1 h2
    exact ⟨A1, c1, e1, h2.1, h3, h4, h5⟩
end
structure Rows3X (w : World) (X : Nat → Prop) (vs : List Value) (l : List (List (List Nat))) : Prop where
  len : vs.length = l.length
  each : ∀ (i : Nat) (v : Value) (b : List (List Nat)), vs[i]? = some v → l[i]? = some b → ∃ A1 c1 ws, v = .slice A1 b.length c1 ∧ AtX w X A1 ws ∧ RowsX w X ws b ∧ (A1 = none → b.length = 0) ∧ b.length ≤ c1 ∧ c1 ≤ maxLen
section
variable {w w' wl : World} {X X' : Nat → Prop} {vs : List Value} {l : List (List (List Nat))}
theorem Rows3X.nil (w : World) (X : Nat → Prop) : Rows3X w X [] [] := ⟨rfl, by intro i v b h; simp at h⟩
theorem Rows3X.imp {w w' : World} (h : Rows3X w X vs l) (hh : ∀ A xs, AtX w X A xs → AtX w' X' A xs) : Rows3X w' X' vs l := ⟨h.len, fun i v b h1 h2 => by
  obtain ⟨A1, c1, ws, e1, h2, h3, h4⟩ := h.each i v b h1 h2
  exact ⟨A1, c1, ws, e1, hh _ _ h2, h3.imp hh, h4⟩⟩
theorem Rows3X.later (h : Rows3X w X vs l) (hb : Below w.heap.size w w') : Rows3X w' X vs l := h.imp fun _ _ h => h.later hb
theorem Rows3X.turn (h : Rows3X w X vs l) (hb : Below w.heap.size w wl) {r : Option Nat} (hr : ∀ k, r = some k → X k) (hg : wl.grownBy w' r) (hx : ∀ k, X' k → X k ∨ wl.heap.size ≤ k) : Rows3X w' X' vs l := h.imp fun _ _ h => h.turn hb hr hg hx
theorem Rows3X.snoc (h : Rows3X w X vs l) {A1 : Option Addr} {c1 m : Nat} {b : List (List Nat)} {ws : List Value} (hm : b.length = m) (h2 : AtX w X A1 ws) (h2' : RowsX w X ws b) (h3 : A1 = none → m = 0) (h4 : m ≤ c1) (h5 : c1 ≤ maxLen) : Rows3X w X (vs ++ [.slice A1 m c1]) (l ++ [b]) := ⟨by simp [h.len], fun i v b' e1 e2 => by
  subst hm
  rcases Nat.lt_trichotomy i l.length with hi | hi | hi
  · rw [List.getElem?_append_left (by rw [h.len]; exact hi)] at e1
    rw [List.getElem?_append_left hi] at e2
    exact h.each i v b' e1 e2
  · subst hi
    rw [List.getElem?_append_right (by rw [h.len]; exact Nat.le_refl _), h.len, Nat.sub_self] at e1
    rw [List.getElem?_append_right (Nat.le_refl _), Nat.sub_self] at e2
    simp at e1 e2; subst e1; subst e2
    exact ⟨A1, c1, ws, rfl, h2, h2', h3, h4, h5⟩
  · rw [List.getElem?_eq_none (by simp; omega)] at e2; cases e2⟩
theorem Rows3X.rows3 {A : Option Addr} (h : Rows3X w X vs l) (ha : At w A vs) : Rows3 w .u32 A vs l where
  at_ := ha
  len := h.len
  each := fun i v b h1 h2 => by
    obtain ⟨A1, c1, ws, e1, h2, h3, h4, h5, h6⟩ := h.each i v b h1 h2
    exact ⟨A1, c1, ws, e1, h3.rows h2.1, h4, h5, h6⟩
end
theorem Own.none_len {w : World} {B : Nat} {e : TypeId} {A : Option Addr} {n c : Nat} {xs : List Value} (h : Own w B e 1 A n c xs) (hA : A = none) : n = 0 := by
  rcases h.lies with ⟨_, h, _⟩ | ⟨g, e2, _⟩
  · exact h
  · rw [hA] at e2; cases e2
/-- an own piece since B lies apart from blocks below B -/
theorem Own.atx {w : World} {B : Nat} {e : TypeId} {A : Option Addr} {n c : Nat} {xs : List Value} {X : Nat → Prop} (h : Own w B e 1 A n c xs) (hx : ∀ k, X k → k < B) : AtX w X A xs :=
  ⟨h.at_, .inr fun k e hk => by have := (h.lt k e).1; have := hx k hk; omega⟩
/-- an inner list: a head of the call's own since B, its rows apart from it and from X -/
structure Inn (B : Nat) (X : Nat → Prop) (w0 w : World) (A : Option Addr) (k c : Nat) (vs : List Value) (l : List (List Nat)) : Prop where
  own : Own w B 54 1 A k c vs
  rows : RowsX w (fun j => X j ∨ blk A = some j) vs l
  low : Below B w0 w
theorem Inn.start (w : World) (X : Nat → Prop) : Inn w.heap.size X w w none 0 0 [] [] := ⟨Own.none_ _ _ _ _, RowsX.nil _ _, Below.refl _ _⟩
section
variable {B : Nat} {X : Nat → Prop} {w0 w w' : World} {A A' : Option Addr} {k c c' : Nat} {vs : List Value} {l : List (List Nat)}
theorem Inn.later (h : Inn B X w0 w A k c vs l) (hb : Below w.heap.size w w') (hB : B ≤ w.heap.size) : Inn B X w0 w' A k c vs l := ⟨h.own.below hb (Nat.le_refl _), h.rows.later hb, h.low.trans (hb.mono hB)⟩
theorem Inn.push (h : Inn B X w0 w A k c vs l) (hB : B ≤ w.heap.size) (hX : ∀ j, X j → j < B) {Ar : Option Addr} {m cr : Nat} {b : List Nat} (hm : b.length = m)
    (h2 : AtX w (fun j => X j ∨ blk A = some j) Ar (nats .u32 b)) (h3 : Ar = none → m = 0) (h4 : m ≤ cr) (h5 : cr ≤ maxLen)
    (ho : Own w' B 54 1 A' (k + 1) c' (vs ++ [.slice Ar m cr])) (hg : (w.alloc (.cells #[.slice Ar m cr] 54)).grownBy w' (blk A)) (hA : blk A' = blk A ∨ blk A' = some (w.alloc (.cells #[.slice Ar m cr] 54)).heap.size) :
    Inn B X w0 w' A' (k + 1) c' (vs ++ [.slice Ar m cr]) (l ++ [b]) := by
  have NB := (Below.refl w.heap.size w).alloc (Nat.le_refl _) (.cells #[.slice Ar m cr] 54)
  have hs : w.heap.size < (w.alloc (.cells #[.slice Ar m cr] 54)).heap.size := by simp
  refine ⟨ho, (h.rows.snoc hm h2 h3 h4 h5).turn NB (fun j e => .inr e) hg (fun j hj => ?_), (h.low.trans (NB.mono hB)).grown hg (Nat.le_trans hB (Nat.le_of_lt hs)) (fun j hj => (h.own.lt j hj).1)⟩
  rcases hj with hj | hj
  · exact .inl (.inl hj)
  · rcases hA with e | e
    · exact .inl (.inr (by rw [← e]; exact hj))
    · rw [e] at hj; injection hj with hj; exact .inr (by omega)
theorem Inn.done (h : Inn B X w0 w A k c vs l) (hX : ∀ j, X j → j < B) : AtX w X A vs ∧ RowsX w X vs l ∧ (A = none → k = 0) ∧ k ≤ c ∧ c ≤ maxLen ∧ l.length = k :=
  ⟨h.own.atx hX, h.rows.imp fun _ _ h => h.sub fun _ hk => .inl hk, h.own.none_len, h.own.cap.1, h.own.cap.2, by rw [← h.rows.len, h.own.len, Nat.mul_one]⟩
end
/-- a list of lists of rows, apart from X, which holds its head -/
structure Out3 (B : Nat) (X : Nat → Prop) (w : World) (A : Option Addr) (k c : Nat) (vs : List Value) (l : List (List (List Nat))) : Prop where
  own : Own w B 22 1 A k c vs
  rows : Rows3X w X vs l
  hd : ∀ j, blk A = some j → X j
theorem Out3.later {B : Nat} {X : Nat → Prop} {w w' : World} {A : Option Addr} {k c : Nat} {vs : List Value} {l : List (List (List Nat))} (h : Out3 B X w A k c vs l) (hb : Below w.heap.size w w') : Out3 B X w' A k c vs l := ⟨h.own.below hb (Nat.le_refl _), h.rows.later hb, h.hd⟩
theorem Out3.push {B : Nat} {X X' : Nat → Prop} {w w' : World} {A A' : Option Addr} {k c c' : Nat} {vs : List Value} {l : List (List (List Nat))} (h : Out3 B X w A k c vs l) {Ar : Option Addr} {m cr : Nat} {b : List (List Nat)} {ws : List Value} (hm : b.length = m)
    (h2 : AtX w X Ar ws) (h2' : RowsX w X ws b) (h3 : Ar = none → m = 0) (h4 : m ≤ cr) (h5 : cr ≤ maxLen)
    (ho : Own w' B 22 1 A' (k + 1) c' (vs ++ [.slice Ar m cr])) (hg : (w.alloc (.cells #[.slice Ar m cr] 22)).grownBy w' (blk A)) (hA : blk A' = blk A ∨ blk A' = some (w.alloc (.cells #[.slice Ar m cr] 22)).heap.size)
    (hX : ∀ j, X' j ↔ (X j ∨ blk A' = some j)) :
    Out3 B X' w' A' (k + 1) c' (vs ++ [.slice Ar m cr]) (l ++ [b]) := by
  have NB := (Below.refl w.heap.size w).alloc (Nat.le_refl _) (.cells #[.slice Ar m cr] 22)
  refine ⟨ho, (h.rows.snoc hm h2 h2' h3 h4 h5).turn NB h.hd hg (fun j hj => ?_), fun j hj => (hX j).2 (.inr hj)⟩
  rcases (hX j).1 hj with hj | hj
  · exact .inl hj
  · rcases hA with e | e
    · exact .inl (h.hd j (by rw [← e]; exact hj))
    · rw [e] at hj; injection hj with hj; exact .inr (by omega)
theorem Out3.turn {B : Nat} {X X' : Nat → Prop} {w wl w' : World} {A : Option Addr} {k c : Nat} {vs : List Value} {l : List (List (List Nat))} (h : Out3 B X w A k c vs l) (hb : Below w.heap.size w wl) {r : Option Nat} (hr : ∀ k, r = some k → X k) (hg : wl.grownBy w' r) (hne : blk A = none ∨ blk A ≠ r) (hx : ∀ k, X' k → X k ∨ wl.heap.size ≤ k) (hx2 : ∀ k, X k → X' k) : Out3 B X' w' A k c vs l :=
  ⟨(h.own.below hb (Nat.le_refl _)).kept hg hne, h.rows.turn hb hr hg hx, fun j e => hx2 j (h.hd j e)⟩
/-- a table under way: two heads of the call's own, apart from each other -/
structure ShS (G B : Nat) (X : Nat → Prop) (w : World) (A1 : Option Addr) (k1 c1 : Nat) (v1 : List Value) (own : List (List Nat)) (A2 : Option Addr) (k2 c2 : Nat) (v2 : List Value) (P : List (List (List Nat))) : Prop where
  o1 : Own w B 54 1 A1 k1 c1 v1
  r1 : RowsX w X v1 own
  h1 : ∀ j, blk A1 = some j → X j
  o2 : Out3 B X w A2 k2 c2 v2 P
  ne : ∀ j, blk A1 = some j → blk A2 ≠ some j
  ge : ∀ j, X j → G ≤ j
  gb : G ≤ B
  lt : ∀ j, X j → j < w.heap.size
section
variable {G B : Nat} {X : Nat → Prop} {w w' : World} {A1 A2 : Option Addr} {k1 c1 k2 c2 : Nat} {v1 v2 : List Value} {own : List (List Nat)} {P : List (List (List Nat))}
theorem ShS.start (w : World) (g q : Nat) (hg : g < q) (hq : q < w.heap.size) : ShS g (q + 1) (fun j => j = q ∨ j = g) w none 0 0 [] [] none 0 0 [] [] :=
  ⟨Own.none_ _ _ _ _, RowsX.nil _ _, fun j e => (by cases e), ⟨Own.none_ _ _ _ _, Rows3X.nil _ _, fun j e => (by cases e)⟩, fun j e => (by cases e), fun j h => by omega, by omega, fun j h => by omega⟩
/-- the box that holds the heads is written -/
theorem ShS.box {q : Nat} (h : ShS G B X w A1 k1 c1 v1 own A2 k2 c2 v2 P) (hX : X q) (hq : q < B) (i : Nat) (u : Value) : ShS G B X (w.setCell ⟨q, i, none⟩ u) A1 k1 c1 v1 own A2 k2 c2 v2 P := by
  have hg : w.grownBy (w.setCell ⟨q, i, none⟩ u) (some q) := grown_set (grown_refl _ _) i u
  have hr : ∀ k, some q = some k → X k := fun k e => by injection e with e; rw [← e]; exact hX
  have far : ∀ {e : TypeId} {A : Option Addr} {n c : Nat} {xs : List Value}, Own w B e 1 A n c xs → Own (w.setCell ⟨q, i, none⟩ u) B e 1 A n c xs := fun ho => ho.set_else (by
    cases e : blk _ with
    | none => exact .inl rfl
    | some k => exact .inr fun e2 => by injection e2 with e2; have := (ho.lt k e).1; omega) i u
  exact ⟨far h.o1, h.r1.imp fun _ _ h => h.grown hr hg, h.h1, ⟨far h.o2.own, h.o2.rows.imp fun _ _ h => h.grown hr hg, h.o2.hd⟩, h.ne, h.ge, h.gb, fun j hj => Nat.lt_of_lt_of_le (h.lt j hj) hg.size⟩
theorem ShS.later (h : ShS G B X w A1 k1 c1 v1 own A2 k2 c2 v2 P) (hb : Below w.heap.size w w') : ShS G B X w' A1 k1 c1 v1 own A2 k2 c2 v2 P :=
  ⟨h.o1.below hb (Nat.le_refl _), h.r1.later hb, h.h1, h.o2.later hb, h.ne, h.ge, h.gb, fun j hj => Nat.lt_of_lt_of_le (h.lt j hj) hb.size⟩
theorem ShS.push1 (h : ShS G B X w A1 k1 c1 v1 own A2 k2 c2 v2 P) (hB : B ≤ w.heap.size) {Ar : Option Addr} {m cr : Nat} {b : List Nat} (hm : b.length = m) (h2 : AtX w X Ar (nats .u32 b)) (h3 : Ar = none → m = 0) (h4 : m ≤ cr) (h5 : cr ≤ maxLen)
    {A' : Option Addr} {c' : Nat} (ho : Own w' B 54 1 A' (k1 + 1) c' (v1 ++ [.slice Ar m cr])) (hg : (w.alloc (.cells #[.slice Ar m cr] 54)).grownBy w' (blk A1)) (hA : blk A' = blk A1 ∨ blk A' = some (w.alloc (.cells #[.slice Ar m cr] 54)).heap.size) :
    ShS G B (fun j => X j ∨ blk A' = some j) w' A' (k1 + 1) c' (v1 ++ [.slice Ar m cr]) (own ++ [b]) A2 k2 c2 v2 P := by
  have NB := (Below.refl w.heap.size w).alloc (Nat.le_refl _) (.cells #[.slice Ar m cr] 54)
  have hx : ∀ j, (X j ∨ blk A' = some j) → X j ∨ (w.alloc (.cells #[.slice Ar m cr] 54)).heap.size ≤ j := fun j hj => by
    rcases hj with hj | hj
    · exact .inl hj
    · rcases hA with e | e
      · exact .inl (h.h1 j (by rw [← e]; exact hj))
      · rw [e] at hj; injection hj with hj; exact .inr (by omega)
  refine ⟨ho, (h.r1.snoc hm h2 h3 h4 h5).turn NB h.h1 hg hx, fun j e => .inr e, h.o2.turn NB h.h1 hg ?_ hx (fun j hj => .inl hj), fun j e => ?_, fun j hj => ?_, h.gb, fun j hj => ?_⟩
  · cases e : blk A2 with
    | none => exact .inl rfl
    | some k => exact .inr fun e2 => h.ne k e2.symm e
  · rcases hA with e2 | e2
    · exact h.ne j (by rw [← e2]; exact e)
    · intro e3
      rw [e2] at e; injection e with e
      have := (h.o2.own.lt j e3).2
      simp at e
      omega
  · rcases hj with hj | hj
    · exact h.ge j hj
    · exact Nat.le_trans h.gb (ho.lt j hj).1
  · rcases hj with hj | hj
    · have := h.lt j hj; have := hg.size; simp at this; omega
    · exact (ho.lt j hj).2
theorem ShS.push2 (h : ShS G B X w A1 k1 c1 v1 own A2 k2 c2 v2 P) (hB : B ≤ w.heap.size) {Ar : Option Addr} {m cr : Nat} {b : List (List Nat)} {ws : List Value} (hm : b.length = m) (h2 : AtX w X Ar ws) (h2' : RowsX w X ws b) (h3 : Ar = none → m = 0) (h4 : m ≤ cr) (h5 : cr ≤ maxLen)
    {A' : Option Addr} {c' : Nat} (ho : Own w' B 22 1 A' (k2 + 1) c' (v2 ++ [.slice Ar m cr])) (hg : (w.alloc (.cells #[.slice Ar m cr] 22)).grownBy w' (blk A2)) (hA : blk A' = blk A2 ∨ blk A' = some (w.alloc (.cells #[.slice Ar m cr] 22)).heap.size) :
    ShS G B (fun j => X j ∨ blk A' = some j) w' A1 k1 c1 v1 own A' (k2 + 1) c' (v2 ++ [.slice Ar m cr]) (P ++ [b]) := by
  have NB := (Below.refl w.heap.size w).alloc (Nat.le_refl _) (.cells #[.slice Ar m cr] 22)
  have hx : ∀ j, (X j ∨ blk A' = some j) → X j ∨ (w.alloc (.cells #[.slice Ar m cr] 22)).heap.size ≤ j := fun j hj => by
    rcases hj with hj | hj
    · exact .inl hj
    · rcases hA with e | e
      · exact .inl (h.o2.hd j (by rw [← e]; exact hj))
      · rw [e] at hj; injection hj with hj; exact .inr (by omega)
  refine ⟨(h.o1.below NB (Nat.le_refl _)).kept hg ?_, h.r1.turn NB h.o2.hd hg hx, fun j e => .inl (h.h1 j e), h.o2.push hm h2 h2' h3 h4 h5 ho hg hA (fun j => Iff.rfl), fun j e => ?_, fun j hj => ?_, h.gb, fun j hj => ?_⟩
  · cases e : blk A1 with
    | none => exact .inl rfl
    | some k => exact .inr fun e2 => h.ne k e e2.symm
  · rcases hA with e2 | e2
    · rw [e2]; exact h.ne j e
    · intro e3
      rw [e2] at e3; injection e3 with e3
      have := (h.o1.lt j e).2
      simp at e3
      omega
  · rcases hj with hj | hj
    · exact h.ge j hj
    · exact Nat.le_trans h.gb (ho.lt j hj).1
  · rcases hj with hj | hj
    · have := h.lt j hj; have := hg.size; simp at this; omega
    · exact (ho.lt j hj).2
/-- an old block in X is written twice -/
theorem ShS.two {q : Nat} (h : ShS G B X w A1 k1 c1 v1 own A2 k2 c2 v2 P) (hX : X q) (hq : q < B) (u v : Value) : ShS G B X ((w.setCell ⟨q, 0, none⟩ u).setCell ⟨q, 1, none⟩ v) A1 k1 c1 v1 own A2 k2 c2 v2 P := (h.box hX hq 0 u).box hX hq 1 v
end
theorem take_snocL {α : Type} {l : List (List α)} {k : Nat} (h : k < l.length) : l.take (k + 1) = l.take k ++ [l.getD k []] := by
  rw [List.take_add_one, List.getElem?_eq_getElem h]
  simp [List.getD_eq_getElem?_getD, List.getElem?_eq_getElem h]
theorem shO_get (came : List Int) (own : List (List Nat)) : ∀ m i, (shO came own m).getD i [] = if i < m ∧ SetM.has came (i : Nat) = false then clr (own.getD i []) else own.getD i []
  | 0, i => by rw [if_neg (by omega)]; rfl
  | m + 1, i => by
    have ih := shO_get came own m
    unfold shO
    cases hh : SetM.has came (m : Nat) with
    | true =>
      rw [if_pos rfl, ih]
      by_cases e : i = m
      · subst e; rw [if_neg (by omega), if_neg (fun h => by rw [hh] at h; cases h.2)]
      · by_cases h2 : i < m ∧ SetM.has came (i : Nat) = false
        · rw [if_pos h2, if_pos ⟨by omega, h2.2⟩]
        · rw [if_neg h2, if_neg (fun h => h2 ⟨by omega, h.2⟩)]
    | false =>
      rw [if_neg (by simp), getD_set_any]
      by_cases e : i = m
      · subst e
        by_cases hl : i < own.length
        · rw [if_pos ⟨rfl, by rw [shO_length]; exact hl⟩, ih, if_neg (by omega), if_pos ⟨by omega, hh⟩]
        · rw [if_neg (by rw [shO_length]; omega), ih, if_neg (by omega), if_pos ⟨by omega, hh⟩]
          have : own.getD i [] = [] := by rw [List.getD_eq_getElem?_getD, List.getElem?_eq_none (by omega)]; rfl
          rw [this]; rfl
      · rw [if_neg (by omega), ih]
        by_cases h2 : i < m ∧ SetM.has came (i : Nat) = false
        · rw [if_pos h2, if_pos ⟨by omega, h2.2⟩]
        · rw [if_neg h2, if_neg (fun h => h2 ⟨by omega, h.2⟩)]
end Go.Proofs.YtmdilfgeogedpaaDoor
namespace Go.Proofs.YtmdilfgeogedpaaDoor
open Go.RowKit
/-- a row of the call's own that the document's sum made -/
def RowTO (w : World) (l : List Nat) (e : Ending) (w' : World) : Prop :=
  ∃ A c, e = .returned (.tuple #[.slice A l.length c, .bool true]) ∧ Own w' w.heap.size 61 1 A l.length c (nats .u32 l) ∧ Below w.heap.size w w'
set_option maxRecDepth 100000 in
set_option maxHeartbeats 4000000 in
theorem radd_own (A : Option Addr) (n c : Nat) (l : List Nat) (A2 : Option Addr) (n2 c2 : Nat) (l2 : List Nat) (q : Nat) (w : World) (hl : l.length = n) (hl2 : l2.length = n2) (hn : n ≤ 32) (ha : At w A (nats .u32 l)) (ha2 : At w A2 (nats .u32 l2)) (hr : ∀ x ∈ l, x < 4294967296) (hr2 : ∀ x ∈ l2, x < 4294967296) (hnn : n = n2) (hq : q < 4294967296) :
    Calls Tryd.prog 22 #[.slice A n c, .slice A2 n2 c2, .int .u64 q] w (RowTO w (VE.lin q l l2)) := by
  subst hnn
  obtain ⟨B, hB⟩ : ∃ B, w.heap.size = B := ⟨_, rfl⟩
  have HBB := Lib.hid hB
  have HL := Lib.hid hl
  have HL2 := Lib.hid hl2
  have HA := Lib.hid ha
  have HA2 := Lib.hid ha2
  have HR := Lib.hid hr
  have HR2 := Lib.hid hr2
  have HLL := Lib.hid (show (VE.lin q l l2).length = n by rw [VE.lin_length, hl, hl2]; omega)
  clear hl hl2 ha ha2 hr hr2 hB
  go_enter Tryd.func22, Tryd.ntmps22
  go_wp2
  go_loopw [8, 9] (fun s i wr => ∃ (k : Nat) (Ao : Option Addr) (co : Nat), k ≤ n ∧ i = .int .i64 k ∧ s = .slice Ao k co ∧ Own wr B 61 1 Ao k co (nats .u32 ((VE.lin q l l2).take k)) ∧ Below B w wr) (fun _ i _ => n - (intOf i).toNat)
  case atStart => exact ⟨0, none, 0, by omega, rfl, rfl, Own.none_ _ _ _ _, Below.refl _ _⟩
  case round =>
    obtain ⟨k, Ao, co, hk, rfl, rfl, hown, hbel⟩ := hrel
    have O0 := Lib.hid hown
    have B0 := Lib.hid hbel
    clear hown hbel
    by_cases hlt : k < n
    · obtain ⟨b, o, rfl, hc⟩ := (HA.out.later B0.out (Nat.le_of_eq HBB.out)).nat k (by rw [HL.out]; exact hlt)
      obtain ⟨b2, o2, rfl, hc2⟩ := (HA2.out.later B0.out (Nat.le_of_eq HBB.out)).nat k (by rw [HL2.out]; exact hlt)
      have hx : l.getD k 0 < 4294967296 := by rw [getD_lt (by rw [HL.out]; exact hlt)]; exact HR.out _ (List.getElem_mem _)
      have hy : l2.getD k 0 < 4294967296 := by rw [getD_lt (by rw [HL2.out]; exact hlt)]; exact HR2.out _ (List.getElem_mem _)
      have hsn := VE.lin_snoc (k := q) (m := k) (a := l) (b := l2) (by rw [HL.out]; exact hlt) (by rw [HL2.out]; exact hlt)
      have HSN := Lib.hid hsn
      clear hsn
      generalize l.getD k 0 = x at *
      generalize l2.getD k 0 = y at *
      have hxi : (x : Int) < 4294967296 := by omega
      have hyi : (y : Int) < 4294967296 := by omega
      have hqi : (q : Int) < 4294967296 := by omega
      have HXY := Lib.hid (And.intro hx hy)
      clear hx hy
      go_wp2_with fail
      go_region_law (refine step_app rfl elt_u32 B (.tmp 26) (.tmp 42) rfl _ rfl (O0.out.drew.alloc _) _ rfl (At.lit _ _ _ _ _ rfl) rfl (by intro u hu; simp at hu; subst hu; rfl) (by unfold maxLen; omega) (by omega) (by have := B0.out.size; have := HBB.out; simp; omega) ?_; intro A3 c3 w3 own3 g3 _; have B3 := Lib.hid ((B0.out.drew.alloc (by have := B0.out.size; have := HBB.out; simp; omega) _).grown g3 (by have := B0.out.size; have := HBB.out; simp; omega) (fun j hj => (O0.out.lt j hj).1)); have O3 := Lib.hid own3; clear own3 g3)
      all_goals
        go_wp2_with fail
        refine ⟨⟨k + 1, A3, c3, by omega, by simp, rfl, ?_, B3.out⟩, by simp only [intOf]; omega⟩
        rw [HSN.out, nats_append]
        have o := O3.out
        rw [ref_val x y q HXY.out.1 HXY.out.2] at o
        exact o
    · obtain rfl : k = n := by omega
      go_wp2
      go_ret2
      have e : (VE.lin q l l2).take k = VE.lin q l l2 := List.take_of_length_le (by rw [HLL.out]; omega)
      have o := O0.out
      rw [e] at o
      exact ⟨Ao, co, by rw [HLL.out]; rfl, by rw [HLL.out, HBB.out]; exact o, by rw [HBB.out]; exact B0.out⟩
def TupB (B : Nat) (l : List Nat) (n : Nat) : Rel := fun v W => ∃ A c, v = .tuple #[.slice A n c, .bool true] ∧ Own W B 61 1 A n c (nats .u32 l)
theorem mono_tub (B : Nat) (l : List Nat) (n : Nat) : Mono (TupB B l n) := fun _ _ _ ⟨A, c, h1, h2⟩ hb => ⟨A, c, h1, h2.below hb (Nat.le_refl _)⟩
/-- what the document has of row i behind pairs (a, b) -/
def XX (P : List (List (List Nat))) (i n : Nat) (r : List Nat) (a b : Nat) : List Nat :=
  if a < i then (if b ≤ i then VE.hidR P i a r else VE.hidR P i (a + 1) r) else if a = i then VE.hidR P i b r else VE.hidR P i n r
def OO (P : List (List (List Nat))) (i n : Nat) (r : List Nat) (a : Nat) : List Nat := if a ≤ i then VE.hidR P i a r else VE.hidR P i n r
section
variable {P : List (List (List Nat))} {i n : Nat} {r : List Nat}
theorem hidR_self (P : List (List (List Nat))) (i : Nat) (r : List Nat) : VE.hidR P i (i + 1) r = VE.hidR P i i r := by
  rw [VE.hidR_succ]; unfold VE.hid1; rw [if_neg (by omega), if_neg (by omega)]
theorem XX_start (a : Nat) : XX P i n r a (a + 1) = OO P i n r a := by
  unfold XX OO
  rcases Nat.lt_trichotomy a i with h | h | h
  · rw [if_pos h, if_pos (by omega), if_pos (by omega)]
  · subst h; rw [if_neg (by omega), if_pos rfl, if_pos (by omega), hidR_self]
  · rw [if_neg (by omega), if_neg (by omega), if_neg (by omega)]
theorem XX_end (hi : i < n) (a : Nat) : XX P i n r a n = OO P i n r (a + 1) := by
  unfold XX OO
  rcases Nat.lt_trichotomy a i with h | h | h
  · rw [if_pos h, if_neg (by omega), if_pos (by omega)]
  · subst h; rw [if_neg (by omega), if_pos rfl, if_neg (by omega)]
  · rw [if_neg (by omega), if_neg (by omega), if_neg (by omega)]
theorem XX_add {b : Nat} (hb : i < b) : XX P i n r i (b + 1) = VE.lin 1 (XX P i n r i b) (VE.pairOf P i b) := by
  unfold XX
  rw [if_neg (by omega), if_pos rfl, if_neg (by omega), if_pos rfl, VE.hidR_succ]
  unfold VE.hid1
  rw [if_pos hb]
theorem XX_sub {a : Nat} (ha : a < i) : XX P i n r a (i + 1) = VE.lin 4294967295 (XX P i n r a i) (VE.pairOf P a i) := by
  unfold XX
  rw [if_pos ha, if_neg (by omega), if_pos ha, if_pos (by omega), VE.hidR_succ]
  unfold VE.hid1
  rw [if_neg (by omega), if_pos ha]
theorem XX_same {a b : Nat} (h1 : a ≠ i) (h2 : b ≠ i) : XX P i n r a (b + 1) = XX P i n r a b := by
  unfold XX
  by_cases h : a < i
  · rw [if_pos h, if_pos h]
    by_cases h3 : b ≤ i
    · rw [if_pos h3, if_pos (by omega)]
    · rw [if_neg h3, if_neg (by omega)]
  · rw [if_neg h, if_neg h, if_neg h1, if_neg h1]
theorem XX_length {d : Nat} (h : VE.PairsOk P n d) (hi : i < n) (hr : r.length = d) {a b : Nat} (ha : a < n) (hb : b ≤ n) : (XX P i n r a b).length = d := by
  unfold XX
  split
  · split <;> exact VE.hidR_length h hi hr _ (by omega)
  · split <;> exact VE.hidR_length h hi hr _ (by omega)
theorem OO_length {d : Nat} (h : VE.PairsOk P n d) (hi : i < n) (hr : r.length = d) {a : Nat} (ha : a ≤ n) : (OO P i n r a).length = d := by
  unfold OO
  split <;> exact VE.hidR_length h hi hr _ (by omega)
theorem XX_lt (hr : ∀ x ∈ r, x < 4294967296) {a b : Nat} : ∀ x ∈ XX P i n r a b, x < 4294967296 := by
  unfold XX
  split
  · split <;> exact VE.hidR_lt hr _
  · split <;> exact VE.hidR_lt hr _
theorem OO_end (hi : i < n) : OO P i n r n = VE.hidR P i n r := by
  unfold OO; rw [if_neg (by omega)]
end
def RHidE (w : World) (l : List (List Nat)) (n : Nat) (e : Ending) (w' : World) : Prop :=
  ∃ A c vs, e = .returned (.tuple #[.slice A n c, .int .i64 0]) ∧ Rows_ w' .u32 A vs l ∧ Below w.heap.size w w'
section
variable (A : Option Addr) (n c : Nat) (vs : List Value) (own : List (List Nat)) (A2 : Option Addr) (n2 c2 : Nat) (vs2 : List Value) (P : List (List (List Nat))) (A3 : Option Addr) (n3 c3 : Nat) (vs3 : List Value) (rows : List (List Nat))
set_option maxRecDepth 100000 in
set_option maxHeartbeats 1000000 in
theorem rhidden_no (w : World)
    (hl : own.length = n) (hn : n ≤ 9223372036854775807) (hr : Rows_ w .u32 A vs own) (hl2 : P.length = n2) (hn2 : n2 ≤ 9223372036854775807) (hr2 : Rows3 w .u32 A2 vs2 P) (hl3 : rows.length = n3) (hn3 : n3 ≤ 9223372036854775807) (hr3 : Rows_ w .u32 A3 vs3 rows) (hf : ¬ Fit own P rows) :
    Calls Tryd.prog 11 #[.agg #[.slice A n c, .slice A2 n2 c2], .slice A3 n3 c3] w fun e w' => e = .returned (.tuple #[.slice none 0 0, .int .i64 1]) ∧ Below w.heap.size w w' := by
  have HB0 := (Below.refl w.heap.size w).alloc (Nat.le_refl _) (.cells #[.slice A n c, .slice A2 n2 c2] 25)
  have Q := Lib.hid (rfits_b A n c vs own A2 n2 c2 vs2 P A3 n3 c3 vs3 rows _ false ⟨fun h => (by cases h), fun h => absurd h hf⟩ hl hn (hr.later HB0 (Nat.le_refl _)) hl2 hn2 (hr2.later HB0 (Nat.le_refl _)) hl3 hn3 (hr3.later HB0 (Nat.le_refl _)))
  have HB := Lib.hid HB0
  clear hl hr hl2 hr2 hl3 hr3 HB0 hf
  go_enter Tryd.func11, Tryd.ntmps11
  go_wp2_with fail
  with_reducible refine Q.out.mono ?_
  rintro e w1 ⟨rfl, b1⟩
  have B1 := Lib.hid (HB.out.trans (b1.mono HB.out.size))
  go_wp2_with fail
  exact bodyPost_ret (v := .tuple #[.slice none 0 0, .int .i64 1]) (by simp [results, Tryd.results11, go_sem]) rfl ⟨rfl, B1.out⟩
set_option maxRecDepth 100000 in
set_option maxHeartbeats 8000000 in
theorem rhidden_yes (d : Nat) (w : World)
    (hr : Rows_ w .u32 A vs own) (hr2 : Rows3 w .u32 A2 vs2 P) (hr3 : Rows_ w .u32 A3 vs3 rows) (hs : Shape own P rows n d) (hf : Fit own P rows) (u1 : U32 own) (u2 : ∀ l ∈ P, U32 l) (u3 : U32 rows) :
    Calls Tryd.prog 11 #[.agg #[.slice A n c, .slice A2 n c2], .slice A3 n c3] w (RHidE w (VE.hid own P rows) n) := by
  have h64 := hs.n64
  have hd32 := hs.d32
  have HB0 := (Below.refl w.heap.size w).alloc (Nat.le_refl _) (.cells #[.slice A n c, .slice A2 n c2] 25)
  have Q := Lib.hid (rfits_b A n c vs own A2 n c2 vs2 P A3 n c3 vs3 rows _ true ⟨fun _ => hf, fun _ => rfl⟩ hs.on (by omega) (hr.later HB0 (Nat.le_refl _)) hs.pn (by omega) (hr2.later HB0 (Nat.le_refl _)) hs.rn (by omega) (hr3.later HB0 (Nat.le_refl _)))
  have HB := Lib.hid HB0
  have HT := Lib.hid (Holds.new w 25 #[.slice A n c, .slice A2 n c2] w.heap.size rfl)
  have HS := Lib.hid hs
  have HR := Lib.hid hr
  have HR2 := Lib.hid hr2
  have HR3 := Lib.hid hr3
  have U1 := Lib.hid u1
  have U2 := Lib.hid u2
  have U3 := Lib.hid u3
  clear hr hr2 hr3 HB0 hf hs u1 u2 u3
  go_enter Tryd.func11, Tryd.ntmps11
  go_wp2_with fail
  with_reducible refine Q.out.mono ?_
  clear Q
  rintro e w1 ⟨rfl, b1⟩
  replace HT := Lib.hid (HT.out.later b1 (Nat.le_refl _))
  have HB1 := Lib.hid (HB.out.trans (b1.mono HB.out.size))
  clear b1 HB
  obtain ⟨gt, hgt⟩ : ∃ gt, w.heap.size = gt := ⟨_, rfl⟩
  rw [hgt] at HT ⊢
  have HGT := Lib.hid hgt
  clear hgt
  go_wp2_with fail
  go_loopw [6, 7] (fun o i wr => ∃ (k : Nat) (Ao : Option Addr) (co : Nat) (vo : List Value), k ≤ n ∧ i = .int .i64 k ∧ o = .slice Ao k co ∧ Out w1.heap.size w1 wr Ao k co vo ((VE.hid own P rows).take k)) (fun _ i _ => (n - intOf i).toNat)
  case atStart => exact ⟨0, none, 0, [], by omega, rfl, rfl, Out.start w1⟩
  case round =>
    obtain ⟨k, Ao, co, vo, hk, rfl, rfl, hout⟩ := hrel
    have HO := Lib.hid hout
    have BW := Lib.hid (HB1.out.trans (hout.low.mono HB1.out.size))
    have HTr := Lib.hid (HT.out.later hout.low (Nat.le_refl _))
    clear hout
    by_cases hkn : k < n
    · obtain ⟨b3, o3, Ax, cx, hA3, hcx, hax, _, hlx, hmx, _⟩ := (HR3.out.later BW.out (Nat.le_refl _)).get k (by rw [HS.out.rn]; exact hkn)
      obtain ⟨b1, o1, Ay, cy, hA1, hcy, hay, _, hly, hmy, _⟩ := (HR.out.later BW.out (Nat.le_refl _)).get k (by rw [HS.out.on]; exact hkn)
      rw [HS.out.rd k hkn] at hcx hlx
      rw [HS.out.od k hkn] at hcy hly
      subst hA3; subst hA1
      have q0 : wr.cell? ⟨gt, 0, none⟩ = some (.slice (some ⟨b1, o1, none⟩) n c) := HTr.out.cell 0
      have lt3 := lt_of_cell hcx
      have lt1 := lt_of_cell hcy
      have ltg := lt_of_cell q0
      have QA := Lib.hid (fun W (hW : Below wr.heap.size wr W) => radd_own Ax d cx (rows.getD k []) Ay d cy (own.getD k []) 1 W (HS.out.rd k hkn) (HS.out.od k hkn) hd32 (hax.later hW (Nat.le_refl _)) (hay.later hW (Nat.le_refl _)) (U3.out.get k) (U1.out.get k) rfl (by decide))
      have HL0 := Lib.hid (show (VE.lin 1 (rows.getD k []) (own.getD k [])).length = d from by rw [VE.lin_length, HS.out.rd k hkn, HS.out.od k hkn]; exact Nat.min_self d)
      have HU0 := Lib.hid (VE.lin_lt 1 (rows.getD k []) (own.getD k []))
      have HHR := Lib.hid (show VE.hidRow own P rows k = VE.hidR P k n (VE.lin 1 (rows.getD k []) (own.getD k [])) from by unfold VE.hidRow; rw [HS.out.rn])
      generalize VE.lin 1 (rows.getD k []) (own.getD k []) = r0 at *
      unfold RowTO at QA
      rw [HL0.out] at QA
      rw [show (((1 : Nat) : Int)) = 1 from rfl] at QA
      clear hax hay hlx hly hmx hmy
      go_upto_region 7 with fail
      refine wp_region_below (is ?c0 :: is ?c1 :: is ?c2 :: is ?c3 :: is ?c4 :: is ?c5 :: is ?c6 :: is ?c7 :: is ?c8 :: TupB wr.heap.size r0 d :: TupB wr.heap.size r0 d :: SliR wr.heap.size r0 d :: is (.bool true) :: SliR wr.heap.size r0 d :: is ?c14 :: [])
        [⟨[], [1], none⟩, ⟨[], [7], none⟩, ⟨[(23, 0), (24, 1)], [], none⟩, ⟨[(25, 2)], [], none⟩, ⟨[], [2], none⟩, ⟨[(27, 4)], [], none⟩, ⟨[], [7], none⟩, ⟨[(28, 5), (29, 6)], [], none⟩, ⟨[(30, 7)], [], none⟩, ⟨[(26, 3), (31, 8)], [], none⟩, ⟨[(32, 9)], [], none⟩, ⟨[(22, 10)], [], none⟩, ⟨[(22, 10)], [], none⟩, ⟨[(33, 11)], [], none⟩, ⟨[(34, 12)], [], none⟩] (by kernel_rfl) (by kernel_rfl) (by kernel_rfl) (by kernel_rfl) (by kernel_rfl) ?monoc ?stepsc ?finc
      case monoc => exact ⟨mono_eq _, mono_eq _, mono_eq _, mono_eq _, mono_eq _, mono_eq _, mono_eq _, mono_eq _, mono_eq _, mono_tub _ _ _, mono_tub _ _ _, mono_sli _ _ _, mono_eq _, mono_sli _ _ _, mono_eq _, trivial⟩
      case stepsc =>
        refine ⟨fun ρ W ⟨hcst, hglb, hfun⟩ hX hp ho => ?_, ?_⟩ -- 0: slot 23 := Op.move t1
        · obtain ⟨o1, -⟩ := ho
          change ρ (.tmp 1) = _ at o1
          refine turn_plain (ok_is ?_ rfl)
          simp only [execOp, o1]; go_simp; try exact rfl
        refine ⟨fun ρ W ⟨hcst, hglb, hfun⟩ hX hp ho => ?_, ?_⟩ -- 1: slot 24 := Op.move t7
        · obtain ⟨o7, -⟩ := ho
          change ρ (.tmp 7) = _ at o7
          refine turn_plain (ok_is ?_ rfl)
          simp only [execOp, o7]; go_simp; try exact rfl
        refine ⟨fun ρ W ⟨hcst, hglb, hfun⟩ hX hp ho => ?_, ?_⟩ -- 2: slot 25 := Op.indexAddr 22 t23 t24
        · obtain ⟨p23, p24, -⟩ := hp
          change ρ (.tmp 23) = _ at p23
          change ρ (.tmp 24) = _ at p24
          refine turn_plain (ok_is ?_ rfl)
          simp only [execOp, p23, p24]; go_simp; try exact rfl
        refine ⟨fun ρ W ⟨hcst, hglb, hfun⟩ hX hp ho => ?_, ?_⟩ -- 3: slot 26 := Op.load 54 t25
        · obtain ⟨p25, -⟩ := hp
          change ρ (.tmp 25) = _ at p25
          have q := (((Below.refl _ _).drew.trans hX).cell (p := ⟨b3, o3 + k, none⟩) lt3).trans hcx
          refine turn_plain (ok_is ?_ rfl)
          simp only [execOp, p25]; go_simp; try exact rfl
        refine ⟨fun ρ W ⟨hcst, hglb, hfun⟩ hX hp ho => ?_, ?_⟩ -- 4: slot 27 := Op.fieldAddr 25 t2 0
        · obtain ⟨o2, -⟩ := ho
          change ρ (.tmp 2) = _ at o2
          refine turn_plain (ok_is ?_ rfl)
          simp only [execOp, o2]; go_simp; try exact rfl
        refine ⟨fun ρ W ⟨hcst, hglb, hfun⟩ hX hp ho => ?_, ?_⟩ -- 5: slot 28 := Op.load 22 t27
        · obtain ⟨p27, -⟩ := hp
          change ρ (.tmp 27) = _ at p27
          have q := (((Below.refl _ _).drew.trans hX).cell (p := ⟨gt, 0, none⟩) ltg).trans q0
          refine turn_plain (ok_is ?_ rfl)
          simp only [execOp, p27]; go_simp; try exact rfl
        refine ⟨fun ρ W ⟨hcst, hglb, hfun⟩ hX hp ho => ?_, ?_⟩ -- 6: slot 29 := Op.move t7
        · obtain ⟨o7, -⟩ := ho
          change ρ (.tmp 7) = _ at o7
          refine turn_plain (ok_is ?_ rfl)
          simp only [execOp, o7]; go_simp; try exact rfl
        refine ⟨fun ρ W ⟨hcst, hglb, hfun⟩ hX hp ho => ?_, ?_⟩ -- 7: slot 30 := Op.indexAddr 22 t28 t29
        · obtain ⟨p28, p29, -⟩ := hp
          change ρ (.tmp 28) = _ at p28
          change ρ (.tmp 29) = _ at p29
          refine turn_plain (ok_is ?_ rfl)
          simp only [execOp, p28, p29]; go_simp; try exact rfl
        refine ⟨fun ρ W ⟨hcst, hglb, hfun⟩ hX hp ho => ?_, ?_⟩ -- 8: slot 31 := Op.load 54 t30
        · obtain ⟨p30, -⟩ := hp
          change ρ (.tmp 30) = _ at p30
          have q := (((Below.refl _ _).drew.trans hX).cell (p := ⟨b1, o1 + k, none⟩) lt1).trans hcy
          refine turn_plain (ok_is ?_ rfl)
          simp only [execOp, p30]; go_simp; try exact rfl
        refine ⟨fun ρ W ⟨hcst, hglb, hfun⟩ hX hp ho => ?_, ?_⟩ -- 9: slot 32 := Op.call { value (Operand.func 22), args := #[t26, t31, const (1:u64)], argTypes := #[54, 5
        · obtain ⟨p26, p31, -⟩ := hp
          change ρ (.tmp 26) = _ at p26
          change ρ (.tmp 31) = _ at p31
          have hW := (Below.refl _ _).drew.trans hX
          refine turn_plain ?_
          have ce := @enter_of Tryd.prog 22 _ Tryd.func22 (by kernel_rfl) (by kernel_rfl)
          refine ok_call (op_call3 hfun ce (by exact rfl) p26 p31 (hcst _)) ?_
          refine (QA.out W hW).mono ?_
          rintro e W' ⟨A_, c_, rfl, ho, bel⟩
          exact ⟨_, rfl, bel, A_, c_, rfl, ownsRow_le_ ho hW.size⟩
        refine ⟨fun ρ W ⟨hcst, hglb, hfun⟩ hX hp ho => ?_, ?_⟩ -- 10: slot 22 := Op.move t32
        · obtain ⟨p32, -⟩ := hp
          obtain ⟨A32, c32, p32, hat32⟩ := p32
          change ρ (.tmp 32) = _ at p32
          have hW := (Below.refl _ _).drew.trans hX
          refine turn_plain ?_
          refine ok_val (v := .tuple #[.slice A32 d c32, .bool true]) (W' := W) (by simp only [execOp, p32]; go_simp) (Below.refl _ _) ⟨A32, c32, rfl, hat32⟩
        refine ⟨fun ρ W ⟨hcst, hglb, hfun⟩ hX hp ho => ?_, ?_⟩ -- 11: slot 33 := Op.extract t22 0
        · obtain ⟨p22, -⟩ := hp
          obtain ⟨A22, c22, p22, hat22⟩ := p22
          change ρ (.tmp 22) = _ at p22
          have hW := (Below.refl _ _).drew.trans hX
          refine turn_plain ?_
          refine ok_val (v := .slice A22 d c22) (W' := W) (by simp only [execOp, p22]; go_simp) (Below.refl _ _) ⟨A22, c22, rfl, hat22⟩
        refine ⟨fun ρ W ⟨hcst, hglb, hfun⟩ hX hp ho => ?_, ?_⟩ -- 12: slot 34 := Op.extract t22 1
        · obtain ⟨p22, -⟩ := hp
          obtain ⟨A22, c22, p22, hat22⟩ := p22
          change ρ (.tmp 22) = _ at p22
          have hW := (Below.refl _ _).drew.trans hX
          refine turn_plain ?_
          refine ok_val (v := .bool true) (W' := W) (by simp only [execOp, p22]; go_simp) (Below.refl _ _) rfl
        refine ⟨fun ρ W ⟨hcst, hglb, hfun⟩ hX hp ho => ?_, ?_⟩ -- 13: slot 8 := Op.assign t33
        · obtain ⟨p33, -⟩ := hp
          obtain ⟨A33, c33, p33, hat33⟩ := p33
          change ρ (.tmp 33) = _ at p33
          have hW := (Below.refl _ _).drew.trans hX
          refine turn_plain ?_
          refine ok_val (v := .slice A33 d c33) (W' := W) (by simp only [execOp, p33]; go_simp) (Below.refl _ _) ⟨A33, c33, rfl, hat33⟩
        refine ⟨fun ρ W ⟨hcst, hglb, hfun⟩ hX hp ho => ?_, ?_⟩ -- 14: slot 9 := Op.assign t34
        · obtain ⟨p34, -⟩ := hp
          change ρ (.tmp 34) = _ at p34
          refine turn_plain (ok_is ?_ rfl)
          simp only [execOp, p34]; go_simp; try exact rfl
        exact trivial
      case finc =>
        rintro v wz hX ⟨f0, f1, f2, f3, f4, f5, f6, f7, f8, f9, f10, f11, f12, f13, f14, -⟩
        obtain ⟨A_9, c_9, f9, hat_9⟩ := f9
        obtain ⟨A_10, c_10, f10, hat_10⟩ := f10
        obtain ⟨A_11, c_11, f11, hat_11⟩ := f11
        obtain ⟨A_13, c_13, f13, hat_13⟩ := f13
        simp only [is] at f0 f1 f2 f3 f4 f5 f6 f7 f8 f12 f14
        simp only [putAll, Act.put, List.setIfInBounds_toArray, List.set_cons_succ, List.set_cons_zero, f0, f1, f2, f3, f4, f5, f6, f7, f8, f9, f10, f11, f12, f13, f14]
        clear f0 f1 f2 f3 f4 f5 f6 f7 f8 f9 f10 f11 f12 f13 f14
        have HM := Lib.hid hat_13
        have BZ := Lib.hid hX
        clear hat_9 hat_10 hat_11 hat_13 hX q0 hcx hcy
        obtain ⟨wk, rfl⟩ : ∃ wk, wk = wr := ⟨_, rfl⟩
        go_wp2_with fail
        go_loopw [8, 10] (fun r j wq => ∃ (a : Nat) (Ar : Option Addr) (cr : Nat), a ≤ n ∧ j = .int .i64 a ∧ r = .slice Ar d cr ∧ Own wq wk.heap.size 61 1 Ar d cr (nats .u32 (OO P k n r0 a)) ∧ Below wk.heap.size wk wq) (fun _ j _ => (n - intOf j).toNat)
        case atStart => exact ⟨0, A_13, c_13, by omega, rfl, rfl, HM.out, BZ.out⟩
        case round =>
          clear HM BZ
          obtain ⟨a, Ar, cr, ha, rfl, rfl, hor, hbr⟩ := hrel
          have OM := Lib.hid hor
          have BM := Lib.hid hbr
          clear hor hbr
          by_cases han : a < n
          · go_wp2_with fail
            go_loopw [8, 11] (fun r j wq => ∃ (b : Nat) (Ar : Option Addr) (cr : Nat), a < b ∧ b ≤ n ∧ j = .int .i64 b ∧ r = .slice Ar d cr ∧ Own wq wk.heap.size 61 1 Ar d cr (nats .u32 (XX P k n r0 a b)) ∧ Below wk.heap.size wk wq) (fun _ j _ => (n - intOf j).toNat)
            case atStart => exact ⟨a + 1, Ar, cr, by omega, by omega, by simp, rfl, by rw [XX_start]; exact OM.out, BM.out⟩
            case round =>
              clear OM BM
              obtain ⟨b, Ar, cr, hab, hb, rfl, rfl, hor, hbr⟩ := hrel
              have OM := Lib.hid hor
              have BM := Lib.hid hbr
              have HTm := Lib.hid (HTr.out.later hbr (Nat.le_refl _))
              have R3m := Lib.hid ((HR2.out.later BW.out (Nat.le_refl _)).later hbr (Nat.le_refl _))
              have lm := Lib.hid (XX_length HS.out.pd hkn HL0.out han hb)
              have um := Lib.hid (XX_lt (P := P) (i := k) (n := n) (a := a) (b := b) HU0.out)
              clear hor hbr
              by_cases hbn : b < n
              · by_cases e1 : a = k
                · subst e1
                  have es := Lib.hid (XX_add (P := P) (n := n) (r := r0) hab)
                  generalize XX P a n r0 a b = r1 at *
                  have hba : ((b : Int) == (a : Int)) = false := by simp; omega
                  have pm := Lib.hid (HS.out.pd a b (by omega) (by omega))
                  have um2 := Lib.hid (u32_pair U2.out a b)
                  obtain ⟨b5, o5, Ah, ch, ws, mh, hA2, hch, hrh, hmh, _⟩ := R3m.out.getm a (by rw [HS.out.pn]; omega) (Below.refl _ _)
                  have hmh2 : mh = n - 1 - a := by rw [← hmh, HS.out.pl a (by omega)]
                  obtain ⟨b6, o6, Ap, cp, mp, hAh, hcp, hap, hmp, _⟩ := hrh.getm (b - a - 1) (by rw [hmh]; omega) (Below.refl _ _)
                  have hmp2 : mp = d := by rw [← hmp]; exact pm.out
                  subst hmp2 hA2 hAh
                  rw [show (P.getD a []).getD (b - a - 1) [] = VE.pairOf P a b from rfl] at hap
                  have q2 : wr.cell? ⟨gt, 1, none⟩ = some (.slice (some ⟨b5, o5, none⟩) n c2) := HTm.out.cell 1
                  obtain ⟨jj, hjj⟩ : ∃ jj, b - a - 1 = jj := ⟨_, rfl⟩
                  rw [hjj] at hcp
                  have w1_ : IntKind.i64.wrap ((b : Int) - a) = ((jj + 1 : Nat) : Int) := by rw [wrap_small' _ (by omega)]; omega
                  have w2_ : IntKind.i64.wrap (((jj + 1 : Nat) : Int) - 1) = (jj : Int) := by rw [wrap_small' _ (by omega)]; omega
                  have w3_ : IntKind.i64.wrap (jj : Int) = (jj : Int) := wrap_small' _ (by omega)
                  have hji : (jj : Int) < mh := by omega
                  have QA := Lib.hid (radd_own Ar mp cr r1 Ap mp cp (VE.pairOf P a b) 1 wr lm.out pm.out hd32 OM.out.at_ hap um.out um2.out rfl (by decide))
                  have ll := Lib.hid (show (VE.lin 1 r1 (VE.pairOf P a b)).length = mp from by rw [VE.lin_length, lm.out, pm.out]; exact Nat.min_self mp)
                  generalize VE.lin 1 r1 (VE.pairOf P a b) = r2 at *
                  unfold RowTO at QA
                  rw [ll.out] at QA
                  rw [show (((1 : Nat) : Int)) = 1 from rfl] at QA
                  clear hmh hmh2 hrh hap hmp hjj
                  go_wp2_with fail
                  with_reducible refine QA.out.mono ?_
                  clear QA
                  rintro e w4 ⟨As, cs, rfl, os, bs⟩
                  have OS := Lib.hid (ownsRow_le_ os BM.out.size)
                  have B4 := Lib.hid (BM.out.trans (bs.mono BM.out.size))
                  clear os bs
                  go_wp2_with fail
                  exact ⟨⟨b + 1, As, cs, by omega, by omega, by simp, rfl, by rw [es.out]; exact OS.out, B4.out⟩, by simp [intOf]; omega⟩
                · have hak : ((a : Int) == (k : Int)) = false := by simp; omega
                  by_cases e2 : b = k
                  · subst e2
                    have es := Lib.hid (XX_sub (P := P) (n := n) (r := r0) hab)
                    generalize XX P b n r0 a b = r1 at *
                    have pm := Lib.hid (HS.out.pd a b (by omega) (by omega))
                    have um2 := Lib.hid (u32_pair U2.out a b)
                    obtain ⟨b5, o5, Ah, ch, ws, mh, hA2, hch, hrh, hmh, _⟩ := R3m.out.getm a (by rw [HS.out.pn]; omega) (Below.refl _ _)
                    have hmh2 : mh = n - 1 - a := by rw [← hmh, HS.out.pl a (by omega)]
                    obtain ⟨b6, o6, Ap, cp, mp, hAh, hcp, hap, hmp, _⟩ := hrh.getm (b - a - 1) (by rw [hmh]; omega) (Below.refl _ _)
                    have hmp2 : mp = d := by rw [← hmp]; exact pm.out
                    subst hmp2 hA2 hAh
                    rw [show (P.getD a []).getD (b - a - 1) [] = VE.pairOf P a b from rfl] at hap
                    have q2 : wr.cell? ⟨gt, 1, none⟩ = some (.slice (some ⟨b5, o5, none⟩) n c2) := HTm.out.cell 1
                    obtain ⟨jj, hjj⟩ : ∃ jj, b - a - 1 = jj := ⟨_, rfl⟩
                    rw [hjj] at hcp
                    have w1_ : IntKind.i64.wrap ((b : Int) - a) = ((jj + 1 : Nat) : Int) := by rw [wrap_small' _ (by omega)]; omega
                    have w2_ : IntKind.i64.wrap (((jj + 1 : Nat) : Int) - 1) = (jj : Int) := by rw [wrap_small' _ (by omega)]; omega
                    have w3_ : IntKind.i64.wrap (jj : Int) = (jj : Int) := wrap_small' _ (by omega)
                    have hji : (jj : Int) < mh := by omega
                    have QA := Lib.hid (radd_own Ar mp cr r1 Ap mp cp (VE.pairOf P a b) 4294967295 wr lm.out pm.out hd32 OM.out.at_ hap um.out um2.out rfl (by decide))
                    have ll := Lib.hid (show (VE.lin 4294967295 r1 (VE.pairOf P a b)).length = mp from by rw [VE.lin_length, lm.out, pm.out]; exact Nat.min_self mp)
                    generalize VE.lin 4294967295 r1 (VE.pairOf P a b) = r2 at *
                    unfold RowTO at QA
                    rw [ll.out] at QA
                    rw [show (((4294967295 : Nat) : Int)) = 4294967295 from rfl] at QA
                    clear hmh hmh2 hrh hap hmp hjj
                    go_wp2_with fail
                    with_reducible refine QA.out.mono ?_
                    clear QA
                    rintro e w4 ⟨As, cs, rfl, os, bs⟩
                    have OS := Lib.hid (ownsRow_le_ os BM.out.size)
                    have B4 := Lib.hid (BM.out.trans (bs.mono BM.out.size))
                    clear os bs
                    go_wp2_with fail
                    exact ⟨⟨b + 1, As, cs, by omega, by omega, by simp, rfl, by rw [es.out]; exact OS.out, B4.out⟩, by simp [intOf]; omega⟩
                  · have hbk : ((b : Int) == (k : Int)) = false := by simp; omega
                    have es := Lib.hid (XX_same (P := P) (n := n) (r := r0) e1 e2)
                    go_wp2_with fail
                    exact ⟨⟨b + 1, Ar, cr, by omega, by omega, by simp, rfl, by rw [es.out]; exact OM.out, BM.out⟩, by simp [intOf]; omega⟩
              · obtain rfl : n = b := by omega
                have es := Lib.hid (XX_end (P := P) (r := r0) hkn a)
                go_wp2_with fail
                exact ⟨⟨a + 1, Ar, cr, by omega, by simp, rfl, by rw [← es.out]; exact OM.out, BM.out⟩, by simp [intOf]; omega⟩
          · obtain rfl : n = a := by omega
            have es := Lib.hid (OO_end (P := P) (r := r0) hkn)
            rw [es.out] at OM
            have lm := Lib.hid (VE.hidR_length HS.out.pd hkn HL0.out n (Nat.le_refl _))
            have HOm := Lib.hid (HO.out.later BM.out HO.out.low.size)
            have HT4 := Lib.hid (show (VE.hid own P rows).take (k + 1) = (VE.hid own P rows).take k ++ [VE.hidR P k n r0] from by rw [VE.hid_take (by rw [HS.out.rn]; exact hkn), HHR.out])
            have SZ := Lib.hid (Nat.le_trans HO.out.low.size BM.out.size)
            have N3 := Lib.hid (show Ar = none → d = 0 from fun e => by
              rcases OM.out.lies with ⟨_, h, _⟩ | ⟨g, e2, _⟩
              · exact h
              · rw [e] at e2; cases e2)
            have F := Lib.hid (show VE.hidR P k n r0 = [] ∨ blk Ar ≠ blk Ao from by
              rcases OM.out.lies with ⟨_, h, _⟩ | ⟨g, e, hg, _⟩
              · exact .inl (List.eq_nil_of_length_eq_zero (by rw [lm.out]; exact h))
              · refine .inr fun e2 => ?_
                have := (HO.out.own.lt g (by rw [← e2, e]; rfl)).2
                omega)
            go_wp2_with (at_builtin; refine wpList_app rfl elt_sl32 w1.heap.size (.tmp 87) (.tmp 89) rfl _ rfl (HOm.out.own.alloc _) [.slice Ar d cr] rfl (At.lit _ _ _ _ _ rfl) rfl (by intro u hu; simp at hu; subst hu; rfl) (by unfold maxLen; omega) (by omega) (by have := SZ.out; simp; omega) ?_; intro A' c' w' ow g k5; have N := Lib.hid (Out.push' HOm.out SZ.out lm.out OM.out.at_ N3.out OM.out.cap.1 OM.out.cap.2 F.out ow g k5); clear ow g k5)
            refine ⟨⟨k + 1, A', c', vo ++ [.slice Ar d cr], by omega, by simp, rfl, ?_⟩, ?_⟩
            · rw [HT4.out]; exact N.out
            · simp [intOf]; omega

    · obtain rfl : k = n := by omega
      have HH := Lib.hid (show (VE.hid own P rows).take k = VE.hid own P rows ∧ (VE.hid own P rows).length = k from by
        have h1 : (VE.hid own P rows).length = k := by rw [VE.hid_length]; exact HS.out.rn
        exact ⟨List.take_of_length_le (by omega), h1⟩)
      go_wp2_with fail
      refine bodyPost_ret (v := .tuple #[.slice Ao k co, .int .i64 0]) (by simp [results, Tryd.results11, go_sem]) rfl ⟨Ao, co, vo, rfl, ?_, BW.out⟩
      have := HO.out.rows.rows HO.out.own.at_
      rw [HH.out.1] at this
      exact this
end
end Go.Proofs.YtmdilfgeogedpaaDoor
