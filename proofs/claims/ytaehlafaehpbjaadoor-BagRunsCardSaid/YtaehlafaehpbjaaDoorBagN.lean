/- Layer 20: the bag and the law's own list beside each other. -/
import Derived.Test.YtaehlafaehpbjaaDoorBagM
import Derived.Test.YtaehlafaehpbjaaDoorBagE
namespace Go.Proofs.YtaehlafaehpbjaaDoor
open Go.RowKit
section
variable {w w' : World} {g base n c : Nat} {M : Int} {A : Option Addr} {vs : List (Int × Value)} {l : List (Int × List Nat)}
/-- a block that is none of the bag's is written -/
theorem Bag.other {row : Option Nat} (h : Bag w g base M A n c vs l) (hg : w.grownBy w' row) (h1 : row ≠ some g) (h2 : row = none ∨ blk A ≠ row) (h3 : ∀ p ∈ vs, ∀ k, hdr p.2 = some k → row ≠ some k) : Bag w' g base M A n c vs l := by
  refine ⟨h.blk_.grown hg h1, h.own.kept hg ?_, h.len, fun i p q e1 e2 => ⟨(h.bod i p q e1 e2).1, ?_⟩, h.far⟩
  · cases hA : blk A with
    | none => exact .inl rfl
    | some k =>
      rcases h2 with rfl | h2
      · exact .inr (by simp)
      · exact .inr (by rw [← hA]; exact h2)
  · obtain ⟨A1, c1, ev, hl, hat, hn, hk⟩ := (h.bod i p q e1 e2).2
    refine ⟨A1, c1, ev, hl, hat.grown hg ?_, hn, fun k e => ⟨(hk k e).1, Nat.lt_of_lt_of_le (hk k e).2.1 hg.size, (hk k e).2.2⟩⟩
    cases hA : blk A1 with
    | none => exact .inl rfl
    | some k => exact .inr (fun e => h3 p (List.mem_of_getElem? e1) k (by rw [ev]; exact hA) e.symm)
/-- the bag holds LS, the law's list L -/
structure St (w wr : World) (M : Int) (A : Option Addr) (n c : Nat) (vs : List (Int × Value)) (L LS : List (Int × List Nat)) (AB : Option Addr) (nB cB : Nat) (vsB : List (Int × Value)) : Prop where
  bag : Bag wr w.heap.size (w.heap.size + 1) M AB nB cB vsB LS
  lets : Lets wr w.heap.size A n c vs L
  bel : Below w.heap.size w wr
  far : ∀ k, blk A = some k → k ≠ w.heap.size ∧ blk AB ≠ some k ∧ ∀ p ∈ vsB, hdr p.2 ≠ some k
end
section
variable {w wr w' w2 : World} {n c nB cB : Nat} {M : Int} {A AB : Option Addr} {vs vsB : List (Int × Value)} {L LS : List (Int × List Nat)}
theorem St.size (h : St w wr M A n c vs L LS AB nB cB vsB) : w.heap.size + 1 ≤ wr.heap.size := h.bag.blk_.lt
theorem St.size0 (h : St w wr M A n c vs L LS AB nB cB vsB) : w.heap.size ≤ wr.heap.size := h.bel.size
theorem St.later (h : St w wr M A n c vs L LS AB nB cB vsB) (hb : Below wr.heap.size wr w') : St w w' M A n c vs L LS AB nB cB vsB :=
  ⟨h.bag.below hb (Nat.le_refl _), h.lets.below hb (Nat.le_refl _) h.size0, h.bel.trans (hb.mono h.size0), h.far⟩
/-- the bag did something -/
theorem St.moved {AB' : Option Addr} {nB' cB' : Nat} {vsB' : List (Int × Value)} {LS' : List (Int × List Nat)} (h : St w wr M A n c vs L LS AB nB cB vsB) (h1 : Bag w' w.heap.size (w.heap.size + 1) M AB' nB' cB' vsB' LS') (h2 : Moved w.heap.size AB AB' wr w') (h3 : Bods wr vsB vsB') : St w w' M A n c vs L LS' AB' nB' cB' vsB' := by
  have hB : ∀ k, blk AB = some k → w.heap.size ≤ k := fun k hk => by have := (h.bag.own.lt k hk).1; omega
  refine ⟨h1, h.lets.moved h2 (Nat.le_refl _) hB h.size0 (fun k hk => ⟨(h.far k hk).1, (h.far k hk).2.1⟩), h.bel.trans (h2.below (Nat.le_refl _) hB h.size0), fun k hk => ?_⟩
  have hlt := (h.lets.own.lt k hk).2
  refine ⟨(h.far k hk).1, fun e => ?_, fun p hp e => ?_⟩
  · rcases h2.arr k e with h4 | h4
    · exact (h.far k hk).2.1 h4
    · omega
  · rcases h3 p hp with ⟨p0, hp0, e0⟩ | h4
    · exact (h.far k hk).2.2 p0 hp0 (by rw [e0]; exact e)
    · have := h4 k e; omega
/-- hdr of the bag's items is below the heap's end -/
theorem St.hdr_lt (h : St w wr M A n c vs L LS AB nB cB vsB) : ∀ p ∈ vsB, ∀ k, hdr p.2 = some k → k < wr.heap.size := by
  intro p hp k e
  obtain ⟨i, hi, rfl⟩ := List.mem_iff_getElem.1 hp
  have hl : i < LS.length := by rw [h.bag.len, ← h.bag.vlen]; exact hi
  obtain ⟨A1, c1, ev, _, _, _, hk⟩ := (h.bag.bod i _ _ (List.getElem?_eq_getElem hi) (List.getElem?_eq_getElem hl)).2
  rw [ev] at e
  exact (hk k e).2.1
/-- the law's list grew -/
theorem St.snoc {A2 A3 : Option Addr} {c2 c3 : Nat} {t : Int} {b : List Nat} (h : St w wr M A n c vs L LS AB nB cB vsB) (h2 : Below wr.heap.size wr w2) (hb : LB wr w.heap.size (.slice A2 b.length c2) b) (ho : Own w' w.heap.size 42 2 A3 (n + 1) c3 (its vs ++ [.int .i64 t, .slice A2 b.length c2])) (hg : w2.grownBy w' (blk A)) (hA : blk A3 = blk A ∨ blk A3 = some w2.heap.size) :
    St w w' M A3 (n + 1) c3 (vs ++ [(t, .slice A2 b.length c2)]) (L ++ [(t, b)]) LS AB nB cB vsB := by
  have s2 := h.later h2
  have z2 := h2.size
  have hlim : ∀ k, blk A = some k → w.heap.size ≤ k := fun k hk => (h.lets.own.lt k hk).1
  refine ⟨s2.bag.other hg ?_ ?_ ?_, h.lets.snoc h.size0 h2 hb ho hg, s2.bel.trans ⟨hg.os, hg.tape, hg.output, hg.size, fun k hk => hg.block k (by have := s2.size0; omega) (fun e => by have := hlim k e.symm; omega)⟩, ?_⟩
  · exact fun e => (h.far _ e).1 rfl
  · cases e : blk A with
    | none => exact .inl rfl
    | some k => exact .inr (h.far k e).2.1
  · exact fun p hp k e e2 => (h.far k e2).2.2 p hp e
  · intro k hk
    rcases hA with e | e
    · exact h.far k (e ▸ hk)
    · rw [e] at hk
      injection hk with hk
      refine ⟨by have := s2.size; omega, fun e2 => by have := (s2.bag.own.lt k e2).2; omega, fun p hp e2 => by have := s2.hdr_lt p hp k e2; omega⟩
/-- the law's list is another one, in new blocks -/
theorem St.anew {A' : Option Addr} {n' c' : Nat} {vs' : List (Int × Value)} {L' : List (Int × List Nat)} (h : St w wr M A n c vs L LS AB nB cB vsB) (h1 : Lets w' w.heap.size A' n' c' vs' L') (hb : Below wr.heap.size wr w') (hk : ∀ k, blk A' = some k → wr.heap.size ≤ k) : St w w' M A' n' c' vs' L' LS AB nB cB vsB := by
  have s2 := h.later hb
  refine ⟨s2.bag, h1, s2.bel, fun k e => ?_⟩
  have := hk k e
  refine ⟨by have := h.size; omega, fun e2 => by have := (h.bag.own.lt k e2).2; omega, fun p hp e2 => by have := h.hdr_lt p hp k e2; omega⟩
theorem St.start (w : World) (M : Int) : St w (w.alloc (.cells #[.int .i64 M, .slice none 0 0] 49)) M none 0 0 [] [] [] none 0 0 [] :=
  ⟨new_bag M w _, Lets.empty _ _, (Below.refl _ _).alloc (Nat.le_refl _) _, fun k e => by simp [blk] at e⟩
end
end Go.Proofs.YtaehlafaehpbjaaDoor
