/- A block that is known whole: the words of this seat. -/
import Derived.Test.YtodimanghmepoaaDoorBase
namespace Go.Proofs.YtodimanghmepoaaDoor
open Go.RowKit

/-- block g holds just cs, none of it marked -/
def Holds (w : World) (g : Nat) (t : TypeId) (cs : Array Value) : Prop := w.heap[g]? = some (.cells cs t (0, 0))
section
variable {w w' : World} {g : Nat} {t : TypeId} {cs : Array Value}
theorem Holds.lt (h : Holds w g t cs) : g < w.heap.size := by
  rcases Nat.lt_or_ge g w.heap.size with h1 | h1
  · exact h1
  · unfold Holds at h; rw [Array.getElem?_eq_none h1] at h; cases h
theorem Holds.cell (h : Holds w g t cs) (i : Nat) : w.cell? ⟨g, i, none⟩ = cs[i]? := by unfold Holds at h; simp [World.cell?, h]
theorem Holds.frozen (h : Holds w g t cs) (i : Nat) : w.frozen? ⟨g, i, none⟩ = false := by unfold Holds at h; simp [World.frozen?, h]
theorem Holds.new (w : World) (t : TypeId) (cs : Array Value) (b : Nat) (hb : w.heap.size = b) : Holds (w.alloc (.cells cs t)) b t cs := by
  subst hb
  show (w.heap.push _)[w.heap.size]? = _
  simp
theorem Holds.drew (h : Holds w g t cs) : Holds w.drew g t cs := h
theorem Holds.drewN (h : Holds w g t cs) (n : Nat) : Holds (w.drewN n) g t cs := h
theorem Holds.alloc (h : Holds w g t cs) (o : Obj) : Holds (w.alloc o) g t cs := (Below.heap_alloc w o g h.lt).trans h
theorem Holds.set (h : Holds w g t cs) (i : Nat) (u : Value) : Holds (w.setCell ⟨g, i, none⟩ u) g t (cs.setIfInBounds i u) := by
  unfold Holds at h ⊢
  simp [World.setCell, Array.getElem?_modify, h]
theorem Holds.far (h : Holds w g t cs) {p : Addr} (hp : g ≠ p.block) (u : Value) : Holds (w.setCell p u) g t cs := (Below.heap_setCell w p u g hp).trans h
theorem Holds.below {B : Nat} (h : Holds w g t cs) (hb : Below B w w') (hg : g < B) : Holds w' g t cs := (hb.block g hg).trans h
theorem Holds.later {B : Nat} (h : Holds w g t cs) (hb : Below B w w') (hB : w.heap.size ≤ B) : Holds w' g t cs := h.below hb (Nat.lt_of_lt_of_le h.lt hB)
theorem Holds.grown {row : Option Nat} (h : Holds w g t cs) (hb : w.grownBy w' row) (hg : row ≠ some g) : Holds w' g t cs := (hb.block g h.lt (fun e => hg e.symm)).trans h
end
theorem grown_refl (w : World) (r : Option Nat) : w.grownBy w r := World.grownBy.refl w r
theorem grown_trans {a b c : World} {r : Option Nat} (h : a.grownBy b r) (k : b.grownBy c r) : a.grownBy c r :=
  ⟨k.os.trans h.os, k.tape.trans h.tape, k.output.trans h.output, Nat.le_trans h.size k.size, fun i hi hn => (k.block i (Nat.lt_of_lt_of_le hi h.size) hn).trans (h.block i hi hn)⟩
theorem grown_set {a w : World} {g : Nat} (h : a.grownBy w (some g)) (i : Nat) (u : Value) : a.grownBy (w.setCell ⟨g, i, none⟩ u) (some g) :=
  ⟨h.os, h.tape, h.output, by simpa [World.setCell] using h.size, fun k hk hn => (Below.heap_setCell w ⟨g, i, none⟩ u k (by rintro rfl; exact hn rfl)).trans (h.block k hk hn)⟩
theorem grown_drew {a w : World} {r : Option Nat} (h : a.grownBy w r) : a.grownBy w.drew r := ⟨h.os, h.tape, h.output, h.size, h.block⟩
theorem grown_drewN {a w : World} {r : Option Nat} (h : a.grownBy w r) (n : Nat) : a.grownBy (w.drewN n) r := ⟨h.os, h.tape, h.output, h.size, h.block⟩
theorem grown_below {a w w' : World} {r : Option Nat} (h : a.grownBy w r) (hb : Below w.heap.size w w') : a.grownBy w' r :=
  ⟨hb.os.trans h.os, hb.tape.trans h.tape, hb.output.trans h.output, Nat.le_trans h.size hb.size, fun k hk hn => (hb.block k (Nat.lt_of_lt_of_le hk h.size)).trans (h.block k hk hn)⟩
theorem below_of_grown {a w : World} {g B : Nat} (h : a.grownBy w (some g)) (hg : B ≤ g) (hB : B ≤ a.heap.size) : Below B a w :=
  ⟨h.os, h.tape, h.output, h.size, fun k hk => h.block k (by omega) (by intro e; injection e with e; omega)⟩
theorem At.grownAt {w w' : World} {b o g : Nat} {xs : List Value} (h : At w (some ⟨b, o, none⟩) xs) (hg : w.grownBy w' (some g)) (hne : b ≠ g) : At w' (some ⟨b, o, none⟩) xs :=
  h.grown hg (.inr (by simp [blk]; exact hne))
end Go.Proofs.YtodimanghmepoaaDoor
