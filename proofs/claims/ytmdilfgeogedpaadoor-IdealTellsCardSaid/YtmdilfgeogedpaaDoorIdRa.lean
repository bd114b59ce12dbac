/- Layer 37: what the store of a moved row needs. -/
import Derived.Test.YtmdilfgeogedpaaDoorIdQ
import Derived.Test.YtmdilfgeogedpaaDoorRegionD
namespace Go.Proofs.YtmdilfgeogedpaaDoor
open Go.RowKit
theorem lt_of_cell {w : World} {b o : Nat} {v : Value} (h : w.cell? ⟨b, o, none⟩ = some v) : b < w.heap.size := by
  rcases Nat.lt_or_ge b w.heap.size with h1 | h1
  · exact h1
  · simp [World.cell?, Array.getElem?_eq_none h1] at h
theorem core_cell {w W : World} {g b o : Nat} (h : w.drew.grownBy W (some g)) (hlt : b < w.heap.size) (hne : b ≠ g) : W.cell? ⟨b, o, none⟩ = w.cell? ⟨b, o, none⟩ :=
  World.cell?_of_block (h.block b hlt (fun e => hne (by injection e)))
theorem at_core {w wz W : World} {g : Nat} {A : Option Addr} {xs : List Value} (h : At w A xs) (hb : Below w.heap.size w wz) (hg : wz.drew.grownBy W (some g)) (hr : w.heap.size ≤ g) : At W A xs := by
  intro i x hx
  obtain ⟨b, o, e, hc⟩ := h i x hx
  have hlt := lt_of_cell hc
  exact ⟨b, o, e, (core_cell hg (Nat.lt_of_lt_of_le hlt hb.size) (by omega)).trans ((hb.cell (p := ⟨b, o + i, none⟩) hlt).trans hc)⟩
theorem Own.core {w W : World} {B g : Nat} {e : TypeId} {n c : Nat} {A : Option Addr} {xs : List Value} (h : Own w B e 1 A n c xs) (hg : w.grownBy W (some g)) (hb : g < B) : Own W B e 1 A n c xs :=
  h.kept hg (by
    cases hA : blk A with
    | none => exact .inl rfl
    | some k => exact .inr (fun e => by injection e with e; have := (h.lt k hA).1; omega))
def TupR (B : Nat) (l : List Nat) (n : Nat) : Rel := fun v W => ∃ A c, v = .tuple #[.slice A n c, .nilIface] ∧ Own W B 61 1 A n c (nats .u32 l)
def SliR (B : Nat) (l : List Nat) (n : Nat) : Rel := fun v W => ∃ A c, v = .slice A n c ∧ Own W B 61 1 A n c (nats .u32 l)
theorem mono_tup (B : Nat) (l : List Nat) (n : Nat) : Mono (TupR B l n) := fun _ _ _ ⟨A, c, h1, h2⟩ hb => ⟨A, c, h1, h2.below hb (Nat.le_refl _)⟩
theorem mono_sli (B : Nat) (l : List Nat) (n : Nat) : Mono (SliR B l n) := fun _ _ _ ⟨A, c, h1, h2⟩ hb => ⟨A, c, h1, h2.below hb (Nat.le_refl _)⟩
theorem monoG_tup {g : Nat} {Pre Done : World → Prop} (B : Nat) (l : List Nat) (n : Nat) (hg : g < B) : MonoG g Pre Done (TupR B l n) := fun _ _ _ ⟨A, c, h1, h2⟩ hb => ⟨A, c, h1, h2.core hb.1 hg⟩
theorem monoG_sli {g : Nat} {Pre Done : World → Prop} (B : Nat) (l : List Nat) (n : Nat) (hg : g < B) : MonoG g Pre Done (SliR B l n) := fun _ _ _ ⟨A, c, h1, h2⟩ hb => ⟨A, c, h1, h2.core hb.1 hg⟩
/-- the head may be written at j -/
def PreS (B : Nat) (y : Pie) (j : Nat) (W : World) : Prop := ∃ xs, (∀ v, xs.set j v = y.xs.set j v) ∧ Own W B y.e 1 y.A y.n y.c xs
/-- the head is written at j: with a new row -/
def DoneS (B Bz : Nat) (y : Pie) (j d : Nat) (R : List Nat) (W : World) : Prop := ∃ A c, Own W Bz 61 1 A d c (nats .u32 R) ∧ Own W B y.e 1 y.A y.n y.c (y.xs.set j (.slice A d c))
theorem PreS.later {B : Nat} {y : Pie} {j : Nat} (W W' : World) (h : PreS B y j W) (hb : Below W.heap.size W W') : PreS B y j W' := by
  obtain ⟨xs, h1, h2⟩ := h
  exact ⟨xs, h1, h2.below hb (Nat.le_refl _)⟩
theorem DoneS.later {B Bz : Nat} {y : Pie} {j d : Nat} {R : List Nat} (W W' : World) (h : DoneS B Bz y j d R W) (hb : Below W.heap.size W W') : DoneS B Bz y j d R W' := by
  obtain ⟨A, c, h1, h2⟩ := h
  exact ⟨A, c, h1.below hb (Nat.le_refl _), h2.below hb (Nat.le_refl _)⟩
theorem store_done {B Bz : Nat} {y : Pie} {j d g : Nat} {R : List Nat} {W : World} (h : PreS B y j W) (hA : y.A = some ⟨g, 0, none⟩) {A : Option Addr} {c : Nat} (hr : Own W Bz 61 1 A d c (nats .u32 R)) (hg : g < Bz) :
    Core g (PreS B y j) (DoneS B Bz y j d R) W (W.setCell ⟨g, j, none⟩ (.slice A d c)) ∧ DoneS B Bz y j d R (W.setCell ⟨g, j, none⟩ (.slice A d c)) := by
  obtain ⟨xs, h1, h2⟩ := h
  rw [hA] at h2
  have h3 := h2.set_in j (.slice A d c)
  have h4 : Own (W.setCell ⟨g, j, none⟩ (.slice A d c)) Bz 61 1 A d c (nats .u32 R) := hr.core (grown_set (grown_refl _ _) j _) hg
  have hd : DoneS B Bz y j d R (W.setCell ⟨g, j, none⟩ (.slice A d c)) := ⟨A, c, h4, by rw [hA, ← h1]; exact h3⟩
  exact ⟨⟨grown_set (grown_refl _ _) j _, fun _ => ⟨xs.set j (.slice A d c), fun v => by rw [List.set_set, h1], by rw [hA]; exact h3⟩, fun _ => hd⟩, hd⟩
theorem PreS.cell {B : Nat} {y : Pie} {j g : Nat} {W : World} (h : PreS B y j W) (hA : y.A = some ⟨g, 0, none⟩) (hj : j < y.n) : (∃ v, W.cell? ⟨g, j, none⟩ = some v) ∧ W.frozen? ⟨g, j, none⟩ = false := by
  obtain ⟨xs, h1, h2⟩ := h
  have hc := h2.cap.1
  rw [hA] at h2
  have h3 := h2.spare j (by omega)
  exact ⟨Option.isSome_iff_exists.1 h3.1, h3.2⟩
end Go.Proofs.YtmdilfgeogedpaaDoor
