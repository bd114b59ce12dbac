/- Layer 13: the writer: fields one behind the other, each a block that hangs on the one ahead. -/
import Derived.Test.YtlimabhojocimaaDoorVarO
import Derived.Test.YtlimabhojocimaaDoorFrA
namespace Go.Proofs.YtlimabhojocimaaDoor
open Go.RowKit
/-- the fields that hang on a pointer, the last one first; none of them lies in block g -/
def Chain (w : World) (g : Nat) : Option Addr → List (List Nat) → Prop
  | p, [] => p = none
  | p, b :: fs => ∃ k q A c, p = some ⟨k, 0, none⟩ ∧ (∀ j, blk q = some j → j < k) ∧ k ≠ g ∧ blk A ≠ some g ∧ Holds w k 80 #[.pointer q, .slice A b.length c] ∧ At w A (nats .u8 b) ∧ Chain w g q fs
theorem Chain.grown {w w' : World} {g : Nat} (hg : w.grownBy w' (some g)) : ∀ {fs : List (List Nat)} {p : Option Addr}, Chain w g p fs → Chain w' g p fs
  | [], _, h => h
  | b :: fs, p, ⟨k, q, A, c, h1, h0, h2, h3, h4, h5, h6⟩ => ⟨k, q, A, c, h1, h0, h2, h3, h4.grown hg (fun e => h2 (by injection e with e; exact e.symm)), h5.grown hg (.inr h3), Chain.grown hg h6⟩
theorem Chain.later {w w' : World} {g : Nat} (hb : Below w.heap.size w w') : ∀ {fs : List (List Nat)} {p : Option Addr}, Chain w g p fs → Chain w' g p fs
  | [], _, h => h
  | b :: fs, p, ⟨k, q, A, c, h1, h0, h2, h3, h4, h5, h6⟩ => ⟨k, q, A, c, h1, h0, h2, h3, h4.later hb (Nat.le_refl _), h5.later hb (Nat.le_refl _), Chain.later hb h6⟩
theorem Chain.lt {w : World} {g : Nat} : ∀ {fs : List (List Nat)} {p : Option Addr}, Chain w g p fs → ∀ j, blk p = some j → j < w.heap.size
  | [], _, h, j, e => by have h : _ = _ := h; subst h; simp [blk] at e
  | b :: fs, p, ⟨k, q, A, c, h1, h0, h2, h3, h4, h5, h6⟩, j, e => by subst h1; simp [blk] at e; subst e; exact h4.lt
/-- how many bytes there are -/
def tot (fs : List (List Nat)) : Nat := (fs.map List.length).sum
theorem tot_cons (b : List Nat) (fs : List (List Nat)) : tot (b :: fs) = b.length + tot fs := by simp [tot]
/-- a writer -/
structure Wr (w : World) (g : Nat) (p : Option Addr) (fs : List (List Nat)) : Prop where
  blk_ : Holds w g 49 #[.pointer p, .int .i64 (tot fs : Nat)]
  ch : Chain w g p fs
theorem Wr.later {w w' : World} {g : Nat} {p : Option Addr} {fs : List (List Nat)} (h : Wr w g p fs) (hb : Below w.heap.size w w') : Wr w' g p fs := ⟨h.blk_.later hb (Nat.le_refl _), h.ch.later hb⟩
/-- bytes do not lie in a writer's block -/
theorem Wr.far {w : World} {g : Nat} {p : Option Addr} {fs : List (List Nat)} (h : Wr w g p fs) {A : Option Addr} {b : List Nat} (ha : At w A (nats .u8 b)) (h0 : b ≠ []) : blk A ≠ some g := by
  intro e
  obtain ⟨b', o', rfl, hc⟩ := ha.nat 0 (by cases b with | nil => exact absurd rfl h0 | cons _ _ => simp)
  simp [blk] at e
  subst e
  have hx := h.blk_.cell (o' + 0)
  rw [hc] at hx
  match o', hx with
  | 0, hx => simp at hx
  | 1, hx => simp at hx
  | o + 2, hx => simp at hx
section
variable {g : Nat} {p : Option Addr} {fs : List (List Nat)} {w : World}
def Wrote (w : World) (g : Nat) (fs : List (List Nat)) (e : Ending) (w' : World) : Prop := e = .returned (.tuple #[]) ∧ ∃ p', Wr w' g p' fs ∧ w.grownBy w' (some g)
set_option maxRecDepth 100000 in
set_option maxHeartbeats 1000000 in
theorem wput_any (A : Option Addr) (c : Nat) (b : List Nat) (h : Wr w g p fs) (hat : At w A (nats .u8 b)) (hA : blk A ≠ some g) (hm : tot fs + b.length ≤ 1000000) :
    Calls Tryd.prog 32 #[.pointer (some ⟨g, 0, none⟩), .slice A b.length c] w (Wrote w g (b :: fs)) := by
  have HT := Lib.hid hat
  have HF := Lib.hid hA
  have H0 := h.blk_
  have HC := Lib.hid h.ch
  have hgl := H0.lt
  have hn : g ≠ w.heap.size := Nat.ne_of_lt hgl
  have hn' : w.heap.size ≠ g := fun e => hn e.symm
  have c0 : w.cell? ⟨g, 0, none⟩ = some (.pointer p) := H0.cell 0
  have H1 := H0.set 0 (.pointer (some ⟨w.heap.size, 0, none⟩))
  have e1 : (w.setCell ⟨g, 0, none⟩ (.pointer (some ⟨w.heap.size, 0, none⟩))).cell? ⟨g, 1, none⟩ = some (.int .i64 (tot fs : Nat)) := H1.cell 1
  have f1 : (w.setCell ⟨g, 0, none⟩ (.pointer (some ⟨w.heap.size, 0, none⟩))).frozen? ⟨g, 1, none⟩ = false := H1.frozen 1
  have c1 : w.cell? ⟨g, 1, none⟩ = some (.int .i64 (tot fs : Nat)) := H0.cell 1
  have f0 : w.frozen? ⟨g, 0, none⟩ = false := H0.frozen 0
  have f2 : w.frozen? ⟨g, 1, none⟩ = false := H0.frozen 1
  have HH := Lib.hid H0
  clear H0 H1 h hat hA
  go_enter Tryd.func32, Tryd.ntmps32
  go_wp2_with fail
  refine bodyPost_end (v := .tuple #[]) (by simp [results, Tryd.results32, go_sem]) rfl ⟨rfl, some ⟨w.heap.size, 0, none⟩, ?_, ?_⟩
  · have G1 := grown_set (grown_set (grown_refl w (some g)) 0 (.pointer (some ⟨w.heap.size, 0, none⟩))) 1 (.int .i64 ((tot fs : Nat) + (b.length : Nat)))
    have S1 : ((w.setCell ⟨g, 0, none⟩ (.pointer (some ⟨w.heap.size, 0, none⟩))).setCell ⟨g, 1, none⟩ (.int .i64 ((tot fs : Nat) + (b.length : Nat)))).heap.size = w.heap.size := by simp
    have HN := Holds.new ((w.setCell ⟨g, 0, none⟩ (.pointer (some ⟨w.heap.size, 0, none⟩))).setCell ⟨g, 1, none⟩ (.int .i64 ((tot fs : Nat) + (b.length : Nat)))) 80 #[.pointer p, .slice A b.length c] w.heap.size S1
    have G2 := grown_below G1 ((Below.refl _ _).alloc (Nat.le_refl _) (.cells #[.pointer p, .slice A b.length c] 80))
    refine ⟨?_, w.heap.size, p, A, c, rfl, HC.out.lt, hn', HF.out, HN, HT.out.grown G2 (.inr HF.out), HC.out.grown G2⟩
    have X := ((HH.out.set 0 (.pointer (some ⟨w.heap.size, 0, none⟩))).set 1 (.int .i64 ((tot fs : Nat) + (b.length : Nat)))).alloc (.cells #[.pointer p, .slice A b.length c] 80)
    rw [tot_cons, Nat.add_comm b.length, Int.natCast_add]
    exact X
  · have G1 := grown_set (grown_set (grown_refl w (some g)) 0 (.pointer (some ⟨w.heap.size, 0, none⟩))) 1 (.int .i64 ((tot fs : Nat) + (b.length : Nat)))
    exact grown_below G1 ((Below.refl _ _).alloc (Nat.le_refl _) _)
end
end Go.Proofs.YtlimabhojocimaaDoor
