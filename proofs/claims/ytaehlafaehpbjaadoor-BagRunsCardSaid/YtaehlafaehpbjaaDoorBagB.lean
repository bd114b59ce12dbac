/- Layer 20: what a bag holds; New, Len, has. -/
import Derived.Test.YtaehlafaehpbjaaDoorBagA
import Derived.BigRegion
import Derived.Deep.RegionHeld3
namespace Go.Proofs.YtaehlafaehpbjaaDoor
open Go.RowKit
/-- what was there stays, but in block g -/
structure Kept (base g : Nat) (w w' : World) : Prop where
  os : w'.os = w.os
  tape : w'.tape = w.tape
  output : w'.output = w.output
  size : w.heap.size ≤ w'.heap.size
  block : ∀ k, k < base → k ≠ g → w'.heap[k]? = w.heap[k]?
theorem Kept.refl (base g : Nat) (w : World) : Kept base g w w := ⟨rfl, rfl, rfl, Nat.le_refl _, fun _ _ _ => rfl⟩
theorem Kept.trans {base g : Nat} {w w' w'' : World} (h : Kept base g w w') (k : Kept base g w' w'') : Kept base g w w'' :=
  ⟨k.os.trans h.os, k.tape.trans h.tape, k.output.trans h.output, Nat.le_trans h.size k.size, fun i h1 h2 => (k.block i h1 h2).trans (h.block i h1 h2)⟩
theorem Kept.of_below {base g : Nat} {w w' : World} (h : Below base w w') : Kept base g w w' := ⟨h.os, h.tape, h.output, h.size, fun k hk _ => h.block k hk⟩
theorem Kept.of_grown {base g : Nat} {w w' : World} (h : w.grownBy w' (some g)) (hb : base ≤ w.heap.size) : Kept base g w w' := ⟨h.os, h.tape, h.output, h.size, fun k hk hn => h.block k (by omega) (fun e => hn (by injection e))⟩
theorem Kept.below {base g B : Nat} {w w' : World} (h : Kept base g w w') (h1 : B ≤ base) (h2 : B ≤ g) : Below B w w' := ⟨h.os, h.tape, h.output, h.size, fun k hk => h.block k (by omega) (by omega)⟩
theorem Kept.holds {base g b : Nat} {w w' : World} {t : TypeId} {cs : Array Value} (h : Kept base g w w') (hh : Holds w b t cs) (h1 : b < base) (h2 : b ≠ g) : Holds w' b t cs := (h.block b h1 h2).trans hh
theorem Kept.at_ {base g : Nat} {w w' : World} {A : Option Addr} {xs : List Value} (h : Kept base g w w') (hh : At w A xs) (h1 : ∀ k, blk A = some k → k < base ∧ k ≠ g) : At w' A xs :=
  hh.keep fun b o e i => World.cell?_of_block (a := ⟨b, o + i, none⟩) (h.block b (h1 b (by subst e; rfl)).1 (h1 b (by subst e; rfl)).2)
/-- bytes that lie in a block of their own -/
def Bod (w : World) (base g : Nat) (A : Option Addr) (v : Value) (b : List Nat) : Prop :=
  ∃ A1 c1, v = .slice A1 b.length c1 ∧ b.length ≤ 300 ∧ At w A1 (nats .u8 b) ∧ (A1 = none → b.length = 0) ∧ ∀ k, blk A1 = some k → base ≤ k ∧ k < w.heap.size ∧ k ≠ g ∧ blk A ≠ some k
structure Bag (w : World) (g base : Nat) (M : Int) (A : Option Addr) (n c : Nat) (vs : List (Int × Value)) (l : List (Int × List Nat)) : Prop where
  blk_ : Holds w g 49 #[.int .i64 M, .slice A n c]
  own : Own w base 46 2 A n c (its vs)
  len : l.length = n
  bod : ∀ (i : Nat) (p : Int × Value) (q : Int × List Nat), vs[i]? = some p → l[i]? = some q → p.1 = q.1 ∧ Bod w base g A p.2 q.2
  far : blk A ≠ some g
def IsBag (w : World) (g base : Nat) (M : Int) (l : List (Int × List Nat)) : Prop := ∃ A n c vs, Bag w g base M A n c vs l
section
variable {w w' : World} {g base : Nat} {M : Int} {A A' : Option Addr} {n c : Nat} {vs : List (Int × Value)} {l : List (Int × List Nat)} {v : Value} {b : List Nat}
theorem Bod.grown {row : Option Nat} (h : Bod w base g A v b) (hg : w.grownBy w' row) (hr : row = some g ∨ row = blk A) (hA : ∀ k, blk A' = some k → blk A = some k ∨ w.heap.size ≤ k) : Bod w' base g A' v b := by
  obtain ⟨A1, c1, rfl, hl, hat, hn, hk⟩ := h
  refine ⟨A1, c1, rfl, hl, hat.grown hg ?_, hn, fun k e => ?_⟩
  · cases h1 : blk A1 with
    | none => exact .inl rfl
    | some k =>
      refine .inr ?_
      obtain ⟨_, _, h3, h4⟩ := hk k h1
      rcases hr with rfl | rfl
      · intro e; injection e with e; exact h3 e
      · exact fun e => h4 e.symm
  · obtain ⟨h1, h2, h3, h4⟩ := hk k e
    refine ⟨h1, Nat.lt_of_lt_of_le h2 hg.size, h3, fun e2 => ?_⟩
    rcases hA k e2 with h | h
    · exact h4 h
    · omega
theorem Bod.below {B : Nat} (h : Bod w base g A v b) (hb : Below B w w') (hB : w.heap.size ≤ B) : Bod w' base g A v b := by
  obtain ⟨A1, c1, rfl, hl, hat, hn, hk⟩ := h
  exact ⟨A1, c1, rfl, hl, hat.later hb hB, hn, fun k e => ⟨(hk k e).1, Nat.lt_of_lt_of_le (hk k e).2.1 hb.size, (hk k e).2.2⟩⟩
theorem Bod.one (h : Bod w base g A v b) : v.oneCell' = true := by obtain ⟨A1, c1, rfl, _⟩ := h; rfl
theorem Bag.vlen (h : Bag w g base M A n c vs l) : vs.length = n := by have := h.own.len; rw [its_length] at this; omega
theorem Bag.one (h : Bag w g base M A n c vs l) : ∀ p ∈ vs, p.2.oneCell' = true := by
  intro p hp
  obtain ⟨i, hi, rfl⟩ := List.mem_iff_getElem.1 hp
  have hl : i < l.length := by rw [h.len, ← h.vlen]; exact hi
  exact (h.bod i _ _ (List.getElem?_eq_getElem hi) (List.getElem?_eq_getElem hl)).2.one
theorem Bag.below {B : Nat} (h : Bag w g base M A n c vs l) (hb : Below B w w') (hB : w.heap.size ≤ B) : Bag w' g base M A n c vs l where
  blk_ := h.blk_.later hb hB
  own := h.own.below hb hB
  len := h.len
  bod := fun i p q h1 h2 => ⟨(h.bod i p q h1 h2).1, (h.bod i p q h1 h2).2.below hb hB⟩
  far := h.far
theorem IsBag.below {B : Nat} (h : IsBag w g base M l) (hb : Below B w w') (hB : w.heap.size ≤ B) : IsBag w' g base M l := by
  obtain ⟨A, n, c, vs, h⟩ := h
  exact ⟨A, n, c, vs, h.below hb hB⟩
theorem IsBag.lt (h : IsBag w g base M l) : g < w.heap.size := by obtain ⟨A, n, c, vs, h⟩ := h; exact h.blk_.lt
theorem new_bag (M : Int) (w : World) (base : Nat) : Bag (w.alloc (.cells #[.int .i64 M, .slice none 0 0] 49)) w.heap.size base M none 0 0 [] [] where
  blk_ := Holds.new _ _ _ _ rfl
  own := Own.none_ _ _ _ _
  len := rfl
  bod := by intro i p q h; simp at h
  far := by simp [blk]
/-- the cells of item i -/
theorem Bag.item (h : Bag w g base M A n c vs l) (i : Nat) (hi : i < n) : ∃ g2 A1 c1, A = some ⟨g2, 0, none⟩ ∧ base ≤ g2 ∧ g2 < w.heap.size ∧ g2 ≠ g ∧ w.cell? ⟨g2, i * 2, none⟩ = some (.int .i64 (l.getD i (0, [])).1) ∧ w.cell? ⟨g2, i * 2 + 1, none⟩ = some (.slice A1 (l.getD i (0, [])).2.length c1) ∧ Bod w base g A (.slice A1 (l.getD i (0, [])).2.length c1) (l.getD i (0, [])).2 ∧ vs[i]? = some ((l.getD i (0, [])).1, .slice A1 (l.getD i (0, [])).2.length c1) := by
  have hv : i < vs.length := by rw [h.vlen]; exact hi
  have hl : i < l.length := by rw [h.len]; exact hi
  obtain ⟨h1, h2⟩ := h.bod i _ _ (List.getElem?_eq_getElem hv) (List.getElem?_eq_getElem hl)
  have eq_ : l.getD i (0, []) = l[i] := by simp [List.getD_eq_getElem?_getD, List.getElem?_eq_getElem hl]
  rw [eq_]
  rcases h.own.lies with ⟨_, h0, _⟩ | ⟨g2, e2, hb2, hlt2⟩
  · omega
  obtain ⟨A1, c1, ev, h3, h4, h5, h6⟩ := h2
  have hd : (its vs).drop (i * 2) = .int .i64 vs[i].1 :: vs[i].2 :: its (vs.drop (i + 1)) := by
    rw [its_drop, List.drop_eq_getElem_cons hv, its_cons]
  have c0 : (its vs)[i * 2]? = some (.int .i64 vs[i].1) := by
    have := congrArg (fun x => x[0]?) hd
    simpa [List.getElem?_drop] using this
  have c1' : (its vs)[i * 2 + 1]? = some vs[i].2 := by
    have := congrArg (fun x => x[1]?) hd
    simpa [List.getElem?_drop] using this
  have hat := h.own.at_
  obtain ⟨b0, o0, e0, q0⟩ := hat _ _ c0
  obtain ⟨b1, o1, e1, q1⟩ := hat _ _ c1'
  rw [e2] at e0 e1
  injection e0 with e0; injection e0 with x1 x2; subst x1; subst x2
  injection e1 with e1; injection e1 with x1 x2; subst x1; subst x2
  rw [Nat.zero_add] at q0 q1
  refine ⟨_, A1, c1, e2, hb2, hlt2, ?_, by rw [q0, h1], by rw [q1, ev], ⟨A1, c1, rfl, h3, h4, h5, h6⟩, ?_⟩
  · intro e; apply h.far; rw [e2, ← e]; rfl
  · rw [List.getElem?_eq_getElem hv, ← h1, ← ev]
set_option maxRecDepth 100000 in
theorem bnew_ok (M : Int) (w : World) (hM : 1 ≤ M ∧ M ≤ 4096) :
    Calls Tryd.prog 10 #[.int .i64 M] w fun e w' => e = .returned (.tuple #[.pointer (some ⟨w.heap.size, 0, none⟩), .nilIface]) ∧ w' = w.alloc (.cells #[.int .i64 M, .slice none 0 0] 49) := by
  have h1 : decide (M < 1) = false := by simp; omega
  have h2 : decide (4096 < M) = false := by simp; omega
  go_enter Tryd.func10, Tryd.ntmps10
  go_wp2
  exact bodyPost_ret (v := .tuple #[.pointer (some ⟨w.heap.size, 0, none⟩), .nilIface]) (by simp [results, Tryd.results10, go_sem]) rfl ⟨rfl, rfl⟩
set_option maxRecDepth 100000 in
theorem bnew_no (M : Int) (w : World) (hM : M < 1 ∨ 4096 < M) :
    Calls Tryd.prog 10 #[.int .i64 M] w fun e w' => e = .returned (.tuple #[.pointer none, .iface 52 (.int .i64 1)]) ∧ w = w' := by
  by_cases h : M < 1
  · clear hM
    go_enter Tryd.func10, Tryd.ntmps10
    go_wp2
    go_ret2
    exact ⟨rfl, rfl⟩
  · have h2 : 4096 < M := by omega
    clear hM
    go_enter Tryd.func10, Tryd.ntmps10
    go_wp2
    go_ret2
    exact ⟨rfl, rfl⟩
set_option maxRecDepth 100000 in
theorem blen_any (w : World) (h : Bag w g base M A n c vs l) :
    Calls Tryd.prog 6 #[.pointer (some ⟨g, 0, none⟩)] w fun e w' => e = .returned (.int .i64 n) ∧ w = w' := by
  have hc : w.cell? ⟨g, 1, none⟩ = some (.slice A n c) := h.blk_.cell 1
  clear h
  go_enter Tryd.func6, Tryd.ntmps6
  go_wp2
  go_ret
  exact ⟨rfl, rfl⟩
set_option maxRecDepth 100000 in
theorem bhas_any (w : World) (i : Int) (h : Bag w g base M A n c vs l) :
    Calls Tryd.prog 14 #[.pointer (some ⟨g, 0, none⟩), .int .i64 i] w fun e w' => e = .returned (.bool (decide (0 ≤ i ∧ i < n))) ∧ w = w' := by
  have hc : w.cell? ⟨g, 1, none⟩ = some (.slice A n c) := h.blk_.cell 1
  clear h
  by_cases h0 : 0 ≤ i
  · by_cases h1 : i < n
    · rw [decide_eq_true (p := 0 ≤ i ∧ i < n) ⟨h0, h1⟩]
      go_enter Tryd.func14, Tryd.ntmps14
      go_wp2
      go_ret
      exact ⟨rfl, rfl⟩
    · rw [decide_eq_false (p := 0 ≤ i ∧ i < n) (fun h => h1 h.2)]
      go_enter Tryd.func14, Tryd.ntmps14
      go_wp2
      go_ret
      exact ⟨rfl, rfl⟩
  · rw [decide_eq_false (p := 0 ≤ i ∧ i < n) (fun h => h0 h.1)]
    go_enter Tryd.func14, Tryd.ntmps14
    go_wp2
    go_ret
    exact ⟨rfl, rfl⟩
end
end Go.Proofs.YtaehlafaehpbjaaDoor
