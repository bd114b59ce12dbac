/- Layer 37: a table grows, piece by piece. -/
import Derived.Test.YtmdilfgeogedpaaDoorIdG
namespace Go.Proofs.YtmdilfgeogedpaaDoor
open Go.RowKit
theorem getD_take {α : Type} (l : List α) (k i : Nat) (d : α) (h : i < k) : (l.take k).getD i d = l.getD i d := by
  simp [List.getD_eq_getElem?_getD, List.getElem?_take, h]
section
variable {D : Pc → Pie} {own : List (List Nat)} {P : List (List (List Nat))} {k : Nat}
theorem Tab.own1 (h : Tab D (own.take k) P) (hk : k < own.length) (A2 : Option Addr) (c2 : Nat) (e2 : TypeId) (A3 : Option Addr) (c3 : Nat) (e3 : TypeId) :
    Tab (upd (upd D (.ow k) ⟨e2, A2, (own.getD k []).length, c2, nats .u32 (own.getD k [])⟩) .oh ⟨e3, A3, k + 1, c3, (D .oh).xs ++ [.slice A2 (own.getD k []).length c2]⟩) (own.take (k + 1)) P := by
  obtain ⟨⟨a1, a2⟩, b, cc, d, e⟩ := h
  have l1 : (own.take k).length = k := by simp; omega
  have l2 : (own.take (k + 1)).length = k + 1 := by simp; omega
  rw [l1] at a1 a2 b
  refine ⟨⟨by simp [upd, l2], ?_⟩, fun i hi => ?_, by simpa [upd] using cc, by simpa [upd] using d, by simpa [upd] using e⟩
  · rw [l2, List.range_succ, List.map_append]
    show (D .oh).xs ++ [_] = _
    rw [a2]
    have e1 : (List.range k).map (fun i => (D (.ow i)).v) = (List.range k).map (fun i => (upd (upd D (.ow k) ⟨e2, A2, (own.getD k []).length, c2, nats .u32 (own.getD k [])⟩) .oh ⟨e3, A3, k + 1, c3, (List.range k).map (fun i => (D (.ow i)).v) ++ [.slice A2 (own.getD k []).length c2]⟩ (.ow i)).v) :=
      List.map_congr_left fun i hi => by
        have hi := List.mem_range.1 hi
        have : i ≠ k := by omega
        simp [upd, this]
    rw [← e1]
    simp [upd, Pie.v]
  · rw [l2] at hi
    rw [getD_take own _ _ _ hi]
    by_cases e : i = k
    · subst e; simp [upd]
    · have := b i (by omega)
      rw [getD_take own _ _ _ (by omega)] at this
      simpa [upd, e] using this
/-- the rows of a table's place i -/
structure Row3 (D : Pc → Pie) (i : Nat) (l : List (List Nat)) : Prop where
  hd : (D (.hh i)).n = l.length ∧ (D (.hh i)).xs = (List.range l.length).map fun j => (D (.pr i j)).v
  row : ∀ j, j < l.length → (D (.pr i j)).n = (l.getD j []).length ∧ (D (.pr i j)).xs = nats .u32 (l.getD j [])
theorem Tab.row1 {i j : Nat} {l : List (List Nat)} (h : Tab D own P) (hr : Row3 D i (l.take j)) (hi : P.length ≤ i) (hj : j < l.length) (A2 : Option Addr) (c2 : Nat) (e2 : TypeId) (A3 : Option Addr) (c3 : Nat) (e3 : TypeId) :
    Tab (upd (upd D (.pr i j) ⟨e2, A2, (l.getD j []).length, c2, nats .u32 (l.getD j [])⟩) (.hh i) ⟨e3, A3, j + 1, c3, (D (.hh i)).xs ++ [.slice A2 (l.getD j []).length c2]⟩) own P ∧
    Row3 (upd (upd D (.pr i j) ⟨e2, A2, (l.getD j []).length, c2, nats .u32 (l.getD j [])⟩) (.hh i) ⟨e3, A3, j + 1, c3, (D (.hh i)).xs ++ [.slice A2 (l.getD j []).length c2]⟩) i (l.take (j + 1)) := by
  obtain ⟨a, b, cc, d, e⟩ := h
  constructor
  · refine ⟨by simpa [upd] using a, by simpa [upd] using b, ⟨by simpa [upd] using cc.1, ?_⟩, fun q hq => ?_, fun q r hq hr => ?_⟩
    · rw [upd_other _ (by simp), upd_other _ (by simp), cc.2]
      exact List.map_congr_left fun q hq => by
        have hq := List.mem_range.1 hq
        have : q ≠ i := by omega
        simp [upd, this]
    · have : q ≠ i := by omega
      simpa [upd, this] using d q hq
    · have : q ≠ i := by omega
      simpa [upd, this] using e q r hq hr
  · obtain ⟨⟨a1, a2⟩, b⟩ := hr
    have l1 : (l.take j).length = j := by simp; omega
    have l2 : (l.take (j + 1)).length = j + 1 := by simp; omega
    rw [l1] at a1 a2 b
    refine ⟨⟨by simp [upd, l2], ?_⟩, fun q hq => ?_⟩
    · rw [l2, List.range_succ, List.map_append]
      rw [upd_same]
      show (D (.hh i)).xs ++ [_] = _
      rw [a2]
      have e1 : (List.range j).map (fun q => (D (.pr i q)).v) = (List.range j).map (fun q => (upd (upd D (.pr i j) ⟨e2, A2, (l.getD j []).length, c2, nats .u32 (l.getD j [])⟩) (.hh i) ⟨e3, A3, j + 1, c3, (List.range j).map (fun q => (D (.pr i q)).v) ++ [.slice A2 (l.getD j []).length c2]⟩ (.pr i q)).v) :=
        List.map_congr_left fun q hq => by
          have hq := List.mem_range.1 hq
          have : q ≠ j := by omega
          simp [upd, this]
      rw [← e1]
      simp [upd, Pie.v]
    · rw [l2] at hq
      rw [getD_take l _ _ _ hq]
      by_cases e : q = j
      · subst e; simp [upd]
      · have := b q (by omega)
        rw [getD_take l _ _ _ (by omega)] at this
        simpa [upd, e] using this
theorem Tab.pair1 {i : Nat} (h : Tab D own (P.take i)) (hr : Row3 D i (P.getD i [])) (hi : i < P.length) (A3 : Option Addr) (c3 : Nat) (e3 : TypeId) :
    Tab (upd D .ph ⟨e3, A3, i + 1, c3, (D .ph).xs ++ [.slice (D (.hh i)).A (P.getD i []).length (D (.hh i)).c]⟩) own (P.take (i + 1)) := by
  obtain ⟨a, b, ⟨a1, a2⟩, d, e⟩ := h
  have l1 : (P.take i).length = i := by simp; omega
  have l2 : (P.take (i + 1)).length = i + 1 := by simp; omega
  rw [l1] at a1 a2 d e
  refine ⟨by simpa [upd] using a, by simpa [upd] using b, ⟨by simp [upd, l2], ?_⟩, fun q hq => ?_, fun q r hq hr' => ?_⟩
  · rw [l2, List.range_succ, List.map_append, upd_same]
    show (D .ph).xs ++ [_] = _
    rw [a2, ← hr.hd.1]
    simp [upd, Pie.v]
  · rw [l2] at hq
    rw [getD_take P _ _ _ hq]
    by_cases e0 : q = i
    · subst e0
      simpa [upd] using hr.hd
    · have := d q (by omega)
      rw [getD_take P _ _ _ (by omega)] at this
      simpa [upd] using this
  · rw [l2] at hq
    rw [getD_take P _ _ _ hq] at hr' ⊢
    by_cases e0 : q = i
    · subst e0
      simpa [upd] using hr.row r hr'
    · have := e q r (by omega)
      rw [getD_take P _ _ _ (by omega)] at this
      simpa [upd] using this hr'
end
end Go.Proofs.YtmdilfgeogedpaaDoor
