/- Layer 37: a table, one row of it cleared. -/
import Derived.Test.YtmdilfgeogedpaaDoorIdK
namespace Go.Proofs.YtmdilfgeogedpaaDoor
open Go.RowKit
def clr (r : List Nat) : List Nat := List.replicate r.length 0
theorem nats_clr (r : List Nat) : nats .u32 (clr r) = List.replicate r.length (.int .u32 0) := by simp [nats, clr]
theorem getD_set {α : Type} (l : List α) (k i : Nat) (x d : α) (hk : k < l.length) : (l.set k x).getD i d = if i = k then x else l.getD i d := by
  simp only [List.getD_eq_getElem?_getD, List.getElem?_set]
  by_cases e : i = k
  · subst e; simp [hk]
  · rw [if_neg (fun h => e h.symm), if_neg e]
section
variable {D : Pc → Pie} {own : List (List Nat)} {P : List (List (List Nat))} {k : Nat}
theorem upd_v {D : Pc → Pie} (p q : Pc) (xs : List Value) : (upd D p { D p with xs := xs } q).v = (D q).v := by
  by_cases e : q = p
  · subst e; rw [upd_same]; rfl
  · rw [upd_other _ e]
theorem upd_n {D : Pc → Pie} (p q : Pc) (xs : List Value) : (upd D p { D p with xs := xs } q).n = (D q).n := by
  by_cases e : q = p
  · subst e; rw [upd_same]
  · rw [upd_other _ e]
theorem Tab.clearOw (h : Tab D own P) (hk : k < own.length) : Tab (upd D (.ow k) { D (.ow k) with xs := List.replicate (D (.ow k)).n (.int .u32 0) }) (own.set k (clr (own.getD k []))) P := by
  obtain ⟨⟨a1, a2⟩, b, ⟨c1, c2⟩, d, e⟩ := h
  refine ⟨⟨by rw [upd_n, a1, List.length_set], ?_⟩, fun i hi => ?_, ⟨by rw [upd_n, c1], ?_⟩, fun i hi => ⟨by rw [upd_n]; exact (d i hi).1, ?_⟩, fun i j hi hj => ⟨by rw [upd_n]; exact (e i j hi hj).1, ?_⟩⟩
  · rw [upd_other _ (by simp), List.length_set, a2]
    exact List.map_congr_left fun i _ => (upd_v _ _ _).symm
  · rw [List.length_set] at hi
    rw [getD_set _ _ _ _ _ hk, upd_n]
    by_cases e0 : i = k
    · subst e0
      rw [if_pos rfl, upd_same, nats_clr, (b i hi).1]
      exact ⟨by simp [clr], rfl⟩
    · rw [if_neg e0, upd_other _ (by simpa using e0)]
      exact b i hi
  · rw [upd_other _ (by simp), c2]
    exact List.map_congr_left fun i _ => (upd_v _ _ _).symm
  · rw [upd_other _ (by simp), (d i hi).2]
    exact List.map_congr_left fun j _ => (upd_v _ _ _).symm
  · rw [upd_other _ (by simp)]
    exact (e i j hi hj).2
theorem Tab.clearPr {i j : Nat} (h : Tab D own P) (hi : i < P.length) (hj : j < (P.getD i []).length) : Tab (upd D (.pr i j) { D (.pr i j) with xs := List.replicate (D (.pr i j)).n (.int .u32 0) }) own (P.set i ((P.getD i []).set j (clr ((P.getD i []).getD j [])))) := by
  obtain ⟨⟨a1, a2⟩, b, ⟨c1, c2⟩, d, e⟩ := h
  have hlen : ∀ q, ((P.set i ((P.getD i []).set j (clr ((P.getD i []).getD j [])))).getD q []).length = (P.getD q []).length := fun q => by
    rw [getD_set _ _ _ _ _ hi]
    by_cases e0 : q = i
    · subst e0; rw [if_pos rfl, List.length_set]
    · rw [if_neg e0]
  refine ⟨⟨by rw [upd_n, a1], ?_⟩, fun q hq => ⟨by rw [upd_n]; exact (b q hq).1, ?_⟩, ⟨by rw [upd_n, c1, List.length_set], ?_⟩, fun q hq => ?_, fun q r hq hr => ?_⟩
  · rw [upd_other _ (by simp), a2]
    exact List.map_congr_left fun i _ => (upd_v _ _ _).symm
  · rw [upd_other _ (by simp)]
    exact (b q hq).2
  · rw [upd_other _ (by simp), List.length_set, c2]
    exact List.map_congr_left fun i _ => (upd_v _ _ _).symm
  · rw [List.length_set] at hq
    rw [hlen, upd_n, upd_other _ (by simp), (d q hq).2]
    exact ⟨(d q hq).1, List.map_congr_left fun j _ => (upd_v _ _ _).symm⟩
  · rw [List.length_set] at hq
    rw [hlen] at hr
    rw [upd_n, getD_set _ _ _ _ _ hi]
    by_cases e0 : q = i
    · subst e0
      rw [if_pos rfl, getD_set _ _ _ _ _ hj]
      by_cases e1 : r = j
      · subst e1
        rw [if_pos rfl, upd_same, nats_clr, (e q r hq hr).1]
        exact ⟨by simp [clr], rfl⟩
      · rw [if_neg e1, upd_other _ (by simpa using e1)]
        exact e q r hq hr
    · rw [if_neg e0, upd_other _ (by simp [e0])]
      exact e q r hq hr
end
end Go.Proofs.YtmdilfgeogedpaaDoor
