/- Layer 18: the walk of the document's receiver. -/
import Derived.Test.YtodimanghmepoaaDoorLrA
import Derived.BigRegion
namespace Go.Proofs.YtodimanghmepoaaDoor
open Go.RowKit

theorem rbelow2 (w : World) (o o' : Obj) : Below w.heap.size w ((w.alloc o).alloc o') := ((Below.refl _ _).alloc (Nat.le_refl _) _).alloc (by simp) _
set_option maxRecDepth 100000 in
set_option maxHeartbeats 2000000 in
theorem refTake_any (E L e s : Int) (w : World) (hE : 0 ≤ E ∧ E ≤ 1073741824) (hL : 0 ≤ L ∧ L ≤ 1073741824) :
    Calls Tryd.prog 39 #[.agg #[.int .i64 E, .int .i64 L], .int .i64 e, .int .i64 s] w fun e' w' =>
      e' = .returned (.tuple #[.agg #[.int .i64 (rc E L e s).1.1, .int .i64 (rc E L e s).1.2], .bool (rc E L e s).2.1, .int .i64 (rc E L e s).2.2]) ∧ Below w.heap.size w w' := by
  obtain ⟨hE0, hE1⟩ := hE
  obtain ⟨hL0, hL1⟩ := hL
  by_cases bad : e < E ∨ e < 1 ∨ 1073741824 < e ∨ s < 1 ∨ 1073741824 < s
  · have hrc : rc E L e s = ((E, L), false, -1) := by rw [rc, if_pos bad]
    rw [hrc]
    clear hrc
    rcases Classical.em (e < E) with c1 | c1
    · go_enter Tryd.func39, Tryd.ntmps39
      go_wp2
      exact bodyPost_ret (v := .tuple #[.agg #[.int .i64 E, .int .i64 L], .bool false, .int .i64 (-1)]) (by simp [results, Tryd.results39, go_sem]) rfl ⟨rfl, rbelow2 _ _ _⟩
    rcases Classical.em (e < 1) with c2 | c2
    · go_enter Tryd.func39, Tryd.ntmps39
      go_wp2
      exact bodyPost_ret (v := .tuple #[.agg #[.int .i64 E, .int .i64 L], .bool false, .int .i64 (-1)]) (by simp [results, Tryd.results39, go_sem]) rfl ⟨rfl, rbelow2 _ _ _⟩
    rcases Classical.em (1073741824 < e) with c3 | c3
    · go_enter Tryd.func39, Tryd.ntmps39
      go_wp2
      exact bodyPost_ret (v := .tuple #[.agg #[.int .i64 E, .int .i64 L], .bool false, .int .i64 (-1)]) (by simp [results, Tryd.results39, go_sem]) rfl ⟨rfl, rbelow2 _ _ _⟩
    rcases Classical.em (s < 1) with c4 | c4
    · go_enter Tryd.func39, Tryd.ntmps39
      go_wp2
      exact bodyPost_ret (v := .tuple #[.agg #[.int .i64 E, .int .i64 L], .bool false, .int .i64 (-1)]) (by simp [results, Tryd.results39, go_sem]) rfl ⟨rfl, rbelow2 _ _ _⟩
    · have c5 : 1073741824 < s := by omega
      clear bad
      go_enter Tryd.func39, Tryd.ntmps39
      go_wp2
      exact bodyPost_ret (v := .tuple #[.agg #[.int .i64 E, .int .i64 L], .bool false, .int .i64 (-1)]) (by simp [results, Tryd.results39, go_sem]) rfl ⟨rfl, rbelow2 _ _ _⟩
  · have c1 : E ≤ e := by omega
    have c2 : 1 ≤ e := by omega
    have c3 : e ≤ 1073741824 := by omega
    have c4 : 1 ≤ s := by omega
    have c5 : s ≤ 1073741824 := by omega
    have hrc : rc E L e s = (if s = (if E < e then 0 else L) + 1 then ((e, s), true, s) else ((e, if E < e then 0 else L), false, if E < e then 0 else L)) := by rw [rc, if_neg bad]
    clear bad
    rw [hrc]; clear hrc
    by_cases c6 : E < e
    · rw [if_pos c6]
      by_cases c7 : s = 1
      · subst c7
        clear c4 c5
        rw [if_pos (show (1 : Int) = 0 + 1 from rfl)]
        go_enter Tryd.func39, Tryd.ntmps39
        go_wp2
        exact bodyPost_ret (v := .tuple #[.agg #[.int .i64 e, .int .i64 1], .bool true, .int .i64 1]) (by simp [results, Tryd.results39, go_sem]) rfl ⟨rfl, rbelow2 _ _ _⟩
      · have c9 : (s == 1) = false := beq_eq_false_iff_ne.2 c7
        rw [if_neg (by omega)]
        go_enter Tryd.func39, Tryd.ntmps39
        go_wp2
        go_region
        go_wp2
        exact bodyPost_ret (v := .tuple #[.agg #[.int .i64 e, .int .i64 0], .bool false, .int .i64 0]) (by simp [results, Tryd.results39, go_sem]) rfl ⟨rfl, (rbelow2 _ _ _).drew⟩
    · have c6' : e = E := by omega
      subst c6'
      rw [if_neg c6]
      by_cases c7 : s = L + 1
      · subst c7
        rw [if_pos rfl]
        go_enter Tryd.func39, Tryd.ntmps39
        go_wp2
        exact bodyPost_ret (v := .tuple #[.agg #[.int .i64 e, .int .i64 (L + 1)], .bool true, .int .i64 (L + 1)]) (by simp [results, Tryd.results39, go_sem]) rfl ⟨rfl, rbelow2 _ _ _⟩
      · have c8 : (s == L + 1) = false := beq_eq_false_iff_ne.2 c7
        rw [if_neg c7]
        go_enter Tryd.func39, Tryd.ntmps39
        go_wp2
        go_region
        go_wp2
        exact bodyPost_ret (v := .tuple #[.agg #[.int .i64 e, .int .i64 L], .bool false, .int .i64 L]) (by simp [results, Tryd.results39, go_sem]) rfl ⟨rfl, (rbelow2 _ _ _).drew⟩
end Go.Proofs.YtodimanghmepoaaDoor
