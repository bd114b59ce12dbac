/- Layer 18: the walks of the receiver, and of the document's receiver. -/
import Derived.Test.YtodimanghmepoaaDoorProg
import Derived.Test.YtodimanghmepoaaDoorHolds
import Derived.Deep.QuietTactic
import Derived.BigQuiet
import Derived.Outline
import Derived.RegionTactic
namespace Go.Proofs.YtodimanghmepoaaDoor
open Go.RowKit

/-- what a receiver in state (E, L) does with a body -/
def rc (E L e s : Int) : (Int × Int) × Bool × Int :=
  if e < E ∨ e < 1 ∨ 1073741824 < e ∨ s < 1 ∨ 1073741824 < s then ((E, L), false, -1)
  else if s = (if E < e then 0 else L) + 1 then ((e, s), true, s) else ((e, if E < e then 0 else L), false, if E < e then 0 else L)
def recvOf (E L : Int) : Array Value := #[.int .i64 E, .int .i64 L]
set_option maxRecDepth 100000 in
set_option maxHeartbeats 1000000 in
theorem take_any (g : Nat) (E L e s : Int) (w : World) (hE : 0 ≤ E ∧ E ≤ 1073741824) (hL : 0 ≤ L ∧ L ≤ 1073741824) (hb : Holds w g 113 (recvOf E L)) :
    Calls Tryd.prog 28 #[.pointer (some ⟨g, 0, none⟩), .int .i64 e, .int .i64 s] w fun e' w' =>
      e' = .returned (.tuple #[.bool (rc E L e s).2.1, .int .i64 (rc E L e s).2.2]) ∧ Holds w' g 113 (recvOf (rc E L e s).1.1 (rc E L e s).1.2) ∧ w.grownBy w' (some g) := by
  have q0 : w.cell? ⟨g, 0, none⟩ = some (.int .i64 E) := hb.cell 0
  have q1 : w.cell? ⟨g, 1, none⟩ = some (.int .i64 L) := hb.cell 1
  have z0 := hb.frozen 0
  have z1 := hb.frozen 1
  obtain ⟨hE0, hE1⟩ := hE
  obtain ⟨hL0, hL1⟩ := hL
  by_cases bad : e < E ∨ e < 1 ∨ 1073741824 < e ∨ s < 1 ∨ 1073741824 < s
  · have hrc : rc E L e s = ((E, L), false, -1) := by rw [rc, if_pos bad]
    rw [hrc]
    have HB := Lib.hid hb; clear hb hrc
    rcases Classical.em (e < E) with c1 | c1
    · go_enter Tryd.func28, Tryd.ntmps28
      go_wp2
      go_ret2
      exact ⟨rfl, HB.out, grown_refl _ _⟩
    rcases Classical.em (e < 1) with c2 | c2
    · go_enter Tryd.func28, Tryd.ntmps28
      go_wp2
      go_ret2
      exact ⟨rfl, HB.out, grown_refl _ _⟩
    rcases Classical.em (1073741824 < e) with c3 | c3
    · go_enter Tryd.func28, Tryd.ntmps28
      go_wp2
      go_ret2
      exact ⟨rfl, HB.out, grown_refl _ _⟩
    rcases Classical.em (s < 1) with c4 | c4
    · go_enter Tryd.func28, Tryd.ntmps28
      go_wp2
      go_ret2
      exact ⟨rfl, HB.out, grown_refl _ _⟩
    · have c5 : 1073741824 < s := by omega
      clear bad
      go_enter Tryd.func28, Tryd.ntmps28
      go_wp2
      go_ret2
      exact ⟨rfl, HB.out, grown_refl _ _⟩
  · have c1 : E ≤ e := by omega
    have c2 : 1 ≤ e := by omega
    have c3 : e ≤ 1073741824 := by omega
    have c4 : 1 ≤ s := by omega
    have c5 : s ≤ 1073741824 := by omega
    have hrc : rc E L e s = (if s = (if E < e then 0 else L) + 1 then ((e, s), true, s) else ((e, if E < e then 0 else L), false, if E < e then 0 else L)) := by rw [rc, if_neg bad]
    clear bad
    rw [hrc]; clear hrc
    have HB := Lib.hid hb; clear hb
    by_cases c6 : E < e
    · rw [if_pos c6]
      by_cases c7 : s = 1
      · subst c7
        clear c4 c5
        rw [if_pos (show (1 : Int) = 0 + 1 from rfl)]
        go_enter Tryd.func28, Tryd.ntmps28
        go_wp2
        have hH := ((HB.out.set 0 (.int .i64 e)).set 1 (.int .i64 0)).set 1 (.int .i64 1)
        have hG := grown_set (grown_set (grown_set (grown_refl w (some g)) 0 (.int .i64 e)) 1 (.int .i64 0)) 1 (.int .i64 1)
        have q2 := hH.cell 1
        have HH := Lib.hid hH
        have HG := Lib.hid hG
        clear hH hG
        simp only [recvOf, List.setIfInBounds_toArray, List.set_cons_succ, List.set_cons_zero, List.getElem?_toArray, List.getElem?_cons_succ, List.getElem?_cons_zero] at q2
        go_quiet (fail)
        go_wp2
        go_ret2
        exact ⟨rfl, HH.out.drewN _, grown_drewN HG.out _⟩
      · have c8 : (s != 0 + 1) = true := by rw [bne_iff_ne]; omega
        have c9 : (s != 1) = true := by rw [bne_iff_ne]; omega
        rw [if_neg (by omega)]
        go_enter Tryd.func28, Tryd.ntmps28
        go_wp2
        go_quiet (fail)
        go_wp2
        go_ret2
        exact ⟨rfl, ((HB.out.set 0 (.int .i64 e)).set 1 (.int .i64 0)).drewN _, grown_drewN (grown_set (grown_set (grown_refl _ _) 0 _) 1 _) _⟩
    · have c6' : e = E := by omega
      subst c6'
      rw [if_neg c6]
      by_cases c7 : s = L + 1
      · subst c7
        rw [if_pos rfl]
        go_enter Tryd.func28, Tryd.ntmps28
        go_wp2
        go_quiet (fail)
        go_wp2
        go_ret2
        exact ⟨rfl, (HB.out.set 1 (.int .i64 (L + 1))).drewN _, grown_drewN (grown_set (grown_refl _ _) 1 _) _⟩
      · have c8 : (s != L + 1) = true := by rw [bne_iff_ne]; omega
        rw [if_neg c7]
        go_enter Tryd.func28, Tryd.ntmps28
        go_wp2
        go_quiet (fail)
        go_wp2
        go_ret2
        exact ⟨rfl, HB.out.drewN _, grown_drewN (grown_refl _ _) _⟩

theorem take_nil (e s : Int) (w : World) :
    Calls Tryd.prog 28 #[.pointer none, .int .i64 e, .int .i64 s] w fun e w' => e = .returned (.tuple #[.bool false, .int .i64 (-1)]) ∧ w = w' := by
  go_enter Tryd.func28, Tryd.ntmps28
  go_wp2
  go_ret2
  exact ⟨rfl, rfl⟩
theorem rnew_any (w : World) : Calls Tryd.prog 21 #[] w fun e w' => e = .returned (.pointer (some ⟨w.heap.size, 0, none⟩)) ∧ w' = w.alloc (.cells (recvOf 0 0) 113) := by
  go_enter Tryd.func21, Tryd.ntmps21
  go_wp2
  go_ret
  exact ⟨rfl, rfl⟩
end Go.Proofs.YtodimanghmepoaaDoor
