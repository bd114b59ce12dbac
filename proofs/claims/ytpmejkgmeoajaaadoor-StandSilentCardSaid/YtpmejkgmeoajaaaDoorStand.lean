/- Layer 31: the watch's own functions. -/
import Derived.Test.YtpmejkgmeoajaaaDoorHolds
import Derived.Test.YtpmejkgmeoajaaaDoorProg
import Derived.Deep.QuietTactic
import Derived.BigQuiet
namespace Go.Proofs.YtpmejkgmeoajaaaDoor
open Go.RowKit
/-- a watch's block -/
def Wat (w : World) (g : Nat) (sp li st si : Int) (gone : Bool) : Prop := Holds w g 50 #[.int .i64 sp, .int .i64 li, .int .i64 st, .int .i64 si, .bool gone]
theorem Wat.below {w w' : World} {B g : Nat} {sp li st si : Int} {gone : Bool} (h : Wat w g sp li st si gone) (hb : Below B w w') (hB : w.heap.size ≤ B) : Wat w' g sp li st si gone := Holds.later h hb hB
/-- what a call that writes the watch leaves -/
def WatP (w : World) (g base : Nat) (v : Value) (sp li st si : Int) (gone : Bool) (e : Ending) (w' : World) : Prop :=
  e = .returned v ∧ Wat w' g sp li st si gone ∧ Below base w w'
set_option maxRecDepth 100000 in
theorem standNew_ok (sp li : Int) (w : World) (h1 : 0 ≤ sp ∧ sp ≤ 2) (h2 : 1 ≤ li ∧ li ≤ 1000) :
    Calls Tryd.prog 7 #[.int .i64 sp, .int .i64 li] w fun e w' => e = .returned (.tuple #[.pointer (some ⟨w.heap.size, 0, none⟩), .nilIface]) ∧ w' = w.alloc (.cells #[.int .i64 sp, .int .i64 li, .int .i64 0, .int .i64 0, .bool false] 50) := by
  have d1 : decide (sp < 0) = false := by simp; omega
  have d2 : decide (2 < sp) = false := by simp; omega
  have d3 : decide (li < 1) = false := by simp; omega
  have d4 : decide (1000 < li) = false := by simp; omega
  go_enter Tryd.func7, Tryd.ntmps7
  go_wp2
  exact bodyPost_ret (v := .tuple #[.pointer (some ⟨w.heap.size, 0, none⟩), .nilIface]) (by simp [results, Tryd.results7, go_sem]) rfl ⟨rfl, rfl⟩
set_option maxRecDepth 100000 in
theorem standNew_32 (w : World) :
    Calls Tryd.prog 7 #[.int .i64 3, .int .i64 2] w fun e w' => e = .returned (.tuple #[.pointer none, .iface 48 (.int .i64 1)]) ∧ w = w' := by
  go_enter Tryd.func7, Tryd.ntmps7
  go_wp2
  exact bodyPost_ret (v := .tuple #[.pointer none, .iface 48 (.int .i64 1)]) (by simp [results, Tryd.results7, go_sem]) rfl ⟨rfl, rfl⟩
section
variable {g base : Nat} {sp li st si : Int} {gone : Bool}
set_option maxRecDepth 100000 in
theorem standStep_any (w : World) (h : Wat w g sp li st si gone) :
    Calls Tryd.prog 10 #[.pointer (some ⟨g, 0, none⟩)] w fun e w' => e = .returned (.int .i64 st) ∧ w = w' := by
  have hc : w.cell? ⟨g, 2, none⟩ = some (.int .i64 st) := Holds.cell h 2
  clear h
  go_enter Tryd.func10, Tryd.ntmps10
  go_wp2
  go_ret
  exact ⟨rfl, rfl⟩
set_option maxRecDepth 100000 in
theorem standGone_any (w : World) (h : Wat w g sp li st si gone) :
    Calls Tryd.prog 11 #[.pointer (some ⟨g, 0, none⟩)] w fun e w' => e = .returned (.bool gone) ∧ w = w' := by
  have hc : w.cell? ⟨g, 4, none⟩ = some (.bool gone) := Holds.cell h 4
  clear h
  go_enter Tryd.func11, Tryd.ntmps11
  go_wp2
  go_ret
  exact ⟨rfl, rfl⟩
set_option maxRecDepth 100000 in
theorem standHeard_ok (w : World) (h : Wat w g sp li st si false) (hg : base ≤ g) (hw : base ≤ w.heap.size) :
    Calls Tryd.prog 9 #[.pointer (some ⟨g, 0, none⟩), .int .i64 st] w (WatP w g base (.bool true) sp li st 0 false) := by
  have h2 : w.cell? ⟨g, 2, none⟩ = some (.int .i64 st) := Holds.cell h 2
  have h4 : w.cell? ⟨g, 4, none⟩ = some (.bool false) := Holds.cell h 4
  have h3 : w.cell? ⟨g, 3, none⟩ = some (.int .i64 si) := Holds.cell h 3
  have f3 : w.frozen? ⟨g, 3, none⟩ = false := Holds.frozen h 3
  have HS := Lib.hid h
  clear h
  go_enter Tryd.func9, Tryd.ntmps9
  go_wp2
  go_ret
  exact ⟨rfl, Holds.set HS.out 3 _, below_of_grown (grown_set (grown_refl _ _) 3 _) hg hw⟩
set_option maxRecDepth 100000 in
theorem standHeard_no (w : World) (s : Int) (h : Wat w g sp li st si gone) (hn : gone = true ∨ s ≠ st) :
    Calls Tryd.prog 9 #[.pointer (some ⟨g, 0, none⟩), .int .i64 s] w fun e w' => e = .returned (.bool false) ∧ w = w' := by
  have h2 : w.cell? ⟨g, 2, none⟩ = some (.int .i64 st) := Holds.cell h 2
  have h4 : w.cell? ⟨g, 4, none⟩ = some (.bool gone) := Holds.cell h 4
  clear h
  cases gone with
  | true =>
    clear hn
    go_enter Tryd.func9, Tryd.ntmps9
    go_wp2
    go_ret
    exact ⟨rfl, rfl⟩
  | false =>
    have hn' : (s != st) = true := by simpa using hn
    clear hn
    go_enter Tryd.func9, Tryd.ntmps9
    go_wp2
    go_ret
    exact ⟨rfl, rfl⟩
set_option maxRecDepth 100000 in
theorem standTick_done (w : World) (h : Wat w g sp li st si true) :
    Calls Tryd.prog 8 #[.pointer (some ⟨g, 0, none⟩)] w fun e w' => e = .returned (.int .i64 0) ∧ w = w' := by
  have h4 : w.cell? ⟨g, 4, none⟩ = some (.bool true) := Holds.cell h 4
  clear h
  go_enter Tryd.func8, Tryd.ntmps8
  go_wp2
  go_ret
  exact ⟨rfl, rfl⟩
theorem Wat.drewN {w : World} (h : Wat w g sp li st si gone) (n : Nat) : Wat (w.drewN n) g sp li st si gone := h
theorem Wat.cells {w : World} (h : Wat w g sp li st si gone) : w.cell? ⟨g, 0, none⟩ = some (.int .i64 sp) ∧ w.cell? ⟨g, 1, none⟩ = some (.int .i64 li) ∧ w.cell? ⟨g, 2, none⟩ = some (.int .i64 st) ∧ w.cell? ⟨g, 3, none⟩ = some (.int .i64 si) ∧ w.cell? ⟨g, 4, none⟩ = some (.bool gone) :=
  ⟨Holds.cell h 0, Holds.cell h 1, Holds.cell h 2, Holds.cell h 3, Holds.cell h 4⟩
theorem Wat.free {w : World} (h : Wat w g sp li st si gone) : w.frozen? ⟨g, 2, none⟩ = false ∧ w.frozen? ⟨g, 3, none⟩ = false ∧ w.frozen? ⟨g, 4, none⟩ = false :=
  ⟨Holds.frozen h 2, Holds.frozen h 3, Holds.frozen h 4⟩
/-- one more tick of silence, stored -/
theorem Wat.silent {w : World} (h : Wat w g sp li st si gone) (hg : base ≤ g) (hw : base ≤ w.heap.size) (x : Int) : Wat (w.setCell ⟨g, 3, none⟩ (.int .i64 x)) g sp li st x gone ∧ Below base w (w.setCell ⟨g, 3, none⟩ (.int .i64 x)) ∧ w.heap.size = (w.setCell ⟨g, 3, none⟩ (.int .i64 x)).heap.size :=
  ⟨Holds.set h 3 _, below_of_grown (grown_set (grown_refl _ _) 3 _) hg hw, by simp [World.setCell]⟩
set_option maxRecDepth 100000 in
theorem standTick_wait (w : World) (h : Wat w g sp li st si false) (h0 : 0 ≤ si ∧ si ≤ 1000) (h1 : si + 1 < li) (hg : base ≤ g) (hw : base ≤ w.heap.size) :
    Calls Tryd.prog 8 #[.pointer (some ⟨g, 0, none⟩)] w (WatP w g base (.int .i64 0) sp li st (si + 1) false) := by
  obtain ⟨q0, q1, q2, q3, q4⟩ := h.cells
  obtain ⟨f2, f3, f4⟩ := h.free
  have HS := Lib.hid h
  clear h
  go_enter Tryd.func8, Tryd.ntmps8
  go_wp2
  obtain ⟨T, B, _⟩ := HS.out.silent hg hw (si + 1)
  have HB := Lib.hid B
  clear q0 q1 q2 q3 q4 f2 f3 f4 B
  generalize w.setCell ⟨g, 3, none⟩ (.int .i64 (si + 1)) = w1 at *
  obtain ⟨q0, q1, q2, q3, q4⟩ := T.cells
  have HT := Lib.hid T
  clear T
  go_quiet (fail)
  go_wp2
  go_ret
  exact ⟨rfl, HT.out.drewN _, HB.out.trans ⟨rfl, rfl, rfl, Nat.le_refl _, fun _ _ => rfl⟩⟩
set_option maxRecDepth 100000 in
theorem standTick_step (w : World) (h : Wat w g sp li st si false) (h0 : 0 ≤ si ∧ si ≤ 1000) (h1 : li ≤ si + 1) (h2 : 0 ≤ st ∧ st < sp ∧ sp ≤ 2) (hg : base ≤ g) (hw : base ≤ w.heap.size) :
    Calls Tryd.prog 8 #[.pointer (some ⟨g, 0, none⟩)] w (WatP w g base (.int .i64 1) sp li (st + 1) 0 false) := by
  obtain ⟨q0, q1, q2, q3, q4⟩ := h.cells
  obtain ⟨f2, f3, f4⟩ := h.free
  have HS := Lib.hid h
  clear h
  go_enter Tryd.func8, Tryd.ntmps8
  go_wp2
  obtain ⟨T, B, hz⟩ := HS.out.silent hg hw (si + 1)
  have HB := Lib.hid B
  clear q0 q1 q2 q3 q4 f2 f3 f4 B
  generalize w.setCell ⟨g, 3, none⟩ (.int .i64 (si + 1)) = w1 at *
  obtain ⟨q0, q1, q2, q3, q4⟩ := T.cells
  have HT := Lib.hid T
  clear T
  go_quiet (fail)
  go_wp2
  obtain ⟨w2, hw2⟩ : ∃ w2, w2 = w1.drewN nq := ⟨_, rfl⟩
  have T := HT.out.drewN nq
  have B : Below base w1 (w1.drewN nq) := ⟨rfl, rfl, rfl, Nat.le_refl _, fun _ _ => rfl⟩
  rw [← hw2] at T B ⊢
  have hz2 : w1.heap.size = w2.heap.size := by rw [hw2]; rfl
  clear hw2 q0 q1 q2 q3 q4
  obtain ⟨q0, q1, q2, q3, q4⟩ := T.cells
  obtain ⟨f2, f3, f4⟩ := T.free
  have HT := Lib.hid T
  have HB := Lib.hid (HB.out.trans B)
  clear T B
  go_quiet (fail)
  go_wp2
  have B3 : Below base w2 (w2.drewN nq) := ⟨rfl, rfl, rfl, Nat.le_refl _, fun _ _ => rfl⟩
  go_ret
  exact ⟨rfl, Holds.set (Holds.set (HT.out.drewN _) 2 _) 3 _, (HB.out.trans B3).trans (below_of_grown (grown_set (grown_set (grown_refl _ _) 2 _) 3 _) hg (by show base ≤ w2.heap.size; omega))⟩
set_option maxRecDepth 100000 in
theorem standTick_gone (w : World) (h : Wat w g sp li st si false) (h0 : 0 ≤ si ∧ si ≤ 1000) (h1 : li ≤ si + 1) (h2 : sp ≤ st) (hg : base ≤ g) (hw : base ≤ w.heap.size) :
    Calls Tryd.prog 8 #[.pointer (some ⟨g, 0, none⟩)] w (WatP w g base (.int .i64 2) sp li st (si + 1) true) := by
  obtain ⟨q0, q1, q2, q3, q4⟩ := h.cells
  obtain ⟨f2, f3, f4⟩ := h.free
  have HS := Lib.hid h
  clear h
  go_enter Tryd.func8, Tryd.ntmps8
  go_wp2
  obtain ⟨T, B, hz⟩ := HS.out.silent hg hw (si + 1)
  have HB := Lib.hid B
  clear q0 q1 q2 q3 q4 f2 f3 f4 B
  generalize w.setCell ⟨g, 3, none⟩ (.int .i64 (si + 1)) = w1 at *
  obtain ⟨q0, q1, q2, q3, q4⟩ := T.cells
  have HT := Lib.hid T
  clear T
  go_quiet (fail)
  go_wp2
  obtain ⟨w2, hw2⟩ : ∃ w2, w2 = w1.drewN nq := ⟨_, rfl⟩
  have T := HT.out.drewN nq
  have B : Below base w1 (w1.drewN nq) := ⟨rfl, rfl, rfl, Nat.le_refl _, fun _ _ => rfl⟩
  rw [← hw2] at T B ⊢
  have hz2 : w1.heap.size = w2.heap.size := by rw [hw2]; rfl
  clear hw2 q0 q1 q2 q3 q4
  obtain ⟨q0, q1, q2, q3, q4⟩ := T.cells
  obtain ⟨f2, f3, f4⟩ := T.free
  have HT := Lib.hid T
  have HB := Lib.hid (HB.out.trans B)
  clear T B
  go_quiet (fail)
  go_wp2
  have B3 : Below base w2 (w2.drewN nq) := ⟨rfl, rfl, rfl, Nat.le_refl _, fun _ _ => rfl⟩
  go_ret
  exact ⟨rfl, Holds.set (HT.out.drewN _) 4 _, (HB.out.trans B3).trans (below_of_grown (grown_set (grown_refl _ _) 4 _) hg (by show base ≤ w2.heap.size; omega))⟩
end
end Go.Proofs.YtpmejkgmeoajaaaDoor
