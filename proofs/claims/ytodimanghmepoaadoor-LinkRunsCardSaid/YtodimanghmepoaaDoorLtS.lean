/- Layer 17: the document's sender. Printed by lts.py. -/
import Derived.Test.YtodimanghmepoaaDoorLsC
import Derived.Deep.CutRange
import Derived.Deep.CutBlock
import Derived.RegionTactic
import Derived.BigRegion
import Derived.Test.YtodimanghmepoaaDoorLtA
namespace Go.Proofs.YtodimanghmepoaaDoor
open Go.RowKit
theorem sbelow_grown {w w1 w2 : World} {g : Nat} (h : Below w.heap.size w w1) (hg : w1.grownBy w2 (some g)) (hgs : w.heap.size ≤ g) : Below w.heap.size w w2 := h.grown hg h.size (fun k hk => by injection hk with hk; omega)
theorem sfive {w : World} {wx : World} {p : Nat} {t : TypeId} {o0 o1 o2 o3 o4 v0 v1 v2 v3 v4 : Value} (h : Holds wx p t #[o0, o1, o2, o3, o4]) (hb : Below w.heap.size w wx) (hp : w.heap.size ≤ p) :
    Holds (((((wx.setCell ⟨p, 0, none⟩ v0).setCell ⟨p, 1, none⟩ v1).setCell ⟨p, 2, none⟩ v2).setCell ⟨p, 3, none⟩ v3).setCell ⟨p, 4, none⟩ v4) p t #[v0, v1, v2, v3, v4] ∧ Below w.heap.size w (((((wx.setCell ⟨p, 0, none⟩ v0).setCell ⟨p, 1, none⟩ v1).setCell ⟨p, 2, none⟩ v2).setCell ⟨p, 3, none⟩ v3).setCell ⟨p, 4, none⟩ v4) :=
  ⟨((((h.set 0 v0).set 1 v1).set 2 v2).set 3 v3).set 4 v4, sbelow_grown hb (grown_set (grown_set (grown_set (grown_set (grown_set (grown_refl _ _) 0 v0) 1 v1) 2 v2) 3 v3) 4 v4) hp⟩
section
variable {w : World} {A : Option Addr} {n c : Nat} {E S st lf : Int}
set_option maxRecDepth 100000 in
set_option maxHeartbeats 2000000 in
theorem rtick_pos (h : 0 < lf) (h2 : lf ≤ 24) : Calls Tryd.prog 19 #[.agg #[.int .i64 E, .int .i64 S, .slice A n c, .int .i64 st, .int .i64 lf]] w fun e w' => e = .returned (.agg #[.int .i64 E, .int .i64 S, .slice A n c, .int .i64 st, .int .i64 (lf - 1)]) ∧ Below w.heap.size w w' := by
  have hd : decide (0 < lf) = true := decide_eq_true h
  have H0 := Holds.new w 42 #[.int .i64 E, .int .i64 S, .slice A n c, .int .i64 st, .int .i64 lf] w.heap.size rfl
  have P1 := Lib.hid (H0.alloc (.cells #[.int .i64 0, .int .i64 0, .slice none 0 0, .int .i64 0, .int .i64 0] 42))
  have P2 := Lib.hid (Holds.new (w.alloc (.cells #[.int .i64 E, .int .i64 S, .slice A n c, .int .i64 st, .int .i64 lf] 42)) 42 #[.int .i64 0, .int .i64 0, .slice none 0 0, .int .i64 0, .int .i64 0] (w.heap.size + 1) (by simp))
  have BA := Lib.hid ((Below.refl w.heap.size w).alloc (Nat.le_refl _) (.cells #[.int .i64 E, .int .i64 S, .slice A n c, .int .i64 st, .int .i64 lf] 42) |>.alloc (by simp) (.cells #[.int .i64 0, .int .i64 0, .slice none 0 0, .int .i64 0, .int .i64 0] 42))
  clear H0
  go_enter Tryd.func19, Tryd.ntmps19
  go_upto_region 1 with fail
  generalize ((w.alloc (.cells #[.int .i64 E, .int .i64 S, .slice A n c, .int .i64 st, .int .i64 lf] 42)).alloc (.cells #[.int .i64 0, .int .i64 0, .slice none 0 0, .int .i64 0, .int .i64 0] 42)) = w0 at *
  have c0 := P1.out.cell 0
  have c1 := P1.out.cell 1
  have c2 := P1.out.cell 2
  have c3 := P1.out.cell 3
  have c4 := P1.out.cell 4
  simp only [List.getElem?_toArray, List.getElem?_cons_zero, List.getElem?_cons_succ] at c0 c1 c2 c3 c4
  have e0 := P1.out.frozen 0
  have e1 := P1.out.frozen 1
  have e2 := P1.out.frozen 2
  have e3 := P1.out.frozen 3
  have e4 := P1.out.frozen 4
  have d0 := P2.out.cell 0
  have d1 := P2.out.cell 1
  have d2 := P2.out.cell 2
  have d3 := P2.out.cell 3
  have d4 := P2.out.cell 4
  simp only [List.getElem?_toArray, List.getElem?_cons_zero, List.getElem?_cons_succ] at d0 d1 d2 d3 d4
  have f0 := P2.out.frozen 0
  have f1 := P2.out.frozen 1
  have f2 := P2.out.frozen 2
  have f3 := P2.out.frozen 3
  have f4 := P2.out.frozen 4
  go_wp2_with fail
  have P7 := Lib.hid (P2.out.far (p := ⟨w.heap.size, 4, none⟩) (by show w.heap.size + 1 ≠ w.heap.size; omega) (.int .i64 (lf - 1)))
  have B7 := Lib.hid (sbelow_grown BA.out (grown_set (grown_refl _ (some w.heap.size)) 4 (.int .i64 (lf - 1))) (Nat.le_refl _))
  generalize (w0.setCell ⟨w.heap.size, 4, none⟩ (.int .i64 (lf - 1))) = wy at *
  obtain ⟨HQ, HR⟩ := sfive (w := w) (v0 := .int .i64 E) (v1 := .int .i64 S) (v2 := .slice A n c) (v3 := .int .i64 st) (v4 := .int .i64 (lf - 1)) P7.out B7.out (Nat.le_succ _)
  have q0 := HQ.cell 0
  have q1 := HQ.cell 1
  have q2 := HQ.cell 2
  have q3 := HQ.cell 3
  have q4 := HQ.cell 4
  simp only [List.getElem?_toArray, List.getElem?_cons_zero, List.getElem?_cons_succ] at q0 q1 q2 q3 q4
  have HR' := Lib.hid HR
  clear HQ HR
  generalize (((((wy.setCell ⟨w.heap.size + 1, 0, none⟩ (.int .i64 E)).setCell ⟨w.heap.size + 1, 1, none⟩ (.int .i64 S)).setCell ⟨w.heap.size + 1, 2, none⟩ (.slice A n c)).setCell ⟨w.heap.size + 1, 3, none⟩ (.int .i64 st)).setCell ⟨w.heap.size + 1, 4, none⟩ (.int .i64 (lf - 1))) = wz at *
  exact bodyPost_ret (v := .agg #[.int .i64 E, .int .i64 S, .slice A n c, .int .i64 st, .int .i64 (lf - 1)]) (by simp [results, Tryd.results19, go_sem, q0, q1, q2, q3, q4]) rfl ⟨rfl, HR'.out⟩
set_option maxRecDepth 100000 in
set_option maxHeartbeats 2000000 in
theorem rtick_zero (h : ¬ 0 < lf) : Calls Tryd.prog 19 #[.agg #[.int .i64 E, .int .i64 S, .slice A n c, .int .i64 st, .int .i64 lf]] w fun e w' => e = .returned (.agg #[.int .i64 E, .int .i64 S, .slice A n c, .int .i64 st, .int .i64 lf]) ∧ Below w.heap.size w w' := by
  have hd : decide (0 < lf) = false := decide_eq_false h
  have H0 := Holds.new w 42 #[.int .i64 E, .int .i64 S, .slice A n c, .int .i64 st, .int .i64 lf] w.heap.size rfl
  have P1 := Lib.hid (H0.alloc (.cells #[.int .i64 0, .int .i64 0, .slice none 0 0, .int .i64 0, .int .i64 0] 42))
  have P2 := Lib.hid (Holds.new (w.alloc (.cells #[.int .i64 E, .int .i64 S, .slice A n c, .int .i64 st, .int .i64 lf] 42)) 42 #[.int .i64 0, .int .i64 0, .slice none 0 0, .int .i64 0, .int .i64 0] (w.heap.size + 1) (by simp))
  have BA := Lib.hid ((Below.refl w.heap.size w).alloc (Nat.le_refl _) (.cells #[.int .i64 E, .int .i64 S, .slice A n c, .int .i64 st, .int .i64 lf] 42) |>.alloc (by simp) (.cells #[.int .i64 0, .int .i64 0, .slice none 0 0, .int .i64 0, .int .i64 0] 42))
  clear H0
  go_enter Tryd.func19, Tryd.ntmps19
  go_upto_region 1 with fail
  generalize ((w.alloc (.cells #[.int .i64 E, .int .i64 S, .slice A n c, .int .i64 st, .int .i64 lf] 42)).alloc (.cells #[.int .i64 0, .int .i64 0, .slice none 0 0, .int .i64 0, .int .i64 0] 42)) = w0 at *
  have c0 := P1.out.cell 0
  have c1 := P1.out.cell 1
  have c2 := P1.out.cell 2
  have c3 := P1.out.cell 3
  have c4 := P1.out.cell 4
  simp only [List.getElem?_toArray, List.getElem?_cons_zero, List.getElem?_cons_succ] at c0 c1 c2 c3 c4
  have e0 := P1.out.frozen 0
  have e1 := P1.out.frozen 1
  have e2 := P1.out.frozen 2
  have e3 := P1.out.frozen 3
  have e4 := P1.out.frozen 4
  have d0 := P2.out.cell 0
  have d1 := P2.out.cell 1
  have d2 := P2.out.cell 2
  have d3 := P2.out.cell 3
  have d4 := P2.out.cell 4
  simp only [List.getElem?_toArray, List.getElem?_cons_zero, List.getElem?_cons_succ] at d0 d1 d2 d3 d4
  have f0 := P2.out.frozen 0
  have f1 := P2.out.frozen 1
  have f2 := P2.out.frozen 2
  have f3 := P2.out.frozen 3
  have f4 := P2.out.frozen 4
  go_wp2_with fail
  obtain ⟨HQ, HR⟩ := sfive (w := w) (v0 := .int .i64 E) (v1 := .int .i64 S) (v2 := .slice A n c) (v3 := .int .i64 st) (v4 := .int .i64 lf) P2.out BA.out (Nat.le_succ _)
  have q0 := HQ.cell 0
  have q1 := HQ.cell 1
  have q2 := HQ.cell 2
  have q3 := HQ.cell 3
  have q4 := HQ.cell 4
  simp only [List.getElem?_toArray, List.getElem?_cons_zero, List.getElem?_cons_succ] at q0 q1 q2 q3 q4
  have HR' := Lib.hid HR
  clear HQ HR
  generalize (((((w0.setCell ⟨w.heap.size + 1, 0, none⟩ (.int .i64 E)).setCell ⟨w.heap.size + 1, 1, none⟩ (.int .i64 S)).setCell ⟨w.heap.size + 1, 2, none⟩ (.slice A n c)).setCell ⟨w.heap.size + 1, 3, none⟩ (.int .i64 st)).setCell ⟨w.heap.size + 1, 4, none⟩ (.int .i64 lf)) = wz at *
  exact bodyPost_ret (v := .agg #[.int .i64 E, .int .i64 S, .slice A n c, .int .i64 st, .int .i64 lf]) (by simp [results, Tryd.results19, go_sem, q0, q1, q2, q3, q4]) rfl ⟨rfl, HR'.out⟩
set_option maxRecDepth 100000 in
set_option maxHeartbeats 2000000 in
theorem rout_no0 (h : n = 0) : Calls Tryd.prog 32 #[.agg #[.int .i64 E, .int .i64 S, .slice A n c, .int .i64 st, .int .i64 lf]] w fun e w' => e = .returned (.tuple #[.agg #[.int .i64 E, .int .i64 S, .slice A n c, .int .i64 st, .int .i64 lf], .int .i64 0, .slice none 0 0, .bool false]) ∧ Below w.heap.size w w' := by
  subst h
  have H0 := Holds.new w 42 #[.int .i64 E, .int .i64 S, .slice A 0 c, .int .i64 st, .int .i64 lf] w.heap.size rfl
  have P1 := Lib.hid (H0.alloc (.cells #[.int .i64 0, .int .i64 0, .slice none 0 0, .int .i64 0, .int .i64 0] 42))
  have P2 := Lib.hid (Holds.new (w.alloc (.cells #[.int .i64 E, .int .i64 S, .slice A 0 c, .int .i64 st, .int .i64 lf] 42)) 42 #[.int .i64 0, .int .i64 0, .slice none 0 0, .int .i64 0, .int .i64 0] (w.heap.size + 1) (by simp))
  have BA := Lib.hid ((Below.refl w.heap.size w).alloc (Nat.le_refl _) (.cells #[.int .i64 E, .int .i64 S, .slice A 0 c, .int .i64 st, .int .i64 lf] 42) |>.alloc (by simp) (.cells #[.int .i64 0, .int .i64 0, .slice none 0 0, .int .i64 0, .int .i64 0] 42))
  clear H0
  go_enter Tryd.func32, Tryd.ntmps32
  go_upto_region 1 with fail
  generalize ((w.alloc (.cells #[.int .i64 E, .int .i64 S, .slice A 0 c, .int .i64 st, .int .i64 lf] 42)).alloc (.cells #[.int .i64 0, .int .i64 0, .slice none 0 0, .int .i64 0, .int .i64 0] 42)) = w0 at *
  have c0 := P1.out.cell 0
  have c1 := P1.out.cell 1
  have c2 := P1.out.cell 2
  have c3 := P1.out.cell 3
  have c4 := P1.out.cell 4
  simp only [List.getElem?_toArray, List.getElem?_cons_zero, List.getElem?_cons_succ] at c0 c1 c2 c3 c4
  have e0 := P1.out.frozen 0
  have e1 := P1.out.frozen 1
  have e2 := P1.out.frozen 2
  have e3 := P1.out.frozen 3
  have e4 := P1.out.frozen 4
  have d0 := P2.out.cell 0
  have d1 := P2.out.cell 1
  have d2 := P2.out.cell 2
  have d3 := P2.out.cell 3
  have d4 := P2.out.cell 4
  simp only [List.getElem?_toArray, List.getElem?_cons_zero, List.getElem?_cons_succ] at d0 d1 d2 d3 d4
  have f0 := P2.out.frozen 0
  have f1 := P2.out.frozen 1
  have f2 := P2.out.frozen 2
  have f3 := P2.out.frozen 3
  have f4 := P2.out.frozen 4
  go_wp2_with fail
  obtain ⟨HQ, HR⟩ := sfive (w := w) (v0 := .int .i64 E) (v1 := .int .i64 S) (v2 := .slice A 0 c) (v3 := .int .i64 st) (v4 := .int .i64 lf) P2.out BA.out (Nat.le_succ _)
  have q0 := HQ.cell 0
  have q1 := HQ.cell 1
  have q2 := HQ.cell 2
  have q3 := HQ.cell 3
  have q4 := HQ.cell 4
  simp only [List.getElem?_toArray, List.getElem?_cons_zero, List.getElem?_cons_succ] at q0 q1 q2 q3 q4
  have HR' := Lib.hid HR
  clear HQ HR
  generalize (((((w0.setCell ⟨w.heap.size + 1, 0, none⟩ (.int .i64 E)).setCell ⟨w.heap.size + 1, 1, none⟩ (.int .i64 S)).setCell ⟨w.heap.size + 1, 2, none⟩ (.slice A 0 c)).setCell ⟨w.heap.size + 1, 3, none⟩ (.int .i64 st)).setCell ⟨w.heap.size + 1, 4, none⟩ (.int .i64 lf)) = wz at *
  exact bodyPost_ret (v := .tuple #[.agg #[.int .i64 E, .int .i64 S, .slice A 0 c, .int .i64 st, .int .i64 lf], .int .i64 0, .slice none 0 0, .bool false]) (by simp [results, Tryd.results32, go_sem, q0, q1, q2, q3, q4]) rfl ⟨rfl, HR'.out⟩
set_option maxRecDepth 100000 in
set_option maxHeartbeats 2000000 in
theorem rout_no1 (h : n ≠ 0) (h2 : 0 < lf) : Calls Tryd.prog 32 #[.agg #[.int .i64 E, .int .i64 S, .slice A n c, .int .i64 st, .int .i64 lf]] w fun e w' => e = .returned (.tuple #[.agg #[.int .i64 E, .int .i64 S, .slice A n c, .int .i64 st, .int .i64 lf], .int .i64 0, .slice none 0 0, .bool false]) ∧ Below w.heap.size w w' := by
  have hd1 : ((n : Int) == 0) = false := by simp; omega
  have hd3 : (n == 0) = false := by simpa using h
  have hd4 : decide (n = 0) = false := by simpa using h
  have hd2 : decide (0 < lf) = true := decide_eq_true h2
  clear h
  have H0 := Holds.new w 42 #[.int .i64 E, .int .i64 S, .slice A n c, .int .i64 st, .int .i64 lf] w.heap.size rfl
  have P1 := Lib.hid (H0.alloc (.cells #[.int .i64 0, .int .i64 0, .slice none 0 0, .int .i64 0, .int .i64 0] 42))
  have P2 := Lib.hid (Holds.new (w.alloc (.cells #[.int .i64 E, .int .i64 S, .slice A n c, .int .i64 st, .int .i64 lf] 42)) 42 #[.int .i64 0, .int .i64 0, .slice none 0 0, .int .i64 0, .int .i64 0] (w.heap.size + 1) (by simp))
  have BA := Lib.hid ((Below.refl w.heap.size w).alloc (Nat.le_refl _) (.cells #[.int .i64 E, .int .i64 S, .slice A n c, .int .i64 st, .int .i64 lf] 42) |>.alloc (by simp) (.cells #[.int .i64 0, .int .i64 0, .slice none 0 0, .int .i64 0, .int .i64 0] 42))
  clear H0
  go_enter Tryd.func32, Tryd.ntmps32
  go_upto_region 1 with fail
  generalize ((w.alloc (.cells #[.int .i64 E, .int .i64 S, .slice A n c, .int .i64 st, .int .i64 lf] 42)).alloc (.cells #[.int .i64 0, .int .i64 0, .slice none 0 0, .int .i64 0, .int .i64 0] 42)) = w0 at *
  have c0 := P1.out.cell 0
  have c1 := P1.out.cell 1
  have c2 := P1.out.cell 2
  have c3 := P1.out.cell 3
  have c4 := P1.out.cell 4
  simp only [List.getElem?_toArray, List.getElem?_cons_zero, List.getElem?_cons_succ] at c0 c1 c2 c3 c4
  have e0 := P1.out.frozen 0
  have e1 := P1.out.frozen 1
  have e2 := P1.out.frozen 2
  have e3 := P1.out.frozen 3
  have e4 := P1.out.frozen 4
  have d0 := P2.out.cell 0
  have d1 := P2.out.cell 1
  have d2 := P2.out.cell 2
  have d3 := P2.out.cell 3
  have d4 := P2.out.cell 4
  simp only [List.getElem?_toArray, List.getElem?_cons_zero, List.getElem?_cons_succ] at d0 d1 d2 d3 d4
  have f0 := P2.out.frozen 0
  have f1 := P2.out.frozen 1
  have f2 := P2.out.frozen 2
  have f3 := P2.out.frozen 3
  have f4 := P2.out.frozen 4
  go_wp2_with fail
  obtain ⟨HQ, HR⟩ := sfive (w := w) (v0 := .int .i64 E) (v1 := .int .i64 S) (v2 := .slice A n c) (v3 := .int .i64 st) (v4 := .int .i64 lf) P2.out BA.out (Nat.le_succ _)
  have q0 := HQ.cell 0
  have q1 := HQ.cell 1
  have q2 := HQ.cell 2
  have q3 := HQ.cell 3
  have q4 := HQ.cell 4
  simp only [List.getElem?_toArray, List.getElem?_cons_zero, List.getElem?_cons_succ] at q0 q1 q2 q3 q4
  have HR' := Lib.hid HR
  clear HQ HR
  generalize (((((w0.setCell ⟨w.heap.size + 1, 0, none⟩ (.int .i64 E)).setCell ⟨w.heap.size + 1, 1, none⟩ (.int .i64 S)).setCell ⟨w.heap.size + 1, 2, none⟩ (.slice A n c)).setCell ⟨w.heap.size + 1, 3, none⟩ (.int .i64 st)).setCell ⟨w.heap.size + 1, 4, none⟩ (.int .i64 lf)) = wz at *
  exact bodyPost_ret (v := .tuple #[.agg #[.int .i64 E, .int .i64 S, .slice A n c, .int .i64 st, .int .i64 lf], .int .i64 0, .slice none 0 0, .bool false]) (by simp [results, Tryd.results32, go_sem, q0, q1, q2, q3, q4]) rfl ⟨rfl, HR'.out⟩
set_option maxRecDepth 100000 in
set_option maxHeartbeats 2000000 in
theorem rheard_no0 (i j : Int) (h : i ≠ E) : Calls Tryd.prog 38 #[.agg #[.int .i64 E, .int .i64 S, .slice A n c, .int .i64 st, .int .i64 lf], .int .i64 i, .int .i64 j] w fun e w' => e = .returned (.tuple #[.agg #[.int .i64 E, .int .i64 S, .slice A n c, .int .i64 st, .int .i64 lf], .bool false]) ∧ Below w.heap.size w w' := by
  have hd1 : decide (i = E) = false := decide_eq_false h
  have H0 := Holds.new w 42 #[.int .i64 E, .int .i64 S, .slice A n c, .int .i64 st, .int .i64 lf] w.heap.size rfl
  have P1 := Lib.hid (H0.alloc (.cells #[.int .i64 0, .int .i64 0, .slice none 0 0, .int .i64 0, .int .i64 0] 42))
  have P2 := Lib.hid (Holds.new (w.alloc (.cells #[.int .i64 E, .int .i64 S, .slice A n c, .int .i64 st, .int .i64 lf] 42)) 42 #[.int .i64 0, .int .i64 0, .slice none 0 0, .int .i64 0, .int .i64 0] (w.heap.size + 1) (by simp))
  have BA := Lib.hid ((Below.refl w.heap.size w).alloc (Nat.le_refl _) (.cells #[.int .i64 E, .int .i64 S, .slice A n c, .int .i64 st, .int .i64 lf] 42) |>.alloc (by simp) (.cells #[.int .i64 0, .int .i64 0, .slice none 0 0, .int .i64 0, .int .i64 0] 42))
  clear H0
  go_enter Tryd.func38, Tryd.ntmps38
  go_upto_region 1 with fail
  generalize ((w.alloc (.cells #[.int .i64 E, .int .i64 S, .slice A n c, .int .i64 st, .int .i64 lf] 42)).alloc (.cells #[.int .i64 0, .int .i64 0, .slice none 0 0, .int .i64 0, .int .i64 0] 42)) = w0 at *
  have c0 := P1.out.cell 0
  have c1 := P1.out.cell 1
  have c2 := P1.out.cell 2
  have c3 := P1.out.cell 3
  have c4 := P1.out.cell 4
  simp only [List.getElem?_toArray, List.getElem?_cons_zero, List.getElem?_cons_succ] at c0 c1 c2 c3 c4
  have e0 := P1.out.frozen 0
  have e1 := P1.out.frozen 1
  have e2 := P1.out.frozen 2
  have e3 := P1.out.frozen 3
  have e4 := P1.out.frozen 4
  have d0 := P2.out.cell 0
  have d1 := P2.out.cell 1
  have d2 := P2.out.cell 2
  have d3 := P2.out.cell 3
  have d4 := P2.out.cell 4
  simp only [List.getElem?_toArray, List.getElem?_cons_zero, List.getElem?_cons_succ] at d0 d1 d2 d3 d4
  have f0 := P2.out.frozen 0
  have f1 := P2.out.frozen 1
  have f2 := P2.out.frozen 2
  have f3 := P2.out.frozen 3
  have f4 := P2.out.frozen 4
  go_wp2_with fail
  obtain ⟨HQ, HR⟩ := sfive (w := w) (v0 := .int .i64 E) (v1 := .int .i64 S) (v2 := .slice A n c) (v3 := .int .i64 st) (v4 := .int .i64 lf) P2.out BA.out (Nat.le_succ _)
  have q0 := HQ.cell 0
  have q1 := HQ.cell 1
  have q2 := HQ.cell 2
  have q3 := HQ.cell 3
  have q4 := HQ.cell 4
  simp only [List.getElem?_toArray, List.getElem?_cons_zero, List.getElem?_cons_succ] at q0 q1 q2 q3 q4
  have HR' := Lib.hid HR
  clear HQ HR
  generalize (((((w0.setCell ⟨w.heap.size + 1, 0, none⟩ (.int .i64 E)).setCell ⟨w.heap.size + 1, 1, none⟩ (.int .i64 S)).setCell ⟨w.heap.size + 1, 2, none⟩ (.slice A n c)).setCell ⟨w.heap.size + 1, 3, none⟩ (.int .i64 st)).setCell ⟨w.heap.size + 1, 4, none⟩ (.int .i64 lf)) = wz at *
  exact bodyPost_ret (v := .tuple #[.agg #[.int .i64 E, .int .i64 S, .slice A n c, .int .i64 st, .int .i64 lf], .bool false]) (by simp [results, Tryd.results38, go_sem, q0, q1, q2, q3, q4]) rfl ⟨rfl, HR'.out⟩
set_option maxRecDepth 100000 in
set_option maxHeartbeats 2000000 in
theorem rheard_no1 (i j : Int) (h : i = E) (h2 : j ≠ S) : Calls Tryd.prog 38 #[.agg #[.int .i64 E, .int .i64 S, .slice A n c, .int .i64 st, .int .i64 lf], .int .i64 i, .int .i64 j] w fun e w' => e = .returned (.tuple #[.agg #[.int .i64 E, .int .i64 S, .slice A n c, .int .i64 st, .int .i64 lf], .bool false]) ∧ Below w.heap.size w w' := by
  subst h
  have hd1 : decide (j = S) = false := decide_eq_false h2
  have H0 := Holds.new w 42 #[.int .i64 i, .int .i64 S, .slice A n c, .int .i64 st, .int .i64 lf] w.heap.size rfl
  have P1 := Lib.hid (H0.alloc (.cells #[.int .i64 0, .int .i64 0, .slice none 0 0, .int .i64 0, .int .i64 0] 42))
  have P2 := Lib.hid (Holds.new (w.alloc (.cells #[.int .i64 i, .int .i64 S, .slice A n c, .int .i64 st, .int .i64 lf] 42)) 42 #[.int .i64 0, .int .i64 0, .slice none 0 0, .int .i64 0, .int .i64 0] (w.heap.size + 1) (by simp))
  have BA := Lib.hid ((Below.refl w.heap.size w).alloc (Nat.le_refl _) (.cells #[.int .i64 i, .int .i64 S, .slice A n c, .int .i64 st, .int .i64 lf] 42) |>.alloc (by simp) (.cells #[.int .i64 0, .int .i64 0, .slice none 0 0, .int .i64 0, .int .i64 0] 42))
  clear H0
  go_enter Tryd.func38, Tryd.ntmps38
  go_upto_region 1 with fail
  generalize ((w.alloc (.cells #[.int .i64 i, .int .i64 S, .slice A n c, .int .i64 st, .int .i64 lf] 42)).alloc (.cells #[.int .i64 0, .int .i64 0, .slice none 0 0, .int .i64 0, .int .i64 0] 42)) = w0 at *
  have c0 := P1.out.cell 0
  have c1 := P1.out.cell 1
  have c2 := P1.out.cell 2
  have c3 := P1.out.cell 3
  have c4 := P1.out.cell 4
  simp only [List.getElem?_toArray, List.getElem?_cons_zero, List.getElem?_cons_succ] at c0 c1 c2 c3 c4
  have e0 := P1.out.frozen 0
  have e1 := P1.out.frozen 1
  have e2 := P1.out.frozen 2
  have e3 := P1.out.frozen 3
  have e4 := P1.out.frozen 4
  have d0 := P2.out.cell 0
  have d1 := P2.out.cell 1
  have d2 := P2.out.cell 2
  have d3 := P2.out.cell 3
  have d4 := P2.out.cell 4
  simp only [List.getElem?_toArray, List.getElem?_cons_zero, List.getElem?_cons_succ] at d0 d1 d2 d3 d4
  have f0 := P2.out.frozen 0
  have f1 := P2.out.frozen 1
  have f2 := P2.out.frozen 2
  have f3 := P2.out.frozen 3
  have f4 := P2.out.frozen 4
  go_wp2_with fail
  obtain ⟨HQ, HR⟩ := sfive (w := w) (v0 := .int .i64 i) (v1 := .int .i64 S) (v2 := .slice A n c) (v3 := .int .i64 st) (v4 := .int .i64 lf) P2.out BA.out (Nat.le_succ _)
  have q0 := HQ.cell 0
  have q1 := HQ.cell 1
  have q2 := HQ.cell 2
  have q3 := HQ.cell 3
  have q4 := HQ.cell 4
  simp only [List.getElem?_toArray, List.getElem?_cons_zero, List.getElem?_cons_succ] at q0 q1 q2 q3 q4
  have HR' := Lib.hid HR
  clear HQ HR
  generalize (((((w0.setCell ⟨w.heap.size + 1, 0, none⟩ (.int .i64 i)).setCell ⟨w.heap.size + 1, 1, none⟩ (.int .i64 S)).setCell ⟨w.heap.size + 1, 2, none⟩ (.slice A n c)).setCell ⟨w.heap.size + 1, 3, none⟩ (.int .i64 st)).setCell ⟨w.heap.size + 1, 4, none⟩ (.int .i64 lf)) = wz at *
  exact bodyPost_ret (v := .tuple #[.agg #[.int .i64 i, .int .i64 S, .slice A n c, .int .i64 st, .int .i64 lf], .bool false]) (by simp [results, Tryd.results38, go_sem, q0, q1, q2, q3, q4]) rfl ⟨rfl, HR'.out⟩
set_option maxRecDepth 100000 in
set_option maxHeartbeats 2000000 in
theorem rheard_no2 (i j : Int) (h : i = E) (h2 : j = S) (h3 : n = 0) : Calls Tryd.prog 38 #[.agg #[.int .i64 E, .int .i64 S, .slice A n c, .int .i64 st, .int .i64 lf], .int .i64 i, .int .i64 j] w fun e w' => e = .returned (.tuple #[.agg #[.int .i64 E, .int .i64 S, .slice A n c, .int .i64 st, .int .i64 lf], .bool false]) ∧ Below w.heap.size w w' := by
  subst h
  subst h2
  subst h3
  have H0 := Holds.new w 42 #[.int .i64 i, .int .i64 j, .slice A 0 c, .int .i64 st, .int .i64 lf] w.heap.size rfl
  have P1 := Lib.hid (H0.alloc (.cells #[.int .i64 0, .int .i64 0, .slice none 0 0, .int .i64 0, .int .i64 0] 42))
  have P2 := Lib.hid (Holds.new (w.alloc (.cells #[.int .i64 i, .int .i64 j, .slice A 0 c, .int .i64 st, .int .i64 lf] 42)) 42 #[.int .i64 0, .int .i64 0, .slice none 0 0, .int .i64 0, .int .i64 0] (w.heap.size + 1) (by simp))
  have BA := Lib.hid ((Below.refl w.heap.size w).alloc (Nat.le_refl _) (.cells #[.int .i64 i, .int .i64 j, .slice A 0 c, .int .i64 st, .int .i64 lf] 42) |>.alloc (by simp) (.cells #[.int .i64 0, .int .i64 0, .slice none 0 0, .int .i64 0, .int .i64 0] 42))
  clear H0
  go_enter Tryd.func38, Tryd.ntmps38
  go_upto_region 1 with fail
  generalize ((w.alloc (.cells #[.int .i64 i, .int .i64 j, .slice A 0 c, .int .i64 st, .int .i64 lf] 42)).alloc (.cells #[.int .i64 0, .int .i64 0, .slice none 0 0, .int .i64 0, .int .i64 0] 42)) = w0 at *
  have c0 := P1.out.cell 0
  have c1 := P1.out.cell 1
  have c2 := P1.out.cell 2
  have c3 := P1.out.cell 3
  have c4 := P1.out.cell 4
  simp only [List.getElem?_toArray, List.getElem?_cons_zero, List.getElem?_cons_succ] at c0 c1 c2 c3 c4
  have e0 := P1.out.frozen 0
  have e1 := P1.out.frozen 1
  have e2 := P1.out.frozen 2
  have e3 := P1.out.frozen 3
  have e4 := P1.out.frozen 4
  have d0 := P2.out.cell 0
  have d1 := P2.out.cell 1
  have d2 := P2.out.cell 2
  have d3 := P2.out.cell 3
  have d4 := P2.out.cell 4
  simp only [List.getElem?_toArray, List.getElem?_cons_zero, List.getElem?_cons_succ] at d0 d1 d2 d3 d4
  have f0 := P2.out.frozen 0
  have f1 := P2.out.frozen 1
  have f2 := P2.out.frozen 2
  have f3 := P2.out.frozen 3
  have f4 := P2.out.frozen 4
  go_wp2_with fail
  obtain ⟨HQ, HR⟩ := sfive (w := w) (v0 := .int .i64 i) (v1 := .int .i64 j) (v2 := .slice A 0 c) (v3 := .int .i64 st) (v4 := .int .i64 lf) P2.out BA.out (Nat.le_succ _)
  have q0 := HQ.cell 0
  have q1 := HQ.cell 1
  have q2 := HQ.cell 2
  have q3 := HQ.cell 3
  have q4 := HQ.cell 4
  simp only [List.getElem?_toArray, List.getElem?_cons_zero, List.getElem?_cons_succ] at q0 q1 q2 q3 q4
  have HR' := Lib.hid HR
  clear HQ HR
  generalize (((((w0.setCell ⟨w.heap.size + 1, 0, none⟩ (.int .i64 i)).setCell ⟨w.heap.size + 1, 1, none⟩ (.int .i64 j)).setCell ⟨w.heap.size + 1, 2, none⟩ (.slice A 0 c)).setCell ⟨w.heap.size + 1, 3, none⟩ (.int .i64 st)).setCell ⟨w.heap.size + 1, 4, none⟩ (.int .i64 lf)) = wz at *
  exact bodyPost_ret (v := .tuple #[.agg #[.int .i64 i, .int .i64 j, .slice A 0 c, .int .i64 st, .int .i64 lf], .bool false]) (by simp [results, Tryd.results38, go_sem, q0, q1, q2, q3, q4]) rfl ⟨rfl, HR'.out⟩
set_option maxRecDepth 100000 in
set_option maxHeartbeats 2000000 in
theorem rput_long (A1 : Option Addr) (m c1 : Nat) (h : 8192 < m) : Calls Tryd.prog 15 #[.agg #[.int .i64 E, .int .i64 S, .slice A n c, .int .i64 st, .int .i64 lf], .slice A1 m c1] w fun e w' => e = .returned (.tuple #[.agg #[.int .i64 E, .int .i64 S, .slice A n c, .int .i64 st, .int .i64 lf], .int .i64 5]) ∧ Below w.heap.size w w' := by
  have hd : decide (8192 < (m : Int)) = true := decide_eq_true (by omega)
  have H0 := Holds.new w 42 #[.int .i64 E, .int .i64 S, .slice A n c, .int .i64 st, .int .i64 lf] w.heap.size rfl
  have P1 := Lib.hid (H0.alloc (.cells #[.int .i64 0, .int .i64 0, .slice none 0 0, .int .i64 0, .int .i64 0] 42))
  have P2 := Lib.hid (Holds.new (w.alloc (.cells #[.int .i64 E, .int .i64 S, .slice A n c, .int .i64 st, .int .i64 lf] 42)) 42 #[.int .i64 0, .int .i64 0, .slice none 0 0, .int .i64 0, .int .i64 0] (w.heap.size + 1) (by simp))
  have BA := Lib.hid ((Below.refl w.heap.size w).alloc (Nat.le_refl _) (.cells #[.int .i64 E, .int .i64 S, .slice A n c, .int .i64 st, .int .i64 lf] 42) |>.alloc (by simp) (.cells #[.int .i64 0, .int .i64 0, .slice none 0 0, .int .i64 0, .int .i64 0] 42))
  clear H0
  go_enter Tryd.func15, Tryd.ntmps15
  go_upto_region 1 with fail
  generalize ((w.alloc (.cells #[.int .i64 E, .int .i64 S, .slice A n c, .int .i64 st, .int .i64 lf] 42)).alloc (.cells #[.int .i64 0, .int .i64 0, .slice none 0 0, .int .i64 0, .int .i64 0] 42)) = w0 at *
  have c0 := P1.out.cell 0
  have c1 := P1.out.cell 1
  have c2 := P1.out.cell 2
  have c3 := P1.out.cell 3
  have c4 := P1.out.cell 4
  simp only [List.getElem?_toArray, List.getElem?_cons_zero, List.getElem?_cons_succ] at c0 c1 c2 c3 c4
  have e0 := P1.out.frozen 0
  have e1 := P1.out.frozen 1
  have e2 := P1.out.frozen 2
  have e3 := P1.out.frozen 3
  have e4 := P1.out.frozen 4
  have d0 := P2.out.cell 0
  have d1 := P2.out.cell 1
  have d2 := P2.out.cell 2
  have d3 := P2.out.cell 3
  have d4 := P2.out.cell 4
  simp only [List.getElem?_toArray, List.getElem?_cons_zero, List.getElem?_cons_succ] at d0 d1 d2 d3 d4
  have f0 := P2.out.frozen 0
  have f1 := P2.out.frozen 1
  have f2 := P2.out.frozen 2
  have f3 := P2.out.frozen 3
  have f4 := P2.out.frozen 4
  go_wp2_with fail
  obtain ⟨HQ, HR⟩ := sfive (w := w) (v0 := .int .i64 E) (v1 := .int .i64 S) (v2 := .slice A n c) (v3 := .int .i64 st) (v4 := .int .i64 lf) P2.out BA.out (Nat.le_succ _)
  have q0 := HQ.cell 0
  have q1 := HQ.cell 1
  have q2 := HQ.cell 2
  have q3 := HQ.cell 3
  have q4 := HQ.cell 4
  simp only [List.getElem?_toArray, List.getElem?_cons_zero, List.getElem?_cons_succ] at q0 q1 q2 q3 q4
  have HR' := Lib.hid HR
  clear HQ HR
  generalize (((((w0.setCell ⟨w.heap.size + 1, 0, none⟩ (.int .i64 E)).setCell ⟨w.heap.size + 1, 1, none⟩ (.int .i64 S)).setCell ⟨w.heap.size + 1, 2, none⟩ (.slice A n c)).setCell ⟨w.heap.size + 1, 3, none⟩ (.int .i64 st)).setCell ⟨w.heap.size + 1, 4, none⟩ (.int .i64 lf)) = wz at *
  exact bodyPost_ret (v := .tuple #[.agg #[.int .i64 E, .int .i64 S, .slice A n c, .int .i64 st, .int .i64 lf], .int .i64 5]) (by simp [results, Tryd.results15, go_sem, q0, q1, q2, q3, q4]) rfl ⟨rfl, HR'.out⟩
set_option maxRecDepth 100000 in
set_option maxHeartbeats 2000000 in
theorem rput_full (A1 : Option Addr) (m c1 : Nat) (h : m ≤ 8192) (h2 : 64 ≤ n) : Calls Tryd.prog 15 #[.agg #[.int .i64 E, .int .i64 S, .slice A n c, .int .i64 st, .int .i64 lf], .slice A1 m c1] w fun e w' => e = .returned (.tuple #[.agg #[.int .i64 E, .int .i64 S, .slice A n c, .int .i64 st, .int .i64 lf], .int .i64 14]) ∧ Below w.heap.size w w' := by
  have hd : decide (8192 < (m : Int)) = false := decide_eq_false (by omega)
  have hd2 : decide (63 < (n : Int)) = true := decide_eq_true (by omega)
  have H0 := Holds.new w 42 #[.int .i64 E, .int .i64 S, .slice A n c, .int .i64 st, .int .i64 lf] w.heap.size rfl
  have P1 := Lib.hid (H0.alloc (.cells #[.int .i64 0, .int .i64 0, .slice none 0 0, .int .i64 0, .int .i64 0] 42))
  have P2 := Lib.hid (Holds.new (w.alloc (.cells #[.int .i64 E, .int .i64 S, .slice A n c, .int .i64 st, .int .i64 lf] 42)) 42 #[.int .i64 0, .int .i64 0, .slice none 0 0, .int .i64 0, .int .i64 0] (w.heap.size + 1) (by simp))
  have BA := Lib.hid ((Below.refl w.heap.size w).alloc (Nat.le_refl _) (.cells #[.int .i64 E, .int .i64 S, .slice A n c, .int .i64 st, .int .i64 lf] 42) |>.alloc (by simp) (.cells #[.int .i64 0, .int .i64 0, .slice none 0 0, .int .i64 0, .int .i64 0] 42))
  clear H0
  go_enter Tryd.func15, Tryd.ntmps15
  go_upto_region 1 with fail
  generalize ((w.alloc (.cells #[.int .i64 E, .int .i64 S, .slice A n c, .int .i64 st, .int .i64 lf] 42)).alloc (.cells #[.int .i64 0, .int .i64 0, .slice none 0 0, .int .i64 0, .int .i64 0] 42)) = w0 at *
  have c0 := P1.out.cell 0
  have c1 := P1.out.cell 1
  have c2 := P1.out.cell 2
  have c3 := P1.out.cell 3
  have c4 := P1.out.cell 4
  simp only [List.getElem?_toArray, List.getElem?_cons_zero, List.getElem?_cons_succ] at c0 c1 c2 c3 c4
  have e0 := P1.out.frozen 0
  have e1 := P1.out.frozen 1
  have e2 := P1.out.frozen 2
  have e3 := P1.out.frozen 3
  have e4 := P1.out.frozen 4
  have d0 := P2.out.cell 0
  have d1 := P2.out.cell 1
  have d2 := P2.out.cell 2
  have d3 := P2.out.cell 3
  have d4 := P2.out.cell 4
  simp only [List.getElem?_toArray, List.getElem?_cons_zero, List.getElem?_cons_succ] at d0 d1 d2 d3 d4
  have f0 := P2.out.frozen 0
  have f1 := P2.out.frozen 1
  have f2 := P2.out.frozen 2
  have f3 := P2.out.frozen 3
  have f4 := P2.out.frozen 4
  go_wp2_with fail
  obtain ⟨HQ, HR⟩ := sfive (w := w) (v0 := .int .i64 E) (v1 := .int .i64 S) (v2 := .slice A n c) (v3 := .int .i64 st) (v4 := .int .i64 lf) P2.out BA.out (Nat.le_succ _)
  have q0 := HQ.cell 0
  have q1 := HQ.cell 1
  have q2 := HQ.cell 2
  have q3 := HQ.cell 3
  have q4 := HQ.cell 4
  simp only [List.getElem?_toArray, List.getElem?_cons_zero, List.getElem?_cons_succ] at q0 q1 q2 q3 q4
  have HR' := Lib.hid HR
  clear HQ HR
  generalize (((((w0.setCell ⟨w.heap.size + 1, 0, none⟩ (.int .i64 E)).setCell ⟨w.heap.size + 1, 1, none⟩ (.int .i64 S)).setCell ⟨w.heap.size + 1, 2, none⟩ (.slice A n c)).setCell ⟨w.heap.size + 1, 3, none⟩ (.int .i64 st)).setCell ⟨w.heap.size + 1, 4, none⟩ (.int .i64 lf)) = wz at *
  exact bodyPost_ret (v := .tuple #[.agg #[.int .i64 E, .int .i64 S, .slice A n c, .int .i64 st, .int .i64 lf], .int .i64 14]) (by simp [results, Tryd.results15, go_sem, q0, q1, q2, q3, q4]) rfl ⟨rfl, HR'.out⟩
end
end Go.Proofs.YtodimanghmepoaaDoor
namespace Go.Proofs.YtodimanghmepoaaDoor
open Go.RowKit
section
variable {w : World} {A : Option Addr} {n c b o : Nat} {E S st lf : Int}
set_option maxRecDepth 100000 in
set_option maxHeartbeats 2000000 in
theorem rout_some0 (v : Value) (h : 0 < n) (hb : b < w.heap.size) (hv : w.cell? ⟨b, o, none⟩ = some v) : Calls Tryd.prog 32 #[.agg #[.int .i64 E, .int .i64 S, .slice (some ⟨b, o, none⟩) n c, .int .i64 0, .int .i64 0]] w fun e w' => e = .returned (.tuple #[.agg #[.int .i64 E, .int .i64 S, .slice (some ⟨b, o, none⟩) n c, .int .i64 1, .int .i64 3], .int .i64 S, v, .bool true]) ∧ Below w.heap.size w w' := by
  have hd1 : ((n : Int) == 0) = false := by simp; omega
  have hd3 : (n == 0) = false := by simp; omega
  have hd4 : decide (n = 0) = false := by simp; omega
  have hn1 : (0 : Int) < (n : Int) := by omega
  have H0 := Holds.new w 42 #[.int .i64 E, .int .i64 S, .slice (some ⟨b, o, none⟩) n c, .int .i64 0, .int .i64 0] w.heap.size rfl
  have P1 := Lib.hid (H0.alloc (.cells #[.int .i64 0, .int .i64 0, .slice none 0 0, .int .i64 0, .int .i64 0] 42))
  have P2 := Lib.hid (Holds.new (w.alloc (.cells #[.int .i64 E, .int .i64 S, .slice (some ⟨b, o, none⟩) n c, .int .i64 0, .int .i64 0] 42)) 42 #[.int .i64 0, .int .i64 0, .slice none 0 0, .int .i64 0, .int .i64 0] (w.heap.size + 1) (by simp))
  have BA := Lib.hid ((Below.refl w.heap.size w).alloc (Nat.le_refl _) (.cells #[.int .i64 E, .int .i64 S, .slice (some ⟨b, o, none⟩) n c, .int .i64 0, .int .i64 0] 42) |>.alloc (by simp) (.cells #[.int .i64 0, .int .i64 0, .slice none 0 0, .int .i64 0, .int .i64 0] 42))
  clear H0
  go_enter Tryd.func32, Tryd.ntmps32
  go_upto_region 1 with fail
  generalize ((w.alloc (.cells #[.int .i64 E, .int .i64 S, .slice (some ⟨b, o, none⟩) n c, .int .i64 0, .int .i64 0] 42)).alloc (.cells #[.int .i64 0, .int .i64 0, .slice none 0 0, .int .i64 0, .int .i64 0] 42)) = w0 at *
  have HV := Lib.hid ((BA.out.cell (p := ⟨b, o, none⟩) hb).trans hv)
  clear hv
  have c0 := P1.out.cell 0
  have c1 := P1.out.cell 1
  have c2 := P1.out.cell 2
  have c3 := P1.out.cell 3
  have c4 := P1.out.cell 4
  simp only [List.getElem?_toArray, List.getElem?_cons_zero, List.getElem?_cons_succ] at c0 c1 c2 c3 c4
  have e0 := P1.out.frozen 0
  have e1 := P1.out.frozen 1
  have e2 := P1.out.frozen 2
  have e3 := P1.out.frozen 3
  have e4 := P1.out.frozen 4
  go_wp2_with fail
  have P1x := Lib.hid (P1.out.set 4 (.int .i64 3))
  have P2x := Lib.hid (P2.out.far (p := ⟨w.heap.size, 4, none⟩) (by show w.heap.size + 1 ≠ w.heap.size; omega) (.int .i64 3))
  have HVx := Lib.hid ((World.cell?_of_block (a := ⟨b, o, none⟩) (Below.heap_setCell w0 ⟨w.heap.size, 4, none⟩ (.int .i64 3) b (by show b ≠ w.heap.size; omega))).trans HV.out)
  have BAx := Lib.hid (sbelow_grown BA.out (grown_set (grown_refl _ (some w.heap.size)) 4 (.int .i64 3)) (Nat.le_refl _))
  clear P1 P2 BA HV c0 c1 c2 c3 c4 e0 e1 e2 e3 e4
  generalize (w0.setCell ⟨w.heap.size, 4, none⟩ (.int .i64 3)) = w1 at *
  have P1 := P1x
  have P2 := P2x
  have BA := BAx
  have HV := HVx
  clear P1x P2x BAx HVx
  have c0 := P1.out.cell 0
  have c1 := P1.out.cell 1
  have c2 := P1.out.cell 2
  have c3 := P1.out.cell 3
  have c4 := P1.out.cell 4
  simp only [List.setIfInBounds_toArray, List.set_cons_succ, List.set_cons_zero, List.getElem?_toArray, List.getElem?_cons_zero, List.getElem?_cons_succ] at c0 c1 c2 c3 c4
  have e0 := P1.out.frozen 0
  have e1 := P1.out.frozen 1
  have e2 := P1.out.frozen 2
  have e3 := P1.out.frozen 3
  have e4 := P1.out.frozen 4
  refine wp_loop_rounds 1 ?_
  rw [rounds_succ]
  go_upto_region 9 with fail
  go_upto_region 10 with fail
  have P1x := Lib.hid (P1.out.set 3 (.int .i64 1))
  have P2x := Lib.hid (P2.out.far (p := ⟨w.heap.size, 3, none⟩) (by show w.heap.size + 1 ≠ w.heap.size; omega) (.int .i64 1))
  have HVx := Lib.hid ((World.cell?_of_block (a := ⟨b, o, none⟩) (Below.heap_setCell w1 ⟨w.heap.size, 3, none⟩ (.int .i64 1) b (by show b ≠ w.heap.size; omega))).trans HV.out)
  have BAx := Lib.hid (sbelow_grown BA.out (grown_set (grown_refl _ (some w.heap.size)) 3 (.int .i64 1)) (Nat.le_refl _))
  clear P1 P2 BA HV c0 c1 c2 c3 c4 e0 e1 e2 e3 e4
  generalize (w1.setCell ⟨w.heap.size, 3, none⟩ (.int .i64 1)) = w2 at *
  have P1 := P1x
  have P2 := P2x
  have BA := BAx
  have HV := HVx
  clear P1x P2x BAx HVx
  have c0 := P1.out.cell 0
  have c1 := P1.out.cell 1
  have c2 := P1.out.cell 2
  have c3 := P1.out.cell 3
  have c4 := P1.out.cell 4
  simp only [List.setIfInBounds_toArray, List.set_cons_succ, List.set_cons_zero, List.getElem?_toArray, List.getElem?_cons_zero, List.getElem?_cons_succ] at c0 c1 c2 c3 c4
  have e0 := P1.out.frozen 0
  have e1 := P1.out.frozen 1
  have e2 := P1.out.frozen 2
  have e3 := P1.out.frozen 3
  have e4 := P1.out.frozen 4
  have d0 := P2.out.cell 0
  have d1 := P2.out.cell 1
  have d2 := P2.out.cell 2
  have d3 := P2.out.cell 3
  have d4 := P2.out.cell 4
  simp only [List.getElem?_toArray, List.getElem?_cons_zero, List.getElem?_cons_succ] at d0 d1 d2 d3 d4
  have f0 := P2.out.frozen 0
  have f1 := P2.out.frozen 1
  have f2 := P2.out.frozen 2
  have f3 := P2.out.frozen 3
  have f4 := P2.out.frozen 4
  have hv := HV.out
  have hi : decide ((0 : Int) < (n : Int)) = true := decide_eq_true hn1
  go_wp2_with fail
  go_region
  go_wp2_with fail
  obtain ⟨HQ, HR⟩ := sfive (w := w) (v0 := .int .i64 E) (v1 := .int .i64 S) (v2 := .slice (some ⟨b, o, none⟩) n c) (v3 := .int .i64 1) (v4 := .int .i64 3) P2.out BA.out (Nat.le_succ _)
  have q0 := HQ.cell 0
  have q1 := HQ.cell 1
  have q2 := HQ.cell 2
  have q3 := HQ.cell 3
  have q4 := HQ.cell 4
  simp only [List.getElem?_toArray, List.getElem?_cons_zero, List.getElem?_cons_succ] at q0 q1 q2 q3 q4
  have HR' := Lib.hid HR
  clear HQ HR
  generalize (((((w2.setCell ⟨w.heap.size + 1, 0, none⟩ (.int .i64 E)).setCell ⟨w.heap.size + 1, 1, none⟩ (.int .i64 S)).setCell ⟨w.heap.size + 1, 2, none⟩ (.slice (some ⟨b, o, none⟩) n c)).setCell ⟨w.heap.size + 1, 3, none⟩ (.int .i64 1)).setCell ⟨w.heap.size + 1, 4, none⟩ (.int .i64 3)) = wz at *
  exact bodyPost_ret (v := .tuple #[.agg #[.int .i64 E, .int .i64 S, .slice (some ⟨b, o, none⟩) n c, .int .i64 1, .int .i64 3], .int .i64 S, v, .bool true]) (by simp [results, Tryd.results32, go_sem, q0, q1, q2, q3, q4]) rfl ⟨rfl, HR'.out.drew⟩
set_option maxRecDepth 100000 in
set_option maxHeartbeats 2000000 in
theorem rout_some1 (v : Value) (h : 0 < n) (hb : b < w.heap.size) (hv : w.cell? ⟨b, o, none⟩ = some v) : Calls Tryd.prog 32 #[.agg #[.int .i64 E, .int .i64 S, .slice (some ⟨b, o, none⟩) n c, .int .i64 1, .int .i64 0]] w fun e w' => e = .returned (.tuple #[.agg #[.int .i64 E, .int .i64 S, .slice (some ⟨b, o, none⟩) n c, .int .i64 2, .int .i64 6], .int .i64 S, v, .bool true]) ∧ Below w.heap.size w w' := by
  have hd1 : ((n : Int) == 0) = false := by simp; omega
  have hd3 : (n == 0) = false := by simp; omega
  have hd4 : decide (n = 0) = false := by simp; omega
  have hn1 : (0 : Int) < (n : Int) := by omega
  have H0 := Holds.new w 42 #[.int .i64 E, .int .i64 S, .slice (some ⟨b, o, none⟩) n c, .int .i64 1, .int .i64 0] w.heap.size rfl
  have P1 := Lib.hid (H0.alloc (.cells #[.int .i64 0, .int .i64 0, .slice none 0 0, .int .i64 0, .int .i64 0] 42))
  have P2 := Lib.hid (Holds.new (w.alloc (.cells #[.int .i64 E, .int .i64 S, .slice (some ⟨b, o, none⟩) n c, .int .i64 1, .int .i64 0] 42)) 42 #[.int .i64 0, .int .i64 0, .slice none 0 0, .int .i64 0, .int .i64 0] (w.heap.size + 1) (by simp))
  have BA := Lib.hid ((Below.refl w.heap.size w).alloc (Nat.le_refl _) (.cells #[.int .i64 E, .int .i64 S, .slice (some ⟨b, o, none⟩) n c, .int .i64 1, .int .i64 0] 42) |>.alloc (by simp) (.cells #[.int .i64 0, .int .i64 0, .slice none 0 0, .int .i64 0, .int .i64 0] 42))
  clear H0
  go_enter Tryd.func32, Tryd.ntmps32
  go_upto_region 1 with fail
  generalize ((w.alloc (.cells #[.int .i64 E, .int .i64 S, .slice (some ⟨b, o, none⟩) n c, .int .i64 1, .int .i64 0] 42)).alloc (.cells #[.int .i64 0, .int .i64 0, .slice none 0 0, .int .i64 0, .int .i64 0] 42)) = w0 at *
  have HV := Lib.hid ((BA.out.cell (p := ⟨b, o, none⟩) hb).trans hv)
  clear hv
  have c0 := P1.out.cell 0
  have c1 := P1.out.cell 1
  have c2 := P1.out.cell 2
  have c3 := P1.out.cell 3
  have c4 := P1.out.cell 4
  simp only [List.getElem?_toArray, List.getElem?_cons_zero, List.getElem?_cons_succ] at c0 c1 c2 c3 c4
  have e0 := P1.out.frozen 0
  have e1 := P1.out.frozen 1
  have e2 := P1.out.frozen 2
  have e3 := P1.out.frozen 3
  have e4 := P1.out.frozen 4
  go_wp2_with fail
  have P1x := Lib.hid (P1.out.set 4 (.int .i64 3))
  have P2x := Lib.hid (P2.out.far (p := ⟨w.heap.size, 4, none⟩) (by show w.heap.size + 1 ≠ w.heap.size; omega) (.int .i64 3))
  have HVx := Lib.hid ((World.cell?_of_block (a := ⟨b, o, none⟩) (Below.heap_setCell w0 ⟨w.heap.size, 4, none⟩ (.int .i64 3) b (by show b ≠ w.heap.size; omega))).trans HV.out)
  have BAx := Lib.hid (sbelow_grown BA.out (grown_set (grown_refl _ (some w.heap.size)) 4 (.int .i64 3)) (Nat.le_refl _))
  clear P1 P2 BA HV c0 c1 c2 c3 c4 e0 e1 e2 e3 e4
  generalize (w0.setCell ⟨w.heap.size, 4, none⟩ (.int .i64 3)) = w1 at *
  have P1 := P1x
  have P2 := P2x
  have BA := BAx
  have HV := HVx
  clear P1x P2x BAx HVx
  have c0 := P1.out.cell 0
  have c1 := P1.out.cell 1
  have c2 := P1.out.cell 2
  have c3 := P1.out.cell 3
  have c4 := P1.out.cell 4
  simp only [List.setIfInBounds_toArray, List.set_cons_succ, List.set_cons_zero, List.getElem?_toArray, List.getElem?_cons_zero, List.getElem?_cons_succ] at c0 c1 c2 c3 c4
  have e0 := P1.out.frozen 0
  have e1 := P1.out.frozen 1
  have e2 := P1.out.frozen 2
  have e3 := P1.out.frozen 3
  have e4 := P1.out.frozen 4
  refine wp_loop_rounds 2 ?_
  rw [rounds_succ]
  go_wp2_with fail
  have P1x := Lib.hid (P1.out.set 4 (.int .i64 6))
  have P2x := Lib.hid (P2.out.far (p := ⟨w.heap.size, 4, none⟩) (by show w.heap.size + 1 ≠ w.heap.size; omega) (.int .i64 6))
  have HVx := Lib.hid ((World.cell?_of_block (a := ⟨b, o, none⟩) (Below.heap_setCell w1 ⟨w.heap.size, 4, none⟩ (.int .i64 6) b (by show b ≠ w.heap.size; omega))).trans HV.out)
  have BAx := Lib.hid (sbelow_grown BA.out (grown_set (grown_refl _ (some w.heap.size)) 4 (.int .i64 6)) (Nat.le_refl _))
  clear P1 P2 BA HV c0 c1 c2 c3 c4 e0 e1 e2 e3 e4
  generalize (w1.setCell ⟨w.heap.size, 4, none⟩ (.int .i64 6)) = w2 at *
  have P1 := P1x
  have P2 := P2x
  have BA := BAx
  have HV := HVx
  clear P1x P2x BAx HVx
  have c0 := P1.out.cell 0
  have c1 := P1.out.cell 1
  have c2 := P1.out.cell 2
  have c3 := P1.out.cell 3
  have c4 := P1.out.cell 4
  simp only [List.setIfInBounds_toArray, List.set_cons_succ, List.set_cons_zero, List.getElem?_toArray, List.getElem?_cons_zero, List.getElem?_cons_succ] at c0 c1 c2 c3 c4
  have e0 := P1.out.frozen 0
  have e1 := P1.out.frozen 1
  have e2 := P1.out.frozen 2
  have e3 := P1.out.frozen 3
  have e4 := P1.out.frozen 4
  rw [rounds_succ]
  go_upto_region 9 with fail
  go_upto_region 10 with fail
  have P1x := Lib.hid (P1.out.set 3 (.int .i64 2))
  have P2x := Lib.hid (P2.out.far (p := ⟨w.heap.size, 3, none⟩) (by show w.heap.size + 1 ≠ w.heap.size; omega) (.int .i64 2))
  have HVx := Lib.hid ((World.cell?_of_block (a := ⟨b, o, none⟩) (Below.heap_setCell w2 ⟨w.heap.size, 3, none⟩ (.int .i64 2) b (by show b ≠ w.heap.size; omega))).trans HV.out)
  have BAx := Lib.hid (sbelow_grown BA.out (grown_set (grown_refl _ (some w.heap.size)) 3 (.int .i64 2)) (Nat.le_refl _))
  clear P1 P2 BA HV c0 c1 c2 c3 c4 e0 e1 e2 e3 e4
  generalize (w2.setCell ⟨w.heap.size, 3, none⟩ (.int .i64 2)) = w3 at *
  have P1 := P1x
  have P2 := P2x
  have BA := BAx
  have HV := HVx
  clear P1x P2x BAx HVx
  have c0 := P1.out.cell 0
  have c1 := P1.out.cell 1
  have c2 := P1.out.cell 2
  have c3 := P1.out.cell 3
  have c4 := P1.out.cell 4
  simp only [List.setIfInBounds_toArray, List.set_cons_succ, List.set_cons_zero, List.getElem?_toArray, List.getElem?_cons_zero, List.getElem?_cons_succ] at c0 c1 c2 c3 c4
  have e0 := P1.out.frozen 0
  have e1 := P1.out.frozen 1
  have e2 := P1.out.frozen 2
  have e3 := P1.out.frozen 3
  have e4 := P1.out.frozen 4
  have d0 := P2.out.cell 0
  have d1 := P2.out.cell 1
  have d2 := P2.out.cell 2
  have d3 := P2.out.cell 3
  have d4 := P2.out.cell 4
  simp only [List.getElem?_toArray, List.getElem?_cons_zero, List.getElem?_cons_succ] at d0 d1 d2 d3 d4
  have f0 := P2.out.frozen 0
  have f1 := P2.out.frozen 1
  have f2 := P2.out.frozen 2
  have f3 := P2.out.frozen 3
  have f4 := P2.out.frozen 4
  have hv := HV.out
  have hi : decide ((0 : Int) < (n : Int)) = true := decide_eq_true hn1
  go_wp2_with fail
  go_region
  go_wp2_with fail
  obtain ⟨HQ, HR⟩ := sfive (w := w) (v0 := .int .i64 E) (v1 := .int .i64 S) (v2 := .slice (some ⟨b, o, none⟩) n c) (v3 := .int .i64 2) (v4 := .int .i64 6) P2.out BA.out (Nat.le_succ _)
  have q0 := HQ.cell 0
  have q1 := HQ.cell 1
  have q2 := HQ.cell 2
  have q3 := HQ.cell 3
  have q4 := HQ.cell 4
  simp only [List.getElem?_toArray, List.getElem?_cons_zero, List.getElem?_cons_succ] at q0 q1 q2 q3 q4
  have HR' := Lib.hid HR
  clear HQ HR
  generalize (((((w3.setCell ⟨w.heap.size + 1, 0, none⟩ (.int .i64 E)).setCell ⟨w.heap.size + 1, 1, none⟩ (.int .i64 S)).setCell ⟨w.heap.size + 1, 2, none⟩ (.slice (some ⟨b, o, none⟩) n c)).setCell ⟨w.heap.size + 1, 3, none⟩ (.int .i64 2)).setCell ⟨w.heap.size + 1, 4, none⟩ (.int .i64 6)) = wz at *
  exact bodyPost_ret (v := .tuple #[.agg #[.int .i64 E, .int .i64 S, .slice (some ⟨b, o, none⟩) n c, .int .i64 2, .int .i64 6], .int .i64 S, v, .bool true]) (by simp [results, Tryd.results32, go_sem, q0, q1, q2, q3, q4]) rfl ⟨rfl, HR'.out.drew⟩
set_option maxRecDepth 100000 in
set_option maxHeartbeats 2000000 in
theorem rout_some2 (v : Value) (h : 0 < n) (hb : b < w.heap.size) (hv : w.cell? ⟨b, o, none⟩ = some v) : Calls Tryd.prog 32 #[.agg #[.int .i64 E, .int .i64 S, .slice (some ⟨b, o, none⟩) n c, .int .i64 2, .int .i64 0]] w fun e w' => e = .returned (.tuple #[.agg #[.int .i64 E, .int .i64 S, .slice (some ⟨b, o, none⟩) n c, .int .i64 3, .int .i64 12], .int .i64 S, v, .bool true]) ∧ Below w.heap.size w w' := by
  have hd1 : ((n : Int) == 0) = false := by simp; omega
  have hd3 : (n == 0) = false := by simp; omega
  have hd4 : decide (n = 0) = false := by simp; omega
  have hn1 : (0 : Int) < (n : Int) := by omega
  have H0 := Holds.new w 42 #[.int .i64 E, .int .i64 S, .slice (some ⟨b, o, none⟩) n c, .int .i64 2, .int .i64 0] w.heap.size rfl
  have P1 := Lib.hid (H0.alloc (.cells #[.int .i64 0, .int .i64 0, .slice none 0 0, .int .i64 0, .int .i64 0] 42))
  have P2 := Lib.hid (Holds.new (w.alloc (.cells #[.int .i64 E, .int .i64 S, .slice (some ⟨b, o, none⟩) n c, .int .i64 2, .int .i64 0] 42)) 42 #[.int .i64 0, .int .i64 0, .slice none 0 0, .int .i64 0, .int .i64 0] (w.heap.size + 1) (by simp))
  have BA := Lib.hid ((Below.refl w.heap.size w).alloc (Nat.le_refl _) (.cells #[.int .i64 E, .int .i64 S, .slice (some ⟨b, o, none⟩) n c, .int .i64 2, .int .i64 0] 42) |>.alloc (by simp) (.cells #[.int .i64 0, .int .i64 0, .slice none 0 0, .int .i64 0, .int .i64 0] 42))
  clear H0
  go_enter Tryd.func32, Tryd.ntmps32
  go_upto_region 1 with fail
  generalize ((w.alloc (.cells #[.int .i64 E, .int .i64 S, .slice (some ⟨b, o, none⟩) n c, .int .i64 2, .int .i64 0] 42)).alloc (.cells #[.int .i64 0, .int .i64 0, .slice none 0 0, .int .i64 0, .int .i64 0] 42)) = w0 at *
  have HV := Lib.hid ((BA.out.cell (p := ⟨b, o, none⟩) hb).trans hv)
  clear hv
  have c0 := P1.out.cell 0
  have c1 := P1.out.cell 1
  have c2 := P1.out.cell 2
  have c3 := P1.out.cell 3
  have c4 := P1.out.cell 4
  simp only [List.getElem?_toArray, List.getElem?_cons_zero, List.getElem?_cons_succ] at c0 c1 c2 c3 c4
  have e0 := P1.out.frozen 0
  have e1 := P1.out.frozen 1
  have e2 := P1.out.frozen 2
  have e3 := P1.out.frozen 3
  have e4 := P1.out.frozen 4
  go_wp2_with fail
  have P1x := Lib.hid (P1.out.set 4 (.int .i64 3))
  have P2x := Lib.hid (P2.out.far (p := ⟨w.heap.size, 4, none⟩) (by show w.heap.size + 1 ≠ w.heap.size; omega) (.int .i64 3))
  have HVx := Lib.hid ((World.cell?_of_block (a := ⟨b, o, none⟩) (Below.heap_setCell w0 ⟨w.heap.size, 4, none⟩ (.int .i64 3) b (by show b ≠ w.heap.size; omega))).trans HV.out)
  have BAx := Lib.hid (sbelow_grown BA.out (grown_set (grown_refl _ (some w.heap.size)) 4 (.int .i64 3)) (Nat.le_refl _))
  clear P1 P2 BA HV c0 c1 c2 c3 c4 e0 e1 e2 e3 e4
  generalize (w0.setCell ⟨w.heap.size, 4, none⟩ (.int .i64 3)) = w1 at *
  have P1 := P1x
  have P2 := P2x
  have BA := BAx
  have HV := HVx
  clear P1x P2x BAx HVx
  have c0 := P1.out.cell 0
  have c1 := P1.out.cell 1
  have c2 := P1.out.cell 2
  have c3 := P1.out.cell 3
  have c4 := P1.out.cell 4
  simp only [List.setIfInBounds_toArray, List.set_cons_succ, List.set_cons_zero, List.getElem?_toArray, List.getElem?_cons_zero, List.getElem?_cons_succ] at c0 c1 c2 c3 c4
  have e0 := P1.out.frozen 0
  have e1 := P1.out.frozen 1
  have e2 := P1.out.frozen 2
  have e3 := P1.out.frozen 3
  have e4 := P1.out.frozen 4
  refine wp_loop_rounds 3 ?_
  rw [rounds_succ]
  go_wp2_with fail
  have P1x := Lib.hid (P1.out.set 4 (.int .i64 6))
  have P2x := Lib.hid (P2.out.far (p := ⟨w.heap.size, 4, none⟩) (by show w.heap.size + 1 ≠ w.heap.size; omega) (.int .i64 6))
  have HVx := Lib.hid ((World.cell?_of_block (a := ⟨b, o, none⟩) (Below.heap_setCell w1 ⟨w.heap.size, 4, none⟩ (.int .i64 6) b (by show b ≠ w.heap.size; omega))).trans HV.out)
  have BAx := Lib.hid (sbelow_grown BA.out (grown_set (grown_refl _ (some w.heap.size)) 4 (.int .i64 6)) (Nat.le_refl _))
  clear P1 P2 BA HV c0 c1 c2 c3 c4 e0 e1 e2 e3 e4
  generalize (w1.setCell ⟨w.heap.size, 4, none⟩ (.int .i64 6)) = w2 at *
  have P1 := P1x
  have P2 := P2x
  have BA := BAx
  have HV := HVx
  clear P1x P2x BAx HVx
  have c0 := P1.out.cell 0
  have c1 := P1.out.cell 1
  have c2 := P1.out.cell 2
  have c3 := P1.out.cell 3
  have c4 := P1.out.cell 4
  simp only [List.setIfInBounds_toArray, List.set_cons_succ, List.set_cons_zero, List.getElem?_toArray, List.getElem?_cons_zero, List.getElem?_cons_succ] at c0 c1 c2 c3 c4
  have e0 := P1.out.frozen 0
  have e1 := P1.out.frozen 1
  have e2 := P1.out.frozen 2
  have e3 := P1.out.frozen 3
  have e4 := P1.out.frozen 4
  rw [rounds_succ]
  go_wp2_with fail
  have P1x := Lib.hid (P1.out.set 4 (.int .i64 12))
  have P2x := Lib.hid (P2.out.far (p := ⟨w.heap.size, 4, none⟩) (by show w.heap.size + 1 ≠ w.heap.size; omega) (.int .i64 12))
  have HVx := Lib.hid ((World.cell?_of_block (a := ⟨b, o, none⟩) (Below.heap_setCell w2 ⟨w.heap.size, 4, none⟩ (.int .i64 12) b (by show b ≠ w.heap.size; omega))).trans HV.out)
  have BAx := Lib.hid (sbelow_grown BA.out (grown_set (grown_refl _ (some w.heap.size)) 4 (.int .i64 12)) (Nat.le_refl _))
  clear P1 P2 BA HV c0 c1 c2 c3 c4 e0 e1 e2 e3 e4
  generalize (w2.setCell ⟨w.heap.size, 4, none⟩ (.int .i64 12)) = w3 at *
  have P1 := P1x
  have P2 := P2x
  have BA := BAx
  have HV := HVx
  clear P1x P2x BAx HVx
  have c0 := P1.out.cell 0
  have c1 := P1.out.cell 1
  have c2 := P1.out.cell 2
  have c3 := P1.out.cell 3
  have c4 := P1.out.cell 4
  simp only [List.setIfInBounds_toArray, List.set_cons_succ, List.set_cons_zero, List.getElem?_toArray, List.getElem?_cons_zero, List.getElem?_cons_succ] at c0 c1 c2 c3 c4
  have e0 := P1.out.frozen 0
  have e1 := P1.out.frozen 1
  have e2 := P1.out.frozen 2
  have e3 := P1.out.frozen 3
  have e4 := P1.out.frozen 4
  rw [rounds_succ]
  go_upto_region 9 with fail
  go_upto_region 10 with fail
  have P1x := Lib.hid (P1.out.set 3 (.int .i64 3))
  have P2x := Lib.hid (P2.out.far (p := ⟨w.heap.size, 3, none⟩) (by show w.heap.size + 1 ≠ w.heap.size; omega) (.int .i64 3))
  have HVx := Lib.hid ((World.cell?_of_block (a := ⟨b, o, none⟩) (Below.heap_setCell w3 ⟨w.heap.size, 3, none⟩ (.int .i64 3) b (by show b ≠ w.heap.size; omega))).trans HV.out)
  have BAx := Lib.hid (sbelow_grown BA.out (grown_set (grown_refl _ (some w.heap.size)) 3 (.int .i64 3)) (Nat.le_refl _))
  clear P1 P2 BA HV c0 c1 c2 c3 c4 e0 e1 e2 e3 e4
  generalize (w3.setCell ⟨w.heap.size, 3, none⟩ (.int .i64 3)) = w4 at *
  have P1 := P1x
  have P2 := P2x
  have BA := BAx
  have HV := HVx
  clear P1x P2x BAx HVx
  have c0 := P1.out.cell 0
  have c1 := P1.out.cell 1
  have c2 := P1.out.cell 2
  have c3 := P1.out.cell 3
  have c4 := P1.out.cell 4
  simp only [List.setIfInBounds_toArray, List.set_cons_succ, List.set_cons_zero, List.getElem?_toArray, List.getElem?_cons_zero, List.getElem?_cons_succ] at c0 c1 c2 c3 c4
  have e0 := P1.out.frozen 0
  have e1 := P1.out.frozen 1
  have e2 := P1.out.frozen 2
  have e3 := P1.out.frozen 3
  have e4 := P1.out.frozen 4
  have d0 := P2.out.cell 0
  have d1 := P2.out.cell 1
  have d2 := P2.out.cell 2
  have d3 := P2.out.cell 3
  have d4 := P2.out.cell 4
  simp only [List.getElem?_toArray, List.getElem?_cons_zero, List.getElem?_cons_succ] at d0 d1 d2 d3 d4
  have f0 := P2.out.frozen 0
  have f1 := P2.out.frozen 1
  have f2 := P2.out.frozen 2
  have f3 := P2.out.frozen 3
  have f4 := P2.out.frozen 4
  have hv := HV.out
  have hi : decide ((0 : Int) < (n : Int)) = true := decide_eq_true hn1
  go_wp2_with fail
  go_region
  go_wp2_with fail
  obtain ⟨HQ, HR⟩ := sfive (w := w) (v0 := .int .i64 E) (v1 := .int .i64 S) (v2 := .slice (some ⟨b, o, none⟩) n c) (v3 := .int .i64 3) (v4 := .int .i64 12) P2.out BA.out (Nat.le_succ _)
  have q0 := HQ.cell 0
  have q1 := HQ.cell 1
  have q2 := HQ.cell 2
  have q3 := HQ.cell 3
  have q4 := HQ.cell 4
  simp only [List.getElem?_toArray, List.getElem?_cons_zero, List.getElem?_cons_succ] at q0 q1 q2 q3 q4
  have HR' := Lib.hid HR
  clear HQ HR
  generalize (((((w4.setCell ⟨w.heap.size + 1, 0, none⟩ (.int .i64 E)).setCell ⟨w.heap.size + 1, 1, none⟩ (.int .i64 S)).setCell ⟨w.heap.size + 1, 2, none⟩ (.slice (some ⟨b, o, none⟩) n c)).setCell ⟨w.heap.size + 1, 3, none⟩ (.int .i64 3)).setCell ⟨w.heap.size + 1, 4, none⟩ (.int .i64 12)) = wz at *
  exact bodyPost_ret (v := .tuple #[.agg #[.int .i64 E, .int .i64 S, .slice (some ⟨b, o, none⟩) n c, .int .i64 3, .int .i64 12], .int .i64 S, v, .bool true]) (by simp [results, Tryd.results32, go_sem, q0, q1, q2, q3, q4]) rfl ⟨rfl, HR'.out.drew⟩
set_option maxRecDepth 100000 in
set_option maxHeartbeats 2000000 in
theorem rout_some3 (v : Value) (h : 0 < n) (hb : b < w.heap.size) (hv : w.cell? ⟨b, o, none⟩ = some v) : Calls Tryd.prog 32 #[.agg #[.int .i64 E, .int .i64 S, .slice (some ⟨b, o, none⟩) n c, .int .i64 3, .int .i64 0]] w fun e w' => e = .returned (.tuple #[.agg #[.int .i64 E, .int .i64 S, .slice (some ⟨b, o, none⟩) n c, .int .i64 3, .int .i64 24], .int .i64 S, v, .bool true]) ∧ Below w.heap.size w w' := by
  have hd1 : ((n : Int) == 0) = false := by simp; omega
  have hd3 : (n == 0) = false := by simp; omega
  have hd4 : decide (n = 0) = false := by simp; omega
  have hn1 : (0 : Int) < (n : Int) := by omega
  have H0 := Holds.new w 42 #[.int .i64 E, .int .i64 S, .slice (some ⟨b, o, none⟩) n c, .int .i64 3, .int .i64 0] w.heap.size rfl
  have P1 := Lib.hid (H0.alloc (.cells #[.int .i64 0, .int .i64 0, .slice none 0 0, .int .i64 0, .int .i64 0] 42))
  have P2 := Lib.hid (Holds.new (w.alloc (.cells #[.int .i64 E, .int .i64 S, .slice (some ⟨b, o, none⟩) n c, .int .i64 3, .int .i64 0] 42)) 42 #[.int .i64 0, .int .i64 0, .slice none 0 0, .int .i64 0, .int .i64 0] (w.heap.size + 1) (by simp))
  have BA := Lib.hid ((Below.refl w.heap.size w).alloc (Nat.le_refl _) (.cells #[.int .i64 E, .int .i64 S, .slice (some ⟨b, o, none⟩) n c, .int .i64 3, .int .i64 0] 42) |>.alloc (by simp) (.cells #[.int .i64 0, .int .i64 0, .slice none 0 0, .int .i64 0, .int .i64 0] 42))
  clear H0
  go_enter Tryd.func32, Tryd.ntmps32
  go_upto_region 1 with fail
  generalize ((w.alloc (.cells #[.int .i64 E, .int .i64 S, .slice (some ⟨b, o, none⟩) n c, .int .i64 3, .int .i64 0] 42)).alloc (.cells #[.int .i64 0, .int .i64 0, .slice none 0 0, .int .i64 0, .int .i64 0] 42)) = w0 at *
  have HV := Lib.hid ((BA.out.cell (p := ⟨b, o, none⟩) hb).trans hv)
  clear hv
  have c0 := P1.out.cell 0
  have c1 := P1.out.cell 1
  have c2 := P1.out.cell 2
  have c3 := P1.out.cell 3
  have c4 := P1.out.cell 4
  simp only [List.getElem?_toArray, List.getElem?_cons_zero, List.getElem?_cons_succ] at c0 c1 c2 c3 c4
  have e0 := P1.out.frozen 0
  have e1 := P1.out.frozen 1
  have e2 := P1.out.frozen 2
  have e3 := P1.out.frozen 3
  have e4 := P1.out.frozen 4
  go_wp2_with fail
  have P1x := Lib.hid (P1.out.set 4 (.int .i64 3))
  have P2x := Lib.hid (P2.out.far (p := ⟨w.heap.size, 4, none⟩) (by show w.heap.size + 1 ≠ w.heap.size; omega) (.int .i64 3))
  have HVx := Lib.hid ((World.cell?_of_block (a := ⟨b, o, none⟩) (Below.heap_setCell w0 ⟨w.heap.size, 4, none⟩ (.int .i64 3) b (by show b ≠ w.heap.size; omega))).trans HV.out)
  have BAx := Lib.hid (sbelow_grown BA.out (grown_set (grown_refl _ (some w.heap.size)) 4 (.int .i64 3)) (Nat.le_refl _))
  clear P1 P2 BA HV c0 c1 c2 c3 c4 e0 e1 e2 e3 e4
  generalize (w0.setCell ⟨w.heap.size, 4, none⟩ (.int .i64 3)) = w1 at *
  have P1 := P1x
  have P2 := P2x
  have BA := BAx
  have HV := HVx
  clear P1x P2x BAx HVx
  have c0 := P1.out.cell 0
  have c1 := P1.out.cell 1
  have c2 := P1.out.cell 2
  have c3 := P1.out.cell 3
  have c4 := P1.out.cell 4
  simp only [List.setIfInBounds_toArray, List.set_cons_succ, List.set_cons_zero, List.getElem?_toArray, List.getElem?_cons_zero, List.getElem?_cons_succ] at c0 c1 c2 c3 c4
  have e0 := P1.out.frozen 0
  have e1 := P1.out.frozen 1
  have e2 := P1.out.frozen 2
  have e3 := P1.out.frozen 3
  have e4 := P1.out.frozen 4
  refine wp_loop_rounds 4 ?_
  rw [rounds_succ]
  go_wp2_with fail
  have P1x := Lib.hid (P1.out.set 4 (.int .i64 6))
  have P2x := Lib.hid (P2.out.far (p := ⟨w.heap.size, 4, none⟩) (by show w.heap.size + 1 ≠ w.heap.size; omega) (.int .i64 6))
  have HVx := Lib.hid ((World.cell?_of_block (a := ⟨b, o, none⟩) (Below.heap_setCell w1 ⟨w.heap.size, 4, none⟩ (.int .i64 6) b (by show b ≠ w.heap.size; omega))).trans HV.out)
  have BAx := Lib.hid (sbelow_grown BA.out (grown_set (grown_refl _ (some w.heap.size)) 4 (.int .i64 6)) (Nat.le_refl _))
  clear P1 P2 BA HV c0 c1 c2 c3 c4 e0 e1 e2 e3 e4
  generalize (w1.setCell ⟨w.heap.size, 4, none⟩ (.int .i64 6)) = w2 at *
  have P1 := P1x
  have P2 := P2x
  have BA := BAx
  have HV := HVx
  clear P1x P2x BAx HVx
  have c0 := P1.out.cell 0
  have c1 := P1.out.cell 1
  have c2 := P1.out.cell 2
  have c3 := P1.out.cell 3
  have c4 := P1.out.cell 4
  simp only [List.setIfInBounds_toArray, List.set_cons_succ, List.set_cons_zero, List.getElem?_toArray, List.getElem?_cons_zero, List.getElem?_cons_succ] at c0 c1 c2 c3 c4
  have e0 := P1.out.frozen 0
  have e1 := P1.out.frozen 1
  have e2 := P1.out.frozen 2
  have e3 := P1.out.frozen 3
  have e4 := P1.out.frozen 4
  rw [rounds_succ]
  go_wp2_with fail
  have P1x := Lib.hid (P1.out.set 4 (.int .i64 12))
  have P2x := Lib.hid (P2.out.far (p := ⟨w.heap.size, 4, none⟩) (by show w.heap.size + 1 ≠ w.heap.size; omega) (.int .i64 12))
  have HVx := Lib.hid ((World.cell?_of_block (a := ⟨b, o, none⟩) (Below.heap_setCell w2 ⟨w.heap.size, 4, none⟩ (.int .i64 12) b (by show b ≠ w.heap.size; omega))).trans HV.out)
  have BAx := Lib.hid (sbelow_grown BA.out (grown_set (grown_refl _ (some w.heap.size)) 4 (.int .i64 12)) (Nat.le_refl _))
  clear P1 P2 BA HV c0 c1 c2 c3 c4 e0 e1 e2 e3 e4
  generalize (w2.setCell ⟨w.heap.size, 4, none⟩ (.int .i64 12)) = w3 at *
  have P1 := P1x
  have P2 := P2x
  have BA := BAx
  have HV := HVx
  clear P1x P2x BAx HVx
  have c0 := P1.out.cell 0
  have c1 := P1.out.cell 1
  have c2 := P1.out.cell 2
  have c3 := P1.out.cell 3
  have c4 := P1.out.cell 4
  simp only [List.setIfInBounds_toArray, List.set_cons_succ, List.set_cons_zero, List.getElem?_toArray, List.getElem?_cons_zero, List.getElem?_cons_succ] at c0 c1 c2 c3 c4
  have e0 := P1.out.frozen 0
  have e1 := P1.out.frozen 1
  have e2 := P1.out.frozen 2
  have e3 := P1.out.frozen 3
  have e4 := P1.out.frozen 4
  rw [rounds_succ]
  go_wp2_with fail
  have P1x := Lib.hid (P1.out.set 4 (.int .i64 24))
  have P2x := Lib.hid (P2.out.far (p := ⟨w.heap.size, 4, none⟩) (by show w.heap.size + 1 ≠ w.heap.size; omega) (.int .i64 24))
  have HVx := Lib.hid ((World.cell?_of_block (a := ⟨b, o, none⟩) (Below.heap_setCell w3 ⟨w.heap.size, 4, none⟩ (.int .i64 24) b (by show b ≠ w.heap.size; omega))).trans HV.out)
  have BAx := Lib.hid (sbelow_grown BA.out (grown_set (grown_refl _ (some w.heap.size)) 4 (.int .i64 24)) (Nat.le_refl _))
  clear P1 P2 BA HV c0 c1 c2 c3 c4 e0 e1 e2 e3 e4
  generalize (w3.setCell ⟨w.heap.size, 4, none⟩ (.int .i64 24)) = w4 at *
  have P1 := P1x
  have P2 := P2x
  have BA := BAx
  have HV := HVx
  clear P1x P2x BAx HVx
  have c0 := P1.out.cell 0
  have c1 := P1.out.cell 1
  have c2 := P1.out.cell 2
  have c3 := P1.out.cell 3
  have c4 := P1.out.cell 4
  simp only [List.setIfInBounds_toArray, List.set_cons_succ, List.set_cons_zero, List.getElem?_toArray, List.getElem?_cons_zero, List.getElem?_cons_succ] at c0 c1 c2 c3 c4
  have e0 := P1.out.frozen 0
  have e1 := P1.out.frozen 1
  have e2 := P1.out.frozen 2
  have e3 := P1.out.frozen 3
  have e4 := P1.out.frozen 4
  rw [rounds_succ]
  go_upto_region 10 with fail
  have d0 := P2.out.cell 0
  have d1 := P2.out.cell 1
  have d2 := P2.out.cell 2
  have d3 := P2.out.cell 3
  have d4 := P2.out.cell 4
  simp only [List.getElem?_toArray, List.getElem?_cons_zero, List.getElem?_cons_succ] at d0 d1 d2 d3 d4
  have f0 := P2.out.frozen 0
  have f1 := P2.out.frozen 1
  have f2 := P2.out.frozen 2
  have f3 := P2.out.frozen 3
  have f4 := P2.out.frozen 4
  have hv := HV.out
  have hi : decide ((0 : Int) < (n : Int)) = true := decide_eq_true hn1
  go_wp2_with fail
  go_region
  go_wp2_with fail
  obtain ⟨HQ, HR⟩ := sfive (w := w) (v0 := .int .i64 E) (v1 := .int .i64 S) (v2 := .slice (some ⟨b, o, none⟩) n c) (v3 := .int .i64 3) (v4 := .int .i64 24) P2.out BA.out (Nat.le_succ _)
  have q0 := HQ.cell 0
  have q1 := HQ.cell 1
  have q2 := HQ.cell 2
  have q3 := HQ.cell 3
  have q4 := HQ.cell 4
  simp only [List.getElem?_toArray, List.getElem?_cons_zero, List.getElem?_cons_succ] at q0 q1 q2 q3 q4
  have HR' := Lib.hid HR
  clear HQ HR
  generalize (((((w4.setCell ⟨w.heap.size + 1, 0, none⟩ (.int .i64 E)).setCell ⟨w.heap.size + 1, 1, none⟩ (.int .i64 S)).setCell ⟨w.heap.size + 1, 2, none⟩ (.slice (some ⟨b, o, none⟩) n c)).setCell ⟨w.heap.size + 1, 3, none⟩ (.int .i64 3)).setCell ⟨w.heap.size + 1, 4, none⟩ (.int .i64 24)) = wz at *
  exact bodyPost_ret (v := .tuple #[.agg #[.int .i64 E, .int .i64 S, .slice (some ⟨b, o, none⟩) n c, .int .i64 3, .int .i64 24], .int .i64 S, v, .bool true]) (by simp [results, Tryd.results32, go_sem, q0, q1, q2, q3, q4]) rfl ⟨rfl, HR'.out.drew⟩
set_option maxRecDepth 100000 in
set_option maxHeartbeats 2000000 in
theorem rheard_yes0 (i j : Int) (hj : 0 ≤ j ∧ j ≤ 1073741824) : Calls Tryd.prog 38 #[.agg #[.int .i64 i, .int .i64 j, .slice (some ⟨b, o, none⟩) 1 1, .int .i64 st, .int .i64 lf], .int .i64 i, .int .i64 j] w fun e w' => e = .returned (.tuple #[.agg #[.int .i64 i, .int .i64 (j + 1), .slice (some ⟨b, o, none⟩) 0 0, .int .i64 0, .int .i64 0], .bool true]) ∧ Below w.heap.size w w' := by
  have H0 := Holds.new w 42 #[.int .i64 i, .int .i64 j, .slice (some ⟨b, o, none⟩) 1 1, .int .i64 st, .int .i64 lf] w.heap.size rfl
  have P1 := Lib.hid (H0.alloc (.cells #[.int .i64 0, .int .i64 0, .slice none 0 0, .int .i64 0, .int .i64 0] 42))
  have P2 := Lib.hid (Holds.new (w.alloc (.cells #[.int .i64 i, .int .i64 j, .slice (some ⟨b, o, none⟩) 1 1, .int .i64 st, .int .i64 lf] 42)) 42 #[.int .i64 0, .int .i64 0, .slice none 0 0, .int .i64 0, .int .i64 0] (w.heap.size + 1) (by simp))
  have BA := Lib.hid ((Below.refl w.heap.size w).alloc (Nat.le_refl _) (.cells #[.int .i64 i, .int .i64 j, .slice (some ⟨b, o, none⟩) 1 1, .int .i64 st, .int .i64 lf] 42) |>.alloc (by simp) (.cells #[.int .i64 0, .int .i64 0, .slice none 0 0, .int .i64 0, .int .i64 0] 42))
  clear H0
  go_enter Tryd.func38, Tryd.ntmps38
  go_upto_region 1 with fail
  generalize ((w.alloc (.cells #[.int .i64 i, .int .i64 j, .slice (some ⟨b, o, none⟩) 1 1, .int .i64 st, .int .i64 lf] 42)).alloc (.cells #[.int .i64 0, .int .i64 0, .slice none 0 0, .int .i64 0, .int .i64 0] 42)) = w0 at *
  have c0 := P1.out.cell 0
  have c1 := P1.out.cell 1
  have c2 := P1.out.cell 2
  have c3 := P1.out.cell 3
  have c4 := P1.out.cell 4
  simp only [List.getElem?_toArray, List.getElem?_cons_zero, List.getElem?_cons_succ] at c0 c1 c2 c3 c4
  have e0 := P1.out.frozen 0
  have e1 := P1.out.frozen 1
  have e2 := P1.out.frozen 2
  have e3 := P1.out.frozen 3
  have e4 := P1.out.frozen 4
  have d0 := P2.out.cell 0
  have d1 := P2.out.cell 1
  have d2 := P2.out.cell 2
  have d3 := P2.out.cell 3
  have d4 := P2.out.cell 4
  simp only [List.getElem?_toArray, List.getElem?_cons_zero, List.getElem?_cons_succ] at d0 d1 d2 d3 d4
  have f0 := P2.out.frozen 0
  have f1 := P2.out.frozen 1
  have f2 := P2.out.frozen 2
  have f3 := P2.out.frozen 3
  have f4 := P2.out.frozen 4
  go_wp2_with fail
  go_region
  go_wp2_with fail
  obtain ⟨HQ, HR⟩ := sfive (w := w) (v0 := .int .i64 i) (v1 := .int .i64 (j + 1)) (v2 := .slice (some ⟨b, o, none⟩) 0 0) (v3 := .int .i64 0) (v4 := .int .i64 0) P2.out BA.out (Nat.le_succ _)
  have q0 := HQ.cell 0
  have q1 := HQ.cell 1
  have q2 := HQ.cell 2
  have q3 := HQ.cell 3
  have q4 := HQ.cell 4
  simp only [List.getElem?_toArray, List.getElem?_cons_zero, List.getElem?_cons_succ] at q0 q1 q2 q3 q4
  have HR' := Lib.hid HR
  clear HQ HR
  generalize (((((w0.setCell ⟨w.heap.size + 1, 0, none⟩ (.int .i64 i)).setCell ⟨w.heap.size + 1, 1, none⟩ (.int .i64 (j + 1))).setCell ⟨w.heap.size + 1, 2, none⟩ (.slice (some ⟨b, o, none⟩) 0 0)).setCell ⟨w.heap.size + 1, 3, none⟩ (.int .i64 0)).setCell ⟨w.heap.size + 1, 4, none⟩ (.int .i64 0)) = wz at *
  exact bodyPost_ret (v := .tuple #[.agg #[.int .i64 i, .int .i64 (j + 1), .slice (some ⟨b, o, none⟩) 0 0, .int .i64 0, .int .i64 0], .bool true]) (by simp [results, Tryd.results38, go_sem, q0, q1, q2, q3, q4]) rfl ⟨rfl, HR'.out.drew⟩
set_option maxRecDepth 100000 in
set_option maxHeartbeats 2000000 in
theorem rheard_yes1 (i j : Int) (hj : 0 ≤ j ∧ j ≤ 1073741824) (m : Nat) (hc : m + 1 ≤ c) (h1 : c ≠ 1) : Calls Tryd.prog 38 #[.agg #[.int .i64 i, .int .i64 j, .slice (some ⟨b, o, none⟩) (m + 1) c, .int .i64 st, .int .i64 lf], .int .i64 i, .int .i64 j] w fun e w' => e = .returned (.tuple #[.agg #[.int .i64 i, .int .i64 (j + 1), .slice (some ⟨b, o + 1, none⟩) m (c - 1), .int .i64 0, .int .i64 0], .bool true]) ∧ Below w.heap.size w w' := by
  have hnz : decide ((m : Int) + 1 = 0) = false := decide_eq_false (by omega)
  have hnz2 : ((m : Int) + 1 == 0) = false := by simp; omega
  have hc1 : decide (c = 1) = false := decide_eq_false h1
  have hc2 : ¬ c = 1 := h1
  have hi1 : (1 : Int) ≤ (m : Int) + 1 := by omega
  have hi2 : m + 1 ≤ c := hc
  have H0 := Holds.new w 42 #[.int .i64 i, .int .i64 j, .slice (some ⟨b, o, none⟩) (m + 1) c, .int .i64 st, .int .i64 lf] w.heap.size rfl
  have P1 := Lib.hid (H0.alloc (.cells #[.int .i64 0, .int .i64 0, .slice none 0 0, .int .i64 0, .int .i64 0] 42))
  have P2 := Lib.hid (Holds.new (w.alloc (.cells #[.int .i64 i, .int .i64 j, .slice (some ⟨b, o, none⟩) (m + 1) c, .int .i64 st, .int .i64 lf] 42)) 42 #[.int .i64 0, .int .i64 0, .slice none 0 0, .int .i64 0, .int .i64 0] (w.heap.size + 1) (by simp))
  have BA := Lib.hid ((Below.refl w.heap.size w).alloc (Nat.le_refl _) (.cells #[.int .i64 i, .int .i64 j, .slice (some ⟨b, o, none⟩) (m + 1) c, .int .i64 st, .int .i64 lf] 42) |>.alloc (by simp) (.cells #[.int .i64 0, .int .i64 0, .slice none 0 0, .int .i64 0, .int .i64 0] 42))
  clear H0
  go_enter Tryd.func38, Tryd.ntmps38
  go_upto_region 1 with fail
  generalize ((w.alloc (.cells #[.int .i64 i, .int .i64 j, .slice (some ⟨b, o, none⟩) (m + 1) c, .int .i64 st, .int .i64 lf] 42)).alloc (.cells #[.int .i64 0, .int .i64 0, .slice none 0 0, .int .i64 0, .int .i64 0] 42)) = w0 at *
  have c0 := P1.out.cell 0
  have c1 := P1.out.cell 1
  have c2 := P1.out.cell 2
  have c3 := P1.out.cell 3
  have c4 := P1.out.cell 4
  simp only [List.getElem?_toArray, List.getElem?_cons_zero, List.getElem?_cons_succ] at c0 c1 c2 c3 c4
  have e0 := P1.out.frozen 0
  have e1 := P1.out.frozen 1
  have e2 := P1.out.frozen 2
  have e3 := P1.out.frozen 3
  have e4 := P1.out.frozen 4
  have d0 := P2.out.cell 0
  have d1 := P2.out.cell 1
  have d2 := P2.out.cell 2
  have d3 := P2.out.cell 3
  have d4 := P2.out.cell 4
  simp only [List.getElem?_toArray, List.getElem?_cons_zero, List.getElem?_cons_succ] at d0 d1 d2 d3 d4
  have f0 := P2.out.frozen 0
  have f1 := P2.out.frozen 1
  have f2 := P2.out.frozen 2
  have f3 := P2.out.frozen 3
  have f4 := P2.out.frozen 4
  go_wp2_with fail
  go_region
  go_wp2_with fail
  obtain ⟨HQ, HR⟩ := sfive (w := w) (v0 := .int .i64 i) (v1 := .int .i64 (j + 1)) (v2 := .slice (some ⟨b, o + 1, none⟩) m (c - 1)) (v3 := .int .i64 0) (v4 := .int .i64 0) P2.out BA.out (Nat.le_succ _)
  have q0 := HQ.cell 0
  have q1 := HQ.cell 1
  have q2 := HQ.cell 2
  have q3 := HQ.cell 3
  have q4 := HQ.cell 4
  simp only [List.getElem?_toArray, List.getElem?_cons_zero, List.getElem?_cons_succ] at q0 q1 q2 q3 q4
  have HR' := Lib.hid HR
  clear HQ HR
  generalize (((((w0.setCell ⟨w.heap.size + 1, 0, none⟩ (.int .i64 i)).setCell ⟨w.heap.size + 1, 1, none⟩ (.int .i64 (j + 1))).setCell ⟨w.heap.size + 1, 2, none⟩ (.slice (some ⟨b, o + 1, none⟩) m (c - 1))).setCell ⟨w.heap.size + 1, 3, none⟩ (.int .i64 0)).setCell ⟨w.heap.size + 1, 4, none⟩ (.int .i64 0)) = wz at *
  exact bodyPost_ret (v := .tuple #[.agg #[.int .i64 i, .int .i64 (j + 1), .slice (some ⟨b, o + 1, none⟩) m (c - 1), .int .i64 0, .int .i64 0], .bool true]) (by simp [results, Tryd.results38, go_sem, q0, q1, q2, q3, q4]) rfl ⟨rfl, HR'.out.drew⟩
theorem shold2 {w0 w1 w3 : World} {p : Nat} {t : TypeId} {cs : Array Value} {A2 : Option Addr} {ob : Obj} (h : Holds w0 p t cs) (g1 : w0.grownBy w1 (blk none)) (g3 : (w1.alloc ob).grownBy w3 (blk A2)) (hk : ∀ k, blk A2 = some k → p < k) : Holds w3 p t cs :=
  ((h.grown g1 (by simp [blk])).alloc ob).grown g3 (fun e => Nat.lt_irrefl _ (hk p e))
theorem sbelow2 {w w0 w1 w3 : World} {A2 : Option Addr} {ob : Obj} (h : Below w.heap.size w w0) (g1 : w0.grownBy w1 (blk none)) (g3 : (w1.alloc ob).grownBy w3 (blk A2)) (hk : ∀ k, blk A2 = some k → w.heap.size + 2 ≤ k) : Below w.heap.size w w3 := by
  have h1 := h.grown g1 h.size (fun k e => by simp [blk] at e)
  have h2 := h1.alloc h1.size ob
  exact h2.grown g3 h2.size (fun k e => by have := hk k e; omega)
set_option maxRecDepth 100000 in
set_option maxHeartbeats 2000000 in
theorem rput_ok (A1 : Option Addr) (m cB : Nat) (us : List Value) (h : m ≤ 8192) (h2 : n ≤ 63) (h3 : S + n ≤ 1073741824) (h4 : 0 ≤ S) (hu : us.length = n) (h1 : ∀ u ∈ us, u.oneCell' = true) (hat : At w A us) : Calls Tryd.prog 15 #[.agg #[.int .i64 E, .int .i64 S, .slice A n c, .int .i64 st, .int .i64 lf], .slice A1 m cB] w fun e w' => ∃ A' c', e = .returned (.tuple #[.agg #[.int .i64 E, .int .i64 S, .slice A' (n + 1) c', .int .i64 st, .int .i64 lf], .int .i64 0]) ∧ n + 1 ≤ c' ∧ At w' A' (us ++ [.slice A1 m cB]) ∧ (∀ k, blk A' = some k → w.heap.size + 2 ≤ k) ∧ Below w.heap.size w w' := by
  have hd : decide (8192 < (m : Int)) = false := decide_eq_false (by omega)
  have hd2 : decide (63 < (n : Int)) = false := decide_eq_false (by omega)
  have hd3 : decide (1073741824 < S + (n : Int)) = false := decide_eq_false (by omega)
  have HU := Lib.hid hu
  have H1 := Lib.hid h1
  have HT := Lib.hid hat
  clear hu h1 hat
  have H0 := Holds.new w 42 #[.int .i64 E, .int .i64 S, .slice A n c, .int .i64 st, .int .i64 lf] w.heap.size rfl
  have P1 := Lib.hid (H0.alloc (.cells #[.int .i64 0, .int .i64 0, .slice none 0 0, .int .i64 0, .int .i64 0] 42))
  have P2 := Lib.hid (Holds.new (w.alloc (.cells #[.int .i64 E, .int .i64 S, .slice A n c, .int .i64 st, .int .i64 lf] 42)) 42 #[.int .i64 0, .int .i64 0, .slice none 0 0, .int .i64 0, .int .i64 0] (w.heap.size + 1) (by simp))
  have BA := Lib.hid ((Below.refl w.heap.size w).alloc (Nat.le_refl _) (.cells #[.int .i64 E, .int .i64 S, .slice A n c, .int .i64 st, .int .i64 lf] 42) |>.alloc (by simp) (.cells #[.int .i64 0, .int .i64 0, .slice none 0 0, .int .i64 0, .int .i64 0] 42))
  clear H0
  go_enter Tryd.func15, Tryd.ntmps15
  go_upto_region 1 with fail
  have HZ0 := Lib.hid (show ((w.alloc (.cells #[.int .i64 E, .int .i64 S, .slice A n c, .int .i64 st, .int .i64 lf] 42)).alloc (.cells #[.int .i64 0, .int .i64 0, .slice none 0 0, .int .i64 0, .int .i64 0] 42)).heap.size = w.heap.size + 2 by simp)
  generalize ((w.alloc (.cells #[.int .i64 E, .int .i64 S, .slice A n c, .int .i64 st, .int .i64 lf] 42)).alloc (.cells #[.int .i64 0, .int .i64 0, .slice none 0 0, .int .i64 0, .int .i64 0] 42)) = w0 at *
  have c0 := P1.out.cell 0
  have c1 := P1.out.cell 1
  have c2 := P1.out.cell 2
  have c3 := P1.out.cell 3
  have c4 := P1.out.cell 4
  simp only [List.getElem?_toArray, List.getElem?_cons_zero, List.getElem?_cons_succ] at c0 c1 c2 c3 c4
  have e0 := P1.out.frozen 0
  have e1 := P1.out.frozen 1
  have e2 := P1.out.frozen 2
  have e3 := P1.out.frozen 3
  have e4 := P1.out.frozen 4
  have d0 := P2.out.cell 0
  have d1 := P2.out.cell 1
  have d2 := P2.out.cell 2
  have d3 := P2.out.cell 3
  have d4 := P2.out.cell 4
  simp only [List.getElem?_toArray, List.getElem?_cons_zero, List.getElem?_cons_succ] at d0 d1 d2 d3 d4
  have f0 := P2.out.frozen 0
  have f1 := P2.out.frozen 1
  have f2 := P2.out.frozen 2
  have f3 := P2.out.frozen 3
  have f4 := P2.out.frozen 4
  go_wp2_with (first
    | (at_builtin; refine wpList_app rfl elt_sl (w.heap.size + 2) (.tmp 25) (.tmp 27) rfl [] rfl (Own.none_ _ _ _ _) us rfl (HT.out.later BA.out (Nat.le_refl _)) (by rw [Nat.mul_one]; exact HU.out) H1.out (by unfold maxLen; omega) (by omega) (Nat.le_of_eq HZ0.out.symm) ?_; intro A2 cq w1 own1 g1 _; simp only [Nat.zero_add, List.nil_append] at own1; have O1 := Lib.hid own1; have G1 := Lib.hid g1; clear own1 g1)
    | (at_builtin; go_loud (refine wpList_app rfl elt_sl (w.heap.size + 2) (.tmp 28) (.tmp 30) rfl us rfl (O1.out.alloc _) [.slice A1 m cB] rfl (At.lit _ _ _ _ _ rfl) rfl (by intro u hu; simp at hu; subst hu; rfl) (by unfold maxLen; omega) (by omega) (by have h1 := G1.out.size; have h2 := HZ0.out; simp; omega) ?_; intro Ar cr w3 own3 g3 _; have O3 := Lib.hid own3; have G3 := Lib.hid g3; clear own3 g3; have K1 := Lib.hid (shold2 P1.out G1.out G3.out (by intro k e; have h5 := (O1.out.lt k e).1; omega)); have K2 := Lib.hid (shold2 P2.out G1.out G3.out (by intro k e; have h5 := (O1.out.lt k e).1; omega)); have B3 := Lib.hid (sbelow2 BA.out G1.out G3.out (by intro k e; have h5 := (O1.out.lt k e).1; omega)); clear c0 c1 c2 c3 c4 d0 d1 d2 d3 d4 e0 e1 e2 e3 e4 f0 f1 f2 f3 f4; have k0 := K1.out.cell 0; have k1 := K1.out.cell 1; have k2 := K1.out.cell 2; have k3 := K1.out.cell 3; have k4 := K1.out.cell 4; simp only [List.getElem?_toArray, List.getElem?_cons_zero, List.getElem?_cons_succ] at k0 k1 k2 k3 k4; have d0 := K2.out.cell 0; have d1 := K2.out.cell 1; have d2 := K2.out.cell 2; have d3 := K2.out.cell 3; have d4 := K2.out.cell 4; simp only [List.getElem?_toArray, List.getElem?_cons_zero, List.getElem?_cons_succ] at d0 d1 d2 d3 d4; have f0 := K2.out.frozen 0; have f1 := K2.out.frozen 1; have f2 := K2.out.frozen 2; have f3 := K2.out.frozen 3; have f4 := K2.out.frozen 4; have kf := K1.out.frozen 2)))
  have P7 := Lib.hid (K2.out.far (p := ⟨w.heap.size, 2, none⟩) (by show w.heap.size + 1 ≠ w.heap.size; omega) (.slice Ar (n + 1) cr))
  have B7 := Lib.hid (sbelow_grown B3.out (grown_set (grown_refl _ (some w.heap.size)) 2 (.slice Ar (n + 1) cr)) (Nat.le_refl _))
  have G7 := Lib.hid (grown_set (grown_refl w3 (some w.heap.size)) 2 (.slice Ar (n + 1) cr))
  have F7 := Lib.hid (show ∀ k, blk Ar = some k → w.heap.size + 2 ≤ k from fun k e => (O3.out.lt k e).1)
  have T7 := Lib.hid (O3.out.at_.grown G7.out (by cases e : blk Ar with
    | none => exact .inl rfl
    | some k => exact .inr (by intro e2; injection e2 with e2; have := F7.out k e; omega)))
  generalize (w3.setCell ⟨w.heap.size, 2, none⟩ (.slice Ar (n + 1) cr)) = wy at *
  have G8 := Lib.hid (grown_set (grown_set (grown_set (grown_set (grown_set (grown_refl wy (some (w.heap.size + 1))) 0 (.int .i64 E)) 1 (.int .i64 S)) 2 (.slice Ar (n + 1) cr)) 3 (.int .i64 st)) 4 (.int .i64 lf))
  have T8 := Lib.hid (T7.out.grown G8.out (by cases e : blk Ar with
    | none => exact .inl rfl
    | some k => exact .inr (by intro e2; injection e2 with e2; have := F7.out k e; omega)))
  obtain ⟨HQ, HR⟩ := sfive (w := w) (v0 := .int .i64 E) (v1 := .int .i64 S) (v2 := .slice Ar (n + 1) cr) (v3 := .int .i64 st) (v4 := .int .i64 lf) P7.out B7.out (Nat.le_succ _)
  have q0 := HQ.cell 0
  have q1 := HQ.cell 1
  have q2 := HQ.cell 2
  have q3 := HQ.cell 3
  have q4 := HQ.cell 4
  simp only [List.getElem?_toArray, List.getElem?_cons_zero, List.getElem?_cons_succ] at q0 q1 q2 q3 q4
  have HR' := Lib.hid HR
  clear HQ HR
  generalize (((((wy.setCell ⟨w.heap.size + 1, 0, none⟩ (.int .i64 E)).setCell ⟨w.heap.size + 1, 1, none⟩ (.int .i64 S)).setCell ⟨w.heap.size + 1, 2, none⟩ (.slice Ar (n + 1) cr)).setCell ⟨w.heap.size + 1, 3, none⟩ (.int .i64 st)).setCell ⟨w.heap.size + 1, 4, none⟩ (.int .i64 lf)) = wz at *
  exact bodyPost_ret (v := .tuple #[.agg #[.int .i64 E, .int .i64 S, .slice Ar (n + 1) cr, .int .i64 st, .int .i64 lf], .int .i64 0]) (by simp [results, Tryd.results15, go_sem, q0, q1, q2, q3, q4]) rfl ⟨Ar, cr, rfl, O3.out.cap.1, T8.out, F7.out, HR'.out⟩
end
end Go.Proofs.YtodimanghmepoaaDoor
namespace Go.Proofs.YtodimanghmepoaaDoor
open Go.RowKit
section
variable {w : World} {n c : Nat}
theorem rout_any {b o : Nat} {E S : Int} (v : Value) (k : Nat) (hk : k ≤ 3) (h : 0 < n) (hb : b < w.heap.size) (hv : w.cell? ⟨b, o, none⟩ = some v) :
    Calls Tryd.prog 32 #[.agg #[.int .i64 E, .int .i64 S, .slice (some ⟨b, o, none⟩) n c, .int .i64 (k : Nat), .int .i64 ((0 : Nat) : Int)]] w fun e w' => e = .returned (.tuple #[.agg #[.int .i64 E, .int .i64 S, .slice (some ⟨b, o, none⟩) n c, .int .i64 (min (k + 1) 3 : Nat), .int .i64 (3 * 2 ^ k : Nat)], .int .i64 S, v, .bool true]) ∧ Below w.heap.size w w' := by
  have hk4 : k = 0 ∨ k = 1 ∨ k = 2 ∨ k = 3 := by omega
  rcases hk4 with rfl | rfl | rfl | rfl
  · exact rout_some0 v h hb hv
  · exact rout_some1 v h hb hv
  · exact rout_some2 v h hb hv
  · exact rout_some3 v h hb hv
theorem rout_any2 {b o : Nat} {E S : Int} (v : Value) (k : Nat) (hk : k ≤ 3) (s2 l2 : Nat) (hs : min (k + 1) 3 = s2) (hl : 3 * 2 ^ k = l2) (h : 0 < n) (hb : b < w.heap.size) (hv : w.cell? ⟨b, o, none⟩ = some v) :
    Calls Tryd.prog 32 #[.agg #[.int .i64 E, .int .i64 S, .slice (some ⟨b, o, none⟩) n c, .int .i64 (k : Nat), .int .i64 ((0 : Nat) : Int)]] w fun e w' => e = .returned (.tuple #[.agg #[.int .i64 E, .int .i64 S, .slice (some ⟨b, o, none⟩) n c, .int .i64 (s2 : Nat), .int .i64 (l2 : Nat)], .int .i64 S, v, .bool true]) ∧ Below w.heap.size w w' := by
  subst hs; subst hl; exact rout_any v k hk h hb hv
theorem rheard_any {A : Option Addr} {E S st lf : Int} {us : List Value} {v : Value} (hj : 0 ≤ S ∧ S ≤ 1073741824) (m : Nat) (hc : m + 1 ≤ c) (hu : (v :: us).length = m + 1) (hat : At w A (v :: us)) :
    Calls Tryd.prog 38 #[.agg #[.int .i64 E, .int .i64 S, .slice A (m + 1) c, .int .i64 st, .int .i64 lf], .int .i64 E, .int .i64 S] w fun e w' => ∃ A' c', e = .returned (.tuple #[.agg #[.int .i64 E, .int .i64 (S + 1), .slice A' m c', .int .i64 0, .int .i64 0], .bool true]) ∧ m ≤ c' ∧ At w' A' us ∧ blk A' = blk A ∧ Below w.heap.size w w' := by
  obtain ⟨b, o, rfl, _⟩ := hat 0 v rfl
  by_cases h1 : c = 1
  · subst h1
    obtain rfl : m = 0 := by omega
    obtain rfl : us = [] := List.eq_nil_of_length_eq_zero (by simpa using hu)
    refine (rheard_yes0 (b := b) (o := o) E S hj).mono ?_
    rintro e w' ⟨rfl, hb⟩
    exact ⟨_, _, rfl, Nat.zero_le _, At.nil _ _, rfl, hb⟩
  · refine (rheard_yes1 (b := b) (o := o) E S hj m hc h1).mono ?_
    rintro e w' ⟨rfl, hb⟩
    exact ⟨_, _, rfl, by omega, (by have := (hat.cut (m := 1)).later hb (Nat.le_refl _); simpa using this), rfl, hb⟩
end
theorem rout_none {w : World} {A : Option Addr} {n c : Nat} {E S st lf : Int} (h0 : n = 0 ∨ (n ≠ 0 ∧ 0 < lf)) : Calls Tryd.prog 32 #[.agg #[.int .i64 E, .int .i64 S, .slice A n c, .int .i64 st, .int .i64 lf]] w fun e w' => e = .returned (.tuple #[.agg #[.int .i64 E, .int .i64 S, .slice A n c, .int .i64 st, .int .i64 lf], .int .i64 0, .slice none 0 0, .bool false]) ∧ Below w.heap.size w w' := by
  rcases h0 with h | ⟨h1, h2⟩
  · exact rout_no0 h
  · exact rout_no1 h1 h2
theorem rheard_no {w : World} {A : Option Addr} {n c : Nat} {E S st lf : Int} (i j : Int) (h : i ≠ E ∨ j ≠ S ∨ n = 0) : Calls Tryd.prog 38 #[.agg #[.int .i64 E, .int .i64 S, .slice A n c, .int .i64 st, .int .i64 lf], .int .i64 i, .int .i64 j] w fun e w' => e = .returned (.tuple #[.agg #[.int .i64 E, .int .i64 S, .slice A n c, .int .i64 st, .int .i64 lf], .bool false]) ∧ Below w.heap.size w w' := by
  by_cases h1 : i = E
  · by_cases h2 : j = S
    · exact rheard_no2 i j h1 h2 (by rcases h with h | h | h; exact absurd h1 h; exact absurd h2 h; exact h)
    · exact rheard_no1 i j h1 h2
  · exact rheard_no0 i j h1
theorem grown_row {w : World} {g : Nat} (cs : Array Value) : w.grownBy (w.setRow g cs) (some g) := ⟨rfl, rfl, rfl, by simp, fun k _ hn => setRow_other w g k cs (fun e => hn (by rw [e]))⟩
theorem Own.holds_ne {w : World} {B : Nat} {e t : TypeId} {A : Option Addr} {n c : Nat} {xs : List Value} {g : Nat} {cs : Array Value} (h : Own w B e 1 A n c xs) (hH : Holds w g t cs) (hne : t ≠ e) {k : Nat} (hk : blk A = some k) : k ≠ g := by
  rintro rfl
  rcases h.2 with ⟨h0, _⟩ | ⟨g1, cap, cur, h0, _, h3, _⟩
  · injection h0 with h0; subst h0; cases hk
  · injection h0 with h0; subst h0
    injection hk with hk
    simp only at hk
    subst hk
    have h4 : w.heap[g1]? = some (.cells cs t (0, 0)) := hH
    rw [h3] at h4
    injection h4 with h4
    injection h4 with _ h4
    exact hne h4.symm
theorem lt_of_cell {w : World} {b o : Nat} {v : Value} (h : w.cell? ⟨b, o, none⟩ = some v) : b < w.heap.size := by
  rcases Nat.lt_or_ge b w.heap.size with h1 | h1
  · exact h1
  · simp [World.cell?, Array.getElem?_eq_none h1] at h
end Go.Proofs.YtodimanghmepoaaDoor
