/- Layer 17: the document's sender. -/
import Derived.Test.YtbejknjlpnibaaaDoorSndN
import Derived.Deep.CutRange
import Derived.Deep.CutBlock
namespace Go.Proofs.YtbejknjlpnibaaaDoor
open Go.RowKit
theorem below_grown {w w1 w2 : World} {g : Nat} (h : Below w.heap.size w w1) (hg : w1.grownBy w2 (some g)) (hgs : w.heap.size ≤ g) : Below w.heap.size w w2 := h.grown hg h.size (fun k hk => by injection hk with hk; omega)
theorem five {w : World} {wx : World} {p : Nat} {t : TypeId} {o0 o1 o2 o3 o4 v0 v1 v2 v3 v4 : Value} (h : Holds wx p t #[o0, o1, o2, o3, o4]) (hb : Below w.heap.size w wx) (hp : w.heap.size ≤ p) :
    Holds (((((wx.setCell ⟨p, 0, none⟩ v0).setCell ⟨p, 1, none⟩ v1).setCell ⟨p, 2, none⟩ v2).setCell ⟨p, 3, none⟩ v3).setCell ⟨p, 4, none⟩ v4) p t #[v0, v1, v2, v3, v4] ∧ Below w.heap.size w (((((wx.setCell ⟨p, 0, none⟩ v0).setCell ⟨p, 1, none⟩ v1).setCell ⟨p, 2, none⟩ v2).setCell ⟨p, 3, none⟩ v3).setCell ⟨p, 4, none⟩ v4) :=
  ⟨((((h.set 0 v0).set 1 v1).set 2 v2).set 3 v3).set 4 v4, below_grown hb (grown_set (grown_set (grown_set (grown_set (grown_set (grown_refl _ _) 0 v0) 1 v1) 2 v2) 3 v3) 4 v4) hp⟩
section
variable {w : World} {A : Option Addr} {n c : Nat} {E S st lf : Int}
set_option maxRecDepth 100000 in
set_option maxHeartbeats 2000000 in
theorem rtick_pos (h : 0 < lf) (h2 : lf ≤ 24) : Calls Tryd.prog 19 #[.agg #[.int .i64 E, .int .i64 S, .slice A n c, .int .i64 st, .int .i64 lf]] w fun e w' => e = .returned (.agg #[.int .i64 E, .int .i64 S, .slice A n c, .int .i64 st, .int .i64 (lf - 1)]) ∧ Below w.heap.size w w' := by
  have hd : decide (0 < lf) = true := decide_eq_true h
  have H0 := Holds.new w 39 #[.int .i64 E, .int .i64 S, .slice A n c, .int .i64 st, .int .i64 lf] w.heap.size rfl
  have P1 := Lib.hid (H0.alloc (.cells #[.int .i64 0, .int .i64 0, .slice none 0 0, .int .i64 0, .int .i64 0] 39))
  have P2 := Lib.hid (Holds.new (w.alloc (.cells #[.int .i64 E, .int .i64 S, .slice A n c, .int .i64 st, .int .i64 lf] 39)) 39 #[.int .i64 0, .int .i64 0, .slice none 0 0, .int .i64 0, .int .i64 0] (w.heap.size + 1) (by simp))
  have BA := Lib.hid ((Below.refl w.heap.size w).alloc (Nat.le_refl _) (.cells #[.int .i64 E, .int .i64 S, .slice A n c, .int .i64 st, .int .i64 lf] 39) |>.alloc (by simp) (.cells #[.int .i64 0, .int .i64 0, .slice none 0 0, .int .i64 0, .int .i64 0] 39))
  clear H0
  go_enter Tryd.func19, Tryd.ntmps19
  go_upto_region 1 with fail
  generalize ((w.alloc (.cells #[.int .i64 E, .int .i64 S, .slice A n c, .int .i64 st, .int .i64 lf] 39)).alloc (.cells #[.int .i64 0, .int .i64 0, .slice none 0 0, .int .i64 0, .int .i64 0] 39)) = w0 at *
  have c0 := P1.out.cell 0
  have c1 := P1.out.cell 1
  have c2 := P1.out.cell 2
  have c3 := P1.out.cell 3
  have c4 := P1.out.cell 4
  simp only [List.getElem?_toArray, List.getElem?_cons_zero, List.getElem?_cons_succ] at c0 c1 c2 c3 c4
  have e0 := P1.out.frozen 0
  have e1 := P1.out.frozen 1
  have e2 := P1.out.frozen 2
  have e3 := P1.out.frozen 3
  have e4 := P1.out.frozen 4
  have d0 := P2.out.cell 0
  have d1 := P2.out.cell 1
  have d2 := P2.out.cell 2
  have d3 := P2.out.cell 3
  have d4 := P2.out.cell 4
  simp only [List.getElem?_toArray, List.getElem?_cons_zero, List.getElem?_cons_succ] at d0 d1 d2 d3 d4
  have f0 := P2.out.frozen 0
  have f1 := P2.out.frozen 1
  have f2 := P2.out.frozen 2
  have f3 := P2.out.frozen 3
  have f4 := P2.out.frozen 4
  go_wp2_with fail
  have P7 := Lib.hid (P2.out.far (p := ⟨w.heap.size, 4, none⟩) (by show w.heap.size + 1 ≠ w.heap.size; omega) (.int .i64 (lf - 1)))
  have B7 := Lib.hid (below_grown BA.out (grown_set (grown_refl _ (some w.heap.size)) 4 (.int .i64 (lf - 1))) (Nat.le_refl _))
  generalize (w0.setCell ⟨w.heap.size, 4, none⟩ (.int .i64 (lf - 1))) = wy at *
  obtain ⟨HQ, HR⟩ := five (w := w) (v0 := .int .i64 E) (v1 := .int .i64 S) (v2 := .slice A n c) (v3 := .int .i64 st) (v4 := .int .i64 (lf - 1)) P7.out B7.out (Nat.le_succ _)
  have q0 := HQ.cell 0
  have q1 := HQ.cell 1
  have q2 := HQ.cell 2
  have q3 := HQ.cell 3
  have q4 := HQ.cell 4
  simp only [List.getElem?_toArray, List.getElem?_cons_zero, List.getElem?_cons_succ] at q0 q1 q2 q3 q4
  have HR' := Lib.hid HR
  clear HQ HR
  generalize (((((wy.setCell ⟨w.heap.size + 1, 0, none⟩ (.int .i64 E)).setCell ⟨w.heap.size + 1, 1, none⟩ (.int .i64 S)).setCell ⟨w.heap.size + 1, 2, none⟩ (.slice A n c)).setCell ⟨w.heap.size + 1, 3, none⟩ (.int .i64 st)).setCell ⟨w.heap.size + 1, 4, none⟩ (.int .i64 (lf - 1))) = wz at *
  exact bodyPost_ret (v := .agg #[.int .i64 E, .int .i64 S, .slice A n c, .int .i64 st, .int .i64 (lf - 1)]) (by simp [results, Tryd.results19, go_sem, q0, q1, q2, q3, q4]) rfl ⟨rfl, HR'.out⟩
set_option maxRecDepth 100000 in
set_option maxHeartbeats 2000000 in
theorem rtick_zero (h : ¬ 0 < lf) : Calls Tryd.prog 19 #[.agg #[.int .i64 E, .int .i64 S, .slice A n c, .int .i64 st, .int .i64 lf]] w fun e w' => e = .returned (.agg #[.int .i64 E, .int .i64 S, .slice A n c, .int .i64 st, .int .i64 lf]) ∧ Below w.heap.size w w' := by
  have hd : decide (0 < lf) = false := decide_eq_false h
  have H0 := Holds.new w 39 #[.int .i64 E, .int .i64 S, .slice A n c, .int .i64 st, .int .i64 lf] w.heap.size rfl
  have P1 := Lib.hid (H0.alloc (.cells #[.int .i64 0, .int .i64 0, .slice none 0 0, .int .i64 0, .int .i64 0] 39))
  have P2 := Lib.hid (Holds.new (w.alloc (.cells #[.int .i64 E, .int .i64 S, .slice A n c, .int .i64 st, .int .i64 lf] 39)) 39 #[.int .i64 0, .int .i64 0, .slice none 0 0, .int .i64 0, .int .i64 0] (w.heap.size + 1) (by simp))
  have BA := Lib.hid ((Below.refl w.heap.size w).alloc (Nat.le_refl _) (.cells #[.int .i64 E, .int .i64 S, .slice A n c, .int .i64 st, .int .i64 lf] 39) |>.alloc (by simp) (.cells #[.int .i64 0, .int .i64 0, .slice none 0 0, .int .i64 0, .int .i64 0] 39))
  clear H0
  go_enter Tryd.func19, Tryd.ntmps19
  go_upto_region 1 with fail
  generalize ((w.alloc (.cells #[.int .i64 E, .int .i64 S, .slice A n c, .int .i64 st, .int .i64 lf] 39)).alloc (.cells #[.int .i64 0, .int .i64 0, .slice none 0 0, .int .i64 0, .int .i64 0] 39)) = w0 at *
  have c0 := P1.out.cell 0
  have c1 := P1.out.cell 1
  have c2 := P1.out.cell 2
  have c3 := P1.out.cell 3
  have c4 := P1.out.cell 4
  simp only [List.getElem?_toArray, List.getElem?_cons_zero, List.getElem?_cons_succ] at c0 c1 c2 c3 c4
  have e0 := P1.out.frozen 0
  have e1 := P1.out.frozen 1
  have e2 := P1.out.frozen 2
  have e3 := P1.out.frozen 3
  have e4 := P1.out.frozen 4
  have d0 := P2.out.cell 0
  have d1 := P2.out.cell 1
  have d2 := P2.out.cell 2
  have d3 := P2.out.cell 3
  have d4 := P2.out.cell 4
  simp only [List.getElem?_toArray, List.getElem?_cons_zero, List.getElem?_cons_succ] at d0 d1 d2 d3 d4
  have f0 := P2.out.frozen 0
  have f1 := P2.out.frozen 1
  have f2 := P2.out.frozen 2
  have f3 := P2.out.frozen 3
  have f4 := P2.out.frozen 4
  go_wp2_with fail
  obtain ⟨HQ, HR⟩ := five (w := w) (v0 := .int .i64 E) (v1 := .int .i64 S) (v2 := .slice A n c) (v3 := .int .i64 st) (v4 := .int .i64 lf) P2.out BA.out (Nat.le_succ _)
  have q0 := HQ.cell 0
  have q1 := HQ.cell 1
  have q2 := HQ.cell 2
  have q3 := HQ.cell 3
  have q4 := HQ.cell 4
  simp only [List.getElem?_toArray, List.getElem?_cons_zero, List.getElem?_cons_succ] at q0 q1 q2 q3 q4
  have HR' := Lib.hid HR
  clear HQ HR
  generalize (((((w0.setCell ⟨w.heap.size + 1, 0, none⟩ (.int .i64 E)).setCell ⟨w.heap.size + 1, 1, none⟩ (.int .i64 S)).setCell ⟨w.heap.size + 1, 2, none⟩ (.slice A n c)).setCell ⟨w.heap.size + 1, 3, none⟩ (.int .i64 st)).setCell ⟨w.heap.size + 1, 4, none⟩ (.int .i64 lf)) = wz at *
  exact bodyPost_ret (v := .agg #[.int .i64 E, .int .i64 S, .slice A n c, .int .i64 st, .int .i64 lf]) (by simp [results, Tryd.results19, go_sem, q0, q1, q2, q3, q4]) rfl ⟨rfl, HR'.out⟩
set_option maxRecDepth 100000 in
set_option maxHeartbeats 2000000 in
theorem rreset_max (h : E = 1073741824) : Calls Tryd.prog 18 #[.agg #[.int .i64 E, .int .i64 S, .slice A n c, .int .i64 st, .int .i64 lf]] w fun e w' => e = .returned (.tuple #[.agg #[.int .i64 E, .int .i64 S, .slice A n c, .int .i64 st, .int .i64 lf], .int .i64 1]) ∧ Below w.heap.size w w' := by
  have hd : (E == 1073741824) = true := by simp [h]
  clear h
  have H0 := Holds.new w 39 #[.int .i64 E, .int .i64 S, .slice A n c, .int .i64 st, .int .i64 lf] w.heap.size rfl
  have P1 := Lib.hid (H0.alloc (.cells #[.int .i64 0, .int .i64 0, .slice none 0 0, .int .i64 0, .int .i64 0] 39))
  have P2 := Lib.hid (Holds.new (w.alloc (.cells #[.int .i64 E, .int .i64 S, .slice A n c, .int .i64 st, .int .i64 lf] 39)) 39 #[.int .i64 0, .int .i64 0, .slice none 0 0, .int .i64 0, .int .i64 0] (w.heap.size + 1) (by simp))
  have BA := Lib.hid ((Below.refl w.heap.size w).alloc (Nat.le_refl _) (.cells #[.int .i64 E, .int .i64 S, .slice A n c, .int .i64 st, .int .i64 lf] 39) |>.alloc (by simp) (.cells #[.int .i64 0, .int .i64 0, .slice none 0 0, .int .i64 0, .int .i64 0] 39))
  clear H0
  go_enter Tryd.func18, Tryd.ntmps18
  go_upto_region 1 with fail
  generalize ((w.alloc (.cells #[.int .i64 E, .int .i64 S, .slice A n c, .int .i64 st, .int .i64 lf] 39)).alloc (.cells #[.int .i64 0, .int .i64 0, .slice none 0 0, .int .i64 0, .int .i64 0] 39)) = w0 at *
  have c0 := P1.out.cell 0
  have c1 := P1.out.cell 1
  have c2 := P1.out.cell 2
  have c3 := P1.out.cell 3
  have c4 := P1.out.cell 4
  simp only [List.getElem?_toArray, List.getElem?_cons_zero, List.getElem?_cons_succ] at c0 c1 c2 c3 c4
  have e0 := P1.out.frozen 0
  have e1 := P1.out.frozen 1
  have e2 := P1.out.frozen 2
  have e3 := P1.out.frozen 3
  have e4 := P1.out.frozen 4
  have d0 := P2.out.cell 0
  have d1 := P2.out.cell 1
  have d2 := P2.out.cell 2
  have d3 := P2.out.cell 3
  have d4 := P2.out.cell 4
  simp only [List.getElem?_toArray, List.getElem?_cons_zero, List.getElem?_cons_succ] at d0 d1 d2 d3 d4
  have f0 := P2.out.frozen 0
  have f1 := P2.out.frozen 1
  have f2 := P2.out.frozen 2
  have f3 := P2.out.frozen 3
  have f4 := P2.out.frozen 4
  go_wp2_with fail
  obtain ⟨HQ, HR⟩ := five (w := w) (v0 := .int .i64 E) (v1 := .int .i64 S) (v2 := .slice A n c) (v3 := .int .i64 st) (v4 := .int .i64 lf) P2.out BA.out (Nat.le_succ _)
  have q0 := HQ.cell 0
  have q1 := HQ.cell 1
  have q2 := HQ.cell 2
  have q3 := HQ.cell 3
  have q4 := HQ.cell 4
  simp only [List.getElem?_toArray, List.getElem?_cons_zero, List.getElem?_cons_succ] at q0 q1 q2 q3 q4
  have HR' := Lib.hid HR
  clear HQ HR
  generalize (((((w0.setCell ⟨w.heap.size + 1, 0, none⟩ (.int .i64 E)).setCell ⟨w.heap.size + 1, 1, none⟩ (.int .i64 S)).setCell ⟨w.heap.size + 1, 2, none⟩ (.slice A n c)).setCell ⟨w.heap.size + 1, 3, none⟩ (.int .i64 st)).setCell ⟨w.heap.size + 1, 4, none⟩ (.int .i64 lf)) = wz at *
  exact bodyPost_ret (v := .tuple #[.agg #[.int .i64 E, .int .i64 S, .slice A n c, .int .i64 st, .int .i64 lf], .int .i64 1]) (by simp [results, Tryd.results18, go_sem, q0, q1, q2, q3, q4]) rfl ⟨rfl, HR'.out⟩
set_option maxRecDepth 100000 in
set_option maxHeartbeats 2000000 in
theorem rreset_any (h : E ≠ 1073741824) (h1 : 1 ≤ E ∧ E ≤ 1073741824) : Calls Tryd.prog 18 #[.agg #[.int .i64 E, .int .i64 S, .slice A n c, .int .i64 st, .int .i64 lf]] w fun e w' => e = .returned (.tuple #[.agg #[.int .i64 (E + 1), .int .i64 (1), .slice A n c, .int .i64 0, .int .i64 0], .int .i64 0]) ∧ Below w.heap.size w w' := by
  have hd : decide (E = 1073741824) = false := decide_eq_false h
  have H0 := Holds.new w 39 #[.int .i64 E, .int .i64 S, .slice A n c, .int .i64 st, .int .i64 lf] w.heap.size rfl
  have P1 := Lib.hid (H0.alloc (.cells #[.int .i64 0, .int .i64 0, .slice none 0 0, .int .i64 0, .int .i64 0] 39))
  have P2 := Lib.hid (Holds.new (w.alloc (.cells #[.int .i64 E, .int .i64 S, .slice A n c, .int .i64 st, .int .i64 lf] 39)) 39 #[.int .i64 0, .int .i64 0, .slice none 0 0, .int .i64 0, .int .i64 0] (w.heap.size + 1) (by simp))
  have BA := Lib.hid ((Below.refl w.heap.size w).alloc (Nat.le_refl _) (.cells #[.int .i64 E, .int .i64 S, .slice A n c, .int .i64 st, .int .i64 lf] 39) |>.alloc (by simp) (.cells #[.int .i64 0, .int .i64 0, .slice none 0 0, .int .i64 0, .int .i64 0] 39))
  clear H0
  go_enter Tryd.func18, Tryd.ntmps18
  go_upto_region 1 with fail
  generalize ((w.alloc (.cells #[.int .i64 E, .int .i64 S, .slice A n c, .int .i64 st, .int .i64 lf] 39)).alloc (.cells #[.int .i64 0, .int .i64 0, .slice none 0 0, .int .i64 0, .int .i64 0] 39)) = w0 at *
  have c0 := P1.out.cell 0
  have c1 := P1.out.cell 1
  have c2 := P1.out.cell 2
  have c3 := P1.out.cell 3
  have c4 := P1.out.cell 4
  simp only [List.getElem?_toArray, List.getElem?_cons_zero, List.getElem?_cons_succ] at c0 c1 c2 c3 c4
  have e0 := P1.out.frozen 0
  have e1 := P1.out.frozen 1
  have e2 := P1.out.frozen 2
  have e3 := P1.out.frozen 3
  have e4 := P1.out.frozen 4
  have d0 := P2.out.cell 0
  have d1 := P2.out.cell 1
  have d2 := P2.out.cell 2
  have d3 := P2.out.cell 3
  have d4 := P2.out.cell 4
  simp only [List.getElem?_toArray, List.getElem?_cons_zero, List.getElem?_cons_succ] at d0 d1 d2 d3 d4
  have f0 := P2.out.frozen 0
  have f1 := P2.out.frozen 1
  have f2 := P2.out.frozen 2
  have f3 := P2.out.frozen 3
  have f4 := P2.out.frozen 4
  go_wp2_with fail
  obtain ⟨HQ, HR⟩ := five (w := w) (v0 := .int .i64 (E + 1)) (v1 := .int .i64 (1)) (v2 := .slice A n c) (v3 := .int .i64 0) (v4 := .int .i64 0) P2.out BA.out (Nat.le_succ _)
  have q0 := HQ.cell 0
  have q1 := HQ.cell 1
  have q2 := HQ.cell 2
  have q3 := HQ.cell 3
  have q4 := HQ.cell 4
  simp only [List.getElem?_toArray, List.getElem?_cons_zero, List.getElem?_cons_succ] at q0 q1 q2 q3 q4
  have HR' := Lib.hid HR
  clear HQ HR
  generalize (((((w0.setCell ⟨w.heap.size + 1, 0, none⟩ (.int .i64 (E + 1))).setCell ⟨w.heap.size + 1, 1, none⟩ (.int .i64 (1))).setCell ⟨w.heap.size + 1, 2, none⟩ (.slice A n c)).setCell ⟨w.heap.size + 1, 3, none⟩ (.int .i64 0)).setCell ⟨w.heap.size + 1, 4, none⟩ (.int .i64 0)) = wz at *
  exact bodyPost_ret (v := .tuple #[.agg #[.int .i64 (E + 1), .int .i64 (1), .slice A n c, .int .i64 0, .int .i64 0], .int .i64 0]) (by simp [results, Tryd.results18, go_sem, q0, q1, q2, q3, q4]) rfl ⟨rfl, HR'.out⟩
set_option maxRecDepth 100000 in
set_option maxHeartbeats 2000000 in
theorem rout_no0 (h : n = 0) : Calls Tryd.prog 16 #[.agg #[.int .i64 E, .int .i64 S, .slice A n c, .int .i64 st, .int .i64 lf]] w fun e w' => e = .returned (.tuple #[.agg #[.int .i64 E, .int .i64 S, .slice A n c, .int .i64 st, .int .i64 lf], .int .i64 0, .slice none 0 0, .bool false]) ∧ Below w.heap.size w w' := by
  subst h
  have H0 := Holds.new w 39 #[.int .i64 E, .int .i64 S, .slice A 0 c, .int .i64 st, .int .i64 lf] w.heap.size rfl
  have P1 := Lib.hid (H0.alloc (.cells #[.int .i64 0, .int .i64 0, .slice none 0 0, .int .i64 0, .int .i64 0] 39))
  have P2 := Lib.hid (Holds.new (w.alloc (.cells #[.int .i64 E, .int .i64 S, .slice A 0 c, .int .i64 st, .int .i64 lf] 39)) 39 #[.int .i64 0, .int .i64 0, .slice none 0 0, .int .i64 0, .int .i64 0] (w.heap.size + 1) (by simp))
  have BA := Lib.hid ((Below.refl w.heap.size w).alloc (Nat.le_refl _) (.cells #[.int .i64 E, .int .i64 S, .slice A 0 c, .int .i64 st, .int .i64 lf] 39) |>.alloc (by simp) (.cells #[.int .i64 0, .int .i64 0, .slice none 0 0, .int .i64 0, .int .i64 0] 39))
  clear H0
  go_enter Tryd.func16, Tryd.ntmps16
  go_upto_region 1 with fail
  generalize ((w.alloc (.cells #[.int .i64 E, .int .i64 S, .slice A 0 c, .int .i64 st, .int .i64 lf] 39)).alloc (.cells #[.int .i64 0, .int .i64 0, .slice none 0 0, .int .i64 0, .int .i64 0] 39)) = w0 at *
  have c0 := P1.out.cell 0
  have c1 := P1.out.cell 1
  have c2 := P1.out.cell 2
  have c3 := P1.out.cell 3
  have c4 := P1.out.cell 4
  simp only [List.getElem?_toArray, List.getElem?_cons_zero, List.getElem?_cons_succ] at c0 c1 c2 c3 c4
  have e0 := P1.out.frozen 0
  have e1 := P1.out.frozen 1
  have e2 := P1.out.frozen 2
  have e3 := P1.out.frozen 3
  have e4 := P1.out.frozen 4
  have d0 := P2.out.cell 0
  have d1 := P2.out.cell 1
  have d2 := P2.out.cell 2
  have d3 := P2.out.cell 3
  have d4 := P2.out.cell 4
  simp only [List.getElem?_toArray, List.getElem?_cons_zero, List.getElem?_cons_succ] at d0 d1 d2 d3 d4
  have f0 := P2.out.frozen 0
  have f1 := P2.out.frozen 1
  have f2 := P2.out.frozen 2
  have f3 := P2.out.frozen 3
  have f4 := P2.out.frozen 4
  go_wp2_with fail
  obtain ⟨HQ, HR⟩ := five (w := w) (v0 := .int .i64 E) (v1 := .int .i64 S) (v2 := .slice A 0 c) (v3 := .int .i64 st) (v4 := .int .i64 lf) P2.out BA.out (Nat.le_succ _)
  have q0 := HQ.cell 0
  have q1 := HQ.cell 1
  have q2 := HQ.cell 2
  have q3 := HQ.cell 3
  have q4 := HQ.cell 4
  simp only [List.getElem?_toArray, List.getElem?_cons_zero, List.getElem?_cons_succ] at q0 q1 q2 q3 q4
  have HR' := Lib.hid HR
  clear HQ HR
  generalize (((((w0.setCell ⟨w.heap.size + 1, 0, none⟩ (.int .i64 E)).setCell ⟨w.heap.size + 1, 1, none⟩ (.int .i64 S)).setCell ⟨w.heap.size + 1, 2, none⟩ (.slice A 0 c)).setCell ⟨w.heap.size + 1, 3, none⟩ (.int .i64 st)).setCell ⟨w.heap.size + 1, 4, none⟩ (.int .i64 lf)) = wz at *
  exact bodyPost_ret (v := .tuple #[.agg #[.int .i64 E, .int .i64 S, .slice A 0 c, .int .i64 st, .int .i64 lf], .int .i64 0, .slice none 0 0, .bool false]) (by simp [results, Tryd.results16, go_sem, q0, q1, q2, q3, q4]) rfl ⟨rfl, HR'.out⟩
set_option maxRecDepth 100000 in
set_option maxHeartbeats 2000000 in
theorem rout_no1 (h : n ≠ 0) (h2 : 0 < lf) : Calls Tryd.prog 16 #[.agg #[.int .i64 E, .int .i64 S, .slice A n c, .int .i64 st, .int .i64 lf]] w fun e w' => e = .returned (.tuple #[.agg #[.int .i64 E, .int .i64 S, .slice A n c, .int .i64 st, .int .i64 lf], .int .i64 0, .slice none 0 0, .bool false]) ∧ Below w.heap.size w w' := by
  have hd1 : ((n : Int) == 0) = false := by simp; omega
  have hd3 : (n == 0) = false := by simpa using h
  have hd4 : decide (n = 0) = false := by simpa using h
  have hd2 : decide (0 < lf) = true := decide_eq_true h2
  clear h
  have H0 := Holds.new w 39 #[.int .i64 E, .int .i64 S, .slice A n c, .int .i64 st, .int .i64 lf] w.heap.size rfl
  have P1 := Lib.hid (H0.alloc (.cells #[.int .i64 0, .int .i64 0, .slice none 0 0, .int .i64 0, .int .i64 0] 39))
  have P2 := Lib.hid (Holds.new (w.alloc (.cells #[.int .i64 E, .int .i64 S, .slice A n c, .int .i64 st, .int .i64 lf] 39)) 39 #[.int .i64 0, .int .i64 0, .slice none 0 0, .int .i64 0, .int .i64 0] (w.heap.size + 1) (by simp))
  have BA := Lib.hid ((Below.refl w.heap.size w).alloc (Nat.le_refl _) (.cells #[.int .i64 E, .int .i64 S, .slice A n c, .int .i64 st, .int .i64 lf] 39) |>.alloc (by simp) (.cells #[.int .i64 0, .int .i64 0, .slice none 0 0, .int .i64 0, .int .i64 0] 39))
  clear H0
  go_enter Tryd.func16, Tryd.ntmps16
  go_upto_region 1 with fail
  generalize ((w.alloc (.cells #[.int .i64 E, .int .i64 S, .slice A n c, .int .i64 st, .int .i64 lf] 39)).alloc (.cells #[.int .i64 0, .int .i64 0, .slice none 0 0, .int .i64 0, .int .i64 0] 39)) = w0 at *
  have c0 := P1.out.cell 0
  have c1 := P1.out.cell 1
  have c2 := P1.out.cell 2
  have c3 := P1.out.cell 3
  have c4 := P1.out.cell 4
  simp only [List.getElem?_toArray, List.getElem?_cons_zero, List.getElem?_cons_succ] at c0 c1 c2 c3 c4
  have e0 := P1.out.frozen 0
  have e1 := P1.out.frozen 1
  have e2 := P1.out.frozen 2
  have e3 := P1.out.frozen 3
  have e4 := P1.out.frozen 4
  have d0 := P2.out.cell 0
  have d1 := P2.out.cell 1
  have d2 := P2.out.cell 2
  have d3 := P2.out.cell 3
  have d4 := P2.out.cell 4
  simp only [List.getElem?_toArray, List.getElem?_cons_zero, List.getElem?_cons_succ] at d0 d1 d2 d3 d4
  have f0 := P2.out.frozen 0
  have f1 := P2.out.frozen 1
  have f2 := P2.out.frozen 2
  have f3 := P2.out.frozen 3
  have f4 := P2.out.frozen 4
  go_wp2_with fail
  obtain ⟨HQ, HR⟩ := five (w := w) (v0 := .int .i64 E) (v1 := .int .i64 S) (v2 := .slice A n c) (v3 := .int .i64 st) (v4 := .int .i64 lf) P2.out BA.out (Nat.le_succ _)
  have q0 := HQ.cell 0
  have q1 := HQ.cell 1
  have q2 := HQ.cell 2
  have q3 := HQ.cell 3
  have q4 := HQ.cell 4
  simp only [List.getElem?_toArray, List.getElem?_cons_zero, List.getElem?_cons_succ] at q0 q1 q2 q3 q4
  have HR' := Lib.hid HR
  clear HQ HR
  generalize (((((w0.setCell ⟨w.heap.size + 1, 0, none⟩ (.int .i64 E)).setCell ⟨w.heap.size + 1, 1, none⟩ (.int .i64 S)).setCell ⟨w.heap.size + 1, 2, none⟩ (.slice A n c)).setCell ⟨w.heap.size + 1, 3, none⟩ (.int .i64 st)).setCell ⟨w.heap.size + 1, 4, none⟩ (.int .i64 lf)) = wz at *
  exact bodyPost_ret (v := .tuple #[.agg #[.int .i64 E, .int .i64 S, .slice A n c, .int .i64 st, .int .i64 lf], .int .i64 0, .slice none 0 0, .bool false]) (by simp [results, Tryd.results16, go_sem, q0, q1, q2, q3, q4]) rfl ⟨rfl, HR'.out⟩
set_option maxRecDepth 100000 in
set_option maxHeartbeats 2000000 in
theorem rheard_no0 (i j : Int) (h : i ≠ E) : Calls Tryd.prog 17 #[.agg #[.int .i64 E, .int .i64 S, .slice A n c, .int .i64 st, .int .i64 lf], .int .i64 i, .int .i64 j] w fun e w' => e = .returned (.tuple #[.agg #[.int .i64 E, .int .i64 S, .slice A n c, .int .i64 st, .int .i64 lf], .bool false]) ∧ Below w.heap.size w w' := by
  have hd1 : decide (i = E) = false := decide_eq_false h
  have H0 := Holds.new w 39 #[.int .i64 E, .int .i64 S, .slice A n c, .int .i64 st, .int .i64 lf] w.heap.size rfl
  have P1 := Lib.hid (H0.alloc (.cells #[.int .i64 0, .int .i64 0, .slice none 0 0, .int .i64 0, .int .i64 0] 39))
  have P2 := Lib.hid (Holds.new (w.alloc (.cells #[.int .i64 E, .int .i64 S, .slice A n c, .int .i64 st, .int .i64 lf] 39)) 39 #[.int .i64 0, .int .i64 0, .slice none 0 0, .int .i64 0, .int .i64 0] (w.heap.size + 1) (by simp))
  have BA := Lib.hid ((Below.refl w.heap.size w).alloc (Nat.le_refl _) (.cells #[.int .i64 E, .int .i64 S, .slice A n c, .int .i64 st, .int .i64 lf] 39) |>.alloc (by simp) (.cells #[.int .i64 0, .int .i64 0, .slice none 0 0, .int .i64 0, .int .i64 0] 39))
  clear H0
  go_enter Tryd.func17, Tryd.ntmps17
  go_upto_region 1 with fail
  generalize ((w.alloc (.cells #[.int .i64 E, .int .i64 S, .slice A n c, .int .i64 st, .int .i64 lf] 39)).alloc (.cells #[.int .i64 0, .int .i64 0, .slice none 0 0, .int .i64 0, .int .i64 0] 39)) = w0 at *
  have c0 := P1.out.cell 0
  have c1 := P1.out.cell 1
  have c2 := P1.out.cell 2
  have c3 := P1.out.cell 3
  have c4 := P1.out.cell 4
  simp only [List.getElem?_toArray, List.getElem?_cons_zero, List.getElem?_cons_succ] at c0 c1 c2 c3 c4
  have e0 := P1.out.frozen 0
  have e1 := P1.out.frozen 1
  have e2 := P1.out.frozen 2
  have e3 := P1.out.frozen 3
  have e4 := P1.out.frozen 4
  have d0 := P2.out.cell 0
  have d1 := P2.out.cell 1
  have d2 := P2.out.cell 2
  have d3 := P2.out.cell 3
  have d4 := P2.out.cell 4
  simp only [List.getElem?_toArray, List.getElem?_cons_zero, List.getElem?_cons_succ] at d0 d1 d2 d3 d4
  have f0 := P2.out.frozen 0
  have f1 := P2.out.frozen 1
  have f2 := P2.out.frozen 2
  have f3 := P2.out.frozen 3
  have f4 := P2.out.frozen 4
  go_wp2_with fail
  obtain ⟨HQ, HR⟩ := five (w := w) (v0 := .int .i64 E) (v1 := .int .i64 S) (v2 := .slice A n c) (v3 := .int .i64 st) (v4 := .int .i64 lf) P2.out BA.out (Nat.le_succ _)
  have q0 := HQ.cell 0
  have q1 := HQ.cell 1
  have q2 := HQ.cell 2
  have q3 := HQ.cell 3
  have q4 := HQ.cell 4
  simp only [List.getElem?_toArray, List.getElem?_cons_zero, List.getElem?_cons_succ] at q0 q1 q2 q3 q4
  have HR' := Lib.hid HR
  clear HQ HR
  generalize (((((w0.setCell ⟨w.heap.size + 1, 0, none⟩ (.int .i64 E)).setCell ⟨w.heap.size + 1, 1, none⟩ (.int .i64 S)).setCell ⟨w.heap.size + 1, 2, none⟩ (.slice A n c)).setCell ⟨w.heap.size + 1, 3, none⟩ (.int .i64 st)).setCell ⟨w.heap.size + 1, 4, none⟩ (.int .i64 lf)) = wz at *
  exact bodyPost_ret (v := .tuple #[.agg #[.int .i64 E, .int .i64 S, .slice A n c, .int .i64 st, .int .i64 lf], .bool false]) (by simp [results, Tryd.results17, go_sem, q0, q1, q2, q3, q4]) rfl ⟨rfl, HR'.out⟩
set_option maxRecDepth 100000 in
set_option maxHeartbeats 2000000 in
theorem rheard_no1 (i j : Int) (h : i = E) (h2 : j ≠ S) : Calls Tryd.prog 17 #[.agg #[.int .i64 E, .int .i64 S, .slice A n c, .int .i64 st, .int .i64 lf], .int .i64 i, .int .i64 j] w fun e w' => e = .returned (.tuple #[.agg #[.int .i64 E, .int .i64 S, .slice A n c, .int .i64 st, .int .i64 lf], .bool false]) ∧ Below w.heap.size w w' := by
  subst h
  have hd1 : decide (j = S) = false := decide_eq_false h2
  have H0 := Holds.new w 39 #[.int .i64 i, .int .i64 S, .slice A n c, .int .i64 st, .int .i64 lf] w.heap.size rfl
  have P1 := Lib.hid (H0.alloc (.cells #[.int .i64 0, .int .i64 0, .slice none 0 0, .int .i64 0, .int .i64 0] 39))
  have P2 := Lib.hid (Holds.new (w.alloc (.cells #[.int .i64 i, .int .i64 S, .slice A n c, .int .i64 st, .int .i64 lf] 39)) 39 #[.int .i64 0, .int .i64 0, .slice none 0 0, .int .i64 0, .int .i64 0] (w.heap.size + 1) (by simp))
  have BA := Lib.hid ((Below.refl w.heap.size w).alloc (Nat.le_refl _) (.cells #[.int .i64 i, .int .i64 S, .slice A n c, .int .i64 st, .int .i64 lf] 39) |>.alloc (by simp) (.cells #[.int .i64 0, .int .i64 0, .slice none 0 0, .int .i64 0, .int .i64 0] 39))
  clear H0
  go_enter Tryd.func17, Tryd.ntmps17
  go_upto_region 1 with fail
  generalize ((w.alloc (.cells #[.int .i64 i, .int .i64 S, .slice A n c, .int .i64 st, .int .i64 lf] 39)).alloc (.cells #[.int .i64 0, .int .i64 0, .slice none 0 0, .int .i64 0, .int .i64 0] 39)) = w0 at *
  have c0 := P1.out.cell 0
  have c1 := P1.out.cell 1
  have c2 := P1.out.cell 2
  have c3 := P1.out.cell 3
  have c4 := P1.out.cell 4
  simp only [List.getElem?_toArray, List.getElem?_cons_zero, List.getElem?_cons_succ] at c0 c1 c2 c3 c4
  have e0 := P1.out.frozen 0
  have e1 := P1.out.frozen 1
  have e2 := P1.out.frozen 2
  have e3 := P1.out.frozen 3
  have e4 := P1.out.frozen 4
  have d0 := P2.out.cell 0
  have d1 := P2.out.cell 1
  have d2 := P2.out.cell 2
  have d3 := P2.out.cell 3
  have d4 := P2.out.cell 4
  simp only [List.getElem?_toArray, List.getElem?_cons_zero, List.getElem?_cons_succ] at d0 d1 d2 d3 d4
  have f0 := P2.out.frozen 0
  have f1 := P2.out.frozen 1
  have f2 := P2.out.frozen 2
  have f3 := P2.out.frozen 3
  have f4 := P2.out.frozen 4
  go_wp2_with fail
  obtain ⟨HQ, HR⟩ := five (w := w) (v0 := .int .i64 i) (v1 := .int .i64 S) (v2 := .slice A n c) (v3 := .int .i64 st) (v4 := .int .i64 lf) P2.out BA.out (Nat.le_succ _)
  have q0 := HQ.cell 0
  have q1 := HQ.cell 1
  have q2 := HQ.cell 2
  have q3 := HQ.cell 3
  have q4 := HQ.cell 4
  simp only [List.getElem?_toArray, List.getElem?_cons_zero, List.getElem?_cons_succ] at q0 q1 q2 q3 q4
  have HR' := Lib.hid HR
  clear HQ HR
  generalize (((((w0.setCell ⟨w.heap.size + 1, 0, none⟩ (.int .i64 i)).setCell ⟨w.heap.size + 1, 1, none⟩ (.int .i64 S)).setCell ⟨w.heap.size + 1, 2, none⟩ (.slice A n c)).setCell ⟨w.heap.size + 1, 3, none⟩ (.int .i64 st)).setCell ⟨w.heap.size + 1, 4, none⟩ (.int .i64 lf)) = wz at *
  exact bodyPost_ret (v := .tuple #[.agg #[.int .i64 i, .int .i64 S, .slice A n c, .int .i64 st, .int .i64 lf], .bool false]) (by simp [results, Tryd.results17, go_sem, q0, q1, q2, q3, q4]) rfl ⟨rfl, HR'.out⟩
set_option maxRecDepth 100000 in
set_option maxHeartbeats 2000000 in
theorem rheard_no2 (i j : Int) (h : i = E) (h2 : j = S) (h3 : n = 0) : Calls Tryd.prog 17 #[.agg #[.int .i64 E, .int .i64 S, .slice A n c, .int .i64 st, .int .i64 lf], .int .i64 i, .int .i64 j] w fun e w' => e = .returned (.tuple #[.agg #[.int .i64 E, .int .i64 S, .slice A n c, .int .i64 st, .int .i64 lf], .bool false]) ∧ Below w.heap.size w w' := by
  subst h
  subst h2
  subst h3
  have H0 := Holds.new w 39 #[.int .i64 i, .int .i64 j, .slice A 0 c, .int .i64 st, .int .i64 lf] w.heap.size rfl
  have P1 := Lib.hid (H0.alloc (.cells #[.int .i64 0, .int .i64 0, .slice none 0 0, .int .i64 0, .int .i64 0] 39))
  have P2 := Lib.hid (Holds.new (w.alloc (.cells #[.int .i64 i, .int .i64 j, .slice A 0 c, .int .i64 st, .int .i64 lf] 39)) 39 #[.int .i64 0, .int .i64 0, .slice none 0 0, .int .i64 0, .int .i64 0] (w.heap.size + 1) (by simp))
  have BA := Lib.hid ((Below.refl w.heap.size w).alloc (Nat.le_refl _) (.cells #[.int .i64 i, .int .i64 j, .slice A 0 c, .int .i64 st, .int .i64 lf] 39) |>.alloc (by simp) (.cells #[.int .i64 0, .int .i64 0, .slice none 0 0, .int .i64 0, .int .i64 0] 39))
  clear H0
  go_enter Tryd.func17, Tryd.ntmps17
  go_upto_region 1 with fail
  generalize ((w.alloc (.cells #[.int .i64 i, .int .i64 j, .slice A 0 c, .int .i64 st, .int .i64 lf] 39)).alloc (.cells #[.int .i64 0, .int .i64 0, .slice none 0 0, .int .i64 0, .int .i64 0] 39)) = w0 at *
  have c0 := P1.out.cell 0
  have c1 := P1.out.cell 1
  have c2 := P1.out.cell 2
  have c3 := P1.out.cell 3
  have c4 := P1.out.cell 4
  simp only [List.getElem?_toArray, List.getElem?_cons_zero, List.getElem?_cons_succ] at c0 c1 c2 c3 c4
  have e0 := P1.out.frozen 0
  have e1 := P1.out.frozen 1
  have e2 := P1.out.frozen 2
  have e3 := P1.out.frozen 3
  have e4 := P1.out.frozen 4
  have d0 := P2.out.cell 0
  have d1 := P2.out.cell 1
  have d2 := P2.out.cell 2
  have d3 := P2.out.cell 3
  have d4 := P2.out.cell 4
  simp only [List.getElem?_toArray, List.getElem?_cons_zero, List.getElem?_cons_succ] at d0 d1 d2 d3 d4
  have f0 := P2.out.frozen 0
  have f1 := P2.out.frozen 1
  have f2 := P2.out.frozen 2
  have f3 := P2.out.frozen 3
  have f4 := P2.out.frozen 4
  go_wp2_with fail
  obtain ⟨HQ, HR⟩ := five (w := w) (v0 := .int .i64 i) (v1 := .int .i64 j) (v2 := .slice A 0 c) (v3 := .int .i64 st) (v4 := .int .i64 lf) P2.out BA.out (Nat.le_succ _)
  have q0 := HQ.cell 0
  have q1 := HQ.cell 1
  have q2 := HQ.cell 2
  have q3 := HQ.cell 3
  have q4 := HQ.cell 4
  simp only [List.getElem?_toArray, List.getElem?_cons_zero, List.getElem?_cons_succ] at q0 q1 q2 q3 q4
  have HR' := Lib.hid HR
  clear HQ HR
  generalize (((((w0.setCell ⟨w.heap.size + 1, 0, none⟩ (.int .i64 i)).setCell ⟨w.heap.size + 1, 1, none⟩ (.int .i64 j)).setCell ⟨w.heap.size + 1, 2, none⟩ (.slice A 0 c)).setCell ⟨w.heap.size + 1, 3, none⟩ (.int .i64 st)).setCell ⟨w.heap.size + 1, 4, none⟩ (.int .i64 lf)) = wz at *
  exact bodyPost_ret (v := .tuple #[.agg #[.int .i64 i, .int .i64 j, .slice A 0 c, .int .i64 st, .int .i64 lf], .bool false]) (by simp [results, Tryd.results17, go_sem, q0, q1, q2, q3, q4]) rfl ⟨rfl, HR'.out⟩
set_option maxRecDepth 100000 in
set_option maxHeartbeats 2000000 in
theorem rput_long (A1 : Option Addr) (m c1 : Nat) (h : 8192 < m) : Calls Tryd.prog 15 #[.agg #[.int .i64 E, .int .i64 S, .slice A n c, .int .i64 st, .int .i64 lf], .slice A1 m c1] w fun e w' => e = .returned (.tuple #[.agg #[.int .i64 E, .int .i64 S, .slice A n c, .int .i64 st, .int .i64 lf], .int .i64 5]) ∧ Below w.heap.size w w' := by
  have hd : decide (8192 < (m : Int)) = true := decide_eq_true (by omega)
  have H0 := Holds.new w 39 #[.int .i64 E, .int .i64 S, .slice A n c, .int .i64 st, .int .i64 lf] w.heap.size rfl
  have P1 := Lib.hid (H0.alloc (.cells #[.int .i64 0, .int .i64 0, .slice none 0 0, .int .i64 0, .int .i64 0] 39))
  have P2 := Lib.hid (Holds.new (w.alloc (.cells #[.int .i64 E, .int .i64 S, .slice A n c, .int .i64 st, .int .i64 lf] 39)) 39 #[.int .i64 0, .int .i64 0, .slice none 0 0, .int .i64 0, .int .i64 0] (w.heap.size + 1) (by simp))
  have BA := Lib.hid ((Below.refl w.heap.size w).alloc (Nat.le_refl _) (.cells #[.int .i64 E, .int .i64 S, .slice A n c, .int .i64 st, .int .i64 lf] 39) |>.alloc (by simp) (.cells #[.int .i64 0, .int .i64 0, .slice none 0 0, .int .i64 0, .int .i64 0] 39))
  clear H0
  go_enter Tryd.func15, Tryd.ntmps15
  go_upto_region 1 with fail
  generalize ((w.alloc (.cells #[.int .i64 E, .int .i64 S, .slice A n c, .int .i64 st, .int .i64 lf] 39)).alloc (.cells #[.int .i64 0, .int .i64 0, .slice none 0 0, .int .i64 0, .int .i64 0] 39)) = w0 at *
  have c0 := P1.out.cell 0
  have c1 := P1.out.cell 1
  have c2 := P1.out.cell 2
  have c3 := P1.out.cell 3
  have c4 := P1.out.cell 4
  simp only [List.getElem?_toArray, List.getElem?_cons_zero, List.getElem?_cons_succ] at c0 c1 c2 c3 c4
  have e0 := P1.out.frozen 0
  have e1 := P1.out.frozen 1
  have e2 := P1.out.frozen 2
  have e3 := P1.out.frozen 3
  have e4 := P1.out.frozen 4
  have d0 := P2.out.cell 0
  have d1 := P2.out.cell 1
  have d2 := P2.out.cell 2
  have d3 := P2.out.cell 3
  have d4 := P2.out.cell 4
  simp only [List.getElem?_toArray, List.getElem?_cons_zero, List.getElem?_cons_succ] at d0 d1 d2 d3 d4
  have f0 := P2.out.frozen 0
  have f1 := P2.out.frozen 1
  have f2 := P2.out.frozen 2
  have f3 := P2.out.frozen 3
  have f4 := P2.out.frozen 4
  go_wp2_with fail
  obtain ⟨HQ, HR⟩ := five (w := w) (v0 := .int .i64 E) (v1 := .int .i64 S) (v2 := .slice A n c) (v3 := .int .i64 st) (v4 := .int .i64 lf) P2.out BA.out (Nat.le_succ _)
  have q0 := HQ.cell 0
  have q1 := HQ.cell 1
  have q2 := HQ.cell 2
  have q3 := HQ.cell 3
  have q4 := HQ.cell 4
  simp only [List.getElem?_toArray, List.getElem?_cons_zero, List.getElem?_cons_succ] at q0 q1 q2 q3 q4
  have HR' := Lib.hid HR
  clear HQ HR
  generalize (((((w0.setCell ⟨w.heap.size + 1, 0, none⟩ (.int .i64 E)).setCell ⟨w.heap.size + 1, 1, none⟩ (.int .i64 S)).setCell ⟨w.heap.size + 1, 2, none⟩ (.slice A n c)).setCell ⟨w.heap.size + 1, 3, none⟩ (.int .i64 st)).setCell ⟨w.heap.size + 1, 4, none⟩ (.int .i64 lf)) = wz at *
  exact bodyPost_ret (v := .tuple #[.agg #[.int .i64 E, .int .i64 S, .slice A n c, .int .i64 st, .int .i64 lf], .int .i64 5]) (by simp [results, Tryd.results15, go_sem, q0, q1, q2, q3, q4]) rfl ⟨rfl, HR'.out⟩
set_option maxRecDepth 100000 in
set_option maxHeartbeats 2000000 in
theorem rput_full (A1 : Option Addr) (m c1 : Nat) (h : m ≤ 8192) (h2 : 64 ≤ n) : Calls Tryd.prog 15 #[.agg #[.int .i64 E, .int .i64 S, .slice A n c, .int .i64 st, .int .i64 lf], .slice A1 m c1] w fun e w' => e = .returned (.tuple #[.agg #[.int .i64 E, .int .i64 S, .slice A n c, .int .i64 st, .int .i64 lf], .int .i64 14]) ∧ Below w.heap.size w w' := by
  have hd : decide (8192 < (m : Int)) = false := decide_eq_false (by omega)
  have hd2 : decide (63 < (n : Int)) = true := decide_eq_true (by omega)
  have H0 := Holds.new w 39 #[.int .i64 E, .int .i64 S, .slice A n c, .int .i64 st, .int .i64 lf] w.heap.size rfl
  have P1 := Lib.hid (H0.alloc (.cells #[.int .i64 0, .int .i64 0, .slice none 0 0, .int .i64 0, .int .i64 0] 39))
  have P2 := Lib.hid (Holds.new (w.alloc (.cells #[.int .i64 E, .int .i64 S, .slice A n c, .int .i64 st, .int .i64 lf] 39)) 39 #[.int .i64 0, .int .i64 0, .slice none 0 0, .int .i64 0, .int .i64 0] (w.heap.size + 1) (by simp))
  have BA := Lib.hid ((Below.refl w.heap.size w).alloc (Nat.le_refl _) (.cells #[.int .i64 E, .int .i64 S, .slice A n c, .int .i64 st, .int .i64 lf] 39) |>.alloc (by simp) (.cells #[.int .i64 0, .int .i64 0, .slice none 0 0, .int .i64 0, .int .i64 0] 39))
  clear H0
  go_enter Tryd.func15, Tryd.ntmps15
  go_upto_region 1 with fail
  generalize ((w.alloc (.cells #[.int .i64 E, .int .i64 S, .slice A n c, .int .i64 st, .int .i64 lf] 39)).alloc (.cells #[.int .i64 0, .int .i64 0, .slice none 0 0, .int .i64 0, .int .i64 0] 39)) = w0 at *
  have c0 := P1.out.cell 0
  have c1 := P1.out.cell 1
  have c2 := P1.out.cell 2
  have c3 := P1.out.cell 3
  have c4 := P1.out.cell 4
  simp only [List.getElem?_toArray, List.getElem?_cons_zero, List.getElem?_cons_succ] at c0 c1 c2 c3 c4
  have e0 := P1.out.frozen 0
  have e1 := P1.out.frozen 1
  have e2 := P1.out.frozen 2
  have e3 := P1.out.frozen 3
  have e4 := P1.out.frozen 4
  have d0 := P2.out.cell 0
  have d1 := P2.out.cell 1
  have d2 := P2.out.cell 2
  have d3 := P2.out.cell 3
  have d4 := P2.out.cell 4
  simp only [List.getElem?_toArray, List.getElem?_cons_zero, List.getElem?_cons_succ] at d0 d1 d2 d3 d4
  have f0 := P2.out.frozen 0
  have f1 := P2.out.frozen 1
  have f2 := P2.out.frozen 2
  have f3 := P2.out.frozen 3
  have f4 := P2.out.frozen 4
  go_wp2_with fail
  obtain ⟨HQ, HR⟩ := five (w := w) (v0 := .int .i64 E) (v1 := .int .i64 S) (v2 := .slice A n c) (v3 := .int .i64 st) (v4 := .int .i64 lf) P2.out BA.out (Nat.le_succ _)
  have q0 := HQ.cell 0
  have q1 := HQ.cell 1
  have q2 := HQ.cell 2
  have q3 := HQ.cell 3
  have q4 := HQ.cell 4
  simp only [List.getElem?_toArray, List.getElem?_cons_zero, List.getElem?_cons_succ] at q0 q1 q2 q3 q4
  have HR' := Lib.hid HR
  clear HQ HR
  generalize (((((w0.setCell ⟨w.heap.size + 1, 0, none⟩ (.int .i64 E)).setCell ⟨w.heap.size + 1, 1, none⟩ (.int .i64 S)).setCell ⟨w.heap.size + 1, 2, none⟩ (.slice A n c)).setCell ⟨w.heap.size + 1, 3, none⟩ (.int .i64 st)).setCell ⟨w.heap.size + 1, 4, none⟩ (.int .i64 lf)) = wz at *
  exact bodyPost_ret (v := .tuple #[.agg #[.int .i64 E, .int .i64 S, .slice A n c, .int .i64 st, .int .i64 lf], .int .i64 14]) (by simp [results, Tryd.results15, go_sem, q0, q1, q2, q3, q4]) rfl ⟨rfl, HR'.out⟩
end
end Go.Proofs.YtbejknjlpnibaaaDoor
