/- Layer 19: the document's end: New; the errors of link.New. Printed by lta.py. -/
import Derived.Test.YtodimanghmepoaaDoorLkO
import Derived.Laws.Rows
import Derived.Laws.Tables
import Derived.Great.Ranges
import Derived.Great.Walk
import Derived.Great.BuildSlice
namespace Go.Proofs.YtodimanghmepoaaDoor
open Go.RowKit
/-- the document's end: its cells -/
def endX (s : LSt) (A : Option Addr) (m c : Nat) : Array Value := #[.int .i64 s.me, .int .i64 s.ot, .int .i64 s.E, .int .i64 s.S, .slice A m c, .int .i64 s.st, .int .i64 s.lf, .int .i64 s.RE, .int .i64 s.RL, .bool s.gv, .int .i64 s.ep, .int .i64 s.sq]
def z19 : LSt := ⟨0, 0, 0, 0, [], 0, 0, 0, 0, false, 0, 0⟩
theorem endX_one (s : LSt) (A : Option Addr) (m c : Nat) : (endX s A m c).all (·.oneCell') = true := by simp [endX, Value.oneCell']
theorem end_under : Tryd.prog.underlying 46 = some (match Tryd.prog.underlying 46 with | some d => d | none => default) := by kernel_rfl
set_option maxRecDepth 100000 in
theorem end_size : (Tryd.prog.info? 46).map (·.size) = some (12 : Nat) := by kernel_rfl
set_option maxRecDepth 100000 in
theorem run_allocE (ρ : Operand → Value) (o : Oper) (w : World) (ho : o.op = .alloc 46) : (execOp ρ o).run Tryd.prog w = .ok (.value (.pointer (some ⟨w.heap.size, 0, none⟩))) (w.alloc (.cells (endX z19 none 0 0) 46)) := by
  unfold execOp
  simp only [ho]
  rfl
theorem Holds.rowE {w : World} {g : Nat} {t : TypeId} {cs : Array Value} (h : Holds w g t cs) (cs' : Array Value) : Holds (w.setRow g cs') g t cs' := setRow_heap w g cs cs' t (0, 0) h
theorem results_cell_2 {P : Program} {fn : Func} {p q : Tmp} {ty : TypeId} (h : fn.results = #[.cell p ty, .tmp q]) (tmps : Array Value) (w : World) (g : Nat) (t : TypeId) (cs : Array Value) (fr : Nat × Nat) (d : TypeDesc) (u : Value)
    (hp : tmps.getD p undef = .pointer (some ⟨g, 0, none⟩)) (hq : tmps.getD q undef = u) (hg : w.heap[g]? = some (.cells cs t fr))
    (hu : P.underlying ty = some d) (hd : (match d with | .struct _ | .array _ _ => true | _ => false) = true) (hi : (P.info? ty).map (·.size) = some cs.size) :
    (results fn tmps).run P w = .ok (.tuple #[.agg cs, u]) w := by
  have hp' : tmps[p]?.getD undef = .pointer (some ⟨g, 0, none⟩) := by simpa using hp
  have hq' : tmps[q]?.getD undef = u := by simpa using hq
  simp [results, h, hp', hq', asAddr, run_loadVar_row w g t ty cs fr d hg hu hd hi]
theorem results_cell_4 {P : Program} {fn : Func} {p q1 q2 q3 : Tmp} {ty : TypeId} (h : fn.results = #[.cell p ty, .tmp q1, .tmp q2, .tmp q3]) (tmps : Array Value) (w : World) (g : Nat) (t : TypeId) (cs : Array Value) (fr : Nat × Nat) (d : TypeDesc) (u1 u2 u3 : Value)
    (hp : tmps.getD p undef = .pointer (some ⟨g, 0, none⟩)) (hq1 : tmps.getD q1 undef = u1) (hq2 : tmps.getD q2 undef = u2) (hq3 : tmps.getD q3 undef = u3) (hg : w.heap[g]? = some (.cells cs t fr))
    (hu : P.underlying ty = some d) (hd : (match d with | .struct _ | .array _ _ => true | _ => false) = true) (hi : (P.info? ty).map (·.size) = some cs.size) :
    (results fn tmps).run P w = .ok (.tuple #[.agg cs, u1, u2, u3]) w := by
  have hp' : tmps[p]?.getD undef = .pointer (some ⟨g, 0, none⟩) := by simpa using hp
  have h1 : tmps[q1]?.getD undef = u1 := by simpa using hq1
  have h2 : tmps[q2]?.getD undef = u2 := by simpa using hq2
  have h3 : tmps[q3]?.getD undef = u3 := by simpa using hq3
  simp [results, h, hp', h1, h2, h3, asAddr, run_loadVar_row w g t ty cs fr d hg hu hd hi]
/-- who may be an end -/
def LMay (me ot E : Int) : Prop := 0 ≤ me ∧ me ≤ 255 ∧ 0 ≤ ot ∧ ot ≤ 255 ∧ me ≠ ot ∧ 1 ≤ E ∧ E ≤ 1073741824
theorem snew_no (E : Int) (w : World) (hE : E < 1 ∨ 1073741824 < E) :
    Calls Tryd.prog 20 #[.int .i64 E] w fun e w' => e = .returned (.tuple #[.pointer none, .iface 70 (.int .i64 1)]) ∧ w' = w := by
  by_cases h : E < 1
  · have h1 : decide (E < 1) = true := decide_eq_true h
    go_enter Tryd.func20, Tryd.ntmps20
    go_wp2_with fail
    exact bodyPost_ret (v := .tuple #[.pointer none, .iface 70 (.int .i64 1)]) (by simp [results, Tryd.results20, go_sem]) rfl ⟨rfl, rfl⟩
  · have h1 : decide (E < 1) = false := decide_eq_false h
    have h2 : decide (1073741824 < E) = true := decide_eq_true (by omega)
    go_enter Tryd.func20, Tryd.ntmps20
    go_wp2_with fail
    exact bodyPost_ret (v := .tuple #[.pointer none, .iface 70 (.int .i64 1)]) (by simp [results, Tryd.results20, go_sem]) rfl ⟨rfl, rfl⟩
set_option maxRecDepth 100000 in
theorem lnew_no (w : World) (me ot E : Int) (hno : ¬ LMay me ot E) :
    Calls Tryd.prog 6 #[.int .i64 me, .int .i64 ot, .int .i64 E] w fun e w' => e = .returned (.tuple #[.pointer none, .iface 70 (.int .i64 1)]) ∧ w' = w := by
  rw [LMay] at hno
  by_cases k0 : me < 0
  · have d1 : decide (me < 0) = true := decide_eq_true k0
    clear hno k0
    go_enter Tryd.func6, Tryd.ntmps6
    go_wp2_with fail
    exact bodyPost_ret (v := .tuple #[.pointer none, .iface 70 (.int .i64 1)]) (by simp [results, Tryd.results6, go_sem]) rfl ⟨rfl, rfl⟩
  have d1 : decide (me < 0) = false := decide_eq_false k0
  by_cases k1 : 255 < me
  · have d2 : decide (255 < me) = true := decide_eq_true k1
    clear hno k0 k1
    go_enter Tryd.func6, Tryd.ntmps6
    go_wp2_with fail
    exact bodyPost_ret (v := .tuple #[.pointer none, .iface 70 (.int .i64 1)]) (by simp [results, Tryd.results6, go_sem]) rfl ⟨rfl, rfl⟩
  have d2 : decide (255 < me) = false := decide_eq_false k1
  by_cases k2 : ot < 0
  · have d3 : decide (ot < 0) = true := decide_eq_true k2
    clear hno k0 k1 k2
    go_enter Tryd.func6, Tryd.ntmps6
    go_wp2_with fail
    exact bodyPost_ret (v := .tuple #[.pointer none, .iface 70 (.int .i64 1)]) (by simp [results, Tryd.results6, go_sem]) rfl ⟨rfl, rfl⟩
  have d3 : decide (ot < 0) = false := decide_eq_false k2
  by_cases k3 : 255 < ot
  · have d4 : decide (255 < ot) = true := decide_eq_true k3
    clear hno k0 k1 k2 k3
    go_enter Tryd.func6, Tryd.ntmps6
    go_wp2_with fail
    exact bodyPost_ret (v := .tuple #[.pointer none, .iface 70 (.int .i64 1)]) (by simp [results, Tryd.results6, go_sem]) rfl ⟨rfl, rfl⟩
  have d4 : decide (255 < ot) = false := decide_eq_false k3
  by_cases k4 : me = ot
  · have d5 : (me == ot) = true := beq_iff_eq.2 k4
    clear hno k0 k1 k2 k3 k4
    go_enter Tryd.func6, Tryd.ntmps6
    go_wp2_with fail
    exact bodyPost_ret (v := .tuple #[.pointer none, .iface 70 (.int .i64 1)]) (by simp [results, Tryd.results6, go_sem]) rfl ⟨rfl, rfl⟩
  have d5 : (me == ot) = false := beq_eq_false_iff_ne.2 k4
  by_cases k5 : E < 1
  · have d6 : decide (E < 1) = true := decide_eq_true k5
    clear hno k0 k1 k2 k3 k4 k5
    go_enter Tryd.func6, Tryd.ntmps6
    go_wp2_with fail
    refine (snew_no E _ (by simp at d6; omega)).mono ?_
    rintro e w1 ⟨rfl, rfl⟩
    go_wp2_with fail
    exact bodyPost_ret (v := .tuple #[.pointer none, .iface 70 (.int .i64 1)]) (by simp [results, Tryd.results6, go_sem]) rfl ⟨rfl, rfl⟩
  have d6 : decide (E < 1) = false := decide_eq_false k5
  by_cases k6 : 1073741824 < E
  · have d7 : decide (1073741824 < E) = true := decide_eq_true k6
    clear hno k0 k1 k2 k3 k4 k5 k6
    go_enter Tryd.func6, Tryd.ntmps6
    go_wp2_with fail
    refine (snew_no E _ (by simp at d7; omega)).mono ?_
    rintro e w1 ⟨rfl, rfl⟩
    go_wp2_with fail
    exact bodyPost_ret (v := .tuple #[.pointer none, .iface 70 (.int .i64 1)]) (by simp [results, Tryd.results6, go_sem]) rfl ⟨rfl, rfl⟩
  have d7 : decide (1073741824 < E) = false := decide_eq_false k6
  exact absurd ⟨by omega, by omega, by omega, by omega, k4, by omega, by omega⟩ hno
set_option maxRecDepth 100000 in
theorem xnew_no (w : World) (me ot E : Int) (hno : ¬ LMay me ot E) :
    Calls Tryd.prog 14 #[.int .i64 me, .int .i64 ot, .int .i64 E] w fun e w' => e = .returned (.tuple #[.agg (endX z19 none 0 0), .bool false]) ∧ Below w.heap.size w w' := by
  rw [LMay] at hno
  by_cases k0 : me < 0
  · have d1 : decide (me < 0) = true := decide_eq_true k0
    clear hno k0
    go_enter Tryd.func14, Tryd.ntmps14
    go_upto_region 1 with (refine Great.wpList_allocTo rfl (some 6) rfl _ (.cells (endX z19 none 0 0) 46) (run_allocE _ _ _ rfl) ?_)
    have H1 := Lib.hid (Holds.new w 46 (endX z19 none 0 0) w.heap.size rfl)
    have B1 := Lib.hid ((Below.refl w.heap.size w).alloc (Nat.le_refl _) (.cells (endX z19 none 0 0) 46))
    generalize w.alloc (.cells (endX z19 none 0 0) 46) = w1 at *
    go_wp2_with (first
      | (refine wpList_buildTo rfl 46 _ rfl (some 35) rfl (endX z19 none 0 0) (by kernel_rfl) ?_)
      | (refine wpList_store_rowTo rfl 46 (.tmp 6) (.tmp 35) rfl rfl w.heap.size (endX z19 none 0 0) rfl rfl _ (endX z19 none 0 0) H1.out end_size rfl (endX_one _ _ _ _) ?_))
    exact bodyPost_ret (v := .tuple #[.agg (endX z19 none 0 0), .bool false]) (results_cell_2 Tryd.results14 _ _ w.heap.size 46 (endX z19 none 0 0) _ _ _ rfl rfl (H1.out.rowE _) end_under rfl end_size) rfl ⟨rfl, below_setRow B1.out (Nat.le_refl _) _⟩
  have d1 : decide (me < 0) = false := decide_eq_false k0
  by_cases k1 : 255 < me
  · have d2 : decide (255 < me) = true := decide_eq_true k1
    clear hno k0 k1
    go_enter Tryd.func14, Tryd.ntmps14
    go_upto_region 1 with (refine Great.wpList_allocTo rfl (some 6) rfl _ (.cells (endX z19 none 0 0) 46) (run_allocE _ _ _ rfl) ?_)
    have H1 := Lib.hid (Holds.new w 46 (endX z19 none 0 0) w.heap.size rfl)
    have B1 := Lib.hid ((Below.refl w.heap.size w).alloc (Nat.le_refl _) (.cells (endX z19 none 0 0) 46))
    generalize w.alloc (.cells (endX z19 none 0 0) 46) = w1 at *
    go_wp2_with (first
      | (refine wpList_buildTo rfl 46 _ rfl (some 35) rfl (endX z19 none 0 0) (by kernel_rfl) ?_)
      | (refine wpList_store_rowTo rfl 46 (.tmp 6) (.tmp 35) rfl rfl w.heap.size (endX z19 none 0 0) rfl rfl _ (endX z19 none 0 0) H1.out end_size rfl (endX_one _ _ _ _) ?_))
    exact bodyPost_ret (v := .tuple #[.agg (endX z19 none 0 0), .bool false]) (results_cell_2 Tryd.results14 _ _ w.heap.size 46 (endX z19 none 0 0) _ _ _ rfl rfl (H1.out.rowE _) end_under rfl end_size) rfl ⟨rfl, below_setRow B1.out (Nat.le_refl _) _⟩
  have d2 : decide (255 < me) = false := decide_eq_false k1
  by_cases k2 : ot < 0
  · have d3 : decide (ot < 0) = true := decide_eq_true k2
    clear hno k0 k1 k2
    go_enter Tryd.func14, Tryd.ntmps14
    go_upto_region 1 with (refine Great.wpList_allocTo rfl (some 6) rfl _ (.cells (endX z19 none 0 0) 46) (run_allocE _ _ _ rfl) ?_)
    have H1 := Lib.hid (Holds.new w 46 (endX z19 none 0 0) w.heap.size rfl)
    have B1 := Lib.hid ((Below.refl w.heap.size w).alloc (Nat.le_refl _) (.cells (endX z19 none 0 0) 46))
    generalize w.alloc (.cells (endX z19 none 0 0) 46) = w1 at *
    go_wp2_with (first
      | (refine wpList_buildTo rfl 46 _ rfl (some 35) rfl (endX z19 none 0 0) (by kernel_rfl) ?_)
      | (refine wpList_store_rowTo rfl 46 (.tmp 6) (.tmp 35) rfl rfl w.heap.size (endX z19 none 0 0) rfl rfl _ (endX z19 none 0 0) H1.out end_size rfl (endX_one _ _ _ _) ?_))
    exact bodyPost_ret (v := .tuple #[.agg (endX z19 none 0 0), .bool false]) (results_cell_2 Tryd.results14 _ _ w.heap.size 46 (endX z19 none 0 0) _ _ _ rfl rfl (H1.out.rowE _) end_under rfl end_size) rfl ⟨rfl, below_setRow B1.out (Nat.le_refl _) _⟩
  have d3 : decide (ot < 0) = false := decide_eq_false k2
  by_cases k3 : 255 < ot
  · have d4 : decide (255 < ot) = true := decide_eq_true k3
    clear hno k0 k1 k2 k3
    go_enter Tryd.func14, Tryd.ntmps14
    go_upto_region 1 with (refine Great.wpList_allocTo rfl (some 6) rfl _ (.cells (endX z19 none 0 0) 46) (run_allocE _ _ _ rfl) ?_)
    have H1 := Lib.hid (Holds.new w 46 (endX z19 none 0 0) w.heap.size rfl)
    have B1 := Lib.hid ((Below.refl w.heap.size w).alloc (Nat.le_refl _) (.cells (endX z19 none 0 0) 46))
    generalize w.alloc (.cells (endX z19 none 0 0) 46) = w1 at *
    go_wp2_with (first
      | (refine wpList_buildTo rfl 46 _ rfl (some 35) rfl (endX z19 none 0 0) (by kernel_rfl) ?_)
      | (refine wpList_store_rowTo rfl 46 (.tmp 6) (.tmp 35) rfl rfl w.heap.size (endX z19 none 0 0) rfl rfl _ (endX z19 none 0 0) H1.out end_size rfl (endX_one _ _ _ _) ?_))
    exact bodyPost_ret (v := .tuple #[.agg (endX z19 none 0 0), .bool false]) (results_cell_2 Tryd.results14 _ _ w.heap.size 46 (endX z19 none 0 0) _ _ _ rfl rfl (H1.out.rowE _) end_under rfl end_size) rfl ⟨rfl, below_setRow B1.out (Nat.le_refl _) _⟩
  have d4 : decide (255 < ot) = false := decide_eq_false k3
  by_cases k4 : me = ot
  · have d5 : (me == ot) = true := beq_iff_eq.2 k4
    clear hno k0 k1 k2 k3 k4
    go_enter Tryd.func14, Tryd.ntmps14
    go_upto_region 1 with (refine Great.wpList_allocTo rfl (some 6) rfl _ (.cells (endX z19 none 0 0) 46) (run_allocE _ _ _ rfl) ?_)
    have H1 := Lib.hid (Holds.new w 46 (endX z19 none 0 0) w.heap.size rfl)
    have B1 := Lib.hid ((Below.refl w.heap.size w).alloc (Nat.le_refl _) (.cells (endX z19 none 0 0) 46))
    generalize w.alloc (.cells (endX z19 none 0 0) 46) = w1 at *
    go_wp2_with (first
      | (refine wpList_buildTo rfl 46 _ rfl (some 35) rfl (endX z19 none 0 0) (by kernel_rfl) ?_)
      | (refine wpList_store_rowTo rfl 46 (.tmp 6) (.tmp 35) rfl rfl w.heap.size (endX z19 none 0 0) rfl rfl _ (endX z19 none 0 0) H1.out end_size rfl (endX_one _ _ _ _) ?_))
    exact bodyPost_ret (v := .tuple #[.agg (endX z19 none 0 0), .bool false]) (results_cell_2 Tryd.results14 _ _ w.heap.size 46 (endX z19 none 0 0) _ _ _ rfl rfl (H1.out.rowE _) end_under rfl end_size) rfl ⟨rfl, below_setRow B1.out (Nat.le_refl _) _⟩
  have d5 : (me == ot) = false := beq_eq_false_iff_ne.2 k4
  by_cases k5 : E < 1
  · have d6 : decide (E < 1) = true := decide_eq_true k5
    clear hno k0 k1 k2 k3 k4 k5
    go_enter Tryd.func14, Tryd.ntmps14
    go_upto_region 1 with (refine Great.wpList_allocTo rfl (some 6) rfl _ (.cells (endX z19 none 0 0) 46) (run_allocE _ _ _ rfl) ?_)
    have H1 := Lib.hid (Holds.new w 46 (endX z19 none 0 0) w.heap.size rfl)
    have B1 := Lib.hid ((Below.refl w.heap.size w).alloc (Nat.le_refl _) (.cells (endX z19 none 0 0) 46))
    generalize w.alloc (.cells (endX z19 none 0 0) 46) = w1 at *
    go_wp2_with (first
      | (refine wpList_buildTo rfl 46 _ rfl (some 35) rfl (endX z19 none 0 0) (by kernel_rfl) ?_)
      | (refine wpList_store_rowTo rfl 46 (.tmp 6) (.tmp 35) rfl rfl w.heap.size (endX z19 none 0 0) rfl rfl _ (endX z19 none 0 0) H1.out end_size rfl (endX_one _ _ _ _) ?_))
    exact bodyPost_ret (v := .tuple #[.agg (endX z19 none 0 0), .bool false]) (results_cell_2 Tryd.results14 _ _ w.heap.size 46 (endX z19 none 0 0) _ _ _ rfl rfl (H1.out.rowE _) end_under rfl end_size) rfl ⟨rfl, below_setRow B1.out (Nat.le_refl _) _⟩
  have d6 : decide (E < 1) = false := decide_eq_false k5
  by_cases k6 : 1073741824 < E
  · have d7 : decide (1073741824 < E) = true := decide_eq_true k6
    clear hno k0 k1 k2 k3 k4 k5 k6
    go_enter Tryd.func14, Tryd.ntmps14
    go_upto_region 1 with (refine Great.wpList_allocTo rfl (some 6) rfl _ (.cells (endX z19 none 0 0) 46) (run_allocE _ _ _ rfl) ?_)
    have H1 := Lib.hid (Holds.new w 46 (endX z19 none 0 0) w.heap.size rfl)
    have B1 := Lib.hid ((Below.refl w.heap.size w).alloc (Nat.le_refl _) (.cells (endX z19 none 0 0) 46))
    generalize w.alloc (.cells (endX z19 none 0 0) 46) = w1 at *
    go_wp2_with (first
      | (refine wpList_buildTo rfl 46 _ rfl (some 35) rfl (endX z19 none 0 0) (by kernel_rfl) ?_)
      | (refine wpList_store_rowTo rfl 46 (.tmp 6) (.tmp 35) rfl rfl w.heap.size (endX z19 none 0 0) rfl rfl _ (endX z19 none 0 0) H1.out end_size rfl (endX_one _ _ _ _) ?_))
    exact bodyPost_ret (v := .tuple #[.agg (endX z19 none 0 0), .bool false]) (results_cell_2 Tryd.results14 _ _ w.heap.size 46 (endX z19 none 0 0) _ _ _ rfl rfl (H1.out.rowE _) end_under rfl end_size) rfl ⟨rfl, below_setRow B1.out (Nat.le_refl _) _⟩
  have d7 : decide (1073741824 < E) = false := decide_eq_false k6
  exact absurd ⟨by omega, by omega, by omega, by omega, k4, by omega, by omega⟩ hno
set_option maxRecDepth 100000 in
theorem xnew_any (w : World) (me ot E : Int) (h : LMay me ot E) :
    Calls Tryd.prog 14 #[.int .i64 me, .int .i64 ot, .int .i64 E] w fun e w' => e = .returned (.tuple #[.agg (endX (newS me ot E) none 0 0), .bool true]) ∧ Below w.heap.size w w' := by
  obtain ⟨h1, h2, h3, h4, h5, h6, h7⟩ := h
  have d1 : decide (me < 0) = false := decide_eq_false (by omega)
  have d2 : decide (255 < me) = false := decide_eq_false (by omega)
  have d3 : decide (ot < 0) = false := decide_eq_false (by omega)
  have d4 : decide (255 < ot) = false := decide_eq_false (by omega)
  have d5 : (me == ot) = false := beq_eq_false_iff_ne.2 h5
  have d6 : decide (E < 1) = false := decide_eq_false (by omega)
  have d7 : decide (1073741824 < E) = false := decide_eq_false (by omega)
  clear h1 h2 h3 h4 h5 h6 h7
  go_enter Tryd.func14, Tryd.ntmps14
  go_upto_region 1 with (refine Great.wpList_allocTo rfl (some 6) rfl _ (.cells (endX z19 none 0 0) 46) (run_allocE _ _ _ rfl) ?_)
  have H1 := Lib.hid (Holds.new w 46 (endX z19 none 0 0) w.heap.size rfl)
  have B1 := Lib.hid ((Below.refl w.heap.size w).alloc (Nat.le_refl _) (.cells (endX z19 none 0 0) 46))
  generalize w.alloc (.cells (endX z19 none 0 0) 46) = w1 at *
  go_wp2_with (first
    | (refine wpList_buildTo rfl 46 _ rfl (some 40) rfl (endX (newS me ot E) none 0 0) (by kernel_rfl) ?_)
    | (refine wpList_store_rowTo rfl 46 (.tmp 6) (.tmp 40) rfl rfl w.heap.size (endX (newS me ot E) none 0 0) rfl rfl _ (endX z19 none 0 0) H1.out end_size rfl (endX_one _ _ _ _) ?_))
  exact bodyPost_ret (v := .tuple #[.agg (endX (newS me ot E) none 0 0), .bool true]) (results_cell_2 Tryd.results14 _ _ w.heap.size 46 (endX (newS me ot E) none 0 0) _ _ _ rfl rfl (H1.out.rowE _) end_under rfl end_size) rfl ⟨rfl, below_setRow B1.out (Nat.le_refl _) _⟩
end Go.Proofs.YtodimanghmepoaaDoor
