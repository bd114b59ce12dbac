/- Layer 19: the document's end: Hear. Printed by ltc.py. -/
import Derived.Test.YtodimanghmepoaaDoorLtB
import Derived.Test.YtodimanghmepoaaDoorRegionE
import Derived.Test.YtodimanghmepoaaDoorLrB
namespace Go.Proofs.YtodimanghmepoaaDoor
open Go.RowKit
/-- what the document's Hear hands back -/
def XHearE (w : World) (s' : LSt) (Ar : Option Addr) (m cr : Nat) (bd : List Nat) (is : Bool) (x : Int) (e : Ending) (w' : World) : Prop :=
  ∃ A c, e = .returned (.tuple #[.agg (endX s' Ar m cr), .slice A bd.length c, .bool is, .int .i64 x]) ∧ At w' A (nats .u8 bd) ∧ Below w.heap.size w w'
theorem exec_load_row {P : Program} {ρ : Operand → Value} {o : Oper} {w : World} (ty : TypeId) (x : Operand) (ho : o.op = .load ty x)
    (g : Nat) (hx : ρ x = .pointer (some ⟨g, 0, none⟩)) (t : TypeId) (cs : Array Value) (fr : Nat × Nat) (d : TypeDesc) (hg : w.heap[g]? = some (.cells cs t fr))
    (hu : P.underlying ty = some d) (hd : (match d with | .struct _ | .array _ _ => true | _ => false) = true) (hi : (P.info? ty).map (·.size) = some cs.size) : (execOp ρ o).run P w = .ok (.value (.agg cs)) w := by
  unfold execOp
  simp only [ho, hx, Instr.loadAt, Instr.sureAddr, Sem.run_bind, Sem.run_pure, Result.andThen_ok, run_loadVar_row w g t ty cs fr d hg hu hd hi]
theorem exec_store_rowE {P : Program} {ρ : Operand → Value} {o : Oper} {w : World} (ty : TypeId) (x y : Operand) (ho : o.op = .store ty x y)
    (g : Nat) (cells : Array Value) (hx : ρ x = .pointer (some ⟨g, 0, none⟩)) (hy : ρ y = .agg cells)
    (t : TypeId) (old : Array Value) (hg : w.heap[g]? = some (.cells old t (0, 0))) (hi : (P.info? ty).map (·.size) = some cells.size)
    (hold : old.size = cells.size) (h1 : cells.all (·.oneCell') = true) : (execOp ρ o).run P w = .ok .skip (w.setRow g cells) := by
  unfold execOp
  simp only [ho, hx, hy, Instr.storeAt, Instr.sureAddr, Sem.run_bind, Sem.run_pure, Result.andThen_ok, run_storeVar_row w g t ty old cells hg hi hold h1]
section
variable {me ot E S st lf RE RL ep0 sq0 : Int} {gv : Bool} {l : List (List Nat)} {Ar : Option Addr} {m cr : Nat}
set_option maxRecDepth 100000 in
set_option maxHeartbeats 4000000 in
theorem xhear_err (w : World) (A : Option Addr) (n c : Nat) (b : List Nat) (hl : b.length = n) (hnc : n ≤ c) (hc2 : c ≤ 9223372036854775807) (hat : At w A (nats .u8 b)) (hb : ∀ y ∈ b, y < 256) (hn9 : n ≤ 900 ∨ 8300 < n)
    (hno : ∀ a b' c d e f, ¬ Good b a b' c d e f) :
    Calls Tryd.prog 18 #[.agg (endX ⟨me, ot, E, S, l, st, lf, RE, RL, gv, ep0, sq0⟩ Ar m cr), .slice A n c] w (XHearE w ⟨me, ot, E, S, l, st, lf, RE, RL, gv, ep0, sq0⟩ Ar m cr [] false (errN b)) := by
  have CD := Lib.hid (fun (W : World) (hW : Below w.heap.size w W) => deck_any A n c b W hl hnc hc2 (hat.later hW (Nat.le_refl _)) hb hn9)
  clear hat hb hl hnc hc2 hn9
  have HX := Lib.hid (errN_ne b)
  have hdr := fun (fr dt : Nat) (k : Bool) (ep sq : Nat) (bd : List Nat) (x : Int) (h : Dres b fr dt k ep sq bd x) => Dres.uniq (Dres.no hno) h
  obtain ⟨x0, hx0⟩ : ∃ x, errN b = x := ⟨_, rfl⟩
  rw [hx0] at hdr HX ⊢
  clear hno hx0
  go_enter Tryd.func18, Tryd.ntmps18
  go_upto_region 1 with (first
    | (refine Great.wpList_boxTo rfl 46 (.tmp 0) rfl (some 2) rfl _ rfl (endX ⟨me, ot, E, S, l, st, lf, RE, RL, gv, ep0, sq0⟩ Ar m cr) rfl ?_)
    | (refine Great.wpList_allocTo rfl (some 4) rfl _ (.cells (endX z19 none 0 0) 46) (run_allocE _ _ _ rfl) ?_))
  have H1 := Lib.hid ((Holds.new w 46 (endX ⟨me, ot, E, S, l, st, lf, RE, RL, gv, ep0, sq0⟩ Ar m cr) w.heap.size rfl).alloc (.cells (endX z19 none 0 0) 46))
  have H2 := Lib.hid (Holds.new (w.alloc (.cells (endX ⟨me, ot, E, S, l, st, lf, RE, RL, gv, ep0, sq0⟩ Ar m cr) 46)) 46 (endX z19 none 0 0) (w.heap.size + 1) (by simp))
  have HB := Lib.hid (((Below.refl w.heap.size w).alloc (Nat.le_refl _) (.cells (endX ⟨me, ot, E, S, l, st, lf, RE, RL, gv, ep0, sq0⟩ Ar m cr) 46)).alloc (by simp) (.cells (endX z19 none 0 0) 46))
  generalize (w.alloc (.cells (endX ⟨me, ot, E, S, l, st, lf, RE, RL, gv, ep0, sq0⟩ Ar m cr) 46)).alloc (.cells (endX z19 none 0 0) 46) = w2 at *
  obtain ⟨g1, hg1⟩ : ∃ g, w.heap.size = g := ⟨_, rfl⟩
  have HG := Lib.hid hg1
  obtain ⟨g2, hg2⟩ : ∃ g, w.heap.size + 1 = g := ⟨_, rfl⟩
  have HG2 := Lib.hid hg2
  rw [hg2] at H2 ⊢
  rw [hg1] at H1 ⊢
  clear hg1 hg2
  go_wp2_with fail
  with_reducible refine (CD.out w2 HB.out).mono ?_
  rintro e w3 ⟨fr', dt', k', ep', sq', bd', x, A1, c1, rfl, hat1, b3, hres⟩
  obtain ⟨rfl, rfl, rfl, rfl, rfl, rfl, rfl⟩ := hdr _ _ _ _ _ _ _ hres
  clear hdr
  simp only [pkF]
  have HT := Lib.hid hat1
  replace H1 := Lib.hid (H1.out.later b3 (Nat.le_refl _))
  replace H2 := Lib.hid (H2.out.later b3 (Nat.le_refl _))
  replace HB := Lib.hid (HB.out.trans (b3.mono HB.out.size))
  clear b3 hat1 hres CD
  have dx : (x0 == 0) = false := beq_eq_false_iff_ne.2 HX.out
  go_upto_region 3 with fail
  have hs := HB.out.size
  have b4 := (Below.refl w3.heap.size w3).alloc (Nat.le_refl _) (.cells #[.int .i64 0, .int .i64 0, .bool false, .int .i64 0, .int .i64 0, .slice A1 0 c1] 50)
  replace H1 := Lib.hid (H1.out.later b4 (Nat.le_refl _))
  replace H2 := Lib.hid (H2.out.later b4 (Nat.le_refl _))
  replace HB := Lib.hid (HB.out.trans (b4.mono HB.out.size))
  clear b4 hs
  go_wp2_with (first
    | (refine wpList_load_row rfl 46 (.tmp 2) rfl g1 rfl _ (endX ⟨me, ot, E, S, l, st, lf, RE, RL, gv, ep0, sq0⟩ Ar m cr) _ _ H1.out end_under rfl end_size ?_)
    | (refine wpList_store_rowTo rfl 46 (.tmp 4) (.tmp 20) rfl rfl g2 (endX ⟨me, ot, E, S, l, st, lf, RE, RL, gv, ep0, sq0⟩ Ar m cr) rfl rfl _ (endX z19 none 0 0) H2.out end_size rfl (endX_one _ _ _ _) ?_))
  replace HB := Lib.hid (below_setRow HB.out (g := g2) (by have := HG2.out; omega) (endX ⟨me, ot, E, S, l, st, lf, RE, RL, gv, ep0, sq0⟩ Ar m cr))
  replace H2 := Lib.hid (H2.out.rowE (endX ⟨me, ot, E, S, l, st, lf, RE, RL, gv, ep0, sq0⟩ Ar m cr))
  generalize World.setRow _ g2 (endX ⟨me, ot, E, S, l, st, lf, RE, RL, gv, ep0, sq0⟩ Ar m cr) = wz at *
  exact bodyPost_ret (v := .tuple #[.agg (endX ⟨me, ot, E, S, l, st, lf, RE, RL, gv, ep0, sq0⟩ Ar m cr), .slice none 0 0, .bool false, .int .i64 x0]) (results_cell_4 Tryd.results18 _ _ g2 46 (endX ⟨me, ot, E, S, l, st, lf, RE, RL, gv, ep0, sq0⟩ Ar m cr) _ _ _ _ _ rfl rfl rfl rfl H2.out end_under rfl end_size) rfl ⟨none, 0, rfl, At.nil _ _, HB.out⟩
set_option maxRecDepth 100000 in
set_option maxHeartbeats 4000000 in
theorem xhear_wrong (w : World) (A : Option Addr) (n c : Nat) (b : List Nat) (hl : b.length = n) (hnc : n ≤ c) (hc2 : c ≤ 9223372036854775807) (hat : At w A (nats .u8 b)) (hb : ∀ y ∈ b, y < 256) (hn9 : n ≤ 900 ∨ 8300 < n)
    {fr dt : Nat} {k : Bool} {ep sq : Nat} {bd : List Nat} (hg : Good b fr dt k ep sq bd) (hw : (fr : Int) ≠ ot ∨ (dt : Int) ≠ me) :
    Calls Tryd.prog 18 #[.agg (endX ⟨me, ot, E, S, l, st, lf, RE, RL, gv, ep0, sq0⟩ Ar m cr), .slice A n c] w (XHearE w ⟨me, ot, E, S, l, st, lf, RE, RL, gv, ep0, sq0⟩ Ar m cr [] false 1) := by
  have CD := Lib.hid (fun (W : World) (hW : Below w.heap.size w W) => deck_any A n c b W hl hnc hc2 (hat.later hW (Nat.le_refl _)) hb hn9)
  clear hat hb hl hnc hc2 hn9
  go_enter Tryd.func18, Tryd.ntmps18
  go_upto_region 1 with (first
    | (refine Great.wpList_boxTo rfl 46 (.tmp 0) rfl (some 2) rfl _ rfl (endX ⟨me, ot, E, S, l, st, lf, RE, RL, gv, ep0, sq0⟩ Ar m cr) rfl ?_)
    | (refine Great.wpList_allocTo rfl (some 4) rfl _ (.cells (endX z19 none 0 0) 46) (run_allocE _ _ _ rfl) ?_))
  have H1 := Lib.hid ((Holds.new w 46 (endX ⟨me, ot, E, S, l, st, lf, RE, RL, gv, ep0, sq0⟩ Ar m cr) w.heap.size rfl).alloc (.cells (endX z19 none 0 0) 46))
  have H2 := Lib.hid (Holds.new (w.alloc (.cells (endX ⟨me, ot, E, S, l, st, lf, RE, RL, gv, ep0, sq0⟩ Ar m cr) 46)) 46 (endX z19 none 0 0) (w.heap.size + 1) (by simp))
  have HB := Lib.hid (((Below.refl w.heap.size w).alloc (Nat.le_refl _) (.cells (endX ⟨me, ot, E, S, l, st, lf, RE, RL, gv, ep0, sq0⟩ Ar m cr) 46)).alloc (by simp) (.cells (endX z19 none 0 0) 46))
  generalize (w.alloc (.cells (endX ⟨me, ot, E, S, l, st, lf, RE, RL, gv, ep0, sq0⟩ Ar m cr) 46)).alloc (.cells (endX z19 none 0 0) 46) = w2 at *
  obtain ⟨g1, hg1⟩ : ∃ g, w.heap.size = g := ⟨_, rfl⟩
  have HG := Lib.hid hg1
  obtain ⟨g2, hg2⟩ : ∃ g, w.heap.size + 1 = g := ⟨_, rfl⟩
  have HG2 := Lib.hid hg2
  rw [hg2] at H2 ⊢
  rw [hg1] at H1 ⊢
  clear hg1 hg2
  go_wp2_with fail
  with_reducible refine (CD.out w2 HB.out).mono ?_
  rintro e w3 ⟨fr', dt', k', ep', sq', bd', x, A1, c1, rfl, hat1, b3, hres⟩
  obtain ⟨rfl, rfl, rfl, rfl, rfl, rfl, rfl⟩ := hres.uniq (.inl ⟨rfl, hg⟩)
  have HGD := Lib.hid hg
  clear hg
  simp only [pkF]
  have HT := Lib.hid hat1
  replace H1 := Lib.hid (H1.out.later b3 (Nat.le_refl _))
  replace H2 := Lib.hid (H2.out.later b3 (Nat.le_refl _))
  replace HB := Lib.hid (HB.out.trans (b3.mono HB.out.size))
  clear b3 hat1 hres CD
  go_upto_region 2 with fail
  have H3 := Lib.hid (Holds.new w3 50 #[.int .i64 (fr' : Int), .int .i64 (dt' : Int), .bool k', .int .i64 (ep' : Int), .int .i64 (sq' : Int), .slice A1 bd'.length c1] w3.heap.size rfl)
  have b4 := (Below.refl w3.heap.size w3).alloc (Nat.le_refl _) (.cells #[.int .i64 (fr' : Int), .int .i64 (dt' : Int), .bool k', .int .i64 (ep' : Int), .int .i64 (sq' : Int), .slice A1 bd'.length c1] 50)
  have hne := HB.out.size
  have hl1 := H1.out.lt
  have hl2 := H2.out.lt
  replace H1 := Lib.hid (H1.out.later b4 (Nat.le_refl _))
  replace H2 := Lib.hid (H2.out.later b4 (Nat.le_refl _))
  replace HB := Lib.hid (HB.out.trans (b4.mono HB.out.size))
  have HT4 := Lib.hid (HT.out.later b4 (Nat.le_refl _))
  generalize w3.alloc (.cells #[.int .i64 (fr' : Int), .int .i64 (dt' : Int), .bool k', .int .i64 (ep' : Int), .int .i64 (sq' : Int), .slice A1 bd'.length c1] 50) = w4 at *
  obtain ⟨g3, hg3⟩ : ∃ g, w3.heap.size = g := ⟨_, rfl⟩
  rw [hg3] at H3 hl1 hl2 ⊢
  have HG3 := Lib.hid (show g1 < g3 ∧ g2 < g3 from ⟨hl1, hl2⟩)
  clear b4 hg3 hne hl1 hl2 HT
  have q0 : w4.cell? ⟨g1, 0, none⟩ = some (.int .i64 me) := H1.out.cell 0
  have q1 : w4.cell? ⟨g1, 1, none⟩ = some (.int .i64 ot) := H1.out.cell 1
  have r0 : w4.cell? ⟨g3, 0, none⟩ = some (.int .i64 (fr' : Int)) := H3.out.cell 0
  have r1 : w4.cell? ⟨g3, 1, none⟩ = some (.int .i64 (dt' : Int)) := H3.out.cell 1
  by_cases h1 : (fr' : Int) = ot
  · have d1 : decide ((fr' : Int) = ot) = true := decide_eq_true h1
    have d2 : decide ((dt' : Int) = me) = false := decide_eq_false (by rcases hw with h | h; exact absurd h1 h; exact h)
    go_upto_region 5 with fail
    go_wp2_with (first
      | (refine wpList_load_row rfl 46 (.tmp 2) rfl g1 rfl _ (endX ⟨me, ot, E, S, l, st, lf, RE, RL, gv, ep0, sq0⟩ Ar m cr) _ _ H1.out end_under rfl end_size ?_)
      | (refine wpList_store_rowTo rfl 46 (.tmp 4) (.tmp 34) rfl rfl g2 (endX ⟨me, ot, E, S, l, st, lf, RE, RL, gv, ep0, sq0⟩ Ar m cr) rfl rfl _ (endX z19 none 0 0) H2.out end_size rfl (endX_one _ _ _ _) ?_))
    replace HB := Lib.hid (below_setRow HB.out (g := g2) (by have := HG2.out; omega) (endX ⟨me, ot, E, S, l, st, lf, RE, RL, gv, ep0, sq0⟩ Ar m cr))
    replace H2 := Lib.hid (H2.out.rowE (endX ⟨me, ot, E, S, l, st, lf, RE, RL, gv, ep0, sq0⟩ Ar m cr))
    generalize World.setRow _ g2 (endX ⟨me, ot, E, S, l, st, lf, RE, RL, gv, ep0, sq0⟩ Ar m cr) = wz at *
    exact bodyPost_ret (v := .tuple #[.agg (endX ⟨me, ot, E, S, l, st, lf, RE, RL, gv, ep0, sq0⟩ Ar m cr), .slice none 0 0, .bool false, .int .i64 1]) (results_cell_4 Tryd.results18 _ _ g2 46 (endX ⟨me, ot, E, S, l, st, lf, RE, RL, gv, ep0, sq0⟩ Ar m cr) _ _ _ _ _ rfl rfl rfl rfl H2.out end_under rfl end_size) rfl ⟨none, 0, rfl, At.nil _ _, HB.out⟩
  · have d1 : decide ((fr' : Int) = ot) = false := decide_eq_false h1
    go_upto_region 5 with fail
    go_wp2_with (first
      | (refine wpList_load_row rfl 46 (.tmp 2) rfl g1 rfl _ (endX ⟨me, ot, E, S, l, st, lf, RE, RL, gv, ep0, sq0⟩ Ar m cr) _ _ H1.out end_under rfl end_size ?_)
      | (refine wpList_store_rowTo rfl 46 (.tmp 4) (.tmp 34) rfl rfl g2 (endX ⟨me, ot, E, S, l, st, lf, RE, RL, gv, ep0, sq0⟩ Ar m cr) rfl rfl _ (endX z19 none 0 0) H2.out end_size rfl (endX_one _ _ _ _) ?_))
    replace HB := Lib.hid (below_setRow HB.out (g := g2) (by have := HG2.out; omega) (endX ⟨me, ot, E, S, l, st, lf, RE, RL, gv, ep0, sq0⟩ Ar m cr))
    replace H2 := Lib.hid (H2.out.rowE (endX ⟨me, ot, E, S, l, st, lf, RE, RL, gv, ep0, sq0⟩ Ar m cr))
    generalize World.setRow _ g2 (endX ⟨me, ot, E, S, l, st, lf, RE, RL, gv, ep0, sq0⟩ Ar m cr) = wz at *
    exact bodyPost_ret (v := .tuple #[.agg (endX ⟨me, ot, E, S, l, st, lf, RE, RL, gv, ep0, sq0⟩ Ar m cr), .slice none 0 0, .bool false, .int .i64 1]) (results_cell_4 Tryd.results18 _ _ g2 46 (endX ⟨me, ot, E, S, l, st, lf, RE, RL, gv, ep0, sq0⟩ Ar m cr) _ _ _ _ _ rfl rfl rfl rfl H2.out end_under rfl end_size) rfl ⟨none, 0, rfl, At.nil _ _, HB.out⟩
set_option maxRecDepth 100000 in
set_option maxHeartbeats 4000000 in
theorem xhear_word_no (w : World) (A : Option Addr) (n c : Nat) (b : List Nat) (hl : b.length = n) (hnc : n ≤ c) (hc2 : c ≤ 9223372036854775807) (hat : At w A (nats .u8 b)) (hb : ∀ y ∈ b, y < 256) (hn9 : n ≤ 900 ∨ 8300 < n)
    {fr dt : Nat} {ep sq : Nat} {bd : List Nat} (hg : Good b fr dt true ep sq bd) (hf : (fr : Int) = ot) (ht : (dt : Int) = me) (h0 : (ep : Int) ≠ E ∨ (sq : Int) ≠ S ∨ m = 0) :
    Calls Tryd.prog 18 #[.agg (endX ⟨me, ot, E, S, l, st, lf, RE, RL, gv, ep0, sq0⟩ Ar m cr), .slice A n c] w (XHearE w ⟨me, ot, E, S, l, st, lf, RE, RL, gv, ep0, sq0⟩ Ar m cr [] false 0) := by
  have CD := Lib.hid (fun (W : World) (hW : Below w.heap.size w W) => deck_any A n c b W hl hnc hc2 (hat.later hW (Nat.le_refl _)) hb hn9)
  clear hat hb hl hnc hc2 hn9
  have HF := Lib.hid hf
  have HTT := Lib.hid ht
  clear hf ht
  have H00 := Lib.hid h0
  clear h0
  go_enter Tryd.func18, Tryd.ntmps18
  go_upto_region 1 with (first
    | (refine Great.wpList_boxTo rfl 46 (.tmp 0) rfl (some 2) rfl _ rfl (endX ⟨me, ot, E, S, l, st, lf, RE, RL, gv, ep0, sq0⟩ Ar m cr) rfl ?_)
    | (refine Great.wpList_allocTo rfl (some 4) rfl _ (.cells (endX z19 none 0 0) 46) (run_allocE _ _ _ rfl) ?_))
  have H1 := Lib.hid ((Holds.new w 46 (endX ⟨me, ot, E, S, l, st, lf, RE, RL, gv, ep0, sq0⟩ Ar m cr) w.heap.size rfl).alloc (.cells (endX z19 none 0 0) 46))
  have H2 := Lib.hid (Holds.new (w.alloc (.cells (endX ⟨me, ot, E, S, l, st, lf, RE, RL, gv, ep0, sq0⟩ Ar m cr) 46)) 46 (endX z19 none 0 0) (w.heap.size + 1) (by simp))
  have HB := Lib.hid (((Below.refl w.heap.size w).alloc (Nat.le_refl _) (.cells (endX ⟨me, ot, E, S, l, st, lf, RE, RL, gv, ep0, sq0⟩ Ar m cr) 46)).alloc (by simp) (.cells (endX z19 none 0 0) 46))
  generalize (w.alloc (.cells (endX ⟨me, ot, E, S, l, st, lf, RE, RL, gv, ep0, sq0⟩ Ar m cr) 46)).alloc (.cells (endX z19 none 0 0) 46) = w2 at *
  obtain ⟨g1, hg1⟩ : ∃ g, w.heap.size = g := ⟨_, rfl⟩
  have HG := Lib.hid hg1
  obtain ⟨g2, hg2⟩ : ∃ g, w.heap.size + 1 = g := ⟨_, rfl⟩
  have HG2 := Lib.hid hg2
  rw [hg2] at H2 ⊢
  rw [hg1] at H1 ⊢
  clear hg1 hg2
  go_wp2_with fail
  with_reducible refine (CD.out w2 HB.out).mono ?_
  rintro e w3 ⟨fr', dt', k', ep', sq', bd', x, A1, c1, rfl, hat1, b3, hres⟩
  obtain ⟨rfl, rfl, rfl, rfl, rfl, rfl, rfl⟩ := hres.uniq (.inl ⟨rfl, hg⟩)
  have HGD := Lib.hid hg
  clear hg
  simp only [pkF]
  have HT := Lib.hid hat1
  replace H1 := Lib.hid (H1.out.later b3 (Nat.le_refl _))
  replace H2 := Lib.hid (H2.out.later b3 (Nat.le_refl _))
  replace HB := Lib.hid (HB.out.trans (b3.mono HB.out.size))
  clear b3 hat1 hres CD
  go_upto_region 2 with fail
  have H3 := Lib.hid (Holds.new w3 50 #[.int .i64 (fr' : Int), .int .i64 (dt' : Int), .bool true, .int .i64 (ep' : Int), .int .i64 (sq' : Int), .slice A1 bd'.length c1] w3.heap.size rfl)
  have b4 := (Below.refl w3.heap.size w3).alloc (Nat.le_refl _) (.cells #[.int .i64 (fr' : Int), .int .i64 (dt' : Int), .bool true, .int .i64 (ep' : Int), .int .i64 (sq' : Int), .slice A1 bd'.length c1] 50)
  have hne := HB.out.size
  have hl1 := H1.out.lt
  have hl2 := H2.out.lt
  replace H1 := Lib.hid (H1.out.later b4 (Nat.le_refl _))
  replace H2 := Lib.hid (H2.out.later b4 (Nat.le_refl _))
  replace HB := Lib.hid (HB.out.trans (b4.mono HB.out.size))
  have HT4 := Lib.hid (HT.out.later b4 (Nat.le_refl _))
  generalize w3.alloc (.cells #[.int .i64 (fr' : Int), .int .i64 (dt' : Int), .bool true, .int .i64 (ep' : Int), .int .i64 (sq' : Int), .slice A1 bd'.length c1] 50) = w4 at *
  obtain ⟨g3, hg3⟩ : ∃ g, w3.heap.size = g := ⟨_, rfl⟩
  rw [hg3] at H3 hl1 hl2 ⊢
  have HG3 := Lib.hid (show g1 < g3 ∧ g2 < g3 from ⟨hl1, hl2⟩)
  clear b4 hg3 hne hl1 hl2 HT
  have q0 : w4.cell? ⟨g1, 0, none⟩ = some (.int .i64 me) := H1.out.cell 0
  have q1 : w4.cell? ⟨g1, 1, none⟩ = some (.int .i64 ot) := H1.out.cell 1
  have r0 : w4.cell? ⟨g3, 0, none⟩ = some (.int .i64 (fr' : Int)) := H3.out.cell 0
  have r1 : w4.cell? ⟨g3, 1, none⟩ = some (.int .i64 (dt' : Int)) := H3.out.cell 1
  have d1 : ((fr' : Int) == ot) = true := beq_iff_eq.2 HF.out
  have d2 : ((dt' : Int) == me) = true := beq_iff_eq.2 HTT.out
  have r2 : w4.cell? ⟨g3, 2, none⟩ = some (.bool true) := H3.out.cell 2
  have r3 : w4.cell? ⟨g3, 3, none⟩ = some (.int .i64 (ep' : Int)) := H3.out.cell 3
  have r4 : w4.cell? ⟨g3, 4, none⟩ = some (.int .i64 (sq' : Int)) := H3.out.cell 4
  have q2 : w4.cell? ⟨g1, 2, none⟩ = some (.int .i64 E) := H1.out.cell 2
  have z2 := H1.out.frozen 2
  have q3 : w4.cell? ⟨g1, 3, none⟩ = some (.int .i64 S) := H1.out.cell 3
  have z3 := H1.out.frozen 3
  have q4 : w4.cell? ⟨g1, 4, none⟩ = some (.slice Ar m cr) := H1.out.cell 4
  have z4 := H1.out.frozen 4
  have q5 : w4.cell? ⟨g1, 5, none⟩ = some (.int .i64 st) := H1.out.cell 5
  have z5 := H1.out.frozen 5
  have q6 : w4.cell? ⟨g1, 6, none⟩ = some (.int .i64 lf) := H1.out.cell 6
  have z6 := H1.out.frozen 6
  have CH := Lib.hid (rheard_no (w := w4) (A := Ar) (n := m) (c := cr) (E := E) (S := S) (st := st) (lf := lf) (ep' : Int) (sq' : Int) H00.out)
  go_wp2_with fail
  with_reducible refine CH.out.mono ?_
  rintro e w5 ⟨rfl, b5⟩
  clear CH
  clear q0 q1 r0 r1 r2 r3 r4 q2 z2 q3 z3 q4 z4 q5 z5 q6 z6
  replace H1 := Lib.hid (H1.out.later b5 (Nat.le_refl _))
  replace H2 := Lib.hid (H2.out.later b5 (Nat.le_refl _))
  replace HB := Lib.hid (HB.out.trans (b5.mono HB.out.size))
  clear b5
  have q2 : w5.cell? ⟨g1, 2, none⟩ = some (.int .i64 E) := H1.out.cell 2
  have z2 := H1.out.frozen 2
  have q3 : w5.cell? ⟨g1, 3, none⟩ = some (.int .i64 S) := H1.out.cell 3
  have z3 := H1.out.frozen 3
  have q4 : w5.cell? ⟨g1, 4, none⟩ = some (.slice Ar m cr) := H1.out.cell 4
  have z4 := H1.out.frozen 4
  have q5 : w5.cell? ⟨g1, 5, none⟩ = some (.int .i64 st) := H1.out.cell 5
  have z5 := H1.out.frozen 5
  have q6 : w5.cell? ⟨g1, 6, none⟩ = some (.int .i64 lf) := H1.out.cell 6
  have z6 := H1.out.frozen 6
  go_upto_region 8 with fail
  have hgs := (grown_set (grown_set (grown_set (grown_set (grown_set (grown_refl w5 (some g1)) 2 (.int .i64 E)) 3 (.int .i64 S)) 4 (.slice Ar m cr)) 5 (.int .i64 st)) 6 (.int .i64 lf))
  replace H2 := Lib.hid (H2.out.grown hgs (fun e => by injection e with e; have := HG.out; have := HG2.out; omega))
  replace HB := Lib.hid (HB.out.grown hgs HB.out.size (fun k hk => by injection hk with hk; have := HG.out; omega))
  replace H1 := Lib.hid (show Holds (((((w5.setCell ⟨g1, 2, none⟩ (.int .i64 E)).setCell ⟨g1, 3, none⟩ (.int .i64 S)).setCell ⟨g1, 4, none⟩ (.slice Ar m cr)).setCell ⟨g1, 5, none⟩ (.int .i64 st)).setCell ⟨g1, 6, none⟩ (.int .i64 lf)) g1 46 (endX ⟨me, ot, E, S, l, st, lf, RE, RL, gv, ep0, sq0⟩ Ar m cr) from (((((H1.out.set 2 (.int .i64 E)).set 3 (.int .i64 S)).set 4 (.slice Ar m cr)).set 5 (.int .i64 st)).set 6 (.int .i64 lf)))
  clear hgs z2 q2 z3 q3 z4 q4 z5 q5 z6 q6
  generalize (((((w5.setCell ⟨g1, 2, none⟩ (.int .i64 E)).setCell ⟨g1, 3, none⟩ (.int .i64 S)).setCell ⟨g1, 4, none⟩ (.slice Ar m cr)).setCell ⟨g1, 5, none⟩ (.int .i64 st)).setCell ⟨g1, 6, none⟩ (.int .i64 lf)) = w6 at *
  go_wp2_with (first
    | (refine wpList_load_row rfl 46 (.tmp 2) rfl g1 rfl _ (endX ⟨me, ot, E, S, l, st, lf, RE, RL, gv, ep0, sq0⟩ Ar m cr) _ _ H1.out end_under rfl end_size ?_)
    | (refine wpList_store_rowTo rfl 46 (.tmp 4) (.tmp 48) rfl rfl g2 (endX ⟨me, ot, E, S, l, st, lf, RE, RL, gv, ep0, sq0⟩ Ar m cr) rfl rfl _ (endX z19 none 0 0) H2.out end_size rfl (endX_one _ _ _ _) ?_))
  replace HB := Lib.hid (below_setRow HB.out (g := g2) (by have := HG2.out; omega) (endX ⟨me, ot, E, S, l, st, lf, RE, RL, gv, ep0, sq0⟩ Ar m cr))
  replace H2 := Lib.hid (H2.out.rowE (endX ⟨me, ot, E, S, l, st, lf, RE, RL, gv, ep0, sq0⟩ Ar m cr))
  generalize World.setRow _ g2 (endX ⟨me, ot, E, S, l, st, lf, RE, RL, gv, ep0, sq0⟩ Ar m cr) = wz at *
  exact bodyPost_ret (v := .tuple #[.agg (endX ⟨me, ot, E, S, l, st, lf, RE, RL, gv, ep0, sq0⟩ Ar m cr), .slice none 0 0, .bool false, .int .i64 0]) (results_cell_4 Tryd.results18 _ _ g2 46 (endX ⟨me, ot, E, S, l, st, lf, RE, RL, gv, ep0, sq0⟩ Ar m cr) _ _ _ _ _ rfl rfl rfl rfl H2.out end_under rfl end_size) rfl ⟨none, 0, rfl, At.nil _ _, HB.out⟩
set_option maxRecDepth 100000 in
set_option maxHeartbeats 4000000 in
theorem xhear_word_yes (w : World) (A : Option Addr) (n c : Nat) (b : List Nat) (hl : b.length = n) (hnc : n ≤ c) (hc2 : c ≤ 9223372036854775807) (hat : At w A (nats .u8 b)) (hb : ∀ y ∈ b, y < 256) (hn9 : n ≤ 900 ∨ 8300 < n)
    {fr dt : Nat} {ep sq : Nat} {bd : List Nat} (hg : Good b fr dt true ep sq bd) (hf : (fr : Int) = ot) (ht : (dt : Int) = me) (he : (ep : Int) = E) (hq : (sq : Int) = S) {us : List Value} {v : Value} {m' : Nat} (hm : m = m' + 1) (hcr : m' + 1 ≤ cr) (hu : (v :: us).length = m' + 1) (hau : At w Ar (v :: us)) (hS : 0 ≤ S ∧ S ≤ 1073741824) :
    Calls Tryd.prog 18 #[.agg (endX ⟨me, ot, E, S, l, st, lf, RE, RL, gv, ep0, sq0⟩ Ar m cr), .slice A n c] w (fun e w' => ∃ A' c', XHearE w ⟨me, ot, E, S + 1, l, 0, 0, RE, RL, gv, ep0, sq0⟩ A' m' c' [] false 0 e w' ∧ m' ≤ c' ∧ At w' A' us ∧ blk A' = blk Ar) := by
  have CD := Lib.hid (fun (W : World) (hW : Below w.heap.size w W) => deck_any A n c b W hl hnc hc2 (hat.later hW (Nat.le_refl _)) hb hn9)
  clear hat hb hl hnc hc2 hn9
  have HF := Lib.hid hf
  have HTT := Lib.hid ht
  clear hf ht
  subst hm
  have HEE := Lib.hid he
  have HQQ := Lib.hid hq
  have HAU := Lib.hid hau
  have HUU := Lib.hid hu
  have HCR := Lib.hid hcr
  have HSS := Lib.hid hS
  have hAlt := hau.lt (by simp)
  clear he hq hau hu hcr hS
  go_enter Tryd.func18, Tryd.ntmps18
  go_upto_region 1 with (first
    | (refine Great.wpList_boxTo rfl 46 (.tmp 0) rfl (some 2) rfl _ rfl (endX ⟨me, ot, E, S, l, st, lf, RE, RL, gv, ep0, sq0⟩ Ar (m' + 1) cr) rfl ?_)
    | (refine Great.wpList_allocTo rfl (some 4) rfl _ (.cells (endX z19 none 0 0) 46) (run_allocE _ _ _ rfl) ?_))
  have H1 := Lib.hid ((Holds.new w 46 (endX ⟨me, ot, E, S, l, st, lf, RE, RL, gv, ep0, sq0⟩ Ar (m' + 1) cr) w.heap.size rfl).alloc (.cells (endX z19 none 0 0) 46))
  have H2 := Lib.hid (Holds.new (w.alloc (.cells (endX ⟨me, ot, E, S, l, st, lf, RE, RL, gv, ep0, sq0⟩ Ar (m' + 1) cr) 46)) 46 (endX z19 none 0 0) (w.heap.size + 1) (by simp))
  have HB := Lib.hid (((Below.refl w.heap.size w).alloc (Nat.le_refl _) (.cells (endX ⟨me, ot, E, S, l, st, lf, RE, RL, gv, ep0, sq0⟩ Ar (m' + 1) cr) 46)).alloc (by simp) (.cells (endX z19 none 0 0) 46))
  generalize (w.alloc (.cells (endX ⟨me, ot, E, S, l, st, lf, RE, RL, gv, ep0, sq0⟩ Ar (m' + 1) cr) 46)).alloc (.cells (endX z19 none 0 0) 46) = w2 at *
  obtain ⟨g1, hg1⟩ : ∃ g, w.heap.size = g := ⟨_, rfl⟩
  have HG := Lib.hid hg1
  obtain ⟨g2, hg2⟩ : ∃ g, w.heap.size + 1 = g := ⟨_, rfl⟩
  have HG2 := Lib.hid hg2
  rw [hg2] at H2 ⊢
  rw [hg1] at H1 ⊢
  clear hg1 hg2
  go_wp2_with fail
  with_reducible refine (CD.out w2 HB.out).mono ?_
  rintro e w3 ⟨fr', dt', k', ep', sq', bd', x, A1, c1, rfl, hat1, b3, hres⟩
  obtain ⟨rfl, rfl, rfl, rfl, rfl, rfl, rfl⟩ := hres.uniq (.inl ⟨rfl, hg⟩)
  have HGD := Lib.hid hg
  clear hg
  simp only [pkF]
  have HT := Lib.hid hat1
  replace H1 := Lib.hid (H1.out.later b3 (Nat.le_refl _))
  replace H2 := Lib.hid (H2.out.later b3 (Nat.le_refl _))
  replace HB := Lib.hid (HB.out.trans (b3.mono HB.out.size))
  clear b3 hat1 hres CD
  have HRG := Lib.hid (show blk Ar ≠ some g1 from fun e => by have := hAlt _ e; have := HG.out; omega)
  have HRG2 := Lib.hid (show blk Ar ≠ some g2 from fun e => by have := hAlt _ e; have := HG2.out; omega)
  clear hAlt
  go_upto_region 2 with fail
  have H3 := Lib.hid (Holds.new w3 50 #[.int .i64 (fr' : Int), .int .i64 (dt' : Int), .bool true, .int .i64 (ep' : Int), .int .i64 (sq' : Int), .slice A1 bd'.length c1] w3.heap.size rfl)
  have b4 := (Below.refl w3.heap.size w3).alloc (Nat.le_refl _) (.cells #[.int .i64 (fr' : Int), .int .i64 (dt' : Int), .bool true, .int .i64 (ep' : Int), .int .i64 (sq' : Int), .slice A1 bd'.length c1] 50)
  have hne := HB.out.size
  have hl1 := H1.out.lt
  have hl2 := H2.out.lt
  replace H1 := Lib.hid (H1.out.later b4 (Nat.le_refl _))
  replace H2 := Lib.hid (H2.out.later b4 (Nat.le_refl _))
  replace HB := Lib.hid (HB.out.trans (b4.mono HB.out.size))
  have HT4 := Lib.hid (HT.out.later b4 (Nat.le_refl _))
  generalize w3.alloc (.cells #[.int .i64 (fr' : Int), .int .i64 (dt' : Int), .bool true, .int .i64 (ep' : Int), .int .i64 (sq' : Int), .slice A1 bd'.length c1] 50) = w4 at *
  obtain ⟨g3, hg3⟩ : ∃ g, w3.heap.size = g := ⟨_, rfl⟩
  rw [hg3] at H3 hl1 hl2 ⊢
  have HG3 := Lib.hid (show g1 < g3 ∧ g2 < g3 from ⟨hl1, hl2⟩)
  clear b4 hg3 hne hl1 hl2 HT
  have q0 : w4.cell? ⟨g1, 0, none⟩ = some (.int .i64 me) := H1.out.cell 0
  have q1 : w4.cell? ⟨g1, 1, none⟩ = some (.int .i64 ot) := H1.out.cell 1
  have r0 : w4.cell? ⟨g3, 0, none⟩ = some (.int .i64 (fr' : Int)) := H3.out.cell 0
  have r1 : w4.cell? ⟨g3, 1, none⟩ = some (.int .i64 (dt' : Int)) := H3.out.cell 1
  have d1 : ((fr' : Int) == ot) = true := beq_iff_eq.2 HF.out
  have d2 : ((dt' : Int) == me) = true := beq_iff_eq.2 HTT.out
  have r2 : w4.cell? ⟨g3, 2, none⟩ = some (.bool true) := H3.out.cell 2
  have r3 : w4.cell? ⟨g3, 3, none⟩ = some (.int .i64 (ep' : Int)) := H3.out.cell 3
  have r4 : w4.cell? ⟨g3, 4, none⟩ = some (.int .i64 (sq' : Int)) := H3.out.cell 4
  have q2 : w4.cell? ⟨g1, 2, none⟩ = some (.int .i64 E) := H1.out.cell 2
  have z2 := H1.out.frozen 2
  have q3 : w4.cell? ⟨g1, 3, none⟩ = some (.int .i64 S) := H1.out.cell 3
  have z3 := H1.out.frozen 3
  have q4 : w4.cell? ⟨g1, 4, none⟩ = some (.slice Ar (m' + 1) cr) := H1.out.cell 4
  have z4 := H1.out.frozen 4
  have q5 : w4.cell? ⟨g1, 5, none⟩ = some (.int .i64 st) := H1.out.cell 5
  have z5 := H1.out.frozen 5
  have q6 : w4.cell? ⟨g1, 6, none⟩ = some (.int .i64 lf) := H1.out.cell 6
  have z6 := H1.out.frozen 6
  have CH := Lib.hid (rheard_any (w := w4) (A := Ar) (c := cr) (E := E) (S := S) (st := st) (lf := lf) (us := us) (v := v) HSS.out m' HCR.out HUU.out (HAU.out.later HB.out (Nat.le_refl _)))
  go_upto_region 7 with fail
  rw [HEE.out] at r3
  rw [HQQ.out] at r4
  go_wp2_with fail
  with_reducible refine CH.out.mono ?_
  rintro e w5 ⟨A', c', rfl, hmc, hau', hbk, b5⟩
  have HMC := Lib.hid hmc
  have HBK := Lib.hid hbk
  have HAU5 := Lib.hid hau'
  clear hmc hbk hau' CH
  clear q0 q1 r0 r1 r2 r3 r4 q2 z2 q3 z3 q4 z4 q5 z5 q6 z6
  replace H1 := Lib.hid (H1.out.later b5 (Nat.le_refl _))
  replace H2 := Lib.hid (H2.out.later b5 (Nat.le_refl _))
  replace HB := Lib.hid (HB.out.trans (b5.mono HB.out.size))
  clear b5
  have q2 : w5.cell? ⟨g1, 2, none⟩ = some (.int .i64 E) := H1.out.cell 2
  have z2 := H1.out.frozen 2
  have q3 : w5.cell? ⟨g1, 3, none⟩ = some (.int .i64 S) := H1.out.cell 3
  have z3 := H1.out.frozen 3
  have q4 : w5.cell? ⟨g1, 4, none⟩ = some (.slice Ar (m' + 1) cr) := H1.out.cell 4
  have z4 := H1.out.frozen 4
  have q5 : w5.cell? ⟨g1, 5, none⟩ = some (.int .i64 st) := H1.out.cell 5
  have z5 := H1.out.frozen 5
  have q6 : w5.cell? ⟨g1, 6, none⟩ = some (.int .i64 lf) := H1.out.cell 6
  have z6 := H1.out.frozen 6
  go_upto_region 8 with fail
  have hgs := (grown_set (grown_set (grown_set (grown_set (grown_set (grown_refl w5 (some g1)) 2 (.int .i64 E)) 3 (.int .i64 (S + 1))) 4 (.slice A' m' c')) 5 (.int .i64 0)) 6 (.int .i64 0))
  replace H2 := Lib.hid (H2.out.grown hgs (fun e => by injection e with e; have := HG.out; have := HG2.out; omega))
  replace HB := Lib.hid (HB.out.grown hgs HB.out.size (fun k hk => by injection hk with hk; have := HG.out; omega))
  replace HAU5 := Lib.hid (HAU5.out.grown hgs (.inr (fun e => HRG.out (HBK.out ▸ e))))
  replace H1 := Lib.hid (show Holds (((((w5.setCell ⟨g1, 2, none⟩ (.int .i64 E)).setCell ⟨g1, 3, none⟩ (.int .i64 (S + 1))).setCell ⟨g1, 4, none⟩ (.slice A' m' c')).setCell ⟨g1, 5, none⟩ (.int .i64 0)).setCell ⟨g1, 6, none⟩ (.int .i64 0)) g1 46 (endX ⟨me, ot, E, (S + 1), l, 0, 0, RE, RL, gv, ep0, sq0⟩ A' m' c') from (((((H1.out.set 2 (.int .i64 E)).set 3 (.int .i64 (S + 1))).set 4 (.slice A' m' c')).set 5 (.int .i64 0)).set 6 (.int .i64 0)))
  clear hgs z2 q2 z3 q3 z4 q4 z5 q5 z6 q6
  generalize (((((w5.setCell ⟨g1, 2, none⟩ (.int .i64 E)).setCell ⟨g1, 3, none⟩ (.int .i64 (S + 1))).setCell ⟨g1, 4, none⟩ (.slice A' m' c')).setCell ⟨g1, 5, none⟩ (.int .i64 0)).setCell ⟨g1, 6, none⟩ (.int .i64 0)) = w6 at *
  go_wp2_with (first
    | (refine wpList_load_row rfl 46 (.tmp 2) rfl g1 rfl _ (endX ⟨me, ot, E, (S + 1), l, 0, 0, RE, RL, gv, ep0, sq0⟩ A' m' c') _ _ H1.out end_under rfl end_size ?_)
    | (refine wpList_store_rowTo rfl 46 (.tmp 4) (.tmp 48) rfl rfl g2 (endX ⟨me, ot, E, (S + 1), l, 0, 0, RE, RL, gv, ep0, sq0⟩ A' m' c') rfl rfl _ (endX z19 none 0 0) H2.out end_size rfl (endX_one _ _ _ _) ?_))
  replace HAU5 := Lib.hid (HAU5.out.grown (grown_row (w := w6) (g := g2) (endX ⟨me, ot, E, (S + 1), l, 0, 0, RE, RL, gv, ep0, sq0⟩ A' m' c')) (.inr (fun e => HRG2.out (HBK.out ▸ e))))
  replace HB := Lib.hid (below_setRow HB.out (g := g2) (by have := HG2.out; omega) (endX ⟨me, ot, E, (S + 1), l, 0, 0, RE, RL, gv, ep0, sq0⟩ A' m' c'))
  replace H2 := Lib.hid (H2.out.rowE (endX ⟨me, ot, E, (S + 1), l, 0, 0, RE, RL, gv, ep0, sq0⟩ A' m' c'))
  generalize World.setRow _ g2 (endX ⟨me, ot, E, (S + 1), l, 0, 0, RE, RL, gv, ep0, sq0⟩ A' m' c') = wz at *
  exact bodyPost_ret (v := .tuple #[.agg (endX ⟨me, ot, E, (S + 1), l, 0, 0, RE, RL, gv, ep0, sq0⟩ A' m' c'), .slice none 0 0, .bool false, .int .i64 0]) (results_cell_4 Tryd.results18 _ _ g2 46 (endX ⟨me, ot, E, (S + 1), l, 0, 0, RE, RL, gv, ep0, sq0⟩ A' m' c') _ _ _ _ _ rfl rfl rfl rfl H2.out end_under rfl end_size) rfl ⟨A', c', ⟨none, 0, rfl, At.nil _ _, HB.out⟩, HMC.out, HAU5.out, HBK.out⟩
end
end Go.Proofs.YtodimanghmepoaaDoor
