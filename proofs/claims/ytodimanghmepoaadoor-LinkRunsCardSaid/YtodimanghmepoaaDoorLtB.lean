/- Layer 19: the document's end: Out. Printed by ltb.py. -/
import Derived.Test.YtodimanghmepoaaDoorLtA
import Derived.Test.YtodimanghmepoaaDoorLtS
namespace Go.Proofs.YtodimanghmepoaaDoor
open Go.RowKit
def sndC (E S : Int) (A : Option Addr) (m c : Nat) (st lf : Int) : Array Value := #[.int .i64 E, .int .i64 S, .slice A m c, .int .i64 st, .int .i64 lf]
theorem sndC_one (E S : Int) (A : Option Addr) (m c : Nat) (st lf : Int) : (sndC E S A m c st lf).all (·.oneCell') = true := by simp [sndC, Value.oneCell']
theorem snd_under : Tryd.prog.underlying 42 = some (match Tryd.prog.underlying 42 with | some d => d | none => default) := by kernel_rfl
set_option maxRecDepth 100000 in
theorem snd_size : (Tryd.prog.info? 42).map (·.size) = some (5 : Nat) := by kernel_rfl
set_option maxRecDepth 100000 in
theorem run_allocS (ρ : Operand → Value) (o : Oper) (w : World) (ho : o.op = .alloc 42) : (execOp ρ o).run Tryd.prog w = .ok (.value (.pointer (some ⟨w.heap.size, 0, none⟩))) (w.alloc (.cells (sndC 0 0 none 0 0 0 0) 42)) := by
  unfold execOp
  simp only [ho]
  rfl
/-- datagrams, to be read -/
structure RDg (w : World) (A : Option Addr) (vs : List Value) (L : List (List Nat)) : Prop where
  at_ : At w A vs
  len : vs.length = L.length
  dg : ∀ (i : Nat) (v : Value) (b : List Nat), vs[i]? = some v → L[i]? = some b → ∃ A1 c1, v = .slice A1 b.length c1 ∧ At w A1 (nats .u8 b)
theorem RDg.nil (w : World) (A : Option Addr) : RDg w A [] [] := ⟨At.nil _ _, rfl, by simp⟩
theorem RDg.later {w w' : World} {A : Option Addr} {vs : List Value} {L : List (List Nat)} (h : RDg w A vs L) (b : Below w.heap.size w w') : RDg w' A vs L :=
  ⟨h.at_.later b (Nat.le_refl _), h.len, fun i v d h1 h2 => by obtain ⟨A1, c1, e, h3⟩ := h.dg i v d h1 h2; exact ⟨A1, c1, e, h3.later b (Nat.le_refl _)⟩⟩
/-- datagrams of the call's own -/
def XDg (B : Nat) (w : World) (A : Option Addr) (n c : Nat) (vs : List Value) (L : List (List Nat)) : Prop :=
  Own w B 22 1 A n c vs ∧ L.length = n ∧ ∀ (i : Nat) (v : Value) (b : List Nat), vs[i]? = some v → L[i]? = some b → ∃ A1 c1, v = .slice A1 b.length c1 ∧ Own w B 5 1 A1 b.length c1 (nats .u8 b)
theorem XDg.none_ (B : Nat) (w : World) : XDg B w none 0 0 [] [] := ⟨Own.none_ _ _ _ _, rfl, by simp⟩
theorem XDg.later {B : Nat} {w w' : World} {A : Option Addr} {n c : Nat} {vs : List Value} {L : List (List Nat)} (h : XDg B w A n c vs L) (b : Below w.heap.size w w') : XDg B w' A n c vs L :=
  ⟨h.1.below b (Nat.le_refl _), h.2.1, fun i v d h1 h2 => by obtain ⟨A1, c1, e, h3⟩ := h.2.2 i v d h1 h2; exact ⟨A1, c1, e, h3.below b (Nat.le_refl _)⟩⟩
theorem XDg.far {B : Nat} {w w' : World} {A : Option Addr} {n c : Nat} {vs : List Value} {L : List (List Nat)} (h : XDg B w A n c vs L) {g : Nat} {t : TypeId} {cs : Array Value} (hg : w.grownBy w' (some g)) (hH : Holds w g t cs) (h1 : t ≠ 22) (h2 : t ≠ 5) : XDg B w' A n c vs L := by
  have ne : ∀ {e : TypeId} {A : Option Addr} {n c : Nat} {xs : List Value}, Own w B e 1 A n c xs → t ≠ e → blk A = none ∨ blk A ≠ some g := by
    intro e A n c xs ho hne
    rcases ho.2 with ⟨h0, _⟩ | ⟨g1, cap, cur, h0, _, h3, _⟩
    · injection h0 with h0; subst h0; exact .inl rfl
    · refine .inr fun e1 => ?_
      injection h0 with h0; subst h0
      injection e1 with e1
      simp only at e1
      subst e1
      have h4 : w.heap[g1]? = some (.cells cs t (0, 0)) := hH
      rw [h3] at h4
      injection h4 with h4
      injection h4 with _ h4
      exact hne h4.symm
  exact ⟨h.1.kept hg (ne h.1 h1), h.2.1, fun i v d h3 h4 => by obtain ⟨A1, c1, e, h5⟩ := h.2.2 i v d h3 h4; exact ⟨A1, c1, e, h5.kept hg (ne h5 h2)⟩⟩
theorem XDg.read {B : Nat} {w : World} {A : Option Addr} {n c : Nat} {vs : List Value} {L : List (List Nat)} (h : XDg B w A n c vs L) : RDg w A vs L :=
  ⟨h.1.at_, by have := h.1.len; have := h.2.1; omega, fun i v d h1 h2 => by obtain ⟨A1, c1, e, h3⟩ := h.2.2 i v d h1 h2; exact ⟨A1, c1, e, h3.at_⟩⟩
theorem XDg.push {B : Nat} {w1 w2 : World} {A : Option Addr} {n c : Nat} {vs : List Value} {L : List (List Nat)} (h : XDg B w1 A n c vs L) {A1 : Option Addr} {m c1 : Nat} {b : List Nat} (hm : m = b.length) (hd : Own w1 B 5 1 A1 m c1 (nats .u8 b))
    {A' : Option Addr} {c' : Nat} (ho : Own w2 B 22 1 A' (n + 1) c' (vs ++ [.slice A1 m c1])) (hg : w1.grownBy w2 (blk A)) : XDg B w2 A' (n + 1) c' (vs ++ [.slice A1 m c1]) (L ++ [b]) := by
  subst hm
  have keep : ∀ {A3 : Option Addr} {n3 c3 : Nat} {l : List Value}, Own w1 B 5 1 A3 n3 c3 l → Own w2 B 5 1 A3 n3 c3 l := fun {A3 n3 c3 l} h3 => h3.kept hg (by
    cases h4 : blk A3 with
    | none => exact .inl rfl
    | some k => exact .inr (fun e => Own.apart h3 h.1 (by decide) h4 e.symm))
  have hvl : vs.length = L.length := by have := h.1.len; have := h.2.1; omega
  refine ⟨ho, by rw [List.length_append, h.2.1]; rfl, fun i v d h1 h2 => ?_⟩
  rcases Nat.lt_or_ge i vs.length with hi | hi
  · rw [List.getElem?_append_left hi] at h1
    rw [List.getElem?_append_left (by omega)] at h2
    obtain ⟨A3, c3, rfl, h3⟩ := h.2.2 i v d h1 h2
    exact ⟨A3, c3, rfl, keep h3⟩
  · rw [List.getElem?_append_right hi] at h1
    rw [List.getElem?_append_right (by omega)] at h2
    have hi0 : i - vs.length = 0 := by
      rcases Nat.eq_zero_or_pos (i - vs.length) with h | h
      · exact h
      · rw [List.getElem?_eq_none (by simp; omega)] at h1; cases h1
    rw [hi0] at h1
    rw [show i - L.length = 0 by omega] at h2
    injection h1 with h1; injection h2 with h2
    subst h1; subst h2
    exact ⟨A1, c1, rfl, keep hd⟩
/-- what the document's Out hands back -/
def XOutE (w : World) (s' : LSt) (Ar : Option Addr) (m cr : Nat) (L : List (List Nat)) (e : Ending) (w' : World) : Prop :=
  ∃ A n c vs, e = .returned (.tuple #[.agg (endX s' Ar m cr), .slice A n c]) ∧ n = L.length ∧ RDg w' A vs L ∧ Below w.heap.size w w' ∧ ∀ k, blk A = some k → w.heap.size ≤ k
section
variable {me ot E S st lf RE RL ep sq : Int} {l : List (List Nat)} {Ar : Option Addr} {m cr : Nat}
set_option maxRecDepth 100000 in
set_option maxHeartbeats 4000000 in
theorem xout_nn (w : World)
    (h0 : m = 0 ∨ (m ≠ 0 ∧ 0 < lf)) :
    Calls Tryd.prog 16 #[.agg (endX ⟨me, ot, E, S, l, st, lf, RE, RL, false, ep, sq⟩ Ar m cr)] w (XOutE w ⟨me, ot, E, S, l, st, lf, RE, RL, false, ep, sq⟩ Ar m cr []) := by
  go_enter Tryd.func16, Tryd.ntmps16
  go_upto_region 1 with (first
    | (refine Great.wpList_boxTo rfl 46 (.tmp 0) rfl (some 1) rfl _ rfl (endX ⟨me, ot, E, S, l, st, lf, RE, RL, false, ep, sq⟩ Ar m cr) rfl ?_)
    | (refine Great.wpList_allocTo rfl (some 2) rfl _ (.cells (endX z19 none 0 0) 46) (run_allocE _ _ _ rfl) ?_))
  have H1 := Lib.hid ((Holds.new w 46 (endX ⟨me, ot, E, S, l, st, lf, RE, RL, false, ep, sq⟩ Ar m cr) w.heap.size rfl).alloc (.cells (endX z19 none 0 0) 46))
  have H2 := Lib.hid (Holds.new (w.alloc (.cells (endX ⟨me, ot, E, S, l, st, lf, RE, RL, false, ep, sq⟩ Ar m cr) 46)) 46 (endX z19 none 0 0) (w.heap.size + 1) (by simp))
  have HB := Lib.hid (((Below.refl w.heap.size w).alloc (Nat.le_refl _) (.cells (endX ⟨me, ot, E, S, l, st, lf, RE, RL, false, ep, sq⟩ Ar m cr) 46)).alloc (by simp) (.cells (endX z19 none 0 0) 46))
  generalize (w.alloc (.cells (endX ⟨me, ot, E, S, l, st, lf, RE, RL, false, ep, sq⟩ Ar m cr) 46)).alloc (.cells (endX z19 none 0 0) 46) = w2 at *
  obtain ⟨g1, hg1⟩ : ∃ g, w.heap.size = g := ⟨_, rfl⟩
  have HG := Lib.hid hg1
  obtain ⟨g2, hg2⟩ : ∃ g, w.heap.size + 1 = g := ⟨_, rfl⟩
  have HG2 := Lib.hid hg2
  rw [hg2] at H2 ⊢
  rw [hg1] at H1 ⊢
  clear hg1 hg2
  have XD := Lib.hid (XDg.none_ w.heap.size w2)
  have q9 : w2.cell? ⟨g1, 9, none⟩ = some (.bool false) := H1.out.cell 9
  go_upto_region 6 with fail
  clear q9
  have q2 : w2.cell? ⟨g1, 2, none⟩ = some (.int .i64 E) := H1.out.cell 2
  have q3 : w2.cell? ⟨g1, 3, none⟩ = some (.int .i64 S) := H1.out.cell 3
  have q4 : w2.cell? ⟨g1, 4, none⟩ = some (.slice Ar m cr) := H1.out.cell 4
  have q5 : w2.cell? ⟨g1, 5, none⟩ = some (.int .i64 st) := H1.out.cell 5
  have q6 : w2.cell? ⟨g1, 6, none⟩ = some (.int .i64 lf) := H1.out.cell 6
  have CO := Lib.hid (rout_none (w := w2) (A := Ar) (E := E) (S := S) (n := m) (c := cr) (st := st) (lf := lf) h0)
  go_wp2_with fail
  with_reducible refine CO.out.mono ?_
  rintro e w6 ⟨rfl, b6⟩
  clear CO
  replace H1 := Lib.hid (H1.out.later b6 (Nat.le_refl _))
  replace H2 := Lib.hid (H2.out.later b6 (Nat.le_refl _))
  replace XD := Lib.hid (XD.out.later b6)
  replace HB := Lib.hid (HB.out.trans (b6.mono HB.out.size))
  clear b6 q2 q3 q4 q5 q6
  go_upto_region 7 with (first
    | (refine Great.wpList_allocTo rfl (some 7) rfl _ (.cells (sndC 0 0 none 0 0 0 0) 42) (run_allocS _ _ _ rfl) ?_)
    | (refine wpList_store_rowTo rfl 42 (.tmp 7) (.tmp 37) rfl rfl w6.heap.size (sndC E S Ar m cr st lf) rfl rfl 42 (sndC 0 0 none 0 0 0 0) (Holds.new w6 42 (sndC 0 0 none 0 0 0 0) w6.heap.size rfl) snd_size rfl (sndC_one _ _ _ _ _ _ _) ?_))
  have H3 := Lib.hid ((Holds.new w6 42 (sndC 0 0 none 0 0 0 0) w6.heap.size rfl).rowE (sndC E S Ar m cr st lf))
  have b7 := below_setRow ((Below.refl w6.heap.size w6).alloc (Nat.le_refl _) (.cells (sndC 0 0 none 0 0 0 0) 42)) (g := w6.heap.size) (Nat.le_refl _) (sndC E S Ar m cr st lf)
  have hne := HB.out.size
  have hg1l := H1.out.lt
  replace H1 := Lib.hid (H1.out.later b7 (Nat.le_refl _))
  replace H2 := Lib.hid (H2.out.later b7 (Nat.le_refl _))
  replace XD := Lib.hid (XD.out.later b7)
  replace HB := Lib.hid (HB.out.trans (b7.mono HB.out.size))
  generalize (w6.alloc (.cells (sndC 0 0 none 0 0 0 0) 42)).setRow w6.heap.size (sndC E S Ar m cr st lf) = w7 at *
  obtain ⟨g3, hg3⟩ : ∃ g, w6.heap.size = g := ⟨_, rfl⟩
  rw [hg3] at H3 hg1l ⊢
  have HG3 := Lib.hid (show g1 < g3 from hg1l)
  clear b7 hg3 hne hg1l
  have z2 := H1.out.frozen 2
  have z3 := H1.out.frozen 3
  have z4 := H1.out.frozen 4
  have z5 := H1.out.frozen 5
  have z6 := H1.out.frozen 6
  have q2 : w7.cell? ⟨g1, 2, none⟩ = some (.int .i64 E) := H1.out.cell 2
  have q3 : w7.cell? ⟨g1, 3, none⟩ = some (.int .i64 S) := H1.out.cell 3
  have q4 : w7.cell? ⟨g1, 4, none⟩ = some (.slice Ar m cr) := H1.out.cell 4
  have q5 : w7.cell? ⟨g1, 5, none⟩ = some (.int .i64 st) := H1.out.cell 5
  have q6 : w7.cell? ⟨g1, 6, none⟩ = some (.int .i64 lf) := H1.out.cell 6
  go_upto_region 8 with (refine wpList_load_row rfl 42 (.tmp 7) rfl g3 rfl _ #[.int .i64 E, .int .i64 S, .slice Ar m cr, .int .i64 st, .int .i64 lf] _ _ H3.out snd_under rfl snd_size ?_)
  have hgs := (grown_set (grown_set (grown_set (grown_set (grown_set (grown_refl w7 (some g1)) 2 (.int .i64 E)) 3 (.int .i64 S)) 4 (.slice Ar m cr)) 5 (.int .i64 st)) 6 (.int .i64 lf))
  replace XD := Lib.hid (XD.out.far hgs H1.out (by decide) (by decide))
  replace H2 := Lib.hid (H2.out.grown hgs (fun e => by injection e with e; have := HG.out; have := HG2.out; omega))
  replace H3 := Lib.hid (H3.out.grown hgs (fun e => by injection e with e; have := HG3.out; omega))
  replace HB := Lib.hid (HB.out.grown hgs HB.out.size (fun k hk => by injection hk with hk; have := HG.out; omega))
  replace H1 := Lib.hid (show Holds (((((w7.setCell ⟨g1, 2, none⟩ (.int .i64 E)).setCell ⟨g1, 3, none⟩ (.int .i64 S)).setCell ⟨g1, 4, none⟩ (.slice Ar m cr)).setCell ⟨g1, 5, none⟩ (.int .i64 st)).setCell ⟨g1, 6, none⟩ (.int .i64 lf)) g1 46 (endX ⟨me, ot, E, S, l, st, lf, RE, RL, false, ep, sq⟩ Ar m cr) from (((((H1.out.set 2 (.int .i64 E)).set 3 (.int .i64 S)).set 4 (.slice Ar m cr)).set 5 (.int .i64 st)).set 6 (.int .i64 lf)))
  clear hgs z2 q2 z3 q3 z4 q4 z5 q5 z6 q6
  generalize (((((w7.setCell ⟨g1, 2, none⟩ (.int .i64 E)).setCell ⟨g1, 3, none⟩ (.int .i64 S)).setCell ⟨g1, 4, none⟩ (.slice Ar m cr)).setCell ⟨g1, 5, none⟩ (.int .i64 st)).setCell ⟨g1, 6, none⟩ (.int .i64 lf)) = w8 at *
  go_wp2_with (first
    | (refine wpList_load_row rfl 46 (.tmp 1) rfl g1 rfl _ (endX ⟨me, ot, E, S, l, st, lf, RE, RL, false, ep, sq⟩ Ar m cr) _ _ H1.out end_under rfl end_size ?_)
    | (refine wpList_store_rowTo rfl 46 (.tmp 2) (.tmp 61) rfl rfl g2 (endX ⟨me, ot, E, S, l, st, lf, RE, RL, false, ep, sq⟩ Ar m cr) rfl rfl _ (endX z19 none 0 0) H2.out end_size rfl (endX_one _ _ _ _) ?_))
  have hgr := grown_row (w := w8) (g := g2) (endX ⟨me, ot, E, S, l, st, lf, RE, RL, false, ep, sq⟩ Ar m cr)
  replace XD := Lib.hid (XD.out.far hgr H2.out (by decide) (by decide))
  replace HB := Lib.hid (below_setRow HB.out (g := g2) (by have := HG2.out; omega) (endX ⟨me, ot, E, S, l, st, lf, RE, RL, false, ep, sq⟩ Ar m cr))
  replace H2 := Lib.hid (H2.out.rowE (endX ⟨me, ot, E, S, l, st, lf, RE, RL, false, ep, sq⟩ Ar m cr))
  clear hgr
  generalize w8.setRow g2 (endX ⟨me, ot, E, S, l, st, lf, RE, RL, false, ep, sq⟩ Ar m cr) = wz at *
  exact bodyPost_ret (v := .tuple #[.agg (endX ⟨me, ot, E, S, l, st, lf, RE, RL, false, ep, sq⟩ Ar m cr), .slice none 0 0]) (results_cell_2 Tryd.results16 _ _ g2 46 (endX ⟨me, ot, E, S, l, st, lf, RE, RL, false, ep, sq⟩ Ar m cr) _ _ _ rfl rfl H2.out end_under rfl end_size) rfl ⟨none, 0, 0, [], rfl, rfl, XD.out.read, HB.out, fun k e => (XD.out.1.lt k e).1⟩
set_option maxRecDepth 100000 in
set_option maxHeartbeats 4000000 in
theorem xout_wn (w : World)
    {L1 : List Nat} {m1 : Nat} {v1 : Value} (hm1 : m1 = L1.length) (QE : ∀ W : World, Calls Tryd.prog 17 #[.agg #[.int .i64 me, .int .i64 ot, .bool true, .int .i64 ep, .int .i64 sq, .slice none 0 0]] W (EncR W L1 v1))
    (h0 : m = 0 ∨ (m ≠ 0 ∧ 0 < lf)) :
    Calls Tryd.prog 16 #[.agg (endX ⟨me, ot, E, S, l, st, lf, RE, RL, true, ep, sq⟩ Ar m cr)] w (XOutE w ⟨me, ot, E, S, l, st, lf, RE, RL, false, ep, sq⟩ Ar m cr [L1]) := by
  have QE := Lib.hid QE
  have HM1 := Lib.hid hm1
  clear hm1
  go_enter Tryd.func16, Tryd.ntmps16
  go_upto_region 1 with (first
    | (refine Great.wpList_boxTo rfl 46 (.tmp 0) rfl (some 1) rfl _ rfl (endX ⟨me, ot, E, S, l, st, lf, RE, RL, true, ep, sq⟩ Ar m cr) rfl ?_)
    | (refine Great.wpList_allocTo rfl (some 2) rfl _ (.cells (endX z19 none 0 0) 46) (run_allocE _ _ _ rfl) ?_))
  have H1 := Lib.hid ((Holds.new w 46 (endX ⟨me, ot, E, S, l, st, lf, RE, RL, true, ep, sq⟩ Ar m cr) w.heap.size rfl).alloc (.cells (endX z19 none 0 0) 46))
  have H2 := Lib.hid (Holds.new (w.alloc (.cells (endX ⟨me, ot, E, S, l, st, lf, RE, RL, true, ep, sq⟩ Ar m cr) 46)) 46 (endX z19 none 0 0) (w.heap.size + 1) (by simp))
  have HB := Lib.hid (((Below.refl w.heap.size w).alloc (Nat.le_refl _) (.cells (endX ⟨me, ot, E, S, l, st, lf, RE, RL, true, ep, sq⟩ Ar m cr) 46)).alloc (by simp) (.cells (endX z19 none 0 0) 46))
  generalize (w.alloc (.cells (endX ⟨me, ot, E, S, l, st, lf, RE, RL, true, ep, sq⟩ Ar m cr) 46)).alloc (.cells (endX z19 none 0 0) 46) = w2 at *
  obtain ⟨g1, hg1⟩ : ∃ g, w.heap.size = g := ⟨_, rfl⟩
  have HG := Lib.hid hg1
  obtain ⟨g2, hg2⟩ : ∃ g, w.heap.size + 1 = g := ⟨_, rfl⟩
  have HG2 := Lib.hid hg2
  rw [hg2] at H2 ⊢
  rw [hg1] at H1 ⊢
  clear hg1 hg2
  have XD := Lib.hid (XDg.none_ w.heap.size w2)
  have q0 : w2.cell? ⟨g1, 0, none⟩ = some (.int .i64 me) := H1.out.cell 0
  have q1 : w2.cell? ⟨g1, 1, none⟩ = some (.int .i64 ot) := H1.out.cell 1
  have q9 : w2.cell? ⟨g1, 9, none⟩ = some (.bool true) := H1.out.cell 9
  have q10 : w2.cell? ⟨g1, 10, none⟩ = some (.int .i64 ep) := H1.out.cell 10
  have q11 : w2.cell? ⟨g1, 11, none⟩ = some (.int .i64 sq) := H1.out.cell 11
  go_wp2_with fail
  with_reducible refine (QE.out _).mono ?_
  rintro e w3 ⟨A3, c3, rfl, o3, b3⟩
  have O3 := Lib.hid (show Own w3 w.heap.size 5 1 A3 m1 c3 (nats .u8 L1) from by rw [HM1.out]; exact ownsRow_le_ o3 HB.out.size)
  rw [← HM1.out]
  replace H1 := Lib.hid (H1.out.later b3 (Nat.le_refl _))
  replace H2 := Lib.hid (H2.out.later b3 (Nat.le_refl _))
  replace XD := Lib.hid (XD.out.later b3)
  replace HB := Lib.hid (HB.out.trans (b3.mono HB.out.size))
  clear b3 o3
  clear q0 q1 q9 q10 q11
  have NB := (Below.refl w3.heap.size w3).alloc (Nat.le_refl _) (.cells #[.slice A3 m1 c3] 22)
  go_upto_region 5 with (at_builtin; go_loud (refine wpList_app rfl elt_sl w.heap.size (.tmp 28) (.tmp 30) rfl [] rfl (XD.out.1.alloc _) [.slice A3 m1 c3] rfl (At.lit _ _ _ _ _ rfl) rfl (by intro u hu; simp at hu; subst hu; rfl) (by unfold maxLen; omega) (by omega) (by have := HB.out.size; simp; omega) ?_); intro A4 c4 w4 own4 gr4 hA4; have O := Lib.hid own4; have G := Lib.hid gr4; clear own4 gr4 hA4)
  replace XD := Lib.hid ((XD.out.later NB).push HM1.out (O3.out.alloc _) O.out G.out)
  replace H1 := Lib.hid ((H1.out.later NB (Nat.le_refl _)).grown G.out (by simp [blk]))
  replace H2 := Lib.hid ((H2.out.later NB (Nat.le_refl _)).grown G.out (by simp [blk]))
  replace HB := Lib.hid ((HB.out.trans (NB.mono HB.out.size)).grown G.out (by have := HB.out.size; simp; omega) (fun k hk => by cases hk))
  clear NB O G
  have z9 := H1.out.frozen 9
  have q9 : w4.cell? ⟨g1, 9, none⟩ = some (.bool true) := H1.out.cell 9
  go_upto_region 6 with fail
  have hgs := grown_set (grown_refl w4 (some g1)) 9 (.bool false)
  replace XD := Lib.hid (XD.out.far hgs H1.out (by decide) (by decide))
  replace H2 := Lib.hid (H2.out.grown hgs (fun e => by injection e with e; have := HG.out; have := HG2.out; omega))
  replace HB := Lib.hid (HB.out.setCell (p := ⟨g1, 9, none⟩) (by have := HG.out; show w.heap.size ≤ g1; omega) (.bool false))
  replace H1 := Lib.hid (show Holds (w4.setCell ⟨g1, 9, none⟩ (.bool false)) g1 46 (endX ⟨me, ot, E, S, l, st, lf, RE, RL, false, ep, sq⟩ Ar m cr) from H1.out.set 9 (.bool false))
  clear hgs q9 z9
  generalize w4.setCell ⟨g1, 9, none⟩ (.bool false) = w5 at *
  have q2 : w5.cell? ⟨g1, 2, none⟩ = some (.int .i64 E) := H1.out.cell 2
  have q3 : w5.cell? ⟨g1, 3, none⟩ = some (.int .i64 S) := H1.out.cell 3
  have q4 : w5.cell? ⟨g1, 4, none⟩ = some (.slice Ar m cr) := H1.out.cell 4
  have q5 : w5.cell? ⟨g1, 5, none⟩ = some (.int .i64 st) := H1.out.cell 5
  have q6 : w5.cell? ⟨g1, 6, none⟩ = some (.int .i64 lf) := H1.out.cell 6
  have CO := Lib.hid (rout_none (w := w5) (A := Ar) (E := E) (S := S) (n := m) (c := cr) (st := st) (lf := lf) h0)
  go_wp2_with fail
  with_reducible refine CO.out.mono ?_
  rintro e w6 ⟨rfl, b6⟩
  clear CO
  replace H1 := Lib.hid (H1.out.later b6 (Nat.le_refl _))
  replace H2 := Lib.hid (H2.out.later b6 (Nat.le_refl _))
  replace XD := Lib.hid (XD.out.later b6)
  replace HB := Lib.hid (HB.out.trans (b6.mono HB.out.size))
  clear b6 q2 q3 q4 q5 q6
  go_upto_region 7 with (first
    | (refine Great.wpList_allocTo rfl (some 7) rfl _ (.cells (sndC 0 0 none 0 0 0 0) 42) (run_allocS _ _ _ rfl) ?_)
    | (refine wpList_store_rowTo rfl 42 (.tmp 7) (.tmp 37) rfl rfl w6.heap.size (sndC E S Ar m cr st lf) rfl rfl 42 (sndC 0 0 none 0 0 0 0) (Holds.new w6 42 (sndC 0 0 none 0 0 0 0) w6.heap.size rfl) snd_size rfl (sndC_one _ _ _ _ _ _ _) ?_))
  have H3 := Lib.hid ((Holds.new w6 42 (sndC 0 0 none 0 0 0 0) w6.heap.size rfl).rowE (sndC E S Ar m cr st lf))
  have b7 := below_setRow ((Below.refl w6.heap.size w6).alloc (Nat.le_refl _) (.cells (sndC 0 0 none 0 0 0 0) 42)) (g := w6.heap.size) (Nat.le_refl _) (sndC E S Ar m cr st lf)
  have hne := HB.out.size
  have hg1l := H1.out.lt
  replace H1 := Lib.hid (H1.out.later b7 (Nat.le_refl _))
  replace H2 := Lib.hid (H2.out.later b7 (Nat.le_refl _))
  replace XD := Lib.hid (XD.out.later b7)
  replace HB := Lib.hid (HB.out.trans (b7.mono HB.out.size))
  generalize (w6.alloc (.cells (sndC 0 0 none 0 0 0 0) 42)).setRow w6.heap.size (sndC E S Ar m cr st lf) = w7 at *
  obtain ⟨g3, hg3⟩ : ∃ g, w6.heap.size = g := ⟨_, rfl⟩
  rw [hg3] at H3 hg1l ⊢
  have HG3 := Lib.hid (show g1 < g3 from hg1l)
  clear b7 hg3 hne hg1l
  have z2 := H1.out.frozen 2
  have z3 := H1.out.frozen 3
  have z4 := H1.out.frozen 4
  have z5 := H1.out.frozen 5
  have z6 := H1.out.frozen 6
  have q2 : w7.cell? ⟨g1, 2, none⟩ = some (.int .i64 E) := H1.out.cell 2
  have q3 : w7.cell? ⟨g1, 3, none⟩ = some (.int .i64 S) := H1.out.cell 3
  have q4 : w7.cell? ⟨g1, 4, none⟩ = some (.slice Ar m cr) := H1.out.cell 4
  have q5 : w7.cell? ⟨g1, 5, none⟩ = some (.int .i64 st) := H1.out.cell 5
  have q6 : w7.cell? ⟨g1, 6, none⟩ = some (.int .i64 lf) := H1.out.cell 6
  go_upto_region 8 with (refine wpList_load_row rfl 42 (.tmp 7) rfl g3 rfl _ #[.int .i64 E, .int .i64 S, .slice Ar m cr, .int .i64 st, .int .i64 lf] _ _ H3.out snd_under rfl snd_size ?_)
  have hgs := (grown_set (grown_set (grown_set (grown_set (grown_set (grown_refl w7 (some g1)) 2 (.int .i64 E)) 3 (.int .i64 S)) 4 (.slice Ar m cr)) 5 (.int .i64 st)) 6 (.int .i64 lf))
  replace XD := Lib.hid (XD.out.far hgs H1.out (by decide) (by decide))
  replace H2 := Lib.hid (H2.out.grown hgs (fun e => by injection e with e; have := HG.out; have := HG2.out; omega))
  replace H3 := Lib.hid (H3.out.grown hgs (fun e => by injection e with e; have := HG3.out; omega))
  replace HB := Lib.hid (HB.out.grown hgs HB.out.size (fun k hk => by injection hk with hk; have := HG.out; omega))
  replace H1 := Lib.hid (show Holds (((((w7.setCell ⟨g1, 2, none⟩ (.int .i64 E)).setCell ⟨g1, 3, none⟩ (.int .i64 S)).setCell ⟨g1, 4, none⟩ (.slice Ar m cr)).setCell ⟨g1, 5, none⟩ (.int .i64 st)).setCell ⟨g1, 6, none⟩ (.int .i64 lf)) g1 46 (endX ⟨me, ot, E, S, l, st, lf, RE, RL, false, ep, sq⟩ Ar m cr) from (((((H1.out.set 2 (.int .i64 E)).set 3 (.int .i64 S)).set 4 (.slice Ar m cr)).set 5 (.int .i64 st)).set 6 (.int .i64 lf)))
  clear hgs z2 q2 z3 q3 z4 q4 z5 q5 z6 q6
  generalize (((((w7.setCell ⟨g1, 2, none⟩ (.int .i64 E)).setCell ⟨g1, 3, none⟩ (.int .i64 S)).setCell ⟨g1, 4, none⟩ (.slice Ar m cr)).setCell ⟨g1, 5, none⟩ (.int .i64 st)).setCell ⟨g1, 6, none⟩ (.int .i64 lf)) = w8 at *
  go_wp2_with (first
    | (refine wpList_load_row rfl 46 (.tmp 1) rfl g1 rfl _ (endX ⟨me, ot, E, S, l, st, lf, RE, RL, false, ep, sq⟩ Ar m cr) _ _ H1.out end_under rfl end_size ?_)
    | (refine wpList_store_rowTo rfl 46 (.tmp 2) (.tmp 61) rfl rfl g2 (endX ⟨me, ot, E, S, l, st, lf, RE, RL, false, ep, sq⟩ Ar m cr) rfl rfl _ (endX z19 none 0 0) H2.out end_size rfl (endX_one _ _ _ _) ?_))
  have hgr := grown_row (w := w8) (g := g2) (endX ⟨me, ot, E, S, l, st, lf, RE, RL, false, ep, sq⟩ Ar m cr)
  replace XD := Lib.hid (XD.out.far hgr H2.out (by decide) (by decide))
  replace HB := Lib.hid (below_setRow HB.out (g := g2) (by have := HG2.out; omega) (endX ⟨me, ot, E, S, l, st, lf, RE, RL, false, ep, sq⟩ Ar m cr))
  replace H2 := Lib.hid (H2.out.rowE (endX ⟨me, ot, E, S, l, st, lf, RE, RL, false, ep, sq⟩ Ar m cr))
  clear hgr
  generalize w8.setRow g2 (endX ⟨me, ot, E, S, l, st, lf, RE, RL, false, ep, sq⟩ Ar m cr) = wz at *
  exact bodyPost_ret (v := .tuple #[.agg (endX ⟨me, ot, E, S, l, st, lf, RE, RL, false, ep, sq⟩ Ar m cr), .slice A4 (0 + 1) c4]) (results_cell_2 Tryd.results16 _ _ g2 46 (endX ⟨me, ot, E, S, l, st, lf, RE, RL, false, ep, sq⟩ Ar m cr) _ _ _ rfl rfl H2.out end_under rfl end_size) rfl ⟨A4, (0 + 1), c4, ([] ++ [.slice A3 m1 c3]), rfl, rfl, XD.out.read, HB.out, fun k e => (XD.out.1.lt k e).1⟩
set_option maxRecDepth 100000 in
set_option maxHeartbeats 4000000 in
theorem xout_ns (w : World)
    {b0 o0 : Nat} {A1 : Option Addr} {c1 nb : Nat} {b : List Nat} (hAr : Ar = some ⟨b0, o0, none⟩) (hm0 : 0 < m) (hcell : w.cell? ⟨b0, o0, none⟩ = some (.slice A1 nb c1)) (hnb : b.length = nb) (hat : At w A1 (nats .u8 b)) (k : Nat) (hk : k ≤ 3) (hst : st = (k : Int)) (hlf : lf = 0) {L2 : List Nat} {m2 : Nat} {v2 : Value} (hm2 : m2 = L2.length)
    (QF : ∀ (W : World) (A : Option Addr) (c : Nat), At W A (nats .u8 b) → Calls Tryd.prog 17 #[.agg #[.int .i64 me, .int .i64 ot, .bool false, .int .i64 E, .int .i64 S, .slice A nb c]] W (EncR W L2 v2)) :
    Calls Tryd.prog 16 #[.agg (endX ⟨me, ot, E, S, l, st, lf, RE, RL, false, ep, sq⟩ Ar m cr)] w (XOutE w ⟨me, ot, E, S, l, ((min (k + 1) 3 : Nat) : Int), ((3 * 2 ^ k : Nat) : Int), RE, RL, false, ep, sq⟩ Ar m cr [L2]) := by
  subst hAr hst hlf
  have QF := Lib.hid QF
  have HM2 := Lib.hid hm2
  clear hm2
  have HC := Lib.hid hcell
  have HAT := Lib.hid hat
  have HNB := Lib.hid hnb
  clear hcell hat hnb
  obtain ⟨st2, hst2⟩ : ∃ x : Int, ((min (k + 1) 3 : Nat) : Int) = x := ⟨_, rfl⟩
  obtain ⟨lf2, hlf2⟩ : ∃ x : Int, ((3 * 2 ^ k : Nat) : Int) = x := ⟨_, rfl⟩
  rw [hst2, hlf2]
  have HE2 := Lib.hid hst2
  have HF2 := Lib.hid hlf2
  clear hst2 hlf2
  have HK := Lib.hid hk
  clear hk
  go_enter Tryd.func16, Tryd.ntmps16
  go_upto_region 1 with (first
    | (refine Great.wpList_boxTo rfl 46 (.tmp 0) rfl (some 1) rfl _ rfl (endX ⟨me, ot, E, S, l, (k : Int), 0, RE, RL, false, ep, sq⟩ (some ⟨b0, o0, none⟩) m cr) rfl ?_)
    | (refine Great.wpList_allocTo rfl (some 2) rfl _ (.cells (endX z19 none 0 0) 46) (run_allocE _ _ _ rfl) ?_))
  have H1 := Lib.hid ((Holds.new w 46 (endX ⟨me, ot, E, S, l, (k : Int), 0, RE, RL, false, ep, sq⟩ (some ⟨b0, o0, none⟩) m cr) w.heap.size rfl).alloc (.cells (endX z19 none 0 0) 46))
  have H2 := Lib.hid (Holds.new (w.alloc (.cells (endX ⟨me, ot, E, S, l, (k : Int), 0, RE, RL, false, ep, sq⟩ (some ⟨b0, o0, none⟩) m cr) 46)) 46 (endX z19 none 0 0) (w.heap.size + 1) (by simp))
  have HB := Lib.hid (((Below.refl w.heap.size w).alloc (Nat.le_refl _) (.cells (endX ⟨me, ot, E, S, l, (k : Int), 0, RE, RL, false, ep, sq⟩ (some ⟨b0, o0, none⟩) m cr) 46)).alloc (by simp) (.cells (endX z19 none 0 0) 46))
  generalize (w.alloc (.cells (endX ⟨me, ot, E, S, l, (k : Int), 0, RE, RL, false, ep, sq⟩ (some ⟨b0, o0, none⟩) m cr) 46)).alloc (.cells (endX z19 none 0 0) 46) = w2 at *
  obtain ⟨g1, hg1⟩ : ∃ g, w.heap.size = g := ⟨_, rfl⟩
  have HG := Lib.hid hg1
  obtain ⟨g2, hg2⟩ : ∃ g, w.heap.size + 1 = g := ⟨_, rfl⟩
  have HG2 := Lib.hid hg2
  rw [hg2] at H2 ⊢
  rw [hg1] at H1 ⊢
  clear hg1 hg2
  have XD := Lib.hid (XDg.none_ w.heap.size w2)
  have q9 : w2.cell? ⟨g1, 9, none⟩ = some (.bool false) := H1.out.cell 9
  go_upto_region 6 with fail
  clear q9
  have q2 : w2.cell? ⟨g1, 2, none⟩ = some (.int .i64 E) := H1.out.cell 2
  have q3 : w2.cell? ⟨g1, 3, none⟩ = some (.int .i64 S) := H1.out.cell 3
  have q4 : w2.cell? ⟨g1, 4, none⟩ = some (.slice (some ⟨b0, o0, none⟩) m cr) := H1.out.cell 4
  have q5 : w2.cell? ⟨g1, 5, none⟩ = some (.int .i64 (k : Int)) := H1.out.cell 5
  have q6 : w2.cell? ⟨g1, 6, none⟩ = some (.int .i64 0) := H1.out.cell 6
  have hcw := (HB.out.cell (p := ⟨b0, o0, none⟩) (lt_of_cell HC.out)).trans HC.out
  have CO := Lib.hid (rout_any (w := w2) (E := E) (S := S) (n := m) (c := cr) (.slice A1 nb c1) k HK.out hm0 (lt_of_cell hcw) hcw)
  rw [HE2.out, HF2.out, show ((0 : Nat) : Int) = 0 from rfl] at CO
  clear hcw
  go_wp2_with fail
  with_reducible refine CO.out.mono ?_
  rintro e w6 ⟨rfl, b6⟩
  clear CO
  replace H1 := Lib.hid (H1.out.later b6 (Nat.le_refl _))
  replace H2 := Lib.hid (H2.out.later b6 (Nat.le_refl _))
  replace XD := Lib.hid (XD.out.later b6)
  replace HB := Lib.hid (HB.out.trans (b6.mono HB.out.size))
  clear b6 q2 q3 q4 q5 q6
  go_upto_region 7 with (first
    | (refine Great.wpList_allocTo rfl (some 7) rfl _ (.cells (sndC 0 0 none 0 0 0 0) 42) (run_allocS _ _ _ rfl) ?_)
    | (refine wpList_store_rowTo rfl 42 (.tmp 7) (.tmp 37) rfl rfl w6.heap.size (sndC E S (some ⟨b0, o0, none⟩) m cr st2 lf2) rfl rfl 42 (sndC 0 0 none 0 0 0 0) (Holds.new w6 42 (sndC 0 0 none 0 0 0 0) w6.heap.size rfl) snd_size rfl (sndC_one _ _ _ _ _ _ _) ?_))
  have H3 := Lib.hid ((Holds.new w6 42 (sndC 0 0 none 0 0 0 0) w6.heap.size rfl).rowE (sndC E S (some ⟨b0, o0, none⟩) m cr st2 lf2))
  have b7 := below_setRow ((Below.refl w6.heap.size w6).alloc (Nat.le_refl _) (.cells (sndC 0 0 none 0 0 0 0) 42)) (g := w6.heap.size) (Nat.le_refl _) (sndC E S (some ⟨b0, o0, none⟩) m cr st2 lf2)
  have hne := HB.out.size
  have hg1l := H1.out.lt
  replace H1 := Lib.hid (H1.out.later b7 (Nat.le_refl _))
  replace H2 := Lib.hid (H2.out.later b7 (Nat.le_refl _))
  replace XD := Lib.hid (XD.out.later b7)
  replace HB := Lib.hid (HB.out.trans (b7.mono HB.out.size))
  generalize (w6.alloc (.cells (sndC 0 0 none 0 0 0 0) 42)).setRow w6.heap.size (sndC E S (some ⟨b0, o0, none⟩) m cr st2 lf2) = w7 at *
  obtain ⟨g3, hg3⟩ : ∃ g, w6.heap.size = g := ⟨_, rfl⟩
  rw [hg3] at H3 hg1l ⊢
  have HG3 := Lib.hid (show g1 < g3 from hg1l)
  clear b7 hg3 hne hg1l
  have z2 := H1.out.frozen 2
  have z3 := H1.out.frozen 3
  have z4 := H1.out.frozen 4
  have z5 := H1.out.frozen 5
  have z6 := H1.out.frozen 6
  have q2 : w7.cell? ⟨g1, 2, none⟩ = some (.int .i64 E) := H1.out.cell 2
  have q3 : w7.cell? ⟨g1, 3, none⟩ = some (.int .i64 S) := H1.out.cell 3
  have q4 : w7.cell? ⟨g1, 4, none⟩ = some (.slice (some ⟨b0, o0, none⟩) m cr) := H1.out.cell 4
  have q5 : w7.cell? ⟨g1, 5, none⟩ = some (.int .i64 (k : Int)) := H1.out.cell 5
  have q6 : w7.cell? ⟨g1, 6, none⟩ = some (.int .i64 0) := H1.out.cell 6
  go_upto_region 8 with (refine wpList_load_row rfl 42 (.tmp 7) rfl g3 rfl _ #[.int .i64 E, .int .i64 S, .slice (some ⟨b0, o0, none⟩) m cr, .int .i64 st2, .int .i64 lf2] _ _ H3.out snd_under rfl snd_size ?_)
  have hgs := (grown_set (grown_set (grown_set (grown_set (grown_set (grown_refl w7 (some g1)) 2 (.int .i64 E)) 3 (.int .i64 S)) 4 (.slice (some ⟨b0, o0, none⟩) m cr)) 5 (.int .i64 st2)) 6 (.int .i64 lf2))
  replace XD := Lib.hid (XD.out.far hgs H1.out (by decide) (by decide))
  replace H2 := Lib.hid (H2.out.grown hgs (fun e => by injection e with e; have := HG.out; have := HG2.out; omega))
  replace H3 := Lib.hid (H3.out.grown hgs (fun e => by injection e with e; have := HG3.out; omega))
  replace HB := Lib.hid (HB.out.grown hgs HB.out.size (fun k hk => by injection hk with hk; have := HG.out; omega))
  replace H1 := Lib.hid (show Holds (((((w7.setCell ⟨g1, 2, none⟩ (.int .i64 E)).setCell ⟨g1, 3, none⟩ (.int .i64 S)).setCell ⟨g1, 4, none⟩ (.slice (some ⟨b0, o0, none⟩) m cr)).setCell ⟨g1, 5, none⟩ (.int .i64 st2)).setCell ⟨g1, 6, none⟩ (.int .i64 lf2)) g1 46 (endX ⟨me, ot, E, S, l, st2, lf2, RE, RL, false, ep, sq⟩ (some ⟨b0, o0, none⟩) m cr) from (((((H1.out.set 2 (.int .i64 E)).set 3 (.int .i64 S)).set 4 (.slice (some ⟨b0, o0, none⟩) m cr)).set 5 (.int .i64 st2)).set 6 (.int .i64 lf2)))
  clear hgs z2 q2 z3 q3 z4 q4 z5 q5 z6 q6
  generalize (((((w7.setCell ⟨g1, 2, none⟩ (.int .i64 E)).setCell ⟨g1, 3, none⟩ (.int .i64 S)).setCell ⟨g1, 4, none⟩ (.slice (some ⟨b0, o0, none⟩) m cr)).setCell ⟨g1, 5, none⟩ (.int .i64 st2)).setCell ⟨g1, 6, none⟩ (.int .i64 lf2)) = w8 at *
  have q0 : w8.cell? ⟨g1, 0, none⟩ = some (.int .i64 me) := H1.out.cell 0
  have q1 : w8.cell? ⟨g1, 1, none⟩ = some (.int .i64 ot) := H1.out.cell 1
  have r0 : w8.cell? ⟨g3, 0, none⟩ = some (.int .i64 E) := H3.out.cell 0
  have QG := Lib.hid (QF.out w8 A1 c1 (HAT.out.later HB.out (Nat.le_refl _)))
  go_wp2_with fail
  with_reducible refine (QG.out).mono ?_
  rintro e w9 ⟨A9, c9, rfl, o9, b9⟩
  have O9 := Lib.hid (show Own w9 w.heap.size 5 1 A9 m2 c9 (nats .u8 L2) from by rw [HM2.out]; exact ownsRow_le_ o9 HB.out.size)
  rw [← HM2.out]
  replace H1 := Lib.hid (H1.out.later b9 (Nat.le_refl _))
  replace H2 := Lib.hid (H2.out.later b9 (Nat.le_refl _))
  replace XD := Lib.hid (XD.out.later b9)
  replace HB := Lib.hid (HB.out.trans (b9.mono HB.out.size))
  clear b9 o9
  clear q0 q1 r0 QG H3
  have NB := (Below.refl w9.heap.size w9).alloc (Nat.le_refl _) (.cells #[.slice A9 m2 c9] 22)
  go_upto_region 11 with (at_builtin; go_loud (refine wpList_app rfl elt_sl w.heap.size (.tmp 57) (.tmp 59) rfl [] rfl (XD.out.1.alloc _) [.slice A9 m2 c9] rfl (At.lit _ _ _ _ _ rfl) rfl (by intro u hu; simp at hu; subst hu; rfl) (by unfold maxLen; omega) (by omega) (by have := HB.out.size; simp; omega) ?_); intro A10 c10 w10 own10 gr10 hA10; have O := Lib.hid own10; have G := Lib.hid gr10; clear own10 gr10 hA10)
  replace XD := Lib.hid ((XD.out.later NB).push HM2.out (O9.out.alloc _) O.out G.out)
  replace H1 := Lib.hid ((H1.out.later NB (Nat.le_refl _)).grown G.out (by simp [blk]))
  replace H2 := Lib.hid ((H2.out.later NB (Nat.le_refl _)).grown G.out (by simp [blk]))
  replace HB := Lib.hid ((HB.out.trans (NB.mono HB.out.size)).grown G.out (by have := HB.out.size; simp; omega) (fun k hk => by cases hk))
  clear NB O G
  go_wp2_with (first
    | (refine wpList_load_row rfl 46 (.tmp 1) rfl g1 rfl _ (endX ⟨me, ot, E, S, l, st2, lf2, RE, RL, false, ep, sq⟩ (some ⟨b0, o0, none⟩) m cr) _ _ H1.out end_under rfl end_size ?_)
    | (refine wpList_store_rowTo rfl 46 (.tmp 2) (.tmp 61) rfl rfl g2 (endX ⟨me, ot, E, S, l, st2, lf2, RE, RL, false, ep, sq⟩ (some ⟨b0, o0, none⟩) m cr) rfl rfl _ (endX z19 none 0 0) H2.out end_size rfl (endX_one _ _ _ _) ?_))
  have hgr := grown_row (w := w10) (g := g2) (endX ⟨me, ot, E, S, l, st2, lf2, RE, RL, false, ep, sq⟩ (some ⟨b0, o0, none⟩) m cr)
  replace XD := Lib.hid (XD.out.far hgr H2.out (by decide) (by decide))
  replace HB := Lib.hid (below_setRow HB.out (g := g2) (by have := HG2.out; omega) (endX ⟨me, ot, E, S, l, st2, lf2, RE, RL, false, ep, sq⟩ (some ⟨b0, o0, none⟩) m cr))
  replace H2 := Lib.hid (H2.out.rowE (endX ⟨me, ot, E, S, l, st2, lf2, RE, RL, false, ep, sq⟩ (some ⟨b0, o0, none⟩) m cr))
  clear hgr
  generalize w10.setRow g2 (endX ⟨me, ot, E, S, l, st2, lf2, RE, RL, false, ep, sq⟩ (some ⟨b0, o0, none⟩) m cr) = wz at *
  exact bodyPost_ret (v := .tuple #[.agg (endX ⟨me, ot, E, S, l, st2, lf2, RE, RL, false, ep, sq⟩ (some ⟨b0, o0, none⟩) m cr), .slice A10 (0 + 1) c10]) (results_cell_2 Tryd.results16 _ _ g2 46 (endX ⟨me, ot, E, S, l, st2, lf2, RE, RL, false, ep, sq⟩ (some ⟨b0, o0, none⟩) m cr) _ _ _ rfl rfl H2.out end_under rfl end_size) rfl ⟨A10, (0 + 1), c10, ([] ++ [.slice A9 m2 c9]), rfl, rfl, XD.out.read, HB.out, fun k e => (XD.out.1.lt k e).1⟩
set_option maxRecDepth 100000 in
set_option maxHeartbeats 4000000 in
theorem xout_ws (w : World)
    {L1 : List Nat} {m1 : Nat} {v1 : Value} (hm1 : m1 = L1.length) (QE : ∀ W : World, Calls Tryd.prog 17 #[.agg #[.int .i64 me, .int .i64 ot, .bool true, .int .i64 ep, .int .i64 sq, .slice none 0 0]] W (EncR W L1 v1))
    {b0 o0 : Nat} {A1 : Option Addr} {c1 nb : Nat} {b : List Nat} (hAr : Ar = some ⟨b0, o0, none⟩) (hm0 : 0 < m) (hcell : w.cell? ⟨b0, o0, none⟩ = some (.slice A1 nb c1)) (hnb : b.length = nb) (hat : At w A1 (nats .u8 b)) (k : Nat) (hk : k ≤ 3) (hst : st = (k : Int)) (hlf : lf = 0) {L2 : List Nat} {m2 : Nat} {v2 : Value} (hm2 : m2 = L2.length)
    (QF : ∀ (W : World) (A : Option Addr) (c : Nat), At W A (nats .u8 b) → Calls Tryd.prog 17 #[.agg #[.int .i64 me, .int .i64 ot, .bool false, .int .i64 E, .int .i64 S, .slice A nb c]] W (EncR W L2 v2)) :
    Calls Tryd.prog 16 #[.agg (endX ⟨me, ot, E, S, l, st, lf, RE, RL, true, ep, sq⟩ Ar m cr)] w (XOutE w ⟨me, ot, E, S, l, ((min (k + 1) 3 : Nat) : Int), ((3 * 2 ^ k : Nat) : Int), RE, RL, false, ep, sq⟩ Ar m cr [L1, L2]) := by
  have QE := Lib.hid QE
  have HM1 := Lib.hid hm1
  clear hm1
  subst hAr hst hlf
  have QF := Lib.hid QF
  have HM2 := Lib.hid hm2
  clear hm2
  have HC := Lib.hid hcell
  have HAT := Lib.hid hat
  have HNB := Lib.hid hnb
  clear hcell hat hnb
  obtain ⟨st2, hst2⟩ : ∃ x : Int, ((min (k + 1) 3 : Nat) : Int) = x := ⟨_, rfl⟩
  obtain ⟨lf2, hlf2⟩ : ∃ x : Int, ((3 * 2 ^ k : Nat) : Int) = x := ⟨_, rfl⟩
  rw [hst2, hlf2]
  have HE2 := Lib.hid hst2
  have HF2 := Lib.hid hlf2
  clear hst2 hlf2
  have HK := Lib.hid hk
  clear hk
  go_enter Tryd.func16, Tryd.ntmps16
  go_upto_region 1 with (first
    | (refine Great.wpList_boxTo rfl 46 (.tmp 0) rfl (some 1) rfl _ rfl (endX ⟨me, ot, E, S, l, (k : Int), 0, RE, RL, true, ep, sq⟩ (some ⟨b0, o0, none⟩) m cr) rfl ?_)
    | (refine Great.wpList_allocTo rfl (some 2) rfl _ (.cells (endX z19 none 0 0) 46) (run_allocE _ _ _ rfl) ?_))
  have H1 := Lib.hid ((Holds.new w 46 (endX ⟨me, ot, E, S, l, (k : Int), 0, RE, RL, true, ep, sq⟩ (some ⟨b0, o0, none⟩) m cr) w.heap.size rfl).alloc (.cells (endX z19 none 0 0) 46))
  have H2 := Lib.hid (Holds.new (w.alloc (.cells (endX ⟨me, ot, E, S, l, (k : Int), 0, RE, RL, true, ep, sq⟩ (some ⟨b0, o0, none⟩) m cr) 46)) 46 (endX z19 none 0 0) (w.heap.size + 1) (by simp))
  have HB := Lib.hid (((Below.refl w.heap.size w).alloc (Nat.le_refl _) (.cells (endX ⟨me, ot, E, S, l, (k : Int), 0, RE, RL, true, ep, sq⟩ (some ⟨b0, o0, none⟩) m cr) 46)).alloc (by simp) (.cells (endX z19 none 0 0) 46))
  generalize (w.alloc (.cells (endX ⟨me, ot, E, S, l, (k : Int), 0, RE, RL, true, ep, sq⟩ (some ⟨b0, o0, none⟩) m cr) 46)).alloc (.cells (endX z19 none 0 0) 46) = w2 at *
  obtain ⟨g1, hg1⟩ : ∃ g, w.heap.size = g := ⟨_, rfl⟩
  have HG := Lib.hid hg1
  obtain ⟨g2, hg2⟩ : ∃ g, w.heap.size + 1 = g := ⟨_, rfl⟩
  have HG2 := Lib.hid hg2
  rw [hg2] at H2 ⊢
  rw [hg1] at H1 ⊢
  clear hg1 hg2
  have XD := Lib.hid (XDg.none_ w.heap.size w2)
  have q0 : w2.cell? ⟨g1, 0, none⟩ = some (.int .i64 me) := H1.out.cell 0
  have q1 : w2.cell? ⟨g1, 1, none⟩ = some (.int .i64 ot) := H1.out.cell 1
  have q9 : w2.cell? ⟨g1, 9, none⟩ = some (.bool true) := H1.out.cell 9
  have q10 : w2.cell? ⟨g1, 10, none⟩ = some (.int .i64 ep) := H1.out.cell 10
  have q11 : w2.cell? ⟨g1, 11, none⟩ = some (.int .i64 sq) := H1.out.cell 11
  go_wp2_with fail
  with_reducible refine (QE.out _).mono ?_
  rintro e w3 ⟨A3, c3, rfl, o3, b3⟩
  have O3 := Lib.hid (show Own w3 w.heap.size 5 1 A3 m1 c3 (nats .u8 L1) from by rw [HM1.out]; exact ownsRow_le_ o3 HB.out.size)
  rw [← HM1.out]
  replace H1 := Lib.hid (H1.out.later b3 (Nat.le_refl _))
  replace H2 := Lib.hid (H2.out.later b3 (Nat.le_refl _))
  replace XD := Lib.hid (XD.out.later b3)
  replace HB := Lib.hid (HB.out.trans (b3.mono HB.out.size))
  clear b3 o3
  clear q0 q1 q9 q10 q11
  have NB := (Below.refl w3.heap.size w3).alloc (Nat.le_refl _) (.cells #[.slice A3 m1 c3] 22)
  go_upto_region 5 with (at_builtin; go_loud (refine wpList_app rfl elt_sl w.heap.size (.tmp 28) (.tmp 30) rfl [] rfl (XD.out.1.alloc _) [.slice A3 m1 c3] rfl (At.lit _ _ _ _ _ rfl) rfl (by intro u hu; simp at hu; subst hu; rfl) (by unfold maxLen; omega) (by omega) (by have := HB.out.size; simp; omega) ?_); intro A4 c4 w4 own4 gr4 hA4; have O := Lib.hid own4; have G := Lib.hid gr4; clear own4 gr4 hA4)
  replace XD := Lib.hid ((XD.out.later NB).push HM1.out (O3.out.alloc _) O.out G.out)
  replace H1 := Lib.hid ((H1.out.later NB (Nat.le_refl _)).grown G.out (by simp [blk]))
  replace H2 := Lib.hid ((H2.out.later NB (Nat.le_refl _)).grown G.out (by simp [blk]))
  replace HB := Lib.hid ((HB.out.trans (NB.mono HB.out.size)).grown G.out (by have := HB.out.size; simp; omega) (fun k hk => by cases hk))
  clear NB O G
  have z9 := H1.out.frozen 9
  have q9 : w4.cell? ⟨g1, 9, none⟩ = some (.bool true) := H1.out.cell 9
  go_upto_region 6 with fail
  have hgs := grown_set (grown_refl w4 (some g1)) 9 (.bool false)
  replace XD := Lib.hid (XD.out.far hgs H1.out (by decide) (by decide))
  replace H2 := Lib.hid (H2.out.grown hgs (fun e => by injection e with e; have := HG.out; have := HG2.out; omega))
  replace HB := Lib.hid (HB.out.setCell (p := ⟨g1, 9, none⟩) (by have := HG.out; show w.heap.size ≤ g1; omega) (.bool false))
  replace H1 := Lib.hid (show Holds (w4.setCell ⟨g1, 9, none⟩ (.bool false)) g1 46 (endX ⟨me, ot, E, S, l, (k : Int), 0, RE, RL, false, ep, sq⟩ (some ⟨b0, o0, none⟩) m cr) from H1.out.set 9 (.bool false))
  clear hgs q9 z9
  generalize w4.setCell ⟨g1, 9, none⟩ (.bool false) = w5 at *
  have q2 : w5.cell? ⟨g1, 2, none⟩ = some (.int .i64 E) := H1.out.cell 2
  have q3 : w5.cell? ⟨g1, 3, none⟩ = some (.int .i64 S) := H1.out.cell 3
  have q4 : w5.cell? ⟨g1, 4, none⟩ = some (.slice (some ⟨b0, o0, none⟩) m cr) := H1.out.cell 4
  have q5 : w5.cell? ⟨g1, 5, none⟩ = some (.int .i64 (k : Int)) := H1.out.cell 5
  have q6 : w5.cell? ⟨g1, 6, none⟩ = some (.int .i64 0) := H1.out.cell 6
  have hcw := (HB.out.cell (p := ⟨b0, o0, none⟩) (lt_of_cell HC.out)).trans HC.out
  have CO := Lib.hid (rout_any (w := w5) (E := E) (S := S) (n := m) (c := cr) (.slice A1 nb c1) k HK.out hm0 (lt_of_cell hcw) hcw)
  rw [HE2.out, HF2.out, show ((0 : Nat) : Int) = 0 from rfl] at CO
  clear hcw
  go_wp2_with fail
  with_reducible refine CO.out.mono ?_
  rintro e w6 ⟨rfl, b6⟩
  clear CO
  replace H1 := Lib.hid (H1.out.later b6 (Nat.le_refl _))
  replace H2 := Lib.hid (H2.out.later b6 (Nat.le_refl _))
  replace XD := Lib.hid (XD.out.later b6)
  replace HB := Lib.hid (HB.out.trans (b6.mono HB.out.size))
  clear b6 q2 q3 q4 q5 q6
  go_upto_region 7 with (first
    | (refine Great.wpList_allocTo rfl (some 7) rfl _ (.cells (sndC 0 0 none 0 0 0 0) 42) (run_allocS _ _ _ rfl) ?_)
    | (refine wpList_store_rowTo rfl 42 (.tmp 7) (.tmp 37) rfl rfl w6.heap.size (sndC E S (some ⟨b0, o0, none⟩) m cr st2 lf2) rfl rfl 42 (sndC 0 0 none 0 0 0 0) (Holds.new w6 42 (sndC 0 0 none 0 0 0 0) w6.heap.size rfl) snd_size rfl (sndC_one _ _ _ _ _ _ _) ?_))
  have H3 := Lib.hid ((Holds.new w6 42 (sndC 0 0 none 0 0 0 0) w6.heap.size rfl).rowE (sndC E S (some ⟨b0, o0, none⟩) m cr st2 lf2))
  have b7 := below_setRow ((Below.refl w6.heap.size w6).alloc (Nat.le_refl _) (.cells (sndC 0 0 none 0 0 0 0) 42)) (g := w6.heap.size) (Nat.le_refl _) (sndC E S (some ⟨b0, o0, none⟩) m cr st2 lf2)
  have hne := HB.out.size
  have hg1l := H1.out.lt
  replace H1 := Lib.hid (H1.out.later b7 (Nat.le_refl _))
  replace H2 := Lib.hid (H2.out.later b7 (Nat.le_refl _))
  replace XD := Lib.hid (XD.out.later b7)
  replace HB := Lib.hid (HB.out.trans (b7.mono HB.out.size))
  generalize (w6.alloc (.cells (sndC 0 0 none 0 0 0 0) 42)).setRow w6.heap.size (sndC E S (some ⟨b0, o0, none⟩) m cr st2 lf2) = w7 at *
  obtain ⟨g3, hg3⟩ : ∃ g, w6.heap.size = g := ⟨_, rfl⟩
  rw [hg3] at H3 hg1l ⊢
  have HG3 := Lib.hid (show g1 < g3 from hg1l)
  clear b7 hg3 hne hg1l
  have z2 := H1.out.frozen 2
  have z3 := H1.out.frozen 3
  have z4 := H1.out.frozen 4
  have z5 := H1.out.frozen 5
  have z6 := H1.out.frozen 6
  have q2 : w7.cell? ⟨g1, 2, none⟩ = some (.int .i64 E) := H1.out.cell 2
  have q3 : w7.cell? ⟨g1, 3, none⟩ = some (.int .i64 S) := H1.out.cell 3
  have q4 : w7.cell? ⟨g1, 4, none⟩ = some (.slice (some ⟨b0, o0, none⟩) m cr) := H1.out.cell 4
  have q5 : w7.cell? ⟨g1, 5, none⟩ = some (.int .i64 (k : Int)) := H1.out.cell 5
  have q6 : w7.cell? ⟨g1, 6, none⟩ = some (.int .i64 0) := H1.out.cell 6
  go_upto_region 8 with (refine wpList_load_row rfl 42 (.tmp 7) rfl g3 rfl _ #[.int .i64 E, .int .i64 S, .slice (some ⟨b0, o0, none⟩) m cr, .int .i64 st2, .int .i64 lf2] _ _ H3.out snd_under rfl snd_size ?_)
  have hgs := (grown_set (grown_set (grown_set (grown_set (grown_set (grown_refl w7 (some g1)) 2 (.int .i64 E)) 3 (.int .i64 S)) 4 (.slice (some ⟨b0, o0, none⟩) m cr)) 5 (.int .i64 st2)) 6 (.int .i64 lf2))
  replace XD := Lib.hid (XD.out.far hgs H1.out (by decide) (by decide))
  replace H2 := Lib.hid (H2.out.grown hgs (fun e => by injection e with e; have := HG.out; have := HG2.out; omega))
  replace H3 := Lib.hid (H3.out.grown hgs (fun e => by injection e with e; have := HG3.out; omega))
  replace HB := Lib.hid (HB.out.grown hgs HB.out.size (fun k hk => by injection hk with hk; have := HG.out; omega))
  replace H1 := Lib.hid (show Holds (((((w7.setCell ⟨g1, 2, none⟩ (.int .i64 E)).setCell ⟨g1, 3, none⟩ (.int .i64 S)).setCell ⟨g1, 4, none⟩ (.slice (some ⟨b0, o0, none⟩) m cr)).setCell ⟨g1, 5, none⟩ (.int .i64 st2)).setCell ⟨g1, 6, none⟩ (.int .i64 lf2)) g1 46 (endX ⟨me, ot, E, S, l, st2, lf2, RE, RL, false, ep, sq⟩ (some ⟨b0, o0, none⟩) m cr) from (((((H1.out.set 2 (.int .i64 E)).set 3 (.int .i64 S)).set 4 (.slice (some ⟨b0, o0, none⟩) m cr)).set 5 (.int .i64 st2)).set 6 (.int .i64 lf2)))
  clear hgs z2 q2 z3 q3 z4 q4 z5 q5 z6 q6
  generalize (((((w7.setCell ⟨g1, 2, none⟩ (.int .i64 E)).setCell ⟨g1, 3, none⟩ (.int .i64 S)).setCell ⟨g1, 4, none⟩ (.slice (some ⟨b0, o0, none⟩) m cr)).setCell ⟨g1, 5, none⟩ (.int .i64 st2)).setCell ⟨g1, 6, none⟩ (.int .i64 lf2)) = w8 at *
  have q0 : w8.cell? ⟨g1, 0, none⟩ = some (.int .i64 me) := H1.out.cell 0
  have q1 : w8.cell? ⟨g1, 1, none⟩ = some (.int .i64 ot) := H1.out.cell 1
  have r0 : w8.cell? ⟨g3, 0, none⟩ = some (.int .i64 E) := H3.out.cell 0
  have QG := Lib.hid (QF.out w8 A1 c1 (HAT.out.later HB.out (Nat.le_refl _)))
  go_wp2_with fail
  with_reducible refine (QG.out).mono ?_
  rintro e w9 ⟨A9, c9, rfl, o9, b9⟩
  have O9 := Lib.hid (show Own w9 w.heap.size 5 1 A9 m2 c9 (nats .u8 L2) from by rw [HM2.out]; exact ownsRow_le_ o9 HB.out.size)
  rw [← HM2.out]
  replace H1 := Lib.hid (H1.out.later b9 (Nat.le_refl _))
  replace H2 := Lib.hid (H2.out.later b9 (Nat.le_refl _))
  replace XD := Lib.hid (XD.out.later b9)
  replace HB := Lib.hid (HB.out.trans (b9.mono HB.out.size))
  clear b9 o9
  clear q0 q1 r0 QG H3
  have XH := Lib.hid (fun k (e : blk A4 = some k) => (⟨Own.holds_ne XD.out.1 H1.out (by decide) e, Own.holds_ne XD.out.1 H2.out (by decide) e, (XD.out.1.lt k e).1⟩ : k ≠ g1 ∧ k ≠ g2 ∧ w.heap.size ≤ k))
  have NB := (Below.refl w9.heap.size w9).alloc (Nat.le_refl _) (.cells #[.slice A9 m2 c9] 22)
  go_upto_region 11 with (at_builtin; go_loud (refine wpList_app rfl elt_sl w.heap.size (.tmp 57) (.tmp 59) rfl ([] ++ [.slice A3 m1 c3]) rfl (XD.out.1.alloc _) [.slice A9 m2 c9] rfl (At.lit _ _ _ _ _ rfl) rfl (by intro u hu; simp at hu; subst hu; rfl) (by unfold maxLen; omega) (by omega) (by have := HB.out.size; simp; omega) ?_); intro A10 c10 w10 own10 gr10 hA10; have O := Lib.hid own10; have G := Lib.hid gr10; clear own10 gr10 hA10)
  replace XD := Lib.hid ((XD.out.later NB).push HM2.out (O9.out.alloc _) O.out G.out)
  replace H1 := Lib.hid ((H1.out.later NB (Nat.le_refl _)).grown G.out (fun e => absurd (XH.out g1 e) (fun h => h.1 rfl)))
  replace H2 := Lib.hid ((H2.out.later NB (Nat.le_refl _)).grown G.out (fun e => absurd (XH.out g2 e) (fun h => h.2.1 rfl)))
  replace HB := Lib.hid ((HB.out.trans (NB.mono HB.out.size)).grown G.out (by have := HB.out.size; simp; omega) (fun k hk => (XH.out k hk).2.2))
  clear NB O G
  go_wp2_with (first
    | (refine wpList_load_row rfl 46 (.tmp 1) rfl g1 rfl _ (endX ⟨me, ot, E, S, l, st2, lf2, RE, RL, false, ep, sq⟩ (some ⟨b0, o0, none⟩) m cr) _ _ H1.out end_under rfl end_size ?_)
    | (refine wpList_store_rowTo rfl 46 (.tmp 2) (.tmp 61) rfl rfl g2 (endX ⟨me, ot, E, S, l, st2, lf2, RE, RL, false, ep, sq⟩ (some ⟨b0, o0, none⟩) m cr) rfl rfl _ (endX z19 none 0 0) H2.out end_size rfl (endX_one _ _ _ _) ?_))
  have hgr := grown_row (w := w10) (g := g2) (endX ⟨me, ot, E, S, l, st2, lf2, RE, RL, false, ep, sq⟩ (some ⟨b0, o0, none⟩) m cr)
  replace XD := Lib.hid (XD.out.far hgr H2.out (by decide) (by decide))
  replace HB := Lib.hid (below_setRow HB.out (g := g2) (by have := HG2.out; omega) (endX ⟨me, ot, E, S, l, st2, lf2, RE, RL, false, ep, sq⟩ (some ⟨b0, o0, none⟩) m cr))
  replace H2 := Lib.hid (H2.out.rowE (endX ⟨me, ot, E, S, l, st2, lf2, RE, RL, false, ep, sq⟩ (some ⟨b0, o0, none⟩) m cr))
  clear hgr
  generalize w10.setRow g2 (endX ⟨me, ot, E, S, l, st2, lf2, RE, RL, false, ep, sq⟩ (some ⟨b0, o0, none⟩) m cr) = wz at *
  exact bodyPost_ret (v := .tuple #[.agg (endX ⟨me, ot, E, S, l, st2, lf2, RE, RL, false, ep, sq⟩ (some ⟨b0, o0, none⟩) m cr), .slice A10 ((0 + 1) + 1) c10]) (results_cell_2 Tryd.results16 _ _ g2 46 (endX ⟨me, ot, E, S, l, st2, lf2, RE, RL, false, ep, sq⟩ (some ⟨b0, o0, none⟩) m cr) _ _ _ rfl rfl H2.out end_under rfl end_size) rfl ⟨A10, ((0 + 1) + 1), c10, (([] ++ [.slice A3 m1 c3]) ++ [.slice A9 m2 c9]), rfl, rfl, XD.out.read, HB.out, fun k e => (XD.out.1.lt k e).1⟩
end
end Go.Proofs.YtodimanghmepoaaDoor
