/- Layer 19: the document's end: Hear, where a body comes. Printed by ltc.py. -/
import Derived.Test.YtodimanghmepoaaDoorLtC
namespace Go.Proofs.YtodimanghmepoaaDoor
open Go.RowKit
theorem endX_no (s : LSt) (A : Option Addr) (m c : Nat) : ∀ (i : Nat) (x : Int), (endX s A m c)[i]? ≠ some (Value.int .u8 x) := by
  intro i x
  match i with
  | 0 => simp [endX]
  | 1 => simp [endX]
  | 2 => simp [endX]
  | 3 => simp [endX]
  | 4 => simp [endX]
  | 5 => simp [endX]
  | 6 => simp [endX]
  | 7 => simp [endX]
  | 8 => simp [endX]
  | 9 => simp [endX]
  | 10 => simp [endX]
  | 11 => simp [endX]
  | i + 12 => simp [endX]
section
variable {me ot E S st lf RE RL ep0 sq0 : Int} {gv : Bool} {l : List (List Nat)} {Ar : Option Addr} {m cr : Nat}
set_option maxRecDepth 100000 in
set_option maxHeartbeats 4000000 in
theorem xhear_data_n (w : World) (A : Option Addr) (n c : Nat) (b : List Nat) (hl : b.length = n) (hnc : n ≤ c) (hc2 : c ≤ 9223372036854775807) (hat : At w A (nats .u8 b)) (hb : ∀ y ∈ b, y < 256) (hn9 : n ≤ 900 ∨ 8300 < n)
    {fr dt : Nat} {ep sq : Nat} {bd : List Nat} (hg : Good b fr dt false ep sq bd) (hf : (fr : Int) = ot) (ht : (dt : Int) = me) (hRE : 0 ≤ RE ∧ RE ≤ 1073741824) (hRL : 0 ≤ RL ∧ RL ≤ 1073741824) {tk : Bool} {la RE2 RL2 : Int} (hrc : rc RE RL ep sq = ((RE2, RL2), tk, la)) (htk : tk = false) (hla : la < 0) :
    Calls Tryd.prog 18 #[.agg (endX ⟨me, ot, E, S, l, st, lf, RE, RL, gv, ep0, sq0⟩ Ar m cr), .slice A n c] w (XHearE w ⟨me, ot, E, S, l, st, lf, RE2, RL2, gv, ep0, sq0⟩ Ar m cr [] false 0) := by
  have CD := Lib.hid (fun (W : World) (hW : Below w.heap.size w W) => deck_any A n c b W hl hnc hc2 (hat.later hW (Nat.le_refl _)) hb hn9)
  clear hat hb hl hnc hc2 hn9
  subst htk
  have HF := Lib.hid hf
  have HTT := Lib.hid ht
  have HRC := Lib.hid hrc
  have HRE := Lib.hid hRE
  have HRL := Lib.hid hRL
  clear hf ht hrc hRE hRL
  go_enter Tryd.func18, Tryd.ntmps18
  go_upto_region 1 with (first
    | (refine Great.wpList_boxTo rfl 46 (.tmp 0) rfl (some 2) rfl _ rfl (endX ⟨me, ot, E, S, l, st, lf, RE, RL, gv, ep0, sq0⟩ Ar m cr) rfl ?_)
    | (refine Great.wpList_allocTo rfl (some 4) rfl _ (.cells (endX z19 none 0 0) 46) (run_allocE _ _ _ rfl) ?_))
  have H1 := Lib.hid ((Holds.new w 46 (endX ⟨me, ot, E, S, l, st, lf, RE, RL, gv, ep0, sq0⟩ Ar m cr) w.heap.size rfl).alloc (.cells (endX z19 none 0 0) 46))
  have H2 := Lib.hid (Holds.new (w.alloc (.cells (endX ⟨me, ot, E, S, l, st, lf, RE, RL, gv, ep0, sq0⟩ Ar m cr) 46)) 46 (endX z19 none 0 0) (w.heap.size + 1) (by simp))
  have HB := Lib.hid (((Below.refl w.heap.size w).alloc (Nat.le_refl _) (.cells (endX ⟨me, ot, E, S, l, st, lf, RE, RL, gv, ep0, sq0⟩ Ar m cr) 46)).alloc (by simp) (.cells (endX z19 none 0 0) 46))
  generalize (w.alloc (.cells (endX ⟨me, ot, E, S, l, st, lf, RE, RL, gv, ep0, sq0⟩ Ar m cr) 46)).alloc (.cells (endX z19 none 0 0) 46) = w2 at *
  obtain ⟨g1, hg1⟩ : ∃ g, w.heap.size = g := ⟨_, rfl⟩
  have HG := Lib.hid hg1
  obtain ⟨g2, hg2⟩ : ∃ g, w.heap.size + 1 = g := ⟨_, rfl⟩
  have HG2 := Lib.hid hg2
  rw [hg2] at H2 ⊢
  rw [hg1] at H1 ⊢
  clear hg1 hg2
  go_wp2_with fail
  with_reducible refine (CD.out w2 HB.out).mono ?_
  rintro e w3 ⟨fr', dt', k', ep', sq', bd', x, A1, c1, rfl, hat1, b3, hres⟩
  obtain ⟨rfl, rfl, rfl, rfl, rfl, rfl, rfl⟩ := hres.uniq (.inl ⟨rfl, hg⟩)
  have HGD := Lib.hid hg
  clear hg
  simp only [pkF]
  have HT := Lib.hid hat1
  replace H1 := Lib.hid (H1.out.later b3 (Nat.le_refl _))
  replace H2 := Lib.hid (H2.out.later b3 (Nat.le_refl _))
  replace HB := Lib.hid (HB.out.trans (b3.mono HB.out.size))
  clear b3 hat1 hres CD
  go_upto_region 2 with fail
  have H3 := Lib.hid (Holds.new w3 50 #[.int .i64 (fr' : Int), .int .i64 (dt' : Int), .bool false, .int .i64 (ep' : Int), .int .i64 (sq' : Int), .slice A1 bd'.length c1] w3.heap.size rfl)
  have b4 := (Below.refl w3.heap.size w3).alloc (Nat.le_refl _) (.cells #[.int .i64 (fr' : Int), .int .i64 (dt' : Int), .bool false, .int .i64 (ep' : Int), .int .i64 (sq' : Int), .slice A1 bd'.length c1] 50)
  have hne := HB.out.size
  have hl1 := H1.out.lt
  have hl2 := H2.out.lt
  replace H1 := Lib.hid (H1.out.later b4 (Nat.le_refl _))
  replace H2 := Lib.hid (H2.out.later b4 (Nat.le_refl _))
  replace HB := Lib.hid (HB.out.trans (b4.mono HB.out.size))
  have HT4 := Lib.hid (HT.out.later b4 (Nat.le_refl _))
  generalize w3.alloc (.cells #[.int .i64 (fr' : Int), .int .i64 (dt' : Int), .bool false, .int .i64 (ep' : Int), .int .i64 (sq' : Int), .slice A1 bd'.length c1] 50) = w4 at *
  obtain ⟨g3, hg3⟩ : ∃ g, w3.heap.size = g := ⟨_, rfl⟩
  rw [hg3] at H3 hl1 hl2 ⊢
  have HG3 := Lib.hid (show g1 < g3 ∧ g2 < g3 from ⟨hl1, hl2⟩)
  clear b4 hg3 hne hl1 hl2 HT
  have q0 : w4.cell? ⟨g1, 0, none⟩ = some (.int .i64 me) := H1.out.cell 0
  have q1 : w4.cell? ⟨g1, 1, none⟩ = some (.int .i64 ot) := H1.out.cell 1
  have r0 : w4.cell? ⟨g3, 0, none⟩ = some (.int .i64 (fr' : Int)) := H3.out.cell 0
  have r1 : w4.cell? ⟨g3, 1, none⟩ = some (.int .i64 (dt' : Int)) := H3.out.cell 1
  have d1 : ((fr' : Int) == ot) = true := beq_iff_eq.2 HF.out
  have d2 : ((dt' : Int) == me) = true := beq_iff_eq.2 HTT.out
  have r2 : w4.cell? ⟨g3, 2, none⟩ = some (.bool false) := H3.out.cell 2
  have r3 : w4.cell? ⟨g3, 3, none⟩ = some (.int .i64 (ep' : Int)) := H3.out.cell 3
  have r4 : w4.cell? ⟨g3, 4, none⟩ = some (.int .i64 (sq' : Int)) := H3.out.cell 4
  have q7 : w4.cell? ⟨g1, 7, none⟩ = some (.int .i64 RE) := H1.out.cell 7
  have q8 : w4.cell? ⟨g1, 8, none⟩ = some (.int .i64 RL) := H1.out.cell 8
  have CH := refTake_any RE RL (ep' : Int) (sq' : Int) w4 HRE.out HRL.out
  rw [HRC.out] at CH
  have CH := Lib.hid CH
  go_wp2_with fail
  with_reducible refine CH.out.mono ?_
  rintro e w5 ⟨rfl, b5⟩
  clear CH q0 q1 r0 r1 r2 r3 r4 q7 q8
  replace H1 := Lib.hid (H1.out.later b5 (Nat.le_refl _))
  replace H2 := Lib.hid (H2.out.later b5 (Nat.le_refl _))
  replace H3 := Lib.hid (H3.out.later b5 (Nat.le_refl _))
  replace HT4 := Lib.hid (HT4.out.later b5 (Nat.le_refl _))
  replace HB := Lib.hid (HB.out.trans (b5.mono HB.out.size))
  clear b5
  go_upto_region 10 with fail
  have H4 := Lib.hid (Holds.new w5 44 #[.int .i64 RE2, .int .i64 RL2] w5.heap.size rfl)
  have b6 := (Below.refl w5.heap.size w5).alloc (Nat.le_refl _) (.cells #[.int .i64 RE2, .int .i64 RL2] 44)
  have hl1 := H1.out.lt
  replace H1 := Lib.hid (H1.out.later b6 (Nat.le_refl _))
  replace H2 := Lib.hid (H2.out.later b6 (Nat.le_refl _))
  replace H3 := Lib.hid (H3.out.later b6 (Nat.le_refl _))
  replace HT4 := Lib.hid (HT4.out.later b6 (Nat.le_refl _))
  replace HB := Lib.hid (HB.out.trans (b6.mono HB.out.size))
  generalize w5.alloc (.cells #[.int .i64 RE2, .int .i64 RL2] 44) = w6 at *
  obtain ⟨g4, hg4⟩ : ∃ g, w5.heap.size = g := ⟨_, rfl⟩
  rw [hg4] at H4 hl1 ⊢
  have HG4 := Lib.hid hl1
  clear b6 hg4 hl1
  have q7 : w6.cell? ⟨g1, 7, none⟩ = some (.int .i64 RE) := H1.out.cell 7
  have q8 : w6.cell? ⟨g1, 8, none⟩ = some (.int .i64 RL) := H1.out.cell 8
  have z7 := H1.out.frozen 7
  have z8 := H1.out.frozen 8
  have x0 : w6.cell? ⟨g4, 0, none⟩ = some (.int .i64 RE2) := H4.out.cell 0
  have x1 : w6.cell? ⟨g4, 1, none⟩ = some (.int .i64 RL2) := H4.out.cell 1
  go_upto_region 11 with fail
  have hgs := (grown_set (grown_set (grown_refl w6 (some g1)) 7 (.int .i64 RE2)) 8 (.int .i64 RL2))
  replace H2 := Lib.hid (H2.out.grown hgs (fun e => by injection e with e; have := HG.out; have := HG2.out; omega))
  replace H3 := Lib.hid (H3.out.grown hgs (fun e => by injection e with e; have := HG3.out; omega))
  replace HB := Lib.hid (HB.out.grown hgs HB.out.size (fun k hk => by injection hk with hk; have := HG.out; omega))
  replace HT4 := Lib.hid (HT4.out.apart H1.out (endX_no _ _ _ _) (Chg.of_grown hgs rfl))
  replace H1 := Lib.hid (show Holds ((w6.setCell ⟨g1, 7, none⟩ (.int .i64 RE2)).setCell ⟨g1, 8, none⟩ (.int .i64 RL2)) g1 46 (endX ⟨me, ot, E, S, l, st, lf, RE2, RL2, gv, ep0, sq0⟩ Ar m cr) from ((H1.out.set 7 (.int .i64 RE2)).set 8 (.int .i64 RL2)))
  clear hgs q7 q8 z7 z8 x0 x1
  generalize ((w6.setCell ⟨g1, 7, none⟩ (.int .i64 RE2)).setCell ⟨g1, 8, none⟩ (.int .i64 RL2)) = w7 at *
  have d0 : decide (0 ≤ la) = false := decide_eq_false (by omega)
  go_wp2_with (first
    | (refine wpList_load_row rfl 46 (.tmp 2) rfl g1 rfl _ (endX ⟨me, ot, E, S, l, st, lf, RE2, RL2, gv, ep0, sq0⟩ Ar m cr) _ _ H1.out end_under rfl end_size ?_)
    | (refine wpList_store_rowTo rfl 46 (.tmp 4) (.tmp 72) rfl rfl g2 (endX ⟨me, ot, E, S, l, st, lf, RE2, RL2, gv, ep0, sq0⟩ Ar m cr) rfl rfl _ (endX z19 none 0 0) H2.out end_size rfl (endX_one _ _ _ _) ?_))
  replace HB := Lib.hid (below_setRow HB.out (g := g2) (by have := HG2.out; omega) (endX ⟨me, ot, E, S, l, st, lf, RE2, RL2, gv, ep0, sq0⟩ Ar m cr))
  replace H2 := Lib.hid (H2.out.rowE (endX ⟨me, ot, E, S, l, st, lf, RE2, RL2, gv, ep0, sq0⟩ Ar m cr))
  generalize World.setRow _ g2 (endX ⟨me, ot, E, S, l, st, lf, RE2, RL2, gv, ep0, sq0⟩ Ar m cr) = wz at *
  exact bodyPost_ret (v := .tuple #[.agg (endX ⟨me, ot, E, S, l, st, lf, RE2, RL2, gv, ep0, sq0⟩ Ar m cr), .slice none 0 0, .bool false, .int .i64 0]) (results_cell_4 Tryd.results18 _ _ g2 46 (endX ⟨me, ot, E, S, l, st, lf, RE2, RL2, gv, ep0, sq0⟩ Ar m cr) _ _ _ _ _ rfl rfl rfl rfl H2.out end_under rfl end_size) rfl ⟨none, 0, rfl, At.nil _ _, HB.out⟩
set_option maxRecDepth 100000 in
set_option maxHeartbeats 4000000 in
theorem xhear_data_g (w : World) (A : Option Addr) (n c : Nat) (b : List Nat) (hl : b.length = n) (hnc : n ≤ c) (hc2 : c ≤ 9223372036854775807) (hat : At w A (nats .u8 b)) (hb : ∀ y ∈ b, y < 256) (hn9 : n ≤ 900 ∨ 8300 < n)
    {fr dt : Nat} {ep sq : Nat} {bd : List Nat} (hg : Good b fr dt false ep sq bd) (hf : (fr : Int) = ot) (ht : (dt : Int) = me) (hRE : 0 ≤ RE ∧ RE ≤ 1073741824) (hRL : 0 ≤ RL ∧ RL ≤ 1073741824) {tk : Bool} {la RE2 RL2 : Int} (hrc : rc RE RL ep sq = ((RE2, RL2), tk, la)) (htk : tk = false) (hla : 0 ≤ la) :
    Calls Tryd.prog 18 #[.agg (endX ⟨me, ot, E, S, l, st, lf, RE, RL, gv, ep0, sq0⟩ Ar m cr), .slice A n c] w (XHearE w ⟨me, ot, E, S, l, st, lf, RE2, RL2, true, (ep : Int), la⟩ Ar m cr [] false 0) := by
  have CD := Lib.hid (fun (W : World) (hW : Below w.heap.size w W) => deck_any A n c b W hl hnc hc2 (hat.later hW (Nat.le_refl _)) hb hn9)
  clear hat hb hl hnc hc2 hn9
  subst htk
  have HF := Lib.hid hf
  have HTT := Lib.hid ht
  have HRC := Lib.hid hrc
  have HRE := Lib.hid hRE
  have HRL := Lib.hid hRL
  clear hf ht hrc hRE hRL
  go_enter Tryd.func18, Tryd.ntmps18
  go_upto_region 1 with (first
    | (refine Great.wpList_boxTo rfl 46 (.tmp 0) rfl (some 2) rfl _ rfl (endX ⟨me, ot, E, S, l, st, lf, RE, RL, gv, ep0, sq0⟩ Ar m cr) rfl ?_)
    | (refine Great.wpList_allocTo rfl (some 4) rfl _ (.cells (endX z19 none 0 0) 46) (run_allocE _ _ _ rfl) ?_))
  have H1 := Lib.hid ((Holds.new w 46 (endX ⟨me, ot, E, S, l, st, lf, RE, RL, gv, ep0, sq0⟩ Ar m cr) w.heap.size rfl).alloc (.cells (endX z19 none 0 0) 46))
  have H2 := Lib.hid (Holds.new (w.alloc (.cells (endX ⟨me, ot, E, S, l, st, lf, RE, RL, gv, ep0, sq0⟩ Ar m cr) 46)) 46 (endX z19 none 0 0) (w.heap.size + 1) (by simp))
  have HB := Lib.hid (((Below.refl w.heap.size w).alloc (Nat.le_refl _) (.cells (endX ⟨me, ot, E, S, l, st, lf, RE, RL, gv, ep0, sq0⟩ Ar m cr) 46)).alloc (by simp) (.cells (endX z19 none 0 0) 46))
  generalize (w.alloc (.cells (endX ⟨me, ot, E, S, l, st, lf, RE, RL, gv, ep0, sq0⟩ Ar m cr) 46)).alloc (.cells (endX z19 none 0 0) 46) = w2 at *
  obtain ⟨g1, hg1⟩ : ∃ g, w.heap.size = g := ⟨_, rfl⟩
  have HG := Lib.hid hg1
  obtain ⟨g2, hg2⟩ : ∃ g, w.heap.size + 1 = g := ⟨_, rfl⟩
  have HG2 := Lib.hid hg2
  rw [hg2] at H2 ⊢
  rw [hg1] at H1 ⊢
  clear hg1 hg2
  go_wp2_with fail
  with_reducible refine (CD.out w2 HB.out).mono ?_
  rintro e w3 ⟨fr', dt', k', ep', sq', bd', x, A1, c1, rfl, hat1, b3, hres⟩
  obtain ⟨rfl, rfl, rfl, rfl, rfl, rfl, rfl⟩ := hres.uniq (.inl ⟨rfl, hg⟩)
  have HGD := Lib.hid hg
  clear hg
  simp only [pkF]
  have HT := Lib.hid hat1
  replace H1 := Lib.hid (H1.out.later b3 (Nat.le_refl _))
  replace H2 := Lib.hid (H2.out.later b3 (Nat.le_refl _))
  replace HB := Lib.hid (HB.out.trans (b3.mono HB.out.size))
  clear b3 hat1 hres CD
  go_upto_region 2 with fail
  have H3 := Lib.hid (Holds.new w3 50 #[.int .i64 (fr' : Int), .int .i64 (dt' : Int), .bool false, .int .i64 (ep' : Int), .int .i64 (sq' : Int), .slice A1 bd'.length c1] w3.heap.size rfl)
  have b4 := (Below.refl w3.heap.size w3).alloc (Nat.le_refl _) (.cells #[.int .i64 (fr' : Int), .int .i64 (dt' : Int), .bool false, .int .i64 (ep' : Int), .int .i64 (sq' : Int), .slice A1 bd'.length c1] 50)
  have hne := HB.out.size
  have hl1 := H1.out.lt
  have hl2 := H2.out.lt
  replace H1 := Lib.hid (H1.out.later b4 (Nat.le_refl _))
  replace H2 := Lib.hid (H2.out.later b4 (Nat.le_refl _))
  replace HB := Lib.hid (HB.out.trans (b4.mono HB.out.size))
  have HT4 := Lib.hid (HT.out.later b4 (Nat.le_refl _))
  generalize w3.alloc (.cells #[.int .i64 (fr' : Int), .int .i64 (dt' : Int), .bool false, .int .i64 (ep' : Int), .int .i64 (sq' : Int), .slice A1 bd'.length c1] 50) = w4 at *
  obtain ⟨g3, hg3⟩ : ∃ g, w3.heap.size = g := ⟨_, rfl⟩
  rw [hg3] at H3 hl1 hl2 ⊢
  have HG3 := Lib.hid (show g1 < g3 ∧ g2 < g3 from ⟨hl1, hl2⟩)
  clear b4 hg3 hne hl1 hl2 HT
  have q0 : w4.cell? ⟨g1, 0, none⟩ = some (.int .i64 me) := H1.out.cell 0
  have q1 : w4.cell? ⟨g1, 1, none⟩ = some (.int .i64 ot) := H1.out.cell 1
  have r0 : w4.cell? ⟨g3, 0, none⟩ = some (.int .i64 (fr' : Int)) := H3.out.cell 0
  have r1 : w4.cell? ⟨g3, 1, none⟩ = some (.int .i64 (dt' : Int)) := H3.out.cell 1
  have d1 : ((fr' : Int) == ot) = true := beq_iff_eq.2 HF.out
  have d2 : ((dt' : Int) == me) = true := beq_iff_eq.2 HTT.out
  have r2 : w4.cell? ⟨g3, 2, none⟩ = some (.bool false) := H3.out.cell 2
  have r3 : w4.cell? ⟨g3, 3, none⟩ = some (.int .i64 (ep' : Int)) := H3.out.cell 3
  have r4 : w4.cell? ⟨g3, 4, none⟩ = some (.int .i64 (sq' : Int)) := H3.out.cell 4
  have q7 : w4.cell? ⟨g1, 7, none⟩ = some (.int .i64 RE) := H1.out.cell 7
  have q8 : w4.cell? ⟨g1, 8, none⟩ = some (.int .i64 RL) := H1.out.cell 8
  have CH := refTake_any RE RL (ep' : Int) (sq' : Int) w4 HRE.out HRL.out
  rw [HRC.out] at CH
  have CH := Lib.hid CH
  go_wp2_with fail
  with_reducible refine CH.out.mono ?_
  rintro e w5 ⟨rfl, b5⟩
  clear CH q0 q1 r0 r1 r2 r3 r4 q7 q8
  replace H1 := Lib.hid (H1.out.later b5 (Nat.le_refl _))
  replace H2 := Lib.hid (H2.out.later b5 (Nat.le_refl _))
  replace H3 := Lib.hid (H3.out.later b5 (Nat.le_refl _))
  replace HT4 := Lib.hid (HT4.out.later b5 (Nat.le_refl _))
  replace HB := Lib.hid (HB.out.trans (b5.mono HB.out.size))
  clear b5
  go_upto_region 10 with fail
  have H4 := Lib.hid (Holds.new w5 44 #[.int .i64 RE2, .int .i64 RL2] w5.heap.size rfl)
  have b6 := (Below.refl w5.heap.size w5).alloc (Nat.le_refl _) (.cells #[.int .i64 RE2, .int .i64 RL2] 44)
  have hl1 := H1.out.lt
  replace H1 := Lib.hid (H1.out.later b6 (Nat.le_refl _))
  replace H2 := Lib.hid (H2.out.later b6 (Nat.le_refl _))
  replace H3 := Lib.hid (H3.out.later b6 (Nat.le_refl _))
  replace HT4 := Lib.hid (HT4.out.later b6 (Nat.le_refl _))
  replace HB := Lib.hid (HB.out.trans (b6.mono HB.out.size))
  generalize w5.alloc (.cells #[.int .i64 RE2, .int .i64 RL2] 44) = w6 at *
  obtain ⟨g4, hg4⟩ : ∃ g, w5.heap.size = g := ⟨_, rfl⟩
  rw [hg4] at H4 hl1 ⊢
  have HG4 := Lib.hid hl1
  clear b6 hg4 hl1
  have q7 : w6.cell? ⟨g1, 7, none⟩ = some (.int .i64 RE) := H1.out.cell 7
  have q8 : w6.cell? ⟨g1, 8, none⟩ = some (.int .i64 RL) := H1.out.cell 8
  have z7 := H1.out.frozen 7
  have z8 := H1.out.frozen 8
  have x0 : w6.cell? ⟨g4, 0, none⟩ = some (.int .i64 RE2) := H4.out.cell 0
  have x1 : w6.cell? ⟨g4, 1, none⟩ = some (.int .i64 RL2) := H4.out.cell 1
  go_upto_region 11 with fail
  have hgs := (grown_set (grown_set (grown_refl w6 (some g1)) 7 (.int .i64 RE2)) 8 (.int .i64 RL2))
  replace H2 := Lib.hid (H2.out.grown hgs (fun e => by injection e with e; have := HG.out; have := HG2.out; omega))
  replace H3 := Lib.hid (H3.out.grown hgs (fun e => by injection e with e; have := HG3.out; omega))
  replace HB := Lib.hid (HB.out.grown hgs HB.out.size (fun k hk => by injection hk with hk; have := HG.out; omega))
  replace HT4 := Lib.hid (HT4.out.apart H1.out (endX_no _ _ _ _) (Chg.of_grown hgs rfl))
  replace H1 := Lib.hid (show Holds ((w6.setCell ⟨g1, 7, none⟩ (.int .i64 RE2)).setCell ⟨g1, 8, none⟩ (.int .i64 RL2)) g1 46 (endX ⟨me, ot, E, S, l, st, lf, RE2, RL2, gv, ep0, sq0⟩ Ar m cr) from ((H1.out.set 7 (.int .i64 RE2)).set 8 (.int .i64 RL2)))
  clear hgs q7 q8 z7 z8 x0 x1
  generalize ((w6.setCell ⟨g1, 7, none⟩ (.int .i64 RE2)).setCell ⟨g1, 8, none⟩ (.int .i64 RL2)) = w7 at *
  have d0 : decide (0 ≤ la) = true := decide_eq_true hla
  have q9 : w7.cell? ⟨g1, 9, none⟩ = some (.bool gv) := H1.out.cell 9
  have q10 : w7.cell? ⟨g1, 10, none⟩ = some (.int .i64 ep0) := H1.out.cell 10
  have q11 : w7.cell? ⟨g1, 11, none⟩ = some (.int .i64 sq0) := H1.out.cell 11
  have z9 := H1.out.frozen 9
  have z10 := H1.out.frozen 10
  have z11 := H1.out.frozen 11
  have r3 : w7.cell? ⟨g3, 3, none⟩ = some (.int .i64 (ep' : Int)) := H3.out.cell 3
  go_upto_region 12 with fail
  go_region
  have hgs := (grown_set (grown_set (grown_set (grown_refl w7 (some g1)) 9 (.bool true)) 10 (.int .i64 (ep' : Int))) 11 (.int .i64 la))
  replace H2 := Lib.hid (H2.out.grown hgs (fun e => by injection e with e; have := HG.out; have := HG2.out; omega))
  replace H3 := Lib.hid (H3.out.grown hgs (fun e => by injection e with e; have := HG3.out; omega))
  replace HB := Lib.hid (HB.out.grown hgs HB.out.size (fun k hk => by injection hk with hk; have := HG.out; omega))
  replace HT4 := Lib.hid (HT4.out.apart H1.out (endX_no _ _ _ _) (Chg.of_grown hgs rfl))
  replace H1 := Lib.hid (show Holds (((w7.setCell ⟨g1, 9, none⟩ (.bool true)).setCell ⟨g1, 10, none⟩ (.int .i64 (ep' : Int))).setCell ⟨g1, 11, none⟩ (.int .i64 la)) g1 46 (endX ⟨me, ot, E, S, l, st, lf, RE2, RL2, true, (ep' : Int), la⟩ Ar m cr) from (((H1.out.set 9 (.bool true)).set 10 (.int .i64 (ep' : Int))).set 11 (.int .i64 la)))
  clear hgs q9 q10 q11 z9 z10 z11 r3
  generalize (((w7.setCell ⟨g1, 9, none⟩ (.bool true)).setCell ⟨g1, 10, none⟩ (.int .i64 (ep' : Int))).setCell ⟨g1, 11, none⟩ (.int .i64 la)) = w8 at *
  have bd := (Below.refl w8.heap.size w8).drew
  replace H1 := Lib.hid (H1.out.later bd (Nat.le_refl _))
  replace H2 := Lib.hid (H2.out.later bd (Nat.le_refl _))
  replace H3 := Lib.hid (H3.out.later bd (Nat.le_refl _))
  replace HT4 := Lib.hid (HT4.out.later bd (Nat.le_refl _))
  replace HB := Lib.hid (HB.out.trans (bd.mono HB.out.size))
  clear bd
  generalize w8.drew = w9 at *
  go_wp2_with (first
    | (refine wpList_load_row rfl 46 (.tmp 2) rfl g1 rfl _ (endX ⟨me, ot, E, S, l, st, lf, RE2, RL2, true, (ep' : Int), la⟩ Ar m cr) _ _ H1.out end_under rfl end_size ?_)
    | (refine wpList_store_rowTo rfl 46 (.tmp 4) (.tmp 72) rfl rfl g2 (endX ⟨me, ot, E, S, l, st, lf, RE2, RL2, true, (ep' : Int), la⟩ Ar m cr) rfl rfl _ (endX z19 none 0 0) H2.out end_size rfl (endX_one _ _ _ _) ?_))
  replace HB := Lib.hid (below_setRow HB.out (g := g2) (by have := HG2.out; omega) (endX ⟨me, ot, E, S, l, st, lf, RE2, RL2, true, (ep' : Int), la⟩ Ar m cr))
  replace H2 := Lib.hid (H2.out.rowE (endX ⟨me, ot, E, S, l, st, lf, RE2, RL2, true, (ep' : Int), la⟩ Ar m cr))
  generalize World.setRow _ g2 (endX ⟨me, ot, E, S, l, st, lf, RE2, RL2, true, (ep' : Int), la⟩ Ar m cr) = wz at *
  exact bodyPost_ret (v := .tuple #[.agg (endX ⟨me, ot, E, S, l, st, lf, RE2, RL2, true, (ep' : Int), la⟩ Ar m cr), .slice none 0 0, .bool false, .int .i64 0]) (results_cell_4 Tryd.results18 _ _ g2 46 (endX ⟨me, ot, E, S, l, st, lf, RE2, RL2, true, (ep' : Int), la⟩ Ar m cr) _ _ _ _ _ rfl rfl rfl rfl H2.out end_under rfl end_size) rfl ⟨none, 0, rfl, At.nil _ _, HB.out⟩
set_option maxRecDepth 100000 in
set_option maxHeartbeats 4000000 in
theorem xhear_data_t (w : World) (A : Option Addr) (n c : Nat) (b : List Nat) (hl : b.length = n) (hnc : n ≤ c) (hc2 : c ≤ 9223372036854775807) (hat : At w A (nats .u8 b)) (hb : ∀ y ∈ b, y < 256) (hn9 : n ≤ 900 ∨ 8300 < n)
    {fr dt : Nat} {ep sq : Nat} {bd : List Nat} (hg : Good b fr dt false ep sq bd) (hf : (fr : Int) = ot) (ht : (dt : Int) = me) (hRE : 0 ≤ RE ∧ RE ≤ 1073741824) (hRL : 0 ≤ RL ∧ RL ≤ 1073741824) {tk : Bool} {la RE2 RL2 : Int} (hrc : rc RE RL ep sq = ((RE2, RL2), tk, la)) (htk : tk = true) (hla : 0 ≤ la) :
    Calls Tryd.prog 18 #[.agg (endX ⟨me, ot, E, S, l, st, lf, RE, RL, gv, ep0, sq0⟩ Ar m cr), .slice A n c] w (XHearE w ⟨me, ot, E, S, l, st, lf, RE2, RL2, true, (ep : Int), la⟩ Ar m cr bd true 0) := by
  have CD := Lib.hid (fun (W : World) (hW : Below w.heap.size w W) => deck_any A n c b W hl hnc hc2 (hat.later hW (Nat.le_refl _)) hb hn9)
  clear hat hb hl hnc hc2 hn9
  subst htk
  have HF := Lib.hid hf
  have HTT := Lib.hid ht
  have HRC := Lib.hid hrc
  have HRE := Lib.hid hRE
  have HRL := Lib.hid hRL
  clear hf ht hrc hRE hRL
  go_enter Tryd.func18, Tryd.ntmps18
  go_upto_region 1 with (first
    | (refine Great.wpList_boxTo rfl 46 (.tmp 0) rfl (some 2) rfl _ rfl (endX ⟨me, ot, E, S, l, st, lf, RE, RL, gv, ep0, sq0⟩ Ar m cr) rfl ?_)
    | (refine Great.wpList_allocTo rfl (some 4) rfl _ (.cells (endX z19 none 0 0) 46) (run_allocE _ _ _ rfl) ?_))
  have H1 := Lib.hid ((Holds.new w 46 (endX ⟨me, ot, E, S, l, st, lf, RE, RL, gv, ep0, sq0⟩ Ar m cr) w.heap.size rfl).alloc (.cells (endX z19 none 0 0) 46))
  have H2 := Lib.hid (Holds.new (w.alloc (.cells (endX ⟨me, ot, E, S, l, st, lf, RE, RL, gv, ep0, sq0⟩ Ar m cr) 46)) 46 (endX z19 none 0 0) (w.heap.size + 1) (by simp))
  have HB := Lib.hid (((Below.refl w.heap.size w).alloc (Nat.le_refl _) (.cells (endX ⟨me, ot, E, S, l, st, lf, RE, RL, gv, ep0, sq0⟩ Ar m cr) 46)).alloc (by simp) (.cells (endX z19 none 0 0) 46))
  generalize (w.alloc (.cells (endX ⟨me, ot, E, S, l, st, lf, RE, RL, gv, ep0, sq0⟩ Ar m cr) 46)).alloc (.cells (endX z19 none 0 0) 46) = w2 at *
  obtain ⟨g1, hg1⟩ : ∃ g, w.heap.size = g := ⟨_, rfl⟩
  have HG := Lib.hid hg1
  obtain ⟨g2, hg2⟩ : ∃ g, w.heap.size + 1 = g := ⟨_, rfl⟩
  have HG2 := Lib.hid hg2
  rw [hg2] at H2 ⊢
  rw [hg1] at H1 ⊢
  clear hg1 hg2
  go_wp2_with fail
  with_reducible refine (CD.out w2 HB.out).mono ?_
  rintro e w3 ⟨fr', dt', k', ep', sq', bd', x, A1, c1, rfl, hat1, b3, hres⟩
  obtain ⟨rfl, rfl, rfl, rfl, rfl, rfl, rfl⟩ := hres.uniq (.inl ⟨rfl, hg⟩)
  have HGD := Lib.hid hg
  clear hg
  simp only [pkF]
  have HT := Lib.hid hat1
  replace H1 := Lib.hid (H1.out.later b3 (Nat.le_refl _))
  replace H2 := Lib.hid (H2.out.later b3 (Nat.le_refl _))
  replace HB := Lib.hid (HB.out.trans (b3.mono HB.out.size))
  clear b3 hat1 hres CD
  go_upto_region 2 with fail
  have H3 := Lib.hid (Holds.new w3 50 #[.int .i64 (fr' : Int), .int .i64 (dt' : Int), .bool false, .int .i64 (ep' : Int), .int .i64 (sq' : Int), .slice A1 bd'.length c1] w3.heap.size rfl)
  have b4 := (Below.refl w3.heap.size w3).alloc (Nat.le_refl _) (.cells #[.int .i64 (fr' : Int), .int .i64 (dt' : Int), .bool false, .int .i64 (ep' : Int), .int .i64 (sq' : Int), .slice A1 bd'.length c1] 50)
  have hne := HB.out.size
  have hl1 := H1.out.lt
  have hl2 := H2.out.lt
  replace H1 := Lib.hid (H1.out.later b4 (Nat.le_refl _))
  replace H2 := Lib.hid (H2.out.later b4 (Nat.le_refl _))
  replace HB := Lib.hid (HB.out.trans (b4.mono HB.out.size))
  have HT4 := Lib.hid (HT.out.later b4 (Nat.le_refl _))
  generalize w3.alloc (.cells #[.int .i64 (fr' : Int), .int .i64 (dt' : Int), .bool false, .int .i64 (ep' : Int), .int .i64 (sq' : Int), .slice A1 bd'.length c1] 50) = w4 at *
  obtain ⟨g3, hg3⟩ : ∃ g, w3.heap.size = g := ⟨_, rfl⟩
  rw [hg3] at H3 hl1 hl2 ⊢
  have HG3 := Lib.hid (show g1 < g3 ∧ g2 < g3 from ⟨hl1, hl2⟩)
  clear b4 hg3 hne hl1 hl2 HT
  have q0 : w4.cell? ⟨g1, 0, none⟩ = some (.int .i64 me) := H1.out.cell 0
  have q1 : w4.cell? ⟨g1, 1, none⟩ = some (.int .i64 ot) := H1.out.cell 1
  have r0 : w4.cell? ⟨g3, 0, none⟩ = some (.int .i64 (fr' : Int)) := H3.out.cell 0
  have r1 : w4.cell? ⟨g3, 1, none⟩ = some (.int .i64 (dt' : Int)) := H3.out.cell 1
  have d1 : ((fr' : Int) == ot) = true := beq_iff_eq.2 HF.out
  have d2 : ((dt' : Int) == me) = true := beq_iff_eq.2 HTT.out
  have r2 : w4.cell? ⟨g3, 2, none⟩ = some (.bool false) := H3.out.cell 2
  have r3 : w4.cell? ⟨g3, 3, none⟩ = some (.int .i64 (ep' : Int)) := H3.out.cell 3
  have r4 : w4.cell? ⟨g3, 4, none⟩ = some (.int .i64 (sq' : Int)) := H3.out.cell 4
  have q7 : w4.cell? ⟨g1, 7, none⟩ = some (.int .i64 RE) := H1.out.cell 7
  have q8 : w4.cell? ⟨g1, 8, none⟩ = some (.int .i64 RL) := H1.out.cell 8
  have CH := refTake_any RE RL (ep' : Int) (sq' : Int) w4 HRE.out HRL.out
  rw [HRC.out] at CH
  have CH := Lib.hid CH
  go_wp2_with fail
  with_reducible refine CH.out.mono ?_
  rintro e w5 ⟨rfl, b5⟩
  clear CH q0 q1 r0 r1 r2 r3 r4 q7 q8
  replace H1 := Lib.hid (H1.out.later b5 (Nat.le_refl _))
  replace H2 := Lib.hid (H2.out.later b5 (Nat.le_refl _))
  replace H3 := Lib.hid (H3.out.later b5 (Nat.le_refl _))
  replace HT4 := Lib.hid (HT4.out.later b5 (Nat.le_refl _))
  replace HB := Lib.hid (HB.out.trans (b5.mono HB.out.size))
  clear b5
  go_upto_region 10 with fail
  have H4 := Lib.hid (Holds.new w5 44 #[.int .i64 RE2, .int .i64 RL2] w5.heap.size rfl)
  have b6 := (Below.refl w5.heap.size w5).alloc (Nat.le_refl _) (.cells #[.int .i64 RE2, .int .i64 RL2] 44)
  have hl1 := H1.out.lt
  replace H1 := Lib.hid (H1.out.later b6 (Nat.le_refl _))
  replace H2 := Lib.hid (H2.out.later b6 (Nat.le_refl _))
  replace H3 := Lib.hid (H3.out.later b6 (Nat.le_refl _))
  replace HT4 := Lib.hid (HT4.out.later b6 (Nat.le_refl _))
  replace HB := Lib.hid (HB.out.trans (b6.mono HB.out.size))
  generalize w5.alloc (.cells #[.int .i64 RE2, .int .i64 RL2] 44) = w6 at *
  obtain ⟨g4, hg4⟩ : ∃ g, w5.heap.size = g := ⟨_, rfl⟩
  rw [hg4] at H4 hl1 ⊢
  have HG4 := Lib.hid hl1
  clear b6 hg4 hl1
  have q7 : w6.cell? ⟨g1, 7, none⟩ = some (.int .i64 RE) := H1.out.cell 7
  have q8 : w6.cell? ⟨g1, 8, none⟩ = some (.int .i64 RL) := H1.out.cell 8
  have z7 := H1.out.frozen 7
  have z8 := H1.out.frozen 8
  have x0 : w6.cell? ⟨g4, 0, none⟩ = some (.int .i64 RE2) := H4.out.cell 0
  have x1 : w6.cell? ⟨g4, 1, none⟩ = some (.int .i64 RL2) := H4.out.cell 1
  go_upto_region 11 with fail
  have hgs := (grown_set (grown_set (grown_refl w6 (some g1)) 7 (.int .i64 RE2)) 8 (.int .i64 RL2))
  replace H2 := Lib.hid (H2.out.grown hgs (fun e => by injection e with e; have := HG.out; have := HG2.out; omega))
  replace H3 := Lib.hid (H3.out.grown hgs (fun e => by injection e with e; have := HG3.out; omega))
  replace HB := Lib.hid (HB.out.grown hgs HB.out.size (fun k hk => by injection hk with hk; have := HG.out; omega))
  replace HT4 := Lib.hid (HT4.out.apart H1.out (endX_no _ _ _ _) (Chg.of_grown hgs rfl))
  replace H1 := Lib.hid (show Holds ((w6.setCell ⟨g1, 7, none⟩ (.int .i64 RE2)).setCell ⟨g1, 8, none⟩ (.int .i64 RL2)) g1 46 (endX ⟨me, ot, E, S, l, st, lf, RE2, RL2, gv, ep0, sq0⟩ Ar m cr) from ((H1.out.set 7 (.int .i64 RE2)).set 8 (.int .i64 RL2)))
  clear hgs q7 q8 z7 z8 x0 x1
  generalize ((w6.setCell ⟨g1, 7, none⟩ (.int .i64 RE2)).setCell ⟨g1, 8, none⟩ (.int .i64 RL2)) = w7 at *
  have d0 : decide (0 ≤ la) = true := decide_eq_true hla
  have q9 : w7.cell? ⟨g1, 9, none⟩ = some (.bool gv) := H1.out.cell 9
  have q10 : w7.cell? ⟨g1, 10, none⟩ = some (.int .i64 ep0) := H1.out.cell 10
  have q11 : w7.cell? ⟨g1, 11, none⟩ = some (.int .i64 sq0) := H1.out.cell 11
  have z9 := H1.out.frozen 9
  have z10 := H1.out.frozen 10
  have z11 := H1.out.frozen 11
  have r3 : w7.cell? ⟨g3, 3, none⟩ = some (.int .i64 (ep' : Int)) := H3.out.cell 3
  go_upto_region 12 with fail
  go_region
  have hgs := (grown_set (grown_set (grown_set (grown_refl w7 (some g1)) 9 (.bool true)) 10 (.int .i64 (ep' : Int))) 11 (.int .i64 la))
  replace H2 := Lib.hid (H2.out.grown hgs (fun e => by injection e with e; have := HG.out; have := HG2.out; omega))
  replace H3 := Lib.hid (H3.out.grown hgs (fun e => by injection e with e; have := HG3.out; omega))
  replace HB := Lib.hid (HB.out.grown hgs HB.out.size (fun k hk => by injection hk with hk; have := HG.out; omega))
  replace HT4 := Lib.hid (HT4.out.apart H1.out (endX_no _ _ _ _) (Chg.of_grown hgs rfl))
  replace H1 := Lib.hid (show Holds (((w7.setCell ⟨g1, 9, none⟩ (.bool true)).setCell ⟨g1, 10, none⟩ (.int .i64 (ep' : Int))).setCell ⟨g1, 11, none⟩ (.int .i64 la)) g1 46 (endX ⟨me, ot, E, S, l, st, lf, RE2, RL2, true, (ep' : Int), la⟩ Ar m cr) from (((H1.out.set 9 (.bool true)).set 10 (.int .i64 (ep' : Int))).set 11 (.int .i64 la)))
  clear hgs q9 q10 q11 z9 z10 z11 r3
  generalize (((w7.setCell ⟨g1, 9, none⟩ (.bool true)).setCell ⟨g1, 10, none⟩ (.int .i64 (ep' : Int))).setCell ⟨g1, 11, none⟩ (.int .i64 la)) = w8 at *
  have bd := (Below.refl w8.heap.size w8).drew
  replace H1 := Lib.hid (H1.out.later bd (Nat.le_refl _))
  replace H2 := Lib.hid (H2.out.later bd (Nat.le_refl _))
  replace H3 := Lib.hid (H3.out.later bd (Nat.le_refl _))
  replace HT4 := Lib.hid (HT4.out.later bd (Nat.le_refl _))
  replace HB := Lib.hid (HB.out.trans (bd.mono HB.out.size))
  clear bd
  generalize w8.drew = w9 at *
  have HNE := Lib.hid (show ¬ g1 = g2 ∧ ¬ g3 = g2 from ⟨by have := HG.out; have := HG2.out; omega, by have := HG3.out; omega⟩)
  go_upto_region 15 with fail
  refine wp_region_act 3 (Chg (fun k => k = g2)) (is (.agg (endX ⟨me, ot, E, S, l, st, lf, RE2, RL2, true, (ep' : Int), la⟩ Ar m cr)) :: is ?t1 :: is ?t2 :: (fun _ W => Holds W g2 46 (endX ⟨me, ot, E, S, l, st, lf, RE2, RL2, true, (ep' : Int), la⟩ Ar m cr)) :: is ?t4 :: is ?t5 :: is ?t6 :: [])
    [⟨[], [2], none⟩, ⟨[], [8], none⟩, ⟨[(74, 1)], [], none⟩, ⟨[(73, 0)], [4], none⟩, ⟨[(75, 2)], [], none⟩, ⟨[], [], none⟩, ⟨[], [], none⟩] (by kernel_rfl) (by kernel_rfl) (by kernel_rfl) (by kernel_rfl) (by kernel_rfl) (by kernel_rfl) (fun _ _ => Chg.of_below) (fun _ _ _ h k => h.trans k (fun _ h => .inl h)) ?monot ?stepst ?fint
  case monot => exact ⟨(if_neg (by decide)).mpr (mono_eqX _), (if_neg (by decide)).mpr (mono_eqX _), (if_neg (by decide)).mpr (mono_eqX _), (if_pos rfl).mpr (fun _ _ _ h b => h.later b (Nat.le_refl _)), (if_neg (by decide)).mpr (mono_eqX _), (if_neg (by decide)).mpr (mono_eqX _), (if_neg (by decide)).mpr (mono_eqX _), trivial⟩
  case stepst =>
    refine ⟨(if_neg (by decide)).mpr fun ρ W ⟨hcst, hglb, hfun⟩ hX hp ho => ?_, ?_⟩ -- 0: slot 73 := Op.load 46 t2
    · obtain ⟨o2, -⟩ := ho
      change ρ (.tmp 2) = _ at o2
      have hW := hX
      refine turn_plain ?_
      exact ok_is (exec_load_row 46 (.tmp 2) rfl g1 o2 _ (endX ⟨me, ot, E, S, l, st, lf, RE2, RL2, true, (ep' : Int), la⟩ Ar m cr) _ _ (H1.out.chg (Chg.trans (Chg.of_below (Below.refl _ _).drew) hX (fun _ h => .inl h)) HNE.out.1) end_under rfl end_size) rfl
    refine ⟨(if_neg (by decide)).mpr fun ρ W ⟨hcst, hglb, hfun⟩ hX hp ho => ?_, ?_⟩ -- 1: slot 74 := Op.fieldAddr 50 t8 5
    · obtain ⟨o8, -⟩ := ho
      change ρ (.tmp 8) = _ at o8
      refine turn_plain (ok_is ?_ rfl)
      simp only [execOp, o8]; go_simp; try exact rfl
    refine ⟨(if_neg (by decide)).mpr fun ρ W ⟨hcst, hglb, hfun⟩ hX hp ho => ?_, ?_⟩ -- 2: slot 75 := Op.load 22 t74
    · obtain ⟨p74, -⟩ := hp
      change ρ (.tmp 74) = _ at p74
      have q : W.cell? ⟨g3, 5, none⟩ = some (.slice A1 bd'.length c1) := (H3.out.chg (Chg.trans (Chg.of_below (Below.refl _ _).drew) hX (fun _ h => .inl h)) HNE.out.2).cell 5
      refine turn_plain (ok_is ?_ rfl)
      simp only [execOp, p74]; go_simp; try exact rfl
    refine ⟨(if_pos rfl).mpr fun ρ W ⟨hcst, hglb, hfun⟩ hX hp ho => ?_, ?_⟩ -- 3: slot None := Op.store 46 t4 t73
    · obtain ⟨p73, -⟩ := hp
      change ρ (.tmp 73) = _ at p73
      obtain ⟨o4, -⟩ := ho
      change ρ (.tmp 4) = _ at o4
      have H2W := H2.out.later ((Below.refl _ _).drew.trans hX) (Nat.le_refl _)
      rw [exec_store_rowE 46 (.tmp 4) (.tmp 73) rfl g2 (endX ⟨me, ot, E, S, l, st, lf, RE2, RL2, true, (ep' : Int), la⟩ Ar m cr) o4 p73 _ _ H2W end_size rfl (endX_one _ _ _ _)]
      exact ⟨Chg.of_grown (grown_row _) rfl, H2W.rowE _⟩
    refine ⟨(if_neg (by decide)).mpr fun ρ W ⟨hcst, hglb, hfun⟩ hX hp ho => ?_, ?_⟩ -- 4: slot 5 := Op.assign t75
    · obtain ⟨p75, -⟩ := hp
      change ρ (.tmp 75) = _ at p75
      refine turn_plain (ok_is ?_ rfl)
      simp only [execOp, p75]; go_simp; try exact rfl
    refine ⟨(if_neg (by decide)).mpr fun ρ W ⟨hcst, hglb, hfun⟩ hX hp ho => ?_, ?_⟩ -- 5: slot 6 := Op.assign (const (Value.bool true))
    · refine turn_plain (ok_is ?_ rfl)
      simp only [execOp, hcst]; go_simp; try exact rfl
    refine ⟨(if_neg (by decide)).mpr fun ρ W ⟨hcst, hglb, hfun⟩ hX hp ho => ?_, ?_⟩ -- 6: slot 7 := Op.assign (const (0:i64))
    · refine turn_plain (ok_is ?_ rfl)
      simp only [execOp, hcst]; go_simp; try exact rfl
    exact trivial
  case fint =>
    rintro v wz hX ⟨f0, f1, f2, f3, f4, f5, f6, -⟩
    have H2z := Lib.hid f3
    simp only [is] at f0 f1 f2 f4 f5 f6
    simp only [putAll, Act.put, List.setIfInBounds_toArray, List.set_cons_succ, List.set_cons_zero, f0, f1, f2, f3, f4, f5, f6]
    clear f0 f1 f2 f3 f4 f5 f6
    have HTz := Lib.hid (HT4.out.apart H2.out (endX_no _ _ _ _) (Chg.trans (Chg.of_below (Below.refl _ _)) hX (fun _ h => .inl h)))
    have HBz := Lib.hid (show Below w.heap.size w wz from hX.below (fun k e => by have := HG2.out; omega) HB.out.size |> HB.out.trans)
    clear hX
    go_wp2_with fail
    exact bodyPost_ret (v := .tuple #[.agg (endX ⟨me, ot, E, S, l, st, lf, RE2, RL2, true, (ep' : Int), la⟩ Ar m cr), .slice A1 bd'.length c1, .bool true, .int .i64 0]) (results_cell_4 Tryd.results18 _ _ g2 46 (endX ⟨me, ot, E, S, l, st, lf, RE2, RL2, true, (ep' : Int), la⟩ Ar m cr) _ _ _ _ _ rfl rfl rfl rfl H2z.out end_under rfl end_size) rfl ⟨A1, c1, rfl, HTz.out, HBz.out⟩
end
end Go.Proofs.YtodimanghmepoaaDoor
