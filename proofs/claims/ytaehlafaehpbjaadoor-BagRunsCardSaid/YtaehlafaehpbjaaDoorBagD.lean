/- Layer 20: Double, Take, Lose. -/
import Derived.Test.YtaehlafaehpbjaaDoorBagC
import Derived.Deep.RegionHeld3
namespace Go.Proofs.YtaehlafaehpbjaaDoor
open Go.RowKit
section
variable {g base : Nat} {M : Int} {A : Option Addr} {n c : Nat} {vs : List (Int × Value)} {l : List (Int × List Nat)}
theorem bhas_c (w : World) (i : Int) (b : Bool) (hc : w.cell? ⟨g, 1, none⟩ = some (.slice A n c)) (hb : decide (0 ≤ i ∧ i < n) = b) :
    Calls Tryd.prog 14 #[.pointer (some ⟨g, 0, none⟩), .int .i64 i] w fun e w' => e = .returned (.bool b) ∧ w' = w := by
  subst hb
  by_cases h0 : 0 ≤ i
  · by_cases h1 : i < n
    · rw [decide_eq_true (p := 0 ≤ i ∧ i < n) ⟨h0, h1⟩]
      go_enter Tryd.func14, Tryd.ntmps14
      go_wp2
      go_ret
      exact ⟨rfl, rfl⟩
    · rw [decide_eq_false (p := 0 ≤ i ∧ i < n) (fun h => h1 h.2)]
      go_enter Tryd.func14, Tryd.ntmps14
      go_wp2
      go_ret
      exact ⟨rfl, rfl⟩
  · rw [decide_eq_false (p := 0 ≤ i ∧ i < n) (fun h => h0 h.1)]
    go_enter Tryd.func14, Tryd.ntmps14
    go_wp2
    go_ret
    exact ⟨rfl, rfl⟩
set_option maxRecDepth 100000 in
set_option maxHeartbeats 1000000 in
theorem bdouble_no (w : World) (i : Int) (h : Bag w g base M A n c vs l) (hn : ¬ (0 ≤ i ∧ i < n) ∨ M ≤ n) :
    Calls Tryd.prog 7 #[.pointer (some ⟨g, 0, none⟩), .int .i64 i] w fun e w' => e = .returned (.bool false) ∧ ∃ k, w' = w.drewN k := by
  have p0 : w.cell? ⟨g, 0, none⟩ = some (.int .i64 M) := h.blk_.cell 0
  have p1 : w.cell? ⟨g, 1, none⟩ = some (.slice A n c) := h.blk_.cell 1
  clear h
  by_cases hh : 0 ≤ i ∧ i < n
  · have hM : M ≤ n := by rcases hn with h | h; exact absurd hh h; exact h
    have hd := decide_eq_true (p := 0 ≤ i ∧ i < n) hh
    have HD := Lib.hid hd
    clear hd hn hh
    go_enter Tryd.func7, Tryd.ntmps7
    go_wp2
    go_quiet ((go_at_call 14; exact Calls.quiet_of_same (bhas_c _ _ true (by first | exact p1 | simpa using p1) HD.out)))
    go_wp2
    go_ret
    exact ⟨rfl, nq, rfl⟩
  · have hd := decide_eq_false (p := 0 ≤ i ∧ i < n) hh
    have HD := Lib.hid hd
    clear hd hn hh
    go_enter Tryd.func7, Tryd.ntmps7
    go_wp2
    go_quiet ((go_at_call 14; exact Calls.quiet_of_same (bhas_c _ _ false (by first | exact p1 | simpa using p1) HD.out)))
    go_wp2
    go_ret
    exact ⟨rfl, nq, rfl⟩
set_option maxRecDepth 100000 in
set_option maxHeartbeats 4000000 in
theorem bdouble_any (w : World) (i : Nat) (h : Bag w g base M A n c vs l) (hi : i < n) (hn : (n : Int) < M) (hM : M ≤ 4096) (hw : base ≤ w.heap.size) :
    Calls Tryd.prog 7 #[.pointer (some ⟨g, 0, none⟩), .int .i64 i] w (Puts w g base M (l ++ [l.getD i (0, [])])) := by
  have p0 : w.cell? ⟨g, 0, none⟩ = some (.int .i64 M) := h.blk_.cell 0
  have p1 : w.cell? ⟨g, 1, none⟩ = some (.slice A n c) := h.blk_.cell 1
  have d2 : decide (M ≤ (n : Int)) = false := by simp; omega
  have hn2 : n < 4096 := by omega
  have HD := Lib.hid (decide_eq_true (p := (0 : Int) ≤ (i : Int) ∧ (i : Int) < (n : Int)) ⟨by omega, by omega⟩)
  have HS := Lib.hid h
  clear h
  go_enter Tryd.func7, Tryd.ntmps7
  go_wp2
  go_quiet ((go_at_call 14; exact Calls.quiet_of_same (bhas_c _ _ true (by first | exact p1 | simpa using p1) HD.out)))
  go_wp2
  have S1 := HS.out.of_drewN (k := nq)
  have B1 := below_drewN w nq
  have hsz : w.heap.size = (w.drewN nq).heap.size := rfl
  clear p0 p1 HS
  generalize w.drewN nq = w1 at S1 B1 hsz ⊢
  have p1 : w1.cell? ⟨g, 1, none⟩ = some (.slice A n c) := S1.blk_.cell 1
  have ltg : g < w1.heap.size := S1.blk_.lt
  have hw1 : base ≤ w1.heap.size := by omega
  obtain ⟨g2, A1, c1, rfl, _, _, _, q0, q1, hbod, _⟩ := S1.item i hi
  generalize l.getD i (0, []) = q at *
  obtain ⟨t, b⟩ := q
  simp only at q0 q1 hbod
  have hi0 : (0 : Int) ≤ (i : Int) := by omega
  have HS1 := Lib.hid S1
  have HB1 := Lib.hid B1
  have HBD := Lib.hid hbod
  clear S1 B1 hbod
  go_region_law ((refine step_app rfl elt_item base (.tmp 25) (.tmp 33) rfl (its vs) rfl (HS1.out.own.drew.alloc _) [.int .i64 t, .slice A1 b.length c1] rfl (At.lit _ _ _ _ _ rfl) rfl (by intro u hu; simp at hu; rcases hu with rfl | rfl <;> rfl) (by unfold maxLen; omega) (by omega) (by simp; omega) ?_); intro A3 c3 w3 own3 g3 hA3; have H3 := (HS1.out.blk_.drew.alloc _).grown g3 HS1.out.far; have z1 : w3.cell? ⟨g, 1, none⟩ = some (.slice (some ⟨g2, 0, none⟩) n c) := H3.cell 1; have z2 := H3.frozen 1; clear H3)
  all_goals
    have B2 : Below w1.heap.size w1 w1.drew := (Below.refl w1.heap.size w1).drew
    obtain ⟨R1, R2⟩ := HS1.out.more (w2 := w1.drew) hw1 B2 ((Below.refl _ _).alloc (Nat.le_refl _) _) ((HBD.out.below B2 (Nat.le_refl _)).below ((Below.refl _ _).alloc (Nat.le_refl _) _) (Nat.le_refl _)) own3 g3 hA3
    have R1' := Lib.hid R1
    have R2' := Lib.hid R2
    clear R1 R2 B2
    go_wp2
    go_ret
    exact ⟨rfl, ⟨_, _, _, _, R1'.out⟩, (Kept.of_below (HB1.out.mono hw)).trans R2'.out⟩
/-- one item less -/
theorem Bag.less {w w1 w2 : World} {g2 m i : Nat} (h : Bag w g base M (some ⟨g2, 0, none⟩) (m + 1) c vs l) (h1 : Below w.heap.size w w1) (hg : w1.grownBy w2 (some g2)) (hw : base ≤ w.heap.size)
    (ho : Own w2 base 46 2 (some ⟨g2, 0, none⟩) m c (its (vs.eraseIdx i))) (hi : i ≤ m) :
    Bag (w2.setCell ⟨g, 1, none⟩ (.slice (some ⟨g2, 0, none⟩) m c)) g base M (some ⟨g2, 0, none⟩) m c (vs.eraseIdx i) (l.eraseIdx i) ∧ Kept base g w (w2.setCell ⟨g, 1, none⟩ (.slice (some ⟨g2, 0, none⟩) m c)) ∧
    ∀ v b, Bod w base g (some ⟨g2, 0, none⟩) v b → Bod (w2.setCell ⟨g, 1, none⟩ (.slice (some ⟨g2, 0, none⟩) m c)) base g (some ⟨g2, 0, none⟩) v b := by
  have hg' : w2.grownBy (w2.setCell ⟨g, 1, none⟩ (.slice (some ⟨g2, 0, none⟩) m c)) (some g) := grown_set (grown_refl _ _) 1 _
  have hgg : g2 ≠ g := fun e => h.far (by rw [← e]; rfl)
  have s1 := h.below h1 (Nat.le_refl _)
  have keep : ∀ v b, Bod w base g (some ⟨g2, 0, none⟩) v b → Bod (w2.setCell ⟨g, 1, none⟩ (.slice (some ⟨g2, 0, none⟩) m c)) base g (some ⟨g2, 0, none⟩) v b := fun v b hb =>
    Bod.grown (A := some ⟨g2, 0, none⟩) ((hb.below h1 (Nat.le_refl _)).grown (A' := some ⟨g2, 0, none⟩) hg (.inr rfl) (fun k e => .inl e)) hg' (.inl rfl) (fun k e => .inl e)
  have hlen := h.len
  refine ⟨⟨(s1.blk_.grown hg (fun e => hgg (by injection e))).set 1 _, ho.kept hg' (.inr (by intro e; simp [blk] at e; exact hgg e)), ?_, ?_, h.far⟩, ?_, keep⟩
  · rw [List.length_eraseIdx, if_pos (by omega), hlen]; omega
  · intro j p q e1 e2
    rw [List.getElem?_eraseIdx] at e1 e2
    have hx : ∃ j' : Nat, vs[j']? = some p ∧ l[j']? = some q := by
      by_cases hj : j < i
      · rw [if_pos hj] at e1 e2; exact ⟨j, e1, e2⟩
      · rw [if_neg hj] at e1 e2; exact ⟨j + 1, e1, e2⟩
    obtain ⟨j', e3, e4⟩ := hx
    exact ⟨(h.bod j' p q e3 e4).1, keep _ _ (h.bod j' p q e3 e4).2⟩
  · have b1 : Below base w w1 := h1.mono hw
    have b2 : Below base w1 w2 := below_of_grown hg (h.own.lt g2 rfl).1 (Nat.le_trans hw h1.size)
    exact (Kept.of_below (b1.trans b2)).trans (Kept.of_grown hg' (Nat.le_trans (Nat.le_trans hw h1.size) hg.size))
/-- what Take leaves -/
def Takes (w : World) (g base : Nat) (M : Int) (l : List (Int × List Nat)) (t : Int) (b : List Nat) (e : Ending) (w' : World) : Prop :=
  ∃ A1 c1, e = .returned (.tuple #[.int .i64 t, .slice A1 b.length c1, .bool true]) ∧ At w' A1 (nats .u8 b) ∧ IsBag w' g base M l ∧ Kept base g w w'
set_option maxRecDepth 100000 in
theorem btake_no (w : World) (i : Int) (h : Bag w g base M A n c vs l) (hn : ¬ (0 ≤ i ∧ i < n)) :
    Calls Tryd.prog 4 #[.pointer (some ⟨g, 0, none⟩), .int .i64 i] w fun e w' => e = .returned (.tuple #[.int .i64 0, .slice none 0 0, .bool false]) ∧ w = w' := by
  have p1 : w.cell? ⟨g, 1, none⟩ = some (.slice A n c) := h.blk_.cell 1
  have C := Lib.hid (bhas_c w i false p1 (decide_eq_false hn))
  clear h hn
  go_enter Tryd.func4, Tryd.ntmps4
  go_wp2_with fail
  refine C.out.mono ?_
  rintro e w' ⟨rfl, rfl⟩
  go_wp2_with fail
  go_ret3
  exact ⟨rfl, rfl⟩
set_option maxRecDepth 100000 in
set_option maxHeartbeats 2000000 in
theorem btake_any (w : World) (i : Nat) (h : Bag w g base M A n c vs l) (hi : i < n) (hw : base ≤ w.heap.size) (hc63 : c ≤ 9223372036854775807) :
    Calls Tryd.prog 4 #[.pointer (some ⟨g, 0, none⟩), .int .i64 i] w (Takes w g base M (l.eraseIdx i) (l.getD i (0, [])).1 (l.getD i (0, [])).2) := by
  obtain ⟨m, rfl⟩ : ∃ m, n = m + 1 := ⟨n - 1, by omega⟩
  have hcap := h.own.cap.1
  have p1 : w.cell? ⟨g, 1, none⟩ = some (.slice A (m + 1) c) := h.blk_.cell 1
  have C := Lib.hid (bhas_c w i true p1 (decide_eq_true ⟨by omega, by omega⟩))
  obtain ⟨g2, A1, c1, rfl, hb2, hl2, hgg, q0, q1, hbod, _⟩ := h.item i hi
  generalize l.getD i (0, []) = q at *
  obtain ⟨t, b⟩ := q
  simp only at q0 q1 hbod ⊢
  have ltg : g < w.heap.size := h.blk_.lt
  have HS := Lib.hid h
  have HBD := Lib.hid hbod
  have HON := Lib.hid h.one
  have hi0 : (0 : Int) ≤ (i : Int) := by omega
  have belA := (Below.refl w.heap.size w).alloc (Nat.le_refl _) (.cells #[.int .i64 t, .slice A1 b.length c1] 46)
  have D := Lib.hid (del_any base g2 m c i vs (w.alloc (.cells #[.int .i64 t, .slice A1 b.length c1] 46)) (h.own.alloc _) h.one (by omega) hc63)
  have BA := Lib.hid belA
  have H1 := Lib.hid (h.blk_.alloc (.cells #[.int .i64 t, .slice A1 b.length c1] 46))
  have HN := Lib.hid (Holds.new w 46 #[.int .i64 t, .slice A1 b.length c1] w.heap.size rfl)
  clear h hbod belA
  go_enter Tryd.func4, Tryd.ntmps4
  go_wp2_with fail
  refine C.out.mono ?_
  rintro e w' ⟨rfl, rfl⟩
  clear C
  go_wp2_with fail
  refine D.out.mono ?_
  rintro e w2 ⟨rfl, own2, g5⟩
  have K2 := H1.out.grown g5 (fun e => hgg (by injection e))
  have z1 : w2.cell? ⟨g, 1, none⟩ = some (.slice (some ⟨g2, 0, none⟩) (m + 1) c) := K2.cell 1
  have z2 : w2.frozen? ⟨g, 1, none⟩ = false := K2.frozen 1
  have N2 := Lib.hid (HN.out.grown g5 (fun e => by injection e with e; omega))
  obtain ⟨R1, R2, R3⟩ := HS.out.less (w1 := w'.alloc (.cells #[.int .i64 t, .slice A1 b.length c1] 46)) BA.out g5 hw own2 (by omega : i ≤ m)
  have HR1 := Lib.hid R1
  have HR2 := Lib.hid R2
  obtain ⟨A1', c1', ev, hb3, hat3, hnn3, hk3⟩ := R3 _ _ HBD.out
  injection ev with ev1 ev2 ev3
  subst ev1; subst ev3
  have HA3 := Lib.hid hat3
  have HN3 := Lib.hid hnn3
  have N3 := Lib.hid (N2.out.far (p := ⟨g, 1, none⟩) (by show w'.heap.size ≠ g; omega) (.slice (some ⟨g2, 0, none⟩) m c))
  clear own2 g5 K2 R1 R2 R3 hat3 hnn3 hk3 ev2 HBD D BA H1 HN N2 HS HON q0 q1 p1
  go_wp2_with fail
  generalize (w2.setCell ⟨g, 1, none⟩ (.slice (some ⟨g2, 0, none⟩) m c)) = w3 at HR1 HR2 HA3 N3 ⊢
  have k0 : w3.cell? ⟨w'.heap.size, 0, none⟩ = some (.int .i64 t) := N3.out.cell 0
  have k1 : w3.cell? ⟨w'.heap.size, 1, none⟩ = some (.slice A1 b.length c1) := N3.out.cell 1
  have q1 : w'.heap.size < w3.heap.size := N3.out.lt
  have KF := Lib.hid (fun (W : World) (hW : Below w3.heap.size w3 W) => (show W.cell? ⟨w'.heap.size, 0, none⟩ = some (.int .i64 t) ∧ W.cell? ⟨w'.heap.size, 1, none⟩ = some (.slice A1 b.length c1) ∧ Below w3.heap.size w3 W from
    ⟨(hW.cell (p := ⟨w'.heap.size, 0, none⟩) q1).trans k0, (hW.cell (p := ⟨w'.heap.size, 1, none⟩) q1).trans k1, hW⟩))
  go_region_held3 (fun W => W.cell? ⟨w'.heap.size, 0, none⟩ = some (.int .i64 t) ∧ W.cell? ⟨w'.heap.size, 1, none⟩ = some (.slice A1 b.length c1) ∧ Below w3.heap.size w3 W)
    (first | exact KF.out _ (Below.refl _ _).drew | exact KF.out _ ((Below.refl _ _).drew.trans hB2))
    (first | (go_at_call 16; refine (clone_any A1 b.length c1 b _ rfl (by omega) (HA3.out.later (Below.refl _ _).drew (Nat.le_refl _)) HN3.out).mono ?_; rintro e w4 ⟨A2, c2, rfl, hat2, hn2, hk2, hB2⟩))
  go_wp2
  have B2 : Below w3.heap.size w3 w4 := (Below.refl w3.heap.size w3).drew.trans hB2
  exact bodyPost_ret (v := .tuple #[.int .i64 t, .slice A2 b.length c2, .bool true]) (by simp [results, Tryd.results4, go_sem]) rfl
    ⟨A2, c2, rfl, hat2, ⟨_, _, _, _, HR1.out.below B2 (Nat.le_refl _)⟩, HR2.out.trans (Kept.of_below (B2.mono (by have := HR2.out.size; omega)))⟩
def Loses (w : World) (g base : Nat) (M : Int) (l : List (Int × List Nat)) (e : Ending) (w' : World) : Prop :=
  e = .returned (.bool true) ∧ IsBag w' g base M l ∧ Kept base g w w'
set_option maxRecDepth 100000 in
theorem blose_no (w : World) (i : Int) (h : Bag w g base M A n c vs l) (hn : ¬ (0 ≤ i ∧ i < n)) :
    Calls Tryd.prog 8 #[.pointer (some ⟨g, 0, none⟩), .int .i64 i] w fun e w' => e = .returned (.bool false) ∧ w = w' := by
  have C := Lib.hid (btake_no w i h hn)
  clear h hn
  go_enter Tryd.func8, Tryd.ntmps8
  go_wp2_with fail
  refine C.out.mono ?_
  rintro e w' ⟨rfl, rfl⟩
  go_wp2_with fail
  go_ret
  exact ⟨rfl, rfl⟩
set_option maxRecDepth 100000 in
theorem blose_any (w : World) (i : Nat) (h : Bag w g base M A n c vs l) (hi : i < n) (hw : base ≤ w.heap.size) (hc63 : c ≤ 9223372036854775807) :
    Calls Tryd.prog 8 #[.pointer (some ⟨g, 0, none⟩), .int .i64 i] w (Loses w g base M (l.eraseIdx i)) := by
  have C := Lib.hid (btake_any w i h hi hw hc63)
  clear h
  generalize (l.getD i (0, [])).1 = t at *
  generalize (l.getD i (0, [])).2 = b at *
  go_enter Tryd.func8, Tryd.ntmps8
  go_wp2_with fail
  refine C.out.mono ?_
  rintro e w' ⟨A1, c1, rfl, _, hb, bel⟩
  have HB := Lib.hid hb
  have HL := Lib.hid bel
  clear hb bel
  go_wp2_with fail
  go_ret
  exact ⟨rfl, HB.out, HL.out⟩
end
end Go.Proofs.YtaehlafaehpbjaaDoor
