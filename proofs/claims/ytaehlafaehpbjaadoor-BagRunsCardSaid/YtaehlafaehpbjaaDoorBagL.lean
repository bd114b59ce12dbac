/- Layer 20: what Put, Take, Double and Lose leave, and where. -/
import Derived.Test.YtaehlafaehpbjaaDoorBagK
namespace Go.Proofs.YtaehlafaehpbjaaDoor
open Go.RowKit
/-- only the bag and its own array are written -/
structure Moved (g : Nat) (A A' : Option Addr) (w w' : World) : Prop where
  os : w'.os = w.os
  tape : w'.tape = w.tape
  output : w'.output = w.output
  size : w.heap.size ≤ w'.heap.size
  block : ∀ k, k < w.heap.size → k ≠ g → blk A ≠ some k → w'.heap[k]? = w.heap[k]?
  arr : ∀ k, blk A' = some k → blk A = some k ∨ w.heap.size ≤ k
section
variable {g : Nat} {A A' : Option Addr} {w w1 w2 w' : World}
theorem Moved.of {v : Value} (h1 : Below w.heap.size w w1) (hg : w1.grownBy w2 (blk A)) (hA : blk A' = blk A ∨ blk A' = some w1.heap.size) : Moved g A A' w (w2.setCell ⟨g, 1, none⟩ v) := by
  have hg' : w2.grownBy (w2.setCell ⟨g, 1, none⟩ v) (some g) := grown_set (grown_refl _ _) 1 _
  have z1 := h1.size
  have z2 := hg.size
  refine ⟨hg'.os.trans (hg.os.trans h1.os), hg'.tape.trans (hg.tape.trans h1.tape), hg'.output.trans (hg.output.trans h1.output), Nat.le_trans z1 (Nat.le_trans z2 hg'.size), fun k hk hn ha => ?_, fun k e => ?_⟩
  · exact (hg'.block k (by omega) (fun e => hn (by injection e))).trans ((hg.block k (by omega) (fun e => ha e.symm)).trans (h1.block k hk))
  · rcases hA with h | h
    · exact .inl (h ▸ e)
    · rw [h] at e; injection e with e; exact .inr (by omega)
theorem Moved.before (h : Below w.heap.size w w1) (hm : Moved g A A' w1 w2) : Moved g A A' w w2 := by
  have z1 := h.size
  refine ⟨hm.os.trans h.os, hm.tape.trans h.tape, hm.output.trans h.output, Nat.le_trans z1 hm.size, fun k hk hn ha => (hm.block k (by omega) hn ha).trans (h.block k hk), fun k e => ?_⟩
  rcases hm.arr k e with h | h
  · exact .inl h
  · exact .inr (by omega)
theorem Moved.after (hm : Moved g A A' w w1) (h : Below w1.heap.size w1 w2) : Moved g A A' w w2 := by
  have z1 := hm.size
  exact ⟨h.os.trans hm.os, h.tape.trans hm.tape, h.output.trans hm.output, Nat.le_trans z1 h.size, fun k hk hn ha => (h.block k (by omega)).trans (hm.block k hk hn ha), hm.arr⟩
theorem Moved.same (h : Below w.heap.size w w1) : Moved g A A w w1 := ⟨h.os, h.tape, h.output, h.size, fun k hk _ _ => h.block k hk, fun k e => .inl e⟩
theorem Moved.at_ (hm : Moved g A A' w w') {A1 : Option Addr} {xs : List Value} (h : At w A1 xs) (h1 : ∀ k, blk A1 = some k → k < w.heap.size ∧ k ≠ g ∧ blk A ≠ some k) : At w' A1 xs :=
  h.keep fun b o e i => World.cell?_of_block (a := ⟨b, o + i, none⟩) (hm.block b (h1 b (by subst e; rfl)).1 (h1 b (by subst e; rfl)).2.1 (h1 b (by subst e; rfl)).2.2)
theorem Moved.below (hm : Moved g A A' w w') {B : Nat} (h1 : B ≤ g) (h2 : ∀ k, blk A = some k → B ≤ k) (h3 : B ≤ w.heap.size) : Below B w w' :=
  ⟨hm.os, hm.tape, hm.output, hm.size, fun k hk => hm.block k (by omega) (by omega) (fun e => by have := h2 k e; omega)⟩
end
def hdr : Value → Option Nat
  | .slice A _ _ => blk A
  | _ => none
/-- each item's bytes are those of one that was there, or new -/
def Bods (w : World) (vs vs' : List (Int × Value)) : Prop := ∀ p ∈ vs', (∃ p0 ∈ vs, p0.2 = p.2) ∨ ∀ k, hdr p.2 = some k → w.heap.size ≤ k
section
variable {g base : Nat} {M : Int} {A : Option Addr} {n c : Nat} {vs : List (Int × Value)} {l : List (Int × List Nat)}
def MPuts (w : World) (g base : Nat) (M : Int) (A : Option Addr) (vs : List (Int × Value)) (l : List (Int × List Nat)) (e : Ending) (w' : World) : Prop :=
  e = .returned (.bool true) ∧ ∃ A' n' c' vs', Bag w' g base M A' n' c' vs' l ∧ Moved g A A' w w' ∧ Bods w vs vs'
def MTakes (w : World) (g base : Nat) (M : Int) (A : Option Addr) (vs : List (Int × Value)) (l : List (Int × List Nat)) (t : Int) (b : List Nat) (e : Ending) (w' : World) : Prop :=
  ∃ A1 c1, e = .returned (.tuple #[.int .i64 t, .slice A1 b.length c1, .bool true]) ∧ At w' A1 (nats .u8 b) ∧ ∃ A' n' c' vs', Bag w' g base M A' n' c' vs' l ∧ Moved g A A' w w' ∧ Bods w vs vs'
set_option maxRecDepth 100000 in
set_option maxHeartbeats 2000000 in
theorem mput_any (w : World) (t : Int) (h : Bag w g base M A n c vs l) (hn : (n : Int) < M) (hM : M ≤ 4096) (hw : base ≤ w.heap.size)
    (A1 : Option Addr) (c1 : Nat) (b : List Nat) (hb : b.length ≤ 300) (hat : At w A1 (nats .u8 b)) (hz : A1 = none → b.length = 0) :
    Calls Tryd.prog 5 #[.pointer (some ⟨g, 0, none⟩), .int .i64 t, .slice A1 b.length c1] w (MPuts w g base M A vs (l ++ [(t, b)])) := by
  have p0 : w.cell? ⟨g, 0, none⟩ = some (.int .i64 M) := h.blk_.cell 0
  have p1 : w.cell? ⟨g, 1, none⟩ = some (.slice A n c) := h.blk_.cell 1
  have d2 : decide (M ≤ (n : Int)) = false := by simp; omega
  have hn2 : n < 4096 := by omega
  have HS := Lib.hid h
  have HA := Lib.hid hat
  have HZ := Lib.hid hz
  clear h hat hz
  go_enter Tryd.func5, Tryd.ntmps5
  go_wp2
  go_quiet (fail)
  go_wp2
  have S1 := HS.out.of_drewN (k := nq)
  have B1 := below_drewN w nq
  have A1' : At (w.drewN nq) A1 (nats .u8 b) := HA.out
  have hsz : w.heap.size = (w.drewN nq).heap.size := rfl
  clear p0 p1 HS HA
  generalize w.drewN nq = w1 at S1 B1 A1' hsz ⊢
  have p1 : w1.cell? ⟨g, 1, none⟩ = some (.slice A n c) := S1.blk_.cell 1
  have ltg : g < w1.heap.size := S1.blk_.lt
  have hw1 : base ≤ w1.heap.size := by omega
  have HS1 := Lib.hid S1
  have HA1 := Lib.hid A1'
  have HB1 := Lib.hid B1
  clear S1 A1' B1
  go_region_law (first
    | ((refine step_app rfl elt_item base (.tmp 25) (.tmp 30) rfl (its vs) rfl ((HS1.out.own.below ((Below.refl _ _).drew.trans hB2) (Nat.le_refl _)).alloc _) [.int .i64 t, .slice A2 b.length c2] rfl (At.lit _ _ _ _ _ rfl) rfl (by intro u hu; simp at hu; rcases hu with rfl | rfl <;> rfl) (by unfold maxLen; omega) (by omega) (by simp; omega) ?_); intro A3 c3 w3 own3 g3 hA3; have H3 := ((HS1.out.blk_.later ((Below.refl _ _).drew.trans hB2) (Nat.le_refl _)).alloc _).grown g3 HS1.out.far; have z1 : w3.cell? ⟨g, 1, none⟩ = some (.slice A n c) := H3.cell 1; have z2 := H3.frozen 1; clear H3)
    | (go_simp; go_at_call 16; refine (clone_any A1 b.length c1 b _ rfl (by omega) (HA1.out.later (Below.refl _ _).drew (Nat.le_refl _)) HZ.out).mono ?_; rintro e w2 ⟨A2, c2, rfl, hat2, hz2, hk2, hB2⟩; have p2' := (hB2.cell (p := ⟨g, 1, none⟩) ltg).trans p1; have hs2 : w1.heap.size ≤ w2.heap.size := hB2.size; have ltg2 : g < w2.heap.size := Nat.lt_of_lt_of_le ltg hs2; have hc2 := Lib.hid hk2; have hd2 := Lib.hid hat2; clear hk2 hat2))
  all_goals
    have B2 : Below w1.heap.size w1 w2 := (Below.refl w1.heap.size w1).drew.trans hB2
    have bod2 : Bod w2 base g A (.slice A2 b.length c2) b := ⟨A2, c2, rfl, hb, hd2.out, hz2, fun k e => by
      have h1 := (hc2.out k e)
      have h2 : w1.heap.size ≤ k := h1.1
      exact ⟨by omega, h1.2, by omega, fun e2 => by have := (HS1.out.own.lt k e2).2; omega⟩⟩
    obtain ⟨R1, R2⟩ := HS1.out.more (w2 := w2) hw1 B2 ((Below.refl _ _).alloc (Nat.le_refl _) _) (bod2.below ((Below.refl _ _).alloc (Nat.le_refl _) _) (Nat.le_refl _)) own3 g3 hA3
    have MV := Lib.hid (Moved.before HB1.out (Moved.of (g := g) (v := .slice A3 (n + 1) c3) (B2.trans (((Below.refl w2.heap.size w2).alloc (Nat.le_refl _) _).mono B2.size)) g3 hA3))
    have R1' := Lib.hid R1
    have R2' := Lib.hid R2
    clear R1 R2 bod2
    go_wp2
    go_ret
    exact ⟨rfl, _, _, _, _, R1'.out, MV.out, fun p hp => by
      rcases List.mem_append.1 hp with h | h
      · exact .inl ⟨p, h, rfl⟩
      · rw [List.mem_singleton] at h; subst h; exact .inr (fun k e => by have h1 := (hc2.out k e).1; have h2 : w1.heap.size ≤ k := h1; omega)⟩
set_option maxRecDepth 100000 in
set_option maxHeartbeats 4000000 in
theorem mdouble_any (w : World) (i : Nat) (h : Bag w g base M A n c vs l) (hi : i < n) (hn : (n : Int) < M) (hM : M ≤ 4096) (hw : base ≤ w.heap.size) :
    Calls Tryd.prog 7 #[.pointer (some ⟨g, 0, none⟩), .int .i64 i] w (MPuts w g base M A vs (l ++ [l.getD i (0, [])])) := by
  have p0 : w.cell? ⟨g, 0, none⟩ = some (.int .i64 M) := h.blk_.cell 0
  have p1 : w.cell? ⟨g, 1, none⟩ = some (.slice A n c) := h.blk_.cell 1
  have d2 : decide (M ≤ (n : Int)) = false := by simp; omega
  have hn2 : n < 4096 := by omega
  have HD := Lib.hid (decide_eq_true (p := (0 : Int) ≤ (i : Int) ∧ (i : Int) < (n : Int)) ⟨by omega, by omega⟩)
  have HS := Lib.hid h
  clear h
  go_enter Tryd.func7, Tryd.ntmps7
  go_wp2
  go_quiet ((go_at_call 14; exact Calls.quiet_of_same (bhas_c _ _ true (by first | exact p1 | simpa using p1) HD.out)))
  go_wp2
  have S1 := HS.out.of_drewN (k := nq)
  have B1 := below_drewN w nq
  have hsz : w.heap.size = (w.drewN nq).heap.size := rfl
  clear p0 p1 HS
  generalize w.drewN nq = w1 at S1 B1 hsz ⊢
  have p1 : w1.cell? ⟨g, 1, none⟩ = some (.slice A n c) := S1.blk_.cell 1
  have ltg : g < w1.heap.size := S1.blk_.lt
  have hw1 : base ≤ w1.heap.size := by omega
  obtain ⟨g2, A1, c1, rfl, _, _, _, q0, q1, hbod, hvi⟩ := S1.item i hi
  generalize l.getD i (0, []) = q at *
  obtain ⟨t, b⟩ := q
  simp only at q0 q1 hbod hvi
  have HV := Lib.hid hvi
  clear hvi
  have hi0 : (0 : Int) ≤ (i : Int) := by omega
  have HS1 := Lib.hid S1
  have HB1 := Lib.hid B1
  have HBD := Lib.hid hbod
  clear S1 B1 hbod
  go_region_law ((refine step_app rfl elt_item base (.tmp 25) (.tmp 33) rfl (its vs) rfl (HS1.out.own.drew.alloc _) [.int .i64 t, .slice A1 b.length c1] rfl (At.lit _ _ _ _ _ rfl) rfl (by intro u hu; simp at hu; rcases hu with rfl | rfl <;> rfl) (by unfold maxLen; omega) (by omega) (by simp; omega) ?_); intro A3 c3 w3 own3 g3 hA3; have H3 := (HS1.out.blk_.drew.alloc _).grown g3 HS1.out.far; have z1 : w3.cell? ⟨g, 1, none⟩ = some (.slice (some ⟨g2, 0, none⟩) n c) := H3.cell 1; have z2 := H3.frozen 1; clear H3)
  all_goals
    have B2 : Below w1.heap.size w1 w1.drew := (Below.refl w1.heap.size w1).drew
    obtain ⟨R1, R2⟩ := HS1.out.more (w2 := w1.drew) hw1 B2 ((Below.refl _ _).alloc (Nat.le_refl _) _) ((HBD.out.below B2 (Nat.le_refl _)).below ((Below.refl _ _).alloc (Nat.le_refl _) _) (Nat.le_refl _)) own3 g3 hA3
    have MV := Lib.hid (Moved.before HB1.out (Moved.of (g := g) (v := .slice A3 (n + 1) c3) (B2.trans (((Below.refl w1.drew.heap.size w1.drew).alloc (Nat.le_refl _) _).mono B2.size)) g3 hA3))
    have R1' := Lib.hid R1
    have R2' := Lib.hid R2
    clear R1 R2 B2
    go_wp2
    go_ret
    exact ⟨rfl, _, _, _, _, R1'.out, MV.out, fun p hp => by
      rcases List.mem_append.1 hp with h | h
      · exact .inl ⟨p, h, rfl⟩
      · rw [List.mem_singleton] at h; subst h; exact .inl ⟨_, List.mem_of_getElem? HV.out, rfl⟩⟩
set_option maxRecDepth 100000 in
set_option maxHeartbeats 2000000 in
theorem mtake_any (w : World) (i : Nat) (h : Bag w g base M A n c vs l) (hi : i < n) (hw : base ≤ w.heap.size) (hc63 : c ≤ 9223372036854775807) :
    Calls Tryd.prog 4 #[.pointer (some ⟨g, 0, none⟩), .int .i64 i] w (MTakes w g base M A vs (l.eraseIdx i) (l.getD i (0, [])).1 (l.getD i (0, [])).2) := by
  obtain ⟨m, rfl⟩ : ∃ m, n = m + 1 := ⟨n - 1, by omega⟩
  have hcap := h.own.cap.1
  have p1 : w.cell? ⟨g, 1, none⟩ = some (.slice A (m + 1) c) := h.blk_.cell 1
  have C := Lib.hid (bhas_c w i true p1 (decide_eq_true ⟨by omega, by omega⟩))
  obtain ⟨g2, A1, c1, rfl, hb2, hl2, hgg, q0, q1, hbod, _⟩ := h.item i hi
  generalize l.getD i (0, []) = q at *
  obtain ⟨t, b⟩ := q
  simp only at q0 q1 hbod ⊢
  have ltg : g < w.heap.size := h.blk_.lt
  have HS := Lib.hid h
  have HBD := Lib.hid hbod
  have HON := Lib.hid h.one
  have hi0 : (0 : Int) ≤ (i : Int) := by omega
  have belA := (Below.refl w.heap.size w).alloc (Nat.le_refl _) (.cells #[.int .i64 t, .slice A1 b.length c1] 46)
  have D := Lib.hid (del_any base g2 m c i vs (w.alloc (.cells #[.int .i64 t, .slice A1 b.length c1] 46)) (h.own.alloc _) h.one (by omega) hc63)
  have BA := Lib.hid belA
  have H1 := Lib.hid (h.blk_.alloc (.cells #[.int .i64 t, .slice A1 b.length c1] 46))
  have HN := Lib.hid (Holds.new w 46 #[.int .i64 t, .slice A1 b.length c1] w.heap.size rfl)
  clear h hbod belA
  go_enter Tryd.func4, Tryd.ntmps4
  go_wp2_with fail
  refine C.out.mono ?_
  rintro e w' ⟨rfl, rfl⟩
  clear C
  go_wp2_with fail
  refine D.out.mono ?_
  rintro e w2 ⟨rfl, own2, g5⟩
  have K2 := H1.out.grown g5 (fun e => hgg (by injection e))
  have z1 : w2.cell? ⟨g, 1, none⟩ = some (.slice (some ⟨g2, 0, none⟩) (m + 1) c) := K2.cell 1
  have z2 : w2.frozen? ⟨g, 1, none⟩ = false := K2.frozen 1
  have N2 := Lib.hid (HN.out.grown g5 (fun e => by injection e with e; omega))
  obtain ⟨R1, R2, R3⟩ := HS.out.less (w1 := w'.alloc (.cells #[.int .i64 t, .slice A1 b.length c1] 46)) BA.out g5 hw own2 (by omega : i ≤ m)
  have MV := Lib.hid (Moved.of (g := g) (A := some ⟨g2, 0, none⟩) (A' := some ⟨g2, 0, none⟩) (v := .slice (some ⟨g2, 0, none⟩) m c) BA.out g5 (.inl rfl))
  have HR1 := Lib.hid R1
  have HR2 := Lib.hid R2
  obtain ⟨A1', c1', ev, hb3, hat3, hnn3, hk3⟩ := R3 _ _ HBD.out
  injection ev with ev1 ev2 ev3
  subst ev1; subst ev3
  have HA3 := Lib.hid hat3
  have HN3 := Lib.hid hnn3
  have N3 := Lib.hid (N2.out.far (p := ⟨g, 1, none⟩) (by show w'.heap.size ≠ g; omega) (.slice (some ⟨g2, 0, none⟩) m c))
  clear own2 g5 K2 R1 R2 R3 hat3 hnn3 hk3 ev2 HBD D BA H1 HN N2 HS HON q0 q1 p1
  go_wp2_with fail
  generalize (w2.setCell ⟨g, 1, none⟩ (.slice (some ⟨g2, 0, none⟩) m c)) = w3 at HR1 HR2 HA3 N3 MV ⊢
  have k0 : w3.cell? ⟨w'.heap.size, 0, none⟩ = some (.int .i64 t) := N3.out.cell 0
  have k1 : w3.cell? ⟨w'.heap.size, 1, none⟩ = some (.slice A1 b.length c1) := N3.out.cell 1
  have q1 : w'.heap.size < w3.heap.size := N3.out.lt
  have KF := Lib.hid (fun (W : World) (hW : Below w3.heap.size w3 W) => (show W.cell? ⟨w'.heap.size, 0, none⟩ = some (.int .i64 t) ∧ W.cell? ⟨w'.heap.size, 1, none⟩ = some (.slice A1 b.length c1) ∧ Below w3.heap.size w3 W from
    ⟨(hW.cell (p := ⟨w'.heap.size, 0, none⟩) q1).trans k0, (hW.cell (p := ⟨w'.heap.size, 1, none⟩) q1).trans k1, hW⟩))
  go_region_held3 (fun W => W.cell? ⟨w'.heap.size, 0, none⟩ = some (.int .i64 t) ∧ W.cell? ⟨w'.heap.size, 1, none⟩ = some (.slice A1 b.length c1) ∧ Below w3.heap.size w3 W)
    (first | exact KF.out _ (Below.refl _ _).drew | exact KF.out _ ((Below.refl _ _).drew.trans hB2))
    (first | (go_at_call 16; refine (clone_any A1 b.length c1 b _ rfl (by omega) (HA3.out.later (Below.refl _ _).drew (Nat.le_refl _)) HN3.out).mono ?_; rintro e w4 ⟨A2, c2, rfl, hat2, hn2, hk2, hB2⟩))
  go_wp2
  have B2 : Below w3.heap.size w3 w4 := (Below.refl w3.heap.size w3).drew.trans hB2
  exact bodyPost_ret (v := .tuple #[.int .i64 t, .slice A2 b.length c2, .bool true]) (by simp [results, Tryd.results4, go_sem]) rfl
    ⟨A2, c2, rfl, hat2, ⟨_, _, _, _, HR1.out.below B2 (Nat.le_refl _), MV.out.after B2, fun p hp => .inl ⟨p, List.mem_of_mem_eraseIdx hp, rfl⟩⟩⟩
set_option maxRecDepth 100000 in
theorem mlose_any (w : World) (i : Nat) (h : Bag w g base M A n c vs l) (hi : i < n) (hw : base ≤ w.heap.size) (hc63 : c ≤ 9223372036854775807) :
    Calls Tryd.prog 8 #[.pointer (some ⟨g, 0, none⟩), .int .i64 i] w (MPuts w g base M A vs (l.eraseIdx i)) := by
  have C := Lib.hid (mtake_any w i h hi hw hc63)
  clear h
  generalize (l.getD i (0, [])).1 = t at *
  generalize (l.getD i (0, [])).2 = b at *
  go_enter Tryd.func8, Tryd.ntmps8
  go_wp2_with fail
  refine C.out.mono ?_
  rintro e w' ⟨A1, c1, rfl, _, hb⟩
  have HB := Lib.hid hb
  clear hb
  go_wp2_with fail
  go_ret
  exact ⟨rfl, HB.out⟩
end
end Go.Proofs.YtaehlafaehpbjaaDoor
