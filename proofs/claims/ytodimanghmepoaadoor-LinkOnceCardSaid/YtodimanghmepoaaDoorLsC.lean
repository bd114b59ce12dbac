/- Layer 17 (for links): Out, Heard and Put, and which blocks they leave as they were. Layer 17: nothing of a nil one, and the errors. -/
import Derived.Test.YtodimanghmepoaaDoorLsB
namespace Go.Proofs.YtodimanghmepoaaDoor
open Go.RowKit
/-- every block but the sender's own and its slice's stands -/
structure Kept (w w' : World) (g : Nat) (A : Option Addr) : Prop where
  os : w'.os = w.os
  tape : w'.tape = w.tape
  output : w'.output = w.output
  size : w.heap.size ≤ w'.heap.size
  block : ∀ k, k < w.heap.size → k ≠ g → blk A ≠ some k → w'.heap[k]? = w.heap[k]?
theorem Kept.of_below {w w' : World} {g : Nat} {A : Option Addr} (h : Below w.heap.size w w') : Kept w w' g A := ⟨h.os, h.tape, h.output, h.size, fun k hk _ _ => h.block k hk⟩
theorem Kept.of_grown {w w' : World} {g : Nat} {A : Option Addr} (h : w.grownBy w' (some g)) : Kept w w' g A := ⟨h.os, h.tape, h.output, h.size, fun k hk hn _ => h.block k hk (by intro e; injection e with e; exact hn e)⟩
theorem Kept.of_grownA {w w' : World} {g : Nat} {A : Option Addr} (h : w.grownBy w' (blk A)) : Kept w w' g A := ⟨h.os, h.tape, h.output, h.size, fun k hk _ hn => h.block k hk (fun e => hn e.symm)⟩
theorem Kept.trans {a b c : World} {g : Nat} {A : Option Addr} (h : Kept a b g A) (k : Kept b c g A) : Kept a c g A :=
  ⟨k.os.trans h.os, k.tape.trans h.tape, k.output.trans h.output, Nat.le_trans h.size k.size, fun i hi h1 h2 => (k.block i (Nat.lt_of_lt_of_le hi h.size) h1 h2).trans (h.block i hi h1 h2)⟩
theorem Kept.below {w w' : World} {g B : Nat} {A : Option Addr} (h : Kept w w' g A) (hg : B ≤ g) (hA : ∀ k, blk A = some k → B ≤ k) (hB : B ≤ w.heap.size) : Below B w w' :=
  ⟨h.os, h.tape, h.output, h.size, fun k hk => h.block k (by omega) (by omega) (fun e => by have := hA k e; omega)⟩
theorem Holds.kept {w w' : World} {g i : Nat} {A : Option Addr} {t : TypeId} {cs : Array Value} (h : Holds w i t cs) (k : Kept w w' g A) (h1 : i ≠ g) (h2 : blk A ≠ some i) : Holds w' i t cs := (k.block i h.lt h1 h2).trans h
theorem At.kept {w w' : World} {g : Nat} {A R : Option Addr} {xs : List Value} (h : At w R xs) (k : Kept w w' g A) (h1 : blk R ≠ some g) (h2 : blk R = none ∨ blk R ≠ blk A) : At w' R xs := by
  by_cases h0 : xs = []
  · subst h0; exact At.nil _ _
  · have hl := h.lt h0
    refine h.keep fun b o e i => ?_
    subst e
    exact World.cell?_of_block (a := ⟨b, o + i, none⟩) (k.block b (hl b rfl) (by intro e; subst e; exact h1 rfl) (fun e => by
      rcases h2 with h2 | h2
      · cases h2
      · exact h2 e.symm))
section
variable {g base : Nat} {E S : Int} {A : Option Addr} {n c : Nat} {vs : List Value} {l : List (List Nat)} {st lf : Int}
/-- what a sender is behind an act -/
def Fresh (w : World) (v : Value) : Prop := ∃ A n c, v = .slice A n c ∧ ∀ k, blk A = some k → w.heap.size ≤ k
def KSnd (w w' : World) (g base : Nat) (A : Option Addr) (vs : List Value) (E S : Int) (l : List (List Nat)) (st lf : Int) : Prop :=
  ∃ A' n' c' vs', Snd w' g base [] E S A' n' c' vs' l st lf ∧ Kept w w' g A ∧ (∀ k, blk A' = some k → blk A = some k ∨ w.heap.size ≤ k) ∧ ∀ v ∈ vs', v ∈ vs ∨ Fresh w v
def OutsK (w : World) (g base : Nat) (A : Option Addr) (vs : List Value) (E S : Int) (b : List Nat) (rest : List (List Nat)) (st' lf' : Int) (e : Ending) (w' : World) : Prop :=
  ∃ A1 c1, e = .returned (.tuple #[.int .i64 S, .slice A1 b.length c1, .bool true]) ∧ At w' A1 (nats .u8 b) ∧ (∀ k, blk A1 = some k → w.heap.size ≤ k) ∧ KSnd w w' g base A vs E S (b :: rest) st' lf'
def HearK (w : World) (g base : Nat) (A : Option Addr) (vs : List Value) (E S : Int) (rest : List (List Nat)) (e : Ending) (w' : World) : Prop :=
  e = .returned (.bool true) ∧ KSnd w w' g base A vs E (S + 1) rest 0 0
def PutsK (w : World) (g base : Nat) (A : Option Addr) (vs : List Value) (E S : Int) (l : List (List Nat)) (st lf : Int) (e : Ending) (w' : World) : Prop :=
  e = .returned .nilIface ∧ KSnd w w' g base A vs E S l st lf
set_option maxRecDepth 100000 in
set_option maxHeartbeats 1000000 in
theorem out_k (w : World) {b : List Nat} {rest : List (List Nat)} (k : Nat) (hk : k ≤ 3) (h : Snd w g base [] E S A n c vs (b :: rest) k 0) (hw : base ≤ w.heap.size) :
    Calls Tryd.prog 24 #[.pointer (some ⟨g, 0, none⟩)] w (OutsK w g base A vs E S b rest (min (k + 1) 3 : Nat) (3 * 2 ^ k : Nat)) := by
  have hlen := h.len
  obtain ⟨m, rfl⟩ : ∃ m, n = m + 1 := ⟨rest.length, by simp at hlen; omega⟩
  have hvl := h.vlen
  obtain ⟨v, vs', rfl⟩ : ∃ v vs', vs = v :: vs' := by
    cases vs with
    | nil => simp at hvl
    | cons v vs' => exact ⟨v, vs', rfl⟩
  obtain ⟨A1, c1, rfl, hb1, hat, hnn, hkk⟩ := h.bod 0 v b rfl rfl
  rcases h.own.lies with ⟨_, h0, _⟩ | ⟨g2, rfl, hg2, hlt2⟩
  · omega
  have hw2 : w.cell? ⟨g2, 0, none⟩ = some (.slice A1 b.length c1) := by
    obtain ⟨b', o', e', hc'⟩ := h.own.at_ 0 _ rfl
    injection e' with e'; injection e' with a1 a2; subst a1; subst a2
    exact hc'
  have hgg : g2 ≠ g := fun e => h.far (by simp [blk, e])
  have hs1 : w.cell? ⟨g, 1, none⟩ = some (.int .i64 S) := h.blk_.cell 1
  have hs2 : w.cell? ⟨g, 2, none⟩ = some (.slice (some ⟨g2, 0, none⟩) (m + 1) c) := h.blk_.cell 2
  have hs3 : w.cell? ⟨g, 3, none⟩ = some (.int .i64 k) := h.blk_.cell 3
  have hs4 : w.cell? ⟨g, 4, none⟩ = some (.int .i64 0) := h.blk_.cell 4
  have hf3 : w.frozen? ⟨g, 3, none⟩ = false := h.blk_.frozen 3
  have hf4 : w.frozen? ⟨g, 4, none⟩ = false := h.blk_.frozen 4
  have hnz : decide ((m : Int) + 1 = 0) = false := by simp; omega
  have HA := Lib.hid hat
  have HK := Lib.hid hkk
  have HN := Lib.hid hnn
  have T : ∀ (st' lf' : Int), Snd ((w.setCell ⟨g, 4, none⟩ (.int .i64 lf')).setCell ⟨g, 3, none⟩ (.int .i64 st')) g base [] E S (some ⟨g2, 0, none⟩) (m + 1) c (.slice A1 b.length c1 :: vs') (b :: rest) st' lf' ∧ w.grownBy ((w.setCell ⟨g, 4, none⟩ (.int .i64 lf')).setCell ⟨g, 3, none⟩ (.int .i64 st')) (some g) := fun st' lf' =>
    ⟨h.turn (grown_set (grown_set (grown_refl _ _) 4 _) 3 _) ((h.blk_.set 4 _).set 3 _), grown_set (grown_set (grown_refl _ _) 4 _) 3 _⟩
  have hge := h.ge
  have HT := Lib.hid T
  clear T hat hkk hnn h
  have main : ∀ (k' : Int) (st' lf' : Int), k' = k → (k' = 0 ∨ k' = 1 ∨ k' = 2 ∨ k' = 3) → True := fun _ _ _ _ _ => trivial
  clear main
  have hk4 : k = 0 ∨ k = 1 ∨ k = 2 ∨ k = 3 := by omega
  rcases hk4 with rfl | rfl | rfl | rfl
  · obtain ⟨T1, T2⟩ := HT.out 1 3
    go_enter Tryd.func24, Tryd.ntmps24
    go_wp2
    generalize ((w.setCell ⟨g, 4, none⟩ (.int .i64 3)).setCell ⟨g, 3, none⟩ (.int .i64 1)) = w1 at T1 T2 ⊢
    have p1 : w1.cell? ⟨g, 1, none⟩ = some (.int .i64 S) := T1.blk_.cell 1
    have p2 : w1.cell? ⟨g, 2, none⟩ = some (.slice (some ⟨g2, 0, none⟩) (m + 1) c) := T1.blk_.cell 2
    have p3 : w1.cell? ⟨g2, 0, none⟩ = some (.slice A1 b.length c1) := by
      rw [← hw2]
      exact World.cell?_of_block (a := ⟨g2, 0, none⟩) (T2.block g2 hlt2 (by intro e; injection e with e; exact hgg e))
    have q1 : g < w1.heap.size := T1.blk_.lt
    have q2 : g2 < w1.heap.size := Nat.lt_of_lt_of_le hlt2 T2.size
    have hat1 : At w1 A1 (nats .u8 b) := HA.out.grown T2 (by cases e : blk A1 with
      | none => exact .inl rfl
      | some k => exact .inr (by intro e2; injection e2 with e2; exact (HK.out k e).2.2.1 e2))
    have KF := Lib.hid (fun (W : World) (hW : Below w1.heap.size w1 W) => (show W.cell? ⟨g, 1, none⟩ = some (.int .i64 S) ∧ W.cell? ⟨g, 2, none⟩ = some (.slice (some ⟨g2, 0, none⟩) (m + 1) c) ∧ W.cell? ⟨g2, 0, none⟩ = some (.slice A1 b.length c1) ∧ Below w1.heap.size w1 W from
      ⟨(hW.cell (p := ⟨g, 1, none⟩) q1).trans p1, (hW.cell (p := ⟨g, 2, none⟩) q1).trans p2, (hW.cell (p := ⟨g2, 0, none⟩) q2).trans p3, hW⟩))
    have T1' := Lib.hid T1
    have T2' := Lib.hid T2
    have hat1' := Lib.hid hat1
    clear T1 T2 hat1 hs1 hs2 hs3 hs4 hf3 hf4 hw2
    go_region_held3 (fun W => W.cell? ⟨g, 1, none⟩ = some (.int .i64 S) ∧ W.cell? ⟨g, 2, none⟩ = some (.slice (some ⟨g2, 0, none⟩) (m + 1) c) ∧ W.cell? ⟨g2, 0, none⟩ = some (.slice A1 b.length c1) ∧ Below w1.heap.size w1 W)
      (first | exact KF.out _ (Below.refl _ _).drew | exact KF.out _ ((Below.refl _ _).drew.trans hB2))
      (first | (go_at_call 40; refine (sclone_any A1 b.length c1 b _ rfl (by omega) (hat1'.out.later (Below.refl _ _).drew (Nat.le_refl _)) HN.out).mono ?_; rintro e w2 ⟨A2, c2, rfl, hat2, hn2, hk2, hB2⟩))
    go_wp2
    have B2 : Below w1.heap.size w1 w2 := (Below.refl w1.heap.size w1).drew.trans hB2
    exact bodyPost_ret (v := .tuple #[.int .i64 S, .slice A2 b.length c2, .bool true]) (by simp [results, Tryd.results24, go_sem]) rfl
      ⟨A2, c2, rfl, hat2, (fun k e => Nat.le_trans T2'.out.size (hk2 k e).1), _, _, _, _, T1'.out.below B2 (Nat.le_refl _), (Kept.of_grown T2'.out).trans (Kept.of_below B2), fun k e => .inl e, fun v hv => .inl hv⟩
  · obtain ⟨T1, T2⟩ := HT.out 2 6
    go_enter Tryd.func24, Tryd.ntmps24
    go_wp2
    generalize ((w.setCell ⟨g, 4, none⟩ (.int .i64 6)).setCell ⟨g, 3, none⟩ (.int .i64 2)) = w1 at T1 T2 ⊢
    have p1 : w1.cell? ⟨g, 1, none⟩ = some (.int .i64 S) := T1.blk_.cell 1
    have p2 : w1.cell? ⟨g, 2, none⟩ = some (.slice (some ⟨g2, 0, none⟩) (m + 1) c) := T1.blk_.cell 2
    have p3 : w1.cell? ⟨g2, 0, none⟩ = some (.slice A1 b.length c1) := by
      rw [← hw2]
      exact World.cell?_of_block (a := ⟨g2, 0, none⟩) (T2.block g2 hlt2 (by intro e; injection e with e; exact hgg e))
    have q1 : g < w1.heap.size := T1.blk_.lt
    have q2 : g2 < w1.heap.size := Nat.lt_of_lt_of_le hlt2 T2.size
    have hat1 : At w1 A1 (nats .u8 b) := HA.out.grown T2 (by cases e : blk A1 with
      | none => exact .inl rfl
      | some k => exact .inr (by intro e2; injection e2 with e2; exact (HK.out k e).2.2.1 e2))
    have KF := Lib.hid (fun (W : World) (hW : Below w1.heap.size w1 W) => (show W.cell? ⟨g, 1, none⟩ = some (.int .i64 S) ∧ W.cell? ⟨g, 2, none⟩ = some (.slice (some ⟨g2, 0, none⟩) (m + 1) c) ∧ W.cell? ⟨g2, 0, none⟩ = some (.slice A1 b.length c1) ∧ Below w1.heap.size w1 W from
      ⟨(hW.cell (p := ⟨g, 1, none⟩) q1).trans p1, (hW.cell (p := ⟨g, 2, none⟩) q1).trans p2, (hW.cell (p := ⟨g2, 0, none⟩) q2).trans p3, hW⟩))
    have T1' := Lib.hid T1
    have T2' := Lib.hid T2
    have hat1' := Lib.hid hat1
    clear T1 T2 hat1 hs1 hs2 hs3 hs4 hf3 hf4 hw2
    go_region_held3 (fun W => W.cell? ⟨g, 1, none⟩ = some (.int .i64 S) ∧ W.cell? ⟨g, 2, none⟩ = some (.slice (some ⟨g2, 0, none⟩) (m + 1) c) ∧ W.cell? ⟨g2, 0, none⟩ = some (.slice A1 b.length c1) ∧ Below w1.heap.size w1 W)
      (first | exact KF.out _ (Below.refl _ _).drew | exact KF.out _ ((Below.refl _ _).drew.trans hB2))
      (first | (go_at_call 40; refine (sclone_any A1 b.length c1 b _ rfl (by omega) (hat1'.out.later (Below.refl _ _).drew (Nat.le_refl _)) HN.out).mono ?_; rintro e w2 ⟨A2, c2, rfl, hat2, hn2, hk2, hB2⟩))
    go_wp2
    have B2 : Below w1.heap.size w1 w2 := (Below.refl w1.heap.size w1).drew.trans hB2
    exact bodyPost_ret (v := .tuple #[.int .i64 S, .slice A2 b.length c2, .bool true]) (by simp [results, Tryd.results24, go_sem]) rfl
      ⟨A2, c2, rfl, hat2, (fun k e => Nat.le_trans T2'.out.size (hk2 k e).1), _, _, _, _, T1'.out.below B2 (Nat.le_refl _), (Kept.of_grown T2'.out).trans (Kept.of_below B2), fun k e => .inl e, fun v hv => .inl hv⟩
  · obtain ⟨T1, T2⟩ := HT.out 3 12
    go_enter Tryd.func24, Tryd.ntmps24
    go_wp2
    generalize ((w.setCell ⟨g, 4, none⟩ (.int .i64 12)).setCell ⟨g, 3, none⟩ (.int .i64 3)) = w1 at T1 T2 ⊢
    have p1 : w1.cell? ⟨g, 1, none⟩ = some (.int .i64 S) := T1.blk_.cell 1
    have p2 : w1.cell? ⟨g, 2, none⟩ = some (.slice (some ⟨g2, 0, none⟩) (m + 1) c) := T1.blk_.cell 2
    have p3 : w1.cell? ⟨g2, 0, none⟩ = some (.slice A1 b.length c1) := by
      rw [← hw2]
      exact World.cell?_of_block (a := ⟨g2, 0, none⟩) (T2.block g2 hlt2 (by intro e; injection e with e; exact hgg e))
    have q1 : g < w1.heap.size := T1.blk_.lt
    have q2 : g2 < w1.heap.size := Nat.lt_of_lt_of_le hlt2 T2.size
    have hat1 : At w1 A1 (nats .u8 b) := HA.out.grown T2 (by cases e : blk A1 with
      | none => exact .inl rfl
      | some k => exact .inr (by intro e2; injection e2 with e2; exact (HK.out k e).2.2.1 e2))
    have KF := Lib.hid (fun (W : World) (hW : Below w1.heap.size w1 W) => (show W.cell? ⟨g, 1, none⟩ = some (.int .i64 S) ∧ W.cell? ⟨g, 2, none⟩ = some (.slice (some ⟨g2, 0, none⟩) (m + 1) c) ∧ W.cell? ⟨g2, 0, none⟩ = some (.slice A1 b.length c1) ∧ Below w1.heap.size w1 W from
      ⟨(hW.cell (p := ⟨g, 1, none⟩) q1).trans p1, (hW.cell (p := ⟨g, 2, none⟩) q1).trans p2, (hW.cell (p := ⟨g2, 0, none⟩) q2).trans p3, hW⟩))
    have T1' := Lib.hid T1
    have T2' := Lib.hid T2
    have hat1' := Lib.hid hat1
    clear T1 T2 hat1 hs1 hs2 hs3 hs4 hf3 hf4 hw2
    go_region_held3 (fun W => W.cell? ⟨g, 1, none⟩ = some (.int .i64 S) ∧ W.cell? ⟨g, 2, none⟩ = some (.slice (some ⟨g2, 0, none⟩) (m + 1) c) ∧ W.cell? ⟨g2, 0, none⟩ = some (.slice A1 b.length c1) ∧ Below w1.heap.size w1 W)
      (first | exact KF.out _ (Below.refl _ _).drew | exact KF.out _ ((Below.refl _ _).drew.trans hB2))
      (first | (go_at_call 40; refine (sclone_any A1 b.length c1 b _ rfl (by omega) (hat1'.out.later (Below.refl _ _).drew (Nat.le_refl _)) HN.out).mono ?_; rintro e w2 ⟨A2, c2, rfl, hat2, hn2, hk2, hB2⟩))
    go_wp2
    have B2 : Below w1.heap.size w1 w2 := (Below.refl w1.heap.size w1).drew.trans hB2
    exact bodyPost_ret (v := .tuple #[.int .i64 S, .slice A2 b.length c2, .bool true]) (by simp [results, Tryd.results24, go_sem]) rfl
      ⟨A2, c2, rfl, hat2, (fun k e => Nat.le_trans T2'.out.size (hk2 k e).1), _, _, _, _, T1'.out.below B2 (Nat.le_refl _), (Kept.of_grown T2'.out).trans (Kept.of_below B2), fun k e => .inl e, fun v hv => .inl hv⟩
  · obtain ⟨T1, T2⟩ := HT.out 3 24
    go_enter Tryd.func24, Tryd.ntmps24
    go_wp2
    generalize ((w.setCell ⟨g, 4, none⟩ (.int .i64 24)).setCell ⟨g, 3, none⟩ (.int .i64 3)) = w1 at T1 T2 ⊢
    have p1 : w1.cell? ⟨g, 1, none⟩ = some (.int .i64 S) := T1.blk_.cell 1
    have p2 : w1.cell? ⟨g, 2, none⟩ = some (.slice (some ⟨g2, 0, none⟩) (m + 1) c) := T1.blk_.cell 2
    have p3 : w1.cell? ⟨g2, 0, none⟩ = some (.slice A1 b.length c1) := by
      rw [← hw2]
      exact World.cell?_of_block (a := ⟨g2, 0, none⟩) (T2.block g2 hlt2 (by intro e; injection e with e; exact hgg e))
    have q1 : g < w1.heap.size := T1.blk_.lt
    have q2 : g2 < w1.heap.size := Nat.lt_of_lt_of_le hlt2 T2.size
    have hat1 : At w1 A1 (nats .u8 b) := HA.out.grown T2 (by cases e : blk A1 with
      | none => exact .inl rfl
      | some k => exact .inr (by intro e2; injection e2 with e2; exact (HK.out k e).2.2.1 e2))
    have KF := Lib.hid (fun (W : World) (hW : Below w1.heap.size w1 W) => (show W.cell? ⟨g, 1, none⟩ = some (.int .i64 S) ∧ W.cell? ⟨g, 2, none⟩ = some (.slice (some ⟨g2, 0, none⟩) (m + 1) c) ∧ W.cell? ⟨g2, 0, none⟩ = some (.slice A1 b.length c1) ∧ Below w1.heap.size w1 W from
      ⟨(hW.cell (p := ⟨g, 1, none⟩) q1).trans p1, (hW.cell (p := ⟨g, 2, none⟩) q1).trans p2, (hW.cell (p := ⟨g2, 0, none⟩) q2).trans p3, hW⟩))
    have T1' := Lib.hid T1
    have T2' := Lib.hid T2
    have hat1' := Lib.hid hat1
    clear T1 T2 hat1 hs1 hs2 hs3 hs4 hf3 hf4 hw2
    go_region_held3 (fun W => W.cell? ⟨g, 1, none⟩ = some (.int .i64 S) ∧ W.cell? ⟨g, 2, none⟩ = some (.slice (some ⟨g2, 0, none⟩) (m + 1) c) ∧ W.cell? ⟨g2, 0, none⟩ = some (.slice A1 b.length c1) ∧ Below w1.heap.size w1 W)
      (first | exact KF.out _ (Below.refl _ _).drew | exact KF.out _ ((Below.refl _ _).drew.trans hB2))
      (first | (go_at_call 40; refine (sclone_any A1 b.length c1 b _ rfl (by omega) (hat1'.out.later (Below.refl _ _).drew (Nat.le_refl _)) HN.out).mono ?_; rintro e w2 ⟨A2, c2, rfl, hat2, hn2, hk2, hB2⟩))
    go_wp2
    have B2 : Below w1.heap.size w1 w2 := (Below.refl w1.heap.size w1).drew.trans hB2
    exact bodyPost_ret (v := .tuple #[.int .i64 S, .slice A2 b.length c2, .bool true]) (by simp [results, Tryd.results24, go_sem]) rfl
      ⟨A2, c2, rfl, hat2, (fun k e => Nat.le_trans T2'.out.size (hk2 k e).1), _, _, _, _, T1'.out.below B2 (Nat.le_refl _), (Kept.of_grown T2'.out).trans (Kept.of_below B2), fun k e => .inl e, fun v hv => .inl hv⟩
set_option maxRecDepth 100000 in
set_option maxHeartbeats 1000000 in
theorem heard_k (w : World) {b : List Nat} {rest : List (List Nat)} (h : Snd w g base [] E S A n c vs (b :: rest) st lf) (hS : 1 ≤ S ∧ S ≤ 1073741824) (hw : base ≤ w.heap.size) :
    Calls Tryd.prog 27 #[.pointer (some ⟨g, 0, none⟩), .int .i64 E, .int .i64 S] w (HearK w g base A vs E S rest) := by
  have hlen := h.len
  obtain ⟨m, rfl⟩ : ∃ m, n = m + 1 := ⟨rest.length, by simp at hlen; omega⟩
  have hvl := h.vlen
  obtain ⟨v, vs', rfl⟩ : ∃ v vs', vs = v :: vs' := by
    cases vs with
    | nil => simp at hvl
    | cons v vs' => exact ⟨v, vs', rfl⟩
  rcases h.own.lies with ⟨_, h0, _⟩ | ⟨g2, rfl, hg2, hlt2⟩
  · omega
  have hgg : g2 ≠ g := fun e => h.far (by simp [blk, e])
  have hone : ∀ u ∈ vs', u.oneCell' = true := by
    intro u hu
    obtain ⟨i, hi, rfl⟩ := List.mem_iff_getElem.1 hu
    have hl : i < rest.length := by simp at hlen hvl; omega
    obtain ⟨A1, c1, e, _⟩ := h.bod (i + 1) (vs'[i]) (rest[i]) (by simp [List.getElem?_eq_getElem hi]) (by simp [List.getElem?_eq_getElem hl])
    rw [e]; rfl
  have hcap := h.own.cap.2
  unfold maxLen at hcap
  have q0 : w.cell? ⟨g, 0, none⟩ = some (.int .i64 E) := h.blk_.cell 0
  have q1 : w.cell? ⟨g, 1, none⟩ = some (.int .i64 S) := h.blk_.cell 1
  have q2 : w.cell? ⟨g, 2, none⟩ = some (.slice (some ⟨g2, 0, none⟩) (m + 1) c) := h.blk_.cell 2
  have hnz : decide ((m : Int) + 1 = 0) = false := by simp; omega
  have HS := Lib.hid h
  clear h
  go_enter Tryd.func27, Tryd.ntmps27
  go_wp2_with (go_at_call 51; refine (delete_any base g2 m c v vs' w HS.out.own hone (by omega)).mono ?_; rintro e w2 ⟨rfl, own2, gr⟩; have H2 := HS.out.blk_.grown gr (by intro e; injection e with e; exact hgg e); have r1 : w2.cell? ⟨g, 1, none⟩ = some (.int .i64 S) := H2.cell 1; have r2 : w2.cell? ⟨g, 2, none⟩ = some (.slice (some ⟨g2, 0, none⟩) (m + 1) c) := H2.cell 2; have r3 : w2.cell? ⟨g, 3, none⟩ = some (.int .i64 st) := H2.cell 3; have r4 : w2.cell? ⟨g, 4, none⟩ = some (.int .i64 lf) := H2.cell 4; have f1 := H2.frozen 1; have f2 := H2.frozen 2; have f3 := H2.frozen 3; have f4 := H2.frozen 4)
  go_ret
  have G : w2.grownBy ((((w2.setCell ⟨g, 2, none⟩ (.slice (some ⟨g2, 0, none⟩) m c)).setCell ⟨g, 1, none⟩ (.int .i64 (S + 1))).setCell ⟨g, 3, none⟩ (.int .i64 0)).setCell ⟨g, 4, none⟩ (.int .i64 0)) (some g) := grown_set (grown_set (grown_set (grown_set (grown_refl _ _) 2 _) 1 _) 3 _) 4 _
  refine ⟨rfl, some ⟨g2, 0, none⟩, m, c, vs', ⟨?_, ?_, ?_, ?_, ?_, ?_, ?_⟩, ?_, fun k e => .inl e, fun u hu => .inl (List.mem_cons_of_mem _ hu)⟩
  · exact (((H2.set 2 _).set 1 _).set 3 _).set 4 _
  · exact own2.kept G (.inr (by intro e; simp [blk] at e; exact hgg e))
  · simpa using hlen
  · intro i u d h1 h2
    have hb := HS.out.bod (i + 1) u d (by simpa using h1) (by simpa using h2)
    exact (hb.grown (A' := some ⟨g2, 0, none⟩) gr (.inr rfl) (fun k e => .inl e)).grown G (.inl rfl) (fun k e => .inl e)
  · exact HS.out.far
  · exact HS.out.ge
  · exact fun p hp => ((HS.out.ext p hp).grown (A' := some ⟨g2, 0, none⟩) gr (.inr rfl) (fun k e => .inl e)).grown G (.inl rfl) (fun k e => .inl e)
  · exact (Kept.of_grownA (A := some ⟨g2, 0, none⟩) gr).trans (Kept.of_grown G)
set_option maxRecDepth 100000 in
set_option maxHeartbeats 1000000 in
theorem put_k (w : World) (h : Snd w g base [] E S A n c vs l st lf) (hn : n < 64) (hS : 1 ≤ S ∧ S + n ≤ 1073741824) (hw : base ≤ w.heap.size)
    (A1 : Option Addr) (c1 : Nat) (b : List Nat) (hb : b.length ≤ 8192) (hat : At w A1 (nats .u8 b)) (hz : A1 = none → b.length = 0) :
    Calls Tryd.prog 22 #[.pointer (some ⟨g, 0, none⟩), .slice A1 b.length c1] w (PutsK w g base A vs E S (l ++ [b]) st lf) := by
  have p1 : w.cell? ⟨g, 1, none⟩ = some (.int .i64 S) := h.blk_.cell 1
  have p2 : w.cell? ⟨g, 2, none⟩ = some (.slice A n c) := h.blk_.cell 2
  have d1 : decide (8192 < (b.length : Int)) = false := by simp; omega
  have d2 : decide (64 ≤ (n : Int)) = false := by simp; omega
  have d3 : decide (1073741824 < S + (n : Int)) = false := by simp; omega
  have hge := h.ge
  have HS := Lib.hid h
  have HA := Lib.hid hat
  have HZ := Lib.hid hz
  clear h hat hz
  go_enter Tryd.func22, Tryd.ntmps22
  go_wp2
  go_quiet (fail)
  go_wp2
  have S1 := HS.out.of_drewN (k := nq)
  have B1 : Below w.heap.size w (w.drewN nq) := ⟨rfl, rfl, rfl, Nat.le_refl _, fun _ _ => rfl⟩
  have A1' : At (w.drewN nq) A1 (nats .u8 b) := HA.out
  have hsz : w.heap.size = (w.drewN nq).heap.size := rfl
  clear p1 p2 HS HA
  generalize w.drewN nq = w1 at S1 B1 A1' hsz ⊢
  have p2 : w1.cell? ⟨g, 2, none⟩ = some (.slice A n c) := S1.blk_.cell 2
  have ltg : g < w1.heap.size := S1.blk_.lt
  have hw1 : base ≤ w1.heap.size := by omega
  have HS1 := Lib.hid S1
  have HA1 := Lib.hid A1'
  have HB1 := Lib.hid B1
  clear S1 A1' B1
  go_region_law (first
    | ((refine step_app rfl elt_sl base (.tmp 39) (.tmp 42) rfl vs rfl ((HS1.out.own.below ((Below.refl _ _).drew.trans hB2) (Nat.le_refl _)).alloc _) [.slice A2 b.length c2] rfl (At.lit _ _ _ _ _ rfl) rfl (by intro u hu; simp at hu; subst hu; rfl) (by unfold maxLen; omega) (by omega) (by simp; omega) ?_); intro A3 c3 w3 own3 g3 hA3; have H3 := ((HS1.out.blk_.later ((Below.refl _ _).drew.trans hB2) (Nat.le_refl _)).alloc _).grown g3 HS1.out.far; have z1 : w3.cell? ⟨g, 2, none⟩ = some (.slice A n c) := H3.cell 2; have z2 := H3.frozen 2; clear H3)
    | (go_simp; go_at_call 40; refine (sclone_any A1 b.length c1 b _ rfl (by omega) (HA1.out.later (Below.refl _ _).drew (Nat.le_refl _)) HZ.out).mono ?_; rintro e w2 ⟨A2, c2, rfl, hat2, hz2, hk2, hB2⟩; have p2' := (hB2.cell (p := ⟨g, 2, none⟩) ltg).trans p2; have hs2 : w1.heap.size ≤ w2.heap.size := hB2.size; have ltg2 : g < w2.heap.size := Nat.lt_of_lt_of_le ltg hs2; have hc2 := Lib.hid hk2; have hd2 := Lib.hid hat2; clear hk2 hat2))
  all_goals
    have B2 : Below w1.heap.size w1 w2 := (Below.refl w1.heap.size w1).drew.trans hB2
    obtain ⟨R1, R2⟩ := HS1.out.more (w2 := w2) hw1 hb B2 hd2.out hz2 hc2.out ((Below.refl _ _).alloc (Nat.le_refl _) _) own3 g3 hA3
    have R1' := Lib.hid R1
    have R2' := Lib.hid R2
    have RK := Lib.hid ((Kept.of_below (g := g) (A := A) HB1.out).trans ((Kept.of_below B2).trans ((Kept.of_below ((Below.refl w2.heap.size w2).alloc (Nat.le_refl _) _)).trans ((Kept.of_grownA g3).trans (Kept.of_grown (grown_set (grown_refl _ _) 2 (.slice A3 (n + 1) c3)))))))
    have RF := Lib.hid (show ∀ v ∈ vs ++ [.slice A2 b.length c2], v ∈ vs ∨ Fresh w v from fun v hv => by
      have h5 := HB1.out.size
      rcases List.mem_append.1 hv with h | h
      · exact .inl h
      · rw [List.mem_singleton.1 h]
        exact .inr ⟨A2, _, _, rfl, fun k e => by have h7 : w1.heap.size ≤ k := (hc2.out k e).1; omega⟩)
    have RN := Lib.hid (show ∀ k, blk A3 = some k → blk A = some k ∨ w.heap.size ≤ k from fun k e => by
      have h5 := HB1.out.size
      have h6 := B2.size
      rcases hA3 with e2 | e2
      · exact .inl (e2 ▸ e)
      · rw [e2] at e; injection e with e; exact .inr (by simp at e; omega))
    clear R1 R2
    go_wp2
    go_ret
    exact ⟨rfl, _, _, _, _, R1'.out, RK.out, RN.out, RF.out⟩
end
end Go.Proofs.YtodimanghmepoaaDoor
namespace Go.Proofs.YtodimanghmepoaaDoor
open Go.RowKit
set_option maxRecDepth 100000 in
theorem tick_nil (w : World) : Calls Tryd.prog 30 #[.pointer none] w fun e w' => e = .returned (.tuple #[]) ∧ w = w' := by
  go_enter Tryd.func30, Tryd.ntmps30
  go_wp2
  exact bodyPost_end (v := .tuple #[]) (by simp [results, Tryd.results30, go_sem]) rfl ⟨rfl, rfl⟩
set_option maxRecDepth 100000 in
theorem out_nil (w : World) : Calls Tryd.prog 24 #[.pointer none] w fun e w' => e = .returned (.tuple #[.int .i64 0, .slice none 0 0, .bool false]) ∧ w = w' := by
  go_enter Tryd.func24, Tryd.ntmps24
  go_wp2
  exact bodyPost_ret (v := .tuple #[.int .i64 0, .slice none 0 0, .bool false]) (by simp [results, Tryd.results24, go_sem]) rfl ⟨rfl, rfl⟩
set_option maxRecDepth 100000 in
theorem put_nil (v : Value) (w : World) : Calls Tryd.prog 22 #[.pointer none, v] w fun e w' => e = .returned (.iface 70 (.int .i64 1)) ∧ w = w' := by
  go_enter Tryd.func22, Tryd.ntmps22
  go_wp2
  go_ret
  exact ⟨rfl, rfl⟩
set_option maxRecDepth 100000 in
theorem heard_nil (e s : Int) (w : World) : Calls Tryd.prog 27 #[.pointer none, .int .i64 e, .int .i64 s] w fun e w' => e = .returned (.bool false) ∧ w = w' := by
  go_enter Tryd.func27, Tryd.ntmps27
  go_wp2
  go_ret
  exact ⟨rfl, rfl⟩
set_option maxRecDepth 100000 in
theorem sepoch_nil (w : World) : Calls Tryd.prog 25 #[.pointer none] w fun e w' => e = .returned (.int .i64 0) ∧ w = w' := by
  go_enter Tryd.func25, Tryd.ntmps25
  go_wp2
  go_ret
  exact ⟨rfl, rfl⟩
set_option maxRecDepth 100000 in
theorem waits_nil (w : World) : Calls Tryd.prog 29 #[.pointer none] w fun e w' => e = .returned (.int .i64 0) ∧ w = w' := by
  go_enter Tryd.func29, Tryd.ntmps29
  go_wp2
  go_ret
  exact ⟨rfl, rfl⟩
set_option maxRecDepth 100000 in
theorem new_bad (E : Int) (w : World) (hE : E < 1 ∨ 1073741824 < E) :
    Calls Tryd.prog 20 #[.int .i64 E] w fun e w' => e = .returned (.tuple #[.pointer none, .iface 70 (.int .i64 1)]) ∧ w = w' := by
  by_cases h : E < 1
  · have h1 : decide (E < 1) = true := decide_eq_true h
    go_enter Tryd.func20, Tryd.ntmps20
    go_wp2
    exact bodyPost_ret (v := .tuple #[.pointer none, .iface 70 (.int .i64 1)]) (by simp [results, Tryd.results20, go_sem]) rfl ⟨rfl, rfl⟩
  · have h1 : decide (E < 1) = false := decide_eq_false h
    have h2 : decide (1073741824 < E) = true := decide_eq_true (by omega)
    go_enter Tryd.func20, Tryd.ntmps20
    go_wp2
    exact bodyPost_ret (v := .tuple #[.pointer none, .iface 70 (.int .i64 1)]) (by simp [results, Tryd.results20, go_sem]) rfl ⟨rfl, rfl⟩
section
variable {g base : Nat} {xs : List (Value × List Nat)} {E S : Int} {A : Option Addr} {n c : Nat} {vs : List Value} {l : List (List Nat)} {st lf : Int}
set_option maxRecDepth 100000 in
theorem put_long (w : World) (A1 : Option Addr) (m c1 : Nat) (hm : 8192 < m) :
    Calls Tryd.prog 22 #[.pointer (some ⟨g, 0, none⟩), .slice A1 m c1] w fun e w' => e = .returned (.iface 70 (.int .i64 5)) ∧ w = w' := by
  have d1 : decide (8192 < (m : Int)) = true := decide_eq_true (by omega)
  go_enter Tryd.func22, Tryd.ntmps22
  go_wp2
  go_ret
  exact ⟨rfl, rfl⟩
set_option maxRecDepth 100000 in
theorem put_full (w : World) (h : Snd w g base xs E S A n c vs l st lf) (hn : 64 ≤ n) (A1 : Option Addr) (m c1 : Nat) (hm : m ≤ 8192) :
    Calls Tryd.prog 22 #[.pointer (some ⟨g, 0, none⟩), .slice A1 m c1] w fun e w' => e = .returned (.iface 70 (.int .i64 14)) ∧ ∃ j, w.drewN j = w' := by
  have p1 : w.cell? ⟨g, 1, none⟩ = some (.int .i64 S) := h.blk_.cell 1
  have p2 : w.cell? ⟨g, 2, none⟩ = some (.slice A n c) := h.blk_.cell 2
  have d1 : decide (8192 < (m : Int)) = false := decide_eq_false (by omega)
  have d2 : decide (64 ≤ (n : Int)) = true := decide_eq_true (by omega)
  clear h
  go_enter Tryd.func22, Tryd.ntmps22
  go_wp2
  go_quiet (fail)
  go_wp2
  go_ret
  exact ⟨rfl, _, rfl⟩
end
end Go.Proofs.YtodimanghmepoaaDoor
