/- Layer 17: Out, Reset. Layer 17: Reset, Heard. Layer 17: Put. -/
import Derived.Test.YtodimanghmepoaaDoorLsA
import Derived.Deep.RegionHeld3
import Derived.Deep.RegionLaw
namespace Go.Proofs.YtodimanghmepoaaDoor
open Go.RowKit
section
variable {g base : Nat} {xs : List (Value × List Nat)} {E S : Int} {A : Option Addr} {n c : Nat} {vs : List Value} {l : List (List Nat)} {st lf : Int}
set_option maxRecDepth 100000 in
theorem out_none (w : World) (h : Snd w g base xs E S A n c vs l st lf) (h0 : n = 0 ∨ 0 < lf) :
    Calls Tryd.prog 24 #[.pointer (some ⟨g, 0, none⟩)] w fun e w' => e = .returned (.tuple #[.int .i64 0, .slice none 0 0, .bool false]) ∧ w = w' := by
  have hc : w.cell? ⟨g, 2, none⟩ = some (.slice A n c) := h.blk_.cell 2
  have hc4 : w.cell? ⟨g, 4, none⟩ = some (.int .i64 lf) := h.blk_.cell 4
  clear h
  by_cases hn : n = 0
  · subst hn
    go_enter Tryd.func24, Tryd.ntmps24
    go_wp2
    exact bodyPost_ret (v := .tuple #[.int .i64 0, .slice none 0 0, .bool false]) (by simp [results, Tryd.results24, go_sem]) rfl ⟨rfl, rfl⟩
  · have hp : 0 < lf := by omega
    have hn' : decide ((n : Int) = 0) = false := by simp; omega
    clear h0
    go_enter Tryd.func24, Tryd.ntmps24
    go_wp2
    exact bodyPost_ret (v := .tuple #[.int .i64 0, .slice none 0 0, .bool false]) (by simp [results, Tryd.results24, go_sem]) rfl ⟨rfl, rfl⟩
/-- what Out hands back where something is to be sent -/
def Outs (w : World) (g base : Nat) (xs : List (Value × List Nat)) (E S : Int) (b : List Nat) (rest : List (List Nat)) (st' lf' : Int) (e : Ending) (w' : World) : Prop :=
  ∃ A1 c1, e = .returned (.tuple #[.int .i64 S, .slice A1 b.length c1, .bool true]) ∧ At w' A1 (nats .u8 b) ∧ IsSnd w' g base ((.slice A1 b.length c1, b) :: xs) E S (b :: rest) st' lf' ∧ Below base w w'
set_option maxRecDepth 100000 in
set_option maxHeartbeats 1000000 in
theorem out_some (w : World) {b : List Nat} {rest : List (List Nat)} (k : Nat) (hk : k ≤ 3) (h : Snd w g base xs E S A n c vs (b :: rest) k 0) (hw : base ≤ w.heap.size) :
    Calls Tryd.prog 24 #[.pointer (some ⟨g, 0, none⟩)] w (Outs w g base xs E S b rest (min (k + 1) 3 : Nat) (3 * 2 ^ k : Nat)) := by
  have hlen := h.len
  obtain ⟨m, rfl⟩ : ∃ m, n = m + 1 := ⟨rest.length, by simp at hlen; omega⟩
  have hvl := h.vlen
  obtain ⟨v, vs', rfl⟩ : ∃ v vs', vs = v :: vs' := by
    cases vs with
    | nil => simp at hvl
    | cons v vs' => exact ⟨v, vs', rfl⟩
  obtain ⟨A1, c1, rfl, hb1, hat, hnn, hkk⟩ := h.bod 0 v b rfl rfl
  rcases h.own.lies with ⟨_, h0, _⟩ | ⟨g2, rfl, hg2, hlt2⟩
  · omega
  have hw2 : w.cell? ⟨g2, 0, none⟩ = some (.slice A1 b.length c1) := by
    obtain ⟨b', o', e', hc'⟩ := h.own.at_ 0 _ rfl
    injection e' with e'; injection e' with a1 a2; subst a1; subst a2
    exact hc'
  have hgg : g2 ≠ g := fun e => h.far (by simp [blk, e])
  have hs1 : w.cell? ⟨g, 1, none⟩ = some (.int .i64 S) := h.blk_.cell 1
  have hs2 : w.cell? ⟨g, 2, none⟩ = some (.slice (some ⟨g2, 0, none⟩) (m + 1) c) := h.blk_.cell 2
  have hs3 : w.cell? ⟨g, 3, none⟩ = some (.int .i64 k) := h.blk_.cell 3
  have hs4 : w.cell? ⟨g, 4, none⟩ = some (.int .i64 0) := h.blk_.cell 4
  have hf3 : w.frozen? ⟨g, 3, none⟩ = false := h.blk_.frozen 3
  have hf4 : w.frozen? ⟨g, 4, none⟩ = false := h.blk_.frozen 4
  have hnz : decide ((m : Int) + 1 = 0) = false := by simp; omega
  have HA := Lib.hid hat
  have HK := Lib.hid hkk
  have HN := Lib.hid hnn
  have T : ∀ (st' lf' : Int), Snd ((w.setCell ⟨g, 4, none⟩ (.int .i64 lf')).setCell ⟨g, 3, none⟩ (.int .i64 st')) g base xs E S (some ⟨g2, 0, none⟩) (m + 1) c (.slice A1 b.length c1 :: vs') (b :: rest) st' lf' ∧ w.grownBy ((w.setCell ⟨g, 4, none⟩ (.int .i64 lf')).setCell ⟨g, 3, none⟩ (.int .i64 st')) (some g) := fun st' lf' =>
    ⟨h.turn (grown_set (grown_set (grown_refl _ _) 4 _) 3 _) ((h.blk_.set 4 _).set 3 _), grown_set (grown_set (grown_refl _ _) 4 _) 3 _⟩
  have hge := h.ge
  have HT := Lib.hid T
  clear T hat hkk hnn h
  have main : ∀ (k' : Int) (st' lf' : Int), k' = k → (k' = 0 ∨ k' = 1 ∨ k' = 2 ∨ k' = 3) → True := fun _ _ _ _ _ => trivial
  clear main
  have hk4 : k = 0 ∨ k = 1 ∨ k = 2 ∨ k = 3 := by omega
  rcases hk4 with rfl | rfl | rfl | rfl
  · obtain ⟨T1, T2⟩ := HT.out 1 3
    go_enter Tryd.func24, Tryd.ntmps24
    go_wp2
    generalize ((w.setCell ⟨g, 4, none⟩ (.int .i64 3)).setCell ⟨g, 3, none⟩ (.int .i64 1)) = w1 at T1 T2 ⊢
    have p1 : w1.cell? ⟨g, 1, none⟩ = some (.int .i64 S) := T1.blk_.cell 1
    have p2 : w1.cell? ⟨g, 2, none⟩ = some (.slice (some ⟨g2, 0, none⟩) (m + 1) c) := T1.blk_.cell 2
    have p3 : w1.cell? ⟨g2, 0, none⟩ = some (.slice A1 b.length c1) := by
      rw [← hw2]
      exact World.cell?_of_block (a := ⟨g2, 0, none⟩) (T2.block g2 hlt2 (by intro e; injection e with e; exact hgg e))
    have q1 : g < w1.heap.size := T1.blk_.lt
    have q2 : g2 < w1.heap.size := Nat.lt_of_lt_of_le hlt2 T2.size
    have hat1 : At w1 A1 (nats .u8 b) := HA.out.grown T2 (by cases e : blk A1 with
      | none => exact .inl rfl
      | some k => exact .inr (by intro e2; injection e2 with e2; exact (HK.out k e).2.2.1 e2))
    have KF := Lib.hid (fun (W : World) (hW : Below w1.heap.size w1 W) => (show W.cell? ⟨g, 1, none⟩ = some (.int .i64 S) ∧ W.cell? ⟨g, 2, none⟩ = some (.slice (some ⟨g2, 0, none⟩) (m + 1) c) ∧ W.cell? ⟨g2, 0, none⟩ = some (.slice A1 b.length c1) ∧ Below w1.heap.size w1 W from
      ⟨(hW.cell (p := ⟨g, 1, none⟩) q1).trans p1, (hW.cell (p := ⟨g, 2, none⟩) q1).trans p2, (hW.cell (p := ⟨g2, 0, none⟩) q2).trans p3, hW⟩))
    have T1' := Lib.hid T1
    have T2' := Lib.hid T2
    have hat1' := Lib.hid hat1
    clear T1 T2 hat1 hs1 hs2 hs3 hs4 hf3 hf4 hw2
    go_region_held3 (fun W => W.cell? ⟨g, 1, none⟩ = some (.int .i64 S) ∧ W.cell? ⟨g, 2, none⟩ = some (.slice (some ⟨g2, 0, none⟩) (m + 1) c) ∧ W.cell? ⟨g2, 0, none⟩ = some (.slice A1 b.length c1) ∧ Below w1.heap.size w1 W)
      (first | exact KF.out _ (Below.refl _ _).drew | exact KF.out _ ((Below.refl _ _).drew.trans hB2))
      (first | (go_at_call 40; refine (sclone_any A1 b.length c1 b _ rfl (by omega) (hat1'.out.later (Below.refl _ _).drew (Nat.le_refl _)) HN.out).mono ?_; rintro e w2 ⟨A2, c2, rfl, hat2, hn2, hk2, hB2⟩))
    go_wp2
    have B2 : Below w1.heap.size w1 w2 := (Below.refl w1.heap.size w1).drew.trans hB2
    exact bodyPost_ret (v := .tuple #[.int .i64 S, .slice A2 b.length c2, .bool true]) (by simp [results, Tryd.results24, go_sem]) rfl
      ⟨A2, c2, rfl, hat2, ⟨_, _, _, _, (T1'.out.below B2 (Nat.le_refl _)).clone (by omega) hat2 hn2 (fun k e => by have h1 := (hk2 k e).1; have h2 : w1.heap.size ≤ k := h1; have h3 := T2'.out.size; exact ⟨by omega, (hk2 k e).2, by omega, fun e2 => by simp [blk] at e2; omega⟩)⟩, (below_of_grown T2'.out hge hw).trans (B2.mono (by have := T2'.out.size; omega))⟩
  · obtain ⟨T1, T2⟩ := HT.out 2 6
    go_enter Tryd.func24, Tryd.ntmps24
    go_wp2
    generalize ((w.setCell ⟨g, 4, none⟩ (.int .i64 6)).setCell ⟨g, 3, none⟩ (.int .i64 2)) = w1 at T1 T2 ⊢
    have p1 : w1.cell? ⟨g, 1, none⟩ = some (.int .i64 S) := T1.blk_.cell 1
    have p2 : w1.cell? ⟨g, 2, none⟩ = some (.slice (some ⟨g2, 0, none⟩) (m + 1) c) := T1.blk_.cell 2
    have p3 : w1.cell? ⟨g2, 0, none⟩ = some (.slice A1 b.length c1) := by
      rw [← hw2]
      exact World.cell?_of_block (a := ⟨g2, 0, none⟩) (T2.block g2 hlt2 (by intro e; injection e with e; exact hgg e))
    have q1 : g < w1.heap.size := T1.blk_.lt
    have q2 : g2 < w1.heap.size := Nat.lt_of_lt_of_le hlt2 T2.size
    have hat1 : At w1 A1 (nats .u8 b) := HA.out.grown T2 (by cases e : blk A1 with
      | none => exact .inl rfl
      | some k => exact .inr (by intro e2; injection e2 with e2; exact (HK.out k e).2.2.1 e2))
    have KF := Lib.hid (fun (W : World) (hW : Below w1.heap.size w1 W) => (show W.cell? ⟨g, 1, none⟩ = some (.int .i64 S) ∧ W.cell? ⟨g, 2, none⟩ = some (.slice (some ⟨g2, 0, none⟩) (m + 1) c) ∧ W.cell? ⟨g2, 0, none⟩ = some (.slice A1 b.length c1) ∧ Below w1.heap.size w1 W from
      ⟨(hW.cell (p := ⟨g, 1, none⟩) q1).trans p1, (hW.cell (p := ⟨g, 2, none⟩) q1).trans p2, (hW.cell (p := ⟨g2, 0, none⟩) q2).trans p3, hW⟩))
    have T1' := Lib.hid T1
    have T2' := Lib.hid T2
    have hat1' := Lib.hid hat1
    clear T1 T2 hat1 hs1 hs2 hs3 hs4 hf3 hf4 hw2
    go_region_held3 (fun W => W.cell? ⟨g, 1, none⟩ = some (.int .i64 S) ∧ W.cell? ⟨g, 2, none⟩ = some (.slice (some ⟨g2, 0, none⟩) (m + 1) c) ∧ W.cell? ⟨g2, 0, none⟩ = some (.slice A1 b.length c1) ∧ Below w1.heap.size w1 W)
      (first | exact KF.out _ (Below.refl _ _).drew | exact KF.out _ ((Below.refl _ _).drew.trans hB2))
      (first | (go_at_call 40; refine (sclone_any A1 b.length c1 b _ rfl (by omega) (hat1'.out.later (Below.refl _ _).drew (Nat.le_refl _)) HN.out).mono ?_; rintro e w2 ⟨A2, c2, rfl, hat2, hn2, hk2, hB2⟩))
    go_wp2
    have B2 : Below w1.heap.size w1 w2 := (Below.refl w1.heap.size w1).drew.trans hB2
    exact bodyPost_ret (v := .tuple #[.int .i64 S, .slice A2 b.length c2, .bool true]) (by simp [results, Tryd.results24, go_sem]) rfl
      ⟨A2, c2, rfl, hat2, ⟨_, _, _, _, (T1'.out.below B2 (Nat.le_refl _)).clone (by omega) hat2 hn2 (fun k e => by have h1 := (hk2 k e).1; have h2 : w1.heap.size ≤ k := h1; have h3 := T2'.out.size; exact ⟨by omega, (hk2 k e).2, by omega, fun e2 => by simp [blk] at e2; omega⟩)⟩, (below_of_grown T2'.out hge hw).trans (B2.mono (by have := T2'.out.size; omega))⟩
  · obtain ⟨T1, T2⟩ := HT.out 3 12
    go_enter Tryd.func24, Tryd.ntmps24
    go_wp2
    generalize ((w.setCell ⟨g, 4, none⟩ (.int .i64 12)).setCell ⟨g, 3, none⟩ (.int .i64 3)) = w1 at T1 T2 ⊢
    have p1 : w1.cell? ⟨g, 1, none⟩ = some (.int .i64 S) := T1.blk_.cell 1
    have p2 : w1.cell? ⟨g, 2, none⟩ = some (.slice (some ⟨g2, 0, none⟩) (m + 1) c) := T1.blk_.cell 2
    have p3 : w1.cell? ⟨g2, 0, none⟩ = some (.slice A1 b.length c1) := by
      rw [← hw2]
      exact World.cell?_of_block (a := ⟨g2, 0, none⟩) (T2.block g2 hlt2 (by intro e; injection e with e; exact hgg e))
    have q1 : g < w1.heap.size := T1.blk_.lt
    have q2 : g2 < w1.heap.size := Nat.lt_of_lt_of_le hlt2 T2.size
    have hat1 : At w1 A1 (nats .u8 b) := HA.out.grown T2 (by cases e : blk A1 with
      | none => exact .inl rfl
      | some k => exact .inr (by intro e2; injection e2 with e2; exact (HK.out k e).2.2.1 e2))
    have KF := Lib.hid (fun (W : World) (hW : Below w1.heap.size w1 W) => (show W.cell? ⟨g, 1, none⟩ = some (.int .i64 S) ∧ W.cell? ⟨g, 2, none⟩ = some (.slice (some ⟨g2, 0, none⟩) (m + 1) c) ∧ W.cell? ⟨g2, 0, none⟩ = some (.slice A1 b.length c1) ∧ Below w1.heap.size w1 W from
      ⟨(hW.cell (p := ⟨g, 1, none⟩) q1).trans p1, (hW.cell (p := ⟨g, 2, none⟩) q1).trans p2, (hW.cell (p := ⟨g2, 0, none⟩) q2).trans p3, hW⟩))
    have T1' := Lib.hid T1
    have T2' := Lib.hid T2
    have hat1' := Lib.hid hat1
    clear T1 T2 hat1 hs1 hs2 hs3 hs4 hf3 hf4 hw2
    go_region_held3 (fun W => W.cell? ⟨g, 1, none⟩ = some (.int .i64 S) ∧ W.cell? ⟨g, 2, none⟩ = some (.slice (some ⟨g2, 0, none⟩) (m + 1) c) ∧ W.cell? ⟨g2, 0, none⟩ = some (.slice A1 b.length c1) ∧ Below w1.heap.size w1 W)
      (first | exact KF.out _ (Below.refl _ _).drew | exact KF.out _ ((Below.refl _ _).drew.trans hB2))
      (first | (go_at_call 40; refine (sclone_any A1 b.length c1 b _ rfl (by omega) (hat1'.out.later (Below.refl _ _).drew (Nat.le_refl _)) HN.out).mono ?_; rintro e w2 ⟨A2, c2, rfl, hat2, hn2, hk2, hB2⟩))
    go_wp2
    have B2 : Below w1.heap.size w1 w2 := (Below.refl w1.heap.size w1).drew.trans hB2
    exact bodyPost_ret (v := .tuple #[.int .i64 S, .slice A2 b.length c2, .bool true]) (by simp [results, Tryd.results24, go_sem]) rfl
      ⟨A2, c2, rfl, hat2, ⟨_, _, _, _, (T1'.out.below B2 (Nat.le_refl _)).clone (by omega) hat2 hn2 (fun k e => by have h1 := (hk2 k e).1; have h2 : w1.heap.size ≤ k := h1; have h3 := T2'.out.size; exact ⟨by omega, (hk2 k e).2, by omega, fun e2 => by simp [blk] at e2; omega⟩)⟩, (below_of_grown T2'.out hge hw).trans (B2.mono (by have := T2'.out.size; omega))⟩
  · obtain ⟨T1, T2⟩ := HT.out 3 24
    go_enter Tryd.func24, Tryd.ntmps24
    go_wp2
    generalize ((w.setCell ⟨g, 4, none⟩ (.int .i64 24)).setCell ⟨g, 3, none⟩ (.int .i64 3)) = w1 at T1 T2 ⊢
    have p1 : w1.cell? ⟨g, 1, none⟩ = some (.int .i64 S) := T1.blk_.cell 1
    have p2 : w1.cell? ⟨g, 2, none⟩ = some (.slice (some ⟨g2, 0, none⟩) (m + 1) c) := T1.blk_.cell 2
    have p3 : w1.cell? ⟨g2, 0, none⟩ = some (.slice A1 b.length c1) := by
      rw [← hw2]
      exact World.cell?_of_block (a := ⟨g2, 0, none⟩) (T2.block g2 hlt2 (by intro e; injection e with e; exact hgg e))
    have q1 : g < w1.heap.size := T1.blk_.lt
    have q2 : g2 < w1.heap.size := Nat.lt_of_lt_of_le hlt2 T2.size
    have hat1 : At w1 A1 (nats .u8 b) := HA.out.grown T2 (by cases e : blk A1 with
      | none => exact .inl rfl
      | some k => exact .inr (by intro e2; injection e2 with e2; exact (HK.out k e).2.2.1 e2))
    have KF := Lib.hid (fun (W : World) (hW : Below w1.heap.size w1 W) => (show W.cell? ⟨g, 1, none⟩ = some (.int .i64 S) ∧ W.cell? ⟨g, 2, none⟩ = some (.slice (some ⟨g2, 0, none⟩) (m + 1) c) ∧ W.cell? ⟨g2, 0, none⟩ = some (.slice A1 b.length c1) ∧ Below w1.heap.size w1 W from
      ⟨(hW.cell (p := ⟨g, 1, none⟩) q1).trans p1, (hW.cell (p := ⟨g, 2, none⟩) q1).trans p2, (hW.cell (p := ⟨g2, 0, none⟩) q2).trans p3, hW⟩))
    have T1' := Lib.hid T1
    have T2' := Lib.hid T2
    have hat1' := Lib.hid hat1
    clear T1 T2 hat1 hs1 hs2 hs3 hs4 hf3 hf4 hw2
    go_region_held3 (fun W => W.cell? ⟨g, 1, none⟩ = some (.int .i64 S) ∧ W.cell? ⟨g, 2, none⟩ = some (.slice (some ⟨g2, 0, none⟩) (m + 1) c) ∧ W.cell? ⟨g2, 0, none⟩ = some (.slice A1 b.length c1) ∧ Below w1.heap.size w1 W)
      (first | exact KF.out _ (Below.refl _ _).drew | exact KF.out _ ((Below.refl _ _).drew.trans hB2))
      (first | (go_at_call 40; refine (sclone_any A1 b.length c1 b _ rfl (by omega) (hat1'.out.later (Below.refl _ _).drew (Nat.le_refl _)) HN.out).mono ?_; rintro e w2 ⟨A2, c2, rfl, hat2, hn2, hk2, hB2⟩))
    go_wp2
    have B2 : Below w1.heap.size w1 w2 := (Below.refl w1.heap.size w1).drew.trans hB2
    exact bodyPost_ret (v := .tuple #[.int .i64 S, .slice A2 b.length c2, .bool true]) (by simp [results, Tryd.results24, go_sem]) rfl
      ⟨A2, c2, rfl, hat2, ⟨_, _, _, _, (T1'.out.below B2 (Nat.le_refl _)).clone (by omega) hat2 hn2 (fun k e => by have h1 := (hk2 k e).1; have h2 : w1.heap.size ≤ k := h1; have h3 := T2'.out.size; exact ⟨by omega, (hk2 k e).2, by omega, fun e2 => by simp [blk] at e2; omega⟩)⟩, (below_of_grown T2'.out hge hw).trans (B2.mono (by have := T2'.out.size; omega))⟩
end
end Go.Proofs.YtodimanghmepoaaDoor
namespace Go.Proofs.YtodimanghmepoaaDoor
open Go.RowKit
section
variable {g base : Nat} {xs : List (Value × List Nat)} {E S : Int} {A : Option Addr} {n c : Nat} {vs : List Value} {l : List (List Nat)} {st lf : Int}
set_option maxRecDepth 100000 in
theorem heard_no (w : World) (e s : Int) (h : Snd w g base xs E S A n c vs l st lf) (h0 : e ≠ E ∨ s ≠ S ∨ n = 0) :
    Calls Tryd.prog 27 #[.pointer (some ⟨g, 0, none⟩), .int .i64 e, .int .i64 s] w fun e w' => e = .returned (.bool false) ∧ w = w' := by
  have q0 : w.cell? ⟨g, 0, none⟩ = some (.int .i64 E) := h.blk_.cell 0
  have q1 : w.cell? ⟨g, 1, none⟩ = some (.int .i64 S) := h.blk_.cell 1
  have q2 : w.cell? ⟨g, 2, none⟩ = some (.slice A n c) := h.blk_.cell 2
  clear h
  by_cases he : e = E
  · subst he
    by_cases hs : s = S
    · subst hs
      obtain rfl : n = 0 := by rcases h0 with h | h | h <;> simp_all
      clear h0
      go_enter Tryd.func27, Tryd.ntmps27
      go_wp2
      go_ret
      exact ⟨rfl, rfl⟩
    · clear h0
      have hd : decide (s = S) = false := by simpa using hs
      go_enter Tryd.func27, Tryd.ntmps27
      go_wp2
      go_ret
      exact ⟨rfl, rfl⟩
  · clear h0
    have hd : decide (e = E) = false := by simpa using he
    go_enter Tryd.func27, Tryd.ntmps27
    go_wp2
    go_ret
    exact ⟨rfl, rfl⟩
/-- what Heard leaves where one more was heard -/
def Hear (w : World) (g base : Nat) (xs : List (Value × List Nat)) (E S : Int) (rest : List (List Nat)) (e : Ending) (w' : World) : Prop :=
  e = .returned (.bool true) ∧ IsSnd w' g base xs E (S + 1) rest 0 0 ∧ Below base w w'
set_option maxRecDepth 100000 in
set_option maxHeartbeats 1000000 in
theorem heard_yes (w : World) {b : List Nat} {rest : List (List Nat)} (h : Snd w g base xs E S A n c vs (b :: rest) st lf) (hS : 1 ≤ S ∧ S ≤ 1073741824) (hw : base ≤ w.heap.size) :
    Calls Tryd.prog 27 #[.pointer (some ⟨g, 0, none⟩), .int .i64 E, .int .i64 S] w (Hear w g base xs E S rest) := by
  have hlen := h.len
  obtain ⟨m, rfl⟩ : ∃ m, n = m + 1 := ⟨rest.length, by simp at hlen; omega⟩
  have hvl := h.vlen
  obtain ⟨v, vs', rfl⟩ : ∃ v vs', vs = v :: vs' := by
    cases vs with
    | nil => simp at hvl
    | cons v vs' => exact ⟨v, vs', rfl⟩
  rcases h.own.lies with ⟨_, h0, _⟩ | ⟨g2, rfl, hg2, hlt2⟩
  · omega
  have hgg : g2 ≠ g := fun e => h.far (by simp [blk, e])
  have hone : ∀ u ∈ vs', u.oneCell' = true := by
    intro u hu
    obtain ⟨i, hi, rfl⟩ := List.mem_iff_getElem.1 hu
    have hl : i < rest.length := by simp at hlen hvl; omega
    obtain ⟨A1, c1, e, _⟩ := h.bod (i + 1) (vs'[i]) (rest[i]) (by simp [List.getElem?_eq_getElem hi]) (by simp [List.getElem?_eq_getElem hl])
    rw [e]; rfl
  have hcap := h.own.cap.2
  unfold maxLen at hcap
  have q0 : w.cell? ⟨g, 0, none⟩ = some (.int .i64 E) := h.blk_.cell 0
  have q1 : w.cell? ⟨g, 1, none⟩ = some (.int .i64 S) := h.blk_.cell 1
  have q2 : w.cell? ⟨g, 2, none⟩ = some (.slice (some ⟨g2, 0, none⟩) (m + 1) c) := h.blk_.cell 2
  have hnz : decide ((m : Int) + 1 = 0) = false := by simp; omega
  have HS := Lib.hid h
  clear h
  go_enter Tryd.func27, Tryd.ntmps27
  go_wp2_with (go_at_call 51; refine (delete_any base g2 m c v vs' w HS.out.own hone (by omega)).mono ?_; rintro e w2 ⟨rfl, own2, gr⟩; have H2 := HS.out.blk_.grown gr (by intro e; injection e with e; exact hgg e); have r1 : w2.cell? ⟨g, 1, none⟩ = some (.int .i64 S) := H2.cell 1; have r2 : w2.cell? ⟨g, 2, none⟩ = some (.slice (some ⟨g2, 0, none⟩) (m + 1) c) := H2.cell 2; have r3 : w2.cell? ⟨g, 3, none⟩ = some (.int .i64 st) := H2.cell 3; have r4 : w2.cell? ⟨g, 4, none⟩ = some (.int .i64 lf) := H2.cell 4; have f1 := H2.frozen 1; have f2 := H2.frozen 2; have f3 := H2.frozen 3; have f4 := H2.frozen 4)
  go_ret
  have G : w2.grownBy ((((w2.setCell ⟨g, 2, none⟩ (.slice (some ⟨g2, 0, none⟩) m c)).setCell ⟨g, 1, none⟩ (.int .i64 (S + 1))).setCell ⟨g, 3, none⟩ (.int .i64 0)).setCell ⟨g, 4, none⟩ (.int .i64 0)) (some g) := grown_set (grown_set (grown_set (grown_set (grown_refl _ _) 2 _) 1 _) 3 _) 4 _
  refine ⟨rfl, ⟨some ⟨g2, 0, none⟩, m, c, vs', ?_, ?_, ?_, ?_, ?_, ?_, ?_⟩, ?_⟩
  · exact (((H2.set 2 _).set 1 _).set 3 _).set 4 _
  · exact own2.kept G (.inr (by intro e; simp [blk] at e; exact hgg e))
  · simpa using hlen
  · intro i u d h1 h2
    have hb := HS.out.bod (i + 1) u d (by simpa using h1) (by simpa using h2)
    exact (hb.grown (A' := some ⟨g2, 0, none⟩) gr (.inr rfl) (fun k e => .inl e)).grown G (.inl rfl) (fun k e => .inl e)
  · exact HS.out.far
  · exact HS.out.ge
  · exact fun p hp => ((HS.out.ext p hp).grown (A' := some ⟨g2, 0, none⟩) gr (.inr rfl) (fun k e => .inl e)).grown G (.inl rfl) (fun k e => .inl e)
  · exact (below_of_grown gr hg2 hw).trans (below_of_grown G HS.out.ge (Nat.le_trans hw gr.size))
end
end Go.Proofs.YtodimanghmepoaaDoor
namespace Go.Proofs.YtodimanghmepoaaDoor
open Go.RowKit
section
variable {g base : Nat} {xs : List (Value × List Nat)} {E S : Int} {A : Option Addr} {n c : Nat} {vs : List Value} {l : List (List Nat)} {st lf : Int}
/-- what Put leaves -/
def Puts (w : World) (g base : Nat) (xs : List (Value × List Nat)) (E S : Int) (l : List (List Nat)) (st lf : Int) (e : Ending) (w' : World) : Prop :=
  e = .returned .nilIface ∧ IsSnd w' g base xs E S l st lf ∧ Below base w w'
/-- one value more, appended -/
theorem Snd.more {w w2 w3 : World} (h : Snd w g base xs E S A n c vs l st lf) {A2 A3 : Option Addr} {c2 c3 : Nat} {b : List Nat} (hw : base ≤ w.heap.size) (hb : b.length ≤ 8192) (h2 : Below w.heap.size w w2) (hat : At w2 A2 (nats .u8 b)) (hz : A2 = none → b.length = 0) (hk : ∀ k, blk A2 = some k → w.heap.size ≤ k ∧ k < w2.heap.size)
    {w2' : World} (h2' : Below w2.heap.size w2 w2')
    (hown : Own w3 base 22 1 A3 (n + 1) c3 (vs ++ [.slice A2 b.length c2])) (hg : w2'.grownBy w3 (blk A)) (hA : blk A3 = blk A ∨ blk A3 = some w2'.heap.size) :
    Snd (w3.setCell ⟨g, 2, none⟩ (.slice A3 (n + 1) c3)) g base xs E S A3 (n + 1) c3 (vs ++ [.slice A2 b.length c2]) (l ++ [b]) st lf ∧ Below base w (w3.setCell ⟨g, 2, none⟩ (.slice A3 (n + 1) c3)) := by
  have hg' : w3.grownBy (w3.setCell ⟨g, 2, none⟩ (.slice A3 (n + 1) c3)) (some g) := grown_set (grown_refl _ _) 2 _
  have s2 := (h.below h2 (Nat.le_refl _)).below h2' (Nat.le_refl _)
  have hz2 := h2.size
  have hz3 := h2'.size
  have hlt := h.blk_.lt
  have far3 : blk A3 ≠ some g := by
    rcases hA with e | e
    · rw [e]; exact h.far
    · rw [e]; intro e2; injection e2 with e2; omega
  have hA' : ∀ k, blk A3 = some k → blk A = some k ∨ w2'.heap.size ≤ k := by
    intro k e
    rcases hA with e2 | e2
    · exact .inl (e2 ▸ e)
    · rw [e2] at e; injection e with e; exact .inr (Nat.le_of_eq e)
  have hvl := h.vlen
  have hlen := h.len
  have bA : ∀ k, blk A = some k → base ≤ k ∧ k < w.heap.size := h.own.lt
  refine ⟨⟨?_, ?_, ?_, ?_, far3, h.ge, fun p hp => Bod.grown (A := A3) ((s2.ext p hp).grown hg (.inr rfl) hA') hg' (.inl rfl) (fun k e => .inl e)⟩, ?_⟩
  · exact ((s2.blk_.grown hg (h.far)).set 2 _)
  · exact hown.kept hg' (by cases e : blk A3 with
      | none => exact .inl rfl
      | some k => exact .inr (by intro e2; exact far3 (e.trans e2)))
  · simp [hlen]
  · intro i v d h1 h3
    refine Bod.grown (A := A3) ?_ hg' (.inl rfl) (fun k e => .inl e)
    by_cases hi : i < n
    · rw [List.getElem?_append_left (by omega)] at h1 h3
      exact (s2.bod i v d h1 h3).grown hg (.inr rfl) hA'
    · have hi2 : i = n := by
        rcases Nat.lt_or_ge i (n + 1) with h | h
        · omega
        · rw [List.getElem?_eq_none (by simp; omega)] at h3; cases h3
      subst hi2
      rw [List.getElem?_append_right (by omega)] at h1 h3
      rw [hvl, Nat.sub_self] at h1
      rw [hlen, Nat.sub_self] at h3
      simp at h1 h3
      subst h1; subst h3
      have hat3 : At w2' A2 (nats .u8 b) := hat.later h2' (Nat.le_refl _)
      refine ⟨A2, c2, rfl, hb, hat3.grown hg ?_, hz, fun k e => ?_⟩
      · cases e : blk A2 with
        | none => exact .inl rfl
        | some k => exact .inr (by intro e2; have := (hk k e).1; have := (bA k e2.symm).2; omega)
      · have := hk k e
        have hs := hg.size
        refine ⟨by omega, by omega, by omega, fun e2 => ?_⟩
        rcases hA' k e2 with e3 | e3
        · have := (bA k e3).2; omega
        · omega
  · have b1 : Below base w w2 := h2.mono hw
    have b2 : Below base w2 w2' := h2'.mono (by omega)
    have b3 : Below base w2' w3 := ⟨hg.os, hg.tape, hg.output, hg.size, fun k hk => hg.block k (by omega) (fun e => by have := (bA k e.symm).1; omega)⟩
    exact ((b1.trans b2).trans b3).trans (below_of_grown hg' h.ge (by have := hg.size; omega))
set_option maxRecDepth 100000 in
set_option maxHeartbeats 1000000 in
theorem put_any (w : World) (h : Snd w g base xs E S A n c vs l st lf) (hn : n < 64) (hS : 1 ≤ S ∧ S + n ≤ 1073741824) (hw : base ≤ w.heap.size)
    (A1 : Option Addr) (c1 : Nat) (b : List Nat) (hb : b.length ≤ 8192) (hat : At w A1 (nats .u8 b)) (hz : A1 = none → b.length = 0) :
    Calls Tryd.prog 22 #[.pointer (some ⟨g, 0, none⟩), .slice A1 b.length c1] w (Puts w g base xs E S (l ++ [b]) st lf) := by
  have p1 : w.cell? ⟨g, 1, none⟩ = some (.int .i64 S) := h.blk_.cell 1
  have p2 : w.cell? ⟨g, 2, none⟩ = some (.slice A n c) := h.blk_.cell 2
  have d1 : decide (8192 < (b.length : Int)) = false := by simp; omega
  have d2 : decide (64 ≤ (n : Int)) = false := by simp; omega
  have d3 : decide (1073741824 < S + (n : Int)) = false := by simp; omega
  have hge := h.ge
  have HS := Lib.hid h
  have HA := Lib.hid hat
  have HZ := Lib.hid hz
  clear h hat hz
  go_enter Tryd.func22, Tryd.ntmps22
  go_wp2
  go_quiet (fail)
  go_wp2
  have S1 := HS.out.of_drewN (k := nq)
  have B1 : Below w.heap.size w (w.drewN nq) := ⟨rfl, rfl, rfl, Nat.le_refl _, fun _ _ => rfl⟩
  have A1' : At (w.drewN nq) A1 (nats .u8 b) := HA.out
  have hsz : w.heap.size = (w.drewN nq).heap.size := rfl
  clear p1 p2 HS HA
  generalize w.drewN nq = w1 at S1 B1 A1' hsz ⊢
  have p2 : w1.cell? ⟨g, 2, none⟩ = some (.slice A n c) := S1.blk_.cell 2
  have ltg : g < w1.heap.size := S1.blk_.lt
  have hw1 : base ≤ w1.heap.size := by omega
  have HS1 := Lib.hid S1
  have HA1 := Lib.hid A1'
  have HB1 := Lib.hid B1
  clear S1 A1' B1
  go_region_law (first
    | ((refine step_app rfl elt_sl base (.tmp 39) (.tmp 42) rfl vs rfl ((HS1.out.own.below ((Below.refl _ _).drew.trans hB2) (Nat.le_refl _)).alloc _) [.slice A2 b.length c2] rfl (At.lit _ _ _ _ _ rfl) rfl (by intro u hu; simp at hu; subst hu; rfl) (by unfold maxLen; omega) (by omega) (by simp; omega) ?_); intro A3 c3 w3 own3 g3 hA3; have H3 := ((HS1.out.blk_.later ((Below.refl _ _).drew.trans hB2) (Nat.le_refl _)).alloc _).grown g3 HS1.out.far; have z1 : w3.cell? ⟨g, 2, none⟩ = some (.slice A n c) := H3.cell 2; have z2 := H3.frozen 2; clear H3)
    | (go_simp; go_at_call 40; refine (sclone_any A1 b.length c1 b _ rfl (by omega) (HA1.out.later (Below.refl _ _).drew (Nat.le_refl _)) HZ.out).mono ?_; rintro e w2 ⟨A2, c2, rfl, hat2, hz2, hk2, hB2⟩; have p2' := (hB2.cell (p := ⟨g, 2, none⟩) ltg).trans p2; have hs2 : w1.heap.size ≤ w2.heap.size := hB2.size; have ltg2 : g < w2.heap.size := Nat.lt_of_lt_of_le ltg hs2; have hc2 := Lib.hid hk2; have hd2 := Lib.hid hat2; clear hk2 hat2))
  all_goals
    have B2 : Below w1.heap.size w1 w2 := (Below.refl w1.heap.size w1).drew.trans hB2
    obtain ⟨R1, R2⟩ := HS1.out.more (w2 := w2) hw1 hb B2 hd2.out hz2 hc2.out ((Below.refl _ _).alloc (Nat.le_refl _) _) own3 g3 hA3
    have R1' := Lib.hid R1
    have R2' := Lib.hid R2
    clear R1 R2
    go_wp2
    go_ret
    exact ⟨rfl, ⟨_, _, _, _, R1'.out⟩, (HB1.out.mono hw).trans R2'.out⟩
end
end Go.Proofs.YtodimanghmepoaaDoor
