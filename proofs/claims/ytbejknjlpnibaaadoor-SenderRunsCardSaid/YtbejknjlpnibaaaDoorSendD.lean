/- Layer 17: Out, Reset. -/
import Derived.Test.YtbejknjlpnibaaaDoorSendC
import Derived.Deep.RegionHeld3
namespace Go.Proofs.YtbejknjlpnibaaaDoor
open Go.RowKit
section
variable {g base : Nat} {xs : List (Value × List Nat)} {E S : Int} {A : Option Addr} {n c : Nat} {vs : List Value} {l : List (List Nat)} {st lf : Int}
set_option maxRecDepth 100000 in
theorem out_none (w : World) (h : Snd w g base xs E S A n c vs l st lf) (h0 : n = 0 ∨ 0 < lf) :
    Calls Tryd.prog 5 #[.pointer (some ⟨g, 0, none⟩)] w fun e w' => e = .returned (.tuple #[.int .i64 0, .slice none 0 0, .bool false]) ∧ w = w' := by
  have hc : w.cell? ⟨g, 2, none⟩ = some (.slice A n c) := h.blk_.cell 2
  have hc4 : w.cell? ⟨g, 4, none⟩ = some (.int .i64 lf) := h.blk_.cell 4
  clear h
  by_cases hn : n = 0
  · subst hn
    go_enter Tryd.func5, Tryd.ntmps5
    go_wp2
    exact bodyPost_ret (v := .tuple #[.int .i64 0, .slice none 0 0, .bool false]) (by simp [results, Tryd.results5, go_sem]) rfl ⟨rfl, rfl⟩
  · have hp : 0 < lf := by omega
    have hn' : decide ((n : Int) = 0) = false := by simp; omega
    clear h0
    go_enter Tryd.func5, Tryd.ntmps5
    go_wp2
    exact bodyPost_ret (v := .tuple #[.int .i64 0, .slice none 0 0, .bool false]) (by simp [results, Tryd.results5, go_sem]) rfl ⟨rfl, rfl⟩
/-- what Out hands back where something is to be sent -/
def Outs (w : World) (g base : Nat) (xs : List (Value × List Nat)) (E S : Int) (b : List Nat) (rest : List (List Nat)) (st' lf' : Int) (e : Ending) (w' : World) : Prop :=
  ∃ A1 c1, e = .returned (.tuple #[.int .i64 S, .slice A1 b.length c1, .bool true]) ∧ At w' A1 (nats .u8 b) ∧ IsSnd w' g base ((.slice A1 b.length c1, b) :: xs) E S (b :: rest) st' lf' ∧ Below base w w'
set_option maxRecDepth 100000 in
set_option maxHeartbeats 1000000 in
theorem out_some (w : World) {b : List Nat} {rest : List (List Nat)} (k : Nat) (hk : k ≤ 3) (h : Snd w g base xs E S A n c vs (b :: rest) k 0) (hw : base ≤ w.heap.size) :
    Calls Tryd.prog 5 #[.pointer (some ⟨g, 0, none⟩)] w (Outs w g base xs E S b rest (min (k + 1) 3 : Nat) (3 * 2 ^ k : Nat)) := by
  have hlen := h.len
  obtain ⟨m, rfl⟩ : ∃ m, n = m + 1 := ⟨rest.length, by simp at hlen; omega⟩
  have hvl := h.vlen
  obtain ⟨v, vs', rfl⟩ : ∃ v vs', vs = v :: vs' := by
    cases vs with
    | nil => simp at hvl
    | cons v vs' => exact ⟨v, vs', rfl⟩
  obtain ⟨A1, c1, rfl, hb1, hat, hnn, hkk⟩ := h.bod 0 v b rfl rfl
  rcases h.own.lies with ⟨_, h0, _⟩ | ⟨g2, rfl, hg2, hlt2⟩
  · omega
  have hw2 : w.cell? ⟨g2, 0, none⟩ = some (.slice A1 b.length c1) := by
    obtain ⟨b', o', e', hc'⟩ := h.own.at_ 0 _ rfl
    injection e' with e'; injection e' with a1 a2; subst a1; subst a2
    exact hc'
  have hgg : g2 ≠ g := fun e => h.far (by simp [blk, e])
  have hs1 : w.cell? ⟨g, 1, none⟩ = some (.int .i64 S) := h.blk_.cell 1
  have hs2 : w.cell? ⟨g, 2, none⟩ = some (.slice (some ⟨g2, 0, none⟩) (m + 1) c) := h.blk_.cell 2
  have hs3 : w.cell? ⟨g, 3, none⟩ = some (.int .i64 k) := h.blk_.cell 3
  have hs4 : w.cell? ⟨g, 4, none⟩ = some (.int .i64 0) := h.blk_.cell 4
  have hf3 : w.frozen? ⟨g, 3, none⟩ = false := h.blk_.frozen 3
  have hf4 : w.frozen? ⟨g, 4, none⟩ = false := h.blk_.frozen 4
  have hnz : decide ((m : Int) + 1 = 0) = false := by simp; omega
  have HA := Lib.hid hat
  have HK := Lib.hid hkk
  have HN := Lib.hid hnn
  have T : ∀ (st' lf' : Int), Snd ((w.setCell ⟨g, 4, none⟩ (.int .i64 lf')).setCell ⟨g, 3, none⟩ (.int .i64 st')) g base xs E S (some ⟨g2, 0, none⟩) (m + 1) c (.slice A1 b.length c1 :: vs') (b :: rest) st' lf' ∧ w.grownBy ((w.setCell ⟨g, 4, none⟩ (.int .i64 lf')).setCell ⟨g, 3, none⟩ (.int .i64 st')) (some g) := fun st' lf' =>
    ⟨h.turn (grown_set (grown_set (grown_refl _ _) 4 _) 3 _) ((h.blk_.set 4 _).set 3 _), grown_set (grown_set (grown_refl _ _) 4 _) 3 _⟩
  have hge := h.ge
  have HT := Lib.hid T
  clear T hat hkk hnn h
  have main : ∀ (k' : Int) (st' lf' : Int), k' = k → (k' = 0 ∨ k' = 1 ∨ k' = 2 ∨ k' = 3) → True := fun _ _ _ _ _ => trivial
  clear main
  have hk4 : k = 0 ∨ k = 1 ∨ k = 2 ∨ k = 3 := by omega
  rcases hk4 with rfl | rfl | rfl | rfl
  · obtain ⟨T1, T2⟩ := HT.out 1 3
    go_enter Tryd.func5, Tryd.ntmps5
    go_wp2
    generalize ((w.setCell ⟨g, 4, none⟩ (.int .i64 3)).setCell ⟨g, 3, none⟩ (.int .i64 1)) = w1 at T1 T2 ⊢
    have p1 : w1.cell? ⟨g, 1, none⟩ = some (.int .i64 S) := T1.blk_.cell 1
    have p2 : w1.cell? ⟨g, 2, none⟩ = some (.slice (some ⟨g2, 0, none⟩) (m + 1) c) := T1.blk_.cell 2
    have p3 : w1.cell? ⟨g2, 0, none⟩ = some (.slice A1 b.length c1) := by
      rw [← hw2]
      exact World.cell?_of_block (a := ⟨g2, 0, none⟩) (T2.block g2 hlt2 (by intro e; injection e with e; exact hgg e))
    have q1 : g < w1.heap.size := T1.blk_.lt
    have q2 : g2 < w1.heap.size := Nat.lt_of_lt_of_le hlt2 T2.size
    have hat1 : At w1 A1 (nats .u8 b) := HA.out.grown T2 (by cases e : blk A1 with
      | none => exact .inl rfl
      | some k => exact .inr (by intro e2; injection e2 with e2; exact (HK.out k e).2.2.1 e2))
    have KF := Lib.hid (fun (W : World) (hW : Below w1.heap.size w1 W) => (show W.cell? ⟨g, 1, none⟩ = some (.int .i64 S) ∧ W.cell? ⟨g, 2, none⟩ = some (.slice (some ⟨g2, 0, none⟩) (m + 1) c) ∧ W.cell? ⟨g2, 0, none⟩ = some (.slice A1 b.length c1) ∧ Below w1.heap.size w1 W from
      ⟨(hW.cell (p := ⟨g, 1, none⟩) q1).trans p1, (hW.cell (p := ⟨g, 2, none⟩) q1).trans p2, (hW.cell (p := ⟨g2, 0, none⟩) q2).trans p3, hW⟩))
    have T1' := Lib.hid T1
    have T2' := Lib.hid T2
    have hat1' := Lib.hid hat1
    clear T1 T2 hat1 hs1 hs2 hs3 hs4 hf3 hf4 hw2
    go_region_held3 (fun W => W.cell? ⟨g, 1, none⟩ = some (.int .i64 S) ∧ W.cell? ⟨g, 2, none⟩ = some (.slice (some ⟨g2, 0, none⟩) (m + 1) c) ∧ W.cell? ⟨g2, 0, none⟩ = some (.slice A1 b.length c1) ∧ Below w1.heap.size w1 W)
      (first | exact KF.out _ (Below.refl _ _).drew | exact KF.out _ ((Below.refl _ _).drew.trans hB2))
      (first | (go_at_call 20; refine (clone_any A1 b.length c1 b _ rfl (by omega) (hat1'.out.later (Below.refl _ _).drew (Nat.le_refl _)) HN.out).mono ?_; rintro e w2 ⟨A2, c2, rfl, hat2, hn2, hk2, hB2⟩))
    go_wp2
    have B2 : Below w1.heap.size w1 w2 := (Below.refl w1.heap.size w1).drew.trans hB2
    exact bodyPost_ret (v := .tuple #[.int .i64 S, .slice A2 b.length c2, .bool true]) (by simp [results, Tryd.results5, go_sem]) rfl
      ⟨A2, c2, rfl, hat2, ⟨_, _, _, _, (T1'.out.below B2 (Nat.le_refl _)).clone (by omega) hat2 hn2 (fun k e => by have h1 := (hk2 k e).1; have h2 : w1.heap.size ≤ k := h1; have h3 := T2'.out.size; exact ⟨by omega, (hk2 k e).2, by omega, fun e2 => by simp [blk] at e2; omega⟩)⟩, (below_of_grown T2'.out hge hw).trans (B2.mono (by have := T2'.out.size; omega))⟩
  · obtain ⟨T1, T2⟩ := HT.out 2 6
    go_enter Tryd.func5, Tryd.ntmps5
    go_wp2
    generalize ((w.setCell ⟨g, 4, none⟩ (.int .i64 6)).setCell ⟨g, 3, none⟩ (.int .i64 2)) = w1 at T1 T2 ⊢
    have p1 : w1.cell? ⟨g, 1, none⟩ = some (.int .i64 S) := T1.blk_.cell 1
    have p2 : w1.cell? ⟨g, 2, none⟩ = some (.slice (some ⟨g2, 0, none⟩) (m + 1) c) := T1.blk_.cell 2
    have p3 : w1.cell? ⟨g2, 0, none⟩ = some (.slice A1 b.length c1) := by
      rw [← hw2]
      exact World.cell?_of_block (a := ⟨g2, 0, none⟩) (T2.block g2 hlt2 (by intro e; injection e with e; exact hgg e))
    have q1 : g < w1.heap.size := T1.blk_.lt
    have q2 : g2 < w1.heap.size := Nat.lt_of_lt_of_le hlt2 T2.size
    have hat1 : At w1 A1 (nats .u8 b) := HA.out.grown T2 (by cases e : blk A1 with
      | none => exact .inl rfl
      | some k => exact .inr (by intro e2; injection e2 with e2; exact (HK.out k e).2.2.1 e2))
    have KF := Lib.hid (fun (W : World) (hW : Below w1.heap.size w1 W) => (show W.cell? ⟨g, 1, none⟩ = some (.int .i64 S) ∧ W.cell? ⟨g, 2, none⟩ = some (.slice (some ⟨g2, 0, none⟩) (m + 1) c) ∧ W.cell? ⟨g2, 0, none⟩ = some (.slice A1 b.length c1) ∧ Below w1.heap.size w1 W from
      ⟨(hW.cell (p := ⟨g, 1, none⟩) q1).trans p1, (hW.cell (p := ⟨g, 2, none⟩) q1).trans p2, (hW.cell (p := ⟨g2, 0, none⟩) q2).trans p3, hW⟩))
    have T1' := Lib.hid T1
    have T2' := Lib.hid T2
    have hat1' := Lib.hid hat1
    clear T1 T2 hat1 hs1 hs2 hs3 hs4 hf3 hf4 hw2
    go_region_held3 (fun W => W.cell? ⟨g, 1, none⟩ = some (.int .i64 S) ∧ W.cell? ⟨g, 2, none⟩ = some (.slice (some ⟨g2, 0, none⟩) (m + 1) c) ∧ W.cell? ⟨g2, 0, none⟩ = some (.slice A1 b.length c1) ∧ Below w1.heap.size w1 W)
      (first | exact KF.out _ (Below.refl _ _).drew | exact KF.out _ ((Below.refl _ _).drew.trans hB2))
      (first | (go_at_call 20; refine (clone_any A1 b.length c1 b _ rfl (by omega) (hat1'.out.later (Below.refl _ _).drew (Nat.le_refl _)) HN.out).mono ?_; rintro e w2 ⟨A2, c2, rfl, hat2, hn2, hk2, hB2⟩))
    go_wp2
    have B2 : Below w1.heap.size w1 w2 := (Below.refl w1.heap.size w1).drew.trans hB2
    exact bodyPost_ret (v := .tuple #[.int .i64 S, .slice A2 b.length c2, .bool true]) (by simp [results, Tryd.results5, go_sem]) rfl
      ⟨A2, c2, rfl, hat2, ⟨_, _, _, _, (T1'.out.below B2 (Nat.le_refl _)).clone (by omega) hat2 hn2 (fun k e => by have h1 := (hk2 k e).1; have h2 : w1.heap.size ≤ k := h1; have h3 := T2'.out.size; exact ⟨by omega, (hk2 k e).2, by omega, fun e2 => by simp [blk] at e2; omega⟩)⟩, (below_of_grown T2'.out hge hw).trans (B2.mono (by have := T2'.out.size; omega))⟩
  · obtain ⟨T1, T2⟩ := HT.out 3 12
    go_enter Tryd.func5, Tryd.ntmps5
    go_wp2
    generalize ((w.setCell ⟨g, 4, none⟩ (.int .i64 12)).setCell ⟨g, 3, none⟩ (.int .i64 3)) = w1 at T1 T2 ⊢
    have p1 : w1.cell? ⟨g, 1, none⟩ = some (.int .i64 S) := T1.blk_.cell 1
    have p2 : w1.cell? ⟨g, 2, none⟩ = some (.slice (some ⟨g2, 0, none⟩) (m + 1) c) := T1.blk_.cell 2
    have p3 : w1.cell? ⟨g2, 0, none⟩ = some (.slice A1 b.length c1) := by
      rw [← hw2]
      exact World.cell?_of_block (a := ⟨g2, 0, none⟩) (T2.block g2 hlt2 (by intro e; injection e with e; exact hgg e))
    have q1 : g < w1.heap.size := T1.blk_.lt
    have q2 : g2 < w1.heap.size := Nat.lt_of_lt_of_le hlt2 T2.size
    have hat1 : At w1 A1 (nats .u8 b) := HA.out.grown T2 (by cases e : blk A1 with
      | none => exact .inl rfl
      | some k => exact .inr (by intro e2; injection e2 with e2; exact (HK.out k e).2.2.1 e2))
    have KF := Lib.hid (fun (W : World) (hW : Below w1.heap.size w1 W) => (show W.cell? ⟨g, 1, none⟩ = some (.int .i64 S) ∧ W.cell? ⟨g, 2, none⟩ = some (.slice (some ⟨g2, 0, none⟩) (m + 1) c) ∧ W.cell? ⟨g2, 0, none⟩ = some (.slice A1 b.length c1) ∧ Below w1.heap.size w1 W from
      ⟨(hW.cell (p := ⟨g, 1, none⟩) q1).trans p1, (hW.cell (p := ⟨g, 2, none⟩) q1).trans p2, (hW.cell (p := ⟨g2, 0, none⟩) q2).trans p3, hW⟩))
    have T1' := Lib.hid T1
    have T2' := Lib.hid T2
    have hat1' := Lib.hid hat1
    clear T1 T2 hat1 hs1 hs2 hs3 hs4 hf3 hf4 hw2
    go_region_held3 (fun W => W.cell? ⟨g, 1, none⟩ = some (.int .i64 S) ∧ W.cell? ⟨g, 2, none⟩ = some (.slice (some ⟨g2, 0, none⟩) (m + 1) c) ∧ W.cell? ⟨g2, 0, none⟩ = some (.slice A1 b.length c1) ∧ Below w1.heap.size w1 W)
      (first | exact KF.out _ (Below.refl _ _).drew | exact KF.out _ ((Below.refl _ _).drew.trans hB2))
      (first | (go_at_call 20; refine (clone_any A1 b.length c1 b _ rfl (by omega) (hat1'.out.later (Below.refl _ _).drew (Nat.le_refl _)) HN.out).mono ?_; rintro e w2 ⟨A2, c2, rfl, hat2, hn2, hk2, hB2⟩))
    go_wp2
    have B2 : Below w1.heap.size w1 w2 := (Below.refl w1.heap.size w1).drew.trans hB2
    exact bodyPost_ret (v := .tuple #[.int .i64 S, .slice A2 b.length c2, .bool true]) (by simp [results, Tryd.results5, go_sem]) rfl
      ⟨A2, c2, rfl, hat2, ⟨_, _, _, _, (T1'.out.below B2 (Nat.le_refl _)).clone (by omega) hat2 hn2 (fun k e => by have h1 := (hk2 k e).1; have h2 : w1.heap.size ≤ k := h1; have h3 := T2'.out.size; exact ⟨by omega, (hk2 k e).2, by omega, fun e2 => by simp [blk] at e2; omega⟩)⟩, (below_of_grown T2'.out hge hw).trans (B2.mono (by have := T2'.out.size; omega))⟩
  · obtain ⟨T1, T2⟩ := HT.out 3 24
    go_enter Tryd.func5, Tryd.ntmps5
    go_wp2
    generalize ((w.setCell ⟨g, 4, none⟩ (.int .i64 24)).setCell ⟨g, 3, none⟩ (.int .i64 3)) = w1 at T1 T2 ⊢
    have p1 : w1.cell? ⟨g, 1, none⟩ = some (.int .i64 S) := T1.blk_.cell 1
    have p2 : w1.cell? ⟨g, 2, none⟩ = some (.slice (some ⟨g2, 0, none⟩) (m + 1) c) := T1.blk_.cell 2
    have p3 : w1.cell? ⟨g2, 0, none⟩ = some (.slice A1 b.length c1) := by
      rw [← hw2]
      exact World.cell?_of_block (a := ⟨g2, 0, none⟩) (T2.block g2 hlt2 (by intro e; injection e with e; exact hgg e))
    have q1 : g < w1.heap.size := T1.blk_.lt
    have q2 : g2 < w1.heap.size := Nat.lt_of_lt_of_le hlt2 T2.size
    have hat1 : At w1 A1 (nats .u8 b) := HA.out.grown T2 (by cases e : blk A1 with
      | none => exact .inl rfl
      | some k => exact .inr (by intro e2; injection e2 with e2; exact (HK.out k e).2.2.1 e2))
    have KF := Lib.hid (fun (W : World) (hW : Below w1.heap.size w1 W) => (show W.cell? ⟨g, 1, none⟩ = some (.int .i64 S) ∧ W.cell? ⟨g, 2, none⟩ = some (.slice (some ⟨g2, 0, none⟩) (m + 1) c) ∧ W.cell? ⟨g2, 0, none⟩ = some (.slice A1 b.length c1) ∧ Below w1.heap.size w1 W from
      ⟨(hW.cell (p := ⟨g, 1, none⟩) q1).trans p1, (hW.cell (p := ⟨g, 2, none⟩) q1).trans p2, (hW.cell (p := ⟨g2, 0, none⟩) q2).trans p3, hW⟩))
    have T1' := Lib.hid T1
    have T2' := Lib.hid T2
    have hat1' := Lib.hid hat1
    clear T1 T2 hat1 hs1 hs2 hs3 hs4 hf3 hf4 hw2
    go_region_held3 (fun W => W.cell? ⟨g, 1, none⟩ = some (.int .i64 S) ∧ W.cell? ⟨g, 2, none⟩ = some (.slice (some ⟨g2, 0, none⟩) (m + 1) c) ∧ W.cell? ⟨g2, 0, none⟩ = some (.slice A1 b.length c1) ∧ Below w1.heap.size w1 W)
      (first | exact KF.out _ (Below.refl _ _).drew | exact KF.out _ ((Below.refl _ _).drew.trans hB2))
      (first | (go_at_call 20; refine (clone_any A1 b.length c1 b _ rfl (by omega) (hat1'.out.later (Below.refl _ _).drew (Nat.le_refl _)) HN.out).mono ?_; rintro e w2 ⟨A2, c2, rfl, hat2, hn2, hk2, hB2⟩))
    go_wp2
    have B2 : Below w1.heap.size w1 w2 := (Below.refl w1.heap.size w1).drew.trans hB2
    exact bodyPost_ret (v := .tuple #[.int .i64 S, .slice A2 b.length c2, .bool true]) (by simp [results, Tryd.results5, go_sem]) rfl
      ⟨A2, c2, rfl, hat2, ⟨_, _, _, _, (T1'.out.below B2 (Nat.le_refl _)).clone (by omega) hat2 hn2 (fun k e => by have h1 := (hk2 k e).1; have h2 : w1.heap.size ≤ k := h1; have h3 := T2'.out.size; exact ⟨by omega, (hk2 k e).2, by omega, fun e2 => by simp [blk] at e2; omega⟩)⟩, (below_of_grown T2'.out hge hw).trans (B2.mono (by have := T2'.out.size; omega))⟩
end
end Go.Proofs.YtbejknjlpnibaaaDoor
