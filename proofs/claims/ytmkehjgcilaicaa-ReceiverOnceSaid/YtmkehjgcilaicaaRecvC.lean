/- Layer 18: the statements' own walks. -/
import Derived.Test.YtmkehjgcilaicaaRecvB
import Derived.Deep.RegionHeld3
namespace Go.Proofs.Ytmkehjgcilaicaa
open Go.RowKit

theorem below_grown' {a w w' : World} {B g : Nat} (h : Below B a w) (hg : w.grownBy w' (some g)) (hB : B ≤ w.heap.size) (hgB : B ≤ g) : Below B a w' :=
  h.trans (below_of_grown hg hgB hB)
set_option maxRecDepth 100000 in
set_option maxHeartbeats 1000000 in
theorem sure18 (w : World) : Calls Try.prog 19 #[] w fun e w' => e = .returned (.bool true) ∧ Below w.heap.size w w' := by
  have H0 := Holds.new w 49 (recvOf 0 0) _ rfl
  have B0 : Below w.heap.size w (w.alloc (.cells (recvOf 0 0) 49)) := (Below.refl _ _).alloc (Nat.le_refl _) _
  have S0 := Lib.hid (show w.heap.size < (w.alloc (.cells (recvOf 0 0) 49)).heap.size by simp)
  go_enter Try.func19, Try.ntmps19
  go_wp2_with (go_at_call 17; refine (new_any _).mono ?_; rintro e w' ⟨rfl, rfl⟩)
  generalize (w.alloc (.cells (recvOf 0 0) 49)) = w0 at *
  generalize hg : w.heap.size = g at *
  have HG := Lib.hid hg; clear hg
  refine (take_any g 0 0 1 1 w0 (by decide) (by decide) H0).mono ?_
  rw [show rc 0 0 1 1 = ((1, 1), true, 1) from by decide]
  rintro e w1 ⟨rfl, H1, G1⟩
  have B1 := below_grown' B0 G1 (by have := B0.size; have := HG.out; omega) (Nat.le_refl _)
  clear H0 B0 G1
  go_wp2_with fail
  refine (take_any g 1 1 1 1 w1 (by decide) (by decide) H1).mono ?_
  rw [show rc 1 1 1 1 = ((1, 1), false, 1) from by decide]
  rintro e w2 ⟨rfl, H2, G2⟩
  have B2 := below_grown' B1 G2 (by have := B1.size; have := HG.out; omega) (Nat.le_refl _)
  clear H1 B1 G2
  go_wp2_with fail
  refine (take_any g 1 1 1 2 w2 (by decide) (by decide) H2).mono ?_
  rw [show rc 1 1 1 2 = ((1, 2), true, 2) from by decide]
  rintro e w3 ⟨rfl, H3, G3⟩
  have B3 := below_grown' B2 G3 (by have := B2.size; have := HG.out; omega) (Nat.le_refl _)
  clear H2 B2 G3
  go_wp2_with fail
  refine (take_any g 1 2 2 1 w3 (by decide) (by decide) H3).mono ?_
  rw [show rc 1 2 2 1 = ((2, 1), true, 1) from by decide]
  rintro e w4 ⟨rfl, H4, G4⟩
  have B4 := below_grown' B3 G4 (by have := B3.size; have := HG.out; omega) (Nat.le_refl _)
  clear H3 B3 G4
  go_wp2_with fail
  refine (take_any g 2 1 1 3 w4 (by decide) (by decide) H4).mono ?_
  rw [show rc 2 1 1 3 = ((2, 1), false, -1) from by decide]
  rintro e w5 ⟨rfl, H5, G5⟩
  have B5 := below_grown' B4 G5 (by have := B4.size; have := HG.out; omega) (Nat.le_refl _)
  clear H4 B4 G5
  go_wp2_with fail
  refine (epoch_any g 2 1 _ H5).mono ?_
  rintro e w' ⟨rfl, rfl⟩
  go_wp2_with fail
  refine (last_any g 2 1 _ H5).mono ?_
  rintro e w' ⟨rfl, rfl⟩
  go_wp2
  go_ret
  exact ⟨rfl, by rw [HG.out]; exact B5⟩

def prs (t : IntKind) (l : List (Int × Int)) : List Value := l.flatMap fun p => [.int t p.1, .int t p.2]
theorem prs_at {t : IntKind} : ∀ (l : List (Int × Int)) (i : Nat) (h : i < l.length), (prs t l)[i * 2]? = some (.int t l[i].1) ∧ (prs t l)[i * 2 + 1]? = some (.int t l[i].2)
  | [], i, h => by simp at h
  | p :: l, 0, _ => by simp [prs]
  | p :: l, i + 1, h => by
    have := prs_at (t := t) l i (by simpa using h)
    have e1 : (i + 1) * 2 = i * 2 + 1 + 1 := by omega
    have e2 : (i + 1) * 2 + 1 = i * 2 + 1 + 1 + 1 := by omega
    rw [e1]
    simpa [prs] using this
theorem At.pair {t : IntKind} {w : World} {A : Option Addr} {l : List (Int × Int)} (h : At w A (prs t l)) (i : Nat) (hi : i < l.length) :
    ∃ b o, A = some ⟨b, o, none⟩ ∧ w.cell? ⟨b, o + i * 2, none⟩ = some (.int t l[i].1) ∧ w.cell? ⟨b, o + i * 2 + 1, none⟩ = some (.int t l[i].2) := by
  obtain ⟨h1, h2⟩ := prs_at l i hi
  obtain ⟨b, o, e, hc⟩ := h _ _ h1
  obtain ⟨b', o', e', hc'⟩ := h _ _ h2
  subst e; injection e' with e'; injection e' with a1 a2; subst a1; subst a2
  exact ⟨b, o, rfl, hc, hc'⟩
theorem rc_bounds (E L e s : Int) (hE : 0 ≤ E ∧ E ≤ 1073741824) (hL : 0 ≤ L ∧ L ≤ 1073741824) : (0 ≤ (rc E L e s).1.1 ∧ (rc E L e s).1.1 ≤ 1073741824) ∧ (0 ≤ (rc E L e s).1.2 ∧ (rc E L e s).1.2 ≤ 1073741824) := by
  by_cases bad : e < E ∨ e < 1 ∨ 1073741824 < e ∨ s < 1 ∨ 1073741824 < s
  · rw [rc, if_pos bad]; exact ⟨hE, hL⟩
  · by_cases h : s = (if E < e then 0 else L) + 1
    · rw [rc, if_neg bad, if_pos h]
      show (0 ≤ e ∧ e ≤ 1073741824) ∧ (0 ≤ s ∧ s ≤ 1073741824)
      omega
    · rw [rc, if_neg bad, if_neg h]
      show (0 ≤ e ∧ e ≤ 1073741824) ∧ (0 ≤ (if E < e then 0 else L) ∧ (if E < e then 0 else L) ≤ 1073741824)
      split <;> omega
theorem two_new {w1 w2 : World} {T} (hB2 : Below (w1.drew.alloc (.cells #[.int .i64 0, .int .i64 0] T)).heap.size (w1.drew.alloc (.cells #[.int .i64 0, .int .i64 0] T)) w2) :
    w2.cell? ⟨w1.heap.size, 0, none⟩ = some (.int .i64 0) ∧ w2.cell? ⟨w1.heap.size, 1, none⟩ = some (.int .i64 0) ∧ w2.frozen? ⟨w1.heap.size, 0, none⟩ = false ∧ w2.frozen? ⟨w1.heap.size, 1, none⟩ = false := by
  have H := (Holds.new w1.drew T #[.int .i64 0, .int .i64 0] w1.heap.size rfl).below hB2 (by show w1.heap.size < (w1.heap.push _).size; simp)
  exact ⟨H.cell 0, H.cell 1, H.frozen 0, H.frozen 1⟩
theorem keepB {w1 w2 : World} {T} (hB2 : Below (w1.drew.alloc (.cells #[.int .i64 0, .int .i64 0] T)).heap.size (w1.drew.alloc (.cells #[.int .i64 0, .int .i64 0] T)) w2) (x y : Value) :
    Below w1.heap.size w1 ((w2.setCell ⟨w1.heap.size, 0, none⟩ x).setCell ⟨w1.heap.size, 1, none⟩ y) := by
  have hz : w1.heap.size ≤ (w1.drew.alloc (.cells #[.int .i64 0, .int .i64 0] T)).heap.size := by show w1.heap.size ≤ (w1.heap.push _).size; simp
  exact (((((Below.refl _ _).drew.alloc (Nat.le_refl _) _).trans (hB2.mono hz)).setCell (Nat.le_refl _) _).setCell (Nat.le_refl _) _)
theorem keepA {w1 w2 : World} {T} (hB2 : Below w1.drew.heap.size w1.drew w2) (cs : Array Value) :
    Below w1.heap.size w1 (w2.alloc (.cells cs T)) := by
  have hz : w1.heap.size ≤ w2.heap.size := hB2.size
  exact ((Below.refl w1.heap.size _).drew.trans hB2).alloc hz _
set_option maxRecDepth 100000 in
set_option maxHeartbeats 4000000 in
theorem recvTakes_any (A : Option Addr) (n c : Nat) (l : List (Int × Int)) (w : World) (hl : l.length = n) (hm : n ≤ 9223372036854775807) (hr : At w A (prs .i64 l)) :
    Calls Try.prog 5 #[.slice A n c] w fun e w' => e = .returned (.bool true) ∧ Below w.heap.size w w' := by
  have HL := Lib.hid hl; clear hl
  go_enter Try.func5, Try.ntmps5
  go_wp2_with (first | (go_at_call 17; refine (new_any _).mono ?_; rintro e w' ⟨rfl, rfl⟩) | (go_at_call 14; refine (take_nil _ _ _).mono ?_; rintro e w' ⟨rfl, rfl⟩) | (go_at_call 15; refine (epoch_nil _).mono ?_; rintro e w' ⟨rfl, rfl⟩) | (go_at_call 16; refine (last_nil _).mono ?_; rintro e w' ⟨rfl, rfl⟩))
  go_loopw [8] (fun i wr => ∃ (k : Nat) (E L : Int), k ≤ n ∧ k ≤ 200 ∧ i = .int .i64 k ∧ (0 ≤ E ∧ E ≤ 1073741824) ∧ (0 ≤ L ∧ L ≤ 1073741824) ∧ Holds wr w.heap.size 49 (recvOf E L) ∧ Holds wr (w.heap.size + 1) 40 (recvOf E L) ∧ Below w.heap.size w wr) (fun i _ => 200 - (intOf i).toNat)
  case atStart => exact ⟨0, 0, 0, by omega, by omega, rfl, by omega, by omega, (Holds.new _ _ _ _ rfl).alloc _, Holds.new _ _ _ _ (by simp), ((Below.refl _ _).alloc (Nat.le_refl _) _).alloc (by simp) _⟩
  case round =>
    obtain ⟨k, E, L, hk, hk2, rfl, hE, hL, hH, hX, hB⟩ := hrel
    by_cases hlt : k < n
    · by_cases hlt2 : k < 200
      · obtain ⟨b, o, rfl, q0, q1⟩ := (hr.later hB (Nat.le_refl _)).pair k (by rw [HL.out]; exact hlt)
        have hbw : b < w.heap.size := by
          have := (hr.pair k (by rw [HL.out]; exact hlt))
          obtain ⟨b', o', e', c0, _⟩ := this
          injection e' with e'; injection e' with a1 a2; subst a1
          rcases Nat.lt_or_ge b w.heap.size with h | h
          · exact h
          · simp [World.cell?, Array.getElem?_eq_none h] at c0
        obtain ⟨e1, he1⟩ : ∃ x, (l[k]'(by rw [HL.out]; exact hlt)).1 = x := ⟨_, rfl⟩
        obtain ⟨s1, hs1⟩ : ∃ x, (l[k]'(by rw [HL.out]; exact hlt)).2 = x := ⟨_, rfl⟩
        rw [he1] at q0
        rw [hs1] at q1
        clear he1 hs1
        have HH := Lib.hid hH
        have HX := Lib.hid hX
        have HB := Lib.hid hB
        clear hH hX hB hr
        have KE := Lib.hid (fun (W : World) (hW : wr.grownBy W (some w.heap.size)) => (show W.cell? ⟨b, o + k * 2, none⟩ = some (.int .i64 e1) ∧ W.cell? ⟨b, o + k * 2 + 1, none⟩ = some (.int .i64 s1) ∧ wr.grownBy W (some w.heap.size) from
          ⟨(World.cell?_of_block (a := ⟨b, o + k * 2, none⟩) (hW.block b (by have := HB.out.size; omega) (by intro e; injection e with e; omega))).trans q0, (World.cell?_of_block (a := ⟨b, o + k * 2 + 1, none⟩) (hW.block b (by have := HB.out.size; omega) (by intro e; injection e with e; omega))).trans q1, hW⟩))
        go_wp2
        go_region_held3 (fun W => W.cell? ⟨b, o + k * 2, none⟩ = some (.int .i64 e1) ∧ W.cell? ⟨b, o + k * 2 + 1, none⟩ = some (.int .i64 s1) ∧ wr.grownBy W (some w.heap.size)) (first | exact KE.out _ (grown_drew (grown_refl _ _)) | exact KE.out _ (grown_trans (grown_drew (grown_refl _ _)) (by assumption)))
          (first | (go_at_call 14; refine (take_any w.heap.size E L _ _ _ hE hL (HH.out.drew)).mono ?_; rintro e w1 ⟨rfl, hH1, hG1⟩))
        have G1 : wr.grownBy w1 (some w.heap.size) := grown_trans (grown_drew (grown_refl _ _)) hG1
        have rb := rc_bounds E L e1 s1 hE hL
        have p0 := (KE.out w1 G1).1
        have p1 := (KE.out w1 G1).2.1
        have HX1 := HX.out.grown G1 (by intro e; injection e with e; omega)
        have x0 : w1.cell? ⟨w.heap.size + 1, 0, none⟩ = some (.int .i64 E) := HX1.cell 0
        have x1 : w1.cell? ⟨w.heap.size + 1, 1, none⟩ = some (.int .i64 L) := HX1.cell 1
        have HX1' := Lib.hid HX1
        have HH1 := Lib.hid hH1
        have HG1 := Lib.hid G1
        have hz1 : b < w1.heap.size := by have := G1.size; have := HB.out.size; omega
        have hz2 : w.heap.size + 1 < w1.heap.size := HX1.lt
        clear HX1 hH1 hG1 G1
        have KF := Lib.hid (fun (W : World) (hW : Below w1.heap.size w1 W) => (show W.cell? ⟨b, o + k * 2, none⟩ = some (.int .i64 e1) ∧ W.cell? ⟨b, o + k * 2 + 1, none⟩ = some (.int .i64 s1) ∧ W.cell? ⟨w.heap.size + 1, 0, none⟩ = some (.int .i64 E) ∧ W.cell? ⟨w.heap.size + 1, 1, none⟩ = some (.int .i64 L) ∧ Below w1.heap.size w1 W from
          ⟨(hW.cell (p := ⟨b, o + k * 2, none⟩) hz1).trans p0, (hW.cell (p := ⟨b, o + k * 2 + 1, none⟩) hz1).trans p1, (hW.cell (p := ⟨w.heap.size + 1, 0, none⟩) hz2).trans x0, (hW.cell (p := ⟨w.heap.size + 1, 1, none⟩) hz2).trans x1, hW⟩))
        go_wp2
        clear q0 q1
        go_region_held3 (fun W => W.cell? ⟨b, o + k * 2, none⟩ = some (.int .i64 e1) ∧ W.cell? ⟨b, o + k * 2 + 1, none⟩ = some (.int .i64 s1) ∧ W.cell? ⟨w.heap.size + 1, 0, none⟩ = some (.int .i64 E) ∧ W.cell? ⟨w.heap.size + 1, 1, none⟩ = some (.int .i64 L) ∧ Below w1.heap.size w1 W)
          (first | exact KF.out _ (Below.refl _ _).drew | exact KF.out _ ((Below.refl _ _).drew.alloc (by simp) _) | exact KF.out _ ((Below.refl _ _).drew.trans (hB2.mono (by simp))) | exact KF.out _ (((Below.refl _ _).drew.alloc (by simp) _).trans (hB2.mono (by simp))) | exact KF.out _ (((Below.refl _ _).drew.trans (hB2.mono (by simp))).alloc (by simpa using hB2.size) _) | exact KF.out _ (keepA hB2 _) | exact KF.out _ (keepB hB2 _ _))
          (first | (go_at_call 18; refine (refTake_any E L _ _ _ hE hL).mono ?_; rintro e w2 ⟨rfl, hB2⟩; have hs2 := hB2.size; simp at hs2; try (have Y := two_new hB2; obtain ⟨y0, y1, y2, y3⟩ := Y)))
        have HY := Holds.new w2 40 #[.int .i64 (rc E L e1 s1).1.1, .int .i64 (rc E L e1 s1).1.2] _ rfl
        have hB3 := keepA (T := 40) hB2 #[.int .i64 (rc E L e1 s1).1.1, .int .i64 (rc E L e1 s1).1.2]
        have hg2 : w1.heap.size ≤ w2.heap.size := hB2.size
        generalize w2.heap.size = g2 at HY hB3 hg2 ⊢
        generalize (w2.alloc (.cells #[.int .i64 (rc E L e1 s1).1.1, .int .i64 (rc E L e1 s1).1.2] 40)) = w3 at HY hB3 ⊢
        rotate_left
        have HY := (((Holds.new w1.drew 40 #[.int .i64 0, .int .i64 0] w1.heap.size rfl).below hB2 (by show w1.heap.size < (w1.heap.push _).size; simp)).set 0 (.int .i64 (rc E L e1 s1).1.1)).set 1 (.int .i64 (rc E L e1 s1).1.2)
        have hB3 := keepB (T := 40) hB2 (.int .i64 (rc E L e1 s1).1.1) (.int .i64 (rc E L e1 s1).1.2)
        have hg2 : w1.heap.size ≤ w1.heap.size := Nat.le_refl _
        generalize hgg : w1.heap.size = g2 at HY hB3 hg2 ⊢
        generalize ((w2.setCell ⟨g2, 0, none⟩ (.int .i64 (rc E L e1 s1).1.1)).setCell ⟨g2, 1, none⟩ (.int .i64 (rc E L e1 s1).1.2)) = w3 at HY hB3 ⊢
        rw [← hgg] at hB3
        have hg2 : w1.heap.size ≤ g2 := by omega
        rotate_left
        all_goals
          clear hB2
          have y0 : w3.cell? ⟨g2, 0, none⟩ = some (.int .i64 (rc E L e1 s1).1.1) := HY.cell 0
          have y1 : w3.cell? ⟨g2, 1, none⟩ = some (.int .i64 (rc E L e1 s1).1.2) := HY.cell 1
          have HX3 := HX1'.out.later hB3 (Nat.le_refl _)
          have HH3 := HH1.out.later hB3 (Nat.le_refl _)
          have z0 : w3.frozen? ⟨w.heap.size + 1, 0, none⟩ = false := HX3.frozen 0
          have z1 : w3.frozen? ⟨w.heap.size + 1, 1, none⟩ = false := HX3.frozen 1
          have v0 : w3.cell? ⟨w.heap.size + 1, 0, none⟩ = some (.int .i64 E) := HX3.cell 0
          have v1 : w3.cell? ⟨w.heap.size + 1, 1, none⟩ = some (.int .i64 L) := HX3.cell 1
          clear p0 p1 x0 x1
          go_wp2
          have HX5 : Holds ((w3.setCell ⟨w.heap.size + 1, 0, none⟩ (.int .i64 (rc E L e1 s1).1.1)).setCell ⟨w.heap.size + 1, 1, none⟩ (.int .i64 (rc E L e1 s1).1.2)) (w.heap.size + 1) 40 (recvOf (rc E L e1 s1).1.1 (rc E L e1 s1).1.2) := (HX3.set 0 (.int .i64 (rc E L e1 s1).1.1)).set 1 (.int .i64 (rc E L e1 s1).1.2)
          have HH5 := (HH3.far (p := ⟨w.heap.size + 1, 0, none⟩) (by simp) (.int .i64 (rc E L e1 s1).1.1)).far (p := ⟨w.heap.size + 1, 1, none⟩) (by simp) (.int .i64 (rc E L e1 s1).1.2)
          have HB5 := ((((HB.out.trans (below_of_grown HG1.out (Nat.le_refl _) HB.out.size)).trans (hB3.mono (by omega))).setCell (p := ⟨w.heap.size + 1, 0, none⟩) (by simp) (.int .i64 (rc E L e1 s1).1.1)).setCell (p := ⟨w.heap.size + 1, 1, none⟩) (by simp) (.int .i64 (rc E L e1 s1).1.2))
          generalize ((w3.setCell ⟨w.heap.size + 1, 0, none⟩ (.int .i64 (rc E L e1 s1).1.1)).setCell ⟨w.heap.size + 1, 1, none⟩ (.int .i64 (rc E L e1 s1).1.2)) = w5 at HX5 HH5 HB5 ⊢
          clear y0 y1 z0 z1 v0 v1
          have v0 : w5.cell? ⟨w.heap.size + 1, 0, none⟩ = some (.int .i64 (rc E L e1 s1).1.1) := HX5.cell 0
          have v1 : w5.cell? ⟨w.heap.size + 1, 1, none⟩ = some (.int .i64 (rc E L e1 s1).1.2) := HX5.cell 1
          go_quiet (first | (go_at_call 15; refine Calls.quiet_of_same ((epoch_any _ _ _ _ (HH5.drewN _)).mono fun _ _ h => ⟨h.1, h.2.symm⟩)) | (go_at_call 16; refine Calls.quiet_of_same ((last_any _ _ _ _ (HH5.drewN _)).mono fun _ _ h => ⟨h.1, h.2.symm⟩)))
          go_wp2
          refine ⟨⟨k + 1, (rc E L e1 s1).1.1, (rc E L e1 s1).1.2, by omega, by omega, by simp, rb.1, rb.2, HH5.drewN _, HX5.drewN _, ⟨HB5.os, HB5.tape, HB5.output, HB5.size, HB5.block⟩⟩, ?_⟩
          · simp only [intOf]; omega
      · go_wp2_with (go_at_call 19; refine (sure18 _).mono ?_; rintro e w' ⟨rfl, hs⟩)
        go_ret
        exact ⟨rfl, hB.trans (hs.mono hB.size)⟩
    · go_wp2_with (go_at_call 19; refine (sure18 _).mono ?_; rintro e w' ⟨rfl, hs⟩)
      go_ret
      exact ⟨rfl, hB.trans (hs.mono hB.size)⟩
end Go.Proofs.Ytmkehjgcilaicaa
