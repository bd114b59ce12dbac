/- Layer 23: the walk of QuorumRuns. -/
import Derived.Test.YtkpangeeldhjfaaDoorQuP
import Derived.Test.YtkpangeeldhjfaaDoorRegionB
import Derived.Deep.CutRange
import Derived.Deep.CutBlock
namespace Go.Proofs.YtkpangeeldhjfaaDoor
open Go.RowKit
def SlR (L : List Int) (n : Nat) : Rel := fun v W => ∃ A c, v = .slice A n c ∧ At W A (ints .i64 L)
theorem mono_sl (L : List Int) (n : Nat) : Mono (SlR L n) := fun _ _ _ h hX => by obtain ⟨A, c, h1, h2⟩ := h; exact ⟨A, c, h1, h2.later hX (Nat.le_refl _)⟩
theorem sl_is {w : World} {l : List Int} (l' : List Int) (h : l = l') {P : Program} {f : FuncId} {args : Array Value} (hc : Calls P f args w (SlOf w l)) : Calls P f args w (SlOf w l') := by subst h; exact hc
theorem mayT_parts {l : List Int} {need term : Int} (h : mayT l need term = true) : SetM.may l = true ∧ 1 ≤ need ∧ need ≤ (l.length : Int) ∧ 1 ≤ term ∧ term ≤ 1000 := by
  unfold mayT at h
  simp only [Bool.and_eq_true, decide_eq_true_eq] at h
  exact ⟨h.1.1.1.1, h.1.1.1.2, h.1.1.2, h.1.2, h.2⟩
set_option maxRecDepth 100000 in
set_option maxHeartbeats 8000000 in
theorem qruns_in (A0 : Option Addr) (n0 c0 : Nat) (l0 : List Int) (N T : Int) (A2 : Option Addr) (n2 c2 : Nat) (w : World) (e0 : l0.length = n0) (a0 : At w A0 (ints .i64 l0)) (y0 : A0 = none → n0 = 0) (m2 : n2 ≤ 9223372036854775807) (a2 : ∀ i, i < n2 → Act2 w A2 i) (hg : Glob w) (h2 : n0 ≤ 100) (hm : mayT l0 N T = true) :
    Calls Tryd.prog 3 #[.slice A0 n0 c0, .agg #[.int .i64 N, .int .i64 T], .slice A2 n2 c2] w fun e w' => e = .returned (.bool true) ∧ Below w.heap.size w w' := by
  have HG := Lib.hid hg
  have E0 := Lib.hid e0
  have T0 := Lib.hid a0
  have Y0 := Lib.hid y0
  have HC := Lib.hid a2
  have MT := Lib.hid hm
  have MP := Lib.hid (mayT_parts hm)
  have d1 : decide (100 < n0) = false := decide_eq_false (by omega)
  clear hg a0 y0 e0 hm a2
  have P0 := Lib.hid (Holds.new w 23 #[.int .i64 N, .int .i64 T] w.heap.size rfl)
  have BA := Lib.hid ((Below.refl w.heap.size w).alloc (Nat.le_refl _) (.cells #[.int .i64 N, .int .i64 T] 23))
  go_enter Tryd.func3, Tryd.ntmps3
  go_wp2_with fail
  generalize (w.alloc (.cells #[.int .i64 N, .int .i64 T] 23)) = u0 at *
  have GA := Lib.hid (HG.out.later BA.out (Nat.le_refl _))
  refine (qtick_nil _).mono ?_
  rintro e w1 ⟨rfl, rfl⟩
  go_wp2_with fail
  refine (qcame_nil _ _).mono ?_
  rintro e w1 ⟨rfl, rfl⟩
  go_wp2_with fail
  refine (num23_err 1 _ GA.out).mono ?_
  rintro e u1 ⟨rfl, b1⟩
  have B1 := Lib.hid (BA.out.trans (b1.mono BA.out.size))
  have G1 := Lib.hid (GA.out.later b1 (Nat.le_refl _))
  have P1 := Lib.hid (P0.out.later b1 (Nat.le_refl _))
  clear b1 BA GA P0
  go_wp2_with fail
  refine (qgone_nil _ _).mono ?_
  rintro e w1 ⟨rfl, rfl⟩
  go_wp2_with fail
  refine (num23_err 1 _ G1.out).mono ?_
  rintro e u2 ⟨rfl, b2⟩
  have B2 := Lib.hid (B1.out.trans (b2.mono B1.out.size))
  have G2 := Lib.hid (G1.out.later b2 (Nat.le_refl _))
  have P2 := Lib.hid (P1.out.later b2 (Nat.le_refl _))
  clear b2 B1 G1 P1
  go_wp2_with fail
  refine (qstate_nil _).mono ?_
  rintro e w1 ⟨rfl, rfl⟩
  go_wp2_with fail
  refine (qin_nil _).mono ?_
  rintro e w1 ⟨rfl, rfl⟩
  go_wp2_with fail
  refine (qlacks_nil _).mono ?_
  rintro e w1 ⟨rfl, rfl⟩
  have p0 := P2.out.cell 0
  have p1 := P2.out.cell 1
  simp only [List.getElem?_toArray, List.getElem?_cons_zero, List.getElem?_cons_succ] at p0 p1
  go_wp2_with fail
  refine (qnew_ok A0 n0 c0 l0 N T _ E0.out (by omega) (T0.out.later B2.out (Nat.le_refl _)) Y0.out MP.out.1 (by have := MP.out; omega) (by have := MP.out.2.2.1; have := E0.out; omega) (by have := MP.out; omega) (by have := MP.out; omega)).mono ?_
  rintro e w2 ⟨q, Aw, cw, rfl, gd, b3, hqs⟩
  have QS := Lib.hid (Nat.le_trans B2.out.size hqs)
  have B3 := Lib.hid (B2.out.trans (b3.mono B2.out.size))
  have D3 := Lib.hid gd
  have P3 := Lib.hid (P2.out.later b3 (Nat.le_refl _))
  clear gd b3 hqs p0 p1 P2 B2 G2
  have p0 := P3.out.cell 0
  have p1 := P3.out.cell 1
  simp only [List.getElem?_toArray, List.getElem?_cons_zero, List.getElem?_cons_succ] at p0 p1
  go_wp2_with fail
  refine (rmay_any A0 n0 c0 l0 N T _ E0.out (by omega) (T0.out.later B3.out (Nat.le_refl _))).mono ?_
  rintro e w3 ⟨rfl, b4⟩
  rw [MT.out]
  have B4 := Lib.hid (B3.out.trans (b4.mono B3.out.size))
  have D4 := Lib.hid (D3.out.later b4)
  have P4 := Lib.hid (P3.out.later b4 (Nat.le_refl _))
  clear b4 p0 p1 P3 B3 D3
  have p0 := P4.out.cell 0
  have p1 := P4.out.cell 1
  simp only [List.getElem?_toArray, List.getElem?_cons_zero, List.getElem?_cons_succ] at p0 p1
  obtain rfl : n0 = l0.length := E0.out.symm
  have RA := Lib.hid (show QX w (w3.alloc (.cells #[.slice A0 l0.length c0, .int .i64 N, .int .i64 T, .slice none 0 0, .slice none 0 0] 37)) q w3.heap.size l0 [] [] N T 0 Aw cw none 0 none 0 A0 c0 none 0 none 0 from
    ⟨D4.out.later ((Below.refl _ _).alloc (Nat.le_refl _) _), by rw [Int.sub_zero]; exact Holds.new w3 _ _ _ rfl, At.nil _ _, At.nil _ _, B4.out.trans (((Below.refl _ _).alloc (Nat.le_refl _) _).mono B4.out.size), QS.out, B4.out.size, Nat.ne_of_lt D4.out.lay.lt, fun e => Nat.lt_irrefl _ (D4.out.farw _ e).1, by simp [blk], by simp [blk], by simp [blk], by simp [blk], by simp [blk], by simp [blk], Ap.nil _, by have := MP.out; omega⟩)
  go_wp2_with fail
  generalize (w3.alloc (.cells #[.slice A0 l0.length c0, .int .i64 N, .int .i64 T, .slice none 0 0, .slice none 0 0] 37)) = w4 at RA ⊢
  generalize w3.heap.size = px at RA ⊢
  clear D4 B4 P4 p0 p1
  go_loopw [11] (fun i wr => ∃ (k : Nat) (inn gone : List Int) (went : Int) (Ai : Option Addr) (ci : Nat) (Ag : Option Addr) (cg : Nat) (Ax : Option Addr) (cx : Nat) (Ay : Option Addr) (cy : Nat), k ≤ n2 ∧ k ≤ 200 ∧ i = .int .i64 (k : Int) ∧ QX w wr q px l0 inn gone N T went Aw cw Ai ci Ag cg A0 c0 Ax cx Ay cy) (fun i _ => n2 - (intOf i).toNat)
  case atStart => exact ⟨0, [], [], 0, none, 0, none, 0, none, 0, none, 0, by omega, by omega, rfl, RA.out⟩
  case round =>
    obtain ⟨k, inn, gone, went, Ai, ci, Ag, cg, Ax, cx, Ay, cy, hk1, hk2, rfl, hr⟩ := hrel
    have RR := Lib.hid hr
    clear hr RA
    by_cases hlt : k < n2
    · by_cases h200 : k < 200
      · obtain ⟨b, o, K, X, rfl, q0, q1, hb⟩ := HC.out k hlt
        have r0 := (RR.out.bel.cell (p := ⟨b, o + k * 2, none⟩) hb).trans q0
        have r1 := (RR.out.bel.cell (p := ⟨b, o + k * 2 + 1, none⟩) hb).trans q1
        have k0 : (0 : Int) ≤ (k : Int) := by omega
        have HPA := Lib.hid (Holds.new wr 39 #[.int .i64 K, .int .i64 X] wr.heap.size rfl)
        have R5 := Lib.hid (RR.out.later ((Below.refl _ _).alloc (Nat.le_refl _) (.cells #[.int .i64 K, .int .i64 X] 39)))
        clear q0 q1
        have HPX := Lib.hid (show wr.heap.size ≠ px ∧ wr.heap.size ≠ q from ⟨Nat.ne_of_gt RR.out.x.lt, Nat.ne_of_gt RR.out.qu.lay.lt⟩)
        go_upto_region 17 with fail
        clear r0 r1 RR
        generalize (wr.alloc (.cells #[.int .i64 K, .int .i64 X] 39)) = w5 at R5 HPA ⊢
        generalize wr.heap.size = pa at HPA HPX ⊢
        have pa0 : w5.cell? ⟨pa, 0, none⟩ = some (.int .i64 K) := HPA.out.cell 0
        have pa1 : w5.cell? ⟨pa, 1, none⟩ = some (.int .i64 X) := HPA.out.cell 1
        have hNl : N ≤ (l0.length : Int) := MP.out.2.2.1
        go_upto_block 2 with fail
        go_cut [13, 14] from 84 to 166 (fun _ _ wx => ∃ (inn gone : List Int) (went : Int) (Ai : Option Addr) (ci : Nat) (Ag : Option Addr) (cg : Nat) (Ax : Option Addr) (cx : Nat) (Ay : Option Addr) (cy : Nat), QX w wx q px l0 inn gone N T went Aw cw Ai ci Ag cg A0 c0 Ax cx Ay cy)
        case first =>
          by_cases K0 : K = 0
          · subst K0
            have hcn := R5.out.ap.count
            have hwb := R5.out.wb
            have hst := qst_rst (need := N) hcn hwb.2.1 hNl
            obtain ⟨s, hs⟩ : ∃ s, qst l0.length inn.length gone.length N T went = s := ⟨_, rfl⟩
            have hrs : rst l0.length inn.length gone.length N (T - went) = s := hst.symm.trans hs
            have HRS := Lib.hid hrs
            have HKS := Lib.hid (show canK l0 inn gone N T went X = canS s l0 inn gone X from by rw [canK_S, hs])
            have z0 := R5.out.x.cell 0
            have z1 := R5.out.x.cell 1
            have z2 := R5.out.x.cell 2
            have z3 := R5.out.x.cell 3
            have z4 := R5.out.x.cell 4
            simp only [List.getElem?_toArray, List.getElem?_cons_zero, List.getElem?_cons_succ] at z0 z1 z2 z3 z4
            have T5 := Lib.hid (T0.out.later R5.out.bel (Nat.le_refl _))
            clear hst hrs hs hcn hwb
            by_cases hc : canS s l0 inn gone X = 0
            · have HZ := Lib.hid (canS_zero hc)
              have s0 := HZ.out.1
              subst s0
              have HCS := Lib.hid hc
              clear hc
              go_wp2_with fail
              refine (rcame_in X HRS.out rfl rfl rfl (by omega) R5.out.qu.leni R5.out.qu.leng T5.out R5.out.ax R5.out.ay HCS.out).mono ?_
              rintro e w6 ⟨A9, c9, rfl, hat, bb, hf⟩
              have R6 := Lib.hid (R5.out.later bb)
              have PA6 := Lib.hid (HPA.out.later bb (Nat.le_refl _))
              have A6 := Lib.hid hat
              have F6 := Lib.hid (show blk A9 ≠ some px ∧ blk A9 ≠ some q from ⟨fun e => by have := hf px e; have := R5.out.x.lt; omega, fun e => by have := hf q e; have := R5.out.qu.lay.lt; omega⟩)
              clear hat bb hf R5 HPA pa0 pa1 T5 z0 z1 z2 z3 z4
              go_upto_region 23 with fail
              have HY := Lib.hid (Holds.new w6 37 #[.slice A0 l0.length c0, .int .i64 N, .int .i64 (T - went), .slice A9 (qput inn X).length c9, .slice Ay gone.length cy] w6.heap.size rfl)
              have BL := Lib.hid ((Below.refl w6.heap.size w6).alloc (Nat.le_refl _) (.cells #[.slice A0 l0.length c0, .int .i64 N, .int .i64 (T - went), .slice A9 (qput inn X).length c9, .slice Ay gone.length cy] 37))
              have R7 := Lib.hid (R6.out.later BL.out)
              have PA7 := Lib.hid (PA6.out.later BL.out (Nat.le_refl _))
              have A7 := Lib.hid (A6.out.later BL.out (Nat.le_refl _))
              generalize (w6.alloc (.cells #[.slice A0 l0.length c0, .int .i64 N, .int .i64 (T - went), .slice A9 (qput inn X).length c9, .slice Ay gone.length cy] 37)) = w7 at *
              generalize w6.heap.size = py at HY ⊢
              have y0 := HY.out.cell 0
              have y1 := HY.out.cell 1
              have y2 := HY.out.cell 2
              have y3 := HY.out.cell 3
              have y4 := HY.out.cell 4
              have z0 := R7.out.x.cell 0
              have z1 := R7.out.x.cell 1
              have z2 := R7.out.x.cell 2
              have z3 := R7.out.x.cell 3
              have z4 := R7.out.x.cell 4
              have f0 := R7.out.x.frozen 0
              have f1 := R7.out.x.frozen 1
              have f2 := R7.out.x.frozen 2
              have f3 := R7.out.x.frozen 3
              have f4 := R7.out.x.frozen 4
              simp only [List.getElem?_toArray, List.getElem?_cons_zero, List.getElem?_cons_succ] at y0 y1 y2 y3 y4 z0 z1 z2 z3 z4
              clear BL R6 A6 PA6 HY
              obtain ⟨W, hW⟩ : ∃ W, (((((w7.setCell ⟨px, 0, none⟩ (.slice A0 l0.length c0)).setCell ⟨px, 1, none⟩ (.int .i64 N)).setCell ⟨px, 2, none⟩ (.int .i64 (T - went))).setCell ⟨px, 3, none⟩ (.slice A9 (qput inn X).length c9)).setCell ⟨px, 4, none⟩ (.slice Ay gone.length cy)) = W := ⟨_, rfl⟩
              obtain ⟨gdW, xW, bW, grW⟩ := R7.out.store (.int .i64 (T - went)) (.slice A9 (qput inn X).length c9) (.slice Ay gone.length cy) hW.symm
              have GW := Lib.hid gdW
              have XW := Lib.hid xW
              have BW := Lib.hid bW
              have GRW := Lib.hid grW
              have PAW := Lib.hid (PA7.out.grown grW (fun e => HPX.out.1 (by injection e with e; exact e.symm)))
              clear gdW xW bW grW PA7
              go_upto_region 24 with fail
              try rw [hW]
              clear hW y0 y1 y2 y3 y4 z0 z1 z2 z3 z4 f0 f1 f2 f3 f4
              have pa0 : W.cell? ⟨pa, 0, none⟩ = some (.int .i64 0) := PAW.out.cell 0
              have pa1 : W.cell? ⟨pa, 1, none⟩ = some (.int .i64 X) := PAW.out.cell 1
              go_wp2_with fail
              refine (qcame_f X GW.out (HKS.out.trans HCS.out)).mono ?_
              rintro e w8 ⟨rfl, gr, A8, c8, gd, gf⟩
              have R8 := Lib.hid (R7.out.next XW.out BW.out GRW.out gd gr A7.out R7.out.ay F6.out.2 F6.out.1 R7.out.yq R7.out.yp (fun e => by have := gf px e; have := XW.out.lt; omega) R7.out.fg (R7.out.ap.came HZ.out.2.1 HZ.out.2.2.2) R7.out.wb)
              have PA8 := Lib.hid (PAW.out.grown gr (fun e => HPX.out.2 (by injection e with e; exact e.symm)))
              clear gd gr gf R7 GW XW BW GRW PAW A7 pa0 pa1
              go_wp2_with fail
              refine (num23_nil _).mono ?_
              rintro e w9 ⟨rfl, b9⟩
              have R9 := Lib.hid (R8.out.later b9)
              have PA9 := Lib.hid (PA8.out.later b9 (Nat.le_refl _))
              clear b9 R8 PA8
              have pa0 : w9.cell? ⟨pa, 0, none⟩ = some (.int .i64 0) := PA9.out.cell 0
              go_wp2_with fail
              go_meet
              exact ⟨_, _, _, _, _, _, _, _, _, _, _, R9.out⟩
            · obtain ⟨kk, hkk⟩ : ∃ kk, canS s l0 inn gone X = kk := ⟨_, rfl⟩
              rw [hkk] at hc
              have HKK := Lib.hid hkk
              have HK0 := Lib.hid hc
              clear hkk hc
              go_wp2_with fail
              refine (rcame_k X false s HRS.out rfl rfl rfl (by omega) R5.out.qu.leni R5.out.qu.leng T5.out R5.out.ax R5.out.ay kk HKK.out HK0.out).mono ?_
              rintro e w6 ⟨rfl, bb⟩
              have R6 := Lib.hid (R5.out.later bb)
              have PA6 := Lib.hid (HPA.out.later bb (Nat.le_refl _))
              clear bb R5 HPA pa0 pa1 T5 z0 z1 z2 z3 z4
              go_upto_region 23 with fail
              have HY := Lib.hid (Holds.new w6 37 #[.slice A0 l0.length c0, .int .i64 N, .int .i64 (T - went), .slice Ax inn.length cx, .slice Ay gone.length cy] w6.heap.size rfl)
              have BL := Lib.hid ((Below.refl w6.heap.size w6).alloc (Nat.le_refl _) (.cells #[.slice A0 l0.length c0, .int .i64 N, .int .i64 (T - went), .slice Ax inn.length cx, .slice Ay gone.length cy] 37))
              have R7 := Lib.hid (R6.out.later BL.out)
              have PA7 := Lib.hid (PA6.out.later BL.out (Nat.le_refl _))
              generalize (w6.alloc (.cells #[.slice A0 l0.length c0, .int .i64 N, .int .i64 (T - went), .slice Ax inn.length cx, .slice Ay gone.length cy] 37)) = w7 at *
              generalize w6.heap.size = py at HY ⊢
              have y0 := HY.out.cell 0
              have y1 := HY.out.cell 1
              have y2 := HY.out.cell 2
              have y3 := HY.out.cell 3
              have y4 := HY.out.cell 4
              have z0 := R7.out.x.cell 0
              have z1 := R7.out.x.cell 1
              have z2 := R7.out.x.cell 2
              have z3 := R7.out.x.cell 3
              have z4 := R7.out.x.cell 4
              have f0 := R7.out.x.frozen 0
              have f1 := R7.out.x.frozen 1
              have f2 := R7.out.x.frozen 2
              have f3 := R7.out.x.frozen 3
              have f4 := R7.out.x.frozen 4
              simp only [List.getElem?_toArray, List.getElem?_cons_zero, List.getElem?_cons_succ] at y0 y1 y2 y3 y4 z0 z1 z2 z3 z4
              clear BL R6 PA6 HY
              obtain ⟨W, hW⟩ : ∃ W, (((((w7.setCell ⟨px, 0, none⟩ (.slice A0 l0.length c0)).setCell ⟨px, 1, none⟩ (.int .i64 N)).setCell ⟨px, 2, none⟩ (.int .i64 (T - went))).setCell ⟨px, 3, none⟩ (.slice Ax inn.length cx)).setCell ⟨px, 4, none⟩ (.slice Ay gone.length cy)) = W := ⟨_, rfl⟩
              obtain ⟨gdW, xW, bW, grW⟩ := R7.out.store (.int .i64 (T - went)) (.slice Ax inn.length cx) (.slice Ay gone.length cy) hW.symm
              have GW := Lib.hid gdW
              have XW := Lib.hid xW
              have BW := Lib.hid bW
              have GRW := Lib.hid grW
              have PAW := Lib.hid (PA7.out.grown grW (fun e => HPX.out.1 (by injection e with e; exact e.symm)))
              clear gdW xW bW grW PA7
              go_upto_region 24 with fail
              try rw [hW]
              clear hW y0 y1 y2 y3 y4 z0 z1 z2 z3 z4 f0 f1 f2 f3 f4
              have pa0 : W.cell? ⟨pa, 0, none⟩ = some (.int .i64 0) := PAW.out.cell 0
              have pa1 : W.cell? ⟨pa, 1, none⟩ = some (.int .i64 X) := PAW.out.cell 1
              go_wp2_with fail
              refine (qcame_k X GW.out kk (HKS.out.trans HKK.out) HK0.out).mono ?_
              rintro e w8 ⟨rfl, m8, rfl⟩
              have gr : W.grownBy (W.drewN m8) (some q) := ⟨rfl, rfl, rfl, Nat.le_refl _, fun _ _ _ => rfl⟩
              have R8 := Lib.hid (R7.out.next XW.out BW.out GRW.out (GW.out.drewN m8) gr R7.out.ax R7.out.ay R7.out.xq R7.out.xp R7.out.yq R7.out.yp R7.out.fi R7.out.fg R7.out.ap R7.out.wb)
              have PA8 := Lib.hid (PAW.out.grown gr (fun e => HPX.out.2 (by injection e with e; exact e.symm)))
              have G8 := Lib.hid (HG.out.later R8.out.bel (Nat.le_refl _))
              clear gr R7 GW XW BW GRW PAW pa0 pa1
              generalize W.drewN m8 = w8 at *
              go_wp2_with fail
              refine (num23_err kk _ G8.out).mono ?_
              rintro e w9 ⟨rfl, b9⟩
              have R9 := Lib.hid (R8.out.later b9)
              have PA9 := Lib.hid (PA8.out.later b9 (Nat.le_refl _))
              clear b9 R8 PA8
              have pa0 : w9.cell? ⟨pa, 0, none⟩ = some (.int .i64 0) := PA9.out.cell 0
              go_wp2_with fail
              go_meet
              exact ⟨_, _, _, _, _, _, _, _, _, _, _, R9.out⟩
          · have x0' : (K == 0) = false := by simpa using K0
            have X0 := Lib.hid K0
            clear K0
            by_cases K1 : K = 1
            · subst K1
              have hcn := R5.out.ap.count
              have hwb := R5.out.wb
              have hst := qst_rst (need := N) hcn hwb.2.1 hNl
              obtain ⟨s, hs⟩ : ∃ s, qst l0.length inn.length gone.length N T went = s := ⟨_, rfl⟩
              have hrs : rst l0.length inn.length gone.length N (T - went) = s := hst.symm.trans hs
              have HRS := Lib.hid hrs
              have HKS := Lib.hid (show canK l0 inn gone N T went X = canS s l0 inn gone X from by rw [canK_S, hs])
              have z0 := R5.out.x.cell 0
              have z1 := R5.out.x.cell 1
              have z2 := R5.out.x.cell 2
              have z3 := R5.out.x.cell 3
              have z4 := R5.out.x.cell 4
              simp only [List.getElem?_toArray, List.getElem?_cons_zero, List.getElem?_cons_succ] at z0 z1 z2 z3 z4
              have T5 := Lib.hid (T0.out.later R5.out.bel (Nat.le_refl _))
              clear hst hrs hs hcn hwb
              by_cases hc : canS s l0 inn gone X = 0
              · have HZ := Lib.hid (canS_zero hc)
                have s0 := HZ.out.1
                subst s0
                have HCS := Lib.hid hc
                clear hc
                go_wp2_with fail
                refine (rcame_gone X HRS.out rfl rfl rfl (by omega) R5.out.qu.leni R5.out.qu.leng T5.out R5.out.ax R5.out.ay HCS.out).mono ?_
                rintro e w6 ⟨A9, c9, rfl, hat, bb, hf⟩
                have R6 := Lib.hid (R5.out.later bb)
                have PA6 := Lib.hid (HPA.out.later bb (Nat.le_refl _))
                have A6 := Lib.hid hat
                have F6 := Lib.hid (show blk A9 ≠ some px ∧ blk A9 ≠ some q from ⟨fun e => by have := hf px e; have := R5.out.x.lt; omega, fun e => by have := hf q e; have := R5.out.qu.lay.lt; omega⟩)
                clear hat bb hf R5 HPA pa0 pa1 T5 z0 z1 z2 z3 z4
                go_upto_region 23 with fail
                have HY := Lib.hid (Holds.new w6 37 #[.slice A0 l0.length c0, .int .i64 N, .int .i64 (T - went), .slice Ax inn.length cx, .slice A9 (qput gone X).length c9] w6.heap.size rfl)
                have BL := Lib.hid ((Below.refl w6.heap.size w6).alloc (Nat.le_refl _) (.cells #[.slice A0 l0.length c0, .int .i64 N, .int .i64 (T - went), .slice Ax inn.length cx, .slice A9 (qput gone X).length c9] 37))
                have R7 := Lib.hid (R6.out.later BL.out)
                have PA7 := Lib.hid (PA6.out.later BL.out (Nat.le_refl _))
                have A7 := Lib.hid (A6.out.later BL.out (Nat.le_refl _))
                generalize (w6.alloc (.cells #[.slice A0 l0.length c0, .int .i64 N, .int .i64 (T - went), .slice Ax inn.length cx, .slice A9 (qput gone X).length c9] 37)) = w7 at *
                generalize w6.heap.size = py at HY ⊢
                have y0 := HY.out.cell 0
                have y1 := HY.out.cell 1
                have y2 := HY.out.cell 2
                have y3 := HY.out.cell 3
                have y4 := HY.out.cell 4
                have z0 := R7.out.x.cell 0
                have z1 := R7.out.x.cell 1
                have z2 := R7.out.x.cell 2
                have z3 := R7.out.x.cell 3
                have z4 := R7.out.x.cell 4
                have f0 := R7.out.x.frozen 0
                have f1 := R7.out.x.frozen 1
                have f2 := R7.out.x.frozen 2
                have f3 := R7.out.x.frozen 3
                have f4 := R7.out.x.frozen 4
                simp only [List.getElem?_toArray, List.getElem?_cons_zero, List.getElem?_cons_succ] at y0 y1 y2 y3 y4 z0 z1 z2 z3 z4
                clear BL R6 A6 PA6 HY
                obtain ⟨W, hW⟩ : ∃ W, (((((w7.setCell ⟨px, 0, none⟩ (.slice A0 l0.length c0)).setCell ⟨px, 1, none⟩ (.int .i64 N)).setCell ⟨px, 2, none⟩ (.int .i64 (T - went))).setCell ⟨px, 3, none⟩ (.slice Ax inn.length cx)).setCell ⟨px, 4, none⟩ (.slice A9 (qput gone X).length c9)) = W := ⟨_, rfl⟩
                obtain ⟨gdW, xW, bW, grW⟩ := R7.out.store (.int .i64 (T - went)) (.slice Ax inn.length cx) (.slice A9 (qput gone X).length c9) hW.symm
                have GW := Lib.hid gdW
                have XW := Lib.hid xW
                have BW := Lib.hid bW
                have GRW := Lib.hid grW
                have PAW := Lib.hid (PA7.out.grown grW (fun e => HPX.out.1 (by injection e with e; exact e.symm)))
                clear gdW xW bW grW PA7
                go_upto_region 24 with fail
                try rw [hW]
                clear hW y0 y1 y2 y3 y4 z0 z1 z2 z3 z4 f0 f1 f2 f3 f4
                have pa0 : W.cell? ⟨pa, 0, none⟩ = some (.int .i64 1) := PAW.out.cell 0
                have pa1 : W.cell? ⟨pa, 1, none⟩ = some (.int .i64 X) := PAW.out.cell 1
                go_wp2_with fail
                refine (qgone_f X GW.out (HKS.out.trans HCS.out)).mono ?_
                rintro e w8 ⟨rfl, gr, A8, c8, gd, gf⟩
                have R8 := Lib.hid (R7.out.next XW.out BW.out GRW.out gd gr R7.out.ax A7.out R7.out.xq R7.out.xp F6.out.2 F6.out.1 R7.out.fi (fun e => by have := gf px e; have := XW.out.lt; omega) (R7.out.ap.gone HZ.out.2.1 HZ.out.2.2.1) R7.out.wb)
                have PA8 := Lib.hid (PAW.out.grown gr (fun e => HPX.out.2 (by injection e with e; exact e.symm)))
                clear gd gr gf R7 GW XW BW GRW PAW A7 pa0 pa1
                go_wp2_with fail
                refine (num23_nil _).mono ?_
                rintro e w9 ⟨rfl, b9⟩
                have R9 := Lib.hid (R8.out.later b9)
                have PA9 := Lib.hid (PA8.out.later b9 (Nat.le_refl _))
                clear b9 R8 PA8
                have pa0 : w9.cell? ⟨pa, 0, none⟩ = some (.int .i64 1) := PA9.out.cell 0
                go_wp2_with fail
                go_meet
                exact ⟨_, _, _, _, _, _, _, _, _, _, _, R9.out⟩
              · obtain ⟨kk, hkk⟩ : ∃ kk, canS s l0 inn gone X = kk := ⟨_, rfl⟩
                rw [hkk] at hc
                have HKK := Lib.hid hkk
                have HK0 := Lib.hid hc
                clear hkk hc
                go_wp2_with fail
                refine (rcame_k X true s HRS.out rfl rfl rfl (by omega) R5.out.qu.leni R5.out.qu.leng T5.out R5.out.ax R5.out.ay kk HKK.out HK0.out).mono ?_
                rintro e w6 ⟨rfl, bb⟩
                have R6 := Lib.hid (R5.out.later bb)
                have PA6 := Lib.hid (HPA.out.later bb (Nat.le_refl _))
                clear bb R5 HPA pa0 pa1 T5 z0 z1 z2 z3 z4
                go_upto_region 23 with fail
                have HY := Lib.hid (Holds.new w6 37 #[.slice A0 l0.length c0, .int .i64 N, .int .i64 (T - went), .slice Ax inn.length cx, .slice Ay gone.length cy] w6.heap.size rfl)
                have BL := Lib.hid ((Below.refl w6.heap.size w6).alloc (Nat.le_refl _) (.cells #[.slice A0 l0.length c0, .int .i64 N, .int .i64 (T - went), .slice Ax inn.length cx, .slice Ay gone.length cy] 37))
                have R7 := Lib.hid (R6.out.later BL.out)
                have PA7 := Lib.hid (PA6.out.later BL.out (Nat.le_refl _))
                generalize (w6.alloc (.cells #[.slice A0 l0.length c0, .int .i64 N, .int .i64 (T - went), .slice Ax inn.length cx, .slice Ay gone.length cy] 37)) = w7 at *
                generalize w6.heap.size = py at HY ⊢
                have y0 := HY.out.cell 0
                have y1 := HY.out.cell 1
                have y2 := HY.out.cell 2
                have y3 := HY.out.cell 3
                have y4 := HY.out.cell 4
                have z0 := R7.out.x.cell 0
                have z1 := R7.out.x.cell 1
                have z2 := R7.out.x.cell 2
                have z3 := R7.out.x.cell 3
                have z4 := R7.out.x.cell 4
                have f0 := R7.out.x.frozen 0
                have f1 := R7.out.x.frozen 1
                have f2 := R7.out.x.frozen 2
                have f3 := R7.out.x.frozen 3
                have f4 := R7.out.x.frozen 4
                simp only [List.getElem?_toArray, List.getElem?_cons_zero, List.getElem?_cons_succ] at y0 y1 y2 y3 y4 z0 z1 z2 z3 z4
                clear BL R6 PA6 HY
                obtain ⟨W, hW⟩ : ∃ W, (((((w7.setCell ⟨px, 0, none⟩ (.slice A0 l0.length c0)).setCell ⟨px, 1, none⟩ (.int .i64 N)).setCell ⟨px, 2, none⟩ (.int .i64 (T - went))).setCell ⟨px, 3, none⟩ (.slice Ax inn.length cx)).setCell ⟨px, 4, none⟩ (.slice Ay gone.length cy)) = W := ⟨_, rfl⟩
                obtain ⟨gdW, xW, bW, grW⟩ := R7.out.store (.int .i64 (T - went)) (.slice Ax inn.length cx) (.slice Ay gone.length cy) hW.symm
                have GW := Lib.hid gdW
                have XW := Lib.hid xW
                have BW := Lib.hid bW
                have GRW := Lib.hid grW
                have PAW := Lib.hid (PA7.out.grown grW (fun e => HPX.out.1 (by injection e with e; exact e.symm)))
                clear gdW xW bW grW PA7
                go_upto_region 24 with fail
                try rw [hW]
                clear hW y0 y1 y2 y3 y4 z0 z1 z2 z3 z4 f0 f1 f2 f3 f4
                have pa0 : W.cell? ⟨pa, 0, none⟩ = some (.int .i64 1) := PAW.out.cell 0
                have pa1 : W.cell? ⟨pa, 1, none⟩ = some (.int .i64 X) := PAW.out.cell 1
                go_wp2_with fail
                refine (qgone_k X GW.out kk (HKS.out.trans HKK.out) HK0.out).mono ?_
                rintro e w8 ⟨rfl, m8, rfl⟩
                have gr : W.grownBy (W.drewN m8) (some q) := ⟨rfl, rfl, rfl, Nat.le_refl _, fun _ _ _ => rfl⟩
                have R8 := Lib.hid (R7.out.next XW.out BW.out GRW.out (GW.out.drewN m8) gr R7.out.ax R7.out.ay R7.out.xq R7.out.xp R7.out.yq R7.out.yp R7.out.fi R7.out.fg R7.out.ap R7.out.wb)
                have PA8 := Lib.hid (PAW.out.grown gr (fun e => HPX.out.2 (by injection e with e; exact e.symm)))
                have G8 := Lib.hid (HG.out.later R8.out.bel (Nat.le_refl _))
                clear gr R7 GW XW BW GRW PAW pa0 pa1
                generalize W.drewN m8 = w8 at *
                go_wp2_with fail
                refine (num23_err kk _ G8.out).mono ?_
                rintro e w9 ⟨rfl, b9⟩
                have R9 := Lib.hid (R8.out.later b9)
                have PA9 := Lib.hid (PA8.out.later b9 (Nat.le_refl _))
                clear b9 R8 PA8
                have pa0 : w9.cell? ⟨pa, 0, none⟩ = some (.int .i64 1) := PA9.out.cell 0
                go_wp2_with fail
                go_meet
                exact ⟨_, _, _, _, _, _, _, _, _, _, _, R9.out⟩
            · have x1' : (K == 1) = false := by simpa using K1
              have X1 := Lib.hid K1
              clear K1
              obtain ⟨s, hs⟩ : ∃ s, qst l0.length inn.length gone.length N T went = s := ⟨_, rfl⟩
              have hwb := R5.out.wb
              have hrs : rst l0.length inn.length gone.length N (T - went) = s := (qst_rst (need := N) R5.out.ap.count hwb.2.1 hNl).symm.trans hs
              have HRS := Lib.hid hrs
              have HQS := Lib.hid hs
              clear hrs hs
              go_wp2_with fail
              refine (qtick_any R5.out.qu s HQS.out ⟨hwb.1, by omega⟩).mono ?_
              rintro e w6 ⟨rfl, gd, gr⟩
              obtain ⟨wt, hwt⟩ : ∃ wt, (if s = 0 then went + 1 else went) = wt := ⟨_, rfl⟩
              rw [hwt] at gd
              have hlt2 := Lib.hid (show T - wt = if s = 0 then (T - went) - 1 else T - went from by rw [← hwt]; split <;> omega)
              have hwb2 : 0 ≤ wt ∧ wt ≤ T ∧ T ≤ 1000 := by
                have hq := HQS.out
                rw [← hwt]
                by_cases h : s = 0
                · rw [if_pos h]
                  have := qst_zero (hq.trans h)
                  omega
                · rw [if_neg h]; omega
              have X6 := Lib.hid (R5.out.x.grown gr (fun e => R5.out.qp (by injection e)))
              have AX6 := Lib.hid (R5.out.ax.grown gr (.inr R5.out.xq))
              have AY6 := Lib.hid (R5.out.ay.grown gr (.inr R5.out.yq))
              have B6 := Lib.hid (below_grown R5.out.bel gr R5.out.qs)
              have G6 := Lib.hid gd
              clear gd gr hwt
              have z0 := X6.out.cell 0
              have z1 := X6.out.cell 1
              have z2 := X6.out.cell 2
              have z3 := X6.out.cell 3
              have z4 := X6.out.cell 4
              simp only [List.getElem?_toArray, List.getElem?_cons_zero, List.getElem?_cons_succ] at z0 z1 z2 z3 z4
              go_wp2_with fail
              refine (rtick_any s HRS.out (by omega) R5.out.qu.leni R5.out.qu.leng (by omega) (T - wt) hlt2.out).mono ?_
              rintro e w7 ⟨rfl, b7⟩
              have X7 := Lib.hid (X6.out.later b7 (Nat.le_refl _))
              have B7 := Lib.hid (B6.out.trans (b7.mono B6.out.size))
              have G7 := Lib.hid (G6.out.later b7)
              have AX7 := Lib.hid (AX6.out.later b7 (Nat.le_refl _))
              have AY7 := Lib.hid (AY6.out.later b7 (Nat.le_refl _))
              clear b7 z0 z1 z2 z3 z4
              have z0 := X7.out.cell 0
              have z1 := X7.out.cell 1
              have z2 := X7.out.cell 2
              have z3 := X7.out.cell 3
              have z4 := X7.out.cell 4
              have f0 := X7.out.frozen 0
              have f1 := X7.out.frozen 1
              have f2 := X7.out.frozen 2
              have f3 := X7.out.frozen 3
              have f4 := X7.out.frozen 4
              simp only [List.getElem?_toArray, List.getElem?_cons_zero, List.getElem?_cons_succ] at z0 z1 z2 z3 z4
              have gx : w7.grownBy (((((w7.setCell ⟨px, 0, none⟩ (.slice A0 l0.length c0)).setCell ⟨px, 1, none⟩ (.int .i64 N)).setCell ⟨px, 2, none⟩ (.int .i64 (T - wt))).setCell ⟨px, 3, none⟩ (.slice Ax inn.length cx)).setCell ⟨px, 4, none⟩ (.slice Ay gone.length cy)) (some px) := grown_set (grown_set (grown_set (grown_set (grown_set (grown_refl _ _) 0 _) 1 _) 2 _) 3 _) 4 _
              obtain ⟨hx9, hb9⟩ := five (w := w) (v0 := .slice A0 l0.length c0) (v1 := .int .i64 N) (v2 := .int .i64 (T - wt)) (v3 := .slice Ax inn.length cx) (v4 := .slice Ay gone.length cy) X7.out B7.out R5.out.ps
              have R9 := Lib.hid (QX.mk (w := w) (G7.out.other gx R5.out.qp R5.out.fw R5.out.fi R5.out.fg) hx9 (AX7.out.grown gx (.inr R5.out.xp)) (AY7.out.grown gx (.inr R5.out.yp)) hb9 R5.out.qs R5.out.ps R5.out.qp R5.out.fw R5.out.fi R5.out.fg R5.out.xq R5.out.xp R5.out.yq R5.out.yp R5.out.ap hwb2)
              clear gx hx9 hb9
              go_wp2_with fail
              go_meet
              exact ⟨_, _, _, _, _, _, _, _, _, _, _, R9.out⟩
        case rest =>
          obtain ⟨inn, gone, went, Ai, ci, Ag, cg, Ax, cx, Ay, cy, hqx⟩ := hcut
          have QQ := Lib.hid hqx
          clear hqx R5 HPA HPX
          obtain ⟨s, hs⟩ : ∃ s, qst l0.length inn.length gone.length N T went = s := ⟨_, rfl⟩
          have hrs : rst l0.length inn.length gone.length N (T - went) = s := (qst_rst (need := N) QQ.out.ap.count QQ.out.wb.2.1 hNl).symm.trans hs
          have HRS := Lib.hid hrs
          have HQS := Lib.hid hs
          clear hs hrs
          obtain ⟨LL, hLL⟩ : ∃ LL, SetM.elems (SetM.op 2 (SetM.bitsOf l0) (SetM.bitsOf inn)) = LL := ⟨_, rfl⟩
          have HLL := Lib.hid hLL
          have hL64 : LL.length ≤ 100 := by rw [← hLL]; exact Nat.le_trans (SetM.elemsTo_length _ 64) (by decide)
          clear hLL
          go_upto_region 26 with fail
          go_cut [166] from 84 to 166 (fun cv wx => cv = .bool false ∧ Below wc.heap.size wc wx)
          case first =>
            go_wp2_with fail
            refine wp_region_below [is ?c0, is (.int .i64 s), is ?c2, is (.int .i64 s), is ?c4, is ?c5, is ?c6, SlR inn inn.length, is ?c8, is ?c9, is (.bool true), is ?c11, is ?c12, is ?c13, is ?c14, SlR LL LL.length, is ?c16, is ?c17, is ?c18, SlR LL LL.length, is (.bool true), is ?c21, is ?c22]
              [⟨[], [8], none⟩, ⟨[(144, 0)], [], none⟩, ⟨[], [10], none⟩, ⟨[(146, 2)], [], none⟩, ⟨[(145, 1), (147, 3)], [], none⟩, ⟨[(148, 4)], [], none⟩, ⟨[(149, 5)], [8], some (149, false)⟩, ⟨[(150, 6), (149, 5)], [], some (149, false)⟩, ⟨[(149, 5)], [10], some (149, false)⟩, ⟨[(152, 8), (149, 5)], [], some (149, false)⟩, ⟨[(151, 7), (153, 9), (149, 5)], [], some (149, false)⟩, ⟨[(154, 10), (149, 5)], [], some (149, false)⟩, ⟨[(149, 5), (155, 11)], [], none⟩, ⟨[(156, 12)], [], none⟩, ⟨[(157, 13)], [8], some (157, false)⟩, ⟨[(158, 14), (157, 13)], [], some (157, false)⟩, ⟨[(157, 13)], [0], some (157, false)⟩, ⟨[(157, 13)], [10], some (157, false)⟩, ⟨[(161, 17), (157, 13)], [], some (157, false)⟩, ⟨[(160, 16), (162, 18), (157, 13)], [], some (157, false)⟩, ⟨[(159, 15), (163, 19), (157, 13)], [], some (157, false)⟩, ⟨[(164, 20), (157, 13)], [], some (157, false)⟩, ⟨[(157, 13), (165, 21)], [], none⟩] (by kernel_rfl) (by kernel_rfl) (by kernel_rfl) (by kernel_rfl) (by kernel_rfl) ?monoc ?stepsc ?finc
            case monoc => exact ⟨mono_eq _, mono_eq _, mono_eq _, mono_eq _, mono_eq _, mono_eq _, mono_eq _, mono_sl _ _, mono_eq _, mono_eq _, mono_eq _, mono_eq _, mono_eq _, mono_eq _, mono_eq _, mono_sl _ _, mono_eq _, mono_eq _, mono_eq _, mono_sl _ _, mono_eq _, mono_eq _, mono_eq _, trivial⟩
            case stepsc =>
              refine ⟨fun ρ W ⟨hcst, hglb, hfun⟩ hX hp ho => ?_, ?_⟩ -- 0: slot 144 := Op.move t8
              · obtain ⟨o8, -⟩ := ho
                change ρ (.tmp 8) = _ at o8
                refine turn_plain (ok_is ?_ rfl)
                simp only [execOp, o8]; go_simp; try exact rfl
              refine ⟨fun ρ W ⟨hcst, hglb, hfun⟩ hX hp ho => ?_, ?_⟩ -- 1: slot 145 := Op.call { value (Operand.func 9), args := #[t144], argTypes := #[25] }
              · obtain ⟨p144, -⟩ := hp
                change ρ (.tmp 144) = _ at p144
                have hW := (Below.refl _ _).drew.trans hX
                refine turn_plain ?_
                have ce := @enter_of Tryd.prog 9 _ Tryd.func9 (by kernel_rfl) (by kernel_rfl)
                refine ok_call (op_call1 hfun ce (by exact rfl) p144) ?_
                refine (qstate_any (QQ.out.later hW).qu s HQS.out).mono ?_
                rintro e W' ⟨rfl, m, rfl⟩
                exact ⟨_, rfl, below_drewN _ _ _, rfl⟩
              refine ⟨fun ρ W ⟨hcst, hglb, hfun⟩ hX hp ho => ?_, ?_⟩ -- 2: slot 146 := Op.load 37 t10
              · obtain ⟨o10, -⟩ := ho
                change ρ (.tmp 10) = _ at o10
                have y0 := (hX.cell (p := ⟨px, 0, none⟩) QQ.out.x.lt).trans (QQ.out.x.cell 0)
                have y1 := (hX.cell (p := ⟨px, 1, none⟩) QQ.out.x.lt).trans (QQ.out.x.cell 1)
                have y2 := (hX.cell (p := ⟨px, 2, none⟩) QQ.out.x.lt).trans (QQ.out.x.cell 2)
                have y3 := (hX.cell (p := ⟨px, 3, none⟩) QQ.out.x.lt).trans (QQ.out.x.cell 3)
                have y4 := (hX.cell (p := ⟨px, 4, none⟩) QQ.out.x.lt).trans (QQ.out.x.cell 4)
                simp only [List.getElem?_toArray, List.getElem?_cons_zero, List.getElem?_cons_succ] at y0 y1 y2 y3 y4
                refine turn_plain (ok_is ?_ rfl)
                simp only [execOp, o10]; go_simp; try exact rfl
              refine ⟨fun ρ W ⟨hcst, hglb, hfun⟩ hX hp ho => ?_, ?_⟩ -- 3: slot 147 := Op.call { value (Operand.func 17), args := #[t146], argTypes := #[37] }
              · obtain ⟨p146, -⟩ := hp
                change ρ (.tmp 146) = _ at p146
                have hW := (Below.refl _ _).drew.trans hX
                refine turn_plain ?_
                have ce := @enter_of Tryd.prog 17 _ Tryd.func17 (by kernel_rfl) (by kernel_rfl)
                refine ok_call (op_call1 hfun ce (by exact rfl) p146) ?_
                refine (rstate_any (w := W) s HRS.out (by omega) QQ.out.qu.leni QQ.out.qu.leng).mono ?_
                rintro e W' ⟨rfl, bel⟩
                exact ⟨_, rfl, bel, rfl⟩
              refine ⟨fun ρ W ⟨hcst, hglb, hfun⟩ hX hp ho => ?_, ?_⟩ -- 4: slot 148 := Op.binOp BinOp.neq 3 t145 t147 3
              · obtain ⟨p145, p147, -⟩ := hp
                change ρ (.tmp 145) = _ at p145
                change ρ (.tmp 147) = _ at p147
                refine turn_plain (ok_is ?_ rfl)
                simp only [execOp, p145, p147]; go_simp; try exact rfl
              refine ⟨fun ρ W ⟨hcst, hglb, hfun⟩ hX hp ho => ?_, ?_⟩ -- 5: slot 149 := Op.move t148
              · obtain ⟨p148, -⟩ := hp
                change ρ (.tmp 148) = _ at p148
                refine turn_plain (ok_is ?_ rfl)
                simp only [execOp, p148]; go_simp; try exact rfl
              refine ⟨fun ρ W ⟨hcst, hglb, hfun⟩ hX hp ho => ?_, ?_⟩ -- 6: slot 150 := Op.move t8   [guarded: some (5, false)]
              · obtain ⟨p149, -⟩ := hp
                change ρ (.tmp 149) = _ at p149
                obtain ⟨o8, -⟩ := ho
                change ρ (.tmp 8) = _ at o8
                refine turn_yes p149 (ok_is ?_ rfl)
                simp only [execOp, o8]; go_simp; try exact rfl
              refine ⟨fun ρ W ⟨hcst, hglb, hfun⟩ hX hp ho => ?_, ?_⟩ -- 7: slot 151 := Op.call { value (Operand.func 10), args := #[t150], argTypes := #[25] }   [guarded: some (
              · obtain ⟨p150, p149, -⟩ := hp
                change ρ (.tmp 150) = _ at p150
                change ρ (.tmp 149) = _ at p149
                have hW := (Below.refl _ _).drew.trans hX
                refine turn_yes p149 ?_
                have ce := @enter_of Tryd.prog 10 _ Tryd.func10 (by kernel_rfl) (by kernel_rfl)
                refine ok_call (op_call1 hfun ce (by exact rfl) p150) ?_
                refine (qin_any (QQ.out.later hW).qu).mono ?_
                rintro e W' ⟨A_, c_, rfl, hat, bel⟩
                exact ⟨_, rfl, bel, ⟨A_, c_, rfl, hat⟩⟩
              refine ⟨fun ρ W ⟨hcst, hglb, hfun⟩ hX hp ho => ?_, ?_⟩ -- 8: slot 152 := Op.fieldAddr 37 t10 3   [guarded: some (5, false)]
              · obtain ⟨p149, -⟩ := hp
                change ρ (.tmp 149) = _ at p149
                obtain ⟨o10, -⟩ := ho
                change ρ (.tmp 10) = _ at o10
                refine turn_yes p149 (ok_is ?_ rfl)
                simp only [execOp, o10]; go_simp; try exact rfl
              refine ⟨fun ρ W ⟨hcst, hglb, hfun⟩ hX hp ho => ?_, ?_⟩ -- 9: slot 153 := Op.load 22 t152   [guarded: some (5, false)]
              · obtain ⟨p152, p149, -⟩ := hp
                change ρ (.tmp 152) = _ at p152
                change ρ (.tmp 149) = _ at p149
                have y0 := (hX.cell (p := ⟨px, 0, none⟩) QQ.out.x.lt).trans (QQ.out.x.cell 0)
                have y1 := (hX.cell (p := ⟨px, 1, none⟩) QQ.out.x.lt).trans (QQ.out.x.cell 1)
                have y2 := (hX.cell (p := ⟨px, 2, none⟩) QQ.out.x.lt).trans (QQ.out.x.cell 2)
                have y3 := (hX.cell (p := ⟨px, 3, none⟩) QQ.out.x.lt).trans (QQ.out.x.cell 3)
                have y4 := (hX.cell (p := ⟨px, 4, none⟩) QQ.out.x.lt).trans (QQ.out.x.cell 4)
                simp only [List.getElem?_toArray, List.getElem?_cons_zero, List.getElem?_cons_succ] at y0 y1 y2 y3 y4
                refine turn_yes p149 (ok_is ?_ rfl)
                simp only [execOp, p152]; go_simp; try exact rfl
              refine ⟨fun ρ W ⟨hcst, hglb, hfun⟩ hX hp ho => ?_, ?_⟩ -- 10: slot 154 := Op.call { value (Operand.func 18), args := #[t151, t153], argTypes := #[22, 22] }   [guard
              · obtain ⟨p151, p153, p149, -⟩ := hp
                obtain ⟨A151, c151, p151, hat151⟩ := p151
                change ρ (.tmp 151) = _ at p151
                change ρ (.tmp 153) = _ at p153
                change ρ (.tmp 149) = _ at p149
                have hW := (Below.refl _ _).drew.trans hX
                refine turn_yes p149 ?_
                have ce := @enter_of Tryd.prog 18 _ Tryd.func18 (by kernel_rfl) (by kernel_rfl)
                refine ok_call (op_call2 hfun ce (by exact rfl) p151 p153) ?_
                refine (ints_is A151 inn.length c151 inn Ax inn.length cx inn _ true (decide_eq_true rfl) rfl QQ.out.qu.leni hat151 rfl QQ.out.qu.leni (QQ.out.later hW).ax).mono ?_
                rintro e W' ⟨rfl, m, rfl⟩
                exact ⟨_, rfl, below_drewN _ _ _, rfl⟩
              refine ⟨fun ρ W ⟨hcst, hglb, hfun⟩ hX hp ho => ?_, ?_⟩ -- 11: slot 155 := Op.unOp UnOp.not 4 t154   [guarded: some (5, false)]
              · obtain ⟨p154, p149, -⟩ := hp
                change ρ (.tmp 154) = _ at p154
                change ρ (.tmp 149) = _ at p149
                refine turn_yes p149 (ok_is ?_ rfl)
                simp only [execOp, p154]; go_simp; try exact rfl
              refine ⟨fun ρ W ⟨hcst, hglb, hfun⟩ hX hp ho => ?_, ?_⟩ -- 12: slot 156 := Op.pick t149 (const (Value.bool true)) t155
              · obtain ⟨p149, p155, -⟩ := hp
                change ρ (.tmp 149) = _ at p149
                change ρ (.tmp 155) = _ at p155
                refine turn_plain (ok_is ?_ rfl)
                simp only [execOp, hcst, p149, p155]; go_simp; try exact rfl
              refine ⟨fun ρ W ⟨hcst, hglb, hfun⟩ hX hp ho => ?_, ?_⟩ -- 13: slot 157 := Op.move t156
              · obtain ⟨p156, -⟩ := hp
                change ρ (.tmp 156) = _ at p156
                refine turn_plain (ok_is ?_ rfl)
                simp only [execOp, p156]; go_simp; try exact rfl
              refine ⟨fun ρ W ⟨hcst, hglb, hfun⟩ hX hp ho => ?_, ?_⟩ -- 14: slot 158 := Op.move t8   [guarded: some (13, false)]
              · obtain ⟨p157, -⟩ := hp
                change ρ (.tmp 157) = _ at p157
                obtain ⟨o8, -⟩ := ho
                change ρ (.tmp 8) = _ at o8
                refine turn_yes p157 (ok_is ?_ rfl)
                simp only [execOp, o8]; go_simp; try exact rfl
              refine ⟨fun ρ W ⟨hcst, hglb, hfun⟩ hX hp ho => ?_, ?_⟩ -- 15: slot 159 := Op.call { value (Operand.func 11), args := #[t158], argTypes := #[25] }   [guarded: some (
              · obtain ⟨p158, p157, -⟩ := hp
                change ρ (.tmp 158) = _ at p158
                change ρ (.tmp 157) = _ at p157
                have hW := (Below.refl _ _).drew.trans hX
                refine turn_yes p157 ?_
                have ce := @enter_of Tryd.prog 11 _ Tryd.func11 (by kernel_rfl) (by kernel_rfl)
                refine ok_call (op_call1 hfun ce (by exact rfl) p158) ?_
                refine (qlacks_any (QQ.out.later hW).qu LL HLL.out).mono ?_
                rintro e W' ⟨A_, c_, rfl, hat, bel⟩
                exact ⟨_, rfl, bel, ⟨A_, c_, rfl, hat⟩⟩
              refine ⟨fun ρ W ⟨hcst, hglb, hfun⟩ hX hp ho => ?_, ?_⟩ -- 16: slot 160 := Op.move t0   [guarded: some (13, false)]
              · obtain ⟨p157, -⟩ := hp
                change ρ (.tmp 157) = _ at p157
                obtain ⟨o0, -⟩ := ho
                change ρ (.tmp 0) = _ at o0
                refine turn_yes p157 (ok_is ?_ rfl)
                simp only [execOp, o0]; go_simp; try exact rfl
              refine ⟨fun ρ W ⟨hcst, hglb, hfun⟩ hX hp ho => ?_, ?_⟩ -- 17: slot 161 := Op.fieldAddr 37 t10 3   [guarded: some (13, false)]
              · obtain ⟨p157, -⟩ := hp
                change ρ (.tmp 157) = _ at p157
                obtain ⟨o10, -⟩ := ho
                change ρ (.tmp 10) = _ at o10
                refine turn_yes p157 (ok_is ?_ rfl)
                simp only [execOp, o10]; go_simp; try exact rfl
              refine ⟨fun ρ W ⟨hcst, hglb, hfun⟩ hX hp ho => ?_, ?_⟩ -- 18: slot 162 := Op.load 22 t161   [guarded: some (13, false)]
              · obtain ⟨p161, p157, -⟩ := hp
                change ρ (.tmp 161) = _ at p161
                change ρ (.tmp 157) = _ at p157
                have y0 := (hX.cell (p := ⟨px, 0, none⟩) QQ.out.x.lt).trans (QQ.out.x.cell 0)
                have y1 := (hX.cell (p := ⟨px, 1, none⟩) QQ.out.x.lt).trans (QQ.out.x.cell 1)
                have y2 := (hX.cell (p := ⟨px, 2, none⟩) QQ.out.x.lt).trans (QQ.out.x.cell 2)
                have y3 := (hX.cell (p := ⟨px, 3, none⟩) QQ.out.x.lt).trans (QQ.out.x.cell 3)
                have y4 := (hX.cell (p := ⟨px, 4, none⟩) QQ.out.x.lt).trans (QQ.out.x.cell 4)
                simp only [List.getElem?_toArray, List.getElem?_cons_zero, List.getElem?_cons_succ] at y0 y1 y2 y3 y4
                refine turn_yes p157 (ok_is ?_ rfl)
                simp only [execOp, p161]; go_simp; try exact rfl
              refine ⟨fun ρ W ⟨hcst, hglb, hfun⟩ hX hp ho => ?_, ?_⟩ -- 19: slot 163 := Op.call { value (Operand.func 19), args := #[t160, t162, const (2:i64)], argTypes := #[22,
              · obtain ⟨p160, p162, p157, -⟩ := hp
                change ρ (.tmp 160) = _ at p160
                change ρ (.tmp 162) = _ at p162
                change ρ (.tmp 157) = _ at p157
                have hW := (Below.refl _ _).drew.trans hX
                refine turn_yes p157 ?_
                have ce := @enter_of Tryd.prog 19 _ Tryd.func19 (by kernel_rfl) (by kernel_rfl)
                refine ok_call (op_call3 hfun ce (by exact rfl) p160 p162 (hcst _)) ?_
                refine (sl_is LL HLL.out (refSome2_any A0 l0.length c0 l0 Ax inn.length cx inn W rfl (by omega) (T0.out.later (QQ.out.later hW).bel (Nat.le_refl _)) rfl (by have := QQ.out.qu.leni; omega) (QQ.out.later hW).ax)).mono ?_
                rintro e W' ⟨A_, c_, rfl, hat, bel, _⟩
                exact ⟨_, rfl, bel, ⟨A_, c_, rfl, hat⟩⟩
              refine ⟨fun ρ W ⟨hcst, hglb, hfun⟩ hX hp ho => ?_, ?_⟩ -- 20: slot 164 := Op.call { value (Operand.func 18), args := #[t159, t163], argTypes := #[22, 22] }   [guard
              · obtain ⟨p159, p163, p157, -⟩ := hp
                obtain ⟨A159, c159, p159, hat159⟩ := p159
                change ρ (.tmp 159) = _ at p159
                obtain ⟨A163, c163, p163, hat163⟩ := p163
                change ρ (.tmp 163) = _ at p163
                change ρ (.tmp 157) = _ at p157
                have hW := (Below.refl _ _).drew.trans hX
                refine turn_yes p157 ?_
                have ce := @enter_of Tryd.prog 18 _ Tryd.func18 (by kernel_rfl) (by kernel_rfl)
                refine ok_call (op_call2 hfun ce (by exact rfl) p159 p163) ?_
                refine (ints_is A159 LL.length c159 LL A163 LL.length c163 LL _ true (decide_eq_true rfl) rfl hL64 hat159 rfl hL64 hat163).mono ?_
                rintro e W' ⟨rfl, m, rfl⟩
                exact ⟨_, rfl, below_drewN _ _ _, rfl⟩
              refine ⟨fun ρ W ⟨hcst, hglb, hfun⟩ hX hp ho => ?_, ?_⟩ -- 21: slot 165 := Op.unOp UnOp.not 4 t164   [guarded: some (13, false)]
              · obtain ⟨p164, p157, -⟩ := hp
                change ρ (.tmp 164) = _ at p164
                change ρ (.tmp 157) = _ at p157
                refine turn_yes p157 (ok_is ?_ rfl)
                simp only [execOp, p164]; go_simp; try exact rfl
              refine ⟨fun ρ W ⟨hcst, hglb, hfun⟩ hX hp ho => ?_, ?_⟩ -- 22: slot 166 := Op.pick t157 (const (Value.bool true)) t165
              · obtain ⟨p157, p165, -⟩ := hp
                change ρ (.tmp 157) = _ at p157
                change ρ (.tmp 165) = _ at p165
                refine turn_plain (ok_is ?_ rfl)
                simp only [execOp, hcst, p157, p165]; go_simp; try exact rfl
              exact trivial
            case finc =>
              rintro v W hX ⟨f0, f1, f2, f3, f4, f5, f6, f7, f8, f9, f10, f11, f12, f13, f14, f15, f16, f17, f18, f19, f20, f21, f22, -⟩
              obtain ⟨A_7, c_7, f7, hat_7⟩ := f7
              obtain ⟨A_15, c_15, f15, hat_15⟩ := f15
              obtain ⟨A_19, c_19, f19, hat_19⟩ := f19
              simp only [is] at f0 f1 f2 f3 f4 f5 f6 f8 f9 f10 f11 f12 f13 f14 f16 f17 f18 f20 f21 f22
              simp only [putAll, Act.put, List.setIfInBounds_toArray, List.set_cons_succ, List.set_cons_zero, f0, f1, f2, f3, f4, f5, f6, f7, f8, f9, f10, f11, f12, f13, f14, f15, f16, f17, f18, f19, f20, f21, f22]
              clear f0 f1 f2 f3 f4 f5 f6 f7 f8 f9 f10 f11 f12 f13 f14 f15 f16 f17 f18 f19 f20 f21 f22
              go_wp2_with fail
              go_meet
              exact ⟨rfl, hX⟩
          case rest =>
            obtain ⟨rfl, bel⟩ := hcut
            have R9 := Lib.hid (QQ.out.later bel)
            clear bel QQ
            go_wp2_with fail
            go_round
            case rel => exact ⟨k + 1, _, _, _, _, _, _, _, _, _, _, _, by omega, by omega, by go_num, R9.out⟩
            case measure => simp [intOf]; omega
      · obtain rfl : k = 200 := by omega
        have G3 := Lib.hid (HG.out.later RR.out.bel (Nat.le_refl _))
        go_wp2_with fail
        refine (sure23 _ G3.out).mono ?_
        rintro e w' ⟨rfl, bb⟩
        have BB := Lib.hid (RR.out.bel.trans (bb.mono RR.out.bel.size))
        clear bb
        go_wp2_with fail
        go_ret
        exact ⟨rfl, BB.out⟩
    · obtain rfl : k = n2 := by omega
      have G3 := Lib.hid (HG.out.later RR.out.bel (Nat.le_refl _))
      go_wp2_with fail
      refine (sure23 _ G3.out).mono ?_
      rintro e w' ⟨rfl, bb⟩
      have BB := Lib.hid (RR.out.bel.trans (bb.mono RR.out.bel.size))
      clear bb
      go_wp2_with fail
      go_ret
      exact ⟨rfl, BB.out⟩
end Go.Proofs.YtkpangeeldhjfaaDoor
