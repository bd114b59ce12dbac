/- Layer 17: the walk of SenderRuns. -/
import Derived.Test.YtbejknjlpnibaaaDoorSndT
import Derived.Test.YtbejknjlpnibaaaDoorRegion
import Derived.Test.YtbejknjlpnibaaaDoorRegionB
import Derived.Deep.CutRange
import Derived.Deep.CutBlock
namespace Go.Proofs.YtbejknjlpnibaaaDoor
open Go.RowKit
/-- what is done, of those that came in -/
def ActS (w : World) (A1 : Option Addr) (i : Nat) : Prop :=
  ∃ b o A2 c2 K e q, ∃ d : List Nat, A1 = some ⟨b, o, none⟩ ∧ w.cell? ⟨b, o + i * 4, none⟩ = some (.int .i64 K) ∧ w.cell? ⟨b, o + i * 4 + 1, none⟩ = some (.slice A2 d.length c2) ∧ w.cell? ⟨b, o + i * 4 + 2, none⟩ = some (.int .i64 e) ∧ w.cell? ⟨b, o + i * 4 + 3, none⟩ = some (.int .i64 q) ∧ At w A2 (nats .u8 d) ∧ (A2 = none → d.length = 0) ∧ b < w.heap.size
set_option maxRecDepth 100000 in
set_option maxHeartbeats 2000000 in
theorem sruns_bad (E : Int) (A1 : Option Addr) (n1 c1 : Nat) (w : World) (m1 : n1 ≤ 9223372036854775807) (a1 : ∀ i, i < n1 → ActS w A1 i) (hg : Glob w) (h : E < 1 ∨ 1073741824 < E) :
    Calls Tryd.prog 3 #[.int .i64 E, .slice A1 n1 c1] w fun e w' => e = .returned (.bool true) ∧ Below w.heap.size w w' := by
  have HG := Lib.hid hg
  have HC := Lib.hid a1
  clear hg a1
  go_enter Tryd.func3, Tryd.ntmps3
  go_wp2_with fail
  refine (tick_nil _).mono ?_
  rintro e w1 ⟨rfl, rfl⟩
  go_wp2_with fail
  refine (out_nil _).mono ?_
  rintro e w1 ⟨rfl, rfl⟩
  go_wp2_with fail
  refine (put_nil _ _).mono ?_
  rintro e w1 ⟨rfl, rfl⟩
  go_wp2_with fail
  refine (num17_err 1 _ HG.out).mono ?_
  rintro e u1 ⟨rfl, b1⟩
  have B1 := Lib.hid b1
  have G1 := Lib.hid (HG.out.later b1 (Nat.le_refl _))
  clear b1
  go_wp2_with fail
  refine (heard_nil _ _ _).mono ?_
  rintro e w1 ⟨rfl, rfl⟩
  go_wp2_with fail
  refine (reset_nil _).mono ?_
  rintro e w1 ⟨rfl, rfl⟩
  go_wp2_with fail
  refine (num17_err 1 _ G1.out).mono ?_
  rintro e u2 ⟨rfl, b2⟩
  have B2 := Lib.hid (B1.out.trans (b2.mono B1.out.size))
  have G2 := Lib.hid (G1.out.later b2 (Nat.le_refl _))
  clear b2 B1 G1
  go_wp2_with fail
  refine (epoch_nil _).mono ?_
  rintro e w1 ⟨rfl, rfl⟩
  go_wp2_with fail
  refine (seq_nil _).mono ?_
  rintro e w1 ⟨rfl, rfl⟩
  go_wp2_with fail
  refine (waits_nil _).mono ?_
  rintro e w1 ⟨rfl, rfl⟩
  go_wp2_with fail
  refine (new_bad E _ h).mono ?_
  rintro e w1 ⟨rfl, rfl⟩
  by_cases h1 : E < 1
  · as_aux_lemma =>
    have d1 : decide (E < 1) = true := decide_eq_true h1
    go_wp2_with fail
    refine (num17_err 1 _ G2.out).mono ?_
    rintro e u3 ⟨rfl, b3⟩
    have B3 := Lib.hid (B2.out.trans (b3.mono B2.out.size))
    clear b3
    go_wp2_with fail
    refine (sure17 _).mono ?_
    rintro e w' ⟨rfl, bb⟩
    have BB := Lib.hid (B3.out.trans (bb.mono B3.out.size))
    clear bb
    go_wp2_with fail
    go_ret
    exact ⟨rfl, BB.out⟩
  · as_aux_lemma =>
    have d1 : decide (E < 1) = false := decide_eq_false h1
    have d2 : decide (1073741824 < E) = true := decide_eq_true (by omega)
    go_wp2_with fail
    refine (num17_err 1 _ G2.out).mono ?_
    rintro e u3 ⟨rfl, b3⟩
    have B3 := Lib.hid (B2.out.trans (b3.mono B2.out.size))
    clear b3
    go_wp2_with fail
    refine (sure17 _).mono ?_
    rintro e w' ⟨rfl, bb⟩
    have BB := Lib.hid (B3.out.trans (bb.mono B3.out.size))
    clear bb
    go_wp2_with fail
    go_ret
    exact ⟨rfl, BB.out⟩
set_option maxRecDepth 100000 in
set_option maxHeartbeats 8000000 in
theorem sruns_in (E : Int) (A1 : Option Addr) (n1 c1 : Nat) (w : World) (m1 : n1 ≤ 9223372036854775807) (a1 : ∀ i, i < n1 → ActS w A1 i) (hg : Glob w) (h : 1 ≤ E ∧ E ≤ 1073741824) :
    Calls Tryd.prog 3 #[.int .i64 E, .slice A1 n1 c1] w fun e w' => e = .returned (.bool true) ∧ Below w.heap.size w w' := by
  have d1 : decide (E < 1) = false := decide_eq_false (by omega)
  have d2 : decide (1073741824 < E) = false := decide_eq_false (by omega)
  have HG := Lib.hid hg
  have HC := Lib.hid a1
  clear hg a1
  go_enter Tryd.func3, Tryd.ntmps3
  go_wp2_with fail
  refine (tick_nil _).mono ?_
  rintro e w1 ⟨rfl, rfl⟩
  go_wp2_with fail
  refine (out_nil _).mono ?_
  rintro e w1 ⟨rfl, rfl⟩
  go_wp2_with fail
  refine (put_nil _ _).mono ?_
  rintro e w1 ⟨rfl, rfl⟩
  go_wp2_with fail
  refine (num17_err 1 _ HG.out).mono ?_
  rintro e u1 ⟨rfl, b1⟩
  have B1 := Lib.hid b1
  have G1 := Lib.hid (HG.out.later b1 (Nat.le_refl _))
  clear b1
  go_wp2_with fail
  refine (heard_nil _ _ _).mono ?_
  rintro e w1 ⟨rfl, rfl⟩
  go_wp2_with fail
  refine (reset_nil _).mono ?_
  rintro e w1 ⟨rfl, rfl⟩
  go_wp2_with fail
  refine (num17_err 1 _ G1.out).mono ?_
  rintro e u2 ⟨rfl, b2⟩
  have B2 := Lib.hid (B1.out.trans (b2.mono B1.out.size))
  have G2 := Lib.hid (G1.out.later b2 (Nat.le_refl _))
  clear b2 B1 G1
  go_wp2_with fail
  refine (epoch_nil _).mono ?_
  rintro e w1 ⟨rfl, rfl⟩
  go_wp2_with fail
  refine (seq_nil _).mono ?_
  rintro e w1 ⟨rfl, rfl⟩
  go_wp2_with fail
  refine (waits_nil _).mono ?_
  rintro e w1 ⟨rfl, rfl⟩
  go_wp2_with fail
  refine (new_any E _ h).mono ?_
  rintro e w3 ⟨rfl, rfl⟩
  go_wp2_with fail
  have RA := Lib.hid (show SX w ((u2.alloc (.cells (sndOf E 1 none 0 0 0 0) 52)).alloc (.cells #[.int .i64 E, .int .i64 1, .slice none 0 0, .int .i64 0, .int .i64 0] 39)) u2.heap.size (u2.heap.size + 1) E 1 ((0 : Nat) : Int) ((0 : Nat) : Int) [] none 0 0 [] E 1 ((0 : Nat) : Int) ((0 : Nat) : Int) [] none 0 0 [] from
    ⟨(new_snd E u2 w.heap.size B2.out.size).below ((Below.refl _ _).alloc (Nat.le_refl _) _) (Nat.le_refl _), Holds.new _ _ _ _ (by simp), At.nil _ _, rfl, rfl, fun i u b h1 => by simp at h1, (B2.out.alloc B2.out.size _).alloc (by have := B2.out.size; simp; omega) _, by simp, by have := B2.out.size; simp; omega, by simp [blk], by simp [blk], by simp [blk], .inl rfl, by simp [blk], Nat.le_refl _⟩)
  generalize (u2.alloc (.cells (sndOf E 1 none 0 0 0 0) 52)).alloc (.cells #[.int .i64 E, .int .i64 1, .slice none 0 0, .int .i64 0, .int .i64 0] 39) = w4 at RA ⊢
  generalize u2.heap.size + 1 = px at RA ⊢
  generalize u2.heap.size = g at RA ⊢
  clear B2 G2
  go_loopw [12] (fun i wr => ∃ (k : Nat), k ≤ n1 ∧ k ≤ 100 ∧ i = .int .i64 (k : Int) ∧ ∃ (E S : Int) (st lf : Nat) (l : List (List Nat)) (A : Option Addr) (n c : Nat) (vs : List Value) (Ar : Option Addr) (cr : Nat) (us : List Value), (1 ≤ E ∧ E ≤ 1073741824 ∧ 1 ≤ S ∧ S ≤ (k : Int) + 1 ∧ st ≤ 3 ∧ lf ≤ 24 ∧ n ≤ 64) ∧ SX w wr g px E S (st : Nat) (lf : Nat) l A n c vs E S (st : Nat) (lf : Nat) l Ar n cr us) (fun i _ => n1 - (intOf i).toNat)
  case atStart => exact ⟨0, by omega, by omega, rfl, E, 1, 0, 0, [], none, 0, 0, [], none, 0, [], ⟨h.1, h.2, by omega, by omega, by omega, by omega, by omega⟩, RA.out⟩
  case round =>
    clear h d1 d2 RA
    obtain ⟨k, hk1, hk2, rfl, E, S, st, lf, l, A, n, c, vs, Ar, cr, us, hbd, hr⟩ := hrel
    have RR := Lib.hid hr
    have BD := Lib.hid hbd
    clear hr hbd
    by_cases hlt : k < n1
    · by_cases h100 : k < 100
      · obtain ⟨b, o, A2, c2, K, ea, qa, d, rfl, q0, q1, q2, q3, had, haz, hb⟩ := HC.out k hlt
        have r0 := (RR.out.bel.cell (p := ⟨b, o + k * 4, none⟩) hb).trans q0
        have r1 := (RR.out.bel.cell (p := ⟨b, o + k * 4 + 1, none⟩) hb).trans q1
        have r2 := (RR.out.bel.cell (p := ⟨b, o + k * 4 + 2, none⟩) hb).trans q2
        have r3 := (RR.out.bel.cell (p := ⟨b, o + k * 4 + 3, none⟩) hb).trans q3
        have k0 : (0 : Int) ≤ (k : Int) := by omega
        have HAD := Lib.hid had
        have HAZ := Lib.hid haz
        clear q0 q1 q2 q3 had haz
        have HPA := Lib.hid (Holds.new wr 41 #[.int .i64 K, .slice A2 d.length c2, .int .i64 ea, .int .i64 qa] wr.heap.size rfl)
        have R5 := Lib.hid (RR.out.later ((Below.refl _ _).alloc (Nat.le_refl _) (.cells #[.int .i64 K, .slice A2 d.length c2, .int .i64 ea, .int .i64 qa] 41)))
        have HPX := Lib.hid (show wr.heap.size ≠ px ∧ wr.heap.size ≠ g ∧ blk A ≠ some wr.heap.size ∧ blk Ar ≠ some wr.heap.size from ⟨Nat.ne_of_gt RR.out.x.lt, Nat.ne_of_gt RR.out.snd.blk_.lt, fun e => by have := (RR.out.snd.own.lt _ e).2; omega, fun e => by have := RR.out.rlt _ e; omega⟩)
        go_upto_region 16 with fail
        clear r0 r1 r2 r3 RR
        generalize (wr.alloc (.cells #[.int .i64 K, .slice A2 d.length c2, .int .i64 ea, .int .i64 qa] 41)) = w5 at R5 HPA ⊢
        generalize wr.heap.size = pa at HPA HPX ⊢
        have pa0 : w5.cell? ⟨pa, 0, none⟩ = some (.int .i64 K) := HPA.out.cell 0
        have pa1 : w5.cell? ⟨pa, 1, none⟩ = some (.slice A2 d.length c2) := HPA.out.cell 1
        have pa2 : w5.cell? ⟨pa, 2, none⟩ = some (.int .i64 ea) := HPA.out.cell 2
        have pa3 : w5.cell? ⟨pa, 3, none⟩ = some (.int .i64 qa) := HPA.out.cell 3
        by_cases hs : 300 < d.length ∧ d.length ≤ 8192
        · as_aux_lemma =>
          have d1 : decide (300 < (d.length : Int)) = true := decide_eq_true (by omega)
          have d2 : decide ((d.length : Int) ≤ 8192) = true := decide_eq_true (by omega)
          go_wp2_with fail
          go_round
          case rel => exact ⟨k + 1, by omega, by omega, by go_num, E, S, st, lf, l, A, n, c, vs, Ar, cr, us, by have := BD.out; omega, R5.out⟩
          case measure => simp [intOf]; omega
        · go_cut [122] from 113 to 122 (fun cv wx => cv = .bool false ∧ w5 = wx)
          case first =>
            by_cases hs1 : 300 < d.length
            · as_aux_lemma =>
              have d1 : decide (300 < (d.length : Int)) = true := decide_eq_true (by omega)
              have d2 : decide ((d.length : Int) ≤ 8192) = false := decide_eq_false (by omega)
              go_wp2_with fail
              go_meet
              exact ⟨rfl, rfl⟩
            · as_aux_lemma =>
              have d1 : decide (300 < (d.length : Int)) = false := decide_eq_false (by omega)
              go_wp2_with fail
              go_meet
              exact ⟨rfl, rfl⟩
          case rest =>
            obtain ⟨rfl, rfl⟩ := hcut
            go_upto_block 2 with fail
            go_cut [14, 15, 16, 17, 18, 19, 20, 21, 22, 23, 24, 25, 26, 27, 28, 29] from 99 to 232 (fun _ _ _ _ _ _ _ _ _ _ _ _ _ _ _ _ wx => ∃ (E S : Int) (st lf : Nat) (l : List (List Nat)) (A : Option Addr) (n c : Nat) (vs : List Value) (Ar : Option Addr) (cr : Nat) (us : List Value), (1 ≤ E ∧ E ≤ 1073741824 ∧ 1 ≤ S ∧ S ≤ (k : Int) + 2 ∧ st ≤ 3 ∧ lf ≤ 24 ∧ n ≤ 64) ∧ SX w wx g px E S (st : Nat) (lf : Nat) l A n c vs E S (st : Nat) (lf : Nat) l Ar n cr us)
            case first =>
              by_cases K0 : K = 0
              · subst K0
                by_cases hl : 8192 < d.length
                · as_aux_lemma =>
                  go_wp2_with fail
                  refine (put_long _ A2 d.length c2 hl).mono ?_
                  rintro e w6 ⟨rfl, rfl⟩
                  have z0 := R5.out.x.cell 0
                  have z1 := R5.out.x.cell 1
                  have z2 := R5.out.x.cell 2
                  have z3 := R5.out.x.cell 3
                  have z4 := R5.out.x.cell 4
                  simp only [List.getElem?_toArray, List.getElem?_cons_zero, List.getElem?_cons_succ] at z0 z1 z2 z3 z4
                  have pa1 : w5.cell? ⟨pa, 1, none⟩ = some (.slice A2 d.length c2) := HPA.out.cell 1
                  go_wp2_with fail
                  refine (rput_long A2 d.length c2 hl).mono ?_
                  rintro e w7 ⟨rfl, b7⟩
                  have R7 := Lib.hid (R5.out.later b7)
                  clear b7 z0 z1 z2 z3 z4
                  go_upto_region 23 with fail
                  have HY := Lib.hid (Holds.new w7 39 #[.int .i64 E, .int .i64 S, .slice Ar n cr, .int .i64 (st : Nat), .int .i64 (lf : Nat)] w7.heap.size rfl)
                  have BL := Lib.hid ((Below.refl w7.heap.size w7).alloc (Nat.le_refl _) (.cells #[.int .i64 E, .int .i64 S, .slice Ar n cr, .int .i64 (st : Nat), .int .i64 (lf : Nat)] 39))
                  have R8 := Lib.hid (R7.out.later BL.out)
                  generalize (w7.alloc (.cells #[.int .i64 E, .int .i64 S, .slice Ar n cr, .int .i64 (st : Nat), .int .i64 (lf : Nat)] 39)) = w8 at *
                  generalize w7.heap.size = py at HY ⊢
                  have y0 := HY.out.cell 0
                  have y1 := HY.out.cell 1
                  have y2 := HY.out.cell 2
                  have y3 := HY.out.cell 3
                  have y4 := HY.out.cell 4
                  simp only [List.getElem?_toArray, List.getElem?_cons_zero, List.getElem?_cons_succ] at y0 y1 y2 y3 y4
                  have z0 := R8.out.x.cell 0
                  have z1 := R8.out.x.cell 1
                  have z2 := R8.out.x.cell 2
                  have z3 := R8.out.x.cell 3
                  have z4 := R8.out.x.cell 4
                  simp only [List.getElem?_toArray, List.getElem?_cons_zero, List.getElem?_cons_succ] at z0 z1 z2 z3 z4
                  have f0 := R8.out.x.frozen 0
                  have f1 := R8.out.x.frozen 1
                  have f2 := R8.out.x.frozen 2
                  have f3 := R8.out.x.frozen 3
                  have f4 := R8.out.x.frozen 4
                  clear BL R7 HY
                  obtain ⟨W, hW⟩ : ∃ W, (((((w8.setCell ⟨px, 0, none⟩ (.int .i64 E)).setCell ⟨px, 1, none⟩ (.int .i64 S)).setCell ⟨px, 2, none⟩ (.slice Ar n cr)).setCell ⟨px, 3, none⟩ (.int .i64 (st : Nat))).setCell ⟨px, 4, none⟩ (.int .i64 (lf : Nat))) = W := ⟨_, rfl⟩
                  have RW := Lib.hid (R8.out.store R8.out.at_ R8.out.ul R8.out.ll R8.out.each R8.out.rg R8.out.rp R8.out.rA R8.out.rlt R8.out.cap hW)
                  go_upto_region 24 with fail
                  try rw [hW]
                  clear hW y0 y1 y2 y3 y4 z0 z1 z2 z3 z4 f0 f1 f2 f3 f4
                  have GW := Lib.hid (HG.out.later RW.out.bel (Nat.le_refl _))
                  go_wp2_with fail
                  refine (num17_err 5 _ GW.out).mono ?_
                  rintro e w9 ⟨rfl, b9⟩
                  have R9 := Lib.hid (RW.out.later b9)
                  clear b9 GW
                  go_wp2_with fail
                  go_meet
                  exact ⟨E, S, st, lf, l, A, n, c, vs, Ar, cr, us, (by have := BD.out; omega), R9.out⟩
                · by_cases hf : 64 ≤ n
                  · as_aux_lemma =>
                    go_wp2_with fail
                    refine (put_full _ R5.out.snd hf A2 d.length c2 (by omega)).mono ?_
                    rintro e w6 ⟨rfl, j6, rfl⟩
                    have bd : Below w5.heap.size w5 (w5.drewN j6) := below_drewN _ _ _
                    have R6 := Lib.hid (R5.out.later bd)
                    have PA6 := Lib.hid (HPA.out.later bd (Nat.le_refl _))
                    clear bd R5 HPA pa0 pa1 pa2 pa3
                    generalize w5.drewN j6 = w6 at *
                    have z0 := R6.out.x.cell 0
                    have z1 := R6.out.x.cell 1
                    have z2 := R6.out.x.cell 2
                    have z3 := R6.out.x.cell 3
                    have z4 := R6.out.x.cell 4
                    simp only [List.getElem?_toArray, List.getElem?_cons_zero, List.getElem?_cons_succ] at z0 z1 z2 z3 z4
                    have pa1 : w6.cell? ⟨pa, 1, none⟩ = some (.slice A2 d.length c2) := PA6.out.cell 1
                    go_wp2_with fail
                    refine (rput_full A2 d.length c2 (by omega) hf).mono ?_
                    rintro e w7 ⟨rfl, b7⟩
                    have R7 := Lib.hid (R6.out.later b7)
                    clear b7 z0 z1 z2 z3 z4
                    go_upto_region 23 with fail
                    have HY := Lib.hid (Holds.new w7 39 #[.int .i64 E, .int .i64 S, .slice Ar n cr, .int .i64 (st : Nat), .int .i64 (lf : Nat)] w7.heap.size rfl)
                    have BL := Lib.hid ((Below.refl w7.heap.size w7).alloc (Nat.le_refl _) (.cells #[.int .i64 E, .int .i64 S, .slice Ar n cr, .int .i64 (st : Nat), .int .i64 (lf : Nat)] 39))
                    have R8 := Lib.hid (R7.out.later BL.out)
                    generalize (w7.alloc (.cells #[.int .i64 E, .int .i64 S, .slice Ar n cr, .int .i64 (st : Nat), .int .i64 (lf : Nat)] 39)) = w8 at *
                    generalize w7.heap.size = py at HY ⊢
                    have y0 := HY.out.cell 0
                    have y1 := HY.out.cell 1
                    have y2 := HY.out.cell 2
                    have y3 := HY.out.cell 3
                    have y4 := HY.out.cell 4
                    simp only [List.getElem?_toArray, List.getElem?_cons_zero, List.getElem?_cons_succ] at y0 y1 y2 y3 y4
                    have z0 := R8.out.x.cell 0
                    have z1 := R8.out.x.cell 1
                    have z2 := R8.out.x.cell 2
                    have z3 := R8.out.x.cell 3
                    have z4 := R8.out.x.cell 4
                    simp only [List.getElem?_toArray, List.getElem?_cons_zero, List.getElem?_cons_succ] at z0 z1 z2 z3 z4
                    have f0 := R8.out.x.frozen 0
                    have f1 := R8.out.x.frozen 1
                    have f2 := R8.out.x.frozen 2
                    have f3 := R8.out.x.frozen 3
                    have f4 := R8.out.x.frozen 4
                    clear BL R7 HY
                    obtain ⟨W, hW⟩ : ∃ W, (((((w8.setCell ⟨px, 0, none⟩ (.int .i64 E)).setCell ⟨px, 1, none⟩ (.int .i64 S)).setCell ⟨px, 2, none⟩ (.slice Ar n cr)).setCell ⟨px, 3, none⟩ (.int .i64 (st : Nat))).setCell ⟨px, 4, none⟩ (.int .i64 (lf : Nat))) = W := ⟨_, rfl⟩
                    have RW := Lib.hid (R8.out.store R8.out.at_ R8.out.ul R8.out.ll R8.out.each R8.out.rg R8.out.rp R8.out.rA R8.out.rlt R8.out.cap hW)
                    go_upto_region 24 with fail
                    try rw [hW]
                    clear hW y0 y1 y2 y3 y4 z0 z1 z2 z3 z4 f0 f1 f2 f3 f4
                    have GW := Lib.hid (HG.out.later RW.out.bel (Nat.le_refl _))
                    go_wp2_with fail
                    refine (num17_err 14 _ GW.out).mono ?_
                    rintro e w9 ⟨rfl, b9⟩
                    have R9 := Lib.hid (RW.out.later b9)
                    clear b9 GW
                    go_wp2_with fail
                    go_meet
                    exact ⟨E, S, st, lf, l, A, n, c, vs, Ar, cr, us, (by have := BD.out; omega), R9.out⟩
                  · as_aux_lemma =>
                    go_wp2_with fail
                    refine (put_k _ R5.out.snd (by omega) (by have := BD.out; omega) R5.out.bel.size A2 c2 d (by omega) (HAD.out.later R5.out.bel (Nat.le_refl _)) HAZ.out).mono ?_
                    rintro e w6 ⟨rfl, hk⟩
                    have PA6 := Lib.hid (show Holds w6 pa 41 _ from by obtain ⟨_, _, _, _, _, h2, _⟩ := hk; exact HPA.out.kept h2 HPX.out.2.1 HPX.out.2.2.1)
                    obtain ⟨A6, n6, c6, vs6, hx⟩ := R5.out.prog hk
                    have R6 := Lib.hid hx
                    obtain rfl : n6 = n + 1 := by have h1 := R6.out.snd.len; have h2 := R5.out.ll; simp at h1; omega
                    clear hk hx HPA pa0 pa1 pa2 pa3
                    have O5 := Lib.hid R5.out.ll
                    clear R5
                    have z0 := R6.out.x.cell 0
                    have z1 := R6.out.x.cell 1
                    have z2 := R6.out.x.cell 2
                    have z3 := R6.out.x.cell 3
                    have z4 := R6.out.x.cell 4
                    simp only [List.getElem?_toArray, List.getElem?_cons_zero, List.getElem?_cons_succ] at z0 z1 z2 z3 z4
                    have pa1 : w6.cell? ⟨pa, 1, none⟩ = some (.slice A2 d.length c2) := PA6.out.cell 1
                    go_wp2_with fail
                    refine (rput_ok (S := S) A2 d.length c2 us (by omega) (by omega) (by have := BD.out; omega) (by have := BD.out; omega) R6.out.ul R6.out.one R6.out.at_).mono ?_
                    rintro e w7 ⟨A7, c7, rfl, hc7, hat7, hf7, b7⟩
                    have R7 := Lib.hid (R6.out.later b7)
                    have HC7 := Lib.hid hc7
                    have T7 := Lib.hid hat7
                    have F8 := Lib.hid (show blk A7 ≠ some g ∧ blk A7 ≠ some px ∧ (blk A7 = none ∨ blk A7 ≠ blk A6) from ⟨fun e => by have h1 := hf7 g e; have h2 := R6.out.snd.blk_.lt; omega, fun e => by have h1 := hf7 px e; have h2 := R6.out.x.lt; omega, by
                      cases e : blk A7 with
                      | none => exact .inl rfl
                      | some k7 => exact .inr fun e2 => by have h1 := hf7 k7 e; have h2 := (R6.out.snd.own.lt k7 e2.symm).2; omega⟩)
                    clear hc7 hat7 hf7 R6 PA6
                    clear b7 z0 z1 z2 z3 z4
                    go_upto_region 23 with fail
                    have HY := Lib.hid (Holds.new w7 39 #[.int .i64 E, .int .i64 S, .slice A7 (n + 1) c7, .int .i64 (st : Nat), .int .i64 (lf : Nat)] w7.heap.size rfl)
                    have BL := Lib.hid ((Below.refl w7.heap.size w7).alloc (Nat.le_refl _) (.cells #[.int .i64 E, .int .i64 S, .slice A7 (n + 1) c7, .int .i64 (st : Nat), .int .i64 (lf : Nat)] 39))
                    have R8 := Lib.hid (R7.out.later BL.out)
                    have T8 := Lib.hid (T7.out.later BL.out (Nat.le_refl _))
                    generalize (w7.alloc (.cells #[.int .i64 E, .int .i64 S, .slice A7 (n + 1) c7, .int .i64 (st : Nat), .int .i64 (lf : Nat)] 39)) = w8 at *
                    generalize w7.heap.size = py at HY ⊢
                    have y0 := HY.out.cell 0
                    have y1 := HY.out.cell 1
                    have y2 := HY.out.cell 2
                    have y3 := HY.out.cell 3
                    have y4 := HY.out.cell 4
                    simp only [List.getElem?_toArray, List.getElem?_cons_zero, List.getElem?_cons_succ] at y0 y1 y2 y3 y4
                    have z0 := R8.out.x.cell 0
                    have z1 := R8.out.x.cell 1
                    have z2 := R8.out.x.cell 2
                    have z3 := R8.out.x.cell 3
                    have z4 := R8.out.x.cell 4
                    simp only [List.getElem?_toArray, List.getElem?_cons_zero, List.getElem?_cons_succ] at z0 z1 z2 z3 z4
                    have f0 := R8.out.x.frozen 0
                    have f1 := R8.out.x.frozen 1
                    have f2 := R8.out.x.frozen 2
                    have f3 := R8.out.x.frozen 3
                    have f4 := R8.out.x.frozen 4
                    clear BL R7 HY
                    obtain ⟨W, hW⟩ : ∃ W, (((((w8.setCell ⟨px, 0, none⟩ (.int .i64 E)).setCell ⟨px, 1, none⟩ (.int .i64 S)).setCell ⟨px, 2, none⟩ (.slice A7 (n + 1) c7)).setCell ⟨px, 3, none⟩ (.int .i64 (st : Nat))).setCell ⟨px, 4, none⟩ (.int .i64 (lf : Nat))) = W := ⟨_, rfl⟩
                    have RW := Lib.hid (R8.out.store T8.out (by have := R8.out.ul; simp; omega) (by have := R8.out.ll; simp; omega) (each_snoc (by have h1 := R8.out.ul; have h2 := R8.out.ll; omega) R8.out.each HAD.out) F8.out.1 F8.out.2.1 F8.out.2.2 (T8.out.lt (by simp)) HC7.out hW)
                    go_upto_region 24 with fail
                    try rw [hW]
                    clear hW y0 y1 y2 y3 y4 z0 z1 z2 z3 z4 f0 f1 f2 f3 f4
                    have GW := Lib.hid (HG.out.later RW.out.bel (Nat.le_refl _))
                    go_wp2_with fail
                    refine (num17_nil _).mono ?_
                    rintro e w9 ⟨rfl, b9⟩
                    have R9 := Lib.hid (RW.out.later b9)
                    clear b9 GW
                    go_wp2_with fail
                    go_meet
                    exact ⟨E, S, st, lf, l ++ [d], A6, n + 1, c6, vs6, A7, c7, us ++ [.slice A2 d.length c2], (by have := BD.out; omega), R9.out⟩
              · have x0' : (K == 0) = false := by simpa using K0
                have X0 := Lib.hid K0
                clear K0
                by_cases K1 : K = 1
                · subst K1
                  by_cases h0 : n = 0
                  · as_aux_lemma =>
                    have H0 := Lib.hid h0
                    have hno := Lib.hid (show n = 0 ∨ 0 < (lf : Int) from .inl h0)
                    clear h0
                    go_wp2_with fail
                    refine (out_none _ R5.out.snd hno.out).mono ?_
                    rintro e w6 ⟨rfl, rfl⟩
                    have z0 := R5.out.x.cell 0
                    have z1 := R5.out.x.cell 1
                    have z2 := R5.out.x.cell 2
                    have z3 := R5.out.x.cell 3
                    have z4 := R5.out.x.cell 4
                    simp only [List.getElem?_toArray, List.getElem?_cons_zero, List.getElem?_cons_succ] at z0 z1 z2 z3 z4
                    go_wp2_with fail
                    refine (rout_no0 H0.out).mono ?_
                    rintro e w7 ⟨rfl, b7⟩
                    have R7 := Lib.hid (R5.out.later b7)
                    clear b7 z0 z1 z2 z3 z4
                    go_upto_region 29 with fail
                    have HY := Lib.hid (Holds.new w7 39 #[.int .i64 E, .int .i64 S, .slice Ar n cr, .int .i64 (st : Nat), .int .i64 (lf : Nat)] w7.heap.size rfl)
                    have BL := Lib.hid ((Below.refl w7.heap.size w7).alloc (Nat.le_refl _) (.cells #[.int .i64 E, .int .i64 S, .slice Ar n cr, .int .i64 (st : Nat), .int .i64 (lf : Nat)] 39))
                    have R8 := Lib.hid (R7.out.later BL.out)
                    generalize (w7.alloc (.cells #[.int .i64 E, .int .i64 S, .slice Ar n cr, .int .i64 (st : Nat), .int .i64 (lf : Nat)] 39)) = w8 at *
                    generalize w7.heap.size = py at HY ⊢
                    have y0 := HY.out.cell 0
                    have y1 := HY.out.cell 1
                    have y2 := HY.out.cell 2
                    have y3 := HY.out.cell 3
                    have y4 := HY.out.cell 4
                    simp only [List.getElem?_toArray, List.getElem?_cons_zero, List.getElem?_cons_succ] at y0 y1 y2 y3 y4
                    have z0 := R8.out.x.cell 0
                    have z1 := R8.out.x.cell 1
                    have z2 := R8.out.x.cell 2
                    have z3 := R8.out.x.cell 3
                    have z4 := R8.out.x.cell 4
                    simp only [List.getElem?_toArray, List.getElem?_cons_zero, List.getElem?_cons_succ] at z0 z1 z2 z3 z4
                    have f0 := R8.out.x.frozen 0
                    have f1 := R8.out.x.frozen 1
                    have f2 := R8.out.x.frozen 2
                    have f3 := R8.out.x.frozen 3
                    have f4 := R8.out.x.frozen 4
                    clear BL R7 HY
                    obtain ⟨W, hW⟩ : ∃ W, (((((w8.setCell ⟨px, 0, none⟩ (.int .i64 E)).setCell ⟨px, 1, none⟩ (.int .i64 S)).setCell ⟨px, 2, none⟩ (.slice Ar n cr)).setCell ⟨px, 3, none⟩ (.int .i64 (st : Nat))).setCell ⟨px, 4, none⟩ (.int .i64 (lf : Nat))) = W := ⟨_, rfl⟩
                    have RW := Lib.hid (R8.out.store R8.out.at_ R8.out.ul R8.out.ll R8.out.each R8.out.rg R8.out.rp R8.out.rA R8.out.rlt R8.out.cap hW)
                    go_upto_region 30 with fail
                    try rw [hW]
                    clear hW y0 y1 y2 y3 y4 z0 z1 z2 z3 z4 f0 f1 f2 f3 f4
                    have cv0 : ∀ w', (convert 24 9 (.slice none 0 0)).run Tryd.prog w' = .ok (.string (strN [])) w' := fun w' => run_str (e := 5) _ (by kernel_rfl) (by kernel_rfl) (by kernel_rfl) rfl (At.nil _ _)
                    go_wp2_with fail
                    go_meet
                    exact ⟨E, S, st, lf, l, A, n, c, vs, Ar, cr, us, (by have := BD.out; omega), RW.out⟩
                  · by_cases h1 : 0 < lf
                    · as_aux_lemma =>
                      have H0 := Lib.hid h0
                      have hno := Lib.hid (show n = 0 ∨ 0 < (lf : Int) from .inr (by omega))
                      clear h0
                      go_wp2_with fail
                      refine (out_none _ R5.out.snd hno.out).mono ?_
                      rintro e w6 ⟨rfl, rfl⟩
                      have z0 := R5.out.x.cell 0
                      have z1 := R5.out.x.cell 1
                      have z2 := R5.out.x.cell 2
                      have z3 := R5.out.x.cell 3
                      have z4 := R5.out.x.cell 4
                      simp only [List.getElem?_toArray, List.getElem?_cons_zero, List.getElem?_cons_succ] at z0 z1 z2 z3 z4
                      go_wp2_with fail
                      refine (rout_no1 (lf := (lf : Nat)) H0.out (by omega)).mono ?_
                      rintro e w7 ⟨rfl, b7⟩
                      have R7 := Lib.hid (R5.out.later b7)
                      clear b7 z0 z1 z2 z3 z4
                      go_upto_region 29 with fail
                      have HY := Lib.hid (Holds.new w7 39 #[.int .i64 E, .int .i64 S, .slice Ar n cr, .int .i64 (st : Nat), .int .i64 (lf : Nat)] w7.heap.size rfl)
                      have BL := Lib.hid ((Below.refl w7.heap.size w7).alloc (Nat.le_refl _) (.cells #[.int .i64 E, .int .i64 S, .slice Ar n cr, .int .i64 (st : Nat), .int .i64 (lf : Nat)] 39))
                      have R8 := Lib.hid (R7.out.later BL.out)
                      generalize (w7.alloc (.cells #[.int .i64 E, .int .i64 S, .slice Ar n cr, .int .i64 (st : Nat), .int .i64 (lf : Nat)] 39)) = w8 at *
                      generalize w7.heap.size = py at HY ⊢
                      have y0 := HY.out.cell 0
                      have y1 := HY.out.cell 1
                      have y2 := HY.out.cell 2
                      have y3 := HY.out.cell 3
                      have y4 := HY.out.cell 4
                      simp only [List.getElem?_toArray, List.getElem?_cons_zero, List.getElem?_cons_succ] at y0 y1 y2 y3 y4
                      have z0 := R8.out.x.cell 0
                      have z1 := R8.out.x.cell 1
                      have z2 := R8.out.x.cell 2
                      have z3 := R8.out.x.cell 3
                      have z4 := R8.out.x.cell 4
                      simp only [List.getElem?_toArray, List.getElem?_cons_zero, List.getElem?_cons_succ] at z0 z1 z2 z3 z4
                      have f0 := R8.out.x.frozen 0
                      have f1 := R8.out.x.frozen 1
                      have f2 := R8.out.x.frozen 2
                      have f3 := R8.out.x.frozen 3
                      have f4 := R8.out.x.frozen 4
                      clear BL R7 HY
                      obtain ⟨W, hW⟩ : ∃ W, (((((w8.setCell ⟨px, 0, none⟩ (.int .i64 E)).setCell ⟨px, 1, none⟩ (.int .i64 S)).setCell ⟨px, 2, none⟩ (.slice Ar n cr)).setCell ⟨px, 3, none⟩ (.int .i64 (st : Nat))).setCell ⟨px, 4, none⟩ (.int .i64 (lf : Nat))) = W := ⟨_, rfl⟩
                      have RW := Lib.hid (R8.out.store R8.out.at_ R8.out.ul R8.out.ll R8.out.each R8.out.rg R8.out.rp R8.out.rA R8.out.rlt R8.out.cap hW)
                      go_upto_region 30 with fail
                      try rw [hW]
                      clear hW y0 y1 y2 y3 y4 z0 z1 z2 z3 z4 f0 f1 f2 f3 f4
                      have cv0 : ∀ w', (convert 24 9 (.slice none 0 0)).run Tryd.prog w' = .ok (.string (strN [])) w' := fun w' => run_str (e := 5) _ (by kernel_rfl) (by kernel_rfl) (by kernel_rfl) rfl (At.nil _ _)
                      go_wp2_with fail
                      go_meet
                      exact ⟨E, S, st, lf, l, A, n, c, vs, Ar, cr, us, (by have := BD.out; omega), RW.out⟩
                    · as_aux_lemma =>
                      obtain rfl : lf = 0 := by omega
                      obtain ⟨b0, l0, rfl⟩ : ∃ b0 l0, l = b0 :: l0 := by
                        cases l with
                        | nil => have := R5.out.snd.len; simp at this; omega
                        | cons b0 l0 => exact ⟨b0, l0, rfl⟩
                      obtain ⟨u0, us0, rfl⟩ : ∃ u0 us0, us = u0 :: us0 := by
                        cases us with
                        | nil => have := R5.out.ul; simp at this; omega
                        | cons u0 us0 => exact ⟨u0, us0, rfl⟩
                      obtain ⟨A0, c0, rfl, hat0⟩ := R5.out.each 0 _ _ rfl rfl
                      obtain ⟨b3, o3, rfl, hc3⟩ := R5.out.at_ 0 _ rfl
                      have T0 := Lib.hid hat0
                      clear hat0 hc3
                      have hst : st ≤ 3 := BD.out.2.2.2.2.1
                      obtain ⟨s2, hs2⟩ : ∃ s2 : Nat, min (st + 1) 3 = s2 := ⟨_, rfl⟩
                      obtain ⟨l2, hl2⟩ : ∃ l2 : Nat, 3 * 2 ^ st = l2 := ⟨_, rfl⟩
                      have HS2 := Lib.hid hs2
                      have HL2 := Lib.hid hl2
                      clear hs2 hl2
                      go_wp2_with fail
                      refine (out_k _ st hst R5.out.snd R5.out.bel.size).mono ?_
                      rintro e w6 ⟨A4, c4, rfl, hat4, hf4, hk⟩
                      rw [HS2.out, HL2.out] at hk
                      obtain ⟨A6, n6, c6, vs6, hx⟩ := R5.out.prog hk
                      have R6 := Lib.hid hx
                      have T4 := Lib.hid hat4
                      obtain rfl : n = n6 := by have h1 := R6.out.snd.len; have h2 := R5.out.ll; simp at h1 h2; omega
                      have F4 := Lib.hid (show blk A4 = none ∨ blk A4 ≠ some px from .inr fun e => by have h1 := hf4 px e; have h2 := R5.out.x.lt; omega)
                      clear hk hx HPA pa0 pa1 pa2 pa3 hat4 hf4 R5
                      have hc6 : w6.cell? ⟨b3, o3, none⟩ = some (.slice A0 b0.length c0) := by
                        obtain ⟨b', o', e', hc'⟩ := R6.out.at_ 0 _ rfl
                        injection e' with e'; injection e' with a1 a2; subst a1; subst a2
                        exact hc'
                      have hb3 : b3 < w6.heap.size := R6.out.rlt b3 rfl
                      have z0 := R6.out.x.cell 0
                      have z1 := R6.out.x.cell 1
                      have z2 := R6.out.x.cell 2
                      have z3 := R6.out.x.cell 3
                      have z4 := R6.out.x.cell 4
                      simp only [List.getElem?_toArray, List.getElem?_cons_zero, List.getElem?_cons_succ] at z0 z1 z2 z3 z4
                      go_wp2_with fail
                      refine (rout_any2 _ st hst s2 l2 HS2.out HL2.out (by omega) hb3 hc6).mono ?_
                      rintro e w7 ⟨rfl, b7⟩
                      have R7 := Lib.hid (R6.out.later b7)
                      have T7 := Lib.hid (T4.out.later b7 (Nat.le_refl _))
                      clear hc6 hb3
                      clear b7 z0 z1 z2 z3 z4
                      go_upto_region 29 with fail
                      have HY := Lib.hid (Holds.new w7 39 #[.int .i64 E, .int .i64 S, .slice (some ⟨b3, o3, none⟩) n cr, .int .i64 (s2 : Nat), .int .i64 (l2 : Nat)] w7.heap.size rfl)
                      have BL := Lib.hid ((Below.refl w7.heap.size w7).alloc (Nat.le_refl _) (.cells #[.int .i64 E, .int .i64 S, .slice (some ⟨b3, o3, none⟩) n cr, .int .i64 (s2 : Nat), .int .i64 (l2 : Nat)] 39))
                      have R8 := Lib.hid (R7.out.later BL.out)
                      have T8 := Lib.hid (T7.out.later BL.out (Nat.le_refl _))
                      generalize (w7.alloc (.cells #[.int .i64 E, .int .i64 S, .slice (some ⟨b3, o3, none⟩) n cr, .int .i64 (s2 : Nat), .int .i64 (l2 : Nat)] 39)) = w8 at *
                      generalize w7.heap.size = py at HY ⊢
                      have y0 := HY.out.cell 0
                      have y1 := HY.out.cell 1
                      have y2 := HY.out.cell 2
                      have y3 := HY.out.cell 3
                      have y4 := HY.out.cell 4
                      simp only [List.getElem?_toArray, List.getElem?_cons_zero, List.getElem?_cons_succ] at y0 y1 y2 y3 y4
                      have z0 := R8.out.x.cell 0
                      have z1 := R8.out.x.cell 1
                      have z2 := R8.out.x.cell 2
                      have z3 := R8.out.x.cell 3
                      have z4 := R8.out.x.cell 4
                      simp only [List.getElem?_toArray, List.getElem?_cons_zero, List.getElem?_cons_succ] at z0 z1 z2 z3 z4
                      have f0 := R8.out.x.frozen 0
                      have f1 := R8.out.x.frozen 1
                      have f2 := R8.out.x.frozen 2
                      have f3 := R8.out.x.frozen 3
                      have f4 := R8.out.x.frozen 4
                      clear BL R7 HY
                      obtain ⟨W, hW⟩ : ∃ W, (((((w8.setCell ⟨px, 0, none⟩ (.int .i64 E)).setCell ⟨px, 1, none⟩ (.int .i64 S)).setCell ⟨px, 2, none⟩ (.slice (some ⟨b3, o3, none⟩) n cr)).setCell ⟨px, 3, none⟩ (.int .i64 (s2 : Nat))).setCell ⟨px, 4, none⟩ (.int .i64 (l2 : Nat))) = W := ⟨_, rfl⟩
                      have RW := Lib.hid (R8.out.store R8.out.at_ R8.out.ul R8.out.ll R8.out.each R8.out.rg R8.out.rp R8.out.rA R8.out.rlt R8.out.cap hW)
                      have T9 := Lib.hid (T8.out.grown (grown5 hW) F4.out)
                      go_upto_region 30 with fail
                      try rw [hW]
                      clear hW y0 y1 y2 y3 y4 z0 z1 z2 z3 z4 f0 f1 f2 f3 f4
                      have cv1 : (convert 24 9 (.slice A4 b0.length c4)).run Tryd.prog W = .ok (.string (strN b0)) W := run_str (e := 5) _ (by kernel_rfl) (by kernel_rfl) (by kernel_rfl) rfl T9.out
                      have cv2 : (convert 24 9 (.slice A0 b0.length c0)).run Tryd.prog W = .ok (.string (strN b0)) W := run_str (e := 5) _ (by kernel_rfl) (by kernel_rfl) (by kernel_rfl) rfl (T0.out.later RW.out.bel (Nat.le_refl _))
                      go_wp2_with fail
                      go_meet
                      exact ⟨E, S, s2, l2, b0 :: l0, A6, n, c6, vs6, (some ⟨b3, o3, none⟩), cr, (.slice A0 b0.length c0 :: us0), (by have := BD.out; have h23 := HS2.out; have h24 : l2 ≤ 24 := (by rw [← HL2.out]; have h4 : st = 0 ∨ st = 1 ∨ st = 2 ∨ st = 3 := (by omega); rcases h4 with rfl | rfl | rfl | rfl <;> decide); omega), RW.out⟩
                · have x1' : (K == 1) = false := by simpa using K1
                  have X1 := Lib.hid K1
                  clear K1
                  by_cases K3 : K = 3
                  · subst K3
                    by_cases he : ea = E
                    · by_cases hq : qa = S
                      · by_cases h0 : n = 0
                        · as_aux_lemma =>
                          replace he := Lib.hid he
                          replace hq := Lib.hid hq
                          replace h0 := Lib.hid h0
                          go_wp2_with fail
                          refine (heard_no _ ea qa R5.out.snd (.inr (.inr h0.out))).mono ?_
                          rintro e w6 ⟨rfl, rfl⟩
                          have z0 := R5.out.x.cell 0
                          have z1 := R5.out.x.cell 1
                          have z2 := R5.out.x.cell 2
                          have z3 := R5.out.x.cell 3
                          have z4 := R5.out.x.cell 4
                          simp only [List.getElem?_toArray, List.getElem?_cons_zero, List.getElem?_cons_succ] at z0 z1 z2 z3 z4
                          have pa2 : w5.cell? ⟨pa, 2, none⟩ = some (.int .i64 ea) := HPA.out.cell 2
                          have pa3 : w5.cell? ⟨pa, 3, none⟩ = some (.int .i64 qa) := HPA.out.cell 3
                          go_wp2_with fail
                          refine (rheard_no2 ea qa he.out hq.out h0.out).mono ?_
                          rintro e w7 ⟨rfl, b7⟩
                          have R7 := Lib.hid (R5.out.later b7)
                          clear b7 z0 z1 z2 z3 z4
                          go_upto_region 35 with fail
                          have HY := Lib.hid (Holds.new w7 39 #[.int .i64 E, .int .i64 S, .slice Ar n cr, .int .i64 (st : Nat), .int .i64 (lf : Nat)] w7.heap.size rfl)
                          have BL := Lib.hid ((Below.refl w7.heap.size w7).alloc (Nat.le_refl _) (.cells #[.int .i64 E, .int .i64 S, .slice Ar n cr, .int .i64 (st : Nat), .int .i64 (lf : Nat)] 39))
                          have R8 := Lib.hid (R7.out.later BL.out)
                          generalize (w7.alloc (.cells #[.int .i64 E, .int .i64 S, .slice Ar n cr, .int .i64 (st : Nat), .int .i64 (lf : Nat)] 39)) = w8 at *
                          generalize w7.heap.size = py at HY ⊢
                          have y0 := HY.out.cell 0
                          have y1 := HY.out.cell 1
                          have y2 := HY.out.cell 2
                          have y3 := HY.out.cell 3
                          have y4 := HY.out.cell 4
                          simp only [List.getElem?_toArray, List.getElem?_cons_zero, List.getElem?_cons_succ] at y0 y1 y2 y3 y4
                          have z0 := R8.out.x.cell 0
                          have z1 := R8.out.x.cell 1
                          have z2 := R8.out.x.cell 2
                          have z3 := R8.out.x.cell 3
                          have z4 := R8.out.x.cell 4
                          simp only [List.getElem?_toArray, List.getElem?_cons_zero, List.getElem?_cons_succ] at z0 z1 z2 z3 z4
                          have f0 := R8.out.x.frozen 0
                          have f1 := R8.out.x.frozen 1
                          have f2 := R8.out.x.frozen 2
                          have f3 := R8.out.x.frozen 3
                          have f4 := R8.out.x.frozen 4
                          clear BL R7 HY
                          obtain ⟨W, hW⟩ : ∃ W, (((((w8.setCell ⟨px, 0, none⟩ (.int .i64 E)).setCell ⟨px, 1, none⟩ (.int .i64 S)).setCell ⟨px, 2, none⟩ (.slice Ar n cr)).setCell ⟨px, 3, none⟩ (.int .i64 (st : Nat))).setCell ⟨px, 4, none⟩ (.int .i64 (lf : Nat))) = W := ⟨_, rfl⟩
                          have RW := Lib.hid (R8.out.store R8.out.at_ R8.out.ul R8.out.ll R8.out.each R8.out.rg R8.out.rp R8.out.rA R8.out.rlt R8.out.cap hW)
                          go_upto_region 36 with fail
                          try rw [hW]
                          clear hW y0 y1 y2 y3 y4 z0 z1 z2 z3 z4 f0 f1 f2 f3 f4
                          go_wp2_with fail
                          go_meet
                          exact ⟨E, S, st, lf, l, A, n, c, vs, Ar, cr, us, (by have := BD.out; omega), RW.out⟩
                        · as_aux_lemma =>
                          subst he
                          subst hq
                          obtain ⟨b0, l0, rfl⟩ : ∃ b0 l0, l = b0 :: l0 := by
                            cases l with
                            | nil => have := R5.out.snd.len; simp at this; omega
                            | cons b0 l0 => exact ⟨b0, l0, rfl⟩
                          obtain ⟨u0, us0, rfl⟩ : ∃ u0 us0, us = u0 :: us0 := by
                            cases us with
                            | nil => have := R5.out.ul; simp at this; omega
                            | cons u0 us0 => exact ⟨u0, us0, rfl⟩
                          obtain ⟨m, rfl⟩ : ∃ m, n = m + 1 := ⟨n - 1, by omega⟩
                          go_wp2_with fail
                          refine (heard_k _ R5.out.snd (by have := BD.out; omega) R5.out.bel.size).mono ?_
                          rintro e w6 ⟨rfl, hk⟩
                          have PA6 := Lib.hid (show Holds w6 pa 41 _ from by obtain ⟨_, _, _, _, _, h2, _⟩ := hk; exact HPA.out.kept h2 HPX.out.2.1 HPX.out.2.2.1)
                          obtain ⟨A6, n6, c6, vs6, hx⟩ := R5.out.prog hk
                          have R6 := Lib.hid hx
                          obtain rfl : m = n6 := by have h1 := R6.out.snd.len; have h2 := R5.out.ll; simp at h1 h2; omega
                          clear hk hx HPA pa0 pa1 pa2 pa3 R5
                          have z0 := R6.out.x.cell 0
                          have z1 := R6.out.x.cell 1
                          have z2 := R6.out.x.cell 2
                          have z3 := R6.out.x.cell 3
                          have z4 := R6.out.x.cell 4
                          simp only [List.getElem?_toArray, List.getElem?_cons_zero, List.getElem?_cons_succ] at z0 z1 z2 z3 z4
                          have pa2 : w6.cell? ⟨pa, 2, none⟩ = some (.int .i64 ea) := PA6.out.cell 2
                          have pa3 : w6.cell? ⟨pa, 3, none⟩ = some (.int .i64 qa) := PA6.out.cell 3
                          go_wp2_with fail
                          refine (rheard_any (S := qa) (by have := BD.out; omega) m R6.out.cap R6.out.ul R6.out.at_).mono ?_
                          rintro e w7 ⟨A7, c7, rfl, hc7, hat7, hf7, b7⟩
                          have R7 := Lib.hid (R6.out.later b7)
                          have HC7 := Lib.hid hc7
                          have T7 := Lib.hid hat7
                          have F7 := Lib.hid hf7
                          clear hc7 hat7 hf7
                          clear b7 z0 z1 z2 z3 z4
                          go_upto_region 35 with fail
                          have HY := Lib.hid (Holds.new w7 39 #[.int .i64 ea, .int .i64 (qa + 1), .slice A7 m c7, .int .i64 0, .int .i64 0] w7.heap.size rfl)
                          have BL := Lib.hid ((Below.refl w7.heap.size w7).alloc (Nat.le_refl _) (.cells #[.int .i64 ea, .int .i64 (qa + 1), .slice A7 m c7, .int .i64 0, .int .i64 0] 39))
                          have R8 := Lib.hid (R7.out.later BL.out)
                          have T8 := Lib.hid (T7.out.later BL.out (Nat.le_refl _))
                          generalize (w7.alloc (.cells #[.int .i64 ea, .int .i64 (qa + 1), .slice A7 m c7, .int .i64 0, .int .i64 0] 39)) = w8 at *
                          generalize w7.heap.size = py at HY ⊢
                          have y0 := HY.out.cell 0
                          have y1 := HY.out.cell 1
                          have y2 := HY.out.cell 2
                          have y3 := HY.out.cell 3
                          have y4 := HY.out.cell 4
                          simp only [List.getElem?_toArray, List.getElem?_cons_zero, List.getElem?_cons_succ] at y0 y1 y2 y3 y4
                          have z0 := R8.out.x.cell 0
                          have z1 := R8.out.x.cell 1
                          have z2 := R8.out.x.cell 2
                          have z3 := R8.out.x.cell 3
                          have z4 := R8.out.x.cell 4
                          simp only [List.getElem?_toArray, List.getElem?_cons_zero, List.getElem?_cons_succ] at z0 z1 z2 z3 z4
                          have f0 := R8.out.x.frozen 0
                          have f1 := R8.out.x.frozen 1
                          have f2 := R8.out.x.frozen 2
                          have f3 := R8.out.x.frozen 3
                          have f4 := R8.out.x.frozen 4
                          clear BL R7 HY
                          obtain ⟨W, hW⟩ : ∃ W, (((((w8.setCell ⟨px, 0, none⟩ (.int .i64 ea)).setCell ⟨px, 1, none⟩ (.int .i64 (qa + 1))).setCell ⟨px, 2, none⟩ (.slice A7 m c7)).setCell ⟨px, 3, none⟩ (.int .i64 0)).setCell ⟨px, 4, none⟩ (.int .i64 0)) = W := ⟨_, rfl⟩
                          have RW := Lib.hid (R8.out.store T8.out (by have := R8.out.ul; simpa using this) (by have := R8.out.ll; simpa using this) (fun i u b h1 h2 => R8.out.each (i + 1) u b (by simpa using h1) (by simpa using h2)) (by rw [F7.out]; exact R8.out.rg) (by rw [F7.out]; exact R8.out.rp) (by rw [F7.out]; exact R8.out.rA) (by rw [F7.out]; exact R8.out.rlt) HC7.out hW)
                          go_upto_region 36 with fail
                          try rw [hW]
                          clear hW y0 y1 y2 y3 y4 z0 z1 z2 z3 z4 f0 f1 f2 f3 f4
                          go_wp2_with fail
                          go_meet
                          exact ⟨ea, qa + 1, 0, 0, l0, A6, m, c6, vs6, A7, c7, us0, (by have := BD.out; omega), RW.out⟩
                      · as_aux_lemma =>
                        replace he := Lib.hid he
                        replace hq := Lib.hid hq
                        go_wp2_with fail
                        refine (heard_no _ ea qa R5.out.snd (.inr (.inl hq.out))).mono ?_
                        rintro e w6 ⟨rfl, rfl⟩
                        have z0 := R5.out.x.cell 0
                        have z1 := R5.out.x.cell 1
                        have z2 := R5.out.x.cell 2
                        have z3 := R5.out.x.cell 3
                        have z4 := R5.out.x.cell 4
                        simp only [List.getElem?_toArray, List.getElem?_cons_zero, List.getElem?_cons_succ] at z0 z1 z2 z3 z4
                        have pa2 : w5.cell? ⟨pa, 2, none⟩ = some (.int .i64 ea) := HPA.out.cell 2
                        have pa3 : w5.cell? ⟨pa, 3, none⟩ = some (.int .i64 qa) := HPA.out.cell 3
                        go_wp2_with fail
                        refine (rheard_no1 ea qa he.out hq.out).mono ?_
                        rintro e w7 ⟨rfl, b7⟩
                        have R7 := Lib.hid (R5.out.later b7)
                        clear b7 z0 z1 z2 z3 z4
                        go_upto_region 35 with fail
                        have HY := Lib.hid (Holds.new w7 39 #[.int .i64 E, .int .i64 S, .slice Ar n cr, .int .i64 (st : Nat), .int .i64 (lf : Nat)] w7.heap.size rfl)
                        have BL := Lib.hid ((Below.refl w7.heap.size w7).alloc (Nat.le_refl _) (.cells #[.int .i64 E, .int .i64 S, .slice Ar n cr, .int .i64 (st : Nat), .int .i64 (lf : Nat)] 39))
                        have R8 := Lib.hid (R7.out.later BL.out)
                        generalize (w7.alloc (.cells #[.int .i64 E, .int .i64 S, .slice Ar n cr, .int .i64 (st : Nat), .int .i64 (lf : Nat)] 39)) = w8 at *
                        generalize w7.heap.size = py at HY ⊢
                        have y0 := HY.out.cell 0
                        have y1 := HY.out.cell 1
                        have y2 := HY.out.cell 2
                        have y3 := HY.out.cell 3
                        have y4 := HY.out.cell 4
                        simp only [List.getElem?_toArray, List.getElem?_cons_zero, List.getElem?_cons_succ] at y0 y1 y2 y3 y4
                        have z0 := R8.out.x.cell 0
                        have z1 := R8.out.x.cell 1
                        have z2 := R8.out.x.cell 2
                        have z3 := R8.out.x.cell 3
                        have z4 := R8.out.x.cell 4
                        simp only [List.getElem?_toArray, List.getElem?_cons_zero, List.getElem?_cons_succ] at z0 z1 z2 z3 z4
                        have f0 := R8.out.x.frozen 0
                        have f1 := R8.out.x.frozen 1
                        have f2 := R8.out.x.frozen 2
                        have f3 := R8.out.x.frozen 3
                        have f4 := R8.out.x.frozen 4
                        clear BL R7 HY
                        obtain ⟨W, hW⟩ : ∃ W, (((((w8.setCell ⟨px, 0, none⟩ (.int .i64 E)).setCell ⟨px, 1, none⟩ (.int .i64 S)).setCell ⟨px, 2, none⟩ (.slice Ar n cr)).setCell ⟨px, 3, none⟩ (.int .i64 (st : Nat))).setCell ⟨px, 4, none⟩ (.int .i64 (lf : Nat))) = W := ⟨_, rfl⟩
                        have RW := Lib.hid (R8.out.store R8.out.at_ R8.out.ul R8.out.ll R8.out.each R8.out.rg R8.out.rp R8.out.rA R8.out.rlt R8.out.cap hW)
                        go_upto_region 36 with fail
                        try rw [hW]
                        clear hW y0 y1 y2 y3 y4 z0 z1 z2 z3 z4 f0 f1 f2 f3 f4
                        go_wp2_with fail
                        go_meet
                        exact ⟨E, S, st, lf, l, A, n, c, vs, Ar, cr, us, (by have := BD.out; omega), RW.out⟩
                    · as_aux_lemma =>
                      replace he := Lib.hid he
                      go_wp2_with fail
                      refine (heard_no _ ea qa R5.out.snd (.inl he.out)).mono ?_
                      rintro e w6 ⟨rfl, rfl⟩
                      have z0 := R5.out.x.cell 0
                      have z1 := R5.out.x.cell 1
                      have z2 := R5.out.x.cell 2
                      have z3 := R5.out.x.cell 3
                      have z4 := R5.out.x.cell 4
                      simp only [List.getElem?_toArray, List.getElem?_cons_zero, List.getElem?_cons_succ] at z0 z1 z2 z3 z4
                      have pa2 : w5.cell? ⟨pa, 2, none⟩ = some (.int .i64 ea) := HPA.out.cell 2
                      have pa3 : w5.cell? ⟨pa, 3, none⟩ = some (.int .i64 qa) := HPA.out.cell 3
                      go_wp2_with fail
                      refine (rheard_no0 ea qa he.out).mono ?_
                      rintro e w7 ⟨rfl, b7⟩
                      have R7 := Lib.hid (R5.out.later b7)
                      clear b7 z0 z1 z2 z3 z4
                      go_upto_region 35 with fail
                      have HY := Lib.hid (Holds.new w7 39 #[.int .i64 E, .int .i64 S, .slice Ar n cr, .int .i64 (st : Nat), .int .i64 (lf : Nat)] w7.heap.size rfl)
                      have BL := Lib.hid ((Below.refl w7.heap.size w7).alloc (Nat.le_refl _) (.cells #[.int .i64 E, .int .i64 S, .slice Ar n cr, .int .i64 (st : Nat), .int .i64 (lf : Nat)] 39))
                      have R8 := Lib.hid (R7.out.later BL.out)
                      generalize (w7.alloc (.cells #[.int .i64 E, .int .i64 S, .slice Ar n cr, .int .i64 (st : Nat), .int .i64 (lf : Nat)] 39)) = w8 at *
                      generalize w7.heap.size = py at HY ⊢
                      have y0 := HY.out.cell 0
                      have y1 := HY.out.cell 1
                      have y2 := HY.out.cell 2
                      have y3 := HY.out.cell 3
                      have y4 := HY.out.cell 4
                      simp only [List.getElem?_toArray, List.getElem?_cons_zero, List.getElem?_cons_succ] at y0 y1 y2 y3 y4
                      have z0 := R8.out.x.cell 0
                      have z1 := R8.out.x.cell 1
                      have z2 := R8.out.x.cell 2
                      have z3 := R8.out.x.cell 3
                      have z4 := R8.out.x.cell 4
                      simp only [List.getElem?_toArray, List.getElem?_cons_zero, List.getElem?_cons_succ] at z0 z1 z2 z3 z4
                      have f0 := R8.out.x.frozen 0
                      have f1 := R8.out.x.frozen 1
                      have f2 := R8.out.x.frozen 2
                      have f3 := R8.out.x.frozen 3
                      have f4 := R8.out.x.frozen 4
                      clear BL R7 HY
                      obtain ⟨W, hW⟩ : ∃ W, (((((w8.setCell ⟨px, 0, none⟩ (.int .i64 E)).setCell ⟨px, 1, none⟩ (.int .i64 S)).setCell ⟨px, 2, none⟩ (.slice Ar n cr)).setCell ⟨px, 3, none⟩ (.int .i64 (st : Nat))).setCell ⟨px, 4, none⟩ (.int .i64 (lf : Nat))) = W := ⟨_, rfl⟩
                      have RW := Lib.hid (R8.out.store R8.out.at_ R8.out.ul R8.out.ll R8.out.each R8.out.rg R8.out.rp R8.out.rA R8.out.rlt R8.out.cap hW)
                      go_upto_region 36 with fail
                      try rw [hW]
                      clear hW y0 y1 y2 y3 y4 z0 z1 z2 z3 z4 f0 f1 f2 f3 f4
                      go_wp2_with fail
                      go_meet
                      exact ⟨E, S, st, lf, l, A, n, c, vs, Ar, cr, us, (by have := BD.out; omega), RW.out⟩
                  · have x3' : (K == 3) = false := by simpa using K3
                    have X3 := Lib.hid K3
                    clear K3
                    by_cases K4 : K = 4
                    · subst K4
                      by_cases hE : E = 1073741824
                      · as_aux_lemma =>
                        have HE := Lib.hid hE
                        clear hE
                        go_wp2_with fail
                        refine (reset_max _ R5.out.snd (Int.le_of_eq HE.out.symm)).mono ?_
                        rintro e w6 ⟨rfl, rfl⟩
                        have z0 := R5.out.x.cell 0
                        have z1 := R5.out.x.cell 1
                        have z2 := R5.out.x.cell 2
                        have z3 := R5.out.x.cell 3
                        have z4 := R5.out.x.cell 4
                        simp only [List.getElem?_toArray, List.getElem?_cons_zero, List.getElem?_cons_succ] at z0 z1 z2 z3 z4
                        go_wp2_with fail
                        refine (rreset_max HE.out).mono ?_
                        rintro e w7 ⟨rfl, b7⟩
                        have R7 := Lib.hid (R5.out.later b7)
                        clear b7 z0 z1 z2 z3 z4
                        go_upto_region 41 with fail
                        have HY := Lib.hid (Holds.new w7 39 #[.int .i64 E, .int .i64 S, .slice Ar n cr, .int .i64 (st : Nat), .int .i64 (lf : Nat)] w7.heap.size rfl)
                        have BL := Lib.hid ((Below.refl w7.heap.size w7).alloc (Nat.le_refl _) (.cells #[.int .i64 E, .int .i64 S, .slice Ar n cr, .int .i64 (st : Nat), .int .i64 (lf : Nat)] 39))
                        have R8 := Lib.hid (R7.out.later BL.out)
                        generalize (w7.alloc (.cells #[.int .i64 E, .int .i64 S, .slice Ar n cr, .int .i64 (st : Nat), .int .i64 (lf : Nat)] 39)) = w8 at *
                        generalize w7.heap.size = py at HY ⊢
                        have y0 := HY.out.cell 0
                        have y1 := HY.out.cell 1
                        have y2 := HY.out.cell 2
                        have y3 := HY.out.cell 3
                        have y4 := HY.out.cell 4
                        simp only [List.getElem?_toArray, List.getElem?_cons_zero, List.getElem?_cons_succ] at y0 y1 y2 y3 y4
                        have z0 := R8.out.x.cell 0
                        have z1 := R8.out.x.cell 1
                        have z2 := R8.out.x.cell 2
                        have z3 := R8.out.x.cell 3
                        have z4 := R8.out.x.cell 4
                        simp only [List.getElem?_toArray, List.getElem?_cons_zero, List.getElem?_cons_succ] at z0 z1 z2 z3 z4
                        have f0 := R8.out.x.frozen 0
                        have f1 := R8.out.x.frozen 1
                        have f2 := R8.out.x.frozen 2
                        have f3 := R8.out.x.frozen 3
                        have f4 := R8.out.x.frozen 4
                        clear BL R7 HY
                        obtain ⟨W, hW⟩ : ∃ W, (((((w8.setCell ⟨px, 0, none⟩ (.int .i64 E)).setCell ⟨px, 1, none⟩ (.int .i64 S)).setCell ⟨px, 2, none⟩ (.slice Ar n cr)).setCell ⟨px, 3, none⟩ (.int .i64 (st : Nat))).setCell ⟨px, 4, none⟩ (.int .i64 (lf : Nat))) = W := ⟨_, rfl⟩
                        have RW := Lib.hid (R8.out.store R8.out.at_ R8.out.ul R8.out.ll R8.out.each R8.out.rg R8.out.rp R8.out.rA R8.out.rlt R8.out.cap hW)
                        go_upto_region 42 with fail
                        try rw [hW]
                        clear hW y0 y1 y2 y3 y4 z0 z1 z2 z3 z4 f0 f1 f2 f3 f4
                        have GW := Lib.hid (HG.out.later RW.out.bel (Nat.le_refl _))
                        go_wp2_with fail
                        refine (num17_err 1 _ GW.out).mono ?_
                        rintro e w9 ⟨rfl, b9⟩
                        have R9 := Lib.hid (RW.out.later b9)
                        clear b9 GW
                        go_wp2_with fail
                        go_meet
                        exact ⟨E, S, st, lf, l, A, n, c, vs, Ar, cr, us, (by have := BD.out; omega), R9.out⟩
                      · as_aux_lemma =>
                        have HE := Lib.hid hE
                        clear hE
                        go_wp2_with fail
                        refine (reset_any _ R5.out.snd (by have := BD.out; have := HE.out; omega)).mono ?_
                        rintro e w6 ⟨rfl, hs, hg6⟩
                        have R6 := Lib.hid (R5.out.turned hs hg6)
                        clear hs hg6 R5 HPA pa0 pa1 pa2 pa3
                        have z0 := R6.out.x.cell 0
                        have z1 := R6.out.x.cell 1
                        have z2 := R6.out.x.cell 2
                        have z3 := R6.out.x.cell 3
                        have z4 := R6.out.x.cell 4
                        simp only [List.getElem?_toArray, List.getElem?_cons_zero, List.getElem?_cons_succ] at z0 z1 z2 z3 z4
                        go_wp2_with fail
                        refine (rreset_any HE.out (by have := BD.out; omega)).mono ?_
                        rintro e w7 ⟨rfl, b7⟩
                        have R7 := Lib.hid (R6.out.later b7)
                        clear b7 z0 z1 z2 z3 z4
                        go_upto_region 41 with fail
                        have HY := Lib.hid (Holds.new w7 39 #[.int .i64 (E + 1), .int .i64 1, .slice Ar n cr, .int .i64 0, .int .i64 0] w7.heap.size rfl)
                        have BL := Lib.hid ((Below.refl w7.heap.size w7).alloc (Nat.le_refl _) (.cells #[.int .i64 (E + 1), .int .i64 1, .slice Ar n cr, .int .i64 0, .int .i64 0] 39))
                        have R8 := Lib.hid (R7.out.later BL.out)
                        generalize (w7.alloc (.cells #[.int .i64 (E + 1), .int .i64 1, .slice Ar n cr, .int .i64 0, .int .i64 0] 39)) = w8 at *
                        generalize w7.heap.size = py at HY ⊢
                        have y0 := HY.out.cell 0
                        have y1 := HY.out.cell 1
                        have y2 := HY.out.cell 2
                        have y3 := HY.out.cell 3
                        have y4 := HY.out.cell 4
                        simp only [List.getElem?_toArray, List.getElem?_cons_zero, List.getElem?_cons_succ] at y0 y1 y2 y3 y4
                        have z0 := R8.out.x.cell 0
                        have z1 := R8.out.x.cell 1
                        have z2 := R8.out.x.cell 2
                        have z3 := R8.out.x.cell 3
                        have z4 := R8.out.x.cell 4
                        simp only [List.getElem?_toArray, List.getElem?_cons_zero, List.getElem?_cons_succ] at z0 z1 z2 z3 z4
                        have f0 := R8.out.x.frozen 0
                        have f1 := R8.out.x.frozen 1
                        have f2 := R8.out.x.frozen 2
                        have f3 := R8.out.x.frozen 3
                        have f4 := R8.out.x.frozen 4
                        clear BL R7 HY
                        obtain ⟨W, hW⟩ : ∃ W, (((((w8.setCell ⟨px, 0, none⟩ (.int .i64 (E + 1))).setCell ⟨px, 1, none⟩ (.int .i64 1)).setCell ⟨px, 2, none⟩ (.slice Ar n cr)).setCell ⟨px, 3, none⟩ (.int .i64 0)).setCell ⟨px, 4, none⟩ (.int .i64 0)) = W := ⟨_, rfl⟩
                        have RW := Lib.hid (R8.out.store R8.out.at_ R8.out.ul R8.out.ll R8.out.each R8.out.rg R8.out.rp R8.out.rA R8.out.rlt R8.out.cap hW)
                        go_upto_region 42 with fail
                        try rw [hW]
                        clear hW y0 y1 y2 y3 y4 z0 z1 z2 z3 z4 f0 f1 f2 f3 f4
                        have GW := Lib.hid (HG.out.later RW.out.bel (Nat.le_refl _))
                        go_wp2_with fail
                        refine (num17_nil _).mono ?_
                        rintro e w9 ⟨rfl, b9⟩
                        have R9 := Lib.hid (RW.out.later b9)
                        clear b9 GW
                        go_wp2_with fail
                        go_meet
                        exact ⟨E + 1, 1, 0, 0, l, A, n, c, vs, Ar, cr, us, (by have := BD.out; have := HE.out; omega), R9.out⟩
                    · have x4' : (K == 4) = false := by simpa using K4
                      have X4 := Lib.hid K4
                      clear K4
                      by_cases h0 : 0 < lf
                      · as_aux_lemma =>
                        obtain ⟨lq, rfl⟩ : ∃ lq, lf = lq + 1 := ⟨lf - 1, by omega⟩
                        have el : ((lq + 1 : Nat) : Int) - 1 = (lq : Nat) := by omega
                        go_wp2_with fail
                        refine (tick_pos _ R5.out.snd (by omega) (by have := BD.out; omega)).mono ?_
                        rintro e w6 ⟨rfl, hs, hg6⟩
                        rw [el] at hs
                        have R6 := Lib.hid (R5.out.turned hs hg6)
                        clear hs hg6 R5 HPA pa0 pa1 pa2 pa3
                        have z0 := R6.out.x.cell 0
                        have z1 := R6.out.x.cell 1
                        have z2 := R6.out.x.cell 2
                        have z3 := R6.out.x.cell 3
                        have z4 := R6.out.x.cell 4
                        simp only [List.getElem?_toArray, List.getElem?_cons_zero, List.getElem?_cons_succ] at z0 z1 z2 z3 z4
                        go_wp2_with fail
                        refine (rtick_pos (lf := ((lq + 1 : Nat) : Int)) (by omega) (by have := BD.out; omega)).mono ?_
                        rintro e w7 ⟨rfl, b7⟩
                        rw [el]
                        have R8 := Lib.hid (R6.out.later b7)
                        clear b7 z0 z1 z2 z3 z4
                        have z0 := R8.out.x.cell 0
                        have z1 := R8.out.x.cell 1
                        have z2 := R8.out.x.cell 2
                        have z3 := R8.out.x.cell 3
                        have z4 := R8.out.x.cell 4
                        simp only [List.getElem?_toArray, List.getElem?_cons_zero, List.getElem?_cons_succ] at z0 z1 z2 z3 z4
                        have f0 := R8.out.x.frozen 0
                        have f1 := R8.out.x.frozen 1
                        have f2 := R8.out.x.frozen 2
                        have f3 := R8.out.x.frozen 3
                        have f4 := R8.out.x.frozen 4
                        obtain ⟨W, hW⟩ : ∃ W, (((((w7.setCell ⟨px, 0, none⟩ (.int .i64 E)).setCell ⟨px, 1, none⟩ (.int .i64 S)).setCell ⟨px, 2, none⟩ (.slice Ar n cr)).setCell ⟨px, 3, none⟩ (.int .i64 (st : Nat))).setCell ⟨px, 4, none⟩ (.int .i64 (lq : Nat))) = W := ⟨_, rfl⟩
                        have RW := Lib.hid (R8.out.store R8.out.at_ R8.out.ul R8.out.ll R8.out.each R8.out.rg R8.out.rp R8.out.rA R8.out.rlt R8.out.cap hW)
                        go_wp2_with fail
                        go_meet
                        try rw [hW]
                        exact ⟨E, S, st, lq, l, A, n, c, vs, Ar, cr, us, (by have := BD.out; omega), RW.out⟩
                      · as_aux_lemma =>
                        obtain rfl : lf = 0 := by omega
                        go_wp2_with fail
                        refine (tick_zero _ R5.out.snd).mono ?_
                        rintro e w6 ⟨rfl, rfl⟩
                        have z0 := R5.out.x.cell 0
                        have z1 := R5.out.x.cell 1
                        have z2 := R5.out.x.cell 2
                        have z3 := R5.out.x.cell 3
                        have z4 := R5.out.x.cell 4
                        simp only [List.getElem?_toArray, List.getElem?_cons_zero, List.getElem?_cons_succ] at z0 z1 z2 z3 z4
                        go_wp2_with fail
                        refine (rtick_zero (lf := ((0 : Nat) : Int)) (by omega)).mono ?_
                        rintro e w7 ⟨rfl, b7⟩
                        have R8 := Lib.hid (R5.out.later b7)
                        clear b7 z0 z1 z2 z3 z4
                        have z0 := R8.out.x.cell 0
                        have z1 := R8.out.x.cell 1
                        have z2 := R8.out.x.cell 2
                        have z3 := R8.out.x.cell 3
                        have z4 := R8.out.x.cell 4
                        simp only [List.getElem?_toArray, List.getElem?_cons_zero, List.getElem?_cons_succ] at z0 z1 z2 z3 z4
                        have f0 := R8.out.x.frozen 0
                        have f1 := R8.out.x.frozen 1
                        have f2 := R8.out.x.frozen 2
                        have f3 := R8.out.x.frozen 3
                        have f4 := R8.out.x.frozen 4
                        obtain ⟨W, hW⟩ : ∃ W, (((((w7.setCell ⟨px, 0, none⟩ (.int .i64 E)).setCell ⟨px, 1, none⟩ (.int .i64 S)).setCell ⟨px, 2, none⟩ (.slice Ar n cr)).setCell ⟨px, 3, none⟩ (.int .i64 (st : Nat))).setCell ⟨px, 4, none⟩ (.int .i64 ((0 : Nat) : Int))) = W := ⟨_, rfl⟩
                        have RW := Lib.hid (R8.out.store R8.out.at_ R8.out.ul R8.out.ll R8.out.each R8.out.rg R8.out.rp R8.out.rA R8.out.rlt R8.out.cap hW)
                        go_wp2_with fail
                        go_meet
                        try rw [hW]
                        subst hW
                        exact ⟨E, S, st, 0, l, A, n, c, vs, Ar, cr, us, (by have := BD.out; omega), RW.out⟩
            case rest =>
              obtain ⟨E, S, st, lf, l, A, n, c, vs, Ar, cr, us, hbd, hr⟩ := hcut
              have QQ := Lib.hid hr
              clear hr R5 HPA HPX
              go_upto_region 44 with fail
              go_cut [232] from 99 to 232 (fun cv wx => cv = .bool false ∧ Below wc.heap.size wc wx)
              case first =>
                go_wp2_with fail
                refine wp_region_below [is ?c0, is (.int .i64 E), is ?c2, is ?c3, is ?c4, is ?c5, is ?c6, is (.int .i64 S), is ?c8, is ?c9, is ?c10, is ?c11, is ?c12, is ?c13, is (.int .i64 (n : Nat)), is ?c15, is ?c16, is ?c17, is ?c18, is ?c19]
                  [⟨[], [9], none⟩, ⟨[(213, 0)], [], none⟩, ⟨[], [11], none⟩, ⟨[(215, 2)], [], none⟩, ⟨[(214, 1), (216, 3)], [], none⟩, ⟨[(217, 4)], [], none⟩, ⟨[(218, 5)], [9], some (218, false)⟩, ⟨[(219, 6), (218, 5)], [], some (218, false)⟩, ⟨[(218, 5)], [11], some (218, false)⟩, ⟨[(221, 8), (218, 5)], [], some (218, false)⟩, ⟨[(220, 7), (222, 9), (218, 5)], [], some (218, false)⟩, ⟨[(218, 5), (223, 10)], [], none⟩, ⟨[(224, 11)], [], none⟩, ⟨[(225, 12)], [9], some (225, false)⟩, ⟨[(226, 13), (225, 12)], [], some (225, false)⟩, ⟨[(225, 12)], [11], some (225, false)⟩, ⟨[(228, 15), (225, 12)], [], some (225, false)⟩, ⟨[(229, 16), (225, 12)], [], some (225, false)⟩, ⟨[(227, 14), (230, 17), (225, 12)], [], some (225, false)⟩, ⟨[(225, 12), (231, 18)], [], none⟩] (by kernel_rfl) (by kernel_rfl) (by kernel_rfl) (by kernel_rfl) (by kernel_rfl) ?monoc ?stepsc ?finc
                case monoc => exact ⟨mono_eq _, mono_eq _, mono_eq _, mono_eq _, mono_eq _, mono_eq _, mono_eq _, mono_eq _, mono_eq _, mono_eq _, mono_eq _, mono_eq _, mono_eq _, mono_eq _, mono_eq _, mono_eq _, mono_eq _, mono_eq _, mono_eq _, mono_eq _, trivial⟩
                case stepsc =>
                  refine ⟨fun ρ W ⟨hcst, hglb, hfun⟩ hX hp ho => ?_, ?_⟩ -- 0: slot 213 := Op.move t9
                  · obtain ⟨o9, -⟩ := ho
                    change ρ (.tmp 9) = _ at o9
                    refine turn_plain (ok_is ?_ rfl)
                    simp only [execOp, o9]; go_simp; try exact rfl
                  refine ⟨fun ρ W ⟨hcst, hglb, hfun⟩ hX hp ho => ?_, ?_⟩ -- 1: slot 214 := Op.call { value (Operand.func 10), args := #[t213], argTypes := #[23] }
                  · obtain ⟨p213, -⟩ := hp
                    change ρ (.tmp 213) = _ at p213
                    have hW := (Below.refl _ _).drew.trans hX
                    refine turn_plain ?_
                    have ce := @enter_of Tryd.prog 10 _ Tryd.func10 (by kernel_rfl) (by kernel_rfl)
                    refine ok_call (op_call1 hfun ce (by exact rfl) p213) ?_
                    refine (epoch_any _ (QQ.out.later hW).snd).mono ?_
                    rintro e W' ⟨rfl, rfl⟩
                    exact ⟨_, rfl, Below.refl _ _, rfl⟩
                  refine ⟨fun ρ W ⟨hcst, hglb, hfun⟩ hX hp ho => ?_, ?_⟩ -- 2: slot 215 := Op.fieldAddr 39 t11 0
                  · obtain ⟨o11, -⟩ := ho
                    change ρ (.tmp 11) = _ at o11
                    refine turn_plain (ok_is ?_ rfl)
                    simp only [execOp, o11]; go_simp; try exact rfl
                  refine ⟨fun ρ W ⟨hcst, hglb, hfun⟩ hX hp ho => ?_, ?_⟩ -- 3: slot 216 := Op.load 3 t215
                  · obtain ⟨p215, -⟩ := hp
                    change ρ (.tmp 215) = _ at p215
                    have y0 := (hX.cell (p := ⟨px, 0, none⟩) QQ.out.x.lt).trans (QQ.out.x.cell 0)
                    have y1 := (hX.cell (p := ⟨px, 1, none⟩) QQ.out.x.lt).trans (QQ.out.x.cell 1)
                    have y2 := (hX.cell (p := ⟨px, 2, none⟩) QQ.out.x.lt).trans (QQ.out.x.cell 2)
                    have y3 := (hX.cell (p := ⟨px, 3, none⟩) QQ.out.x.lt).trans (QQ.out.x.cell 3)
                    have y4 := (hX.cell (p := ⟨px, 4, none⟩) QQ.out.x.lt).trans (QQ.out.x.cell 4)
                    simp only [List.getElem?_toArray, List.getElem?_cons_zero, List.getElem?_cons_succ] at y0 y1 y2 y3 y4
                    refine turn_plain (ok_is ?_ rfl)
                    simp only [execOp, p215]; go_simp; try exact rfl
                  refine ⟨fun ρ W ⟨hcst, hglb, hfun⟩ hX hp ho => ?_, ?_⟩ -- 4: slot 217 := Op.binOp BinOp.neq 3 t214 t216 3
                  · obtain ⟨p214, p216, -⟩ := hp
                    change ρ (.tmp 214) = _ at p214
                    change ρ (.tmp 216) = _ at p216
                    refine turn_plain (ok_is ?_ rfl)
                    simp only [execOp, p214, p216]; go_simp; try exact rfl
                  refine ⟨fun ρ W ⟨hcst, hglb, hfun⟩ hX hp ho => ?_, ?_⟩ -- 5: slot 218 := Op.move t217
                  · obtain ⟨p217, -⟩ := hp
                    change ρ (.tmp 217) = _ at p217
                    refine turn_plain (ok_is ?_ rfl)
                    simp only [execOp, p217]; go_simp; try exact rfl
                  refine ⟨fun ρ W ⟨hcst, hglb, hfun⟩ hX hp ho => ?_, ?_⟩ -- 6: slot 219 := Op.move t9   [guarded: some (5, false)]
                  · obtain ⟨p218, -⟩ := hp
                    change ρ (.tmp 218) = _ at p218
                    obtain ⟨o9, -⟩ := ho
                    change ρ (.tmp 9) = _ at o9
                    refine turn_yes p218 (ok_is ?_ rfl)
                    simp only [execOp, o9]; go_simp; try exact rfl
                  refine ⟨fun ρ W ⟨hcst, hglb, hfun⟩ hX hp ho => ?_, ?_⟩ -- 7: slot 220 := Op.call { value (Operand.func 11), args := #[t219], argTypes := #[23] }   [guarded: some (
                  · obtain ⟨p219, p218, -⟩ := hp
                    change ρ (.tmp 219) = _ at p219
                    change ρ (.tmp 218) = _ at p218
                    have hW := (Below.refl _ _).drew.trans hX
                    refine turn_yes p218 ?_
                    have ce := @enter_of Tryd.prog 11 _ Tryd.func11 (by kernel_rfl) (by kernel_rfl)
                    refine ok_call (op_call1 hfun ce (by exact rfl) p219) ?_
                    refine (seq_any _ (QQ.out.later hW).snd).mono ?_
                    rintro e W' ⟨rfl, rfl⟩
                    exact ⟨_, rfl, Below.refl _ _, rfl⟩
                  refine ⟨fun ρ W ⟨hcst, hglb, hfun⟩ hX hp ho => ?_, ?_⟩ -- 8: slot 221 := Op.fieldAddr 39 t11 1   [guarded: some (5, false)]
                  · obtain ⟨p218, -⟩ := hp
                    change ρ (.tmp 218) = _ at p218
                    obtain ⟨o11, -⟩ := ho
                    change ρ (.tmp 11) = _ at o11
                    refine turn_yes p218 (ok_is ?_ rfl)
                    simp only [execOp, o11]; go_simp; try exact rfl
                  refine ⟨fun ρ W ⟨hcst, hglb, hfun⟩ hX hp ho => ?_, ?_⟩ -- 9: slot 222 := Op.load 3 t221   [guarded: some (5, false)]
                  · obtain ⟨p221, p218, -⟩ := hp
                    change ρ (.tmp 221) = _ at p221
                    change ρ (.tmp 218) = _ at p218
                    have y0 := (hX.cell (p := ⟨px, 0, none⟩) QQ.out.x.lt).trans (QQ.out.x.cell 0)
                    have y1 := (hX.cell (p := ⟨px, 1, none⟩) QQ.out.x.lt).trans (QQ.out.x.cell 1)
                    have y2 := (hX.cell (p := ⟨px, 2, none⟩) QQ.out.x.lt).trans (QQ.out.x.cell 2)
                    have y3 := (hX.cell (p := ⟨px, 3, none⟩) QQ.out.x.lt).trans (QQ.out.x.cell 3)
                    have y4 := (hX.cell (p := ⟨px, 4, none⟩) QQ.out.x.lt).trans (QQ.out.x.cell 4)
                    simp only [List.getElem?_toArray, List.getElem?_cons_zero, List.getElem?_cons_succ] at y0 y1 y2 y3 y4
                    refine turn_yes p218 (ok_is ?_ rfl)
                    simp only [execOp, p221]; go_simp; try exact rfl
                  refine ⟨fun ρ W ⟨hcst, hglb, hfun⟩ hX hp ho => ?_, ?_⟩ -- 10: slot 223 := Op.binOp BinOp.neq 3 t220 t222 3   [guarded: some (5, false)]
                  · obtain ⟨p220, p222, p218, -⟩ := hp
                    change ρ (.tmp 220) = _ at p220
                    change ρ (.tmp 222) = _ at p222
                    change ρ (.tmp 218) = _ at p218
                    refine turn_yes p218 (ok_is ?_ rfl)
                    simp only [execOp, p220, p222]; go_simp; try exact rfl
                  refine ⟨fun ρ W ⟨hcst, hglb, hfun⟩ hX hp ho => ?_, ?_⟩ -- 11: slot 224 := Op.pick t218 (const (Value.bool true)) t223
                  · obtain ⟨p218, p223, -⟩ := hp
                    change ρ (.tmp 218) = _ at p218
                    change ρ (.tmp 223) = _ at p223
                    refine turn_plain (ok_is ?_ rfl)
                    simp only [execOp, hcst, p218, p223]; go_simp; try exact rfl
                  refine ⟨fun ρ W ⟨hcst, hglb, hfun⟩ hX hp ho => ?_, ?_⟩ -- 12: slot 225 := Op.move t224
                  · obtain ⟨p224, -⟩ := hp
                    change ρ (.tmp 224) = _ at p224
                    refine turn_plain (ok_is ?_ rfl)
                    simp only [execOp, p224]; go_simp; try exact rfl
                  refine ⟨fun ρ W ⟨hcst, hglb, hfun⟩ hX hp ho => ?_, ?_⟩ -- 13: slot 226 := Op.move t9   [guarded: some (12, false)]
                  · obtain ⟨p225, -⟩ := hp
                    change ρ (.tmp 225) = _ at p225
                    obtain ⟨o9, -⟩ := ho
                    change ρ (.tmp 9) = _ at o9
                    refine turn_yes p225 (ok_is ?_ rfl)
                    simp only [execOp, o9]; go_simp; try exact rfl
                  refine ⟨fun ρ W ⟨hcst, hglb, hfun⟩ hX hp ho => ?_, ?_⟩ -- 14: slot 227 := Op.call { value (Operand.func 12), args := #[t226], argTypes := #[23] }   [guarded: some (
                  · obtain ⟨p226, p225, -⟩ := hp
                    change ρ (.tmp 226) = _ at p226
                    change ρ (.tmp 225) = _ at p225
                    have hW := (Below.refl _ _).drew.trans hX
                    refine turn_yes p225 ?_
                    have ce := @enter_of Tryd.prog 12 _ Tryd.func12 (by kernel_rfl) (by kernel_rfl)
                    refine ok_call (op_call1 hfun ce (by exact rfl) p226) ?_
                    refine (waits_any _ (QQ.out.later hW).snd).mono ?_
                    rintro e W' ⟨rfl, rfl⟩
                    exact ⟨_, rfl, Below.refl _ _, rfl⟩
                  refine ⟨fun ρ W ⟨hcst, hglb, hfun⟩ hX hp ho => ?_, ?_⟩ -- 15: slot 228 := Op.fieldAddr 39 t11 2   [guarded: some (12, false)]
                  · obtain ⟨p225, -⟩ := hp
                    change ρ (.tmp 225) = _ at p225
                    obtain ⟨o11, -⟩ := ho
                    change ρ (.tmp 11) = _ at o11
                    refine turn_yes p225 (ok_is ?_ rfl)
                    simp only [execOp, o11]; go_simp; try exact rfl
                  refine ⟨fun ρ W ⟨hcst, hglb, hfun⟩ hX hp ho => ?_, ?_⟩ -- 16: slot 229 := Op.load 37 t228   [guarded: some (12, false)]
                  · obtain ⟨p228, p225, -⟩ := hp
                    change ρ (.tmp 228) = _ at p228
                    change ρ (.tmp 225) = _ at p225
                    have y0 := (hX.cell (p := ⟨px, 0, none⟩) QQ.out.x.lt).trans (QQ.out.x.cell 0)
                    have y1 := (hX.cell (p := ⟨px, 1, none⟩) QQ.out.x.lt).trans (QQ.out.x.cell 1)
                    have y2 := (hX.cell (p := ⟨px, 2, none⟩) QQ.out.x.lt).trans (QQ.out.x.cell 2)
                    have y3 := (hX.cell (p := ⟨px, 3, none⟩) QQ.out.x.lt).trans (QQ.out.x.cell 3)
                    have y4 := (hX.cell (p := ⟨px, 4, none⟩) QQ.out.x.lt).trans (QQ.out.x.cell 4)
                    simp only [List.getElem?_toArray, List.getElem?_cons_zero, List.getElem?_cons_succ] at y0 y1 y2 y3 y4
                    refine turn_yes p225 (ok_is ?_ rfl)
                    simp only [execOp, p228]; go_simp; try exact rfl
                  refine ⟨fun ρ W ⟨hcst, hglb, hfun⟩ hX hp ho => ?_, ?_⟩ -- 17: slot 230 := Op.call { builtin len, args := #[t229], argTypes := #[37] }   [guarded: some (12, false)]
                  · obtain ⟨p229, p225, -⟩ := hp
                    change ρ (.tmp 229) = _ at p229
                    change ρ (.tmp 225) = _ at p225
                    refine turn_yes p225 (ok_is ?_ rfl)
                    simp only [execOp, p229]; go_simp; try exact rfl
                  refine ⟨fun ρ W ⟨hcst, hglb, hfun⟩ hX hp ho => ?_, ?_⟩ -- 18: slot 231 := Op.binOp BinOp.neq 3 t227 t230 3   [guarded: some (12, false)]
                  · obtain ⟨p227, p230, p225, -⟩ := hp
                    change ρ (.tmp 227) = _ at p227
                    change ρ (.tmp 230) = _ at p230
                    change ρ (.tmp 225) = _ at p225
                    refine turn_yes p225 (ok_is ?_ rfl)
                    simp only [execOp, p227, p230]; go_simp; try exact rfl
                  refine ⟨fun ρ W ⟨hcst, hglb, hfun⟩ hX hp ho => ?_, ?_⟩ -- 19: slot 232 := Op.pick t225 (const (Value.bool true)) t231
                  · obtain ⟨p225, p231, -⟩ := hp
                    change ρ (.tmp 225) = _ at p225
                    change ρ (.tmp 231) = _ at p231
                    refine turn_plain (ok_is ?_ rfl)
                    simp only [execOp, hcst, p225, p231]; go_simp; try exact rfl
                  exact trivial
                case finc =>
                  rintro v W hX ⟨f0, f1, f2, f3, f4, f5, f6, f7, f8, f9, f10, f11, f12, f13, f14, f15, f16, f17, f18, f19, -⟩
                  simp only [is] at f0 f1 f2 f3 f4 f5 f6 f7 f8 f9 f10 f11 f12 f13 f14 f15 f16 f17 f18 f19
                  simp only [putAll, Act.put, List.setIfInBounds_toArray, List.set_cons_succ, List.set_cons_zero, f0, f1, f2, f3, f4, f5, f6, f7, f8, f9, f10, f11, f12, f13, f14, f15, f16, f17, f18, f19]
                  clear f0 f1 f2 f3 f4 f5 f6 f7 f8 f9 f10 f11 f12 f13 f14 f15 f16 f17 f18 f19
                  go_wp2_with fail
                  go_meet
                  exact ⟨rfl, hX⟩
              case rest =>
                obtain ⟨rfl, bel⟩ := hcut
                have R9 := Lib.hid (QQ.out.later bel)
                clear bel QQ
                go_wp2_with fail
                go_round
                case rel => exact ⟨k + 1, by omega, by omega, by go_num, E, S, st, lf, l, A, n, c, vs, Ar, cr, us, by omega, R9.out⟩
                case measure => simp [intOf]; omega
      · as_aux_lemma =>
        obtain rfl : k = 100 := by omega
        go_wp2_with fail
        refine (sure17 _).mono ?_
        rintro e w' ⟨rfl, bb⟩
        have BB := Lib.hid (RR.out.bel.trans (bb.mono RR.out.bel.size))
        clear bb
        go_wp2_with fail
        go_ret
        exact ⟨rfl, BB.out⟩
    · as_aux_lemma =>
      obtain rfl : k = n1 := by omega
      go_wp2_with fail
      refine (sure17 _).mono ?_
      rintro e w' ⟨rfl, bb⟩
      have BB := Lib.hid (RR.out.bel.trans (bb.mono RR.out.bel.size))
      clear bb
      go_wp2_with fail
      go_ret
      exact ⟨rfl, BB.out⟩
end Go.Proofs.YtbejknjlpnibaaaDoor
