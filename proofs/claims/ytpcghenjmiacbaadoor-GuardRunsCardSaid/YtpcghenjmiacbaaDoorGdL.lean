/- Layer 26: the walk of GuardRuns. -/
import Derived.Test.YtpcghenjmiacbaaDoorGdI
import Derived.Test.YtpcghenjmiacbaaDoorGdK
import Derived.Deep.CutRange
import Derived.Deep.RegionWith
import Derived.Deep.RegionHeld3
namespace Go.Proofs.YtpcghenjmiacbaaDoor
open Go.RowKit
theorem fresh_drew {W w5 : World} {v0 v1 v2 v3 : Value} {t : TypeId} (b5 : Below (W.alloc (.cells #[v0, v1, v2, v3] t)).drew.heap.size (W.alloc (.cells #[v0, v1, v2, v3] t)).drew w5) :
    w5.cell? ⟨W.heap.size, 0, none⟩ = some v0 ∧ w5.cell? ⟨W.heap.size, 1, none⟩ = some v1 ∧ w5.cell? ⟨W.heap.size, 2, none⟩ = some v2 ∧ w5.cell? ⟨W.heap.size, 3, none⟩ = some v3 ∧ w5.frozen? ⟨W.heap.size, 0, none⟩ = false ∧ w5.frozen? ⟨W.heap.size, 1, none⟩ = false ∧ w5.frozen? ⟨W.heap.size, 2, none⟩ = false ∧ w5.frozen? ⟨W.heap.size, 3, none⟩ = false := by
  have h := ((Holds.new W t #[v0, v1, v2, v3] W.heap.size rfl).drew).later b5 (Nat.le_refl _)
  exact ⟨h.cell 0, h.cell 1, h.cell 2, h.cell 3, h.frozen 0, h.frozen 1, h.frozen 2, h.frozen 3⟩
theorem finA {wr w5 : World} {t : TypeId} {cs : Array Value} (b5 : Below wr.drew.heap.size wr.drew w5) : Holds (w5.alloc (.cells cs t)) w5.heap.size t cs ∧ Below wr.heap.size wr (w5.alloc (.cells cs t)) ∧ wr.heap.size ≤ w5.heap.size :=
  ⟨Holds.new w5 t cs _ rfl, ((Below.refl wr.heap.size wr).drew.trans b5).trans ((Below.refl _ _).alloc b5.size _), b5.size⟩
theorem finB {wr w5 : World} {t : TypeId} {o0 o1 o2 o3 v0 v1 v2 v3 : Value} (b5 : Below (wr.alloc (.cells #[o0, o1, o2, o3] t)).drew.heap.size (wr.alloc (.cells #[o0, o1, o2, o3] t)).drew w5) :
    Holds ((((w5.setCell ⟨wr.heap.size, 0, none⟩ v0).setCell ⟨wr.heap.size, 1, none⟩ v1).setCell ⟨wr.heap.size, 2, none⟩ v2).setCell ⟨wr.heap.size, 3, none⟩ v3) wr.heap.size t #[v0, v1, v2, v3] ∧
    Below wr.heap.size wr ((((w5.setCell ⟨wr.heap.size, 0, none⟩ v0).setCell ⟨wr.heap.size, 1, none⟩ v1).setCell ⟨wr.heap.size, 2, none⟩ v2).setCell ⟨wr.heap.size, 3, none⟩ v3) ∧ wr.heap.size ≤ wr.heap.size := by
  have h := ((Holds.new wr t #[o0, o1, o2, o3] wr.heap.size rfl).drew).later b5 (Nat.le_refl _)
  have hb : Below wr.heap.size wr w5 := ((Below.refl wr.heap.size wr).alloc (Nat.le_refl _) _).drew.trans (b5.mono (by show wr.heap.size ≤ (wr.alloc _).heap.size; simp))
  obtain ⟨h1, h2⟩ := four (w := wr) (v0 := v0) (v1 := v1) (v2 := v2) (v3 := v3) h hb (Nat.le_refl _)
  exact ⟨h1, h2, Nat.le_refl _⟩
/-- the guard, and the document's, side by side -/
structure GX (w wr : World) (g px : Nat) (who : List Int) (need : Int) (cur : List Int) (asked : Bool) (Aw : Option Addr) (cw : Nat) (Ac : Option Addr) (cc : Nat) (A0 : Option Addr) (n0 c0 : Nat) (Ax : Option Addr) (nx cx : Nat) : Prop where
  gd : Gd wr g who need cur asked Aw cw Ac cc
  x : Holds wr px 40 #[.slice A0 n0 c0, .int .i64 need, .slice Ax nx cx, .bool asked]
  lx : cur.length = nx
  ax : At w Ax (ints .i64 cur)
  bel : Below w.heap.size w wr
  gs : w.heap.size ≤ g
  pg : g ≠ px
  ps : w.heap.size ≤ px
  fw : blk Aw ≠ some px
  fc : blk Ac ≠ some px
  nc : asked = false → cur = []
section
variable {w wr w' : World} {g px : Nat} {who cur cur' : List Int} {need : Int} {asked asked' : Bool} {Aw Ac Ac' : Option Addr} {cw cc cc' : Nat} {A0 Ax Ax' : Option Addr} {n0 c0 nx cx nx' cx' : Nat}
theorem GX.later (h : GX w wr g px who need cur asked Aw cw Ac cc A0 n0 c0 Ax nx cx) (hb : Below wr.heap.size wr w') : GX w w' g px who need cur asked Aw cw Ac cc A0 n0 c0 Ax nx cx :=
  ⟨h.gd.later hb, h.x.later hb (Nat.le_refl _), h.lx, h.ax, h.bel.trans (hb.mono h.bel.size), h.gs, h.pg, h.ps, h.fw, h.fc, h.nc⟩
/-- a new value of the document's guard is stored -/
theorem GX.store (h : GX w wr g px who need cur asked Aw cw Ac cc A0 n0 c0 Ax nx cx) (v2 v3 : Value) {W : World} (hW : W = ((((wr.setCell ⟨px, 0, none⟩ (.slice A0 n0 c0)).setCell ⟨px, 1, none⟩ (.int .i64 need)).setCell ⟨px, 2, none⟩ v2).setCell ⟨px, 3, none⟩ v3)) :
    Gd W g who need cur asked Aw cw Ac cc ∧ Holds W px 40 #[.slice A0 n0 c0, .int .i64 need, v2, v3] ∧ Below w.heap.size w W ∧ wr.heap.size ≤ W.heap.size := by
  have hg : wr.grownBy ((((wr.setCell ⟨px, 0, none⟩ (.slice A0 n0 c0)).setCell ⟨px, 1, none⟩ (.int .i64 need)).setCell ⟨px, 2, none⟩ v2).setCell ⟨px, 3, none⟩ v3) (some px) := grown_set (grown_set (grown_set (grown_set (grown_refl _ _) 0 _) 1 _) 2 _) 3 _
  obtain ⟨h1, h2⟩ := four (w := w) (v0 := .slice A0 n0 c0) (v1 := .int .i64 need) (v2 := v2) (v3 := v3) h.x h.bel h.ps
  subst hW
  exact ⟨h.gd.other hg h.pg h.fw h.fc, h1, h2, hg.size⟩
/-- then the guard is asked -/
theorem GX.next {W : World} (h : GX w wr g px who need cur asked Aw cw Ac cc A0 n0 c0 Ax nx cx) (hx : Holds W px 40 #[.slice A0 n0 c0, .int .i64 need, .slice Ax' nx' cx', .bool asked']) (hb : Below w.heap.size w W) (hz : wr.heap.size ≤ W.heap.size)
    (h1 : Gd w' g who need cur' asked' Aw cw Ac' cc') (hg : W.grownBy w' (some g)) (hf : ∀ k, blk Ac' = some k → blk Ac = some k ∨ W.heap.size ≤ k) (hl : cur'.length = nx') (ha : At w Ax' (ints .i64 cur')) (hn : asked' = false → cur' = []) :
    GX w w' g px who need cur' asked' Aw cw Ac' cc' A0 n0 c0 Ax' nx' cx' :=
  ⟨h1, hx.grown hg (fun e => h.pg (by injection e)), hl, ha, below_grown hb hg h.gs, h.gs, h.pg, h.ps, h.fw, fun e => by
    rcases hf px e with h2 | h2
    · exact h.fc h2
    · have := h.x.lt; omega, hn⟩
end
set_option maxRecDepth 100000 in
theorem gruns_long (A0 : Option Addr) (n0 c0 : Nat) (l0 : List Int) (N : Int) (A2 : Option Addr) (n2 c2 : Nat) (w : World) (e0 : l0.length = n0) (a0 : At w A0 (ints .i64 l0)) (y0 : A0 = none → n0 = 0) (m2 : n2 ≤ 9223372036854775807) (a2 : ∀ i, i < n2 → RowAt w .i64 A2 i) (hg : Glob w) (h : 100 < n0) :
    Calls Tryd.prog 4 #[.slice A0 n0 c0, .int .i64 N, .slice A2 n2 c2] w fun e w' => e = .returned (.bool true) ∧ Below w.heap.size w w' := by
  have HG := Lib.hid hg
  have d1 : decide (100 < n0) = true := decide_eq_true h
  clear hg a0 a2 y0
  go_enter Tryd.func4, Tryd.ntmps4
  go_wp2_with fail
  refine (gcame_nil _).mono ?_
  rintro e w1 ⟨rfl, rfl⟩
  go_wp2_with fail
  refine (gask_nil _ _).mono ?_
  rintro e w1 ⟨rfl, rfl⟩
  go_wp2_with fail
  refine (num26_err 1 _ HG.out).mono ?_
  rintro e v1 ⟨rfl, b1⟩
  have B1 := Lib.hid b1
  have G1 := Lib.hid (HG.out.later b1 (Nat.le_refl _))
  clear b1
  go_wp2_with fail
  refine (gout_nil _ _).mono ?_
  rintro e w1 ⟨rfl, rfl⟩
  go_wp2_with fail
  refine (sure26 _ G1.out).mono ?_
  rintro e w' ⟨rfl, bb⟩
  have BB := Lib.hid (B1.out.trans (bb.mono B1.out.size))
  clear bb
  go_wp2_with fail
  go_ret
  exact ⟨rfl, BB.out⟩
set_option maxRecDepth 100000 in
theorem gruns_bad (A0 : Option Addr) (n0 c0 : Nat) (l0 : List Int) (N : Int) (A2 : Option Addr) (n2 c2 : Nat) (w : World) (e0 : l0.length = n0) (a0 : At w A0 (ints .i64 l0)) (y0 : A0 = none → n0 = 0) (m2 : n2 ≤ 9223372036854775807) (a2 : ∀ i, i < n2 → RowAt w .i64 A2 i) (hg : Glob w) (h2 : n0 ≤ 100) (h : SetM.may l0 = false ∨ N < 1 ∨ (n0 : Int) < N) :
    Calls Tryd.prog 4 #[.slice A0 n0 c0, .int .i64 N, .slice A2 n2 c2] w fun e w' => e = .returned (.bool true) ∧ Below w.heap.size w w' := by
  have HG := Lib.hid hg
  have E0 := Lib.hid e0
  have T0 := Lib.hid a0
  have HH := Lib.hid h
  have d1 : decide (100 < n0) = false := decide_eq_false (by omega)
  clear hg a0 a2 y0 e0
  go_enter Tryd.func4, Tryd.ntmps4
  go_wp2_with fail
  refine (gcame_nil _).mono ?_
  rintro e w1 ⟨rfl, rfl⟩
  go_wp2_with fail
  refine (gask_nil _ _).mono ?_
  rintro e w1 ⟨rfl, rfl⟩
  go_wp2_with fail
  refine (num26_err 1 _ HG.out).mono ?_
  rintro e v1 ⟨rfl, b1⟩
  have B1 := Lib.hid b1
  have G1 := Lib.hid (HG.out.later b1 (Nat.le_refl _))
  clear b1
  go_wp2_with fail
  refine (gout_nil _ _).mono ?_
  rintro e w1 ⟨rfl, rfl⟩
  go_wp2_with fail
  refine (gnew_no A0 n0 c0 l0 N _ E0.out (by omega) (T0.out.later B1.out (Nat.le_refl _)) HH.out).mono ?_
  rintro e w2 ⟨rfl, rfl⟩
  go_wp2_with fail
  refine (refMay_any A0 n0 c0 l0 _ E0.out (by omega) (T0.out.later B1.out (Nat.le_refl _))).mono ?_
  rintro e w2 ⟨rfl, b2⟩
  have B2 := Lib.hid (B1.out.trans (b2.mono B1.out.size))
  have G2 := Lib.hid (HG.out.later B2.out (Nat.le_refl _))
  clear b2
  cases hm : SetM.may l0 with
  | false =>
    clear h hm
    go_wp2_with fail
    refine (num26_err 1 _ G2.out).mono ?_
    rintro e v3 ⟨rfl, b3⟩
    have B3 := Lib.hid (B2.out.trans (b3.mono B2.out.size))
    have G3 := Lib.hid (HG.out.later B3.out (Nat.le_refl _))
    clear b3
    go_wp2_with fail
    refine (sure26 _ G3.out).mono ?_
    rintro e w' ⟨rfl, bb⟩
    have BB := Lib.hid (B3.out.trans (bb.mono B3.out.size))
    clear bb
    go_wp2_with fail
    go_ret
    exact ⟨rfl, BB.out⟩
  | true =>
    rw [hm] at h
    clear hm
    by_cases h1 : N < 1
    · have dn : decide (N < 1) = true := decide_eq_true h1
      clear h
      go_wp2_with fail
      refine (num26_err 1 _ G2.out).mono ?_
      rintro e v3 ⟨rfl, b3⟩
      have B3 := Lib.hid (B2.out.trans (b3.mono B2.out.size))
      have G3 := Lib.hid (HG.out.later B3.out (Nat.le_refl _))
      clear b3
      go_wp2_with fail
      refine (sure26 _ G3.out).mono ?_
      rintro e w' ⟨rfl, bb⟩
      have BB := Lib.hid (B3.out.trans (bb.mono B3.out.size))
      clear bb
      go_wp2_with fail
      go_ret
      exact ⟨rfl, BB.out⟩
    · have dn : decide (N < 1) = false := decide_eq_false h1
      have h3 : (n0 : Int) < N := by rcases h with h | h | h; exact absurd h (by simp); exact absurd h h1; exact h
      have dm : decide ((n0 : Int) < N) = true := decide_eq_true h3
      clear h
      go_wp2_with fail
      refine (num26_err 1 _ G2.out).mono ?_
      rintro e v3 ⟨rfl, b3⟩
      have B3 := Lib.hid (B2.out.trans (b3.mono B2.out.size))
      have G3 := Lib.hid (HG.out.later B3.out (Nat.le_refl _))
      clear b3
      go_wp2_with fail
      refine (sure26 _ G3.out).mono ?_
      rintro e w' ⟨rfl, bb⟩
      have BB := Lib.hid (B3.out.trans (bb.mono B3.out.size))
      clear bb
      go_wp2_with fail
      go_ret
      exact ⟨rfl, BB.out⟩
set_option maxRecDepth 100000 in
set_option maxHeartbeats 8000000 in
theorem gruns_in (A0 : Option Addr) (n0 c0 : Nat) (l0 : List Int) (N : Int) (A2 : Option Addr) (n2 c2 : Nat) (w : World) (e0 : l0.length = n0) (a0 : At w A0 (ints .i64 l0)) (y0 : A0 = none → n0 = 0) (m2 : n2 ≤ 9223372036854775807) (a2 : ∀ i, i < n2 → RowAt w .i64 A2 i) (hg : Glob w) (h2 : n0 ≤ 100) (hm : SetM.may l0 = true) (hN1 : ¬ N < 1) (hN2 : ¬ (n0 : Int) < N) :
    Calls Tryd.prog 4 #[.slice A0 n0 c0, .int .i64 N, .slice A2 n2 c2] w fun e w' => e = .returned (.bool true) ∧ Below w.heap.size w w' := by
  have HG := Lib.hid hg
  have E0 := Lib.hid e0
  have T0 := Lib.hid a0
  have Y0 := Lib.hid y0
  have HM := Lib.hid hm
  have HC := Lib.hid a2
  have HN1 := Lib.hid hN1
  have HN2 := Lib.hid hN2
  have d1 : decide (100 < n0) = false := decide_eq_false (by omega)
  have dn : decide (N < 1) = false := decide_eq_false hN1
  have dm : decide ((n0 : Int) < N) = false := decide_eq_false hN2
  clear hg a0 a2 y0 e0 hm hN1 hN2
  go_enter Tryd.func4, Tryd.ntmps4
  go_wp2_with fail
  refine (gcame_nil _).mono ?_
  rintro e w1 ⟨rfl, rfl⟩
  go_wp2_with fail
  refine (gask_nil _ _).mono ?_
  rintro e w1 ⟨rfl, rfl⟩
  go_wp2_with fail
  refine (num26_err 1 _ HG.out).mono ?_
  rintro e v1 ⟨rfl, b1⟩
  have B1 := Lib.hid b1
  have G1 := Lib.hid (HG.out.later b1 (Nat.le_refl _))
  clear b1
  go_wp2_with fail
  refine (gout_nil _ _).mono ?_
  rintro e w1 ⟨rfl, rfl⟩
  go_wp2_with fail
  refine (gnew_ok A0 n0 c0 l0 N _ E0.out (by omega) (T0.out.later B1.out (Nat.le_refl _)) Y0.out HM.out (by have := HN1.out; omega) (by have := HN2.out; omega)).mono ?_
  rintro e w2 ⟨g, Aw, cw, rfl, gd, b2, hgs⟩
  have GS := Lib.hid (Nat.le_trans B1.out.size hgs)
  have B2 := Lib.hid (B1.out.trans (b2.mono B1.out.size))
  have D2 := Lib.hid gd
  clear gd b2 hgs
  go_wp2_with fail
  refine (refMay_any A0 n0 c0 l0 _ E0.out (by omega) (T0.out.later B2.out (Nat.le_refl _))).mono ?_
  rintro e w3 ⟨rfl, b3⟩
  rw [HM.out]
  have B3 := Lib.hid (B2.out.trans (b3.mono B2.out.size))
  have D3 := Lib.hid (D2.out.later b3)
  clear b3 D2
  have RA := Lib.hid (show GX w (w3.alloc (.cells #[.slice A0 n0 c0, .int .i64 N, .slice none 0 0, .bool false] 40)) g w3.heap.size l0 N [] false Aw cw none 0 A0 n0 c0 none 0 0 from
    ⟨D3.out.later ((Below.refl _ _).alloc (Nat.le_refl _) _), Holds.new w3 _ _ _ rfl, rfl, At.nil _ _, B3.out.trans (((Below.refl _ _).alloc (Nat.le_refl _) _).mono B3.out.size), GS.out, Nat.ne_of_lt D3.out.lay.lt, B3.out.size, fun e => Nat.lt_irrefl _ (D3.out.farw _ e).1, by simp [blk], fun _ => rfl⟩)
  go_wp2_with fail
  generalize (w3.alloc (.cells #[.slice A0 n0 c0, .int .i64 N, .slice none 0 0, .bool false] 40)) = w4 at RA ⊢
  generalize w3.heap.size = px at RA ⊢
  clear D3 B3 B2
  go_loopw [13] (fun i wr => ∃ (k : Nat) (cur : List Int) (asked : Bool) (Ac : Option Addr) (cc : Nat) (Ax : Option Addr) (nx cx : Nat), k ≤ n2 ∧ k ≤ 40 ∧ i = .int .i64 (k : Int) ∧ GX w wr g px l0 N cur asked Aw cw Ac cc A0 n0 c0 Ax nx cx) (fun i _ => n2 - (intOf i).toNat)
  case atStart => exact ⟨0, [], false, none, 0, none, 0, 0, by omega, by omega, rfl, RA.out⟩
  case round =>
    obtain ⟨k, cur, asked, Ac, cc, Ax, nx, cx, hk1, hk2, rfl, hr⟩ := hrel
    have RR := Lib.hid hr
    clear hr RA
    by_cases hlt : k < n2
    · by_cases h40 : k < 40
      · obtain ⟨b, o, D, nD, cD, d, rfl, hc, hl, hmD, ha, hz⟩ := HC.out k hlt
        have hc' := (RR.out.bel.cell (p := ⟨b, o + k, none⟩) (World.block_lt_of_cell? w _ hc)).trans hc
        have HBK := Lib.hid (World.block_lt_of_cell? w _ hc)
        have HCC := Lib.hid hc
        have HL := Lib.hid hl
        have HA := Lib.hid ha
        have HZ := Lib.hid hz
        clear hc hl ha hz
        have k0 : (0 : Int) ≤ (k : Int) := by omega
        by_cases hd : 100 < nD
        · have dd : decide (100 < nD) = true := decide_eq_true hd
          go_wp2_with fail
          go_round
          case rel => exact ⟨k + 1, cur, asked, Ac, cc, Ax, nx, cx, by omega, by omega, by go_num, RR.out⟩
          case measure => simp [intOf]; omega
        · have dd : decide (100 < nD) = false := decide_eq_false hd
          have x0 := RR.out.x.cell 0
          have x1 := RR.out.x.cell 1
          have x2 := RR.out.x.cell 2
          have x3 := RR.out.x.cell 3
          simp only [List.getElem?_toArray, List.getElem?_cons_zero, List.getElem?_cons_succ] at x0 x1 x2 x3
          have RC := Lib.hid (fun (W : World) (hW : Below wr.heap.size wr W) => rask26_any (who := l0) (cur := cur) (need := N) (asked := asked) (Aw := A0) (nw := n0) (cw := c0) (Ac := Ax) (nc := nx) (cc := cx) (w := W) D nD cD d E0.out RR.out.lx h2 (by rw [← RR.out.lx]; exact RR.out.gd.lenc) (T0.out.later (RR.out.bel.trans (hW.mono RR.out.bel.size)) (Nat.le_refl _)) (RR.out.ax.later (RR.out.bel.trans (hW.mono RR.out.bel.size)) (Nat.le_refl _)) HL.out (by omega) (HA.out.later (RR.out.bel.trans (hW.mono RR.out.bel.size)) (Nat.le_refl _)))
          by_cases hk : SetM.askCode l0 N cur asked d = 0
          · rw [vret_0 hk] at RC
            have HK := Lib.hid hk
            clear hk
            go_upto_region 17 with fail
            go_cut [14, 15] from 78 to 139 (fun y c wx => ∃ py, y = .pointer (some ⟨py, 0, none⟩) ∧ c = .int .i64 0 ∧ Holds wx py 40 #[.slice A0 n0 c0, .int .i64 N, .slice D nD cD, .bool true] ∧ Below wr.heap.size wr wx ∧ wr.heap.size ≤ py)
            case first =>
              have xp := RR.out.x.lt
              have xb : b < wr.heap.size := Nat.lt_of_lt_of_le HBK.out RR.out.bel.size
              have xpn : ¬ px = wr.heap.size := Nat.ne_of_lt xp
              have xbn : ¬ b = wr.heap.size := Nat.ne_of_lt xb
              have w0 : (wr.alloc (.cells #[.slice none 0 0, .int .i64 0, .slice none 0 0, .bool false] 40)).cell? ⟨px, 0, none⟩ = some (.slice A0 n0 c0) := (((Below.refl wr.heap.size wr).alloc (Nat.le_refl _) (.cells #[.slice none 0 0, .int .i64 0, .slice none 0 0, .bool false] 40)).cell (p := ⟨px, 0, none⟩) xp).trans x0
              have w1 : (wr.alloc (.cells #[.slice none 0 0, .int .i64 0, .slice none 0 0, .bool false] 40)).cell? ⟨px, 1, none⟩ = some (.int .i64 N) := (((Below.refl wr.heap.size wr).alloc (Nat.le_refl _) (.cells #[.slice none 0 0, .int .i64 0, .slice none 0 0, .bool false] 40)).cell (p := ⟨px, 1, none⟩) xp).trans x1
              have w2' : (wr.alloc (.cells #[.slice none 0 0, .int .i64 0, .slice none 0 0, .bool false] 40)).cell? ⟨px, 2, none⟩ = some (.slice Ax nx cx) := (((Below.refl wr.heap.size wr).alloc (Nat.le_refl _) (.cells #[.slice none 0 0, .int .i64 0, .slice none 0 0, .bool false] 40)).cell (p := ⟨px, 2, none⟩) xp).trans x2
              have w3' : (wr.alloc (.cells #[.slice none 0 0, .int .i64 0, .slice none 0 0, .bool false] 40)).cell? ⟨px, 3, none⟩ = some (.bool asked) := (((Below.refl wr.heap.size wr).alloc (Nat.le_refl _) (.cells #[.slice none 0 0, .int .i64 0, .slice none 0 0, .bool false] 40)).cell (p := ⟨px, 3, none⟩) xp).trans x3
              have wb : (wr.alloc (.cells #[.slice none 0 0, .int .i64 0, .slice none 0 0, .bool false] 40)).cell? ⟨b, o + k, none⟩ = some (.slice D nD cD) := (((Below.refl wr.heap.size wr).alloc (Nat.le_refl _) (.cells #[.slice none 0 0, .int .i64 0, .slice none 0 0, .bool false] 40)).cell (p := ⟨b, o + k, none⟩) xb).trans hc'
              go_region_with (go_at_call 14; refine (RC.out _ ?_).mono ?_; (first | exact (Below.refl _ _).drew | exact ((Below.refl _ _).alloc (Nat.le_refl _) _).drew); rintro e w5 ⟨rfl, b5⟩; (first | (have hu := fresh_drew b5; obtain ⟨u0, u1, u2, u3, f0, f1, f2, f3⟩ := hu) | skip))
              all_goals
                first
                  | (obtain ⟨h1, h2, h3⟩ := finB (v0 := .slice A0 n0 c0) (v1 := .int .i64 N) (v2 := .slice D nD cD) (v3 := .bool true) b5
                     have H1 := Lib.hid h1; have H2 := Lib.hid h2
                     clear b5 h1 h2 h3 u0 u1 u2 u3 f0 f1 f2 f3
                     go_wp2_with fail
                     go_meet
                     exact ⟨wr.heap.size, rfl, rfl, H1.out, H2.out, Nat.le_refl _⟩)
                  | (obtain ⟨h1, h2, h3⟩ := finA (t := 40) (cs := #[.slice A0 n0 c0, .int .i64 N, .slice D nD cD, .bool true]) b5
                     have H1 := Lib.hid h1; have H2 := Lib.hid h2; have H3 := Lib.hid h3
                     clear b5 h1 h2 h3
                     go_wp2_with fail
                     go_meet
                     exact ⟨w5.heap.size, rfl, rfl, H1.out, H2.out, H3.out⟩)
            case rest =>
            obtain ⟨py, rfl, rfl, hy, hb5, hpy⟩ := hcut
            have R5 := Lib.hid (RR.out.later hb5)
            have y0 := hy.cell 0
            have y1 := hy.cell 1
            have y2 := hy.cell 2
            have y3 := hy.cell 3
            have z0 := R5.out.x.cell 0
            have z1 := R5.out.x.cell 1
            have z2 := R5.out.x.cell 2
            have z3 := R5.out.x.cell 3
            have f0 := R5.out.x.frozen 0
            have f1 := R5.out.x.frozen 1
            have f2 := R5.out.x.frozen 2
            have f3 := R5.out.x.frozen 3
            simp only [List.getElem?_toArray, List.getElem?_cons_zero, List.getElem?_cons_succ] at y0 y1 y2 y3 z0 z1 z2 z3
            have xbw := Lib.hid (R5.out.bel.cell (p := ⟨b, o + k, none⟩) HBK.out)
            clear hy hb5 hpy RC RR x0 x1 x2 x3 hc'
            obtain ⟨W, hW⟩ : ∃ W, ((((wc.setCell ⟨px, 0, none⟩ (.slice A0 n0 c0)).setCell ⟨px, 1, none⟩ (.int .i64 N)).setCell ⟨px, 2, none⟩ (.slice D nD cD)).setCell ⟨px, 3, none⟩ (.bool true)) = W := ⟨_, rfl⟩
            obtain ⟨gdW, xW, bW, zW⟩ := R5.out.store (.slice D nD cD) (.bool true) hW.symm
            have GW := Lib.hid gdW
            have XW := Lib.hid xW
            have BW := Lib.hid bW
            have ZW := Lib.hid zW
            clear gdW xW bW zW
            go_upto_region 19 with fail
            try rw [hW]
            clear hW y0 y1 y2 y3 z0 z1 z2 z3 f0 f1 f2 f3
            have hcw : W.cell? ⟨b, o + k, none⟩ = some (.slice D nD cD) := (BW.out.cell (p := ⟨b, o + k, none⟩) HBK.out).trans HCC.out
            go_wp2_with fail
            refine (gask_0f D nD cD d GW.out HL.out (by omega) (HA.out.later BW.out (Nat.le_refl _)) HZ.out HK.out).mono ?_
            rintro e w6 ⟨rfl, Ac6, cc6, gd6, gr6, gf6⟩
            have R6 := Lib.hid (R5.out.next XW.out BW.out ZW.out gd6 gr6 gf6 HL.out HA.out (by intro h; cases h))
            clear gd6 gr6 gf6 R5 GW XW BW ZW hcw
            go_wp2_with fail
            refine (num26_nil _).mono ?_
            rintro e w7 ⟨rfl, b7⟩
            have R7 := Lib.hid (R6.out.later b7)
            clear b7 R6
            go_wp2_with fail
            refine (gcame_any R7.out.gd).mono ?_
            rintro e w8 ⟨M8, k8, rfl, hat8, b8⟩
            have R8 := Lib.hid (R7.out.later b8)
            have T8 := Lib.hid hat8
            have x2 := R8.out.x.cell 2
            have x3 := R8.out.x.cell 3
            simp only [List.getElem?_toArray, List.getElem?_cons_zero, List.getElem?_cons_succ] at x2 x3
            clear hat8 b8 R7
            go_wp2_with fail
            refine (ints_is M8 (d).length k8 (d) D nD cD (d) _ true (decide_eq_true rfl) rfl R8.out.gd.lenc T8.out R8.out.lx (by rw [← R8.out.lx]; exact R8.out.gd.lenc) (R8.out.ax.later R8.out.bel (Nat.le_refl _))).mono ?_
            rintro e w9 ⟨rfl, m9, rfl⟩
            have R9 := Lib.hid (R8.out.later (below_drewN w8 m9 w8.heap.size))
            clear R8 T8 x2 x3
            generalize w8.drewN m9 = w9 at *
            go_wp2_with fail
            go_loopw [18] (fun i wq => ∃ q : Nat, q ≤ 66 ∧ i = .int .i64 ((q : Int) - 1) ∧ Below w9.heap.size w9 wq) (fun i _ => 66 - (intOf i + 1).toNat)
            case atStart => exact ⟨0, by omega, rfl, Below.refl _ _⟩
            case round =>
              obtain ⟨q, hq66, rfl, hbq⟩ := hrel
              have BQ := Lib.hid hbq
              clear hbq
              by_cases hlq : q < 66
              · have e1 : decide ((q : Int) - 1 < 65) = true := decide_eq_true (by omega)
                have v0 := (R9.out.later BQ.out).x.cell 0
                have v1 := (R9.out.later BQ.out).x.cell 1
                have v2 := (R9.out.later BQ.out).x.cell 2
                have v3 := (R9.out.later BQ.out).x.cell 3
                simp only [List.getElem?_toArray, List.getElem?_cons_zero, List.getElem?_cons_succ] at v0 v1 v2 v3
                obtain ⟨s, hs⟩ : ∃ s, SetM.outOf l0 d true ((q : Int) - 1) = s := ⟨_, rfl⟩
                have GO := Lib.hid (fun (X : World) (hX : Below w9.heap.size w9 X) => gout_any ((q : Int) - 1) (R9.out.later hX).gd)
                have RO := Lib.hid (fun (X : World) (hX : Below w9.heap.size w9 X) => rout26_any (who := l0) (cur := d) (need := N) (asked := true) (Aw := A0) (nw := n0) (cw := c0) (Ac := D) (nc := nD) (cc := cD) (w := X) ((q : Int) - 1) E0.out R9.out.lx h2 (by rw [← R9.out.lx]; exact R9.out.gd.lenc) (T0.out.later (R9.out.later hX).bel (Nat.le_refl _)) (R9.out.ax.later (R9.out.later hX).bel (Nat.le_refl _)))
                rw [hs] at GO RO
                clear hs
                go_wp2_with fail
                go_region_with (first
                  | (go_at_call 9; refine (GO.out _ ?_).mono ?_; (first | exact BQ.out.drew | exact (BQ.out.drew.trans (bb9.mono BQ.out.size))); rintro e wx ⟨rfl, rfl⟩)
                  | (go_at_call 16; refine (RO.out _ ?_).mono ?_; (first | exact BQ.out.drew); rintro e wx ⟨rfl, bb9⟩))
                all_goals
                  have BX := Lib.hid (BQ.out.drew.trans (bb9.mono BQ.out.size))
                  clear bb9
                  go_wp2_with fail
                  go_round
                  case rel => exact ⟨q + 1, by omega, by go_num, BX.out⟩
                  case measure => simp [intOf]; omega
              · obtain rfl : q = 66 := by omega
                have RE := Lib.hid (R9.out.later BQ.out)
                clear BQ R9
                go_wp2_with fail
                go_round
                case rel => exact ⟨k + 1, _, _, _, _, _, _, _, by omega, by omega, by go_num, RE.out⟩
                case measure => simp [intOf]; omega
          · obtain ⟨kk, hkk⟩ : ∃ kk, SetM.askCode l0 N cur asked d = kk := ⟨_, rfl⟩
            rw [hkk] at hk
            rw [vret_k hkk hk] at RC
            have HK := Lib.hid hkk
            have HK0 := Lib.hid hk
            clear hk hkk
            go_upto_region 17 with fail
            go_cut [14, 15] from 78 to 139 (fun y c wx => ∃ py, y = .pointer (some ⟨py, 0, none⟩) ∧ c = .int .i64 kk ∧ Holds wx py 40 #[.slice A0 n0 c0, .int .i64 N, .slice Ax nx cx, .bool asked] ∧ Below wr.heap.size wr wx ∧ wr.heap.size ≤ py)
            case first =>
              have xp := RR.out.x.lt
              have xb : b < wr.heap.size := Nat.lt_of_lt_of_le HBK.out RR.out.bel.size
              have xpn : ¬ px = wr.heap.size := Nat.ne_of_lt xp
              have xbn : ¬ b = wr.heap.size := Nat.ne_of_lt xb
              have w0 : (wr.alloc (.cells #[.slice none 0 0, .int .i64 0, .slice none 0 0, .bool false] 40)).cell? ⟨px, 0, none⟩ = some (.slice A0 n0 c0) := (((Below.refl wr.heap.size wr).alloc (Nat.le_refl _) (.cells #[.slice none 0 0, .int .i64 0, .slice none 0 0, .bool false] 40)).cell (p := ⟨px, 0, none⟩) xp).trans x0
              have w1 : (wr.alloc (.cells #[.slice none 0 0, .int .i64 0, .slice none 0 0, .bool false] 40)).cell? ⟨px, 1, none⟩ = some (.int .i64 N) := (((Below.refl wr.heap.size wr).alloc (Nat.le_refl _) (.cells #[.slice none 0 0, .int .i64 0, .slice none 0 0, .bool false] 40)).cell (p := ⟨px, 1, none⟩) xp).trans x1
              have w2' : (wr.alloc (.cells #[.slice none 0 0, .int .i64 0, .slice none 0 0, .bool false] 40)).cell? ⟨px, 2, none⟩ = some (.slice Ax nx cx) := (((Below.refl wr.heap.size wr).alloc (Nat.le_refl _) (.cells #[.slice none 0 0, .int .i64 0, .slice none 0 0, .bool false] 40)).cell (p := ⟨px, 2, none⟩) xp).trans x2
              have w3' : (wr.alloc (.cells #[.slice none 0 0, .int .i64 0, .slice none 0 0, .bool false] 40)).cell? ⟨px, 3, none⟩ = some (.bool asked) := (((Below.refl wr.heap.size wr).alloc (Nat.le_refl _) (.cells #[.slice none 0 0, .int .i64 0, .slice none 0 0, .bool false] 40)).cell (p := ⟨px, 3, none⟩) xp).trans x3
              have wb : (wr.alloc (.cells #[.slice none 0 0, .int .i64 0, .slice none 0 0, .bool false] 40)).cell? ⟨b, o + k, none⟩ = some (.slice D nD cD) := (((Below.refl wr.heap.size wr).alloc (Nat.le_refl _) (.cells #[.slice none 0 0, .int .i64 0, .slice none 0 0, .bool false] 40)).cell (p := ⟨b, o + k, none⟩) xb).trans hc'
              go_region_with (go_at_call 14; refine (RC.out _ ?_).mono ?_; (first | exact (Below.refl _ _).drew | exact ((Below.refl _ _).alloc (Nat.le_refl _) _).drew); rintro e w5 ⟨rfl, b5⟩; (first | (have hu := fresh_drew b5; obtain ⟨u0, u1, u2, u3, f0, f1, f2, f3⟩ := hu) | skip))
              all_goals
                first
                  | (obtain ⟨h1, h2, h3⟩ := finB (v0 := .slice A0 n0 c0) (v1 := .int .i64 N) (v2 := .slice Ax nx cx) (v3 := .bool asked) b5
                     have H1 := Lib.hid h1; have H2 := Lib.hid h2
                     clear b5 h1 h2 h3 u0 u1 u2 u3 f0 f1 f2 f3
                     go_wp2_with fail
                     go_meet
                     exact ⟨wr.heap.size, rfl, rfl, H1.out, H2.out, Nat.le_refl _⟩)
                  | (obtain ⟨h1, h2, h3⟩ := finA (t := 40) (cs := #[.slice A0 n0 c0, .int .i64 N, .slice Ax nx cx, .bool asked]) b5
                     have H1 := Lib.hid h1; have H2 := Lib.hid h2; have H3 := Lib.hid h3
                     clear b5 h1 h2 h3
                     go_wp2_with fail
                     go_meet
                     exact ⟨w5.heap.size, rfl, rfl, H1.out, H2.out, H3.out⟩)
            case rest =>
            obtain ⟨py, rfl, rfl, hy, hb5, hpy⟩ := hcut
            have R5 := Lib.hid (RR.out.later hb5)
            have y0 := hy.cell 0
            have y1 := hy.cell 1
            have y2 := hy.cell 2
            have y3 := hy.cell 3
            have z0 := R5.out.x.cell 0
            have z1 := R5.out.x.cell 1
            have z2 := R5.out.x.cell 2
            have z3 := R5.out.x.cell 3
            have f0 := R5.out.x.frozen 0
            have f1 := R5.out.x.frozen 1
            have f2 := R5.out.x.frozen 2
            have f3 := R5.out.x.frozen 3
            simp only [List.getElem?_toArray, List.getElem?_cons_zero, List.getElem?_cons_succ] at y0 y1 y2 y3 z0 z1 z2 z3
            have xbw := Lib.hid (R5.out.bel.cell (p := ⟨b, o + k, none⟩) HBK.out)
            clear hy hb5 hpy RC RR x0 x1 x2 x3 hc'
            obtain ⟨W, hW⟩ : ∃ W, ((((wc.setCell ⟨px, 0, none⟩ (.slice A0 n0 c0)).setCell ⟨px, 1, none⟩ (.int .i64 N)).setCell ⟨px, 2, none⟩ (.slice Ax nx cx)).setCell ⟨px, 3, none⟩ (.bool asked)) = W := ⟨_, rfl⟩
            obtain ⟨gdW, xW, bW, zW⟩ := R5.out.store (.slice Ax nx cx) (.bool asked) hW.symm
            have GW := Lib.hid gdW
            have XW := Lib.hid xW
            have BW := Lib.hid bW
            have ZW := Lib.hid zW
            clear gdW xW bW zW
            go_upto_region 19 with fail
            try rw [hW]
            clear hW y0 y1 y2 y3 z0 z1 z2 z3 f0 f1 f2 f3
            have hcw : W.cell? ⟨b, o + k, none⟩ = some (.slice D nD cD) := (BW.out.cell (p := ⟨b, o + k, none⟩) HBK.out).trans HCC.out
            go_wp2_with fail
            refine (gask_kf D nD cD d GW.out HL.out (by omega) (HA.out.later BW.out (Nat.le_refl _)) HZ.out kk HK.out HK0.out).mono ?_
            rintro e w6 ⟨rfl, Ac6, cc6, gd6, gr6, gf6⟩
            have R6 := Lib.hid (R5.out.next XW.out BW.out ZW.out gd6 gr6 gf6 R5.out.lx R5.out.ax R5.out.nc)
            have G6 := Lib.hid (HG.out.later R6.out.bel (Nat.le_refl _))
            clear gd6 gr6 gf6 R5 GW XW BW ZW hcw
            go_wp2_with fail
            refine (num26_err kk _ G6.out).mono ?_
            rintro e w7 ⟨rfl, b7⟩
            have R7 := Lib.hid (R6.out.later b7)
            clear b7 R6 G6
            cases hak : asked with
            | true =>
              subst hak
              go_wp2_with fail
              refine (gcame_any R7.out.gd).mono ?_
              rintro e w8 ⟨M8, k8, rfl, hat8, b8⟩
              have R8 := Lib.hid (R7.out.later b8)
              have T8 := Lib.hid hat8
              have x2 := R8.out.x.cell 2
              have x3 := R8.out.x.cell 3
              simp only [List.getElem?_toArray, List.getElem?_cons_zero, List.getElem?_cons_succ] at x2 x3
              clear hat8 b8 R7
              go_wp2_with fail
              refine (ints_is M8 (cur).length k8 (cur) Ax nx cx (cur) _ true (decide_eq_true rfl) rfl R8.out.gd.lenc T8.out R8.out.lx (by rw [← R8.out.lx]; exact R8.out.gd.lenc) (R8.out.ax.later R8.out.bel (Nat.le_refl _))).mono ?_
              rintro e w9 ⟨rfl, m9, rfl⟩
              have R9 := Lib.hid (R8.out.later (below_drewN w8 m9 w8.heap.size))
              clear R8 T8 x2 x3
              generalize w8.drewN m9 = w9 at *
              go_wp2_with fail
              go_loopw [18] (fun i wq => ∃ q : Nat, q ≤ 66 ∧ i = .int .i64 ((q : Int) - 1) ∧ Below w9.heap.size w9 wq) (fun i _ => 66 - (intOf i + 1).toNat)
              case atStart => exact ⟨0, by omega, rfl, Below.refl _ _⟩
              case round =>
                obtain ⟨q, hq66, rfl, hbq⟩ := hrel
                have BQ := Lib.hid hbq
                clear hbq
                by_cases hlq : q < 66
                · have e1 : decide ((q : Int) - 1 < 65) = true := decide_eq_true (by omega)
                  have v0 := (R9.out.later BQ.out).x.cell 0
                  have v1 := (R9.out.later BQ.out).x.cell 1
                  have v2 := (R9.out.later BQ.out).x.cell 2
                  have v3 := (R9.out.later BQ.out).x.cell 3
                  simp only [List.getElem?_toArray, List.getElem?_cons_zero, List.getElem?_cons_succ] at v0 v1 v2 v3
                  obtain ⟨s, hs⟩ : ∃ s, SetM.outOf l0 cur true ((q : Int) - 1) = s := ⟨_, rfl⟩
                  have GO := Lib.hid (fun (X : World) (hX : Below w9.heap.size w9 X) => gout_any ((q : Int) - 1) (R9.out.later hX).gd)
                  have RO := Lib.hid (fun (X : World) (hX : Below w9.heap.size w9 X) => rout26_any (who := l0) (cur := cur) (need := N) (asked := true) (Aw := A0) (nw := n0) (cw := c0) (Ac := Ax) (nc := nx) (cc := cx) (w := X) ((q : Int) - 1) E0.out R9.out.lx h2 (by rw [← R9.out.lx]; exact R9.out.gd.lenc) (T0.out.later (R9.out.later hX).bel (Nat.le_refl _)) (R9.out.ax.later (R9.out.later hX).bel (Nat.le_refl _)))
                  rw [hs] at GO RO
                  clear hs
                  go_wp2_with fail
                  go_region_with (first
                    | (go_at_call 9; refine (GO.out _ ?_).mono ?_; (first | exact BQ.out.drew | exact (BQ.out.drew.trans (bb9.mono BQ.out.size))); rintro e wx ⟨rfl, rfl⟩)
                    | (go_at_call 16; refine (RO.out _ ?_).mono ?_; (first | exact BQ.out.drew); rintro e wx ⟨rfl, bb9⟩))
                  all_goals
                    have BX := Lib.hid (BQ.out.drew.trans (bb9.mono BQ.out.size))
                    clear bb9
                    go_wp2_with fail
                    go_round
                    case rel => exact ⟨q + 1, by omega, by go_num, BX.out⟩
                    case measure => simp [intOf]; omega
                · obtain rfl : q = 66 := by omega
                  have RE := Lib.hid (R9.out.later BQ.out)
                  clear BQ R9
                  go_wp2_with fail
                  go_round
                  case rel => exact ⟨k + 1, _, _, _, _, _, _, _, by omega, by omega, by go_num, RE.out⟩
                  case measure => simp [intOf]; omega
            | false =>
              subst hak
              obtain rfl : cur = [] := R7.out.nc rfl
              have hnx : nx = 0 := R7.out.lx.symm
              subst hnx
              go_wp2_with fail
              refine (gcame_no R7.out.gd).mono ?_
              rintro e w8 ⟨rfl, rfl⟩
              have x2 := R7.out.x.cell 2
              have x3 := R7.out.x.cell 3
              simp only [List.getElem?_toArray, List.getElem?_cons_zero, List.getElem?_cons_succ] at x2 x3
              go_wp2_with fail
              refine (ints_is none 0 0 [] Ax 0 cx [] _ true (decide_eq_true rfl) rfl (by decide) (At.nil _ _) rfl (by decide) (R7.out.ax.later R7.out.bel (Nat.le_refl _))).mono ?_
              rintro e w9 ⟨rfl, m9, rfl⟩
              have R9 := Lib.hid (R7.out.later (below_drewN w7 m9 w7.heap.size))
              clear R7 x2 x3
              generalize w7.drewN m9 = w9 at *
              go_wp2_with fail
              go_loopw [18] (fun i wq => ∃ q : Nat, q ≤ 66 ∧ i = .int .i64 ((q : Int) - 1) ∧ Below w9.heap.size w9 wq) (fun i _ => 66 - (intOf i + 1).toNat)
              case atStart => exact ⟨0, by omega, rfl, Below.refl _ _⟩
              case round =>
                obtain ⟨q, hq66, rfl, hbq⟩ := hrel
                have BQ := Lib.hid hbq
                clear hbq
                by_cases hlq : q < 66
                · have e1 : decide ((q : Int) - 1 < 65) = true := decide_eq_true (by omega)
                  have v0 := (R9.out.later BQ.out).x.cell 0
                  have v1 := (R9.out.later BQ.out).x.cell 1
                  have v2 := (R9.out.later BQ.out).x.cell 2
                  have v3 := (R9.out.later BQ.out).x.cell 3
                  simp only [List.getElem?_toArray, List.getElem?_cons_zero, List.getElem?_cons_succ] at v0 v1 v2 v3
                  obtain ⟨s, hs⟩ : ∃ s, SetM.outOf l0 [] false ((q : Int) - 1) = s := ⟨_, rfl⟩
                  have GO := Lib.hid (fun (X : World) (hX : Below w9.heap.size w9 X) => gout_any ((q : Int) - 1) (R9.out.later hX).gd)
                  have RO := Lib.hid (fun (X : World) (hX : Below w9.heap.size w9 X) => rout26_any (who := l0) (cur := []) (need := N) (asked := false) (Aw := A0) (nw := n0) (cw := c0) (Ac := Ax) (nc := 0) (cc := cx) (w := X) ((q : Int) - 1) E0.out R9.out.lx h2 (by rw [← R9.out.lx]; exact R9.out.gd.lenc) (T0.out.later (R9.out.later hX).bel (Nat.le_refl _)) (R9.out.ax.later (R9.out.later hX).bel (Nat.le_refl _)))
                  rw [hs] at GO RO
                  clear hs
                  go_wp2_with fail
                  go_region_with (first
                    | (go_at_call 9; refine (GO.out _ ?_).mono ?_; (first | exact BQ.out.drew | exact (BQ.out.drew.trans (bb9.mono BQ.out.size))); rintro e wx ⟨rfl, rfl⟩)
                    | (go_at_call 16; refine (RO.out _ ?_).mono ?_; (first | exact BQ.out.drew); rintro e wx ⟨rfl, bb9⟩))
                  all_goals
                    have BX := Lib.hid (BQ.out.drew.trans (bb9.mono BQ.out.size))
                    clear bb9
                    go_wp2_with fail
                    go_round
                    case rel => exact ⟨q + 1, by omega, by go_num, BX.out⟩
                    case measure => simp [intOf]; omega
                · obtain rfl : q = 66 := by omega
                  have RE := Lib.hid (R9.out.later BQ.out)
                  clear BQ R9
                  go_wp2_with fail
                  go_round
                  case rel => exact ⟨k + 1, _, _, _, _, _, _, _, by omega, by omega, by go_num, RE.out⟩
                  case measure => simp [intOf]; omega
      · obtain rfl : k = 40 := by omega
        have G3 := Lib.hid (HG.out.later RR.out.bel (Nat.le_refl _))
        go_wp2_with fail
        refine (sure26 _ G3.out).mono ?_
        rintro e w' ⟨rfl, bb⟩
        have BB := Lib.hid (RR.out.bel.trans (bb.mono RR.out.bel.size))
        clear bb
        go_wp2_with fail
        go_ret
        exact ⟨rfl, BB.out⟩
    · obtain rfl : k = n2 := by omega
      have G3 := Lib.hid (HG.out.later RR.out.bel (Nat.le_refl _))
      go_wp2_with fail
      refine (sure26 _ G3.out).mono ?_
      rintro e w' ⟨rfl, bb⟩
      have BB := Lib.hid (RR.out.bel.trans (bb.mono RR.out.bel.size))
      clear bb
      go_wp2_with fail
      go_ret
      exact ⟨rfl, BB.out⟩
theorem gruns_any (A0 : Option Addr) (n0 c0 : Nat) (l0 : List Int) (N : Int) (A2 : Option Addr) (n2 c2 : Nat) (w : World) (e0 : l0.length = n0) (a0 : At w A0 (ints .i64 l0)) (y0 : A0 = none → n0 = 0) (m2 : n2 ≤ 9223372036854775807) (a2 : ∀ i, i < n2 → RowAt w .i64 A2 i) (hg : Glob w) :
    Calls Tryd.prog 4 #[.slice A0 n0 c0, .int .i64 N, .slice A2 n2 c2] w fun e w' => e = .returned (.bool true) ∧ Below w.heap.size w w' := by
  by_cases h : 100 < n0
  · exact gruns_long A0 n0 c0 l0 N A2 n2 c2 w e0 a0 y0 m2 a2 hg h
  · by_cases h3 : SetM.may l0 = false ∨ N < 1 ∨ (n0 : Int) < N
    · exact gruns_bad A0 n0 c0 l0 N A2 n2 c2 w e0 a0 y0 m2 a2 hg (by omega) h3
    · have hm : SetM.may l0 = true := by
        cases e : SetM.may l0
        · exact absurd (.inl e) h3
        · rfl
      exact gruns_in A0 n0 c0 l0 N A2 n2 c2 w e0 a0 y0 m2 a2 hg (by omega) hm (fun h1 => h3 (.inr (.inl h1))) (fun h1 => h3 (.inr (.inr h1)))
end Go.Proofs.YtpcghenjmiacbaaDoor
