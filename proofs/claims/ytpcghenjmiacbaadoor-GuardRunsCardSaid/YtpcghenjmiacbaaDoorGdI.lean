/- Layer 26: the walk of GuardOne. -/
import Derived.Test.YtpcghenjmiacbaaDoorGdH
namespace Go.Proofs.YtpcghenjmiacbaaDoor
open Go.RowKit
theorem z64 : (#[.int .i64 0, .int .i64 0, .int .i64 0, .int .i64 0, .int .i64 0, .int .i64 0, .int .i64 0, .int .i64 0, .int .i64 0, .int .i64 0, .int .i64 0, .int .i64 0, .int .i64 0, .int .i64 0, .int .i64 0, .int .i64 0, .int .i64 0, .int .i64 0, .int .i64 0, .int .i64 0, .int .i64 0, .int .i64 0, .int .i64 0, .int .i64 0, .int .i64 0, .int .i64 0, .int .i64 0, .int .i64 0, .int .i64 0, .int .i64 0, .int .i64 0, .int .i64 0, .int .i64 0, .int .i64 0, .int .i64 0, .int .i64 0, .int .i64 0, .int .i64 0, .int .i64 0, .int .i64 0, .int .i64 0, .int .i64 0, .int .i64 0, .int .i64 0, .int .i64 0, .int .i64 0, .int .i64 0, .int .i64 0, .int .i64 0, .int .i64 0, .int .i64 0, .int .i64 0, .int .i64 0, .int .i64 0, .int .i64 0, .int .i64 0, .int .i64 0, .int .i64 0, .int .i64 0, .int .i64 0, .int .i64 0, .int .i64 0, .int .i64 0, .int .i64 0] : Array Value) = c64 fun _ => 0 := by kernel_rfl
theorem GR.congr {w wr : World} {g p : Nat} {who cur : List Int} {need : Int} {asked : Bool} {Aw Ac : Option Addr} {cw cc : Nat} {f f' : Nat → Int} (h : GR w wr g p who need cur asked Aw cw Ac cc f) (hf : ∀ v, v < 64 → f' v = f v) : GR w wr g p who need cur asked Aw cw Ac cc f' :=
  ⟨h.gd, by rw [c64_congr hf]; exact h.out, h.bel, h.gs, h.pg, h.ps, h.fw, h.fc⟩
set_option maxRecDepth 100000 in
theorem gone_short (A0 : Option Addr) (n0 c0 : Nat) (l0 : List Int) (x : Nat) (A2 : Option Addr) (n2 c2 : Nat) (w : World) (e0 : l0.length = n0) (a0 : At w A0 (ints .i64 l0)) (y0 : A0 = none → n0 = 0) (hx : x < 256) (m2 : n2 ≤ 9223372036854775807) (a2 : ∀ i, i < n2 → RowAt w .i64 A2 i) (hg : Glob w) (h : n0 = 0 ∨ 100 < n0) :
    Calls Tryd.prog 3 #[.slice A0 n0 c0, .int .u8 x, .slice A2 n2 c2] w fun e w' => e = .returned (.bool true) ∧ Below w.heap.size w w' := by
  have HG := Lib.hid hg
  have B0 := Below.refl w.heap.size w
  clear hg a0 a2 y0
  by_cases h1 : 100 < n0
  · have d1 : decide (100 < n0) = true := decide_eq_true h1
    clear h
    go_enter Tryd.func3, Tryd.ntmps3
    go_wp2_with fail
    refine (sure26 _ HG.out).mono ?_
    rintro e w' ⟨rfl, bb⟩
    have BB := Lib.hid (B0.trans (bb.mono B0.size))
    clear bb
    go_wp2_with fail
    go_ret
    exact ⟨rfl, BB.out⟩
  · have d1 : decide (100 < n0) = false := decide_eq_false h1
    have h0 : n0 = 0 := by omega
    subst h0
    clear h
    go_enter Tryd.func3, Tryd.ntmps3
    go_wp2_with fail
    refine (sure26 _ HG.out).mono ?_
    rintro e w' ⟨rfl, bb⟩
    have BB := Lib.hid (B0.trans (bb.mono B0.size))
    clear bb
    go_wp2_with fail
    go_ret
    exact ⟨rfl, BB.out⟩
set_option maxRecDepth 100000 in
theorem gone_bad (A0 : Option Addr) (n0 c0 : Nat) (l0 : List Int) (x : Nat) (A2 : Option Addr) (n2 c2 : Nat) (w : World) (e0 : l0.length = n0) (a0 : At w A0 (ints .i64 l0)) (y0 : A0 = none → n0 = 0) (hx : x < 256) (m2 : n2 ≤ 9223372036854775807) (a2 : ∀ i, i < n2 → RowAt w .i64 A2 i) (hg : Glob w) (h1 : 1 ≤ n0) (h2 : n0 ≤ 100) (hm : SetM.may l0 = false) :
    Calls Tryd.prog 3 #[.slice A0 n0 c0, .int .u8 x, .slice A2 n2 c2] w fun e w' => e = .returned (.bool true) ∧ Below w.heap.size w w' := by
  have HG := Lib.hid hg
  have E0 := Lib.hid e0
  have T0 := Lib.hid a0
  have Y0 := Lib.hid y0
  have HM := Lib.hid hm
  have HC := Lib.hid a2
  have d0 : ((n0 : Int) == 0) = false := by simp; omega
  have d1 : decide (100 < n0) = false := decide_eq_false (by omega)
  have d4 : (n0 : Int) ≠ 0 := by omega
  have hq := Nat.mod_lt x (show 0 < n0 by omega)
  clear hg a0 y0 hm e0 a2
  go_enter Tryd.func3, Tryd.ntmps3
  go_wp2_with fail
  refine (gnew_no A0 n0 c0 l0 _ _ E0.out (by omega) T0.out (.inl HM.out)).mono ?_
  rintro e w2 ⟨rfl, rfl⟩
  have B0 := Below.refl w.heap.size w
  go_wp2_with fail
  refine (sure26 _ HG.out).mono ?_
  rintro e w' ⟨rfl, bb⟩
  have BB := Lib.hid (B0.trans (bb.mono B0.size))
  clear bb
  go_wp2_with fail
  go_ret
  exact ⟨rfl, BB.out⟩
set_option maxRecDepth 100000 in
set_option maxHeartbeats 4000000 in
theorem gone_in (A0 : Option Addr) (n0 c0 : Nat) (l0 : List Int) (x : Nat) (A2 : Option Addr) (n2 c2 : Nat) (w : World) (e0 : l0.length = n0) (a0 : At w A0 (ints .i64 l0)) (y0 : A0 = none → n0 = 0) (hx : x < 256) (m2 : n2 ≤ 9223372036854775807) (a2 : ∀ i, i < n2 → RowAt w .i64 A2 i) (hg : Glob w) (h1 : 1 ≤ n0) (h2 : n0 ≤ 100) (hm : SetM.may l0 = true) :
    Calls Tryd.prog 3 #[.slice A0 n0 c0, .int .u8 x, .slice A2 n2 c2] w fun e w' => e = .returned (.bool true) ∧ Below w.heap.size w w' := by
  have HG := Lib.hid hg
  have E0 := Lib.hid e0
  have T0 := Lib.hid a0
  have Y0 := Lib.hid y0
  have HM := Lib.hid hm
  have HC := Lib.hid a2
  have d0 : ((n0 : Int) == 0) = false := by simp; omega
  have d1 : decide (100 < n0) = false := decide_eq_false (by omega)
  have d4 : (n0 : Int) ≠ 0 := by omega
  have hq := Nat.mod_lt x (show 0 < n0 by omega)
  clear hg a0 y0 hm e0 a2
  go_enter Tryd.func3, Tryd.ntmps3
  go_wp2_with fail
  obtain ⟨N, hN⟩ : ∃ N : Int, 1 + (x : Int) % (n0 : Int) = N := ⟨_, rfl⟩
  rw [hN]
  have hN1 : 1 ≤ N := by have := Int.emod_nonneg (x : Int) d4; omega
  have hN2 : N ≤ n0 := by have := Int.emod_lt_of_pos (x : Int) (show 0 < (n0 : Int) by omega); omega
  clear hN hq d4
  refine (gnew_ok A0 n0 c0 l0 N _ E0.out (by omega) T0.out Y0.out HM.out (by omega) (by omega)).mono ?_
  rintro e w2 ⟨g, Aw, cw, rfl, gd, b2, hgs⟩
  have RA := Lib.hid (show GR w (w2.alloc (.cells (c64 fun _ => 0) 30)) g w2.heap.size l0 N [] false Aw cw none 0 (fun v => SetM.outOf l0 [] false (v : Int)) from
    ⟨gd.later ((Below.refl _ _).alloc (Nat.le_refl _) _), by rw [c64_congr (f := fun v => SetM.outOf l0 [] false (v : Int)) (g := fun _ => 0) (fun v _ => by simp [SetM.outOf])]; exact Holds.new w2 _ _ _ rfl, b2.trans (((Below.refl _ _).alloc (Nat.le_refl _) _).mono b2.size), hgs, Nat.ne_of_lt gd.lay.lt, b2.size, fun e => Nat.lt_irrefl _ (gd.farw _ e).1, by simp [blk]⟩)
  clear gd b2 hgs
  go_wp2_with fail
  rw [z64]
  generalize (w2.alloc (.cells (c64 fun _ => 0) 30)) = w3 at RA ⊢
  generalize w2.heap.size = p at RA ⊢
  go_loopw [10] (fun i wr => ∃ (k : Nat) (cur : List Int) (asked : Bool) (Ac : Option Addr) (cc : Nat), k ≤ n2 ∧ k ≤ 40 ∧ i = .int .i64 (k : Int) ∧ GR w wr g p l0 N cur asked Aw cw Ac cc (fun v => SetM.outOf l0 cur asked (v : Int))) (fun i _ => n2 - (intOf i).toNat)
  case atStart => exact ⟨0, [], false, none, 0, by omega, by omega, rfl, RA.out⟩
  case round =>
    obtain ⟨k, cur, asked, Ac, cc, hk1, hk2, rfl, hr⟩ := hrel
    have RR := Lib.hid hr
    clear hr RA
    by_cases hlt : k < n2
    · by_cases h40 : k < 40
      · obtain ⟨b, o, D, nD, cD, d, rfl, hc, hl, hmD, ha, hz⟩ := HC.out k hlt
        have hc' := (RR.out.bel.cell (p := ⟨b, o + k, none⟩) (World.block_lt_of_cell? w _ hc)).trans hc
        have HBK := Lib.hid (World.block_lt_of_cell? w _ hc)
        have HCC := Lib.hid hc
        have HL := Lib.hid hl
        have HA := Lib.hid ha
        have HZ := Lib.hid hz
        clear hc hl ha hz
        have k0 : (0 : Int) ≤ (k : Int) := by omega
        by_cases hd : 100 < nD
        · have dd : decide (100 < nD) = true := decide_eq_true hd
          go_wp2_with fail
          go_round
          case rel => exact ⟨k + 1, cur, asked, Ac, cc, by omega, by omega, by go_num, RR.out⟩
          case measure => simp [intOf]; omega
        · have dd : decide (100 < nD) = false := decide_eq_false hd
          by_cases hk : SetM.askCode l0 N cur asked d = 0
          · have HST := Lib.hid (fun id => outOf_stays (id := id) hk)
            have HK := Lib.hid hk
            clear hk
            go_wp2_with fail
            refine (gask_0f D nD cD d RR.out.gd HL.out (by omega) (HA.out.later RR.out.bel (Nat.le_refl _)) HZ.out HK.out).mono ?_
            rintro e w4 ⟨rfl, Ac4, cc4, gd, gr, gf⟩
            have R4 := Lib.hid (RR.out.ask gd gr gf)
            clear gd gr gf RR hc'
            go_wp2_with fail
            go_loopw [12] (fun j wq => ∃ q : Nat, q ≤ 64 ∧ j = .int .i64 (q : Int) ∧ GR w wq g p l0 N d true Aw cw Ac4 cc4 (fun v => if v < q then SetM.outOf l0 d true (v : Int) else SetM.outOf l0 cur asked (v : Int))) (fun j _ => 64 - (intOf j).toNat)
            case atStart => exact ⟨0, by omega, rfl, R4.out.congr (fun v _ => by rw [if_neg (Nat.not_lt_zero v)])⟩
            case round =>
              obtain ⟨q, hq64, rfl, hrq⟩ := hrel
              have RQ := Lib.hid hrq
              clear hrq
              by_cases hlq : q < 64
              · have zc : wr.cell? ⟨p, q, none⟩ = some (.int .i64 (SetM.outOf l0 cur asked (q : Int))) := by
                  rw [RQ.out.out.cell q, c64_get _ q hlq, if_neg (Nat.lt_irrefl q)]
                have zf : wr.frozen? ⟨p, q, none⟩ = false := RQ.out.out.frozen q
                have hcq := (RQ.out.bel.cell (p := ⟨b, o + k, none⟩) HBK.out).trans HCC.out
                have CO := gout_any (q : Int) RQ.out.gd
                have hst := HST.out (q : Int)
                have hcm := @outOf_came l0 d (q : Int)
                have CH := refHas_any D nD cD d (q : Int) wr HL.out (by omega) (HA.out.later RQ.out.bel (Nat.le_refl _))
                have hsc := outOf_cases l0 d true (q : Int)
                obtain ⟨s, hs⟩ : ∃ s, SetM.outOf l0 d true (q : Int) = s := ⟨_, rfl⟩
                have RS := Lib.hid (RQ.out.set (f' := fun v => if v < q + 1 then SetM.outOf l0 d true (v : Int) else SetM.outOf l0 cur asked (v : Int)) q s (fun v _ => by
                  by_cases hv : v = q
                  · subst hv; rw [if_pos (Nat.lt_succ_self v), if_pos rfl]; exact hs
                  · rw [if_neg hv]; by_cases h3 : v < q
                    · rw [if_pos h3, if_pos (by omega)]
                    · rw [if_neg h3, if_neg (by omega)]))
                obtain ⟨t, ht⟩ : ∃ t, SetM.outOf l0 cur asked (q : Int) = t := ⟨_, rfl⟩
                rw [hs] at CO hst hsc hcm
                rw [ht] at zc hst
                have HCO := Lib.hid CO
                have HCH := Lib.hid CH
                clear CO CH hs ht
                have hcs : (s = 0 ∧ t = 0) ∨ (s = 1 ∧ t = 0 ∧ SetM.has d (q : Int) = true) ∨ (s = 1 ∧ t = 1 ∧ SetM.has d (q : Int) = true) ∨ (s = 2 ∧ t = 0 ∧ SetM.has d (q : Int) = false) ∨ (s = 2 ∧ t = 2 ∧ SetM.has d (q : Int) = false) := by
                  rcases hsc with rfl | rfl | rfl
                  · rcases hst with h | h <;> exact .inl ⟨rfl, h⟩
                  · have hh : SetM.has d (q : Int) = true := by
                      have h := hcm (by decide)
                      cases e : SetM.has d (q : Int)
                      · rw [e] at h; cases h
                      · rfl
                    rcases hst with h | h
                    · exact .inr (.inl ⟨rfl, h, hh⟩)
                    · exact .inr (.inr (.inl ⟨rfl, h, hh⟩))
                  · have hh : SetM.has d (q : Int) = false := by
                      have h := hcm (by decide)
                      cases e : SetM.has d (q : Int)
                      · rfl
                      · rw [e] at h; cases h
                    rcases hst with h | h
                    · exact .inr (.inr (.inr (.inl ⟨rfl, h, hh⟩)))
                    · exact .inr (.inr (.inr (.inr ⟨rfl, h, hh⟩)))
                clear hst hsc hcm
                rcases hcs with ⟨rfl, rfl⟩ | ⟨rfl, rfl, hh⟩ | ⟨rfl, rfl, hh⟩ | ⟨rfl, rfl, hh⟩ | ⟨rfl, rfl, hh⟩
                · go_wp2_with fail
                  refine HCO.out.mono ?_
                  rintro e w' ⟨rfl, rfl⟩
                  go_wp2_with fail
                  go_round
                  case rel => exact ⟨q + 1, by omega, by go_num, RS.out⟩
                  case measure => simp [intOf]; omega
                · rw [hh] at HCH
                  clear hh
                  go_wp2_with fail
                  refine HCO.out.mono ?_
                  rintro e w' ⟨rfl, rfl⟩
                  go_wp2_with fail
                  refine HCH.out.mono ?_
                  rintro e w' ⟨rfl, rfl⟩
                  go_wp2_with fail
                  go_round
                  case rel => exact ⟨q + 1, by omega, by go_num, RS.out⟩
                  case measure => simp [intOf]; omega
                · rw [hh] at HCH
                  clear hh
                  go_wp2_with fail
                  refine HCO.out.mono ?_
                  rintro e w' ⟨rfl, rfl⟩
                  go_wp2_with fail
                  refine HCH.out.mono ?_
                  rintro e w' ⟨rfl, rfl⟩
                  go_wp2_with fail
                  go_round
                  case rel => exact ⟨q + 1, by omega, by go_num, RS.out⟩
                  case measure => simp [intOf]; omega
                · rw [hh] at HCH
                  clear hh
                  go_wp2_with fail
                  refine HCO.out.mono ?_
                  rintro e w' ⟨rfl, rfl⟩
                  go_wp2_with fail
                  refine HCH.out.mono ?_
                  rintro e w' ⟨rfl, rfl⟩
                  go_wp2_with fail
                  go_round
                  case rel => exact ⟨q + 1, by omega, by go_num, RS.out⟩
                  case measure => simp [intOf]; omega
                · rw [hh] at HCH
                  clear hh
                  go_wp2_with fail
                  refine HCO.out.mono ?_
                  rintro e w' ⟨rfl, rfl⟩
                  go_wp2_with fail
                  refine HCH.out.mono ?_
                  rintro e w' ⟨rfl, rfl⟩
                  go_wp2_with fail
                  go_round
                  case rel => exact ⟨q + 1, by omega, by go_num, RS.out⟩
                  case measure => simp [intOf]; omega
              · obtain rfl : q = 64 := by omega
                have RE := Lib.hid (RQ.out.congr (f' := fun v => SetM.outOf l0 d true (v : Int)) (fun v hv => by rw [if_pos hv]))
                clear RQ
                go_wp2_with fail
                go_round
                case rel => exact ⟨k + 1, _, _, _, _, by omega, by omega, by go_num, RE.out⟩
                case measure => simp [intOf]; omega
          · have HST := Lib.hid (fun (id : Int) => (.inl rfl : SetM.outOf l0 cur asked id = SetM.outOf l0 cur asked id ∨ True))
            have HK := Lib.hid hk
            clear hk
            go_wp2_with fail
            refine (gask_kf D nD cD d RR.out.gd HL.out (by omega) (HA.out.later RR.out.bel (Nat.le_refl _)) HZ.out _ rfl HK.out).mono ?_
            rintro e w4 ⟨rfl, Ac4, cc4, gd, gr, gf⟩
            have R4 := Lib.hid (RR.out.ask gd gr gf)
            clear gd gr gf RR hc'
            go_wp2_with fail
            go_loopw [12] (fun j wq => ∃ q : Nat, q ≤ 64 ∧ j = .int .i64 (q : Int) ∧ GR w wq g p l0 N cur asked Aw cw Ac4 cc4 (fun v => if v < q then SetM.outOf l0 cur asked (v : Int) else SetM.outOf l0 cur asked (v : Int))) (fun j _ => 64 - (intOf j).toNat)
            case atStart => exact ⟨0, by omega, rfl, R4.out.congr (fun v _ => by rw [if_neg (Nat.not_lt_zero v)])⟩
            case round =>
              obtain ⟨q, hq64, rfl, hrq⟩ := hrel
              have RQ := Lib.hid hrq
              clear hrq
              by_cases hlq : q < 64
              · have zc : wr.cell? ⟨p, q, none⟩ = some (.int .i64 (SetM.outOf l0 cur asked (q : Int))) := by
                  rw [RQ.out.out.cell q, c64_get _ q hlq, if_neg (Nat.lt_irrefl q)]
                have zf : wr.frozen? ⟨p, q, none⟩ = false := RQ.out.out.frozen q
                have hcq := (RQ.out.bel.cell (p := ⟨b, o + k, none⟩) HBK.out).trans HCC.out
                have CO := gout_any (q : Int) RQ.out.gd
                have hst := HST.out (q : Int)
                have hsc := outOf_cases l0 cur asked (q : Int)
                obtain ⟨s, hs⟩ : ∃ s, SetM.outOf l0 cur asked (q : Int) = s := ⟨_, rfl⟩
                have RS := Lib.hid (RQ.out.set (f' := fun v => if v < q + 1 then SetM.outOf l0 cur asked (v : Int) else SetM.outOf l0 cur asked (v : Int)) q s (fun v _ => by
                  by_cases hv : v = q
                  · subst hv; rw [if_pos (Nat.lt_succ_self v), if_pos rfl]; exact hs
                  · rw [if_neg hv]; by_cases h3 : v < q
                    · rw [if_pos h3, if_pos (by omega)]
                    · rw [if_neg h3, if_neg (by omega)]))
                rw [hs] at CO hsc zc
                have HCO := Lib.hid CO
                clear CO hs hst
                rcases hsc with rfl | rfl | rfl
                · go_wp2_with fail
                  refine HCO.out.mono ?_
                  rintro e w' ⟨rfl, rfl⟩
                  go_wp2_with fail
                  go_round
                  case rel => exact ⟨q + 1, by omega, by go_num, RS.out⟩
                  case measure => simp [intOf]; omega
                · go_wp2_with fail
                  refine HCO.out.mono ?_
                  rintro e w' ⟨rfl, rfl⟩
                  go_wp2_with fail
                  go_round
                  case rel => exact ⟨q + 1, by omega, by go_num, RS.out⟩
                  case measure => simp [intOf]; omega
                · go_wp2_with fail
                  refine HCO.out.mono ?_
                  rintro e w' ⟨rfl, rfl⟩
                  go_wp2_with fail
                  go_round
                  case rel => exact ⟨q + 1, by omega, by go_num, RS.out⟩
                  case measure => simp [intOf]; omega
              · obtain rfl : q = 64 := by omega
                have RE := Lib.hid (RQ.out.congr (f' := fun v => SetM.outOf l0 cur asked (v : Int)) (fun v hv => by rw [if_pos hv]))
                clear RQ
                go_wp2_with fail
                go_round
                case rel => exact ⟨k + 1, _, _, _, _, by omega, by omega, by go_num, RE.out⟩
                case measure => simp [intOf]; omega
      · obtain rfl : k = 40 := by omega
        have G3 := Lib.hid (HG.out.later RR.out.bel (Nat.le_refl _))
        go_wp2_with fail
        refine (sure26 _ G3.out).mono ?_
        rintro e w' ⟨rfl, bb⟩
        have BB := Lib.hid (RR.out.bel.trans (bb.mono RR.out.bel.size))
        clear bb
        go_wp2_with fail
        go_ret
        exact ⟨rfl, BB.out⟩
    · obtain rfl : k = n2 := by omega
      have G3 := Lib.hid (HG.out.later RR.out.bel (Nat.le_refl _))
      go_wp2_with fail
      refine (sure26 _ G3.out).mono ?_
      rintro e w' ⟨rfl, bb⟩
      have BB := Lib.hid (RR.out.bel.trans (bb.mono RR.out.bel.size))
      clear bb
      go_wp2_with fail
      go_ret
      exact ⟨rfl, BB.out⟩
theorem gone_any (A0 : Option Addr) (n0 c0 : Nat) (l0 : List Int) (x : Nat) (A2 : Option Addr) (n2 c2 : Nat) (w : World) (e0 : l0.length = n0) (a0 : At w A0 (ints .i64 l0)) (y0 : A0 = none → n0 = 0) (hx : x < 256) (m2 : n2 ≤ 9223372036854775807) (a2 : ∀ i, i < n2 → RowAt w .i64 A2 i) (hg : Glob w) :
    Calls Tryd.prog 3 #[.slice A0 n0 c0, .int .u8 x, .slice A2 n2 c2] w fun e w' => e = .returned (.bool true) ∧ Below w.heap.size w w' := by
  by_cases h : n0 = 0 ∨ 100 < n0
  · exact gone_short A0 n0 c0 l0 x A2 n2 c2 w e0 a0 y0 hx m2 a2 hg h
  · cases hm : SetM.may l0 with
    | false => exact gone_bad A0 n0 c0 l0 x A2 n2 c2 w e0 a0 y0 hx m2 a2 hg (by omega) (by omega) hm
    | true => exact gone_in A0 n0 c0 l0 x A2 n2 c2 w e0 a0 y0 hx m2 a2 hg (by omega) (by omega) hm
end Go.Proofs.YtpcghenjmiacbaaDoor
