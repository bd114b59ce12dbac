/- Layer 26: the guard: Ask. -/
import Derived.Test.YtpcghenjmiacbaaDoorGdB
namespace Go.Proofs.YtpcghenjmiacbaaDoor
open Go.RowKit
section
variable {w w' : World} {g : Nat} {who cur : List Int} {need : Int} {asked : Bool} {Aw Ac : Option Addr} {cw cc : Nat}
def AskP (w : World) (g : Nat) (who : List Int) (need : Int) (cur : List Int) (asked : Bool) (Aw : Option Addr) (cw : Nat) (Ac : Option Addr) (l : List Int) (e : Ending) (w' : World) : Prop :=
  ∃ cur' asked' Ac' cc', e = .returned (errK (SetM.askCode who need cur asked l)) ∧ Gd w' g who need cur' asked' Aw cw Ac' cc' ∧ (cur', asked') = (if SetM.askCode who need cur asked l = 0 then (l, true) else (cur, asked)) ∧ w.grownBy w' (some g) ∧ ∀ k, blk Ac' = some k → blk Ac = some k ∨ w.heap.size ≤ k
theorem grown_of_below {r : Option Nat} (h : Below w.heap.size w w') : w.grownBy w' r := ⟨h.os, h.tape, h.output, h.size, fun k hk _ => h.block k hk⟩
theorem Gd.same (h : Gd w g who need cur asked Aw cw Ac cc) (hb : Below w.heap.size w w') (l : List Int) (k : Int) (hk : SetM.askCode who need cur asked l = k) (h0 : k ≠ 0) :
    AskP w g who need cur asked Aw cw Ac l (.returned (.iface 48 (.int .i64 k))) w' :=
  ⟨cur, asked, Ac, cc, by rw [hk]; simp [errK, h0], h.later hb, by rw [hk, if_neg h0], grown_of_below hb, fun k e => .inl e⟩
/-- what an asking that is right leaves -/
theorem Gd.took {A1 : Option Addr} {c1 n : Nat} {l : List Int} (h : Gd w g who need cur asked Aw cw Ac cc) (hb : Below w.heap.size w w') (hl : l.length = n) (hn : n ≤ 100) (ha : At w' A1 (ints .i64 l)) (hk : ∀ k, blk A1 = some k → w.heap.size ≤ k ∧ k < w'.heap.size) (hz : A1 = none → n = 0) (hc : SetM.askCode who need cur asked l = 0) :
    AskP w g who need cur asked Aw cw Ac l (.returned .nilIface) ((w'.setCell ⟨g, 2, none⟩ (.slice A1 n c1)).setCell ⟨g, 3, none⟩ (.bool true)) := by
  have h2 := h.later hb
  have ltg := h.lay.lt
  have hg : w'.grownBy ((w'.setCell ⟨g, 2, none⟩ (.slice A1 n c1)).setCell ⟨g, 3, none⟩ (.bool true)) (some g) := grown_set (grown_set (grown_refl _ _) 2 _) 3 _
  have hg2 : w.grownBy ((w'.setCell ⟨g, 2, none⟩ (.slice A1 n c1)).setCell ⟨g, 3, none⟩ (.bool true)) (some g) := grown_trans (grown_of_below hb) hg
  refine ⟨l, true, A1, c1, by rw [hc]; rfl, ⟨?_, ?_, ?_, fun k e => ⟨Nat.lt_of_lt_of_le (h2.farw k e).1 hg.size, (h2.farw k e).2⟩, fun k e => ⟨Nat.lt_of_lt_of_le (hk k e).2 hg.size, by have := (hk k e).1; omega⟩, fun e => by rw [hl]; exact hz e, h.lenw, by rw [hl]; exact hn⟩, by rw [hc, if_pos rfl], hg2, fun k e => .inr (hk k e).1⟩
  · rw [hl]
    exact (h2.lay.set 2 (.slice A1 n c1)).set 3 (.bool true)
  · refine h2.atw.grown hg ?_
    cases e : blk Aw with
    | none => exact .inl rfl
    | some k => exact .inr (fun e2 => (h2.farw k e).2 (by injection e2))
  · refine ha.grown hg ?_
    cases e : blk A1 with
    | none => exact .inl rfl
    | some k => exact .inr (fun e2 => by injection e2 with e2; have := (hk k e).1; omega)
set_option maxRecDepth 100000 in
set_option maxHeartbeats 2000000 in
theorem gask_any (A : Option Addr) (n c : Nat) (l : List Int) (h : Gd w g who need cur asked Aw cw Ac cc) (hl : l.length = n) (hn : n ≤ 100) (ha : At w A (ints .i64 l)) (hz : A = none → n = 0) :
    Calls Tryd.prog 8 #[.pointer (some ⟨g, 0, none⟩), .slice A n c] w (AskP w g who need cur asked Aw cw Ac l) := by
  have p0 : w.cell? ⟨g, 0, none⟩ = some (.slice Aw who.length cw) := h.lay.cell 0
  have HL := Lib.hid hl
  have HA := Lib.hid ha
  have HZ := Lib.hid hz
  have HG := Lib.hid h
  have C := Lib.hid (setCheck_any A n c l w hl (by omega) ha)
  have S := Lib.hid (setLess_any A n c l Aw who.length cw who w hl (by omega) ha rfl (by have := h.lenw; omega) h.atw)
  have ltg := h.lay.lt
  clear hl ha hz h
  cases hm : SetM.may l with
  | false =>
    rw [hm] at C
    have R := Lib.hid (HG.out.same (Below.refl _ _) l 1 (SetM.askCode_1 (by rw [hm]; rfl)) (by decide))
    clear hm
    go_enter Tryd.func8, Tryd.ntmps8
    go_wp2_with fail
    refine C.out.mono ?_
    rintro e w1 ⟨rfl, rfl⟩
    simp only [errIf, Bool.false_eq_true, if_false]
    go_wp2_with fail
    go_ret
    exact R.out
  | true =>
    rw [hm] at C
    have LN := SetM.less_nil (who := who) hm
    obtain ⟨D, hD⟩ : ∃ D, SetM.elems (SetM.op 2 (SetM.bitsOf l) (SetM.bitsOf who)) = D := ⟨_, rfl⟩
    rw [hD] at LN S
    clear hD
    cases hs : SetM.sub who l with
    | false =>
      have d0 : decide (0 < D.length) = true := by
        rw [decide_eq_true_eq]; rcases Nat.eq_zero_or_pos D.length with h | h
        · have := LN.1 h; rw [hs] at this; cases this
        · exact h
      have R := Lib.hid (fun (W : World) hW => HG.out.same (w' := W) hW l 1 (SetM.askCode_1 (by rw [hm, hs]; rfl)) (by decide))
      clear hm hs LN
      go_enter Tryd.func8, Tryd.ntmps8
      go_wp2_with fail
      refine C.out.mono ?_
      rintro e w1 ⟨rfl, rfl⟩
      simp only [errIf, if_true]
      go_wp2_with fail
      refine S.out.mono ?_
      rintro e w2 ⟨A2, c2, rfl, _, hb⟩
      have HB := Lib.hid hb
      clear hb
      go_wp2_with fail
      go_ret
      exact R.out _ HB.out
    | true =>
      have d0 : decide (0 < D.length) = false := by
        rw [decide_eq_false_iff_not]; have := LN.2 hs; omega
      have hms : (SetM.may l && SetM.sub who l) = true := by rw [hm, hs]; rfl
      by_cases hf : (n : Int) < need
      · have d1 : decide ((n : Int) < need) = true := decide_eq_true hf
        have R := Lib.hid (fun (W : World) hW => HG.out.same (w' := W) hW l 7 (SetM.askCode_7 hms (by rw [HL.out]; exact hf)) (by decide))
        clear hm hs LN hf hms
        go_enter Tryd.func8, Tryd.ntmps8
        go_wp2_with fail
        refine C.out.mono ?_
        rintro e w1 ⟨rfl, rfl⟩
        simp only [errIf, if_true]
        go_wp2_with fail
        refine S.out.mono ?_
        rintro e w2 ⟨A2, c2, rfl, _, hb⟩
        have HB := Lib.hid hb
        have q1 : w2.cell? ⟨g, 1, none⟩ = some (.int .i64 need) := (HG.out.lay.later hb (Nat.le_refl _)).cell 1
        clear hb
        go_wp2_with fail
        go_ret
        exact R.out _ HB.out
      · have d1 : decide ((n : Int) < need) = false := decide_eq_false hf
        cases hk : asked with
        | false =>
          subst hk
          have R := Lib.hid (SetM.askCode_0 (cur := cur) hms (by rw [HL.out]; exact hf) (.inl rfl))
          clear hm hs LN hf hms
          go_enter Tryd.func8, Tryd.ntmps8
          go_wp2_with fail
          refine C.out.mono ?_
          rintro e w1 ⟨rfl, rfl⟩
          simp only [errIf, if_true]
          go_wp2_with fail
          refine S.out.mono ?_
          rintro e w2 ⟨A2, c2, rfl, _, hb⟩
          have HB := Lib.hid hb
          have L2 := HG.out.lay.later hb (Nat.le_refl _)
          have q1 : w2.cell? ⟨g, 1, none⟩ = some (.int .i64 need) := L2.cell 1
          have q3 : w2.cell? ⟨g, 3, none⟩ = some (.bool false) := L2.cell 3
          have K := Lib.hid (cloneI_any A n c l w2 HL.out (by omega) (HA.out.later hb (Nat.le_refl _)) HZ.out)
          clear hb L2
          go_wp2_with fail
          refine K.out.mono ?_
          rintro e w3 ⟨A1, c1, rfl, hat, hnn, hkk, hb3⟩
          have HB3 := Lib.hid (HB.out.trans (hb3.mono HB.out.size))
          have L3 := HG.out.lay.later HB3.out (Nat.le_refl _)
          have r2 : w3.cell? ⟨g, 2, none⟩ = some (.slice Ac cur.length cc) := L3.cell 2
          have r3 : w3.cell? ⟨g, 3, none⟩ = some (.bool false) := L3.cell 3
          have f2 : w3.frozen? ⟨g, 2, none⟩ = false := L3.frozen 2
          have f3 : w3.frozen? ⟨g, 3, none⟩ = false := L3.frozen 3
          have T := Lib.hid (HG.out.took (c1 := c1) HB3.out HL.out hn hat (fun k e => ⟨Nat.le_trans HB.out.size (hkk k e).1, (hkk k e).2⟩) hnn R.out)
          clear hat hnn hkk hb3 L3 K q1 q3 p0
          go_wp2_with fail
          go_ret
          exact T.out
        | true =>
          subst hk
          by_cases he : l = cur
          · have R := Lib.hid (SetM.askCode_0 (cur := cur) (asked := true) hms (by rw [HL.out]; exact hf) (.inr he))
            have de : decide (l = cur) = true := decide_eq_true he
            have HE := Lib.hid de
            clear hm hs LN hf hms he de
            go_enter Tryd.func8, Tryd.ntmps8
            go_wp2_with fail
            refine C.out.mono ?_
            rintro e w1 ⟨rfl, rfl⟩
            simp only [errIf, if_true]
            go_wp2_with fail
            refine S.out.mono ?_
            rintro e w2 ⟨A2, c2, rfl, _, hb⟩
            have HB := Lib.hid hb
            have G2 := HG.out.later hb
            have q1 : w2.cell? ⟨g, 1, none⟩ = some (.int .i64 need) := G2.lay.cell 1
            have q2 : w2.cell? ⟨g, 2, none⟩ = some (.slice Ac cur.length cc) := G2.lay.cell 2
            have q3 : w2.cell? ⟨g, 3, none⟩ = some (.bool true) := G2.lay.cell 3
            have Q := Lib.hid (eqInts_any A n c l Ac cur.length cc cur w2 HL.out (by omega) (HA.out.later hb (Nat.le_refl _)) rfl (by have := G2.lenc; omega) G2.atc)
            clear hb G2
            go_wp2_with fail
            refine Q.out.mono ?_
            rintro e w4 ⟨rfl, hb4⟩
            rw [HE.out]
            have HB4 := Lib.hid (HB.out.trans (hb4.mono HB.out.size))
            have K := Lib.hid (cloneI_any A n c l w4 HL.out (by omega) (HA.out.later HB4.out (Nat.le_refl _)) HZ.out)
            clear hb4 q1 q2 q3 p0
            go_wp2_with fail
            refine K.out.mono ?_
            rintro e w3 ⟨A1, c1, rfl, hat, hnn, hkk, hb3⟩
            have HB3 := Lib.hid (HB4.out.trans (hb3.mono HB4.out.size))
            have L3 := HG.out.lay.later HB3.out (Nat.le_refl _)
            have r2 : w3.cell? ⟨g, 2, none⟩ = some (.slice Ac cur.length cc) := L3.cell 2
            have r3 : w3.cell? ⟨g, 3, none⟩ = some (.bool true) := L3.cell 3
            have f2 : w3.frozen? ⟨g, 2, none⟩ = false := L3.frozen 2
            have f3 : w3.frozen? ⟨g, 3, none⟩ = false := L3.frozen 3
            have T := Lib.hid (HG.out.took (c1 := c1) HB3.out HL.out hn hat (fun k e => ⟨Nat.le_trans HB4.out.size (hkk k e).1, (hkk k e).2⟩) hnn R.out)
            clear hat hnn hkk hb3 L3 K
            go_wp2_with fail
            go_ret
            exact T.out
          · have R := Lib.hid (fun (W : World) hW => HG.out.same (w' := W) hW l 12 (SetM.askCode_12 hms (by rw [HL.out]; exact hf) rfl he) (by decide))
            have de : decide (l = cur) = false := decide_eq_false he
            have HE := Lib.hid de
            clear hm hs LN hf hms he de
            go_enter Tryd.func8, Tryd.ntmps8
            go_wp2_with fail
            refine C.out.mono ?_
            rintro e w1 ⟨rfl, rfl⟩
            simp only [errIf, if_true]
            go_wp2_with fail
            refine S.out.mono ?_
            rintro e w2 ⟨A2, c2, rfl, _, hb⟩
            have HB := Lib.hid hb
            have G2 := HG.out.later hb
            have q1 : w2.cell? ⟨g, 1, none⟩ = some (.int .i64 need) := G2.lay.cell 1
            have q2 : w2.cell? ⟨g, 2, none⟩ = some (.slice Ac cur.length cc) := G2.lay.cell 2
            have q3 : w2.cell? ⟨g, 3, none⟩ = some (.bool true) := G2.lay.cell 3
            have Q := Lib.hid (eqInts_any A n c l Ac cur.length cc cur w2 HL.out (by omega) (HA.out.later hb (Nat.le_refl _)) rfl (by have := G2.lenc; omega) G2.atc)
            clear hb G2
            go_wp2_with fail
            refine Q.out.mono ?_
            rintro e w4 ⟨rfl, hb4⟩
            rw [HE.out]
            have HB4 := Lib.hid (HB.out.trans (hb4.mono HB.out.size))
            clear hb4 q1 q2 q3 p0
            go_wp2_with fail
            go_ret
            exact R.out _ HB4.out
end
end Go.Proofs.YtpcghenjmiacbaaDoor
