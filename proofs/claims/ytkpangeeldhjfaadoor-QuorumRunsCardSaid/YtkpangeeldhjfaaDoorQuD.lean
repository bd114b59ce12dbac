/- Layer 23: the tally: New, Tick, In, Lacks. -/
import Derived.Test.YtkpangeeldhjfaaDoorQuC
import Derived.Deep.RegionHeld3
namespace Go.Proofs.YtkpangeeldhjfaaDoor
open Go.RowKit
section
variable {w w' : World} {q : Nat} {who inn gone : List Int} {need term went : Int} {Aw Ai Ag : Option Addr} {cw ci cg : Nat}
set_option maxRecDepth 100000 in
theorem qtick_nil (w : World) : Calls Tryd.prog 5 #[.pointer none] w fun e w' => e = .returned (.tuple #[]) ∧ w = w' := by
  go_enter Tryd.func5, Tryd.ntmps5
  go_wp2_with fail
  exact bodyPost_end (v := .tuple #[]) (by simp [results, Tryd.results5, go_sem]) rfl ⟨rfl, rfl⟩
set_option maxRecDepth 100000 in
theorem qin_nil (w : World) : Calls Tryd.prog 10 #[.pointer none] w fun e w' => e = .returned (.slice none 0 0) ∧ w = w' := by
  go_enter Tryd.func10, Tryd.ntmps10
  go_wp2_with fail
  go_ret
  exact ⟨rfl, rfl⟩
set_option maxRecDepth 100000 in
theorem qlacks_nil (w : World) : Calls Tryd.prog 11 #[.pointer none] w fun e w' => e = .returned (.slice none 0 0) ∧ w = w' := by
  go_enter Tryd.func11, Tryd.ntmps11
  go_wp2_with fail
  go_ret
  exact ⟨rfl, rfl⟩
set_option maxRecDepth 100000 in
theorem qin_f (h : Qu w q who inn gone need term went Aw cw Ai ci Ag cg) :
    Calls Tryd.prog 10 #[.pointer (some ⟨q, 0, none⟩)] w fun e w' => ∃ A' c', e = .returned (.slice A' inn.length c') ∧ At w' A' (ints .i64 inn) ∧ Below w.heap.size w w' ∧ ∀ k, blk A' = some k → w.heap.size ≤ k := by
  have c1 := h.lay.cell 1
  simp only [List.getElem?_toArray, List.getElem?_cons_zero, List.getElem?_cons_succ] at c1
  have K := Lib.hid (cloneI_any Ai inn.length ci inn w rfl (by have := h.leni; omega) h.ati h.nili)
  clear h
  go_enter Tryd.func10, Tryd.ntmps10
  go_wp2_with fail
  refine K.out.mono ?_
  rintro e w1 ⟨A1, c1, rfl, hat, hnn, hk, hb⟩
  have HA := Lib.hid hat
  have HB := Lib.hid hb
  have HK := Lib.hid hk
  clear hat hb hk hnn K
  go_wp2_with fail
  go_ret
  exact ⟨A1, c1, rfl, HA.out, HB.out, fun k e => (HK.out k e).1⟩
theorem qin_any (h : Qu w q who inn gone need term went Aw cw Ai ci Ag cg) :
    Calls Tryd.prog 10 #[.pointer (some ⟨q, 0, none⟩)] w fun e w' => ∃ A' c', e = .returned (.slice A' inn.length c') ∧ At w' A' (ints .i64 inn) ∧ Below w.heap.size w w' :=
  (qin_f h).mono fun e w' ⟨A', c', h1, h2, h3, _⟩ => ⟨A', c', h1, h2, h3⟩
set_option maxRecDepth 100000 in
theorem qlacks_any (h : Qu w q who inn gone need term went Aw cw Ai ci Ag cg) (L : List Int) (hL : SetM.elems (SetM.op 2 (SetM.bitsOf who) (SetM.bitsOf inn)) = L) :
    Calls Tryd.prog 11 #[.pointer (some ⟨q, 0, none⟩)] w fun e w' => ∃ A' c', e = .returned (.slice A' L.length c') ∧ At w' A' (ints .i64 L) ∧ Below w.heap.size w w' := by
  have c0 := h.lay.cell 0
  have c1 := h.lay.cell 1
  simp only [List.getElem?_toArray, List.getElem?_cons_zero, List.getElem?_cons_succ] at c0 c1
  have K := Lib.hid (fun (W : World) (hW : Below w.heap.size w W) => setLess_any Aw who.length cw who Ai inn.length ci inn W rfl (by have := h.lenw; omega) (h.atw.later hW (Nat.le_refl _)) rfl (by have := h.leni; omega) (h.ati.later hW (Nat.le_refl _)))
  rw [hL] at K
  have KF := Lib.hid (fun (W : World) (hW : Below w.heap.size w W) => (show W.cell? ⟨q, 0, none⟩ = some (.slice Aw who.length cw) ∧ W.cell? ⟨q, 1, none⟩ = some (.slice Ai inn.length ci) from ⟨(hW.cell (p := ⟨q, 0, none⟩) h.lay.lt).trans c0, (hW.cell (p := ⟨q, 1, none⟩) h.lay.lt).trans c1⟩))
  clear h hL
  go_enter Tryd.func11, Tryd.ntmps11
  go_wp2_with fail
  go_region_held3 (fun W => W.cell? ⟨q, 0, none⟩ = some (.slice Aw who.length cw) ∧ W.cell? ⟨q, 1, none⟩ = some (.slice Ai inn.length ci))
    (first | exact KF.out _ (Below.refl _ _).drew | exact KF.out _ ((Below.refl _ _).drew.trans hb))
    (first | (go_at_call 24; refine (K.out _ (Below.refl _ _).drew).mono ?_; rintro e w4 ⟨A2, c2, rfl, hat, hb, _⟩))
  all_goals
    go_wp2_with fail
    go_ret
    exact ⟨A2, c2, rfl, hat, (Below.refl w.heap.size w).drew.trans hb⟩
/-- what a tick leaves -/
theorem qtick_any (h : Qu w q who inn gone need term went Aw cw Ai ci Ag cg) (s : Int) (hs : qst who.length inn.length gone.length need term went = s) (hwt : 0 ≤ went ∧ went ≤ 1000000) :
    Calls Tryd.prog 5 #[.pointer (some ⟨q, 0, none⟩)] w fun e w' => e = .returned (.tuple #[]) ∧ Qu w' q who inn gone need term (if s = 0 then went + 1 else went) Aw cw Ai ci Ag cg ∧ w.grownBy w' (some q) := by
  have C := Lib.hid (qstate_any h s hs)
  have QH := Lib.hid h
  clear h hs
  by_cases h0 : s = 0
  · subst h0
    rw [if_pos rfl]
    go_enter Tryd.func5, Tryd.ntmps5
    go_wp2_with fail
    refine C.out.mono ?_
    rintro e w1 ⟨rfl, m, rfl⟩
    have BD := Lib.hid (below_drewN w m w.heap.size)
    have Q1 := Lib.hid (QH.out.drewN m)
    generalize w.drewN m = w1 at *
    have c5 := Q1.out.lay.cell 5
    have f5 := Q1.out.lay.frozen 5
    simp only [List.getElem?_toArray, List.getElem?_cons_zero, List.getElem?_cons_succ] at c5
    have hg : w1.grownBy (w1.setCell ⟨q, 5, none⟩ (.int .i64 (went + 1))) (some q) := grown_set (grown_refl _ _) 5 _
    have HG := Lib.hid hg
    have far : ∀ {A : Option Addr}, (∀ k, blk A = some k → k < w1.heap.size ∧ k ≠ q) → ∀ k, blk A = some k → k < (w1.setCell ⟨q, 5, none⟩ (.int .i64 (went + 1))).heap.size ∧ k ≠ q := fun hA k e => ⟨Nat.lt_of_lt_of_le (hA k e).1 hg.size, (hA k e).2⟩
    have keep : ∀ {A : Option Addr} {xs : List Value}, At w1 A xs → (∀ k, blk A = some k → k < w1.heap.size ∧ k ≠ q) → At (w1.setCell ⟨q, 5, none⟩ (.int .i64 (went + 1))) A xs := fun ha hA => ha.grown hg (by
      rename_i A xs
      cases e : blk A with
      | none => exact .inl rfl
      | some k => exact .inr (fun e2 => (hA k e).2 (by injection e2)))
    have R := Lib.hid (show Qu (w1.setCell ⟨q, 5, none⟩ (.int .i64 (went + 1))) q who inn gone need term (went + 1) Aw cw Ai ci Ag cg from
      ⟨Q1.out.lay.set 5 _, keep Q1.out.atw Q1.out.farw, keep Q1.out.ati Q1.out.fari, keep Q1.out.atg Q1.out.farg, far Q1.out.farw, far Q1.out.fari, far Q1.out.farg, Q1.out.nili, Q1.out.lenw, Q1.out.leni, Q1.out.leng⟩)
    clear far keep hg C QH
    go_wp2_with fail
    exact bodyPost_end (v := .tuple #[]) (by simp [results, Tryd.results5, go_sem]) rfl ⟨rfl, R.out, grown_trans (⟨BD.out.os, BD.out.tape, BD.out.output, BD.out.size, fun k hk _ => BD.out.block k hk⟩ : w.grownBy w1 (some q)) HG.out⟩
  · have hs0 : (s == 0) = false := by simpa using h0
    rw [if_neg h0]
    have H0 := Lib.hid h0
    clear h0
    go_enter Tryd.func5, Tryd.ntmps5
    go_wp2_with fail
    refine C.out.mono ?_
    rintro e w1 ⟨rfl, m, rfl⟩
    have Q1 := Lib.hid (QH.out.drewN m)
    go_wp2_with fail
    exact bodyPost_end (v := .tuple #[]) (by simp [results, Tryd.results5, go_sem]) rfl ⟨rfl, Q1.out, ⟨rfl, rfl, rfl, Nat.le_refl _, fun _ _ _ => rfl⟩⟩
end
set_option maxRecDepth 100000 in
theorem qnew_ok (A : Option Addr) (n c : Nat) (l : List Int) (need term : Int) (w : World) (hl : l.length = n) (hn : n ≤ 100) (ha : At w A (ints .i64 l)) (hz : A = none → n = 0) (hm : SetM.may l = true) (h1 : ¬ need < 1) (h2 : ¬ (n : Int) < need) (h3 : ¬ term < 1) (h4 : ¬ 1000 < term) :
    Calls Tryd.prog 13 #[.slice A n c, .int .i64 need, .int .i64 term] w fun e w' => ∃ q Aw cw, e = .returned (.tuple #[.pointer (some ⟨q, 0, none⟩), .nilIface]) ∧ Qu w' q l [] [] need term 0 Aw cw none 0 none 0 ∧ Below w.heap.size w w' ∧ w.heap.size ≤ q := by
  have C := Lib.hid (setCheck_any A n c l w hl (by omega) ha)
  rw [hm] at C
  have K := Lib.hid (cloneI_any A n c l w hl (by omega) ha hz)
  have d1 : decide (need < 1) = false := decide_eq_false h1
  have d2 : decide ((n : Int) < need) = false := decide_eq_false h2
  have d3 : decide (term < 1) = false := decide_eq_false h3
  have d4 : decide (1000 < term) = false := decide_eq_false h4
  have HL := Lib.hid hl
  clear ha hz hm h1 h2 h3 h4 hl
  go_enter Tryd.func13, Tryd.ntmps13
  go_wp2_with fail
  refine C.out.mono ?_
  rintro e w1 ⟨rfl, rfl⟩
  simp only [errIf, if_true]
  go_wp2_with fail
  refine K.out.mono ?_
  rintro e w1 ⟨A1, c1, rfl, hat, hnn, hk, hb⟩
  have HA := Lib.hid hat
  have HB := Lib.hid hb
  have HK := Lib.hid hk
  clear hat hb hk hnn C K
  go_wp2_with fail
  have HN := Holds.new w1 51 #[.slice A1 n c1, .slice none 0 0, .slice none 0 0, .int .i64 need, .int .i64 term, .int .i64 0] w1.heap.size rfl
  have BB := (Below.refl w1.heap.size w1).alloc (Nat.le_refl _) (.cells #[.slice A1 n c1, .slice none 0 0, .slice none 0 0, .int .i64 need, .int .i64 term, .int .i64 0] 51)
  refine bodyPost_ret (v := .tuple #[.pointer (some ⟨w1.heap.size, 0, none⟩), .nilIface]) (by simp [results, Tryd.results13, go_sem]) rfl ⟨w1.heap.size, A1, c1, rfl, ⟨?_, HA.out.later BB (Nat.le_refl _), At.nil _ _, At.nil _ _, fun k e => ⟨?_, ?_⟩, by simp [blk], by simp [blk], fun _ => rfl, by rw [HL.out]; exact hn, by simp, by simp⟩, HB.out.trans (BB.mono HB.out.size), HB.out.size⟩
  · rw [HL.out]; exact HN
  · have := (HK.out k e).2; simp; omega
  · have := (HK.out k e).2; omega
end Go.Proofs.YtkpangeeldhjfaaDoor
