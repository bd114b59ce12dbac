/- Layer 23: the document's tally: Came. -/
import Derived.Test.YtkpangeeldhjfaaDoorQuI
namespace Go.Proofs.YtkpangeeldhjfaaDoor
open Go.RowKit
def canS (s : Int) (who inn gone : List Int) (id : Int) : Int :=
  if s ≠ 0 then 9 else if SetM.has who id = false then 6 else if (SetM.has inn id || SetM.has gone id) = true then 8 else 0
theorem canK_S (who inn gone : List Int) (need term went id : Int) : canK who inn gone need term went id = canS (qst who.length inn.length gone.length need term went) who inn gone id := rfl
section
variable {w : World} {n m g cw ci cg : Nat} {need left : Int} {Aw Ai Ag : Option Addr} {who inn gone : List Int}
set_option maxRecDepth 100000 in
set_option maxHeartbeats 2000000 in
theorem rcame_k (id : Int) (b : Bool) (s : Int) (hs : rst n m g need left = s) (hw : who.length = n) (hi : inn.length = m) (hgo : gone.length = g) (hn : n ≤ 100) (hm : m ≤ 100) (hg : g ≤ 100) (aw : At w Aw (ints .i64 who)) (ai : At w Ai (ints .i64 inn)) (ag : At w Ag (ints .i64 gone)) (k : Int) (hk : canS s who inn gone id = k) (h0 : k ≠ 0) :
    Calls Tryd.prog 15 #[.agg #[.slice Aw n cw, .int .i64 need, .int .i64 left, .slice Ai m ci, .slice Ag g cg], .int .i64 id, .bool b] w fun e w' => e = .returned (.tuple #[.agg #[.slice Aw n cw, .int .i64 need, .int .i64 left, .slice Ai m ci, .slice Ag g cg], .int .i64 k]) ∧ Below w.heap.size w w' := by
  have H0 := Holds.new w 37 #[.slice Aw n cw, .int .i64 need, .int .i64 left, .slice Ai m ci, .slice Ag g cg] w.heap.size rfl
  have P1 := Lib.hid (H0.alloc (.cells #[.slice none 0 0, .int .i64 0, .int .i64 0, .slice none 0 0, .slice none 0 0] 37))
  have P2 := Lib.hid (Holds.new (w.alloc (.cells #[.slice Aw n cw, .int .i64 need, .int .i64 left, .slice Ai m ci, .slice Ag g cg] 37)) 37 #[.slice none 0 0, .int .i64 0, .int .i64 0, .slice none 0 0, .slice none 0 0] (w.heap.size + 1) (by simp))
  have BA := Lib.hid ((Below.refl w.heap.size w).alloc (Nat.le_refl _) (.cells #[.slice Aw n cw, .int .i64 need, .int .i64 left, .slice Ai m ci, .slice Ag g cg] 37) |>.alloc (by simp) (.cells #[.slice none 0 0, .int .i64 0, .int .i64 0, .slice none 0 0, .slice none 0 0] 37))
  have AW := Lib.hid aw
  have AI := Lib.hid ai
  have AG := Lib.hid ag
  have EW := Lib.hid hw
  have EI := Lib.hid hi
  have EG := Lib.hid hgo
  clear H0 aw ai ag hw hi hgo
  unfold canS at hk
  by_cases s0 : s = 0
  · subst s0
    rw [if_neg (by decide)] at hk
    obtain ⟨h1, e1⟩ : ∃ h1, SetM.has who id = h1 := ⟨_, rfl⟩
    rw [e1] at hk
    have V1 := Lib.hid e1
    clear e1
    cases h1 with
    | false =>
      rw [if_pos rfl] at hk
      subst hk
      clear h0
      go_enter Tryd.func15, Tryd.ntmps15
      go_wp2_with fail
      generalize ((w.alloc (.cells #[.slice Aw n cw, .int .i64 need, .int .i64 left, .slice Ai m ci, .slice Ag g cg] 37)).alloc (.cells #[.slice none 0 0, .int .i64 0, .int .i64 0, .slice none 0 0, .slice none 0 0] 37)) = w0 at *
      refine (rstate_any _ hs hn hm hg).mono ?_
      rintro e w1 ⟨rfl, b1⟩
      have P3 := Lib.hid (P1.out.later b1 (Nat.le_refl _))
      have P4 := Lib.hid (P2.out.later b1 (Nat.le_refl _))
      have B1 := Lib.hid (BA.out.trans (b1.mono BA.out.size))
      clear b1 P1 P2 BA hs
      have c0 := P3.out.cell 0
      have c1 := P3.out.cell 1
      have c2 := P3.out.cell 2
      have c3 := P3.out.cell 3
      have c4 := P3.out.cell 4
      have d0 := P4.out.cell 0
      have f0 := P4.out.frozen 0
      have d1 := P4.out.cell 1
      have f1 := P4.out.frozen 1
      have d2 := P4.out.cell 2
      have f2 := P4.out.frozen 2
      have d3 := P4.out.cell 3
      have f3 := P4.out.frozen 3
      have d4 := P4.out.cell 4
      have f4 := P4.out.frozen 4
      simp only [List.getElem?_toArray, List.getElem?_cons_zero, List.getElem?_cons_succ] at c0 c1 c2 c3 c4 d0 d1 d2 d3 d4
      go_wp2_with fail
      refine (refHas_any Aw n cw who id w1 EW.out (by omega) (AW.out.later B1.out (Nat.le_refl _))).mono ?_
      rintro e w2 ⟨rfl, rfl⟩
      rw [V1.out]
      go_wp2_with fail
      obtain ⟨HQ, HR⟩ := five (w := w) (v0 := .slice Aw n cw) (v1 := .int .i64 need) (v2 := .int .i64 left) (v3 := .slice Ai m ci) (v4 := .slice Ag g cg) P4.out B1.out (Nat.le_succ _)
      have q0 := HQ.cell 0
      have q1 := HQ.cell 1
      have q2 := HQ.cell 2
      have q3 := HQ.cell 3
      have q4 := HQ.cell 4
      simp only [List.getElem?_toArray, List.getElem?_cons_zero, List.getElem?_cons_succ] at q0 q1 q2 q3 q4
      have HR' := Lib.hid HR
      clear HQ HR
      generalize (((((w1.setCell ⟨w.heap.size + 1, 0, none⟩ (.slice Aw n cw)).setCell ⟨w.heap.size + 1, 1, none⟩ (.int .i64 need)).setCell ⟨w.heap.size + 1, 2, none⟩ (.int .i64 left)).setCell ⟨w.heap.size + 1, 3, none⟩ (.slice Ai m ci)).setCell ⟨w.heap.size + 1, 4, none⟩ (.slice Ag g cg)) = wz at *
      exact bodyPost_ret (v := .tuple #[.agg #[.slice Aw n cw, .int .i64 need, .int .i64 left, .slice Ai m ci, .slice Ag g cg], .int .i64 6]) (by simp [results, Tryd.results15, go_sem, q0, q1, q2, q3, q4]) rfl ⟨rfl, HR'.out⟩
    | true =>
      rw [if_neg (by decide)] at hk
      obtain ⟨h2, e2⟩ : ∃ h2, SetM.has inn id = h2 := ⟨_, rfl⟩
      rw [e2] at hk
      have V2 := Lib.hid e2
      clear e2
      cases h2 with
      | true =>
        rw [Bool.true_or, if_pos rfl] at hk
        subst hk
        clear h0
        go_enter Tryd.func15, Tryd.ntmps15
        go_wp2_with fail
        generalize ((w.alloc (.cells #[.slice Aw n cw, .int .i64 need, .int .i64 left, .slice Ai m ci, .slice Ag g cg] 37)).alloc (.cells #[.slice none 0 0, .int .i64 0, .int .i64 0, .slice none 0 0, .slice none 0 0] 37)) = w0 at *
        refine (rstate_any _ hs hn hm hg).mono ?_
        rintro e w1 ⟨rfl, b1⟩
        have P3 := Lib.hid (P1.out.later b1 (Nat.le_refl _))
        have P4 := Lib.hid (P2.out.later b1 (Nat.le_refl _))
        have B1 := Lib.hid (BA.out.trans (b1.mono BA.out.size))
        clear b1 P1 P2 BA hs
        have c0 := P3.out.cell 0
        have c1 := P3.out.cell 1
        have c2 := P3.out.cell 2
        have c3 := P3.out.cell 3
        have c4 := P3.out.cell 4
        have d0 := P4.out.cell 0
        have f0 := P4.out.frozen 0
        have d1 := P4.out.cell 1
        have f1 := P4.out.frozen 1
        have d2 := P4.out.cell 2
        have f2 := P4.out.frozen 2
        have d3 := P4.out.cell 3
        have f3 := P4.out.frozen 3
        have d4 := P4.out.cell 4
        have f4 := P4.out.frozen 4
        simp only [List.getElem?_toArray, List.getElem?_cons_zero, List.getElem?_cons_succ] at c0 c1 c2 c3 c4 d0 d1 d2 d3 d4
        go_wp2_with fail
        refine (refHas_any Aw n cw who id w1 EW.out (by omega) (AW.out.later B1.out (Nat.le_refl _))).mono ?_
        rintro e w2 ⟨rfl, rfl⟩
        rw [V1.out]
        go_wp2_with fail
        refine (refHas_any Ai m ci inn id w1 EI.out (by omega) (AI.out.later B1.out (Nat.le_refl _))).mono ?_
        rintro e w2 ⟨rfl, rfl⟩
        rw [V2.out]
        go_wp2_with fail
        obtain ⟨HQ, HR⟩ := five (w := w) (v0 := .slice Aw n cw) (v1 := .int .i64 need) (v2 := .int .i64 left) (v3 := .slice Ai m ci) (v4 := .slice Ag g cg) P4.out B1.out (Nat.le_succ _)
        have q0 := HQ.cell 0
        have q1 := HQ.cell 1
        have q2 := HQ.cell 2
        have q3 := HQ.cell 3
        have q4 := HQ.cell 4
        simp only [List.getElem?_toArray, List.getElem?_cons_zero, List.getElem?_cons_succ] at q0 q1 q2 q3 q4
        have HR' := Lib.hid HR
        clear HQ HR
        generalize (((((w1.setCell ⟨w.heap.size + 1, 0, none⟩ (.slice Aw n cw)).setCell ⟨w.heap.size + 1, 1, none⟩ (.int .i64 need)).setCell ⟨w.heap.size + 1, 2, none⟩ (.int .i64 left)).setCell ⟨w.heap.size + 1, 3, none⟩ (.slice Ai m ci)).setCell ⟨w.heap.size + 1, 4, none⟩ (.slice Ag g cg)) = wz at *
        exact bodyPost_ret (v := .tuple #[.agg #[.slice Aw n cw, .int .i64 need, .int .i64 left, .slice Ai m ci, .slice Ag g cg], .int .i64 8]) (by simp [results, Tryd.results15, go_sem, q0, q1, q2, q3, q4]) rfl ⟨rfl, HR'.out⟩
      | false =>
        rw [Bool.false_or] at hk
        obtain ⟨h3, e3⟩ : ∃ h3, SetM.has gone id = h3 := ⟨_, rfl⟩
        rw [e3] at hk
        have V3 := Lib.hid e3
        clear e3
        cases h3 with
        | false =>
          rw [if_neg (by decide)] at hk
          exact absurd hk.symm h0
        | true =>
          rw [if_pos rfl] at hk
          subst hk
          clear h0
          go_enter Tryd.func15, Tryd.ntmps15
          go_wp2_with fail
          generalize ((w.alloc (.cells #[.slice Aw n cw, .int .i64 need, .int .i64 left, .slice Ai m ci, .slice Ag g cg] 37)).alloc (.cells #[.slice none 0 0, .int .i64 0, .int .i64 0, .slice none 0 0, .slice none 0 0] 37)) = w0 at *
          refine (rstate_any _ hs hn hm hg).mono ?_
          rintro e w1 ⟨rfl, b1⟩
          have P3 := Lib.hid (P1.out.later b1 (Nat.le_refl _))
          have P4 := Lib.hid (P2.out.later b1 (Nat.le_refl _))
          have B1 := Lib.hid (BA.out.trans (b1.mono BA.out.size))
          clear b1 P1 P2 BA hs
          have c0 := P3.out.cell 0
          have c1 := P3.out.cell 1
          have c2 := P3.out.cell 2
          have c3 := P3.out.cell 3
          have c4 := P3.out.cell 4
          have d0 := P4.out.cell 0
          have f0 := P4.out.frozen 0
          have d1 := P4.out.cell 1
          have f1 := P4.out.frozen 1
          have d2 := P4.out.cell 2
          have f2 := P4.out.frozen 2
          have d3 := P4.out.cell 3
          have f3 := P4.out.frozen 3
          have d4 := P4.out.cell 4
          have f4 := P4.out.frozen 4
          simp only [List.getElem?_toArray, List.getElem?_cons_zero, List.getElem?_cons_succ] at c0 c1 c2 c3 c4 d0 d1 d2 d3 d4
          go_wp2_with fail
          refine (refHas_any Aw n cw who id w1 EW.out (by omega) (AW.out.later B1.out (Nat.le_refl _))).mono ?_
          rintro e w2 ⟨rfl, rfl⟩
          rw [V1.out]
          go_wp2_with fail
          refine (refHas_any Ai m ci inn id w1 EI.out (by omega) (AI.out.later B1.out (Nat.le_refl _))).mono ?_
          rintro e w2 ⟨rfl, rfl⟩
          rw [V2.out]
          go_wp2_with fail
          refine (refHas_any Ag g cg gone id w1 EG.out (by omega) (AG.out.later B1.out (Nat.le_refl _))).mono ?_
          rintro e w2 ⟨rfl, rfl⟩
          rw [V3.out]
          go_wp2_with fail
          obtain ⟨HQ, HR⟩ := five (w := w) (v0 := .slice Aw n cw) (v1 := .int .i64 need) (v2 := .int .i64 left) (v3 := .slice Ai m ci) (v4 := .slice Ag g cg) P4.out B1.out (Nat.le_succ _)
          have q0 := HQ.cell 0
          have q1 := HQ.cell 1
          have q2 := HQ.cell 2
          have q3 := HQ.cell 3
          have q4 := HQ.cell 4
          simp only [List.getElem?_toArray, List.getElem?_cons_zero, List.getElem?_cons_succ] at q0 q1 q2 q3 q4
          have HR' := Lib.hid HR
          clear HQ HR
          generalize (((((w1.setCell ⟨w.heap.size + 1, 0, none⟩ (.slice Aw n cw)).setCell ⟨w.heap.size + 1, 1, none⟩ (.int .i64 need)).setCell ⟨w.heap.size + 1, 2, none⟩ (.int .i64 left)).setCell ⟨w.heap.size + 1, 3, none⟩ (.slice Ai m ci)).setCell ⟨w.heap.size + 1, 4, none⟩ (.slice Ag g cg)) = wz at *
          exact bodyPost_ret (v := .tuple #[.agg #[.slice Aw n cw, .int .i64 need, .int .i64 left, .slice Ai m ci, .slice Ag g cg], .int .i64 8]) (by simp [results, Tryd.results15, go_sem, q0, q1, q2, q3, q4]) rfl ⟨rfl, HR'.out⟩
  · have fs : (s != 0) = true := by simpa using s0
    rw [if_pos s0] at hk
    subst hk
    clear s0 h0
    go_enter Tryd.func15, Tryd.ntmps15
    go_wp2_with fail
    generalize ((w.alloc (.cells #[.slice Aw n cw, .int .i64 need, .int .i64 left, .slice Ai m ci, .slice Ag g cg] 37)).alloc (.cells #[.slice none 0 0, .int .i64 0, .int .i64 0, .slice none 0 0, .slice none 0 0] 37)) = w0 at *
    refine (rstate_any _ hs hn hm hg).mono ?_
    rintro e w1 ⟨rfl, b1⟩
    have P3 := Lib.hid (P1.out.later b1 (Nat.le_refl _))
    have P4 := Lib.hid (P2.out.later b1 (Nat.le_refl _))
    have B1 := Lib.hid (BA.out.trans (b1.mono BA.out.size))
    clear b1 P1 P2 BA hs
    have c0 := P3.out.cell 0
    have c1 := P3.out.cell 1
    have c2 := P3.out.cell 2
    have c3 := P3.out.cell 3
    have c4 := P3.out.cell 4
    have d0 := P4.out.cell 0
    have f0 := P4.out.frozen 0
    have d1 := P4.out.cell 1
    have f1 := P4.out.frozen 1
    have d2 := P4.out.cell 2
    have f2 := P4.out.frozen 2
    have d3 := P4.out.cell 3
    have f3 := P4.out.frozen 3
    have d4 := P4.out.cell 4
    have f4 := P4.out.frozen 4
    simp only [List.getElem?_toArray, List.getElem?_cons_zero, List.getElem?_cons_succ] at c0 c1 c2 c3 c4 d0 d1 d2 d3 d4
    go_wp2_with fail
    obtain ⟨HQ, HR⟩ := five (w := w) (v0 := .slice Aw n cw) (v1 := .int .i64 need) (v2 := .int .i64 left) (v3 := .slice Ai m ci) (v4 := .slice Ag g cg) P4.out B1.out (Nat.le_succ _)
    have q0 := HQ.cell 0
    have q1 := HQ.cell 1
    have q2 := HQ.cell 2
    have q3 := HQ.cell 3
    have q4 := HQ.cell 4
    simp only [List.getElem?_toArray, List.getElem?_cons_zero, List.getElem?_cons_succ] at q0 q1 q2 q3 q4
    have HR' := Lib.hid HR
    clear HQ HR
    generalize (((((w1.setCell ⟨w.heap.size + 1, 0, none⟩ (.slice Aw n cw)).setCell ⟨w.heap.size + 1, 1, none⟩ (.int .i64 need)).setCell ⟨w.heap.size + 1, 2, none⟩ (.int .i64 left)).setCell ⟨w.heap.size + 1, 3, none⟩ (.slice Ai m ci)).setCell ⟨w.heap.size + 1, 4, none⟩ (.slice Ag g cg)) = wz at *
    exact bodyPost_ret (v := .tuple #[.agg #[.slice Aw n cw, .int .i64 need, .int .i64 left, .slice Ai m ci, .slice Ag g cg], .int .i64 9]) (by simp [results, Tryd.results15, go_sem, q0, q1, q2, q3, q4]) rfl ⟨rfl, HR'.out⟩
set_option maxRecDepth 100000 in
set_option maxHeartbeats 2000000 in
theorem rcame_in (id : Int) (hs : rst n m g need left = 0) (hw : who.length = n) (hi : inn.length = m) (hgo : gone.length = g) (hn : n ≤ 100) (hm : m ≤ 100) (hg : g ≤ 100) (aw : At w Aw (ints .i64 who)) (ai : At w Ai (ints .i64 inn)) (ag : At w Ag (ints .i64 gone)) (hk : canS 0 who inn gone id = 0) :
    Calls Tryd.prog 15 #[.agg #[.slice Aw n cw, .int .i64 need, .int .i64 left, .slice Ai m ci, .slice Ag g cg], .int .i64 id, .bool false] w fun e w' => ∃ A' c', e = .returned (.tuple #[.agg #[.slice Aw n cw, .int .i64 need, .int .i64 left, .slice A' (qput inn id).length c', .slice Ag g cg], .int .i64 0]) ∧ At w' A' (ints .i64 (qput inn id)) ∧ Below w.heap.size w w' ∧ ∀ k, blk A' = some k → w.heap.size + 2 ≤ k := by
  have H0 := Holds.new w 37 #[.slice Aw n cw, .int .i64 need, .int .i64 left, .slice Ai m ci, .slice Ag g cg] w.heap.size rfl
  have P1 := Lib.hid (H0.alloc (.cells #[.slice none 0 0, .int .i64 0, .int .i64 0, .slice none 0 0, .slice none 0 0] 37))
  have P2 := Lib.hid (Holds.new (w.alloc (.cells #[.slice Aw n cw, .int .i64 need, .int .i64 left, .slice Ai m ci, .slice Ag g cg] 37)) 37 #[.slice none 0 0, .int .i64 0, .int .i64 0, .slice none 0 0, .slice none 0 0] (w.heap.size + 1) (by simp))
  have BA := Lib.hid ((Below.refl w.heap.size w).alloc (Nat.le_refl _) (.cells #[.slice Aw n cw, .int .i64 need, .int .i64 left, .slice Ai m ci, .slice Ag g cg] 37) |>.alloc (by simp) (.cells #[.slice none 0 0, .int .i64 0, .int .i64 0, .slice none 0 0, .slice none 0 0] 37))
  have AW := Lib.hid aw
  have AI := Lib.hid ai
  have AG := Lib.hid ag
  have EW := Lib.hid hw
  have EI := Lib.hid hi
  have EG := Lib.hid hgo
  clear H0 aw ai ag hw hi hgo
  have HK := (show SetM.has who id = true ∧ SetM.has inn id = false ∧ SetM.has gone id = false from by
    unfold canS at hk
    rw [if_neg (by decide)] at hk
    cases h1 : SetM.has who id <;> cases h2 : SetM.has inn id <;> cases h3 : SetM.has gone id <;> simp [h1, h2, h3] at hk ⊢)
  have V1 := Lib.hid HK.1
  have V2 := Lib.hid HK.2.1
  have V3 := Lib.hid HK.2.2
  clear hk HK
  obtain ⟨s, hss⟩ : ∃ s : Int, s = 0 := ⟨_, rfl⟩
  rw [← hss] at hs
  go_enter Tryd.func15, Tryd.ntmps15
  go_wp2_with fail
  generalize ((w.alloc (.cells #[.slice Aw n cw, .int .i64 need, .int .i64 left, .slice Ai m ci, .slice Ag g cg] 37)).alloc (.cells #[.slice none 0 0, .int .i64 0, .int .i64 0, .slice none 0 0, .slice none 0 0] 37)) = w0 at *
  refine (rstate_any _ hs hn hm hg).mono ?_
  rintro e w1 ⟨rfl, b1⟩
  have P3 := Lib.hid (P1.out.later b1 (Nat.le_refl _))
  have P4 := Lib.hid (P2.out.later b1 (Nat.le_refl _))
  have B1 := Lib.hid (BA.out.trans (b1.mono BA.out.size))
  clear b1 P1 P2 BA hs
  subst hss
  have c0 := P3.out.cell 0
  have c1 := P3.out.cell 1
  have c2 := P3.out.cell 2
  have c3 := P3.out.cell 3
  have c4 := P3.out.cell 4
  have d0 := P4.out.cell 0
  have f0 := P4.out.frozen 0
  have d1 := P4.out.cell 1
  have f1 := P4.out.frozen 1
  have d2 := P4.out.cell 2
  have f2 := P4.out.frozen 2
  have d3 := P4.out.cell 3
  have f3 := P4.out.frozen 3
  have d4 := P4.out.cell 4
  have f4 := P4.out.frozen 4
  simp only [List.getElem?_toArray, List.getElem?_cons_zero, List.getElem?_cons_succ] at c0 c1 c2 c3 c4 d0 d1 d2 d3 d4
  go_wp2_with fail
  refine (refHas_any Aw n cw who id w1 EW.out (by omega) (AW.out.later B1.out (Nat.le_refl _))).mono ?_
  rintro e w2 ⟨rfl, rfl⟩
  rw [V1.out]
  go_wp2_with fail
  refine (refHas_any Ai m ci inn id w1 EI.out (by omega) (AI.out.later B1.out (Nat.le_refl _))).mono ?_
  rintro e w2 ⟨rfl, rfl⟩
  rw [V2.out]
  go_wp2_with fail
  refine (refHas_any Ag g cg gone id w1 EG.out (by omega) (AG.out.later B1.out (Nat.le_refl _))).mono ?_
  rintro e w2 ⟨rfl, rfl⟩
  rw [V3.out]
  go_wp2_with fail
  have BL := Lib.hid ((Below.refl w1.heap.size w1).alloc (Nat.le_refl _) (.cells #[.int .i64 id] 3))
  refine (refSome0_any Ai m ci inn (some ⟨w1.heap.size, 0, none⟩) 1 1 [id] _ EI.out (by omega) ((AI.out.later B1.out (Nat.le_refl _)).later BL.out (Nat.le_refl _)) rfl (by decide) (show At _ _ [.int .i64 id] from At.lit _ _ _ _ _ rfl)).mono ?_
  rintro e w5 ⟨A3, k3, rfl, h3, h4, h5⟩
  have B5 := Lib.hid (BL.out.trans (h4.mono BL.out.size))
  have P5 := Lib.hid (P3.out.later B5.out (Nat.le_refl _))
  have P6 := Lib.hid (P4.out.later B5.out (Nat.le_refl _))
  have B6 := Lib.hid (B1.out.trans (B5.out.mono B1.out.size))
  have A5 := Lib.hid h3
  have F5 := Lib.hid (show ∀ k, blk A3 = some k → w.heap.size + 2 ≤ k from fun k e => by have h6 := (h5 k e).1; have h7 := P4.out.lt; simp at h6; omega)
  clear h3 h4 h5 c0 c1 c2 c4 d0 d1 d2 d3 d4 f0 f1 f2 f3 f4 P3 P4 B1 BL B5
  obtain ⟨L, hL⟩ : ∃ L, SetM.elems (SetM.op 0 (SetM.bitsOf inn) (SetM.bitsOf [id])) = L := ⟨_, rfl⟩
  have hput : qput inn id = L := hL
  rw [hL] at A5
  rw [hL]
  have HP := Lib.hid hput
  clear hL hput
  have c0 := P5.out.cell 0
  have c1 := P5.out.cell 1
  have c2 := P5.out.cell 2
  have c3 := P5.out.cell 3
  have c4 := P5.out.cell 4
  have d0 := P6.out.cell 0
  have f0 := P6.out.frozen 0
  have d1 := P6.out.cell 1
  have f1 := P6.out.frozen 1
  have d2 := P6.out.cell 2
  have f2 := P6.out.frozen 2
  have d3 := P6.out.cell 3
  have f3 := P6.out.frozen 3
  have d4 := P6.out.cell 4
  have f4 := P6.out.frozen 4
  simp only [List.getElem?_toArray, List.getElem?_cons_zero, List.getElem?_cons_succ] at c0 c1 c2 c3 c4 d0 d1 d2 d3 d4
  have f13 := P5.out.frozen 3
  go_wp2_with fail
  have P7 := Lib.hid (P6.out.far (p := ⟨w.heap.size, 3, none⟩) (by show w.heap.size + 1 ≠ w.heap.size; omega) (.slice A3 L.length k3))
  have B7 := Lib.hid (below_grown B6.out (grown_set (grown_refl _ (some w.heap.size)) 3 (.slice A3 L.length k3)) (Nat.le_refl _))
  have A7 := Lib.hid (A5.out.grown (grown_set (grown_refl w5 (some w.heap.size)) 3 (.slice A3 L.length k3)) (by
    cases e : blk A3 with
    | none => exact .inl rfl
    | some k => exact .inr (fun e2 => by injection e2 with e2; have := F5.out k e; omega)))
  generalize (w5.setCell ⟨w.heap.size, 3, none⟩ (.slice A3 L.length k3)) = wy at *
  have A8 := Lib.hid (show At (((((wy.setCell ⟨w.heap.size + 1, 0, none⟩ (.slice Aw n cw)).setCell ⟨w.heap.size + 1, 1, none⟩ (.int .i64 need)).setCell ⟨w.heap.size + 1, 2, none⟩ (.int .i64 left)).setCell ⟨w.heap.size + 1, 3, none⟩ (.slice A3 L.length k3)).setCell ⟨w.heap.size + 1, 4, none⟩ (.slice Ag g cg)) A3 (ints .i64 L) from
    A7.out.grown (grown_set (grown_set (grown_set (grown_set (grown_set (grown_refl wy (some (w.heap.size + 1))) 0 _) 1 _) 2 _) 3 _) 4 _) (by
      cases e : blk A3 with
      | none => exact .inl rfl
      | some k => exact .inr (fun e2 => by injection e2 with e2; have := F5.out k e; omega)))
  obtain ⟨HQ, HR⟩ := five (w := w) (v0 := .slice Aw n cw) (v1 := .int .i64 need) (v2 := .int .i64 left) (v3 := .slice A3 L.length k3) (v4 := .slice Ag g cg) P7.out B7.out (Nat.le_succ _)
  have q0 := HQ.cell 0
  have q1 := HQ.cell 1
  have q2 := HQ.cell 2
  have q3 := HQ.cell 3
  have q4 := HQ.cell 4
  simp only [List.getElem?_toArray, List.getElem?_cons_zero, List.getElem?_cons_succ] at q0 q1 q2 q3 q4
  have HR' := Lib.hid HR
  clear HQ HR
  generalize (((((wy.setCell ⟨w.heap.size + 1, 0, none⟩ (.slice Aw n cw)).setCell ⟨w.heap.size + 1, 1, none⟩ (.int .i64 need)).setCell ⟨w.heap.size + 1, 2, none⟩ (.int .i64 left)).setCell ⟨w.heap.size + 1, 3, none⟩ (.slice A3 L.length k3)).setCell ⟨w.heap.size + 1, 4, none⟩ (.slice Ag g cg)) = wz at *
  exact bodyPost_ret (v := .tuple #[.agg #[.slice Aw n cw, .int .i64 need, .int .i64 left, .slice A3 L.length k3, .slice Ag g cg], .int .i64 0]) (by simp [results, Tryd.results15, go_sem, q0, q1, q2, q3, q4]) rfl ⟨A3, k3, by rw [HP.out], by rw [HP.out]; exact A8.out, HR'.out, F5.out⟩
set_option maxRecDepth 100000 in
set_option maxHeartbeats 2000000 in
theorem rcame_gone (id : Int) (hs : rst n m g need left = 0) (hw : who.length = n) (hi : inn.length = m) (hgo : gone.length = g) (hn : n ≤ 100) (hm : m ≤ 100) (hg : g ≤ 100) (aw : At w Aw (ints .i64 who)) (ai : At w Ai (ints .i64 inn)) (ag : At w Ag (ints .i64 gone)) (hk : canS 0 who inn gone id = 0) :
    Calls Tryd.prog 15 #[.agg #[.slice Aw n cw, .int .i64 need, .int .i64 left, .slice Ai m ci, .slice Ag g cg], .int .i64 id, .bool true] w fun e w' => ∃ A' c', e = .returned (.tuple #[.agg #[.slice Aw n cw, .int .i64 need, .int .i64 left, .slice Ai m ci, .slice A' (qput gone id).length c'], .int .i64 0]) ∧ At w' A' (ints .i64 (qput gone id)) ∧ Below w.heap.size w w' ∧ ∀ k, blk A' = some k → w.heap.size + 2 ≤ k := by
  have H0 := Holds.new w 37 #[.slice Aw n cw, .int .i64 need, .int .i64 left, .slice Ai m ci, .slice Ag g cg] w.heap.size rfl
  have P1 := Lib.hid (H0.alloc (.cells #[.slice none 0 0, .int .i64 0, .int .i64 0, .slice none 0 0, .slice none 0 0] 37))
  have P2 := Lib.hid (Holds.new (w.alloc (.cells #[.slice Aw n cw, .int .i64 need, .int .i64 left, .slice Ai m ci, .slice Ag g cg] 37)) 37 #[.slice none 0 0, .int .i64 0, .int .i64 0, .slice none 0 0, .slice none 0 0] (w.heap.size + 1) (by simp))
  have BA := Lib.hid ((Below.refl w.heap.size w).alloc (Nat.le_refl _) (.cells #[.slice Aw n cw, .int .i64 need, .int .i64 left, .slice Ai m ci, .slice Ag g cg] 37) |>.alloc (by simp) (.cells #[.slice none 0 0, .int .i64 0, .int .i64 0, .slice none 0 0, .slice none 0 0] 37))
  have AW := Lib.hid aw
  have AI := Lib.hid ai
  have AG := Lib.hid ag
  have EW := Lib.hid hw
  have EI := Lib.hid hi
  have EG := Lib.hid hgo
  clear H0 aw ai ag hw hi hgo
  have HK := (show SetM.has who id = true ∧ SetM.has inn id = false ∧ SetM.has gone id = false from by
    unfold canS at hk
    rw [if_neg (by decide)] at hk
    cases h1 : SetM.has who id <;> cases h2 : SetM.has inn id <;> cases h3 : SetM.has gone id <;> simp [h1, h2, h3] at hk ⊢)
  have V1 := Lib.hid HK.1
  have V2 := Lib.hid HK.2.1
  have V3 := Lib.hid HK.2.2
  clear hk HK
  obtain ⟨s, hss⟩ : ∃ s : Int, s = 0 := ⟨_, rfl⟩
  rw [← hss] at hs
  go_enter Tryd.func15, Tryd.ntmps15
  go_wp2_with fail
  generalize ((w.alloc (.cells #[.slice Aw n cw, .int .i64 need, .int .i64 left, .slice Ai m ci, .slice Ag g cg] 37)).alloc (.cells #[.slice none 0 0, .int .i64 0, .int .i64 0, .slice none 0 0, .slice none 0 0] 37)) = w0 at *
  refine (rstate_any _ hs hn hm hg).mono ?_
  rintro e w1 ⟨rfl, b1⟩
  have P3 := Lib.hid (P1.out.later b1 (Nat.le_refl _))
  have P4 := Lib.hid (P2.out.later b1 (Nat.le_refl _))
  have B1 := Lib.hid (BA.out.trans (b1.mono BA.out.size))
  clear b1 P1 P2 BA hs
  subst hss
  have c0 := P3.out.cell 0
  have c1 := P3.out.cell 1
  have c2 := P3.out.cell 2
  have c3 := P3.out.cell 3
  have c4 := P3.out.cell 4
  have d0 := P4.out.cell 0
  have f0 := P4.out.frozen 0
  have d1 := P4.out.cell 1
  have f1 := P4.out.frozen 1
  have d2 := P4.out.cell 2
  have f2 := P4.out.frozen 2
  have d3 := P4.out.cell 3
  have f3 := P4.out.frozen 3
  have d4 := P4.out.cell 4
  have f4 := P4.out.frozen 4
  simp only [List.getElem?_toArray, List.getElem?_cons_zero, List.getElem?_cons_succ] at c0 c1 c2 c3 c4 d0 d1 d2 d3 d4
  go_wp2_with fail
  refine (refHas_any Aw n cw who id w1 EW.out (by omega) (AW.out.later B1.out (Nat.le_refl _))).mono ?_
  rintro e w2 ⟨rfl, rfl⟩
  rw [V1.out]
  go_wp2_with fail
  refine (refHas_any Ai m ci inn id w1 EI.out (by omega) (AI.out.later B1.out (Nat.le_refl _))).mono ?_
  rintro e w2 ⟨rfl, rfl⟩
  rw [V2.out]
  go_wp2_with fail
  refine (refHas_any Ag g cg gone id w1 EG.out (by omega) (AG.out.later B1.out (Nat.le_refl _))).mono ?_
  rintro e w2 ⟨rfl, rfl⟩
  rw [V3.out]
  go_wp2_with fail
  have BL := Lib.hid ((Below.refl w1.heap.size w1).alloc (Nat.le_refl _) (.cells #[.int .i64 id] 3))
  refine (refSome0_any Ag g cg gone (some ⟨w1.heap.size, 0, none⟩) 1 1 [id] _ EG.out (by omega) ((AG.out.later B1.out (Nat.le_refl _)).later BL.out (Nat.le_refl _)) rfl (by decide) (show At _ _ [.int .i64 id] from At.lit _ _ _ _ _ rfl)).mono ?_
  rintro e w5 ⟨A3, k3, rfl, h3, h4, h5⟩
  have B5 := Lib.hid (BL.out.trans (h4.mono BL.out.size))
  have P5 := Lib.hid (P3.out.later B5.out (Nat.le_refl _))
  have P6 := Lib.hid (P4.out.later B5.out (Nat.le_refl _))
  have B6 := Lib.hid (B1.out.trans (B5.out.mono B1.out.size))
  have A5 := Lib.hid h3
  have F5 := Lib.hid (show ∀ k, blk A3 = some k → w.heap.size + 2 ≤ k from fun k e => by have h6 := (h5 k e).1; have h7 := P4.out.lt; simp at h6; omega)
  clear h3 h4 h5 c0 c1 c2 c4 d0 d1 d2 d3 d4 f0 f1 f2 f3 f4 P3 P4 B1 BL B5
  obtain ⟨L, hL⟩ : ∃ L, SetM.elems (SetM.op 0 (SetM.bitsOf gone) (SetM.bitsOf [id])) = L := ⟨_, rfl⟩
  have hput : qput gone id = L := hL
  rw [hL] at A5
  rw [hL]
  have HP := Lib.hid hput
  clear hL hput
  have c0 := P5.out.cell 0
  have c1 := P5.out.cell 1
  have c2 := P5.out.cell 2
  have c3 := P5.out.cell 3
  have c4 := P5.out.cell 4
  have d0 := P6.out.cell 0
  have f0 := P6.out.frozen 0
  have d1 := P6.out.cell 1
  have f1 := P6.out.frozen 1
  have d2 := P6.out.cell 2
  have f2 := P6.out.frozen 2
  have d3 := P6.out.cell 3
  have f3 := P6.out.frozen 3
  have d4 := P6.out.cell 4
  have f4 := P6.out.frozen 4
  simp only [List.getElem?_toArray, List.getElem?_cons_zero, List.getElem?_cons_succ] at c0 c1 c2 c3 c4 d0 d1 d2 d3 d4
  have f14 := P5.out.frozen 4
  go_wp2_with fail
  have P7 := Lib.hid (P6.out.far (p := ⟨w.heap.size, 4, none⟩) (by show w.heap.size + 1 ≠ w.heap.size; omega) (.slice A3 L.length k3))
  have B7 := Lib.hid (below_grown B6.out (grown_set (grown_refl _ (some w.heap.size)) 4 (.slice A3 L.length k3)) (Nat.le_refl _))
  have A7 := Lib.hid (A5.out.grown (grown_set (grown_refl w5 (some w.heap.size)) 4 (.slice A3 L.length k3)) (by
    cases e : blk A3 with
    | none => exact .inl rfl
    | some k => exact .inr (fun e2 => by injection e2 with e2; have := F5.out k e; omega)))
  generalize (w5.setCell ⟨w.heap.size, 4, none⟩ (.slice A3 L.length k3)) = wy at *
  have A8 := Lib.hid (show At (((((wy.setCell ⟨w.heap.size + 1, 0, none⟩ (.slice Aw n cw)).setCell ⟨w.heap.size + 1, 1, none⟩ (.int .i64 need)).setCell ⟨w.heap.size + 1, 2, none⟩ (.int .i64 left)).setCell ⟨w.heap.size + 1, 3, none⟩ (.slice Ai m ci)).setCell ⟨w.heap.size + 1, 4, none⟩ (.slice A3 L.length k3)) A3 (ints .i64 L) from
    A7.out.grown (grown_set (grown_set (grown_set (grown_set (grown_set (grown_refl wy (some (w.heap.size + 1))) 0 _) 1 _) 2 _) 3 _) 4 _) (by
      cases e : blk A3 with
      | none => exact .inl rfl
      | some k => exact .inr (fun e2 => by injection e2 with e2; have := F5.out k e; omega)))
  obtain ⟨HQ, HR⟩ := five (w := w) (v0 := .slice Aw n cw) (v1 := .int .i64 need) (v2 := .int .i64 left) (v3 := .slice Ai m ci) (v4 := .slice A3 L.length k3) P7.out B7.out (Nat.le_succ _)
  have q0 := HQ.cell 0
  have q1 := HQ.cell 1
  have q2 := HQ.cell 2
  have q3 := HQ.cell 3
  have q4 := HQ.cell 4
  simp only [List.getElem?_toArray, List.getElem?_cons_zero, List.getElem?_cons_succ] at q0 q1 q2 q3 q4
  have HR' := Lib.hid HR
  clear HQ HR
  generalize (((((wy.setCell ⟨w.heap.size + 1, 0, none⟩ (.slice Aw n cw)).setCell ⟨w.heap.size + 1, 1, none⟩ (.int .i64 need)).setCell ⟨w.heap.size + 1, 2, none⟩ (.int .i64 left)).setCell ⟨w.heap.size + 1, 3, none⟩ (.slice Ai m ci)).setCell ⟨w.heap.size + 1, 4, none⟩ (.slice A3 L.length k3)) = wz at *
  exact bodyPost_ret (v := .tuple #[.agg #[.slice Aw n cw, .int .i64 need, .int .i64 left, .slice Ai m ci, .slice A3 L.length k3], .int .i64 0]) (by simp [results, Tryd.results15, go_sem, q0, q1, q2, q3, q4]) rfl ⟨A3, k3, by rw [HP.out], by rw [HP.out]; exact A8.out, HR'.out, F5.out⟩
end
end Go.Proofs.YtkpangeeldhjfaaDoor
