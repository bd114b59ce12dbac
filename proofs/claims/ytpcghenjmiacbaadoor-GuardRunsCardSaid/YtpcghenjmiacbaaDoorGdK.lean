/- Layer 26: the document's guard: Out, Ask. -/
import Derived.Test.YtpcghenjmiacbaaDoorGdD
import Derived.Deep.QuietTactic
import Derived.BigQuiet
namespace Go.Proofs.YtpcghenjmiacbaaDoor
open Go.RowKit
section
variable {w : World} {who cur : List Int} {need : Int} {asked : Bool} {Aw Ac : Option Addr} {nw cw nc cc : Nat}
set_option maxRecDepth 100000 in
theorem rout26_any (id : Int) (hw : who.length = nw) (hc : cur.length = nc) (hnw : nw ≤ 100) (hnc : nc ≤ 100) (aw : At w Aw (ints .i64 who)) (ac : At w Ac (ints .i64 cur)) :
    Calls Tryd.prog 16 #[.agg #[.slice Aw nw cw, .int .i64 need, .slice Ac nc cc, .bool asked], .int .i64 id] w fun e w' => e = .returned (.int .i64 (SetM.outOf who cur asked id)) ∧ Below w.heap.size w w' := by
  have BA := (Below.refl w.heap.size w).alloc (Nat.le_refl _) (.cells #[.slice Aw nw cw, .int .i64 need, .slice Ac nc cc, .bool asked] 40)
  have H1 := Lib.hid (refHas_any Aw nw cw who id _ hw (by omega) (aw.later BA (Nat.le_refl _)))
  have H2 := Lib.hid (refHas_any Ac nc cc cur id _ hc (by omega) (ac.later BA (Nat.le_refl _)))
  have HB := Lib.hid BA
  clear aw ac BA hw hc
  unfold SetM.outOf
  cases asked with
  | false =>
    simp only [Bool.false_and, if_true]
    go_enter Tryd.func16, Tryd.ntmps16
    go_wp2_with fail
    go_ret
    exact ⟨rfl, HB.out⟩
  | true =>
    simp only [Bool.true_and]
    cases e1 : SetM.has who id with
    | false =>
      rw [e1] at H1
      simp only [if_true]
      clear e1
      go_enter Tryd.func16, Tryd.ntmps16
      go_wp2_with fail
      refine H1.out.mono ?_
      rintro e w1 ⟨rfl, rfl⟩
      go_wp2_with fail
      go_ret
      exact ⟨rfl, HB.out⟩
    | true =>
      rw [e1] at H1
      simp only [Bool.true_eq_false, if_false]
      clear e1
      cases e2 : SetM.has cur id <;> rw [e2] at H2 <;> clear e2 <;> simp only [Bool.false_eq_true, if_true, if_false]
      all_goals
        go_enter Tryd.func16, Tryd.ntmps16
        go_wp2_with fail
        refine H1.out.mono ?_
        rintro e w1 ⟨rfl, rfl⟩
        go_wp2_with fail
        refine H2.out.mono ?_
        rintro e w1 ⟨rfl, rfl⟩
        go_wp2_with fail
        go_ret
        exact ⟨rfl, HB.out⟩
def vret (who : List Int) (need : Int) (cur : List Int) (asked : Bool) (Aw : Option Addr) (nw cw : Nat) (Ac : Option Addr) (nc cc : Nat) (A : Option Addr) (n c : Nat) (code : Int) : Value :=
  if code = 0 then .tuple #[.agg #[.slice Aw nw cw, .int .i64 need, .slice A n c, .bool true], .int .i64 0] else .tuple #[.agg #[.slice Aw nw cw, .int .i64 need, .slice Ac nc cc, .bool asked], .int .i64 code]
theorem vret_k {A : Option Addr} {n c : Nat} {l : List Int} {k : Int} (hk : SetM.askCode who need cur asked l = k) (h0 : k ≠ 0) : vret who need cur asked Aw nw cw Ac nc cc A n c (SetM.askCode who need cur asked l) = .tuple #[.agg #[.slice Aw nw cw, .int .i64 need, .slice Ac nc cc, .bool asked], .int .i64 k] := by
  rw [hk]; simp [vret, h0]
theorem vret_0 {A : Option Addr} {n c : Nat} {l : List Int} (hk : SetM.askCode who need cur asked l = 0) : vret who need cur asked Aw nw cw Ac nc cc A n c (SetM.askCode who need cur asked l) = .tuple #[.agg #[.slice Aw nw cw, .int .i64 need, .slice A n c, .bool true], .int .i64 0] := by
  rw [hk]; rfl
theorem four {wx : World} {p : Nat} {t : TypeId} {o0 o1 o2 o3 v0 v1 v2 v3 : Value} (h : Holds wx p t #[o0, o1, o2, o3]) (hb : Below w.heap.size w wx) (hp : w.heap.size ≤ p) :
    Holds ((((wx.setCell ⟨p, 0, none⟩ v0).setCell ⟨p, 1, none⟩ v1).setCell ⟨p, 2, none⟩ v2).setCell ⟨p, 3, none⟩ v3) p t #[v0, v1, v2, v3] ∧ Below w.heap.size w ((((wx.setCell ⟨p, 0, none⟩ v0).setCell ⟨p, 1, none⟩ v1).setCell ⟨p, 2, none⟩ v2).setCell ⟨p, 3, none⟩ v3) :=
  ⟨(((h.set 0 v0).set 1 v1).set 2 v2).set 3 v3, below_grown hb (grown_set (grown_set (grown_set (grown_set (grown_refl _ _) 0 v0) 1 v1) 2 v2) 3 v3) hp⟩
set_option maxRecDepth 100000 in
set_option maxHeartbeats 1000000 in
theorem rask26_any (A : Option Addr) (n c : Nat) (l : List Int) (hw : who.length = nw) (hc : cur.length = nc) (hnw : nw ≤ 100) (hnc : nc ≤ 100) (aw : At w Aw (ints .i64 who)) (ac : At w Ac (ints .i64 cur)) (hl : l.length = n) (hn : n ≤ 100) (ha : At w A (ints .i64 l)) :
    Calls Tryd.prog 14 #[.agg #[.slice Aw nw cw, .int .i64 need, .slice Ac nc cc, .bool asked], .slice A n c] w fun e w' => e = .returned (vret who need cur asked Aw nw cw Ac nc cc A n c (SetM.askCode who need cur asked l)) ∧ Below w.heap.size w w' := by
  have H0 := Holds.new w 40 #[.slice Aw nw cw, .int .i64 need, .slice Ac nc cc, .bool asked] w.heap.size rfl
  have H1 := Lib.hid (H0.alloc (.cells #[.slice none 0 0, .int .i64 0, .slice none 0 0, .bool false] 40))
  have H2 := Lib.hid (Holds.new (w.alloc (.cells #[.slice Aw nw cw, .int .i64 need, .slice Ac nc cc, .bool asked] 40)) 40 #[.slice none 0 0, .int .i64 0, .slice none 0 0, .bool false] (w.heap.size + 1) (by simp))
  have BA := Lib.hid ((Below.refl w.heap.size w).alloc (Nat.le_refl _) (.cells #[.slice Aw nw cw, .int .i64 need, .slice Ac nc cc, .bool asked] 40) |>.alloc (by simp) (.cells #[.slice none 0 0, .int .i64 0, .slice none 0 0, .bool false] 40))
  have AW := Lib.hid aw
  have AC := Lib.hid ac
  have HA := Lib.hid ha
  have HL := Lib.hid hl
  have HW := Lib.hid hw
  have HCC := Lib.hid hc
  clear aw ac ha hl hw hc H0
  go_enter Tryd.func14, Tryd.ntmps14
  go_wp2_with fail
  generalize ((w.alloc (.cells #[.slice Aw nw cw, .int .i64 need, .slice Ac nc cc, .bool asked] 40)).alloc (.cells #[.slice none 0 0, .int .i64 0, .slice none 0 0, .bool false] 40)) = w0 at *
  refine (refMay_any A n c l w0 HL.out (by omega) (HA.out.later BA.out (Nat.le_refl _))).mono ?_
  rintro e w1 ⟨rfl, b1⟩
  have P1 := Lib.hid (H1.out.later b1 (Nat.le_refl _))
  have P2 := Lib.hid (H2.out.later b1 (Nat.le_refl _))
  have B1 := Lib.hid (BA.out.trans (b1.mono BA.out.size))
  clear b1 H1 H2 BA
  cases hm : SetM.may l with
  | false =>
    have HK := Lib.hid (vret_k (who := who) (cur := cur) (need := need) (asked := asked) (Aw := Aw) (nw := nw) (cw := cw) (Ac := Ac) (nc := nc) (cc := cc) (A := A) (n := n) (c := c) (SetM.askCode_1 (l := l) (by rw [hm]; rfl)) (by decide))
    clear hm
    have c0 := P1.out.cell 0
    have c1 := P1.out.cell 1
    have c2 := P1.out.cell 2
    have c3 := P1.out.cell 3
    have f0 := P2.out.frozen 0
    have d0 := P2.out.cell 0
    have f1 := P2.out.frozen 1
    have d1 := P2.out.cell 1
    have f2 := P2.out.frozen 2
    have d2 := P2.out.cell 2
    have f3 := P2.out.frozen 3
    have d3 := P2.out.cell 3
    simp only [List.getElem?_toArray, List.getElem?_cons_zero, List.getElem?_cons_succ] at c0 c1 c2 c3 d0 d1 d2 d3
    go_wp2_with fail
    obtain ⟨HQ, HR⟩ := four (w := w) (v0 := .slice Aw nw cw) (v1 := .int .i64 need) (v2 := .slice Ac nc cc) (v3 := .bool asked) P2.out B1.out (Nat.le_succ _)
    have q0 := HQ.cell 0
    have q1 := HQ.cell 1
    have q2 := HQ.cell 2
    have q3 := HQ.cell 3
    simp only [List.getElem?_toArray, List.getElem?_cons_zero, List.getElem?_cons_succ] at q0 q1 q2 q3
    have HR' := Lib.hid HR
    clear HQ HR
    generalize ((((w1.setCell ⟨w.heap.size + 1, 0, none⟩ (.slice Aw nw cw)).setCell ⟨w.heap.size + 1, 1, none⟩ (.int .i64 need)).setCell ⟨w.heap.size + 1, 2, none⟩ (.slice Ac nc cc)).setCell ⟨w.heap.size + 1, 3, none⟩ (.bool asked)) = wz at *
    exact bodyPost_ret (v := .tuple #[.agg #[.slice Aw nw cw, .int .i64 need, .slice Ac nc cc, .bool asked], .int .i64 1]) (by simp [results, Tryd.results14, go_sem, q0, q1, q2, q3]) rfl ⟨by rw [HK.out], HR'.out⟩
  | true =>
    have HM := Lib.hid hm
    clear hm
    have c0 := P1.out.cell 0
    simp only [List.getElem?_toArray, List.getElem?_cons_zero] at c0
    go_wp2_with fail
    go_loopw [6] (fun i wr => ∃ k : Nat, k ≤ n ∧ i = .int .i64 (k : Int) ∧ SetM.sub who (l.take k) = true ∧ Below w1.heap.size w1 wr) (fun i _ => n - (intOf i).toNat)
    case atStart => exact ⟨0, by omega, rfl, rfl, Below.refl _ _⟩
    case round =>
      obtain ⟨k, hk, rfl, hsub, hbel⟩ := hrel
      have HS := Lib.hid hsub
      have HBL := Lib.hid hbel
      have B2 := Lib.hid (B1.out.trans (hbel.mono B1.out.size))
      have P3 := Lib.hid (P1.out.later hbel (Nat.le_refl _))
      have P4 := Lib.hid (P2.out.later hbel (Nat.le_refl _))
      clear hsub hbel c0
      have e0 := P3.out.cell 0
      simp only [List.getElem?_toArray, List.getElem?_cons_zero] at e0
      by_cases hlt : k < n
      · obtain ⟨b, o, rfl, hc⟩ := (HA.out.later B2.out (Nat.le_refl _)).int k (by rw [HL.out]; exact hlt)
        have st := SetM.sub_take (who := who) (l := l) k (by rw [HL.out]; exact hlt)
        have sf := SetM.sub_false (who := who) (l := l) k (by rw [HL.out]; exact hlt)
        generalize l.getD k 0 = y at *
        have C := fun m => refHas_any Aw nw cw who y (wr.drewN m) HW.out (by omega) ((AW.out.later B2.out (Nat.le_refl _)).later (below_drewN wr m wr.heap.size) (Nat.le_refl _))
        have k0 : (0 : Int) ≤ (k : Int) := by omega
        cases hy : SetM.has who y with
        | true =>
          rw [hy] at C st
          have HC := Lib.hid C
          rw [HS.out] at st
          have ST := Lib.hid st
          clear C st sf hy
          go_wp2_with fail
          go_quiet ((go_at_call 10; exact Calls.quiet_of_same ((HC.out _).mono fun _ _ ⟨h1, h2⟩ => ⟨h1, h2.symm⟩)))
          have HB3 := Lib.hid (HBL.out.trans ((below_drewN wr nq _).mono HBL.out.size))
          clear e0 hc HC
          generalize wr.drewN nq = w9 at *
          go_wp2_with fail
          go_round
          case rel => exact ⟨k + 1, by omega, by go_num, by rw [ST.out]; rfl, HB3.out⟩
          case measure => simp [intOf]; omega
        | false =>
          have hsf := sf hy
          rw [hy] at C
          have HC := Lib.hid C
          have HK := Lib.hid (vret_k (who := who) (cur := cur) (need := need) (asked := asked) (Aw := Aw) (nw := nw) (cw := cw) (Ac := Ac) (nc := nc) (cc := cc) (A := some ⟨b, o, none⟩) (n := n) (c := c) (SetM.askCode_1 (l := l) (by rw [hsf, Bool.and_false])) (by decide))
          clear C st sf hy hsf
          go_wp2_with fail
          go_quiet ((go_at_call 10; exact Calls.quiet_of_same ((HC.out _).mono fun _ _ ⟨h1, h2⟩ => ⟨h1, h2.symm⟩)))
          have B5 := Lib.hid (B2.out.trans ((below_drewN wr nq _).mono B2.out.size))
          have P5 := Lib.hid (P3.out.drewN nq)
          have P6 := Lib.hid (P4.out.drewN nq)
          clear e0 hc HC P1 P2 P3 P4 B1 B2 HBL
          generalize wr.drewN nq = w9 at *
          have c0 := P5.out.cell 0
          have c1 := P5.out.cell 1
          have c2 := P5.out.cell 2
          have c3 := P5.out.cell 3
          have f0 := P6.out.frozen 0
          have d0 := P6.out.cell 0
          have f1 := P6.out.frozen 1
          have d1 := P6.out.cell 1
          have f2 := P6.out.frozen 2
          have d2 := P6.out.cell 2
          have f3 := P6.out.frozen 3
          have d3 := P6.out.cell 3
          simp only [List.getElem?_toArray, List.getElem?_cons_zero, List.getElem?_cons_succ] at c0 c1 c2 c3 d0 d1 d2 d3
          go_wp2_with fail
          obtain ⟨HQ, HR⟩ := four (w := w) (v0 := .slice Aw nw cw) (v1 := .int .i64 need) (v2 := .slice Ac nc cc) (v3 := .bool asked) P6.out B5.out (Nat.le_succ _)
          have q0 := HQ.cell 0
          have q1 := HQ.cell 1
          have q2 := HQ.cell 2
          have q3 := HQ.cell 3
          simp only [List.getElem?_toArray, List.getElem?_cons_zero, List.getElem?_cons_succ] at q0 q1 q2 q3
          have HR' := Lib.hid HR
          clear HQ HR
          generalize ((((w9.setCell ⟨w.heap.size + 1, 0, none⟩ (.slice Aw nw cw)).setCell ⟨w.heap.size + 1, 1, none⟩ (.int .i64 need)).setCell ⟨w.heap.size + 1, 2, none⟩ (.slice Ac nc cc)).setCell ⟨w.heap.size + 1, 3, none⟩ (.bool asked)) = wz at *
          exact bodyPost_ret (v := .tuple #[.agg #[.slice Aw nw cw, .int .i64 need, .slice Ac nc cc, .bool asked], .int .i64 1]) (by simp [results, Tryd.results14, go_sem, q0, q1, q2, q3]) rfl ⟨by rw [HK.out], HR'.out⟩
      · obtain rfl : k = n := by omega
        have hs := HS.out
        rw [List.take_of_length_le (by rw [HL.out]; exact Nat.le_refl _)] at hs
        have hms : (SetM.may l && SetM.sub who l) = true := by rw [HM.out, hs]; rfl
        clear hs HS e0
        by_cases hf : (k : Int) < need
        · have g1 : decide ((k : Int) < need) = true := decide_eq_true hf
          have HK := Lib.hid (vret_k (who := who) (cur := cur) (need := need) (asked := asked) (Aw := Aw) (nw := nw) (cw := cw) (Ac := Ac) (nc := nc) (cc := cc) (A := A) (n := k) (c := c) (SetM.askCode_7 (l := l) hms (by rw [HL.out]; exact hf)) (by decide))
          clear hf hms
          have c0 := P3.out.cell 0
          have c1 := P3.out.cell 1
          have c2 := P3.out.cell 2
          have c3 := P3.out.cell 3
          have f0 := P4.out.frozen 0
          have d0 := P4.out.cell 0
          have f1 := P4.out.frozen 1
          have d1 := P4.out.cell 1
          have f2 := P4.out.frozen 2
          have d2 := P4.out.cell 2
          have f3 := P4.out.frozen 3
          have d3 := P4.out.cell 3
          simp only [List.getElem?_toArray, List.getElem?_cons_zero, List.getElem?_cons_succ] at c0 c1 c2 c3 d0 d1 d2 d3
          go_wp2_with fail
          obtain ⟨HQ, HR⟩ := four (w := w) (v0 := .slice Aw nw cw) (v1 := .int .i64 need) (v2 := .slice Ac nc cc) (v3 := .bool asked) P4.out B2.out (Nat.le_succ _)
          have q0 := HQ.cell 0
          have q1 := HQ.cell 1
          have q2 := HQ.cell 2
          have q3 := HQ.cell 3
          simp only [List.getElem?_toArray, List.getElem?_cons_zero, List.getElem?_cons_succ] at q0 q1 q2 q3
          have HR' := Lib.hid HR
          clear HQ HR
          generalize ((((wr.setCell ⟨w.heap.size + 1, 0, none⟩ (.slice Aw nw cw)).setCell ⟨w.heap.size + 1, 1, none⟩ (.int .i64 need)).setCell ⟨w.heap.size + 1, 2, none⟩ (.slice Ac nc cc)).setCell ⟨w.heap.size + 1, 3, none⟩ (.bool asked)) = wz at *
          exact bodyPost_ret (v := .tuple #[.agg #[.slice Aw nw cw, .int .i64 need, .slice Ac nc cc, .bool asked], .int .i64 7]) (by simp [results, Tryd.results14, go_sem, q0, q1, q2, q3]) rfl ⟨by rw [HK.out], HR'.out⟩
        · have g1 : decide ((k : Int) < need) = false := decide_eq_false hf
          cases hk : asked with
          | false =>
            subst hk
            have HK := Lib.hid (vret_0 (who := who) (cur := cur) (need := need) (asked := false) (Aw := Aw) (nw := nw) (cw := cw) (Ac := Ac) (nc := nc) (cc := cc) (A := A) (n := k) (c := c) (SetM.askCode_0 (l := l) hms (by rw [HL.out]; exact hf) (.inl rfl)))
            clear hf hms
            have c0 := P3.out.cell 0
            have c1 := P3.out.cell 1
            have c2 := P3.out.cell 2
            have c3 := P3.out.cell 3
            have f0 := P4.out.frozen 0
            have d0 := P4.out.cell 0
            have f1 := P4.out.frozen 1
            have d1 := P4.out.cell 1
            have f2 := P4.out.frozen 2
            have d2 := P4.out.cell 2
            have f3 := P4.out.frozen 3
            have d3 := P4.out.cell 3
            simp only [List.getElem?_toArray, List.getElem?_cons_zero, List.getElem?_cons_succ] at c0 c1 c2 c3 d0 d1 d2 d3
            have f12 := P3.out.frozen 2
            have f13 := P3.out.frozen 3
            go_wp2_with fail
            have P7 := Lib.hid ((P4.out.far (p := ⟨w.heap.size, 2, none⟩) (by show w.heap.size + 1 ≠ w.heap.size; omega) (.slice A k c)).far (p := ⟨w.heap.size, 3, none⟩) (by show w.heap.size + 1 ≠ w.heap.size; omega) (.bool true))
            have B7 := Lib.hid (below_grown B2.out (grown_set (grown_set (grown_refl _ (some w.heap.size)) 2 (.slice A k c)) 3 (.bool true)) (Nat.le_refl _))
            generalize ((wr.setCell ⟨w.heap.size, 2, none⟩ (.slice A k c)).setCell ⟨w.heap.size, 3, none⟩ (.bool true)) = wy at *
            obtain ⟨HQ, HR⟩ := four (w := w) (v0 := .slice Aw nw cw) (v1 := .int .i64 need) (v2 := .slice A k c) (v3 := .bool true) P7.out B7.out (Nat.le_succ _)
            have q0 := HQ.cell 0
            have q1 := HQ.cell 1
            have q2 := HQ.cell 2
            have q3 := HQ.cell 3
            simp only [List.getElem?_toArray, List.getElem?_cons_zero, List.getElem?_cons_succ] at q0 q1 q2 q3
            have HR' := Lib.hid HR
            clear HQ HR
            generalize ((((wy.setCell ⟨w.heap.size + 1, 0, none⟩ (.slice Aw nw cw)).setCell ⟨w.heap.size + 1, 1, none⟩ (.int .i64 need)).setCell ⟨w.heap.size + 1, 2, none⟩ (.slice A k c)).setCell ⟨w.heap.size + 1, 3, none⟩ (.bool true)) = wz at *
            exact bodyPost_ret (v := .tuple #[.agg #[.slice Aw nw cw, .int .i64 need, .slice A k c, .bool true], .int .i64 0]) (by simp [results, Tryd.results14, go_sem, q0, q1, q2, q3]) rfl ⟨by rw [HK.out], HR'.out⟩
          | true =>
            subst hk
            have Q := Lib.hid (same26_any Ac nc cc cur A k c l wr HCC.out (by omega) (AC.out.later B2.out (Nat.le_refl _)) HL.out (by omega) (HA.out.later B2.out (Nat.le_refl _)))
            by_cases he : l = cur
            · have de : decide (cur = l) = true := decide_eq_true he.symm
              rw [de] at Q
              have HK := Lib.hid (vret_0 (who := who) (cur := cur) (need := need) (asked := true) (Aw := Aw) (nw := nw) (cw := cw) (Ac := Ac) (nc := nc) (cc := cc) (A := A) (n := k) (c := c) (SetM.askCode_0 (l := l) hms (by rw [HL.out]; exact hf) (.inr he)))
              clear hf hms he de
              have c0 := P3.out.cell 0
              have c1 := P3.out.cell 1
              have c2 := P3.out.cell 2
              have c3 := P3.out.cell 3
              have f0 := P4.out.frozen 0
              have d0 := P4.out.cell 0
              have f1 := P4.out.frozen 1
              have d1 := P4.out.cell 1
              have f2 := P4.out.frozen 2
              have d2 := P4.out.cell 2
              have f3 := P4.out.frozen 3
              have d3 := P4.out.cell 3
              simp only [List.getElem?_toArray, List.getElem?_cons_zero, List.getElem?_cons_succ] at c0 c1 c2 c3 d0 d1 d2 d3
              go_wp2_with fail
              refine Q.out.mono ?_
              rintro e w5 ⟨rfl, b5⟩
              have P5 := Lib.hid (P3.out.later b5 (Nat.le_refl _))
              have P6 := Lib.hid (P4.out.later b5 (Nat.le_refl _))
              have B5 := Lib.hid (B2.out.trans (b5.mono B2.out.size))
              clear b5 P1 P2 P3 P4 B1 B2 HBL c0 c1 c2 c3 d0 d1 d2 d3 f0 f1 f2 f3 Q
              have c0 := P5.out.cell 0
              have c1 := P5.out.cell 1
              have c2 := P5.out.cell 2
              have c3 := P5.out.cell 3
              have f0 := P6.out.frozen 0
              have d0 := P6.out.cell 0
              have f1 := P6.out.frozen 1
              have d1 := P6.out.cell 1
              have f2 := P6.out.frozen 2
              have d2 := P6.out.cell 2
              have f3 := P6.out.frozen 3
              have d3 := P6.out.cell 3
              simp only [List.getElem?_toArray, List.getElem?_cons_zero, List.getElem?_cons_succ] at c0 c1 c2 c3 d0 d1 d2 d3
              have f12 := P5.out.frozen 2
              have f13 := P5.out.frozen 3
              go_wp2_with fail
              have P7 := Lib.hid ((P6.out.far (p := ⟨w.heap.size, 2, none⟩) (by show w.heap.size + 1 ≠ w.heap.size; omega) (.slice A k c)).far (p := ⟨w.heap.size, 3, none⟩) (by show w.heap.size + 1 ≠ w.heap.size; omega) (.bool true))
              have B7 := Lib.hid (below_grown B5.out (grown_set (grown_set (grown_refl _ (some w.heap.size)) 2 (.slice A k c)) 3 (.bool true)) (Nat.le_refl _))
              generalize ((w5.setCell ⟨w.heap.size, 2, none⟩ (.slice A k c)).setCell ⟨w.heap.size, 3, none⟩ (.bool true)) = wy at *
              obtain ⟨HQ, HR⟩ := four (w := w) (v0 := .slice Aw nw cw) (v1 := .int .i64 need) (v2 := .slice A k c) (v3 := .bool true) P7.out B7.out (Nat.le_succ _)
              have q0 := HQ.cell 0
              have q1 := HQ.cell 1
              have q2 := HQ.cell 2
              have q3 := HQ.cell 3
              simp only [List.getElem?_toArray, List.getElem?_cons_zero, List.getElem?_cons_succ] at q0 q1 q2 q3
              have HR' := Lib.hid HR
              clear HQ HR
              generalize ((((wy.setCell ⟨w.heap.size + 1, 0, none⟩ (.slice Aw nw cw)).setCell ⟨w.heap.size + 1, 1, none⟩ (.int .i64 need)).setCell ⟨w.heap.size + 1, 2, none⟩ (.slice A k c)).setCell ⟨w.heap.size + 1, 3, none⟩ (.bool true)) = wz at *
              exact bodyPost_ret (v := .tuple #[.agg #[.slice Aw nw cw, .int .i64 need, .slice A k c, .bool true], .int .i64 0]) (by simp [results, Tryd.results14, go_sem, q0, q1, q2, q3]) rfl ⟨by rw [HK.out], HR'.out⟩
            · have de : decide (cur = l) = false := decide_eq_false (fun h => he h.symm)
              rw [de] at Q
              have HK := Lib.hid (vret_k (who := who) (cur := cur) (need := need) (asked := true) (Aw := Aw) (nw := nw) (cw := cw) (Ac := Ac) (nc := nc) (cc := cc) (A := A) (n := k) (c := c) (SetM.askCode_12 (l := l) hms (by rw [HL.out]; exact hf) rfl he) (by decide))
              clear hf hms he de
              have c0 := P3.out.cell 0
              have c1 := P3.out.cell 1
              have c2 := P3.out.cell 2
              have c3 := P3.out.cell 3
              have f0 := P4.out.frozen 0
              have d0 := P4.out.cell 0
              have f1 := P4.out.frozen 1
              have d1 := P4.out.cell 1
              have f2 := P4.out.frozen 2
              have d2 := P4.out.cell 2
              have f3 := P4.out.frozen 3
              have d3 := P4.out.cell 3
              simp only [List.getElem?_toArray, List.getElem?_cons_zero, List.getElem?_cons_succ] at c0 c1 c2 c3 d0 d1 d2 d3
              go_wp2_with fail
              refine Q.out.mono ?_
              rintro e w5 ⟨rfl, b5⟩
              have P5 := Lib.hid (P3.out.later b5 (Nat.le_refl _))
              have P6 := Lib.hid (P4.out.later b5 (Nat.le_refl _))
              have B5 := Lib.hid (B2.out.trans (b5.mono B2.out.size))
              clear b5 P1 P2 P3 P4 B1 B2 HBL c0 c1 c2 c3 d0 d1 d2 d3 f0 f1 f2 f3 Q
              have c0 := P5.out.cell 0
              have c1 := P5.out.cell 1
              have c2 := P5.out.cell 2
              have c3 := P5.out.cell 3
              have f0 := P6.out.frozen 0
              have d0 := P6.out.cell 0
              have f1 := P6.out.frozen 1
              have d1 := P6.out.cell 1
              have f2 := P6.out.frozen 2
              have d2 := P6.out.cell 2
              have f3 := P6.out.frozen 3
              have d3 := P6.out.cell 3
              simp only [List.getElem?_toArray, List.getElem?_cons_zero, List.getElem?_cons_succ] at c0 c1 c2 c3 d0 d1 d2 d3
              go_wp2_with fail
              obtain ⟨HQ, HR⟩ := four (w := w) (v0 := .slice Aw nw cw) (v1 := .int .i64 need) (v2 := .slice Ac nc cc) (v3 := .bool true) P6.out B5.out (Nat.le_succ _)
              have q0 := HQ.cell 0
              have q1 := HQ.cell 1
              have q2 := HQ.cell 2
              have q3 := HQ.cell 3
              simp only [List.getElem?_toArray, List.getElem?_cons_zero, List.getElem?_cons_succ] at q0 q1 q2 q3
              have HR' := Lib.hid HR
              clear HQ HR
              generalize ((((w5.setCell ⟨w.heap.size + 1, 0, none⟩ (.slice Aw nw cw)).setCell ⟨w.heap.size + 1, 1, none⟩ (.int .i64 need)).setCell ⟨w.heap.size + 1, 2, none⟩ (.slice Ac nc cc)).setCell ⟨w.heap.size + 1, 3, none⟩ (.bool true)) = wz at *
              exact bodyPost_ret (v := .tuple #[.agg #[.slice Aw nw cw, .int .i64 need, .slice Ac nc cc, .bool true], .int .i64 12]) (by simp [results, Tryd.results14, go_sem, q0, q1, q2, q3]) rfl ⟨by rw [HK.out], HR'.out⟩
end
end Go.Proofs.YtpcghenjmiacbaaDoor
