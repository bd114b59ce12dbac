/- Layer 23: the document's tally. -/
import Derived.Test.YtkpangeeldhjfaaDoorQuF
namespace Go.Proofs.YtkpangeeldhjfaaDoor
open Go.RowKit
/-- the document's state, by the ticks that are left -/
def rst (n m g : Nat) (need left : Int) : Int :=
  if (m : Int) = (n : Int) - g ∨ left = 0 then (if need ≤ (m : Int) then 1 else 2) else if (n : Int) - g < need then 2 else 0
theorem qst_rst {n m g : Nat} {need term went : Int} (h1 : m + g ≤ n) (h2 : went ≤ term) (h3 : need ≤ n) : qst n m g need term went = rst n m g need (term - went) := by
  unfold qst rst
  by_cases a : (m : Int) = n
  · rw [if_pos a, if_pos (by omega), if_pos (by omega)]
  · rw [if_neg a]
    by_cases b : need ≤ (m : Int)
    · by_cases c : term ≤ went ∨ (n : Int) - m - g = 0
      · rw [if_pos ⟨b, c⟩, if_pos (by omega), if_pos b]
      · rw [if_neg (fun h => c h.2), if_neg (by omega), if_neg (by omega), if_neg (by omega)]
    · rw [if_neg (fun h => b h.1)]
      by_cases c : term ≤ went ∨ (m : Int) + ((n : Int) - m - g) < need
      · rw [if_pos ⟨by omega, c⟩]
        by_cases d : (m : Int) = (n : Int) - g ∨ term - went = 0
        · rw [if_pos d, if_neg b]
        · rw [if_neg d, if_pos (by omega)]
      · rw [if_neg (fun h => c h.2), if_neg (by omega), if_neg (by omega)]
section
variable {w : World} {n m g cw ci cg : Nat} {need left : Int} {Aw Ai Ag : Option Addr}
set_option maxRecDepth 100000 in
set_option maxHeartbeats 2000000 in
theorem rstate_any (s : Int) (hs : rst n m g need left = s) (hn : n ≤ 100) (hm : m ≤ 100) (hg : g ≤ 100) :
    Calls Tryd.prog 17 #[.agg #[.slice Aw n cw, .int .i64 need, .int .i64 left, .slice Ai m ci, .slice Ag g cg]] w fun e w' => e = .returned (.int .i64 s) ∧ Below w.heap.size w w' := by
  have HB := Lib.hid ((Below.refl w.heap.size w).alloc (Nat.le_refl _) (.cells #[.slice Aw n cw, .int .i64 need, .int .i64 left, .slice Ai m ci, .slice Ag g cg] 37))
  unfold rst at hs
  by_cases a : (m : Int) = (n : Int) - g
  · have fa : ((m : Int) == (n : Int) - g) = true := by simpa using a
    rw [if_pos (.inl a)] at hs
    by_cases b : need ≤ (m : Int)
    · have fb : decide (need ≤ (m : Int)) = true := decide_eq_true b
      rw [if_pos b] at hs
      subst hs
      go_enter Tryd.func17, Tryd.ntmps17
      go_wp2_with fail
      go_ret
      exact ⟨rfl, HB.out⟩
    · have fb : decide (need ≤ (m : Int)) = false := decide_eq_false b
      rw [if_neg b] at hs
      subst hs
      go_enter Tryd.func17, Tryd.ntmps17
      go_wp2_with fail
      go_ret
      exact ⟨rfl, HB.out⟩
  · have fa : ((m : Int) == (n : Int) - g) = false := by simpa using a
    by_cases z : left = 0
    · rw [if_pos (.inr z)] at hs
      subst z
      by_cases b : need ≤ (m : Int)
      · have fb : decide (need ≤ (m : Int)) = true := decide_eq_true b
        rw [if_pos b] at hs
        subst hs
        go_enter Tryd.func17, Tryd.ntmps17
        go_wp2_with fail
        go_ret
        exact ⟨rfl, HB.out⟩
      · have fb : decide (need ≤ (m : Int)) = false := decide_eq_false b
        rw [if_neg b] at hs
        subst hs
        go_enter Tryd.func17, Tryd.ntmps17
        go_wp2_with fail
        go_ret
        exact ⟨rfl, HB.out⟩
    · have fz : (left == 0) = false := by simpa using z
      rw [if_neg (fun h => h.elim a z)] at hs
      by_cases b : (n : Int) - g < need
      · have fb : decide ((n : Int) - g < need) = true := decide_eq_true b
        rw [if_pos b] at hs
        subst hs
        go_enter Tryd.func17, Tryd.ntmps17
        go_wp2_with fail
        go_ret
        exact ⟨rfl, HB.out⟩
      · have fb : decide ((n : Int) - g < need) = false := decide_eq_false b
        rw [if_neg b] at hs
        subst hs
        go_enter Tryd.func17, Tryd.ntmps17
        go_wp2_with fail
        go_ret
        exact ⟨rfl, HB.out⟩
theorem five {wx : World} {p : Nat} {t : TypeId} {o0 o1 o2 o3 o4 v0 v1 v2 v3 v4 : Value} (h : Holds wx p t #[o0, o1, o2, o3, o4]) (hb : Below w.heap.size w wx) (hp : w.heap.size ≤ p) :
    Holds (((((wx.setCell ⟨p, 0, none⟩ v0).setCell ⟨p, 1, none⟩ v1).setCell ⟨p, 2, none⟩ v2).setCell ⟨p, 3, none⟩ v3).setCell ⟨p, 4, none⟩ v4) p t #[v0, v1, v2, v3, v4] ∧ Below w.heap.size w (((((wx.setCell ⟨p, 0, none⟩ v0).setCell ⟨p, 1, none⟩ v1).setCell ⟨p, 2, none⟩ v2).setCell ⟨p, 3, none⟩ v3).setCell ⟨p, 4, none⟩ v4) :=
  ⟨((((h.set 0 v0).set 1 v1).set 2 v2).set 3 v3).set 4 v4, below_grown hb (grown_set (grown_set (grown_set (grown_set (grown_set (grown_refl _ _) 0 v0) 1 v1) 2 v2) 3 v3) 4 v4) hp⟩
set_option maxRecDepth 100000 in
set_option maxHeartbeats 2000000 in
theorem rtick_any (s : Int) (hs : rst n m g need left = s) (hn : n ≤ 100) (hm : m ≤ 100) (hg : g ≤ 100) (hl : 0 ≤ left ∧ left ≤ 1000) (l2 : Int) (h2 : l2 = if s = 0 then left - 1 else left) :
    Calls Tryd.prog 16 #[.agg #[.slice Aw n cw, .int .i64 need, .int .i64 left, .slice Ai m ci, .slice Ag g cg]] w fun e w' => e = .returned (.agg #[.slice Aw n cw, .int .i64 need, .int .i64 l2, .slice Ai m ci, .slice Ag g cg]) ∧ Below w.heap.size w w' := by
  have H0 := Holds.new w 37 #[.slice Aw n cw, .int .i64 need, .int .i64 left, .slice Ai m ci, .slice Ag g cg] w.heap.size rfl
  have P1 := Lib.hid (H0.alloc (.cells #[.slice none 0 0, .int .i64 0, .int .i64 0, .slice none 0 0, .slice none 0 0] 37))
  have P2 := Lib.hid (Holds.new (w.alloc (.cells #[.slice Aw n cw, .int .i64 need, .int .i64 left, .slice Ai m ci, .slice Ag g cg] 37)) 37 #[.slice none 0 0, .int .i64 0, .int .i64 0, .slice none 0 0, .slice none 0 0] (w.heap.size + 1) (by simp))
  have BA := Lib.hid ((Below.refl w.heap.size w).alloc (Nat.le_refl _) (.cells #[.slice Aw n cw, .int .i64 need, .int .i64 left, .slice Ai m ci, .slice Ag g cg] 37) |>.alloc (by simp) (.cells #[.slice none 0 0, .int .i64 0, .int .i64 0, .slice none 0 0, .slice none 0 0] 37))
  clear H0
  go_enter Tryd.func16, Tryd.ntmps16
  go_wp2_with fail
  generalize ((w.alloc (.cells #[.slice Aw n cw, .int .i64 need, .int .i64 left, .slice Ai m ci, .slice Ag g cg] 37)).alloc (.cells #[.slice none 0 0, .int .i64 0, .int .i64 0, .slice none 0 0, .slice none 0 0] 37)) = w0 at *
  refine (rstate_any s hs hn hm hg).mono ?_
  rintro e w1 ⟨rfl, b1⟩
  have P3 := Lib.hid (P1.out.later b1 (Nat.le_refl _))
  have P4 := Lib.hid (P2.out.later b1 (Nat.le_refl _))
  have B1 := Lib.hid (BA.out.trans (b1.mono BA.out.size))
  clear b1 P1 P2 BA hs
  by_cases h0 : s = 0
  · subst h0
    rw [if_pos rfl] at h2
    subst h2
    have c0 := P3.out.cell 0
    have c1 := P3.out.cell 1
    have c2 := P3.out.cell 2
    have c3 := P3.out.cell 3
    have c4 := P3.out.cell 4
    have d0 := P4.out.cell 0
    have f0 := P4.out.frozen 0
    have d1 := P4.out.cell 1
    have f1 := P4.out.frozen 1
    have d2 := P4.out.cell 2
    have f2 := P4.out.frozen 2
    have d3 := P4.out.cell 3
    have f3 := P4.out.frozen 3
    have d4 := P4.out.cell 4
    have f4 := P4.out.frozen 4
    simp only [List.getElem?_toArray, List.getElem?_cons_zero, List.getElem?_cons_succ] at c0 c1 c2 c3 c4 d0 d1 d2 d3 d4
    have f12 := P3.out.frozen 2
    go_wp2_with fail
    have P7 := Lib.hid (P4.out.far (p := ⟨w.heap.size, 2, none⟩) (by show w.heap.size + 1 ≠ w.heap.size; omega) (.int .i64 (left - 1)))
    have B7 := Lib.hid (below_grown B1.out (grown_set (grown_refl _ (some w.heap.size)) 2 (.int .i64 (left - 1))) (Nat.le_refl _))
    generalize (w1.setCell ⟨w.heap.size, 2, none⟩ (.int .i64 (left - 1))) = wy at *
    obtain ⟨HQ, HR⟩ := five (w := w) (v0 := .slice Aw n cw) (v1 := .int .i64 need) (v2 := .int .i64 (left - 1)) (v3 := .slice Ai m ci) (v4 := .slice Ag g cg) P7.out B7.out (Nat.le_succ _)
    have q0 := HQ.cell 0
    have q1 := HQ.cell 1
    have q2 := HQ.cell 2
    have q3 := HQ.cell 3
    have q4 := HQ.cell 4
    simp only [List.getElem?_toArray, List.getElem?_cons_zero, List.getElem?_cons_succ] at q0 q1 q2 q3 q4
    have HR' := Lib.hid HR
    clear HQ HR
    generalize (((((wy.setCell ⟨w.heap.size + 1, 0, none⟩ (.slice Aw n cw)).setCell ⟨w.heap.size + 1, 1, none⟩ (.int .i64 need)).setCell ⟨w.heap.size + 1, 2, none⟩ (.int .i64 (left - 1))).setCell ⟨w.heap.size + 1, 3, none⟩ (.slice Ai m ci)).setCell ⟨w.heap.size + 1, 4, none⟩ (.slice Ag g cg)) = wz at *
    exact bodyPost_ret (v := .agg #[.slice Aw n cw, .int .i64 need, .int .i64 (left - 1), .slice Ai m ci, .slice Ag g cg]) (by simp [results, Tryd.results16, go_sem, q0, q1, q2, q3, q4]) rfl ⟨rfl, HR'.out⟩
  · have fs : (s == 0) = false := by simpa using h0
    rw [if_neg h0] at h2
    obtain rfl : left = l2 := h2.symm
    clear h0
    have c0 := P3.out.cell 0
    have c1 := P3.out.cell 1
    have c2 := P3.out.cell 2
    have c3 := P3.out.cell 3
    have c4 := P3.out.cell 4
    have d0 := P4.out.cell 0
    have f0 := P4.out.frozen 0
    have d1 := P4.out.cell 1
    have f1 := P4.out.frozen 1
    have d2 := P4.out.cell 2
    have f2 := P4.out.frozen 2
    have d3 := P4.out.cell 3
    have f3 := P4.out.frozen 3
    have d4 := P4.out.cell 4
    have f4 := P4.out.frozen 4
    simp only [List.getElem?_toArray, List.getElem?_cons_zero, List.getElem?_cons_succ] at c0 c1 c2 c3 c4 d0 d1 d2 d3 d4
    go_wp2_with fail
    obtain ⟨HQ, HR⟩ := five (w := w) (v0 := .slice Aw n cw) (v1 := .int .i64 need) (v2 := .int .i64 left) (v3 := .slice Ai m ci) (v4 := .slice Ag g cg) P4.out B1.out (Nat.le_succ _)
    have q0 := HQ.cell 0
    have q1 := HQ.cell 1
    have q2 := HQ.cell 2
    have q3 := HQ.cell 3
    have q4 := HQ.cell 4
    simp only [List.getElem?_toArray, List.getElem?_cons_zero, List.getElem?_cons_succ] at q0 q1 q2 q3 q4
    have HR' := Lib.hid HR
    clear HQ HR
    generalize (((((w1.setCell ⟨w.heap.size + 1, 0, none⟩ (.slice Aw n cw)).setCell ⟨w.heap.size + 1, 1, none⟩ (.int .i64 need)).setCell ⟨w.heap.size + 1, 2, none⟩ (.int .i64 left)).setCell ⟨w.heap.size + 1, 3, none⟩ (.slice Ai m ci)).setCell ⟨w.heap.size + 1, 4, none⟩ (.slice Ag g cg)) = wz at *
    exact bodyPost_ret (v := .agg #[.slice Aw n cw, .int .i64 need, .int .i64 left, .slice Ai m ci, .slice Ag g cg]) (by simp [results, Tryd.results16, go_sem, q0, q1, q2, q3, q4]) rfl ⟨rfl, HR'.out⟩
end
end Go.Proofs.YtkpangeeldhjfaaDoor
