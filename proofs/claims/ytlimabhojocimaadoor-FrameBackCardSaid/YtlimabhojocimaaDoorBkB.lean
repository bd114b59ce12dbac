/- Layer 14: FrameBack. Printed by bkb.py. -/
import Derived.Test.YtlimabhojocimaaDoorFrY
import Derived.Test.YtlimabhojocimaaDoorBkA
namespace Go.Proofs.YtlimabhojocimaaDoor
open Go.RowKit
section
variable (f1 d1 : Int) (k1 : Bool) (e1 s1 : Int) (A1 : Option Addr) (n1 c1 : Nat) (l1 : List Nat) (x0 x1 : Nat) (w : World)
set_option maxRecDepth 100000 in
set_option maxHeartbeats 4000000 in
theorem back_any (hl1 : l1.length = n1) (hn1 : n1 ≤ 140737488351232) (ha1 : At w A1 (nats .u8 l1)) (hy1 : ∀ i, l1.getD i 0 < 256) (y0 : x0 < 4294967296) (y1 : x1 < 4294967296) (hg : Glob w) :
    Calls Tryd.prog 4 #[.agg #[.int .i64 f1, .int .i64 d1, .bool k1, .int .i64 e1, .int .i64 s1, .slice A1 n1 c1], .agg #[.int .u32 x0, .int .u32 x1]] w fun e w' => e = .returned (.bool true) ∧ Below w.heap.size w w' := by
  have HL1 := Lib.hid hl1
  have HA1 := Lib.hid ha1
  have HY1 := Lib.hid hy1
  have HS := Lib.hid (fun (W : World) (hW : Below w.heap.size w W) => sure14 W (hg.later hW (Nat.le_refl _)))
  clear hl1 ha1 hy1 hg
  by_cases h9 : 900 < n1
  · skip
    have z1 : decide ((900 : Int) < n1) = true := decide_eq_true (by omega)
    go_enter Tryd.func4, Tryd.ntmps4
    go_upto_region 1 with fail
    have HP := Lib.hid ((Holds.new w 24 #[.int .i64 f1, .int .i64 d1, .bool k1, .int .i64 e1, .int .i64 s1, .slice A1 n1 c1] w.heap.size rfl).alloc (.cells #[.int .u32 x0, .int .u32 x1] 44))
    have HO := Lib.hid (Holds.new (w.alloc (.cells #[.int .i64 f1, .int .i64 d1, .bool k1, .int .i64 e1, .int .i64 s1, .slice A1 n1 c1] 24)) 44 #[.int .u32 x0, .int .u32 x1] (w.heap.size + 1) (by simp))
    have HB := Lib.hid (((Below.refl w.heap.size w).alloc (Nat.le_refl _) (.cells #[.int .i64 f1, .int .i64 d1, .bool k1, .int .i64 e1, .int .i64 s1, .slice A1 n1 c1] 24)).alloc (by simp) (.cells #[.int .u32 x0, .int .u32 x1] 44))
    change Code.wp _ _ _ _ ((w.alloc (.cells #[.int .i64 f1, .int .i64 d1, .bool k1, .int .i64 e1, .int .i64 s1, .slice A1 n1 c1] 24)).alloc (.cells #[.int .u32 x0, .int .u32 x1] 44))
    generalize (w.alloc (.cells #[.int .i64 f1, .int .i64 d1, .bool k1, .int .i64 e1, .int .i64 s1, .slice A1 n1 c1] 24)).alloc (.cells #[.int .u32 x0, .int .u32 x1] 44) = w0 at *
    obtain ⟨g2, hg2⟩ : ∃ g2, w.heap.size + 1 = g2 := ⟨_, rfl⟩
    rw [hg2] at HO ⊢
    clear hg2
    obtain ⟨g1, hg1⟩ : ∃ g1, w.heap.size = g1 := ⟨_, rfl⟩
    rw [hg1] at HP ⊢
    clear hg1
    go_upto_region 2 with (first
      | (refine wpList_load_row rfl 24 (.tmp 2) rfl g1 rfl _ #[.int .i64 f1, .int .i64 d1, .bool k1, .int .i64 e1, .int .i64 s1, .slice A1 n1 c1] _ _ HP.out rk_under rfl rk_size ?_)
      | (go_at_call 7; refine (give_any f1 d1 k1 e1 s1 A1 n1 c1 l1 w0 HL1.out hn1 (HA1.out.later HB.out (Nat.le_refl _))).mono ?_; rintro e w1 ⟨A9, c9, rfl, t9, b9⟩; have T9 := Lib.hid t9; have HP := Lib.hid (HP.out.later b9 (Nat.le_refl _)); have HO := Lib.hid (HO.out.later b9 (Nat.le_refl _)); have HB := Lib.hid (HB.out.trans (b9.mono HB.out.size)); clear t9 b9))
    have NP := (Below.refl w1.heap.size w1).alloc (Nat.le_refl _) (.cells #[.int .i64 f1, .int .i64 d1, .bool k1, .int .i64 e1, .int .i64 s1, .slice A9 n1 c9] 30)
    have HX := Lib.hid (Holds.new w1 30 #[.int .i64 f1, .int .i64 d1, .bool k1, .int .i64 e1, .int .i64 s1, .slice A9 n1 c9] w1.heap.size rfl)
    have T9 := Lib.hid (T9.out.later NP (Nat.le_refl _))
    have HP := Lib.hid (HP.out.later NP (Nat.le_refl _))
    have HO := Lib.hid (HO.out.later NP (Nat.le_refl _))
    have HB := Lib.hid (HB.out.trans (NP.mono HB.out.size))
    clear NP
    generalize w1.heap.size = g5 at *
    generalize w1.alloc (.cells #[.int .i64 f1, .int .i64 d1, .bool k1, .int .i64 e1, .int .i64 s1, .slice A9 n1 c9] 30) = w2 at *
    have q5 : w2.cell? ⟨g1, 5, none⟩ = some (.slice A1 n1 c1) := HP.out.cell 5
    go_wp2_with fail
    refine (HS.out _ HB.out).mono ?_
    rintro e w9 ⟨rfl, b9⟩
    have B9 := Lib.hid (HB.out.trans (b9.mono HB.out.size))
    clear b9
    go_wp2_with fail
    go_ret
    exact ⟨rfl, B9.out⟩
  by_cases hm : FMay f1 d1 k1 e1 s1 l1.length
  rotate_left
  · have ex : encX f1 d1 k1 e1 s1 l1.length = 1 := by unfold encX; exact if_neg hm
    have el : encL f1 d1 k1 e1 s1 l1 = [] := by unfold encL; exact if_neg hm
    clear hm
    have z1 : decide ((900 : Int) < n1) = false := decide_eq_false (by omega)
    go_enter Tryd.func4, Tryd.ntmps4
    go_upto_region 1 with fail
    have HP := Lib.hid ((Holds.new w 24 #[.int .i64 f1, .int .i64 d1, .bool k1, .int .i64 e1, .int .i64 s1, .slice A1 n1 c1] w.heap.size rfl).alloc (.cells #[.int .u32 x0, .int .u32 x1] 44))
    have HO := Lib.hid (Holds.new (w.alloc (.cells #[.int .i64 f1, .int .i64 d1, .bool k1, .int .i64 e1, .int .i64 s1, .slice A1 n1 c1] 24)) 44 #[.int .u32 x0, .int .u32 x1] (w.heap.size + 1) (by simp))
    have HB := Lib.hid (((Below.refl w.heap.size w).alloc (Nat.le_refl _) (.cells #[.int .i64 f1, .int .i64 d1, .bool k1, .int .i64 e1, .int .i64 s1, .slice A1 n1 c1] 24)).alloc (by simp) (.cells #[.int .u32 x0, .int .u32 x1] 44))
    change Code.wp _ _ _ _ ((w.alloc (.cells #[.int .i64 f1, .int .i64 d1, .bool k1, .int .i64 e1, .int .i64 s1, .slice A1 n1 c1] 24)).alloc (.cells #[.int .u32 x0, .int .u32 x1] 44))
    generalize (w.alloc (.cells #[.int .i64 f1, .int .i64 d1, .bool k1, .int .i64 e1, .int .i64 s1, .slice A1 n1 c1] 24)).alloc (.cells #[.int .u32 x0, .int .u32 x1] 44) = w0 at *
    obtain ⟨g2, hg2⟩ : ∃ g2, w.heap.size + 1 = g2 := ⟨_, rfl⟩
    rw [hg2] at HO ⊢
    clear hg2
    obtain ⟨g1, hg1⟩ : ∃ g1, w.heap.size = g1 := ⟨_, rfl⟩
    rw [hg1] at HP ⊢
    clear hg1
    go_upto_region 2 with (first
      | (refine wpList_load_row rfl 24 (.tmp 2) rfl g1 rfl _ #[.int .i64 f1, .int .i64 d1, .bool k1, .int .i64 e1, .int .i64 s1, .slice A1 n1 c1] _ _ HP.out rk_under rfl rk_size ?_)
      | (go_at_call 7; refine (give_any f1 d1 k1 e1 s1 A1 n1 c1 l1 w0 HL1.out hn1 (HA1.out.later HB.out (Nat.le_refl _))).mono ?_; rintro e w1 ⟨A9, c9, rfl, t9, b9⟩; have T9 := Lib.hid t9; have HP := Lib.hid (HP.out.later b9 (Nat.le_refl _)); have HO := Lib.hid (HO.out.later b9 (Nat.le_refl _)); have HB := Lib.hid (HB.out.trans (b9.mono HB.out.size)); clear t9 b9))
    have NP := (Below.refl w1.heap.size w1).alloc (Nat.le_refl _) (.cells #[.int .i64 f1, .int .i64 d1, .bool k1, .int .i64 e1, .int .i64 s1, .slice A9 n1 c9] 30)
    have HX := Lib.hid (Holds.new w1 30 #[.int .i64 f1, .int .i64 d1, .bool k1, .int .i64 e1, .int .i64 s1, .slice A9 n1 c9] w1.heap.size rfl)
    have T9 := Lib.hid (T9.out.later NP (Nat.le_refl _))
    have HP := Lib.hid (HP.out.later NP (Nat.le_refl _))
    have HO := Lib.hid (HO.out.later NP (Nat.le_refl _))
    have HB := Lib.hid (HB.out.trans (NP.mono HB.out.size))
    clear NP
    generalize w1.heap.size = g5 at *
    generalize w1.alloc (.cells #[.int .i64 f1, .int .i64 d1, .bool k1, .int .i64 e1, .int .i64 s1, .slice A9 n1 c9] 30) = w2 at *
    have q5 : w2.cell? ⟨g1, 5, none⟩ = some (.slice A1 n1 c1) := HP.out.cell 5
    go_wp2_with (refine wpList_load_row rfl 30 (.tmp 5) rfl g5 rfl _ #[.int .i64 f1, .int .i64 d1, .bool k1, .int .i64 e1, .int .i64 s1, .slice A9 n1 c9] _ _ HX.out pk_under rfl pk_size ?_)
    have Q := enc_any f1 d1 k1 e1 s1 A9 n1 c9 l1 w2 HL1.out T9.out
    rw [ex, el, erV_ne (show (1 : Int) ≠ 0 by decide)] at Q
    unfold EncR at Q
    with_reducible refine Q.mono ?_
    clear Q
    rintro e w3 ⟨A6, c6, rfl, _, b6⟩
    have HB := Lib.hid (HB.out.trans (b6.mono HB.out.size))
    clear b6 q5
    go_wp2_with fail
    refine (HS.out _ HB.out).mono ?_
    rintro e w9 ⟨rfl, b9⟩
    have B9 := Lib.hid (HB.out.trans (b9.mono HB.out.size))
    clear b9
    go_wp2_with fail
    go_ret
    exact ⟨rfl, B9.out⟩
  obtain ⟨f, d, e, s, rfl, rfl, rfl, rfl⟩ := fmay_nat hm
  have ex : encX f d k1 e s l1.length = 0 := by unfold encX; exact if_pos hm
  obtain ⟨L, el⟩ : ∃ L, encL f d k1 e s l1 = L := ⟨_, rfl⟩
  have HGD := Lib.hid (show Good L f d k1 e s l1 from ⟨hm, by rw [← el]; unfold encL; exact if_pos hm⟩)
  clear hm
  have z1 : decide ((900 : Int) < n1) = false := decide_eq_false (by omega)
  go_enter Tryd.func4, Tryd.ntmps4
  go_upto_region 1 with fail
  have HP := Lib.hid ((Holds.new w 24 #[.int .i64 f, .int .i64 d, .bool k1, .int .i64 e, .int .i64 s, .slice A1 n1 c1] w.heap.size rfl).alloc (.cells #[.int .u32 x0, .int .u32 x1] 44))
  have HO := Lib.hid (Holds.new (w.alloc (.cells #[.int .i64 f, .int .i64 d, .bool k1, .int .i64 e, .int .i64 s, .slice A1 n1 c1] 24)) 44 #[.int .u32 x0, .int .u32 x1] (w.heap.size + 1) (by simp))
  have HB := Lib.hid (((Below.refl w.heap.size w).alloc (Nat.le_refl _) (.cells #[.int .i64 f, .int .i64 d, .bool k1, .int .i64 e, .int .i64 s, .slice A1 n1 c1] 24)).alloc (by simp) (.cells #[.int .u32 x0, .int .u32 x1] 44))
  change Code.wp _ _ _ _ ((w.alloc (.cells #[.int .i64 f, .int .i64 d, .bool k1, .int .i64 e, .int .i64 s, .slice A1 n1 c1] 24)).alloc (.cells #[.int .u32 x0, .int .u32 x1] 44))
  generalize (w.alloc (.cells #[.int .i64 f, .int .i64 d, .bool k1, .int .i64 e, .int .i64 s, .slice A1 n1 c1] 24)).alloc (.cells #[.int .u32 x0, .int .u32 x1] 44) = w0 at *
  obtain ⟨g2, hg2⟩ : ∃ g2, w.heap.size + 1 = g2 := ⟨_, rfl⟩
  rw [hg2] at HO ⊢
  clear hg2
  obtain ⟨g1, hg1⟩ : ∃ g1, w.heap.size = g1 := ⟨_, rfl⟩
  rw [hg1] at HP ⊢
  clear hg1
  go_upto_region 2 with (first
    | (refine wpList_load_row rfl 24 (.tmp 2) rfl g1 rfl _ #[.int .i64 f, .int .i64 d, .bool k1, .int .i64 e, .int .i64 s, .slice A1 n1 c1] _ _ HP.out rk_under rfl rk_size ?_)
    | (go_at_call 7; refine (give_any f d k1 e s A1 n1 c1 l1 w0 HL1.out hn1 (HA1.out.later HB.out (Nat.le_refl _))).mono ?_; rintro e w1 ⟨A9, c9, rfl, t9, b9⟩; have T9 := Lib.hid t9; have HP := Lib.hid (HP.out.later b9 (Nat.le_refl _)); have HO := Lib.hid (HO.out.later b9 (Nat.le_refl _)); have HB := Lib.hid (HB.out.trans (b9.mono HB.out.size)); clear t9 b9))
  have NP := (Below.refl w1.heap.size w1).alloc (Nat.le_refl _) (.cells #[.int .i64 f, .int .i64 d, .bool k1, .int .i64 e, .int .i64 s, .slice A9 n1 c9] 30)
  have HX := Lib.hid (Holds.new w1 30 #[.int .i64 f, .int .i64 d, .bool k1, .int .i64 e, .int .i64 s, .slice A9 n1 c9] w1.heap.size rfl)
  have T9 := Lib.hid (T9.out.later NP (Nat.le_refl _))
  have HP := Lib.hid (HP.out.later NP (Nat.le_refl _))
  have HO := Lib.hid (HO.out.later NP (Nat.le_refl _))
  have HB := Lib.hid (HB.out.trans (NP.mono HB.out.size))
  clear NP
  generalize w1.heap.size = g5 at *
  generalize w1.alloc (.cells #[.int .i64 f, .int .i64 d, .bool k1, .int .i64 e, .int .i64 s, .slice A9 n1 c9] 30) = w2 at *
  have q5 : w2.cell? ⟨g1, 5, none⟩ = some (.slice A1 n1 c1) := HP.out.cell 5
  go_wp2_with (refine wpList_load_row rfl 30 (.tmp 5) rfl g5 rfl _ #[.int .i64 f, .int .i64 d, .bool k1, .int .i64 e, .int .i64 s, .slice A9 n1 c9] _ _ HX.out pk_under rfl pk_size ?_)
  have Q := enc_any f d k1 e s A9 n1 c9 l1 w2 HL1.out T9.out
  rw [ex, el, erV_zero] at Q
  unfold EncR at Q
  obtain ⟨nl, hnl⟩ : ∃ nl, L.length = nl := ⟨_, rfl⟩
  rw [hnl] at Q
  have hform := HGD.out.form
  rw [hnl] at hform
  have hn6 : (6 : Int) ≤ nl := by omega
  have hn8 : (nl : Int) ≤ 8300 := by omega
  have HF := Lib.hid hform.2.2.2.2
  have HLX := Lib.hid hnl
  clear hnl hform
  with_reducible refine Q.mono ?_
  clear Q
  rintro e w3 ⟨A6, c6, rfl, o6, b6⟩
  obtain ⟨bs, hbs⟩ : ∃ bs, w2.heap.size = bs := ⟨_, rfl⟩
  rw [hbs] at o6
  have HBS := Lib.hid (show w.heap.size ≤ bs from by rw [← hbs]; exact HB.out.size)
  have HG2 := Lib.hid (show g2 < bs ∧ g5 < bs from by rw [← hbs]; exact ⟨HO.out.lt, HX.out.lt⟩)
  have HB3 := Lib.hid (show bs ≤ w3.heap.size from by rw [← hbs]; exact b6.size)
  obtain ⟨g, rfl, hg1, hg2'⟩ : ∃ g, A6 = some ⟨g, 0, none⟩ ∧ bs ≤ g ∧ g < w3.heap.size := by
    rcases o6.lies with ⟨_, h, _⟩ | h
    · omega
    · exact h
  have HGB := Lib.hid hg1
  have HOW := Lib.hid o6
  have T9 := Lib.hid (T9.out.later b6 (Nat.le_refl _))
  have HX := Lib.hid (HX.out.later b6 (Nat.le_refl _))
  have HO := Lib.hid (HO.out.later b6 (Nat.le_refl _))
  have HB := Lib.hid (HB.out.trans (b6.mono HB.out.size))
  clear o6 b6 q5 hbs hg1 hg2'
  go_wp2_with fail
  have hby : ∀ y ∈ L, y < 256 := by
    obtain ⟨hm2, he2⟩ := HGD.out
    have hle := fmay_le hm2
    rw [he2]
    exact fdat_byte (by omega) (by omega) (by split <;> omega) (by omega) (by omega) (by omega) (all_of_getD HY1.out)
  have HLB := Lib.hid hby
  with_reducible refine (dec_any (some ⟨g, 0, none⟩) nl c6 L w3 HLX.out HOW.out.cap.1 (by have := HOW.out.cap.2; unfold maxLen at this; omega) HOW.out.at_ hby).mono ?_
  rintro e w4 ⟨fr, dt, k, ep, sq, bd, y, A7, c7, he, t7, b7, hd⟩
  obtain ⟨rfl, rfl, rfl, rfl, rfl, rfl, rfl⟩ := Dres.uniq (.inl ⟨rfl, HGD.out⟩) hd
  rw [HL1.out, erV_zero] at he
  subst he
  have T7 := Lib.hid t7
  have T9 := Lib.hid (T9.out.later b7 (Nat.le_refl _))
  have HOW := Lib.hid (HOW.out.below b7 (Nat.le_refl _))
  have HX := Lib.hid (HX.out.later b7 (Nat.le_refl _))
  have HO := Lib.hid (HO.out.later b7 (Nat.le_refl _))
  have HB := Lib.hid (HB.out.trans (b7.mono HB.out.size))
  have HB3 := Lib.hid (Nat.le_trans HB3.out b7.size)
  clear t7 b7 hd hby
  unfold pkF
  go_upto_region 8 with fail
  have NP := (Below.refl w4.heap.size w4).alloc (Nat.le_refl _) (.cells #[.int .i64 f, .int .i64 d, .bool k1, .int .i64 e, .int .i64 s, .slice A7 n1 c7] 30)
  have HQ := Lib.hid (Holds.new w4 30 #[.int .i64 f, .int .i64 d, .bool k1, .int .i64 e, .int .i64 s, .slice A7 n1 c7] w4.heap.size rfl)
  have T7 := Lib.hid (T7.out.later NP (Nat.le_refl _))
  have T9 := Lib.hid (T9.out.later NP (Nat.le_refl _))
  have HOW := Lib.hid (HOW.out.below NP (Nat.le_refl _))
  have HX := Lib.hid (HX.out.later NP (Nat.le_refl _))
  have HO := Lib.hid (HO.out.later NP (Nat.le_refl _))
  have HB := Lib.hid (HB.out.trans (NP.mono HB.out.size))
  have HB3 := Lib.hid (Nat.le_trans HB3.out NP.size)
  clear NP
  generalize w4.heap.size = g8 at *
  generalize w4.alloc (.cells #[.int .i64 f, .int .i64 d, .bool k1, .int .i64 e, .int .i64 s, .slice A7 n1 c7] 30) = w5 at *
  have z3 : ((nl : Int) == 0) = false := by simp; omega
  have z4 : (nl == 0) = false := by simp; omega
  have z5 : decide (nl = 0) = false := by simp; omega
  go_upto_region 10 with (first
    | (refine wpList_load_rowG rfl 30 (.tmp 5) rfl g5 rfl _ #[.int .i64 f, .int .i64 d, .bool k1, .int .i64 e, .int .i64 s, .slice A9 n1 c9] _ _ HX.out pk_under rfl pk_size ?_)
    | (refine wpList_load_rowG rfl 30 (.tmp 8) rfl g8 rfl _ #[.int .i64 f, .int .i64 d, .bool k1, .int .i64 e, .int .i64 s, .slice A7 n1 c7] _ _ HQ.out pk_under rfl pk_size ?_)
    | (go_at_call 14; refine (same_any f d k1 e s A9 n1 c9 l1 f d k1 e s A7 n1 c7 l1 w5 HL1.out HL1.out T9.out T7.out HY1.out HY1.out).mono ?_; rintro e' w6 ⟨rfl, b8⟩; rw [pkEq_self]; have HOW := Lib.hid (HOW.out.below b8 (Nat.le_refl _)); have HO := Lib.hid (HO.out.later b8 (Nat.le_refl _)); have HB := Lib.hid (HB.out.trans (b8.mono HB.out.size)); have HB3 := Lib.hid (Nat.le_trans HB3.out b8.size); clear b8))
  clear z3 z4 z5
  have hx0 : w6.cell? ⟨g2, 0, none⟩ = some (.int .u32 x0) := HO.out.cell 0
  obtain ⟨a, ha, hab⟩ : ∃ a : Nat, (x0 : Int) % (8 * (nl : Int)) = (a : Int) ∧ a < 8 * nl := by
    refine ⟨x0 % (8 * nl), by push_cast; rfl, Nat.mod_lt _ (by omega)⟩
  have m8 : (8 * (nl : Int)) % 4294967296 = 8 * nl := by omega
  have m9 : ¬ (8 * (nl : Int)) = 0 := by omega
  have hT0 : Turned (fun j => x1 / 2 ^ j % 2 == 1) nl a 0 L := by
    refine ⟨HLX.out, fun i => getD_of_all (m := 255) HLB.out i, ?_⟩
    rw [(Crc.fits_iff L (by rw [HLX.out]; omega) (fun i => getD_of_all (m := 255) HLB.out i)).1 HF.out]
    simp only [Crc.E, Crc.sts_zero, BitVec.xor_zero]
  have HT0 := Lib.hid hT0
  clear hT0
  go_wp2_with fail
  clear ha hx0
  go_loopw [11, 12] (fun u i wr => ∃ (kk : Nat) (t : List Nat), kk ≤ 32 ∧ a + kk ≤ 8 * nl ∧ i = .int .i64 kk ∧ u = .bool (anyB (fun j => x1 / 2 ^ j % 2 == 1) kk) ∧ Turned (fun j => x1 / 2 ^ j % 2 == 1) nl a kk t ∧ Still (fun j => x1 / 2 ^ j % 2 == 1) kk L t ∧
      Own wr bs 5 1 (some ⟨g, 0, none⟩) nl c6 (nats .u8 t) ∧ Below bs w6 wr) (fun _ i _ => 32 - (intOf i).toNat)
  case atStart => exact ⟨0, L, by omega, by omega, rfl, rfl, HT0.out, fun _ => rfl, HOW.out, Below.refl _ _⟩
  case round =>
    obtain ⟨kk, t, hk, hak, rfl, rfl, hT, hst, hO, hBr⟩ := hrel
    have hc1 : wr.cell? ⟨g2, 1, none⟩ = some (.int .u32 x1) := (HO.out.below hBr HG2.out.1).cell 1
    have HBL := Lib.hid hBr
    have HOW := Lib.hid hO
    have HT := Lib.hid hT
    have HST := Lib.hid hst
    clear hBr hO hT hst
    by_cases hlt : kk < 32
    · by_cases hin : a + kk < 8 * nl
      · have i1 : (0 : Int) ≤ ((a : Int) + (kk : Int)) / 8 := by omega
        have i2 : ((a : Int) + (kk : Int)) / 8 < (nl : Int) := by omega
        have i3 : ((a : Int) + (kk : Int)).tdiv 8 = ((a : Int) + (kk : Int)) / 8 := Int.tdiv_eq_ediv_of_nonneg (by omega)
        have hcl : wr.cell? ⟨g, (a + kk) / 8, none⟩ = some (.int .u8 ((t.getD ((a + kk) / 8) 0 : Nat) : Int)) := by
          have := (HOW.out.at_).nat ((a + kk) / 8) (by rw [HT.out.1]; omega)
          obtain ⟨b', o', e, hc⟩ := this
          injection e with e; injection e with e1 e2; subst e1; subst e2
          simpa using hc
        have hfz : wr.frozen? ⟨g, (a + kk) / 8, none⟩ = false := World.ownsRow.frozenAt HOW.out _
        go_wp2
        · have hbit : (x1 / 2 ^ kk % 2 == 1) = true := bit_of x1 kk true (by assumption)
          go_roundw
          case rel => exact ⟨kk + 1, _, by omega, by omega, by go_num, by rw [anyB_succ, hbit, Bool.or_true], turned_step_t _ _ _ _ _ HT.out hin hbit, still_t (t := t) hbit, own_turn HOW.out HT.out.2.1 _ _, HBL.out.setCell (p := ⟨g, (a + kk) / 8, none⟩) HGB.out _⟩
          case measure => simp [intOf]; omega
        · have hbit : (x1 / 2 ^ kk % 2 == 1) = false := bit_of x1 kk false (by assumption)
          go_roundw
          case rel => exact ⟨kk + 1, t, by omega, by omega, by go_num, by rw [anyB_succ, hbit, Bool.or_false], turned_step_f _ _ _ _ _ HT.out hin hbit, still_f HST.out, HOW.out, HBL.out⟩
          case measure => simp [intOf]; omega
      · go_wp2_with fail
        have hcp := HOW.out.cap
        unfold maxLen at hcp
        have hat := HOW.out.at_
        have hby := all_of_getD HT.out.2.1
        have hBf := HB.out.trans (HBL.out.mono HBS.out)
        refine (dec_any (some ⟨g, 0, none⟩) nl c6 t wr HT.out.1 hcp.1 (by omega) hat hby).mono ?_
        rintro e w8 ⟨fr, dt, k, ep, sq, bd, y, A8, c8, rfl, t8, b8, hd⟩
        have HB8 := Lib.hid (hBf.trans (b8.mono hBf.size))
        have hy : (anyB (fun j => x1 / 2 ^ j % 2 == 1) kk = false → y = 0) ∧ (anyB (fun j => x1 / 2 ^ j % 2 == 1) kk = true → y ≠ 0) := by
          have hend := turned_end _ _ _ _ _ HT.out hk (by omega)
          constructor
          · intro hz
            have ht := HST.out hz
            rw [ht] at hd
            exact (Dres.uniq (.inl ⟨rfl, HGD.out⟩) hd).2.2.2.2.2.2.symm
          · intro hz he
            rw [hz] at hend
            rcases hd with ⟨_, hgood⟩ | ⟨hx, _⟩
            · rw [hgood.form.2.2.2.2] at hend; simp at hend
            · rw [he] at hx; exact errN_ne _ hx.symm
        have HYY := Lib.hid hy
        clear hd hy hcp hat hby t8 b8 hBf
        generalize anyB (fun j => x1 / 2 ^ j % 2 == 1) kk = z at HYY ⊢
        unfold pkF
        cases z with
        | false =>
          obtain rfl : y = 0 := HYY.out.1 rfl
          rw [erV_zero]
          go_wp2_with fail
          have NP := (Below.refl w8.heap.size w8).alloc (Nat.le_refl _) (.cells #[.int .i64 (fr : Nat), .int .i64 (dt : Nat), .bool k, .int .i64 (ep : Nat), .int .i64 (sq : Nat), .slice A8 bd.length c8] 30)
          refine (HS.out _ (HB8.out.trans (NP.mono HB8.out.size))).mono ?_
          rintro e w9 ⟨rfl, b9⟩
          have B9 := Lib.hid ((HB8.out.trans (NP.mono HB8.out.size)).trans (b9.mono (HB8.out.trans (NP.mono HB8.out.size)).size))
          clear b9 NP
          go_wp2_with fail
          go_ret
          exact ⟨rfl, B9.out⟩
        | true =>
          rw [erV_ne (HYY.out.2 rfl)]
          go_wp2_with fail
          have NP := (Below.refl w8.heap.size w8).alloc (Nat.le_refl _) (.cells #[.int .i64 (fr : Nat), .int .i64 (dt : Nat), .bool k, .int .i64 (ep : Nat), .int .i64 (sq : Nat), .slice A8 bd.length c8] 30)
          refine (HS.out _ (HB8.out.trans (NP.mono HB8.out.size))).mono ?_
          rintro e w9 ⟨rfl, b9⟩
          have B9 := Lib.hid ((HB8.out.trans (NP.mono HB8.out.size)).trans (b9.mono (HB8.out.trans (NP.mono HB8.out.size)).size))
          clear b9 NP
          go_wp2_with fail
          go_ret
          exact ⟨rfl, B9.out⟩
    · go_wp2_with fail
      have hcp := HOW.out.cap
      unfold maxLen at hcp
      have hat := HOW.out.at_
      have hby := all_of_getD HT.out.2.1
      have hBf := HB.out.trans (HBL.out.mono HBS.out)
      refine (dec_any (some ⟨g, 0, none⟩) nl c6 t wr HT.out.1 hcp.1 (by omega) hat hby).mono ?_
      rintro e w8 ⟨fr, dt, k, ep, sq, bd, y, A8, c8, rfl, t8, b8, hd⟩
      have HB8 := Lib.hid (hBf.trans (b8.mono hBf.size))
      have hy : (anyB (fun j => x1 / 2 ^ j % 2 == 1) kk = false → y = 0) ∧ (anyB (fun j => x1 / 2 ^ j % 2 == 1) kk = true → y ≠ 0) := by
        have hend := turned_end _ _ _ _ _ HT.out hk (by omega)
        constructor
        · intro hz
          have ht := HST.out hz
          rw [ht] at hd
          exact (Dres.uniq (.inl ⟨rfl, HGD.out⟩) hd).2.2.2.2.2.2.symm
        · intro hz he
          rw [hz] at hend
          rcases hd with ⟨_, hgood⟩ | ⟨hx, _⟩
          · rw [hgood.form.2.2.2.2] at hend; simp at hend
          · rw [he] at hx; exact errN_ne _ hx.symm
      have HYY := Lib.hid hy
      clear hd hy hcp hat hby t8 b8 hBf
      generalize anyB (fun j => x1 / 2 ^ j % 2 == 1) kk = z at HYY ⊢
      unfold pkF
      cases z with
      | false =>
        obtain rfl : y = 0 := HYY.out.1 rfl
        rw [erV_zero]
        go_wp2_with fail
        have NP := (Below.refl w8.heap.size w8).alloc (Nat.le_refl _) (.cells #[.int .i64 (fr : Nat), .int .i64 (dt : Nat), .bool k, .int .i64 (ep : Nat), .int .i64 (sq : Nat), .slice A8 bd.length c8] 30)
        refine (HS.out _ (HB8.out.trans (NP.mono HB8.out.size))).mono ?_
        rintro e w9 ⟨rfl, b9⟩
        have B9 := Lib.hid ((HB8.out.trans (NP.mono HB8.out.size)).trans (b9.mono (HB8.out.trans (NP.mono HB8.out.size)).size))
        clear b9 NP
        go_wp2_with fail
        go_ret
        exact ⟨rfl, B9.out⟩
      | true =>
        rw [erV_ne (HYY.out.2 rfl)]
        go_wp2_with fail
        have NP := (Below.refl w8.heap.size w8).alloc (Nat.le_refl _) (.cells #[.int .i64 (fr : Nat), .int .i64 (dt : Nat), .bool k, .int .i64 (ep : Nat), .int .i64 (sq : Nat), .slice A8 bd.length c8] 30)
        refine (HS.out _ (HB8.out.trans (NP.mono HB8.out.size))).mono ?_
        rintro e w9 ⟨rfl, b9⟩
        have B9 := Lib.hid ((HB8.out.trans (NP.mono HB8.out.size)).trans (b9.mono (HB8.out.trans (NP.mono HB8.out.size)).size))
        clear b9 NP
        go_wp2_with fail
        go_ret
        exact ⟨rfl, B9.out⟩
end
end Go.Proofs.YtlimabhojocimaaDoor
