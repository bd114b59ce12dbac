/- Layer 23: sure. -/
import Derived.Test.YtkpangeeldhjfaaDoorQuD
import Derived.Test.YtkpangeeldhjfaaDoorNum23
namespace Go.Proofs.YtkpangeeldhjfaaDoor
open Go.RowKit
theorem At.litI (w : World) (l : List Int) (e : TypeId) (b : Nat) (hb : w.heap.size = b) : At (w.alloc (.cells (ints .i64 l).toArray e)) (some ⟨b, 0, none⟩) (ints .i64 l) := by
  have := At.lit w (ints .i64 l).toArray e (0, 0) b hb
  simpa using this
theorem below_grown {w w1 w2 : World} {g : Nat} (h : Below w.heap.size w w1) (hg : w1.grownBy w2 (some g)) (hgs : w.heap.size ≤ g) : Below w.heap.size w w2 := h.grown hg h.size (fun k hk => by injection hk with hk; omega)
theorem ints_is (A : Option Addr) (n c : Nat) (l : List Int) (A2 : Option Addr) (n2 c2 : Nat) (l2 : List Int) (w : World) (b : Bool) (hb : decide (l = l2) = b) (hl : l.length = n) (hm : n ≤ 100) (ha : At w A (ints .i64 l)) (hl2 : l2.length = n2) (hm2 : n2 ≤ 100) (ha2 : At w A2 (ints .i64 l2)) :
    Calls Tryd.prog 18 #[.slice A n c, .slice A2 n2 c2] w fun e w' => e = .returned (.bool b) ∧ ∃ m, w' = w.drewN m := by
  subst hb
  exact ints23_any A n c l A2 n2 c2 l2 w hl (by omega) ha hl2 (by omega) ha2
set_option maxRecDepth 100000 in
set_option maxHeartbeats 2000000 in
theorem sure23 (w : World) (hg : Glob w) : Calls Tryd.prog 12 #[] w fun e w' => e = .returned (.bool true) ∧ Below w.heap.size w w' := by
  have HG := Lib.hid hg
  clear hg
  go_enter Tryd.func12, Tryd.ntmps12
  go_wp2_with fail
  have LT0 := Lib.hid (At.litI w [1, 4, 7] 3 w.heap.size rfl)
  have B0 := Lib.hid ((Below.refl w.heap.size w).alloc (Nat.le_refl _) (.cells #[.int .i64 1, .int .i64 4, .int .i64 7] 3))
  refine (qnew_ok (some ⟨w.heap.size, 0, none⟩) 3 3 [1, 4, 7] 2 2 _ rfl (by decide) LT0.out (by simp) (by decide) (by decide) (by decide) (by decide) (by decide)).mono ?_
  rintro e w1 ⟨q, Aw, cw, rfl, gd, b1, hgs⟩
  have GS := Lib.hid (show w.heap.size ≤ q from Nat.le_trans B0.out.size hgs)
  have B1 := Lib.hid (B0.out.trans (b1.mono B0.out.size))
  have D1 := Lib.hid gd
  clear gd b1 hgs LT0 B0
  go_wp2_with fail
  refine (qcame_0 4 D1.out (by decide)).mono ?_
  rintro e w2 ⟨rfl, gr, A2, c2, gd⟩
  rw [show qput [] 4 = [4] by decide] at gd
  have D2 := Lib.hid gd
  have B2 := Lib.hid (below_grown B1.out gr GS.out)
  clear gd gr D1 B1
  go_wp2_with fail
  refine (qcame_k 4 D2.out 8 (by decide) (by decide)).mono ?_
  rintro e w3 ⟨rfl, m3, rfl⟩
  have D3 := Lib.hid (D2.out.drewN m3)
  have B3 := Lib.hid (B2.out.trans (below_drewN w2 m3 _))
  clear D2 B2
  generalize w2.drewN m3 = w3 at *
  go_wp2_with fail
  refine (qcame_k 5 D3.out 6 (by decide) (by decide)).mono ?_
  rintro e w4 ⟨rfl, m4, rfl⟩
  have D4 := Lib.hid (D3.out.drewN m4)
  have B4 := Lib.hid (B3.out.trans (below_drewN w3 m4 _))
  clear D3 B3
  generalize w3.drewN m4 = w4 at *
  go_wp2_with fail
  refine (qstate_any D4.out 0 (by decide)).mono ?_
  rintro e w5 ⟨rfl, m5, rfl⟩
  have D5 := Lib.hid (D4.out.drewN m5)
  have B5 := Lib.hid (B4.out.trans (below_drewN w4 m5 _))
  clear D4 B4
  generalize w4.drewN m5 = w5 at *
  go_wp2_with fail
  refine (qcame_0 1 D5.out (by decide)).mono ?_
  rintro e w6 ⟨rfl, gr, A6, c6, gd⟩
  rw [show qput [4] 1 = [1, 4] by decide] at gd
  have D6 := Lib.hid gd
  have B6 := Lib.hid (below_grown B5.out gr GS.out)
  clear gd gr D5 B5
  go_wp2_with fail
  refine (qstate_any D6.out 0 (by decide)).mono ?_
  rintro e w7 ⟨rfl, m7, rfl⟩
  have D7 := Lib.hid (D6.out.drewN m7)
  have B7 := Lib.hid (B6.out.trans (below_drewN w6 m7 _))
  clear D6 B6
  generalize w6.drewN m7 = w7 at *
  go_wp2_with fail
  refine (qtick_any D7.out 0 (by decide) (by decide)).mono ?_
  rintro e w8 ⟨rfl, gd, gr⟩
  rw [if_pos rfl] at gd
  have D8 := Lib.hid gd
  have B8 := Lib.hid (below_grown B7.out gr GS.out)
  clear gd gr D7 B7
  go_wp2_with fail
  refine (qtick_any D8.out 0 (by decide) (by decide)).mono ?_
  rintro e w9 ⟨rfl, gd, gr⟩
  rw [if_pos rfl] at gd
  have D9 := Lib.hid gd
  have B9 := Lib.hid (below_grown B8.out gr GS.out)
  clear gd gr D8 B8
  go_wp2_with fail
  refine (qcame_k 7 D9.out 9 (by decide) (by decide)).mono ?_
  rintro e w10 ⟨rfl, m10, rfl⟩
  have D10 := Lib.hid (D9.out.drewN m10)
  have B10 := Lib.hid (B9.out.trans (below_drewN w9 m10 _))
  clear D9 B9
  generalize w9.drewN m10 = w10 at *
  go_wp2_with fail
  refine (num23_err 8 _ (HG.out.later B10.out (Nat.le_refl _))).mono ?_
  rintro e w11 ⟨rfl, bb⟩
  have D11 := Lib.hid (D10.out.later bb)
  have B11 := Lib.hid (B10.out.trans (bb.mono B10.out.size))
  clear bb B10 D10
  go_wp2_with fail
  refine (num23_err 6 _ (HG.out.later B11.out (Nat.le_refl _))).mono ?_
  rintro e w12 ⟨rfl, bb⟩
  have D12 := Lib.hid (D11.out.later bb)
  have B12 := Lib.hid (B11.out.trans (bb.mono B11.out.size))
  clear bb B11 D11
  go_wp2_with fail
  refine (qstate_any D12.out 1 (by decide)).mono ?_
  rintro e w13 ⟨rfl, m13, rfl⟩
  have D13 := Lib.hid (D12.out.drewN m13)
  have B13 := Lib.hid (B12.out.trans (below_drewN w12 m13 _))
  clear D12 B12
  generalize w12.drewN m13 = w13 at *
  go_wp2_with fail
  refine (num23_err 9 _ (HG.out.later B13.out (Nat.le_refl _))).mono ?_
  rintro e w14 ⟨rfl, bb⟩
  have D14 := Lib.hid (D13.out.later bb)
  have B14 := Lib.hid (B13.out.trans (bb.mono B13.out.size))
  clear bb B13 D13
  go_wp2_with fail
  refine (qin_any D14.out).mono ?_
  rintro e w15 ⟨M15, k15, rfl, hat, bb⟩
  have T15 := Lib.hid hat
  have D15 := Lib.hid (D14.out.later bb)
  have B15 := Lib.hid (B14.out.trans (bb.mono B14.out.size))
  clear hat bb B14 D14
  go_wp2_with fail
  have LT := Lib.hid (At.litI w15 [1, 4] 3 w15.heap.size rfl)
  have BL := Lib.hid ((Below.refl w15.heap.size w15).alloc (Nat.le_refl _) (.cells #[.int .i64 1, .int .i64 4] 3))
  refine (ints_is M15 2 k15 [1, 4] (some ⟨w15.heap.size, 0, none⟩) 2 2 [1, 4] _ true (decide_eq_true rfl) rfl (by decide) (T15.out.later BL.out (Nat.le_refl _)) rfl (by decide) LT.out).mono ?_
  rintro e w16 ⟨rfl, m16, rfl⟩
  have bq := BL.out.trans (below_drewN (w15.alloc (.cells #[.int .i64 1, .int .i64 4] 3)) m16 _)
  have D16 := Lib.hid (D15.out.later bq)
  have B16 := Lib.hid (B15.out.trans (bq.mono B15.out.size))
  clear bq BL LT T15 D15 B15
  generalize (w15.alloc (.cells #[.int .i64 1, .int .i64 4] 3)).drewN m16 = w16 at *
  go_wp2_with fail
  refine (qlacks_any D16.out [7] (by decide)).mono ?_
  rintro e w17 ⟨M17, k17, rfl, hat, bb⟩
  have T17 := Lib.hid hat
  have D17 := Lib.hid (D16.out.later bb)
  have B17 := Lib.hid (B16.out.trans (bb.mono B16.out.size))
  clear hat bb B16 D16
  go_wp2_with fail
  have LT := Lib.hid (At.litI w17 [7] 3 w17.heap.size rfl)
  have BL := Lib.hid ((Below.refl w17.heap.size w17).alloc (Nat.le_refl _) (.cells #[.int .i64 7] 3))
  refine (ints_is M17 1 k17 [7] (some ⟨w17.heap.size, 0, none⟩) 1 1 [7] _ true (decide_eq_true rfl) rfl (by decide) (T17.out.later BL.out (Nat.le_refl _)) rfl (by decide) LT.out).mono ?_
  rintro e w18 ⟨rfl, m18, rfl⟩
  have bq := BL.out.trans (below_drewN (w17.alloc (.cells #[.int .i64 7] 3)) m18 _)
  have D18 := Lib.hid (D17.out.later bq)
  have B18 := Lib.hid (B17.out.trans (bq.mono B17.out.size))
  clear bq BL LT T17 D17 B17
  generalize (w17.alloc (.cells #[.int .i64 7] 3)).drewN m18 = w18 at *
  go_wp2_with fail
  go_ret
  exact ⟨rfl, B18.out⟩
end Go.Proofs.YtkpangeeldhjfaaDoor
