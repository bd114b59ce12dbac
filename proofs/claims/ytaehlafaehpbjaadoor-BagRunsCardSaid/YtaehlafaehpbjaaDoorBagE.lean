/- Layer 20: what must come whatever the input is. -/
import Derived.Test.YtaehlafaehpbjaaDoorBagD
import Derived.Test.YtaehlafaehpbjaaDoorNum20
import Derived.Lib.SlBytesConst
namespace Go.Proofs.YtaehlafaehpbjaaDoor
open Go.RowKit
theorem Bag.c63 {w : World} {g base : Nat} {M : Int} {A : Option Addr} {n c : Nat} {vs : List (Int × Value)} {l : List (Int × List Nat)} (h : Bag w g base M A n c vs l) : c ≤ 9223372036854775807 := by
  have := h.own.cap.2; unfold maxLen at this; omega
theorem run_conv_const {P : Program} (w : World) (t e : TypeId) (C : Array Value) (n c b : Nat) (hb : w.heap.size = b) (ht : P.underlying t = some (.slice e)) (he : P.underlying e = some (.int .u8)) :
    (convert t t (.slice (some ⟨b, 0, none⟩) n c)).run P (w.alloc (.cells C e)) = .ok (.slice (some ⟨b, 0, none⟩) n c) (w.alloc (.cells C e (C.size, C.size + 1))) := by
  subst hb; exact Lib.run_convert_bytes_const w t e C n c ht he
set_option maxRecDepth 100000 in
set_option maxHeartbeats 2000000 in
theorem sure20 (w : World) (hg : Glob w) : Calls Tryd.prog 12 #[] w fun e w' => e = .returned (.bool true) ∧ Below w.heap.size w w' := by
  have kc := fun (w : World) (C : Array Value) (n c b : Nat) (hb : w.heap.size = b) => run_conv_const (P := Tryd.prog) w 24 5 C n c b hb elt_u8.ht (by kernel_rfl)
  have HGW := Lib.hid hg
  have b0 := new_bag 2 w w.heap.size
  have bel0 := (Below.refl w.heap.size w).alloc (Nat.le_refl _) (.cells #[.int .i64 2, .slice none 0 0] 49)
  obtain ⟨g, hgg⟩ : ∃ g, w.heap.size = g := ⟨_, rfl⟩
  have HGS := Lib.hid hgg
  have K := Lib.hid (show IsBag _ w.heap.size w.heap.size 2 [] from ⟨_, _, _, _, b0⟩)
  have HB := Lib.hid bel0
  clear hg b0 bel0 hgg
  go_enter Tryd.func12, Tryd.ntmps12
  go_wp2_with fail
  refine (bnew_ok 2 w (by decide)).mono ?_
  rintro e w1 ⟨rfl, rfl⟩
  generalize (w.alloc (.cells #[.int .i64 2, .slice none 0 0] 49)) = w1 at K HB ⊢
  rw [HGS.out] at K HB ⊢
  go_wp2_with fail
  refine (bnew_no 0 w1 (.inl (by decide))).mono ?_
  rintro e w' ⟨rfl, rfl⟩
  go_wp2_with fail
  obtain ⟨A1, n1, c1, v1, b1⟩ := K.out
  obtain rfl : n1 = 0 := by have := b1.len; simpa using this.symm
  clear K
  have bl := (Below.refl w1.heap.size w1).alloc (Nat.le_refl _) (.cells #[.int .u8 120] 5 (1, 2))
  refine (bput_any (w1.alloc (.cells #[.int .u8 120] 5 (1, 2))) 5 (b1.below bl (Nat.le_refl _)) (by decide) (by decide) (Nat.le_trans (HGS.out ▸ HB.out.size) bl.size) (some ⟨w1.heap.size, 0, none⟩) 1 [120] (by decide) (At.lit _ _ _ _ _ rfl) (by simp)).mono ?_
  rintro e w2 ⟨rfl, hk, kel⟩
  have bel := kel.below (Nat.le_refl _) (Nat.le_refl _)
  have K := Lib.hid hk
  replace HB := Lib.hid ((HB.out.trans (bl.mono (HGS.out ▸ HB.out.size))).trans bel)
  clear hk bl b1
  go_wp2_with fail
  obtain ⟨A2, n2, c2, v2, b2⟩ := K.out
  obtain rfl : n2 = 1 := by have := b2.len; simpa using this.symm
  clear K
  refine (bdouble_any w2 0 b2 (by decide) (by decide) (by decide) (HGS.out ▸ HB.out.size)).mono ?_
  rintro e w3 ⟨rfl, hk, kel3⟩
  have bel3 := kel3.below (Nat.le_refl _) (Nat.le_refl _)
  have K := Lib.hid hk
  have HB3 := Lib.hid (HB.out.trans bel3)
  clear hk bel3 b2
  go_wp2_with fail
  obtain ⟨A3, n3, c3, v3, b3⟩ := K.out
  obtain rfl : n3 = 2 := by have := b3.len; simpa using this.symm
  clear K
  refine (bput_full w3 6 (.slice none 0 0) b3 (by decide)).mono ?_
  rintro e w4 ⟨rfl, k, rfl⟩
  have K := Lib.hid (show IsBag (w3.drewN k) g g 2 _ from ⟨_, _, _, _, b3.of_drewN⟩)
  have HB4 := Lib.hid (HB3.out.trans ((below_drewN w3 k).mono (HGS.out ▸ HB3.out.size)))
  generalize w3.drewN k = w4 at K HB4 ⊢
  clear b3
  go_wp2_with fail
  obtain ⟨A4, n4, c4, v4, b4⟩ := K.out
  obtain rfl : n4 = 2 := by have := b4.len; simpa using this.symm
  clear K
  refine (blose_any w4 1 b4 (by decide) (HGS.out ▸ HB4.out.size) b4.c63).mono ?_
  rintro e w5 ⟨rfl, hk, kel5⟩
  have bel5 := kel5.below (Nat.le_refl _) (Nat.le_refl _)
  have K := Lib.hid hk
  have HB5 := Lib.hid (HB4.out.trans bel5)
  clear hk bel5 b4
  go_wp2_with fail
  obtain ⟨A5, n5, c5, v5, b5⟩ := K.out
  obtain rfl : n5 = 1 := by have := b5.len; simpa using this.symm
  clear K
  refine (btake_any w5 0 b5 (by decide) (HGS.out ▸ HB5.out.size) b5.c63).mono ?_
  rintro e w6 ⟨A_x, c_x, rfl, hat, hk, kel6⟩
  have bel6 := kel6.below (Nat.le_refl _) (Nat.le_refl _)
  have K := Lib.hid hk
  have HAT := Lib.hid (show At w6 A_x (nats .u8 [120]) from hat)
  have HB6 := Lib.hid (HB5.out.trans bel6)
  clear hk bel6 b5 hat
  have HG6 := Lib.hid (HGW.out.later HB6.out (Nat.le_of_eq HGS.out))
  go_wp2_with fail
  refine (num20_err 1 _ HG6.out).mono ?_
  rintro e w7 ⟨rfl, bel7⟩
  replace K := Lib.hid (K.out.below bel7 (Nat.le_refl _))
  replace HAT := Lib.hid (HAT.out.later bel7 (Nat.le_refl _))
  have HB7 := Lib.hid (HB6.out.trans (bel7.mono (HGS.out ▸ HB6.out.size)))
  clear bel7
  obtain ⟨A6, n6, c6, v6, b6⟩ := K.out
  obtain rfl : n6 = 0 := by have := b6.len; simpa using this.symm
  clear K
  have kb : (convert 24 9 (.slice A_x 1 c_x)).run Tryd.prog w7 = .ok (.string (strN [120])) w7 := run_str (e := 5) w7 (by kernel_rfl) (by kernel_rfl) (by kernel_rfl) rfl HAT.out
  rw [show strN [120] = (⟨#[120]⟩ : ByteArray) from by decide] at kb
  have CL := Lib.hid (blen_any w7 b6)
  clear b6
  go_wp2_with (go_at_call 6; refine CL.out.mono ?_; rintro e w' ⟨rfl, rfl⟩)
  go_ret
  exact ⟨rfl, by rw [HGS.out]; exact HB7.out⟩
end Go.Proofs.YtaehlafaehpbjaaDoor
