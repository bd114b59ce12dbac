/- The statements of layer 12: the walks of the laws. -/
import Derived.Test.YtmkehjgcilaicaaCrcB
import Derived.Lib.SlBytesConst
namespace Go.Proofs.Ytmkehjgcilaicaa
open Go.RowKit

theorem At.lit (w : World) (cs : Array Value) (e : TypeId) (m : Nat × Nat) (b : Nat) (hb : w.heap.size = b) : At (w.alloc (.cells cs e m)) (some ⟨b, 0, none⟩) cs.toList := by
  subst hb
  intro i x hx
  refine ⟨_, _, rfl, ?_⟩
  rw [Nat.zero_add, World.cell?_alloc_mark]
  simpa using hx
theorem run_conv_const {P : Program} (w : World) (t e : TypeId) (C : Array Value) (n c b : Nat) (hb : w.heap.size = b) (ht : P.underlying t = some (.slice e)) (he : P.underlying e = some (.int .u8)) :
    (convert t t (.slice (some ⟨b, 0, none⟩) n c)).run P (w.alloc (.cells C e)) = .ok (.slice (some ⟨b, 0, none⟩) n c) (w.alloc (.cells C e (C.size, C.size + 1))) := by
  subst hb; exact Lib.run_convert_bytes_const w t e C n c ht he
theorem sum_lit : (Crc.sum [49, 50, 51, 52, 53, 54, 55, 56, 57]).toNat = 4236843288 := by decide +kernel
theorem more_lit : (Crc.More (Crc.sum [49, 50, 51, 52]) [53, 54, 55, 56, 57]).toNat = 4236843288 := by
  rw [show Crc.sum [49, 50, 51, 52] = Crc.More 0#32 [49, 50, 51, 52] from rfl, Crc.More_append]
  exact sum_lit
theorem fits_lit0 : Crc.Fits [0, 0, 0, 0] = true := by decide +kernel
theorem fits_lit1 : Crc.Fits [1, 0, 0, 0, 0] = false := by decide +kernel
set_option maxHeartbeats 1000000 in
theorem sure12 (w : World) : Calls Try.prog 7 #[] w fun e w' => e = .returned (.bool true) ∧ Below w.heap.size w w' := by
  have kc := fun (w : World) (C : Array Value) (n c b : Nat) (hb : w.heap.size = b) => run_conv_const (P := Try.prog) w 22 5 C n c b hb elt_u8.ht (by kernel_rfl)
  go_enter Try.func7, Try.ntmps7
  go_wp2_with fail
  refine (sum_any _ _ _ [49, 50, 51, 52, 53, 54, 55, 56, 57] _ rfl (by decide) (At.lit _ _ _ _ _ (by simp))).mono ?_
  rintro e w1 ⟨rfl, rfl⟩
  rw [sum_lit]
  go_wp2_with fail
  refine (sum_any _ _ _ [49, 50, 51, 52] _ rfl (by decide) (At.lit _ _ _ _ _ (by simp))).mono ?_
  rintro e w1 ⟨rfl, rfl⟩
  generalize hs : Crc.sum [49, 50, 51, 52] = s
  have HS := Lib.hid hs; clear hs
  go_wp2_with fail
  refine (more_any _ _ _ _ [53, 54, 55, 56, 57] _ rfl (by decide) (At.lit _ _ _ _ _ (by simp))).mono ?_
  rintro e w1 ⟨rfl, rfl⟩
  rw [← HS.out, more_lit]
  go_wp2_with fail
  refine (fits_any _ _ _ [0, 0, 0, 0] _ rfl (Nat.le_refl _) (by decide) (At.lit _ _ _ _ _ (by simp))).mono ?_
  rintro e w1 ⟨rfl, rfl⟩
  rw [fits_lit0]
  go_wp2_with fail
  refine (fits_any _ _ _ [1, 0, 0, 0, 0] _ rfl (Nat.le_refl _) (by decide) (At.lit _ _ _ _ _ (by simp))).mono ?_
  rintro e w1 ⟨rfl, rfl⟩
  rw [fits_lit1]
  go_wp2
  go_ret
  exact ⟨rfl, (((((Below.refl _ _).alloc (Nat.le_refl _) _).alloc (by simp) _).alloc (by simp; omega) _).alloc (by simp; omega) _).alloc (by simp; omega) _⟩

theorem bytes_append {a b : List Nat} (ha : Crc.Bytes a) (hb : Crc.Bytes b) : Crc.Bytes (a ++ b) := by
  intro i
  rw [List.getD_eq_getElem?_getD]
  by_cases h : i < a.length
  · rw [List.getElem?_append_left h, ← List.getD_eq_getElem?_getD]; exact ha i
  · rw [List.getElem?_append_right (by omega), ← List.getD_eq_getElem?_getD]; exact hb _
theorem u32_self (v : BitVec 32) : ((v.toNat : Int) == (v.toNat : Int)) = true := beq_self_eq_true _
theorem fits_app (l : List Nat) : Crc.Fits (l ++ tl (Crc.sum l)) = true := by
  have h : Crc.pre (tl (Crc.sum l)) = Crc.sum l := tl_pre _
  unfold tl at h ⊢
  rw [Crc.pre4] at h
  exact Crc.fits_sum l _ _ _ _ h
set_option maxRecDepth 100000 in
set_option maxHeartbeats 2000000 in
theorem crcSums_any (A1 : Option Addr) (n1 c1 : Nat) (l1 : List Nat) (A2 : Option Addr) (n2 c2 : Nat) (l2 : List Nat) (w : World) (e1 : l1.length = n1) (e2 : l2.length = n2) (k1 : n1 ≤ c1) (k2 : n2 ≤ c2)
    (m1 : c1 ≤ 9223372036854775807) (m2 : c2 ≤ 9223372036854775807) (hsm : n1 + n2 ≤ 9223372036854775807) (r1 : At w A1 (nats .u8 l1)) (r2 : At w A2 (nats .u8 l2)) (b1 : Crc.Bytes l1) (b2 : Crc.Bytes l2) :
    Calls Try.prog 3 #[.slice A1 n1 c1, .slice A2 n2 c2] w fun e w' => e = .returned (.bool true) ∧ Below w.heap.size w w' := by
  by_cases hbig : n1 + n2 > 600
  · go_enter Try.func3, Try.ntmps3
    go_wp2_with (go_at_call 7; refine (sure12 _).mono ?_; rintro e w' ⟨rfl, hb⟩)
    go_ret
    exact ⟨rfl, hb⟩
  · have H1 := Lib.hid e1; have H2 := Lib.hid e2; clear e1 e2
    go_enter Try.func3, Try.ntmps3
    have S1 := Lib.hid (fun (W : World) (hW : Below w.heap.size w W) => refMore0 A1 n1 c1 l1 W H1.out (by omega) (r1.later hW (Nat.le_refl _)) b1)
    have S2 := Lib.hid (fun (W : World) (hW : Below w.heap.size w W) => sum_any A1 n1 c1 l1 W H1.out (by omega) (r1.later hW (Nat.le_refl _)))
    have S3 := Lib.hid (fun (v : BitVec 32) (W : World) (hW : Below w.heap.size w W) => more_any v A2 n2 c2 l2 W H2.out (by omega) (r2.later hW (Nat.le_refl _)))
    have S4 := Lib.hid (fun (W : World) (hW : Below w.heap.size w W) => fits_any A2 n2 c2 l2 W H2.out k2 m2 (r2.later hW (Nat.le_refl _)))
    have S5 := Lib.hid (fun (W : World) (hW : Below w.heap.size w W) => refFits_any A2 n2 c2 l2 W H2.out k2 m2 (r2.later hW (Nat.le_refl _)) b2)
    have r1' := Lib.hid (fun (W : World) (hW : Below w.heap.size w W) => r1.later hW (Nat.le_refl _))
    have r2' := Lib.hid (fun (W : World) (hW : Below w.heap.size w W) => r2.later hW (Nat.le_refl _))
    clear r1 r2
    go_wp2_with (first
      | (at_builtin; refine wpList_app rfl elt_u8 w.heap.size (.tmp 14) (.tmp 15) rfl [] rfl (Own.lit #[] 0 (Nat.le_refl _) (by unfold maxLen; omega) rfl) (nats .u8 l1) rfl (r1'.out _ below_tail) (by rw [nats_length, Nat.mul_one]; exact H1.out) (nats_one _ _) (by unfold maxLen; omega) (by omega) (by simp) ?_; intro A' c' w1 own1 g1 _; have B1 := below_tail.grown g1 (by simp) (by simp [blk]); simp only [Nat.zero_add, List.nil_append] at own1)
      | (at_builtin; refine wpList_app rfl elt_u8 w.heap.size (.tmp 16) (.tmp 17) rfl (nats .u8 l1) rfl own1 (nats .u8 l2) rfl (r2'.out _ B1) (by rw [nats_length, Nat.mul_one]; exact H2.out) (nats_one _ _) (by unfold maxLen; omega) (by omega) B1.size ?_; intro A'' c'' w2 own2 g2 _; have B2 := B1.grown g2 B1.size (fun k hk => (own1.lt k hk).1); rw [← nats_append] at own2))
    refine (S1.out _ B2).mono ?_
    rintro e w' ⟨rfl, rfl⟩
    go_wp2_with fail
    refine (S2.out _ B2).mono ?_
    rintro e w' ⟨rfl, rfl⟩
    go_wp2_with fail
    refine (S3.out _ _ B2).mono ?_
    rintro e w' ⟨rfl, rfl⟩
    rw [show Crc.More (Crc.sum l1) l2 = Crc.sum (l1 ++ l2) from Crc.More_append _ _ _]
    go_wp2_with fail
    refine (refMore0 A'' (n1 + n2) c'' (l1 ++ l2) _ (by rw [List.length_append, H1.out, H2.out]) (by omega) own2.at_ (bytes_append b1 b2)).mono ?_
    rintro e w' ⟨rfl, rfl⟩
    go_wp2_with fail
    refine (S4.out _ B2).mono ?_
    rintro e w' ⟨rfl, rfl⟩
    go_wp2_with fail
    refine (S5.out _ B2).mono ?_
    rintro e w3 ⟨rfl, B3⟩
    have own3 := own2.below B3 (Nat.le_refl _)
    have B3' := B2.trans (B3.mono B2.size)
    go_wp2_with fail
    refine (refMore0 A'' (n1 + n2) c'' (l1 ++ l2) _ (by rw [List.length_append, H1.out, H2.out]) (by omega) own3.at_ (bytes_append b1 b2)).mono ?_
    rintro e w' ⟨rfl, rfl⟩
    go_wp2_with fail
    refine (tail_own _ _).mono ?_
    rintro e w4 ⟨rfl, ownT, B4, hlt⟩
    have own4 := own3.below B4 (Nat.le_refl _)
    have B4' := B3'.trans (B4.mono B3'.size)
    go_wp2_with (at_builtin; go_loud (refine wpList_app rfl elt_u8 w.heap.size (.tmp 41) (.tmp 44) rfl (nats .u8 (l1 ++ l2)) rfl own4 (nats .u8 (tl (Crc.sum (l1 ++ l2)))) rfl ownT.at_ rfl (nats_one _ _) (by unfold maxLen; omega) (by omega) B4'.size ?_); intro A5 c5 w5 own5 g5 _; have B5 := B4'.grown g5 B4'.size (fun k hk => (own4.lt k hk).1); rw [← nats_append] at own5)
    refine (fits_any A5 _ c5 _ _ (by have := own5.len; rw [nats_length] at this; omega) own5.cap.1 (by have := own5.cap.2; unfold maxLen at this; omega) own5.at_).mono ?_
    rintro e w' ⟨rfl, rfl⟩
    rw [fits_app]
    go_wp2_with (go_at_call 7; refine (sure12 _).mono ?_; rintro e w' ⟨rfl, hb⟩)
    go_ret
    exact ⟨rfl, B5.trans (hb.mono B5.size)⟩
end Go.Proofs.Ytmkehjgcilaicaa
