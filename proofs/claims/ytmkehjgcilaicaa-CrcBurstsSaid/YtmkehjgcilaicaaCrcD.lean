/- The statement CrcBursts of layer 12: the walk of the law. -/
import Derived.Test.YtmkehjgcilaicaaCrcC
namespace Go.Proofs.Ytmkehjgcilaicaa
open Go.RowKit

def anyB (b : Nat → Bool) (k : Nat) : Bool := (List.range k).any b
theorem anyB_succ (b : Nat → Bool) (k : Nat) : anyB b (k + 1) = (anyB b k || b k) := by simp [anyB, List.range_succ, List.any_append]
theorem anyB_false (b : Nat → Bool) (k : Nat) : anyB b k = false ↔ ∀ j, j < k → b j = false := by simp [anyB]
/-- what is known of the bytes after k bits -/
def Turned (b : Nat → Bool) (n at_ k : Nat) (t : List Nat) : Prop := t.length = n ∧ Crc.Bytes t ∧ Crc.reg Crc.ones t = Crc.magic ^^^ Crc.sts (8 * n - at_ - k) (Crc.E b k)
theorem turned_step_f (b : Nat → Bool) (n at_ k : Nat) (t : List Nat) (h : Turned b n at_ k t) (hk : at_ + k < 8 * n) (hb : b k = false) : Turned b n at_ (k + 1) t := by
  obtain ⟨h1, h2, h3⟩ := h
  refine ⟨h1, h2, ?_⟩
  have := Crc.E_step b k (8 * n - at_) (by omega)
  rw [hb] at this
  simp only [Bool.false_eq_true, if_false, BitVec.xor_zero] at this
  rw [h3, this]
theorem turned_step_t (b : Nat → Bool) (n at_ k : Nat) (t : List Nat) (h : Turned b n at_ k t) (hk : at_ + k < 8 * n) (hb : b k = true) :
    Turned b n at_ (k + 1) (t.set ((at_ + k) / 8) (t.getD ((at_ + k) / 8) 0 ^^^ 128 / 2 ^ ((at_ + k) % 8))) := by
  obtain ⟨h1, h2, h3⟩ := h
  refine ⟨by simp [h1], fun i => ?_, ?_⟩
  · rw [List.getD_eq_getElem?_getD, List.getElem?_set]
    split
    · split
      · simp only [Option.getD_some]
        have a1 := h2 ((at_ + k) / 8)
        have a2 : 128 / 2 ^ ((at_ + k) % 8) < 2 ^ 8 := Nat.lt_of_le_of_lt (Nat.div_le_self _ _) (by decide)
        exact Nat.xor_lt_two_pow (n := 8) a1 a2
      · simp
    · rw [← List.getD_eq_getElem?_getD]; exact h2 i
  · rw [Crc.reg_turn t Crc.ones _ _ (by omega) (by omega), h1, h3]
    have := Crc.E_step b k (8 * n - at_) (by omega)
    rw [hb] at this
    simp only [if_true] at this
    rw [BitVec.xor_assoc, show 8 * n - (8 * ((at_ + k) / 8) + (at_ + k) % 8) = 8 * n - at_ - k from by omega, this, show 8 * n - at_ - (k + 1) = 8 * n - at_ - (k + 1) from rfl]
theorem turned_end (b : Nat → Bool) (n at_ k : Nat) (t : List Nat) (h : Turned b n at_ k t) (hk : k ≤ 32) (h4 : 4 ≤ n) : (Crc.Fits t != anyB b k) = true := by
  obtain ⟨h1, h2, h3⟩ := h
  have hf := Crc.fits_iff t (by omega) h2
  rw [h3] at hf
  have hx : (Crc.magic ^^^ Crc.sts (8 * n - at_ - k) (Crc.E b k) = Crc.magic) ↔ Crc.E b k = 0#32 := by
    constructor
    · intro h
      have h' : Crc.magic ^^^ (Crc.magic ^^^ Crc.sts (8 * n - at_ - k) (Crc.E b k)) = Crc.magic ^^^ Crc.magic := by rw [h]
      rw [← BitVec.xor_assoc, BitVec.xor_self, BitVec.zero_xor] at h'
      exact Crc.sts_inj0 _ _ h'
    · intro h; rw [h, Crc.sts_zero, BitVec.xor_zero]
  rw [hx, Crc.E_zero_iff b k hk, ← anyB_false] at hf
  cases ha : anyB b k <;> cases hfb : Crc.Fits t <;> simp_all
theorem bit_of (x k : Nat) (b : Bool) (h : (((x : Int) / 2 ^ k).tmod 2 == 1) = b) : (x / 2 ^ k % 2 == 1) = b := by
  have e : (x : Int) / 2 ^ k = ((x / 2 ^ k : Nat) : Int) := by push_cast; rfl
  rw [e] at h
  generalize x / 2 ^ k = y at h ⊢
  rw [Int.tmod_eq_emod_of_nonneg (by omega)] at h
  rw [← h, Bool.eq_iff_iff, beq_iff_eq, beq_iff_eq]; omega
theorem own_turn {wr : World} {base g n c : Nat} {e : TypeId} {t : List Nat} (h : Own wr base e 1 (some ⟨g, 0, none⟩) n c (nats .u8 t)) (hb : Crc.Bytes t) (q r : Nat) :
    Own (wr.setCell ⟨g, q, none⟩ (.int .u8 (Go.bits .xor .u8 ((t[q]?.getD 0 : Nat) : Int) ((128 : Int) / 2 ^ r)))) base e 1 (some ⟨g, 0, none⟩) n c (nats .u8 (t.set q (t.getD q 0 ^^^ 128 / 2 ^ r))) := by
  have h1 := (World.ownsRow.stored h q (.int .u8 (Go.bits .xor .u8 ((t[q]?.getD 0 : Nat) : Int) ((128 : Int) / 2 ^ r)))).1
  have e : nats .u8 (t.set q (t.getD q 0 ^^^ 128 / 2 ^ r)) = (nats .u8 t).set q (.int .u8 (Go.bits .xor .u8 ((t[q]?.getD 0 : Nat) : Int) ((128 : Int) / 2 ^ r))) := by
    have e1 : ((128 : Int) / 2 ^ r) = ((128 / 2 ^ r : Nat) : Int) := by push_cast; rfl
    have h2 := hb q
    rw [List.getD_eq_getElem?_getD] at h2
    have h3 : 128 / 2 ^ r < 256 := Nat.lt_of_le_of_lt (Nat.div_le_self _ _) (by decide)
    rw [e1, u8_xor_nat _ _ h2 h3, List.getD_eq_getElem?_getD, nats, nats, List.map_set]
  show World.ownsRow _ _ _ _ _ _ _
  rw [e]; exact h1
set_option maxRecDepth 100000 in
set_option maxHeartbeats 2000000 in
theorem crcBursts_any (A1 : Option Addr) (n1 c1 : Nat) (l1 : List Nat) (A2 : Option Addr) (n2 c2 : Nat) (l2 : List Nat) (x0 x1 : Nat) (w : World) (e1 : l1.length = n1) (e2 : l2.length = n2) (k1 : n1 ≤ c1) (k2 : n2 ≤ c2)
    (m1 : c1 ≤ 9223372036854775807) (m2 : c2 ≤ 9223372036854775807) (hsm : n1 + n2 ≤ 9223372036854775807) (y0 : x0 < 4294967296) (y1 : x1 < 4294967296) (r1 : At w A1 (nats .u8 l1)) (r2 : At w A2 (nats .u8 l2)) (b1 : Crc.Bytes l1) (b2 : Crc.Bytes l2) :
    Calls Try.prog 4 #[.slice A1 n1 c1, .slice A2 n2 c2, .agg #[.int .u32 x0, .int .u32 x1]] w fun e w' => e = .returned (.bool true) ∧ Below w.heap.size w w' := by
  have B0 : ∀ C e, Below w.heap.size w (w.alloc (.cells C e)) := fun C e => below_tail
  by_cases hbig : n1 + n2 > 600
  · go_enter Try.func4, Try.ntmps4
    go_wp2_with (go_at_call 7; refine (sure12 _).mono ?_; rintro e w' ⟨rfl, hb⟩)
    go_ret
    exact ⟨rfl, (B0 _ _).trans (hb.mono (by simp))⟩
  · have H1 := Lib.hid e1; have H2 := Lib.hid e2; clear e1 e2
    have S2 := Lib.hid (fun (W : World) (hW : Below w.heap.size w W) => sum_any A1 n1 c1 l1 W H1.out (by omega) (r1.later hW (Nat.le_refl _)))
    have S3 := Lib.hid (fun (v : BitVec 32) (W : World) (hW : Below w.heap.size w W) => more_any v A2 n2 c2 l2 W H2.out (by omega) (r2.later hW (Nat.le_refl _)))
    have r1' := Lib.hid (fun (W : World) (hW : Below w.heap.size w W) => r1.later hW (Nat.le_refl _))
    have r2' := Lib.hid (fun (W : World) (hW : Below w.heap.size w W) => r2.later hW (Nat.le_refl _))
    clear r1 r2
    have BB := Lib.hid B0; clear B0
    go_enter Try.func4, Try.ntmps4
    go_wp2_with (first
      | (at_builtin; refine wpList_app rfl elt_u8 (w.heap.size + 1) (.tmp 20) (.tmp 21) rfl [] rfl (Own.lit' #[] 0 (by simp) (by simp) (by unfold maxLen; omega) rfl) (nats .u8 l1) rfl (r1'.out _ ((BB.out _ _).alloc (by simp) _)) (by rw [nats_length, Nat.mul_one]; exact H1.out) (nats_one _ _) (by unfold maxLen; omega) (by omega) (by simp) ?_; intro A' c' w1 own1 g1 _; have B1 := (Below.refl (w.heap.size + 1) (w.alloc (.cells #[.int .u32 x0, .int .u32 x1] 30))).alloc (by simp) (.cells #[] 5) |>.grown g1 (by simp) (by simp [blk]); simp only [Nat.zero_add, List.nil_append] at own1)
      | (at_builtin; refine wpList_app rfl elt_u8 (w.heap.size + 1) (.tmp 22) (.tmp 23) rfl (nats .u8 l1) rfl own1 (nats .u8 l2) rfl (r2'.out _ ((BB.out _ _).trans (B1.mono (by simp)))) (by rw [nats_length, Nat.mul_one]; exact H2.out) (nats_one _ _) (by unfold maxLen; omega) (by omega) (by have := B1.size; simpa using this) ?_; intro A'' c'' w2 own2 g2 _; have B2 := B1.grown g2 (by have := B1.size; simpa using this) (fun k hk => (own1.lt k hk).1); rw [← nats_append] at own2))
    have B2' := (BB.out _ _).trans (B2.mono (by simp))
    refine (sum_any A'' (n1 + n2) c'' (l1 ++ l2) _ (by rw [List.length_append, H1.out, H2.out]) (by omega) own2.at_).mono ?_
    rintro e w' ⟨rfl, rfl⟩
    go_wp2_with fail
    refine (S2.out _ B2').mono ?_
    rintro e w' ⟨rfl, rfl⟩
    go_wp2_with fail
    refine (S3.out _ _ B2').mono ?_
    rintro e w' ⟨rfl, rfl⟩
    rw [show Crc.More (Crc.sum l1) l2 = Crc.sum (l1 ++ l2) from Crc.More_append _ _ _]
    have hfits : Crc.Fits ((l1 ++ l2) ++ tl (Crc.sum (l1 ++ l2))) = true := fits_app _
    have hlen : ((l1 ++ l2) ++ tl (Crc.sum (l1 ++ l2))).length = n1 + n2 + 4 := by rw [List.length_append, List.length_append, H1.out, H2.out]; rfl
    have hby : Crc.Bytes ((l1 ++ l2) ++ tl (Crc.sum (l1 ++ l2))) := bytes_append (bytes_append b1 b2) (tl_bytes _)
    generalize hs : Crc.sum (l1 ++ l2) = s at *
    have HS := Lib.hid hs; clear hs
    have hslt := s.isLt
    have BL : Below (w.heap.size + 1) (w.alloc (.cells #[.int .u32 x0, .int .u32 x1] 30)) w2 := B2
    have BL' := Lib.hid BL; clear BL B2
    have hsz2 : w.heap.size + 1 ≤ w2.heap.size := by have := BL'.out.size; simpa using this
    go_wp2_with (at_builtin; refine wpList_app rfl elt_u8 (w.heap.size + 1) (.tmp 33) (.tmp 45) rfl (nats .u8 (l1 ++ l2)) rfl (own2.alloc _) (nats .u8 (tl s)) rfl (show At _ _ (nats .u8 (tl s)) from At.lit _ _ _ _ _ rfl) rfl (nats_one _ _) (by unfold maxLen; omega) (by omega) (by simp; omega) ?_; intro A3 c3 w3 own3 g3 _; have B3 := (BL'.out.alloc hsz2 _).grown g3 (by simp; omega) (fun k hk => (own2.lt k hk).1); rw [← nats_append] at own3)
    generalize (l1 ++ l2 ++ tl s) = t0 at *
    refine (fits_any A3 _ c3 t0 _ hlen own3.cap.1 (by have := own3.cap.2; unfold maxLen at this; omega) own3.at_).mono ?_
    rintro e w' ⟨rfl, rfl⟩
    rw [hfits]
    have hcell0 : w3.cell? ⟨w.heap.size, 0, none⟩ = some (.int .u32 x0) := by rw [B3.cell (p := ⟨w.heap.size, 0, none⟩) (by simp)]; simp
    have hcell1 : w3.cell? ⟨w.heap.size, 1, none⟩ = some (.int .u32 x1) := by rw [B3.cell (p := ⟨w.heap.size, 1, none⟩) (by simp)]; simp
    have HB3 := Lib.hid B3; clear B3
    obtain ⟨g, rfl, hg1, hg2⟩ : ∃ g, A3 = some ⟨g, 0, none⟩ ∧ w.heap.size + 1 ≤ g ∧ g < w3.heap.size := by
      rcases own3.lies with ⟨_, h, _⟩ | h
      · omega
      · exact h
    have OW := Lib.hid own3
    have HF := Lib.hid hfits; clear hfits
    have HBY := Lib.hid hby
    have HLN := Lib.hid hlen
    clear own3 hby hlen own2 own1 g1 g2 g3
    obtain ⟨a, ha, hab⟩ : ∃ a : Nat, (x0 : Int) % (8 * ((n1 : Int) + (n2 : Int) + 4)) = (a : Int) ∧ a < 8 * (n1 + n2 + 4) := by
      refine ⟨x0 % (8 * (n1 + n2 + 4)), by push_cast; rfl, Nat.mod_lt _ (by omega)⟩
    have hT0 : Turned (fun j => x1 / 2 ^ j % 2 == 1) (n1 + n2 + 4) a 0 t0 := by
      refine ⟨HLN.out, HBY.out, ?_⟩
      rw [(Crc.fits_iff t0 (by rw [HLN.out]; omega) HBY.out).1 HF.out]
      simp only [Crc.E, Crc.sts_zero, BitVec.xor_zero]
    have HT0 := Lib.hid hT0; clear hT0
    go_wp2
    clear ha
    go_loopw [11, 12] (fun u i wr => ∃ (k : Nat) (t : List Nat), k ≤ 32 ∧ a + k ≤ 8 * (n1 + n2 + 4) ∧ i = .int .i64 k ∧ u = .bool (anyB (fun j => x1 / 2 ^ j % 2 == 1) k) ∧ Turned (fun j => x1 / 2 ^ j % 2 == 1) (n1 + n2 + 4) a k t ∧
        Own wr (w.heap.size + 1) 5 1 (some ⟨g, 0, none⟩) (n1 + n2 + 4) c3 (nats .u8 t) ∧ Below (w.heap.size + 1) (w.alloc (.cells #[.int .u32 x0, .int .u32 x1] 30)) wr) (fun _ i _ => 32 - (intOf i).toNat)
    case atStart => exact ⟨0, t0, by omega, by omega, rfl, rfl, HT0.out, OW.out, HB3.out⟩
    case round =>
      obtain ⟨k, t, hk, hak, rfl, rfl, hT, hO, hBr⟩ := hrel
      have hc1 : wr.cell? ⟨w.heap.size, 1, none⟩ = some (.int .u32 x1) := by rw [hBr.cell (p := ⟨w.heap.size, 1, none⟩) (by simp)]; simp
      have HB := Lib.hid hBr; clear hBr
      have HO := Lib.hid hO; clear hO
      have HT := Lib.hid hT; clear hT
      by_cases hlt : k < 32
      · by_cases hin : a + k < 8 * (n1 + n2 + 4)
        · have i1 : (0 : Int) ≤ ((a : Int) + (k : Int)) / 8 := by omega
          have i2 : ((a : Int) + (k : Int)) / 8 < (n1 : Int) + (n2 : Int) + 4 := by omega
          have i3 : ((a : Int) + (k : Int)).tdiv 8 = ((a : Int) + (k : Int)) / 8 := Int.tdiv_eq_ediv_of_nonneg (by omega)
          have hcl : wr.cell? ⟨g, (a + k) / 8, none⟩ = some (.int .u8 ((t.getD ((a + k) / 8) 0 : Nat) : Int)) := by
            have := (HO.out.at_).nat ((a + k) / 8) (by rw [HT.out.1]; omega)
            obtain ⟨b', o', e, hc⟩ := this
            injection e with e; injection e with e1 e2; subst e1; subst e2
            simpa using hc
          have hfz : wr.frozen? ⟨g, (a + k) / 8, none⟩ = false := World.ownsRow.frozenAt HO.out _
          go_wp2
          · have hbit : (x1 / 2 ^ k % 2 == 1) = true := bit_of x1 k true (by assumption)
            go_roundw
            case rel => exact ⟨k + 1, _, by omega, by omega, by go_num, by rw [anyB_succ, hbit, Bool.or_true], turned_step_t _ _ _ _ _ HT.out hin hbit, own_turn HO.out HT.out.2.1 _ _, HB.out.setCell (p := ⟨g, (a + k) / 8, none⟩) hg1 _⟩
            case measure => simp [intOf]; omega
          · have hbit : (x1 / 2 ^ k % 2 == 1) = false := bit_of x1 k false (by assumption)
            go_roundw
            case rel => exact ⟨k + 1, t, by omega, by omega, by go_num, by rw [anyB_succ, hbit, Bool.or_false], turned_step_f _ _ _ _ _ HT.out hin hbit, HO.out, HB.out⟩
            case measure => simp [intOf]; omega
        · have hft : Crc.Fits t = !(anyB (fun j => x1 / 2 ^ j % 2 == 1) k) := by
            have := turned_end _ _ _ _ _ HT.out hk (by omega)
            generalize anyB (fun j => x1 / 2 ^ j % 2 == 1) k = z at this ⊢
            cases z <;> cases hq : Crc.Fits t <;> simp_all
          have FT := Lib.hid (fun c => fits_any (some ⟨g, 0, none⟩) _ c t wr HT.out.1)
          have hcp := HO.out.cap
          unfold maxLen at hcp
          have FT2 := Lib.hid (FT.out c3 hcp.1 (by omega) HO.out.at_)
          clear FT
          rw [hft] at FT2
          clear hft
          generalize anyB (fun j => x1 / 2 ^ j % 2 == 1) k = z at FT2 ⊢
          have hBf := Lib.hid ((BB.out #[.int .u32 x0, .int .u32 x1] 30).trans (HB.out.mono (by omega)))
          cases z <;> (go_wp2_with fail; refine FT2.out.mono ?_; rintro e w' ⟨rfl, rfl⟩; go_wp2_with (go_at_call 7; refine (sure12 _).mono ?_; rintro e w' ⟨rfl, hb⟩); go_ret; exact ⟨rfl, hBf.out.trans (hb.mono hBf.out.size)⟩)
      · have hft : Crc.Fits t = !(anyB (fun j => x1 / 2 ^ j % 2 == 1) k) := by
          have := turned_end _ _ _ _ _ HT.out hk (by omega)
          generalize anyB (fun j => x1 / 2 ^ j % 2 == 1) k = z at this ⊢
          cases z <;> cases hq : Crc.Fits t <;> simp_all
        have FT := Lib.hid (fun c => fits_any (some ⟨g, 0, none⟩) _ c t wr HT.out.1)
        have hcp := HO.out.cap
        unfold maxLen at hcp
        have FT2 := Lib.hid (FT.out c3 hcp.1 (by omega) HO.out.at_)
        clear FT
        rw [hft] at FT2
        clear hft
        generalize anyB (fun j => x1 / 2 ^ j % 2 == 1) k = z at FT2 ⊢
        have hBf := Lib.hid ((BB.out #[.int .u32 x0, .int .u32 x1] 30).trans (HB.out.mono (by omega)))
        cases z <;> (go_wp2_with fail; refine FT2.out.mono ?_; rintro e w' ⟨rfl, rfl⟩; go_wp2_with (go_at_call 7; refine (sure12 _).mono ?_; rintro e w' ⟨rfl, hb⟩); go_ret; exact ⟨rfl, hBf.out.trans (hb.mono hBf.out.size)⟩)
end Go.Proofs.Ytmkehjgcilaicaa
