/- Layer 14: bits turned in bytes; one bit turned. -/
import Derived.Test.YtodimanghmepoaaDoorLfG
namespace Go.Proofs.YtodimanghmepoaaDoor
open Go.RowKit
def anyB (b : Nat → Bool) (k : Nat) : Bool := (List.range k).any b
theorem anyB_succ (b : Nat → Bool) (k : Nat) : anyB b (k + 1) = (anyB b k || b k) := by simp [anyB, List.range_succ, List.any_append]
theorem anyB_false (b : Nat → Bool) (k : Nat) : anyB b k = false ↔ ∀ j, j < k → b j = false := by simp [anyB]
/-- what is known of the bytes after k bits -/
def Turned (b : Nat → Bool) (n at_ k : Nat) (t : List Nat) : Prop := t.length = n ∧ Crc.Bytes t ∧ Crc.reg Crc.ones t = Crc.magic ^^^ Crc.sts (8 * n - at_ - k) (Crc.E b k)
theorem turned_step_f (b : Nat → Bool) (n at_ k : Nat) (t : List Nat) (h : Turned b n at_ k t) (hk : at_ + k < 8 * n) (hb : b k = false) : Turned b n at_ (k + 1) t := by
  obtain ⟨h1, h2, h3⟩ := h
  refine ⟨h1, h2, ?_⟩
  have := Crc.E_step b k (8 * n - at_) (by omega)
  rw [hb] at this
  simp only [Bool.false_eq_true, if_false, BitVec.xor_zero] at this
  rw [h3, this]
theorem turned_step_t (b : Nat → Bool) (n at_ k : Nat) (t : List Nat) (h : Turned b n at_ k t) (hk : at_ + k < 8 * n) (hb : b k = true) :
    Turned b n at_ (k + 1) (t.set ((at_ + k) / 8) (t.getD ((at_ + k) / 8) 0 ^^^ 128 / 2 ^ ((at_ + k) % 8))) := by
  obtain ⟨h1, h2, h3⟩ := h
  refine ⟨by simp [h1], fun i => ?_, ?_⟩
  · rw [List.getD_eq_getElem?_getD, List.getElem?_set]
    split
    · split
      · simp only [Option.getD_some]
        have a1 := h2 ((at_ + k) / 8)
        have a2 : 128 / 2 ^ ((at_ + k) % 8) < 2 ^ 8 := Nat.lt_of_le_of_lt (Nat.div_le_self _ _) (by decide)
        exact Nat.xor_lt_two_pow (n := 8) a1 a2
      · simp
    · rw [← List.getD_eq_getElem?_getD]; exact h2 i
  · rw [Crc.reg_turn t Crc.ones _ _ (by omega) (by omega), h1, h3]
    have := Crc.E_step b k (8 * n - at_) (by omega)
    rw [hb] at this
    simp only [if_true] at this
    rw [BitVec.xor_assoc, show 8 * n - (8 * ((at_ + k) / 8) + (at_ + k) % 8) = 8 * n - at_ - k from by omega, this, show 8 * n - at_ - (k + 1) = 8 * n - at_ - (k + 1) from rfl]
theorem turned_end (b : Nat → Bool) (n at_ k : Nat) (t : List Nat) (h : Turned b n at_ k t) (hk : k ≤ 32) (h4 : 4 ≤ n) : (Crc.Fits t != anyB b k) = true := by
  obtain ⟨h1, h2, h3⟩ := h
  have hf := Crc.fits_iff t (by omega) h2
  rw [h3] at hf
  have hx : (Crc.magic ^^^ Crc.sts (8 * n - at_ - k) (Crc.E b k) = Crc.magic) ↔ Crc.E b k = 0#32 := by
    constructor
    · intro h
      have h' : Crc.magic ^^^ (Crc.magic ^^^ Crc.sts (8 * n - at_ - k) (Crc.E b k)) = Crc.magic ^^^ Crc.magic := by rw [h]
      rw [← BitVec.xor_assoc, BitVec.xor_self, BitVec.zero_xor] at h'
      exact Crc.sts_inj0 _ _ h'
    · intro h; rw [h, Crc.sts_zero, BitVec.xor_zero]
  rw [hx, Crc.E_zero_iff b k hk, ← anyB_false] at hf
  cases ha : anyB b k <;> cases hfb : Crc.Fits t <;> simp_all
theorem bit_of (x k : Nat) (b : Bool) (h : (((x : Int) / 2 ^ k).tmod 2 == 1) = b) : (x / 2 ^ k % 2 == 1) = b := by
  have e : (x : Int) / 2 ^ k = ((x / 2 ^ k : Nat) : Int) := by push_cast; rfl
  rw [e] at h
  generalize x / 2 ^ k = y at h ⊢
  rw [Int.tmod_eq_emod_of_nonneg (by omega)] at h
  rw [← h, Bool.eq_iff_iff, beq_iff_eq, beq_iff_eq]; omega
theorem own_turn {wr : World} {base g n c : Nat} {e : TypeId} {t : List Nat} (h : Own wr base e 1 (some ⟨g, 0, none⟩) n c (nats .u8 t)) (hb : Crc.Bytes t) (q r : Nat) :
    Own (wr.setCell ⟨g, q, none⟩ (.int .u8 (Go.bits .xor .u8 ((t[q]?.getD 0 : Nat) : Int) ((128 : Int) / 2 ^ r)))) base e 1 (some ⟨g, 0, none⟩) n c (nats .u8 (t.set q (t.getD q 0 ^^^ 128 / 2 ^ r))) := by
  have h1 := (World.ownsRow.stored h q (.int .u8 (Go.bits .xor .u8 ((t[q]?.getD 0 : Nat) : Int) ((128 : Int) / 2 ^ r)))).1
  have e : nats .u8 (t.set q (t.getD q 0 ^^^ 128 / 2 ^ r)) = (nats .u8 t).set q (.int .u8 (Go.bits .xor .u8 ((t[q]?.getD 0 : Nat) : Int) ((128 : Int) / 2 ^ r))) := by
    have e1 : ((128 : Int) / 2 ^ r) = ((128 / 2 ^ r : Nat) : Int) := by push_cast; rfl
    have h2 := hb q
    rw [List.getD_eq_getElem?_getD] at h2
    have h3 : 128 / 2 ^ r < 256 := Nat.lt_of_le_of_lt (Nat.div_le_self _ _) (by decide)
    rw [e1, u8_xor_nat _ _ h2 h3, List.getD_eq_getElem?_getD, nats, nats, List.map_set]
  show World.ownsRow _ _ _ _ _ _ _
  rw [e]; exact h1
theorem own_flip {wr : World} {base g n c : Nat} {e : TypeId} {t : List Nat} (h : Own wr base e 1 (some ⟨g, 0, none⟩) n c (nats .u8 t)) (hb : Crc.Bytes t) (i r : Nat) (hr : r < 8) :
    Own (wr.setCell ⟨g, i, none⟩ (.int .u8 (Go.bits .xor .u8 ((t[i]?.getD 0 : Nat) : Int) (2 ^ r % 256)))) base e 1 (some ⟨g, 0, none⟩) n c (nats .u8 (t.set i (t.getD i 0 ^^^ 128 / 2 ^ (7 - r)))) := by
  have e1 : (2 : Int) ^ r % 256 = (128 : Int) / 2 ^ (7 - r) := by
    match r, hr with
    | 0, _ => rfl
    | 1, _ => rfl
    | 2, _ => rfl
    | 3, _ => rfl
    | 4, _ => rfl
    | 5, _ => rfl
    | 6, _ => rfl
    | 7, _ => rfl
  rw [e1]
  exact own_turn h hb i (7 - r)
theorem flip_bad {l : List Nat} {i r : Nat} (hb : Crc.Bytes l) (h4 : 4 ≤ l.length) (hf : Crc.Fits l = true) (hi : i < l.length) (hr : r < 8) :
    Crc.Fits (l.set i (l.getD i 0 ^^^ 128 / 2 ^ (7 - r))) = false ∧ Crc.Bytes (l.set i (l.getD i 0 ^^^ 128 / 2 ^ (7 - r))) := by
  have h0 : Turned (fun _ => true) l.length (8 * i + (7 - r)) 0 l := by
    refine ⟨rfl, hb, ?_⟩
    rw [(Crc.fits_iff l h4 hb).1 hf]
    have : Crc.E (fun _ => true) 0 = 0#32 := rfl
    rw [this, Crc.sts_zero, BitVec.xor_zero]
  have h1 := turned_step_t _ _ _ 0 l h0 (by omega) rfl
  rw [show (8 * i + (7 - r) + 0) / 8 = i by omega, show (8 * i + (7 - r) + 0) % 8 = 7 - r by omega] at h1
  have h2 := turned_end _ _ _ _ _ h1 (by omega) h4
  refine ⟨?_, h1.2.1⟩
  have h3 : anyB (fun _ => true) (0 + 1) = true := rfl
  rw [h3] at h2
  cases hx : Crc.Fits (l.set i (l.getD i 0 ^^^ 128 / 2 ^ (7 - r))) with
  | false => rfl
  | true => rw [hx] at h2; cases h2
end Go.Proofs.YtodimanghmepoaaDoor
