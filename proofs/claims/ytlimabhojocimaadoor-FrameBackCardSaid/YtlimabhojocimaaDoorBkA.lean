/- Layer 14: bits turned in bytes. -/
import Derived.Test.YtlimabhojocimaaDoorFrX
namespace Go.Proofs.YtlimabhojocimaaDoor
open Go.RowKit
def anyB (b : Nat → Bool) (k : Nat) : Bool := (List.range k).any b
theorem anyB_succ (b : Nat → Bool) (k : Nat) : anyB b (k + 1) = (anyB b k || b k) := by simp [anyB, List.range_succ, List.any_append]
theorem anyB_false (b : Nat → Bool) (k : Nat) : anyB b k = false ↔ ∀ j, j < k → b j = false := by simp [anyB]
/-- what is known of the bytes after k bits -/
def Turned (b : Nat → Bool) (n at_ k : Nat) (t : List Nat) : Prop := t.length = n ∧ Crc.Bytes t ∧ Crc.reg Crc.ones t = Crc.magic ^^^ Crc.sts (8 * n - at_ - k) (Crc.E b k)
theorem turned_step_f (b : Nat → Bool) (n at_ k : Nat) (t : List Nat) (h : Turned b n at_ k t) (hk : at_ + k < 8 * n) (hb : b k = false) : Turned b n at_ (k + 1) t := by
  obtain ⟨h1, h2, h3⟩ := h
  refine ⟨h1, h2, ?_⟩
  have := Crc.E_step b k (8 * n - at_) (by omega)
  rw [hb] at this
  simp only [Bool.false_eq_true, if_false, BitVec.xor_zero] at this
  rw [h3, this]
theorem turned_step_t (b : Nat → Bool) (n at_ k : Nat) (t : List Nat) (h : Turned b n at_ k t) (hk : at_ + k < 8 * n) (hb : b k = true) :
    Turned b n at_ (k + 1) (t.set ((at_ + k) / 8) (t.getD ((at_ + k) / 8) 0 ^^^ 128 / 2 ^ ((at_ + k) % 8))) := by
  obtain ⟨h1, h2, h3⟩ := h
  refine ⟨by simp [h1], fun i => ?_, ?_⟩
  · rw [List.getD_eq_getElem?_getD, List.getElem?_set]
    split
    · split
      · simp only [Option.getD_some]
        have a1 := h2 ((at_ + k) / 8)
        have a2 : 128 / 2 ^ ((at_ + k) % 8) < 2 ^ 8 := Nat.lt_of_le_of_lt (Nat.div_le_self _ _) (by decide)
        exact Nat.xor_lt_two_pow (n := 8) a1 a2
      · simp
    · rw [← List.getD_eq_getElem?_getD]; exact h2 i
  · rw [Crc.reg_turn t Crc.ones _ _ (by omega) (by omega), h1, h3]
    have := Crc.E_step b k (8 * n - at_) (by omega)
    rw [hb] at this
    simp only [if_true] at this
    rw [BitVec.xor_assoc, show 8 * n - (8 * ((at_ + k) / 8) + (at_ + k) % 8) = 8 * n - at_ - k from by omega, this, show 8 * n - at_ - (k + 1) = 8 * n - at_ - (k + 1) from rfl]
theorem turned_end (b : Nat → Bool) (n at_ k : Nat) (t : List Nat) (h : Turned b n at_ k t) (hk : k ≤ 32) (h4 : 4 ≤ n) : (Crc.Fits t != anyB b k) = true := by
  obtain ⟨h1, h2, h3⟩ := h
  have hf := Crc.fits_iff t (by omega) h2
  rw [h3] at hf
  have hx : (Crc.magic ^^^ Crc.sts (8 * n - at_ - k) (Crc.E b k) = Crc.magic) ↔ Crc.E b k = 0#32 := by
    constructor
    · intro h
      have h' : Crc.magic ^^^ (Crc.magic ^^^ Crc.sts (8 * n - at_ - k) (Crc.E b k)) = Crc.magic ^^^ Crc.magic := by rw [h]
      rw [← BitVec.xor_assoc, BitVec.xor_self, BitVec.zero_xor] at h'
      exact Crc.sts_inj0 _ _ h'
    · intro h; rw [h, Crc.sts_zero, BitVec.xor_zero]
  rw [hx, Crc.E_zero_iff b k hk, ← anyB_false] at hf
  cases ha : anyB b k <;> cases hfb : Crc.Fits t <;> simp_all
theorem bit_of (x k : Nat) (b : Bool) (h : (((x : Int) / 2 ^ k).tmod 2 == 1) = b) : (x / 2 ^ k % 2 == 1) = b := by
  have e : (x : Int) / 2 ^ k = ((x / 2 ^ k : Nat) : Int) := by push_cast; rfl
  rw [e] at h
  generalize x / 2 ^ k = y at h ⊢
  rw [Int.tmod_eq_emod_of_nonneg (by omega)] at h
  rw [← h, Bool.eq_iff_iff, beq_iff_eq, beq_iff_eq]; omega
theorem own_turn {wr : World} {base g n c : Nat} {e : TypeId} {t : List Nat} (h : Own wr base e 1 (some ⟨g, 0, none⟩) n c (nats .u8 t)) (hb : Crc.Bytes t) (q r : Nat) :
    Own (wr.setCell ⟨g, q, none⟩ (.int .u8 (Go.bits .xor .u8 ((t[q]?.getD 0 : Nat) : Int) ((128 : Int) / 2 ^ r)))) base e 1 (some ⟨g, 0, none⟩) n c (nats .u8 (t.set q (t.getD q 0 ^^^ 128 / 2 ^ r))) := by
  have h1 := (World.ownsRow.stored h q (.int .u8 (Go.bits .xor .u8 ((t[q]?.getD 0 : Nat) : Int) ((128 : Int) / 2 ^ r)))).1
  have e : nats .u8 (t.set q (t.getD q 0 ^^^ 128 / 2 ^ r)) = (nats .u8 t).set q (.int .u8 (Go.bits .xor .u8 ((t[q]?.getD 0 : Nat) : Int) ((128 : Int) / 2 ^ r))) := by
    have e1 : ((128 : Int) / 2 ^ r) = ((128 / 2 ^ r : Nat) : Int) := by push_cast; rfl
    have h2 := hb q
    rw [List.getD_eq_getElem?_getD] at h2
    have h3 : 128 / 2 ^ r < 256 := Nat.lt_of_le_of_lt (Nat.div_le_self _ _) (by decide)
    rw [e1, u8_xor_nat _ _ h2 h3, List.getD_eq_getElem?_getD, nats, nats, List.map_set]
  show World.ownsRow _ _ _ _ _ _ _
  rw [e]; exact h1
/-- nothing turned, nothing other -/
def Still (b : Nat → Bool) (k : Nat) (t0 t : List Nat) : Prop := anyB b k = false → t = t0
theorem still_f {b : Nat → Bool} {k : Nat} {t0 t : List Nat} (h : Still b k t0 t) : Still b (k + 1) t0 t := fun e => h (by rw [anyB_succ] at e; simp at e; exact e.1)
theorem still_t {b : Nat → Bool} {k : Nat} {t0 t t' : List Nat} (hb : b k = true) : Still b (k + 1) t0 t' := fun e => by rw [anyB_succ, hb, Bool.or_true] at e; cases e
/-- a struct loaded, at a guarded operation -/
theorem wpList_load_rowG {P : Program} {ops : Array Oper} {rest : List Oper} {o : Oper} {a : Act} {w : World} {Q : Exit → Act → World → Prop} (hgd : Region.wanted o (yielded ops a.tmps) = true) (ty : TypeId) (x : Operand) (ho : o.op = .load ty x)
    (g : Nat) (hx : a.eval x = .pointer (some ⟨g, 0, none⟩)) (t : TypeId) (cs : Array Value) (fr : Nat × Nat) (d : TypeDesc) (hg : w.heap[g]? = some (.cells cs t fr))
    (hu : P.underlying ty = some d) (hd : (match d with | .struct _ | .array _ _ => true | _ => false) = true) (hi : (P.info? ty).map (·.size) = some cs.size)
    (h : wpList P ops Q rest (a.put o.dst (.agg cs)) w) : wpList P ops Q (o :: rest) a w :=
  wpList_step fun _ hK => by
    rw [if_pos hgd]
    exact wp_load_row ty x ho g hx t cs fr d hg hu hd hi (hK _ _ h)
end Go.Proofs.YtlimabhojocimaaDoor
