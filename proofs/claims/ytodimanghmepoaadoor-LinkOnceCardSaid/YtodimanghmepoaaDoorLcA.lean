/- Plain law for the sums of 32 bits: the register's step is linear and one to one, so that bits turned within 32 in a row are seen. No program in sight. The walks of the sums of 32 bits: package crc, and the document's sums. The walks of the sums of 32 bits, second part: the document's tail and its test, and the statements. -/
import Derived.Test.YtodimanghmepoaaDoorProg
import Derived.Test.YtodimanghmepoaaDoorBase
import Derived.Outline
import Derived.Deep.RegionHeld3
import Derived.WalkSpells
import Derived.Test.YtodimanghmepoaaDoorRegion
import Derived.Deep.QuietTactic
import Derived.BigQuiet
namespace Go.Proofs.YtodimanghmepoaaDoor.Crc

def P : BitVec 32 := 0x04c11db7#32
/-- one step of the register -/
def st (v : BitVec 32) : BitVec 32 := if v.msb then (v <<< 1) ^^^ P else v <<< 1
def sts : Nat → BitVec 32 → BitVec 32
  | 0, v => v
  | n + 1, v => st (sts n v)
/-- a byte taken in -/
def by8 (v : BitVec 32) (x : Nat) : BitVec 32 := sts 8 (v ^^^ (BitVec.ofNat 32 x <<< 24))
def reg (v : BitVec 32) (l : List Nat) : BitVec 32 := l.foldl by8 v
/-- a bit taken in -/
def bit (v : BitVec 32) (b : Bool) : BitVec 32 := if v.msb != b then (v <<< 1) ^^^ P else v <<< 1
def ones : BitVec 32 := BitVec.allOnes 32
def top : BitVec 32 := 0x80000000#32
def More (s : BitVec 32) (l : List Nat) : BitVec 32 := ~~~ reg (~~~ s) l
/-- the sum of bytes -/
def sum (l : List Nat) : BitVec 32 := More 0#32 l

theorem st_xor (a b : BitVec 32) : st (a ^^^ b) = st a ^^^ st b := by
  unfold st
  rw [BitVec.msb_xor, BitVec.shiftLeft_xor_distrib]
  cases a.msb <;> cases b.msb <;> simp
  · ac_rfl
  · ac_rfl
  · rw [show (a <<< 1 ^^^ P ^^^ (b <<< 1 ^^^ P)) = (a <<< 1 ^^^ b <<< 1) ^^^ (P ^^^ P) from by ac_rfl, BitVec.xor_self, BitVec.xor_zero]
theorem sts_xor (n : Nat) (a b : BitVec 32) : sts n (a ^^^ b) = sts n a ^^^ sts n b := by
  induction n with
  | zero => rfl
  | succ n ih => simp only [sts, ih, st_xor]
theorem sts_add (m n : Nat) (v : BitVec 32) : sts (m + n) v = sts m (sts n v) := by
  induction m with
  | zero => simp [sts]
  | succ m ih => rw [Nat.succ_add]; simp only [sts, ih]
theorem sts_zero (n : Nat) : sts n 0#32 = 0#32 := by
  induction n with
  | zero => rfl
  | succ n ih => simp only [sts, ih]; decide
theorem st_inj0 (v : BitVec 32) (h : st v = 0#32) : v = 0#32 := by
  unfold st at h
  split at h
  · have h0 := congrArg (fun x : BitVec 32 => x.getLsbD 0) h
    simp [P] at h0
  · rename_i hm
    have hm' : v.toNat < 2147483648 := by
      rw [BitVec.msb_eq_decide] at hm; simpa using hm
    have h1 := congrArg BitVec.toNat h
    rw [BitVec.toNat_shiftLeft, Nat.shiftLeft_eq] at h1
    apply BitVec.eq_of_toNat_eq
    simp at h1 ⊢; omega
theorem sts_inj0 (n : Nat) (v : BitVec 32) (h : sts n v = 0#32) : v = 0#32 := by
  induction n with
  | zero => exact h
  | succ n ih => exact ih (st_inj0 _ h)
theorem sts_inj (n : Nat) (a b : BitVec 32) (h : sts n a = sts n b) : a = b := by
  have : sts n (a ^^^ b) = 0#32 := by rw [sts_xor, h, BitVec.xor_self]
  have := sts_inj0 n _ this
  have h2 : a ^^^ b ^^^ b = 0#32 ^^^ b := by rw [this]
  rwa [BitVec.xor_assoc, BitVec.xor_self, BitVec.xor_zero, BitVec.zero_xor] at h2
theorem st_small (v : BitVec 32) (h : v.toNat < 2147483648) : st v = v <<< 1 := by
  unfold st
  rw [if_neg]
  rw [BitVec.msb_eq_decide]; simp; omega
theorem sts_small (n : Nat) : ∀ (v : BitVec 32), v.toNat * 2 ^ n < 4294967296 → sts n v = v <<< n := by
  induction n with
  | zero => intro v _; simp [sts]
  | succ n ih =>
    intro v h
    have hp : 0 < 2 ^ n := Nat.pos_of_ne_zero (by simp)
    rw [Nat.pow_succ] at h
    have h1 : v.toNat * 2 ^ n < 2147483648 := by
      have e : v.toNat * (2 ^ n * 2) = (v.toNat * 2 ^ n) * 2 := by rw [Nat.mul_assoc]
      omega
    simp only [sts]
    rw [ih v (by omega), st_small, ← BitVec.shiftLeft_add]
    rw [BitVec.toNat_shiftLeft, Nat.shiftLeft_eq, Nat.mod_eq_of_lt (by omega)]; exact h1

attribute [local irreducible] sts
theorem by8_xor (a b : BitVec 32) (x : Nat) : by8 (a ^^^ b) x = by8 a x ^^^ sts 8 b := by
  unfold by8
  rw [← sts_xor]; generalize BitVec.ofNat 32 x <<< 24 = y; rw [BitVec.xor_assoc, BitVec.xor_assoc, BitVec.xor_comm b y]
theorem reg_cons (v : BitVec 32) (x : Nat) (l : List Nat) : reg v (x :: l) = reg (by8 v x) l := by unfold reg; rw [List.foldl_cons]
theorem reg_xor (l : List Nat) : ∀ (a b : BitVec 32), reg (a ^^^ b) l = reg a l ^^^ sts (8 * l.length) b := by
  induction l with
  | nil => intro a b; simp [reg, sts]
  | cons x l ih =>
    intro a b
    rw [reg_cons, reg_cons, by8_xor, ih, ← sts_add, List.length_cons, Nat.mul_add]
theorem reg_append (v : BitVec 32) (a b : List Nat) : reg v (a ++ b) = reg (reg v a) b := List.foldl_append ..
/-- in whatever pieces: the same sum -/
theorem More_append (s : BitVec 32) (a b : List Nat) : More (More s a) b = More s (a ++ b) := by
  unfold More; rw [BitVec.not_not, reg_append]

/-! bit by bit -/
theorem bit_eq (v : BitVec 32) (b : Bool) : bit v b = st (v ^^^ (if b then top else 0#32)) := by
  unfold bit st
  rw [BitVec.msb_xor, BitVec.shiftLeft_xor_distrib]
  have ht : top.msb = true := by decide
  have hs : top <<< 1 = 0#32 := by decide
  cases b <;> cases v.msb <;> simp [ht, hs]
theorem bit_xor (a b : BitVec 32) (x : Bool) : bit (a ^^^ b) x = bit a x ^^^ st b := by
  rw [bit_eq, bit_eq, ← st_xor]; congr 1; ac_rfl
/-- the bits of a byte, the upper ones first, from bit k - 1 on -/
def bits : Nat → BitVec 32 → Nat → BitVec 32
  | 0, v, _ => v
  | k + 1, v, x => bits k (bit v (x / 2 ^ k % 2 == 1)) x
theorem bits_xor (k x : Nat) : ∀ (a b : BitVec 32), bits k (a ^^^ b) x = bits k a x ^^^ sts k b := by
  induction k with
  | zero => intro a b; simp only [bits, sts]
  | succ k ih => intro a b; simp only [bits]; rw [bit_xor, ih, sts_add k 1]; simp only [sts]
theorem bits_zero : ∀ x : Fin 256, bits 8 0#32 x.val = sts 8 (BitVec.ofNat 32 x.val <<< 24) := by decide +kernel
theorem bits8 (v : BitVec 32) (x : Nat) (h : x < 256) : bits 8 v x = by8 v x := by
  have h1 := bits_xor 8 x 0#32 v
  rw [BitVec.zero_xor, bits_zero ⟨x, h⟩] at h1
  rw [h1, by8, sts_xor, BitVec.xor_comm]

/-! the sum behind the bytes -/
def be (a b c d : Nat) : BitVec 32 := (((BitVec.ofNat 32 a <<< 8 ||| BitVec.ofNat 32 b) <<< 8 ||| BitVec.ofNat 32 c) <<< 8) ||| BitVec.ofNat 32 d
/-- bytes as one number, the upper ones first -/
def pre (l : List Nat) : BitVec 32 := l.foldl (fun a x => a <<< 8 ||| BitVec.ofNat 32 x) 0#32
theorem pre4 (a b c d : Nat) : pre [a, b, c, d] = be a b c d := by simp [pre, be]
theorem pre_snoc (l : List Nat) (x : Nat) : pre (l ++ [x]) = pre l <<< 8 ||| BitVec.ofNat 32 x := by simp [pre]
theorem step8 (x : BitVec 32) (y : Nat) (hx : x.toNat < 16777216) (hy : y < 256) : (x <<< 8 ||| BitVec.ofNat 32 y).toNat = x.toNat * 256 + y := by
  rw [BitVec.toNat_or, BitVec.toNat_shiftLeft, BitVec.toNat_ofNat, Nat.mod_eq_of_lt (show y < 2 ^ 32 by omega), Nat.mod_eq_of_lt (by rw [Nat.shiftLeft_eq]; omega),
    ← Nat.shiftLeft_add_eq_or_of_lt (show y < 2 ^ 8 by omega), Nat.shiftLeft_eq]
theorem be_toNat (a b c d : Nat) (ha : a < 256) (hb : b < 256) (hc : c < 256) (hd : d < 256) : (be a b c d).toNat = ((a * 256 + b) * 256 + c) * 256 + d := by
  have e0 : (BitVec.ofNat 32 a).toNat = a := by simp; omega
  unfold be
  rw [step8 _ _ (by rw [step8 _ _ (by rw [step8 _ _ (by omega) hb]; omega) hc, step8 _ _ (by omega) hb]; omega) hd, step8 _ _ (by rw [step8 _ _ (by omega) hb]; omega) hc, step8 _ _ (by omega) hb, e0]
def magic : BitVec 32 := sts 32 ones
theorem be_xor (a b c d : Nat) (hb : b < 256) (hc : c < 256) (hd : d < 256) :
    be a b c d = BitVec.ofNat 32 a <<< 24 ^^^ BitVec.ofNat 32 b <<< 16 ^^^ BitVec.ofNat 32 c <<< 8 ^^^ BitVec.ofNat 32 d := by
  have key : ∀ (x y : BitVec 32), y.toNat < 256 → x <<< 8 ||| y = x <<< 8 ^^^ y := by
    intro x y hy
    apply BitVec.eq_of_getLsbD_eq
    intro i hi
    by_cases h8 : i < 8
    · simp [h8]
    · have : y.getLsbD i = false := by
        rw [BitVec.getLsbD]
        apply Nat.testBit_lt_two_pow
        have : 2 ^ 8 ≤ 2 ^ i := Nat.pow_le_pow_right (by omega) (by omega)
        omega
      simp [this]
  unfold be
  rw [key _ _ (by simp; omega), key _ _ (by simp; omega), key _ _ (by simp; omega)]
  simp only [BitVec.shiftLeft_xor_distrib, ← BitVec.shiftLeft_add]
theorem reg4 (r : BitVec 32) (a b c d : Nat) (hb : b < 256) (hc : c < 256) (hd : d < 256) :
    reg r [a, b, c, d] = sts 32 (r ^^^ be a b c d) := by
  have e : ∀ (x k : Nat), x < 256 → k ≤ 24 → sts k (BitVec.ofNat 32 x <<< (24 - k)) = BitVec.ofNat 32 x <<< 24 := by
    intro x k hx hk
    rw [sts_small]
    · rw [← BitVec.shiftLeft_add]; congr 1; omega
    · rw [BitVec.toNat_shiftLeft, Nat.shiftLeft_eq]
      have h1 : (BitVec.ofNat 32 x).toNat = x := by simp; omega
      rw [h1]
      have h2 : 2 ^ (24 - k) * 2 ^ k = 2 ^ 24 := by rw [← Nat.pow_add]; congr 1; omega
      have h3 : x * 2 ^ (24 - k) % 2 ^ 32 ≤ x * 2 ^ (24 - k) := Nat.mod_le _ _
      calc x * 2 ^ (24 - k) % 2 ^ 32 * 2 ^ k ≤ x * 2 ^ (24 - k) * 2 ^ k := Nat.mul_le_mul_right _ h3
        _ = x * 2 ^ 24 := by rw [Nat.mul_assoc, h2]
        _ < 4294967296 := by omega
  show by8 (by8 (by8 (by8 r a) b) c) d = _
  rw [be_xor a b c d hb hc hd]
  have hb' := e b 8 hb (by omega)
  have hc' := e c 16 hc (by omega)
  have hd' := e d 24 hd (by omega)
  simp only [Nat.reduceSub] at hb' hc' hd'
  rw [BitVec.shiftLeft_zero] at hd'
  have b2 : sts 32 (BitVec.ofNat 32 b <<< 16) = sts 24 (BitVec.ofNat 32 b <<< 24) := by rw [← hb', ← sts_add]
  have c2 : sts 32 (BitVec.ofNat 32 c <<< 8) = sts 16 (BitVec.ofNat 32 c <<< 24) := by rw [← hc', ← sts_add]
  have d2 : sts 32 (BitVec.ofNat 32 d) = sts 8 (BitVec.ofNat 32 d <<< 24) := by rw [← hd', ← sts_add]
  unfold by8
  simp only [sts_xor, ← sts_add, Nat.reduceAdd, b2, c2, d2]
  ac_rfl

/-- whether bytes end with the sum of those ahead -/
def Fits (l : List Nat) : Bool := decide (4 ≤ l.length) && (be (l.getD (l.length - 4) 0) (l.getD (l.length - 3) 0) (l.getD (l.length - 2) 0) (l.getD (l.length - 1) 0) == sum (l.take (l.length - 4)))
theorem last4 (l : List Nat) (h : 4 ≤ l.length) : l = l.take (l.length - 4) ++ [l.getD (l.length - 4) 0, l.getD (l.length - 3) 0, l.getD (l.length - 2) 0, l.getD (l.length - 1) 0] := by
  apply List.ext_getElem
  · simp; omega
  · intro i h1 h2
    by_cases hi : i < l.length - 4
    · rw [List.getElem_append_left (by simp; omega)]; simp
    · rw [List.getElem_append_right (by simp; omega)]
      have : (l.take (l.length - 4)).length = l.length - 4 := by simp
      have hcase : i - (l.take (l.length - 4)).length = 0 ∧ i = l.length - 4 ∨ i - (l.take (l.length - 4)).length = 1 ∧ i = l.length - 3 ∨ i - (l.take (l.length - 4)).length = 2 ∧ i = l.length - 2 ∨ i - (l.take (l.length - 4)).length = 3 ∧ i = l.length - 1 := by omega
      rcases hcase with ⟨e, e'⟩ | ⟨e, e'⟩ | ⟨e, e'⟩ | ⟨e, e'⟩ <;> (simp only [e]; subst e'; simp [List.getD_eq_getElem?_getD, List.getElem?_eq_getElem h1])
/-- the same, by what the bytes behind are as one number -/
theorem fits_pre (m : Nat) (l : List Nat) (h : l.length = m + 4) : Fits l = (pre (l.drop m) == sum (l.take m)) := by
  have e : l.drop m = [l.getD (l.length - 4) 0, l.getD (l.length - 3) 0, l.getD (l.length - 2) 0, l.getD (l.length - 1) 0] := by
    conv => lhs; rw [last4 l (by omega)]
    exact List.drop_left' (by simp; omega)
  unfold Fits
  rw [e, pre4]
  have : l.length - 4 = m := by omega
  rw [this]; simp [h]
theorem fits_short (l : List Nat) (h : l.length < 4) : Fits l = false := by unfold Fits; simp; omega
theorem step_bit_t (u : BitVec 32) (b : Bool) (h : (u.msb != b) = true) : bit u b = u <<< 1 ^^^ P := by unfold bit; rw [if_pos h]
theorem step_bit_f (u : BitVec 32) (b : Bool) (h : (u.msb != b) = false) : bit u b = u <<< 1 := by unfold bit; rw [if_neg (by rw [h]; decide)]
def Bytes (l : List Nat) : Prop := ∀ i, l.getD i 0 < 256
theorem fits_iff (l : List Nat) (h : 4 ≤ l.length) (hb : Bytes l) : Fits l = true ↔ reg ones l = magic := by
  have e := last4 l h
  have h4 : reg ones l = sts 32 (reg ones (l.take (l.length - 4)) ^^^ be (l.getD (l.length - 4) 0) (l.getD (l.length - 3) 0) (l.getD (l.length - 2) 0) (l.getD (l.length - 1) 0)) := by
    conv => lhs; rw [e]
    rw [reg_append, reg4 _ _ _ _ _ (hb _) (hb _) (hb _)]
  rw [h4]
  unfold Fits magic sum More
  rw [show (~~~ (0#32)) = ones from by decide]
  generalize reg ones (l.take (l.length - 4)) = r
  generalize be _ _ _ _ = q
  simp only [h, decide_true, Bool.true_and, beq_iff_eq]
  constructor
  · rintro rfl
    congr 1
    unfold ones
    apply BitVec.eq_of_getLsbD_eq; intro i hi; rw [BitVec.getLsbD_xor, BitVec.getLsbD_not, BitVec.getLsbD_allOnes]; cases r.getLsbD i <;> simp [hi]
  · intro hh
    have := sts_inj 32 _ _ hh
    have h2 : r ^^^ (r ^^^ q) = r ^^^ ones := by rw [this]
    rw [← BitVec.xor_assoc, BitVec.xor_self, BitVec.zero_xor] at h2
    rw [h2]
    apply BitVec.eq_of_getLsbD_eq; intro i hi; unfold ones; rw [BitVec.getLsbD_xor, BitVec.getLsbD_not, BitVec.getLsbD_allOnes]; cases r.getLsbD i <;> simp [hi]
/-- bytes with their sum behind fit -/
theorem fits_sum (l : List Nat) (a b c d : Nat) (h : be a b c d = sum l) : Fits (l ++ [a, b, c, d]) = true := by
  unfold Fits
  have hl : (l ++ [a, b, c, d]).length = l.length + 4 := by simp
  rw [hl]
  have g : ∀ k, k < 4 → (l ++ [a, b, c, d]).getD (l.length + k) 0 = [a, b, c, d].getD k 0 := by
    intro k _
    simp [List.getD_eq_getElem?_getD, List.getElem?_append_right]
  have g0 := g 0 (by omega); have g1 := g 1 (by omega); have g2 := g 2 (by omega); have g3 := g 3 (by omega)
  simp only [show l.length + 4 - 4 = l.length + 0 from rfl, show l.length + 4 - 3 = l.length + 1 from rfl, show l.length + 4 - 2 = l.length + 2 from rfl, show l.length + 4 - 1 = l.length + 3 from rfl, g0, g1, g2, g3]
  simp [h]

/-! bits turned -/
theorem turn_bits : ∀ r : Fin 8, sts 8 (BitVec.ofNat 32 (128 / 2 ^ r.val) <<< 24) = sts (8 - r.val) top := by decide +kernel
theorem ofNat_xor (x y : Nat) : BitVec.ofNat 32 (x ^^^ y) = BitVec.ofNat 32 x ^^^ BitVec.ofNat 32 y := by
  apply BitVec.eq_of_getLsbD_eq
  intro i hi
  rw [BitVec.getLsbD_xor, BitVec.getLsbD_ofNat, BitVec.getLsbD_ofNat, BitVec.getLsbD_ofNat, Nat.testBit_xor]; simp [hi]
/-- one bit of bytes turned -/
theorem reg_turn (l : List Nat) : ∀ (v : BitVec 32) (q r : Nat), q < l.length → r < 8 →
    reg v (l.set q (l.getD q 0 ^^^ 128 / 2 ^ r)) = reg v l ^^^ sts (8 * l.length - (8 * q + r)) top := by
  induction l with
  | nil => intro v q r h; simp at h
  | cons x l ih =>
    intro v q r h hr
    cases q with
    | zero =>
      simp only [List.set_cons_zero, List.getD_cons_zero, reg_cons, List.length_cons]
      have : by8 v (x ^^^ 128 / 2 ^ r) = by8 v x ^^^ sts (8 - r) top := by
        unfold by8
        rw [ofNat_xor, BitVec.shiftLeft_xor_distrib, ← turn_bits ⟨r, hr⟩, ← sts_xor]
        rw [BitVec.xor_assoc]
      rw [this, reg_xor, ← sts_add]
      exact congrArg (fun k => _ ^^^ sts k top) (by omega)
    | succ q =>
      have h' : q < l.length := by simpa using h
      have e2 : (x :: l).set (q + 1) ((x :: l).getD (q + 1) 0 ^^^ 128 / 2 ^ r) = x :: l.set q (l.getD q 0 ^^^ 128 / 2 ^ r) := by simp
      rw [e2, reg_cons, reg_cons, ih _ q r h' hr, List.length_cons]
      exact congrArg (fun k => _ ^^^ sts k top) (by omega)
/-- what bits turned, one behind the other, make of the register -/
def E (b : Nat → Bool) : Nat → BitVec 32
  | 0 => 0#32
  | i + 1 => st (E b i ^^^ (if b i then top else 0#32))
theorem E_step (b : Nat → Bool) (i n : Nat) (h : i < n) : sts (n - i) (E b i) ^^^ (if b i then sts (n - i) top else 0#32) = sts (n - (i + 1)) (E b (i + 1)) := by
  have e : n - i = (n - (i + 1)) + 1 := by omega
  rw [e, sts_add, sts_add]
  have e1 : ∀ v, sts 1 v = st v := fun v => by simp only [sts]
  simp only [E, e1, st_xor, sts_xor]
  congr 1
  cases b i
  · simp only [Bool.false_eq_true, if_false]
    rw [show st 0#32 = 0#32 from by decide, sts_zero]
  · simp
def X (b : Nat → Bool) : Nat → BitVec 32
  | 0 => 0#32
  | i + 1 => X b i ^^^ (if b i then BitVec.ofNat 32 (2 ^ (31 - i)) else 0#32)
theorem top_of : ∀ i : Fin 32, sts i.val (BitVec.ofNat 32 (2 ^ (31 - i.val))) = top := by decide +kernel
theorem E_eq (b : Nat → Bool) (i : Nat) (h : i ≤ 32) : E b i = sts i (X b i) := by
  induction i with
  | zero => simp only [E, X, sts]
  | succ i ih =>
    simp only [E, X, sts]
    rw [ih (by omega), sts_xor, st_xor, st_xor]
    congr 1
    cases b i
    · simp [sts_zero]
    · simp only [if_true]; rw [top_of ⟨i, by omega⟩]
theorem X_bit (b : Nat → Bool) (i : Nat) : ∀ j, j < 32 → i ≤ 32 → (X b i).getLsbD (31 - j) = (decide (j < i) && b j) := by
  induction i with
  | zero => intro j _ _; simp [X]
  | succ i ih =>
    intro j hj hi
    simp only [X]
    rw [BitVec.getLsbD_xor, ih j hj (by omega)]
    by_cases hji : j = i
    · subst hji
      cases hb : b j
      · simp
      · simp [BitVec.getLsbD_ofNat, Nat.testBit_two_pow_self]; omega
    · have h1 : decide (j < i + 1) = decide (j < i) := by simp; omega
      rw [h1]
      have h2 : (if b i = true then BitVec.ofNat 32 (2 ^ (31 - i)) else 0#32).getLsbD (31 - j) = false := by
        cases b i
        · simp
        · simp only [if_true, BitVec.getLsbD_ofNat, Nat.testBit_two_pow]
          simp; omega
      rw [h2, Bool.xor_false]
theorem E_zero_iff (b : Nat → Bool) (i : Nat) (h : i ≤ 32) : E b i = 0#32 ↔ ∀ j, j < i → b j = false := by
  rw [E_eq b i h]
  constructor
  · intro hh j hj
    have := sts_inj0 _ _ hh
    have hx := X_bit b i j (by omega) h
    rw [this] at hx
    simpa [hj] using hx.symm
  · intro hb
    have : ∀ k, k ≤ i → X b k = 0#32 := by
      intro k
      induction k with
      | zero => intro _; rfl
      | succ k ih => intro hk; simp only [X]; rw [ih (by omega), hb k (by omega)]; simp
    rw [this i (Nat.le_refl _), sts_zero]
end Go.Proofs.YtodimanghmepoaaDoor.Crc
namespace Go.Proofs.YtodimanghmepoaaDoor
open Go.RowKit

theorem xor_u32 (a b : BitVec 32) : bits .xor .u32 (a.toNat : Int) (b.toNat : Int) = ((a ^^^ b).toNat : Int) := by
  rw [u32_xor_nat _ _ a.isLt b.isLt, BitVec.toNat_xor]
theorem not_u32 (a : BitVec 32) : bits .xor .u32 IntKind.u32.max (a.toNat : Int) = ((~~~ a).toNat : Int) := by
  have h : IntKind.u32.max = (((BitVec.allOnes 32).toNat : Nat) : Int) := by decide
  rw [h, xor_u32, BitVec.allOnes_xor]
theorem shl1_u32 (a : BitVec 32) : (a.toNat : Int) * (2 : Int) % (4294967296 : Int) = ((a <<< 1).toNat : Int) := by
  rw [BitVec.toNat_shiftLeft, Nat.shiftLeft_eq]; omega
theorem byte_u32 (x : Nat) : (x : Int) % (4294967296 : Int) * (16777216 : Int) % (4294967296 : Int) = ((BitVec.ofNat 32 x <<< 24).toNat : Int) := by
  rw [BitVec.toNat_shiftLeft, Nat.shiftLeft_eq, BitVec.toNat_ofNat]; omega
theorem P_u32 : (79764919 : Int) = (Crc.P.toNat : Int) := by decide
theorem msb_t (u : BitVec 32) (h : ((u.toNat : Int) / 2147483648 == 1) = true) : u.msb = true := by
  rw [BitVec.msb_eq_decide]; simp at h ⊢; omega
theorem msb_f (u : BitVec 32) (h : ((u.toNat : Int) / 2147483648 == 1) = false) : u.msb = false := by
  rw [BitVec.msb_eq_decide]; simp at h ⊢; have := u.isLt; omega
theorem st_t (u : BitVec 32) (h : ((u.toNat : Int) / 2147483648 == 1) = true) : bits .xor .u32 ((u.toNat : Int) * (2 : Int) % (4294967296 : Int)) (79764919 : Int) = ((Crc.st u).toNat : Int) := by
  rw [shl1_u32, P_u32, xor_u32, Crc.st, if_pos (msb_t u h)]
theorem st_f (u : BitVec 32) (h : ((u.toNat : Int) / 2147483648 == 1) = false) : (u.toNat : Int) * (2 : Int) % (4294967296 : Int) = ((Crc.st u).toNat : Int) := by
  rw [shl1_u32, Crc.st, if_neg (by rw [msb_f u h]; decide)]

theorem msb_num (u : BitVec 32) : (u.toNat : Int) / 2147483648 = if u.msb then 1 else 0 := by
  have := u.isLt
  rw [BitVec.msb_eq_decide]; split <;> rename_i h <;> simp at h <;> omega
theorem bit_num (x k : Nat) : ((x : Int) / 2 ^ k).tmod 2 % (4294967296 : Int) = if (x / 2 ^ k % 2 == 1) = true then 1 else 0 := by
  have e : (x : Int) / 2 ^ k = ((x / 2 ^ k : Nat) : Int) := by push_cast; rfl
  rw [e]
  generalize x / 2 ^ k = y
  rw [Int.tmod_eq_emod_of_nonneg (by omega)]
  by_cases hy : y % 2 = 1
  · simp [hy]; omega
  · have : y % 2 = 0 := by omega
    simp [this]; omega
theorem bit_ne (u : BitVec 32) (x k : Nat) : ((u.toNat : Int) / 2147483648 != ((x : Int) / 2 ^ k).tmod 2 % (4294967296 : Int)) = (u.msb != (x / 2 ^ k % 2 == 1)) := by
  rw [msb_num, bit_num]
  cases u.msb <;> cases (x / 2 ^ k % 2 == 1) <;> decide
theorem shl1_u32' (a : BitVec 32) : (2 : Int) * (a.toNat : Int) % (4294967296 : Int) = ((a <<< 1).toNat : Int) := by
  rw [Int.mul_comm, shl1_u32]
theorem not_sub (a : BitVec 32) : (4294967295 : Int) - (a.toNat : Int) = ((~~~ a).toNat : Int) := by
  rw [BitVec.toNat_not]; have := a.isLt; omega
theorem or_u32 (a b : BitVec 32) : Go.bits .or .u32 (a.toNat : Int) (b.toNat : Int) = ((a ||| b).toNat : Int) := by
  rw [u32_or_nat _ _ a.isLt b.isLt, BitVec.toNat_or]
theorem shl8_u32 (a : BitVec 32) : (a.toNat : Int) * (256 : Int) % (4294967296 : Int) = ((a <<< 8).toNat : Int) := by
  rw [BitVec.toNat_shiftLeft, Nat.shiftLeft_eq]; omega
theorem conv_u32 (x : Nat) : (x : Int) % (4294967296 : Int) = ((BitVec.ofNat 32 x).toNat : Int) := by
  rw [BitVec.toNat_ofNat]; omega
set_option maxHeartbeats 400000 in
theorem more_any (v : BitVec 32) (A : Option Addr) (n c : Nat) (l : List Nat) (w : World) (hn : l.length = n) (hm : n ≤ 9223372036854775807) (hr : At w A (nats .u8 l)) :
    Calls Tryd.prog 61 #[.int .u32 v.toNat, .slice A n c] w fun e w' => e = .returned (.int .u32 (Crc.More v l).toNat) ∧ w = w' := by
  have H := Lib.hid hn; clear hn
  go_enter Tryd.func61, Tryd.ntmps61
  go_wp2
  go_loop [5, 12] (fun t i => ∃ k : Nat, k ≤ n ∧ i = .int .i64 k ∧ t = .int .u32 (Crc.reg (~~~ v) (l.take k)).toNat) (fun _ i => n - (intOf i).toNat)
  case atStart => exact ⟨0, Nat.zero_le _, rfl, by rw [not_u32]; rfl⟩
  case round =>
    obtain ⟨k, hk, rfl, rfl⟩ := hrel
    by_cases hlt : k < n
    · obtain ⟨b, o, rfl, hc⟩ := hr.nat k (by rw [H.out]; exact hlt)
      clear hr
      go_wp2
      go_loop [5, 21] (fun t i => ∃ j : Nat, j ≤ 8 ∧ i = .int .i64 j ∧ t = .int .u32 (Crc.sts j ((Crc.reg (~~~ v) (l.take k)) ^^^ ((BitVec.ofNat 32 (l.getD k 0)) <<< 24))).toNat) (fun _ i => 8 - (intOf i).toNat)
      case atStart => exact ⟨0, Nat.zero_le _, rfl, int_eq (by rw [byte_u32, xor_u32]; rfl)⟩
      case round =>
        obtain ⟨j, hj, rfl, rfl⟩ := hrel
        generalize hu : (Crc.sts j _) = u
        have HU := Lib.hid hu; clear hu
        go_wp2
        · have ht : ((u.toNat : Int) / 2147483648 == 1) = true := by assumption
          go_round
          case rel => exact ⟨j + 1, by omega, by go_num, int_eq (by rw [st_t u ht, ← HU.out]; rfl)⟩
          case measure => simp [intOf]; omega
        · have ht : ((u.toNat : Int) / 2147483648 == 1) = false := by assumption
          go_round
          case rel => exact ⟨j + 1, by omega, by go_num, int_eq (by rw [st_f u ht, ← HU.out]; rfl)⟩
          case measure => simp [intOf]; omega
        · have hj8 : j = 8 := by omega
          go_round
          case rel => exact ⟨k + 1, by omega, by go_num, int_eq (by
            have hlk : k < l.length := by rw [H.out]; exact hlt
            rw [← HU.out, hj8, List.take_succ_eq_append_getElem hlk, Crc.reg_append, Crc.reg_cons]
            have e : l.getD k 0 = l[k] := by simp [List.getD_eq_getElem?_getD, List.getElem?_eq_getElem hlk]
            rw [e]; rfl)⟩
          case measure => simp [intOf]; omega
    · have hkn : k = n := by omega
      go_wp2
      go_ret
      exact ⟨ret_int (by rw [Crc.More, List.take_of_length_le (by rw [H.out]; omega), not_u32]), rfl⟩

set_option maxHeartbeats 400000 in
theorem refMore_any (v : BitVec 32) (A : Option Addr) (n c : Nat) (l : List Nat) (w : World) (hn : l.length = n) (hm : n ≤ 9223372036854775807) (hr : At w A (nats .u8 l)) (hb : Crc.Bytes l) :
    Calls Tryd.prog 36 #[.int .u32 v.toNat, .slice A n c] w fun e w' => e = .returned (.int .u32 (Crc.More v l).toNat) ∧ w = w' := by
  have H := Lib.hid hn; clear hn
  go_enter Tryd.func36, Tryd.ntmps36
  go_wp2
  go_loop [5, 6] (fun t i => ∃ k : Nat, k ≤ n ∧ i = .int .i64 k ∧ t = .int .u32 (Crc.reg (~~~ v) (l.take k)).toNat) (fun _ i => n - (intOf i).toNat)
  case atStart => exact ⟨0, Nat.zero_le _, rfl, int_eq (by rw [not_sub]; rfl)⟩
  case round =>
    obtain ⟨k, hk, rfl, rfl⟩ := hrel
    by_cases hlt : k < n
    · obtain ⟨b, o, rfl, hc⟩ := hr.nat k (by rw [H.out]; exact hlt)
      have hx := hb k
      generalize hxx : l.getD k 0 = x at hc hx
      have HX := Lib.hid hxx; clear hxx
      clear hr hb
      go_wp2
      go_loop [5, 7] (fun t i => ∃ (j : Nat) (u : BitVec 32), j ≤ 8 ∧ i = .int .i64 ((j : Int) - 1) ∧ t = .int .u32 u.toNat ∧ Crc.bits j u x = Crc.by8 (Crc.reg (~~~ v) (l.take k)) x) (fun _ i => (intOf i + 1).toNat)
      case atStart => exact ⟨8, _, Nat.le_refl _, rfl, rfl, Crc.bits8 _ _ hx⟩
      case round =>
        obtain ⟨j, u, hj, rfl, rfl, hu⟩ := hrel
        have HU := Lib.hid hu; clear hu
        by_cases hj0 : 1 ≤ j
        · have e1 : Crc.bits j u x = Crc.bits (j - 1) (Crc.bit u (x / 2 ^ (j - 1) % 2 == 1)) x := by
            obtain ⟨i, rfl⟩ : ∃ i, j = i + 1 := ⟨j - 1, by omega⟩
            rfl
          have HE := Lib.hid e1; clear e1
          go_wp2
          · have ht : ((u.toNat : Int) / 2147483648 != ((x : Int) / 2 ^ (j - 1)).tmod 2 % 4294967296) = true := by assumption
            go_round
            case rel => exact ⟨j - 1, (u <<< 1) ^^^ Crc.P, by omega, int_eq (by omega), int_eq (by rw [shl1_u32', P_u32, xor_u32]), by rw [← HU.out, HE.out, Crc.step_bit_t u _ (by rw [← bit_ne]; exact ht)]⟩
            case measure => simp [intOf]; omega
          · have ht : ((u.toNat : Int) / 2147483648 != ((x : Int) / 2 ^ (j - 1)).tmod 2 % 4294967296) = false := by assumption
            go_round
            case rel => exact ⟨j - 1, (u <<< 1), by omega, int_eq (by omega), int_eq (by rw [shl1_u32']), by rw [← HU.out, HE.out, Crc.step_bit_f u _ (by rw [← bit_ne]; exact ht)]⟩
            case measure => simp [intOf]; omega
        · have hj8 : j = 0 := by omega
          go_wp2
          go_round
          case rel => exact ⟨k + 1, by omega, by go_num, int_eq (by
            have hlk : k < l.length := by rw [H.out]; exact hlt
            have hu := HU.out
            rw [hj8] at hu
            have e0 : Crc.bits 0 u x = u := rfl
            rw [e0] at hu
            rw [hu, List.take_succ_eq_append_getElem hlk, Crc.reg_append, Crc.reg_cons, ← HX.out]
            have e : l.getD k 0 = l[k] := by simp [List.getD_eq_getElem?_getD, List.getElem?_eq_getElem hlk]
            rw [e]; rfl)⟩
          case measure => simp [intOf]; omega
    · have hkn : k = n := by omega
      go_wp2
      go_ret
      exact ⟨ret_int (by rw [Crc.More, List.take_of_length_le (by rw [H.out]; omega), not_sub]), rfl⟩

theorem more0 (A : Option Addr) (n c : Nat) (l : List Nat) (w : World) (hn : l.length = n) (hm : n ≤ 9223372036854775807) (hr : At w A (nats .u8 l)) :
    Calls Tryd.prog 61 #[.int .u32 0, .slice A n c] w fun e w' => e = .returned (.int .u32 (Crc.sum l).toNat) ∧ w = w' := more_any 0 A n c l w hn hm hr
theorem sum_any (A : Option Addr) (n c : Nat) (l : List Nat) (w : World) (hn : l.length = n) (hm : n ≤ 9223372036854775807) (hr : At w A (nats .u8 l)) :
    Calls Tryd.prog 45 #[.slice A n c] w fun e w' => e = .returned (.int .u32 (Crc.sum l).toNat) ∧ w = w' := by
  have h := Lib.hid (more0 A n c l w hn hm hr)
  clear hr hn
  go_enter Tryd.func45, Tryd.ntmps45
  go_wp2_with (go_at_call 61; refine (h.out).mono ?_; rintro e w' ⟨rfl, rfl⟩)
  go_ret
  exact ⟨rfl, rfl⟩
theorem u32_eq (a b : BitVec 32) : ((a.toNat : Int) == (b.toNat : Int)) = (a == b) := by
  rw [Bool.eq_iff_iff]; simp [BitVec.toNat_eq]; omega
set_option maxHeartbeats 400000 in
theorem fits_any (A : Option Addr) (n c : Nat) (l : List Nat) (w : World) (hn : l.length = n) (hc : n ≤ c) (hm : c ≤ 9223372036854775807) (hr : At w A (nats .u8 l)) :
    Calls Tryd.prog 46 #[.slice A n c] w fun e w' => e = .returned (.bool (Crc.Fits l)) ∧ w = w' := by
  by_cases h4 : 4 ≤ n
  · obtain ⟨m, rfl⟩ : ∃ m, n = m + 4 := ⟨n - 4, by omega⟩
    obtain ⟨b, o, rfl, -⟩ := hr.nat 0 (by omega)
    have hs := Lib.hid (fun c => sum_any (some ⟨b, o, none⟩) m c (l.take m) w (by simp; omega) (by omega) (by rw [nats_take]; exact hr.take))
    have hd : At w (some ⟨b, o + m, none⟩) (nats .u8 (l.drop m)) := by rw [nats_drop]; exact hr.cut
    have hdl : (l.drop m).length = 4 := by simp; omega
    have hf : Crc.Fits l = (Crc.pre (l.drop m) == Crc.sum (l.take m)) := Crc.fits_pre m l hn
    have HF := Lib.hid hf
    clear hf hr hn
    generalize l.drop m = d at hd hdl HF
    have HL := Lib.hid hdl; clear hdl
    go_enter Tryd.func46, Tryd.ntmps46
    go_wp2
    go_loop [4, 16] (fun t i => ∃ k : Nat, k ≤ 4 ∧ i = .int .i64 k ∧ t = .int .u32 (Crc.pre (d.take k)).toNat) (fun _ i => 4 - (intOf i).toNat)
    case atStart => exact ⟨0, Nat.zero_le _, rfl, rfl⟩
    case round =>
      obtain ⟨k, hk, rfl, rfl⟩ := hrel
      by_cases hlt : k < 4
      · obtain ⟨b', o', e, hc'⟩ := hd.nat k (by rw [HL.out]; exact hlt)
        injection e with e; injection e with e1 e2 e3; subst e1; subst e2; clear e3 hd
        go_wp2
        go_round
        case rel => exact ⟨k + 1, by omega, by go_num, int_eq (by
          rw [shl8_u32, conv_u32, or_u32, take_snoc (by rw [HL.out]; exact hlt), Crc.pre_snoc, List.getD_eq_getElem?_getD])⟩
        case measure => simp [intOf]; omega
      · have hk4 : k = 4 := by omega
        go_wp2_with (go_at_call 45; refine (hs.out _).mono ?_; rintro e w' ⟨rfl, rfl⟩)
        go_ret
        exact ⟨ret_bool (by rw [HF.out, u32_eq, List.take_of_length_le (by rw [HL.out]; omega)]), rfl⟩
  · have h0 : Crc.Fits l = false := Crc.fits_short l (by omega)
    have HF := Lib.hid h0; clear h0
    go_enter Tryd.func46, Tryd.ntmps46
    go_wp2
    go_ret
    exact ⟨ret_bool HF.out.symm, rfl⟩
end Go.Proofs.YtodimanghmepoaaDoor
namespace Go.Proofs.YtodimanghmepoaaDoor
open Go.RowKit

theorem refMore0 (A : Option Addr) (n c : Nat) (l : List Nat) (w : World) (hn : l.length = n) (hm : n ≤ 9223372036854775807) (hr : At w A (nats .u8 l)) (hb : Crc.Bytes l) :
    Calls Tryd.prog 36 #[.int .u32 0, .slice A n c] w fun e w' => e = .returned (.int .u32 (Crc.sum l).toNat) ∧ w = w' := refMore_any 0 A n c l w hn hm hr hb
theorem tail_any (v : BitVec 32) (w : World) :
    Calls Tryd.prog 35 #[.int .u32 v.toNat] w fun e w' => e = .returned (.slice (some ⟨w.heap.size, 0, none⟩) 4 4) ∧ w' = w.alloc (.cells #[.int .u8 ((v.toNat / 16777216 : Nat) : Int), .int .u8 ((v.toNat / 65536 % 256 : Nat) : Int), .int .u8 ((v.toNat / 256 % 256 : Nat) : Int), .int .u8 ((v.toNat % 256 : Nat) : Int)] 5) := by
  have := v.isLt
  generalize v.toNat = x at this
  go_enter Tryd.func35, Tryd.ntmps35
  go_wp2
  go_ret
  exact ⟨rfl, rfl⟩
/-- a sum as four bytes -/
def tl (v : BitVec 32) : List Nat := [v.toNat / 16777216, v.toNat / 65536 % 256, v.toNat / 256 % 256, v.toNat % 256]
set_option maxRecDepth 100000 in
theorem elt_c8 : Elt Tryd.prog 22 5 (.int .u8 0) 1 1 where
  ht := by kernel_rfl
  hi := ⟨_, rfl, by kernel_rfl, by kernel_rfl, by kernel_rfl⟩
  hzs := rfl
  hsz := by decide
theorem tail_own (v : BitVec 32) (w : World) :
    Calls Tryd.prog 35 #[.int .u32 v.toNat] w fun e w' => e = .returned (.slice (some ⟨w.heap.size, 0, none⟩) 4 4) ∧ Own w' w.heap.size 5 1 (some ⟨w.heap.size, 0, none⟩) 4 4 (nats .u8 (tl v)) ∧ Below w.heap.size w w' ∧ w.heap.size < w'.heap.size :=
  (tail_any v w).mono fun e w' ⟨he, hw⟩ => ⟨he, by subst hw; exact Own.lit _ 4 (Nat.le_refl _) (by unfold maxLen; omega) rfl, by subst hw; exact (Below.refl _ _).alloc (Nat.le_refl _) _, by subst hw; simp⟩
theorem tl_bytes (v : BitVec 32) : Crc.Bytes (tl v) := by
  have := v.isLt
  intro i
  unfold tl
  match i with
  | 0 => simp; omega
  | 1 => simp; omega
  | 2 => simp; omega
  | 3 => simp; omega
  | n + 4 => simp
theorem tl_pre (v : BitVec 32) : Crc.pre (tl v) = v := by
  have h := v.isLt
  unfold tl
  rw [Crc.pre4]
  apply BitVec.eq_of_toNat_eq
  rw [Crc.be_toNat _ _ _ _ (by omega) (by omega) (by omega) (by omega)]
  omega
theorem below_tail {w : World} {o : Obj} : Below w.heap.size w (w.alloc o) := (Below.refl _ _).alloc (Nat.le_refl _) _
theorem tl_eq (v : BitVec 32) (l : List Nat) (hl : l.length = 4) (hb : Crc.Bytes l) : ((strN (tl v)).toList == (strN l).toList) = (v == Crc.pre l) := by
  have e : (tl v = l) ↔ v = Crc.pre l := by
    constructor
    · rintro rfl; rw [tl_pre]
    · intro h
      match l, hl with
      | [a, b, c, d], _ =>
        have ha := hb 0; have hb' := hb 1; have hc := hb 2; have hd := hb 3
        simp at ha hb' hc hd
        rw [h, tl, Crc.pre4, Crc.be_toNat _ _ _ _ ha hb' hc hd]
        have e1 : (((a * 256 + b) * 256 + c) * 256 + d) / 16777216 = a := by omega
        have e2 : (((a * 256 + b) * 256 + c) * 256 + d) / 65536 % 256 = b := by omega
        have e3 : (((a * 256 + b) * 256 + c) * 256 + d) / 256 % 256 = c := by omega
        have e4 : (((a * 256 + b) * 256 + c) * 256 + d) % 256 = d := by omega
        rw [e1, e2, e3, e4]
  rw [strN_beq (tl_bytes v) hb, Bool.eq_iff_iff, beq_iff_eq, beq_iff_eq, e]
set_option maxRecDepth 100000 in
set_option maxHeartbeats 4000000 in
theorem refFits_any (A : Option Addr) (n c : Nat) (l : List Nat) (w : World) (hn : l.length = n) (hc : n ≤ c) (hm : c ≤ 9223372036854775807) (hr : At w A (nats .u8 l)) (hb : Crc.Bytes l) :
    Calls Tryd.prog 57 #[.slice A n c] w fun e w' => e = .returned (.bool (Crc.Fits l)) ∧ Below w.heap.size w w' := by
  by_cases h4 : 4 ≤ n
  · obtain ⟨m, rfl⟩ : ∃ m, n = m + 4 := ⟨n - 4, by omega⟩
    obtain ⟨b, o, rfl, -⟩ := hr.nat 0 (by omega)
    have hbd : Crc.Bytes (l.drop m) := by intro i; have := hb (m + i); simpa [List.getD_eq_getElem?_getD] using this
    have hdl : (l.drop m).length = 4 := by simp; omega
    have hf : Crc.Fits l = ((strN (tl (Crc.sum (l.take m)))).toList == (strN (l.drop m)).toList) := by rw [tl_eq _ _ hdl hbd, Crc.fits_pre m l hn, Bool.beq_comm]
    have HF := Lib.hid hf; clear hf
    have hbt : Crc.Bytes (l.take m) := by
      intro i
      have := hb i
      simp [List.getD_eq_getElem?_getD, List.getElem?_take] at this ⊢
      split <;> simp_all
    have hat : At w (some ⟨b, o, none⟩) (nats .u8 (l.take m)) := by rw [nats_take]; exact hr.take
    have had : At w (some ⟨b, o + m, none⟩) (nats .u8 (l.drop m)) := by rw [nats_drop]; exact hr.cut
    have htl := Lib.hid (show (l.take m).length = m by simp; omega)
    have HD := Lib.hid hdl
    clear hr hn hdl
    generalize l.drop m = d at *
    generalize l.take m = t at *
    have hs := Lib.hid (fun (W : World) c (h : At W (some ⟨b, o, none⟩) (nats .u8 t)) => refMore0 (some ⟨b, o, none⟩) m c t W htl.out (by omega) h hbt)
    have b0 : ¬ c = m := by omega
    have b1 : (0 : Int) ≤ (m : Int) := by omega
    have b2 : (m : Int) ≤ (c : Int) := by omega
    have b3 : (m : Int) ≤ (m : Int) + 4 := by omega
    go_enter Tryd.func57, Tryd.ntmps57
    go_wp2
    refine wp_region_below [is ?c0, is ?c1, is ?c2, is ?c3, is ?c4, is ?c5, is (.int .u32 ((Crc.sum t).toNat : Int)), fun v W => ∃ A, v = .slice A 4 4 ∧ At W A (nats .u8 (tl (Crc.sum t))), is (.string (strN (tl (Crc.sum t)))), is ?c9, is ?c10, is ?c11, is (.string (strN d)), is ?c13, is ?c14, is ?c15]
      [⟨[], [3], none⟩, ⟨[(7, 0)], [], none⟩, ⟨[(8, 1)], [], none⟩, ⟨[(9, 2)], [0], some (9, true)⟩, ⟨[(9, 2)], [3], some (9, true)⟩, ⟨[(10, 3), (11, 4), (9, 2)], [], some (9, true)⟩, ⟨[(12, 5), (9, 2)], [], some (9, true)⟩, ⟨[(13, 6), (9, 2)], [], some (9, true)⟩, ⟨[(14, 7), (9, 2)], [], some (9, true)⟩, ⟨[(9, 2)], [0], some (9, true)⟩, ⟨[(9, 2)], [3], some (9, true)⟩, ⟨[(16, 9), (17, 10), (9, 2)], [], some (9, true)⟩, ⟨[(18, 11), (9, 2)], [], some (9, true)⟩, ⟨[(15, 8), (19, 12), (9, 2)], [], some (9, true)⟩, ⟨[(9, 2), (20, 13)], [], none⟩, ⟨[(21, 14)], [], none⟩] (by kernel_rfl) (by kernel_rfl) (by kernel_rfl) (by kernel_rfl) (by kernel_rfl) ?mono ?steps ?fin
    case mono => exact ⟨mono_eq _, mono_eq _, mono_eq _, mono_eq _, mono_eq _, mono_eq _, mono_eq _, (fun v W W' h hX => by obtain ⟨A, h1, h2⟩ := h; exact ⟨A, h1, h2.later hX (Nat.le_refl _)⟩), mono_eq _, mono_eq _, mono_eq _, mono_eq _, mono_eq _, mono_eq _, mono_eq _, mono_eq _, trivial⟩
    case steps =>
      refine ⟨fun ρ W ⟨hcst, hglb, hfun⟩ hX hp ho => ?_, ?_⟩ -- 0: slot 7 := Op.move t3
      · obtain ⟨o3, -⟩ := ho
        change ρ (.tmp 3) = _ at o3
        refine turn_plain (ok_is ?_ rfl)
        simp only [execOp, hcst, hfun, hglb, o3]; go_simp; try exact rfl
      refine ⟨fun ρ W ⟨hcst, hglb, hfun⟩ hX hp ho => ?_, ?_⟩ -- 1: slot 8 := Op.binOp BinOp.geq 3 t7 (const (0:i64)) 3
      · obtain ⟨p7, -⟩ := hp
        change ρ (.tmp 7) = _ at p7
        refine turn_plain (ok_is ?_ rfl)
        simp only [execOp, hcst, hfun, hglb, p7]; go_simp; try exact rfl
      refine ⟨fun ρ W ⟨hcst, hglb, hfun⟩ hX hp ho => ?_, ?_⟩ -- 2: slot 9 := Op.move t8
      · obtain ⟨p8, -⟩ := hp
        change ρ (.tmp 8) = _ at p8
        refine turn_plain (ok_is ?_ rfl)
        simp only [execOp, hcst, hfun, hglb, p8]; go_simp; try exact rfl
      refine ⟨fun ρ W ⟨hcst, hglb, hfun⟩ hX hp ho => ?_, ?_⟩ -- 3: slot 10 := Op.move t0   [guarded: some (2, true)]
      · obtain ⟨p9, -⟩ := hp
        change ρ (.tmp 9) = _ at p9
        obtain ⟨o0, -⟩ := ho
        change ρ (.tmp 0) = _ at o0
        refine turn_yes p9 (ok_is ?_ rfl)
        simp only [execOp, hcst, hfun, hglb, p9, o0]; go_simp; try exact rfl
      refine ⟨fun ρ W ⟨hcst, hglb, hfun⟩ hX hp ho => ?_, ?_⟩ -- 4: slot 11 := Op.move t3   [guarded: some (2, true)]
      · obtain ⟨p9, -⟩ := hp
        change ρ (.tmp 9) = _ at p9
        obtain ⟨o3, -⟩ := ho
        change ρ (.tmp 3) = _ at o3
        refine turn_yes p9 (ok_is ?_ rfl)
        simp only [execOp, hcst, hfun, hglb, p9, o3]; go_simp; try exact rfl
      refine ⟨fun ρ W ⟨hcst, hglb, hfun⟩ hX hp ho => ?_, ?_⟩ -- 5: slot 12 := Op.slice 22 t10 none (some t11) none   [guarded: some (2, true)]
      · obtain ⟨p10, p11, p9, -⟩ := hp
        change ρ (.tmp 10) = _ at p10
        change ρ (.tmp 11) = _ at p11
        change ρ (.tmp 9) = _ at p9
        refine turn_yes p9 (ok_is ?_ rfl)
        simp only [execOp, hcst, hfun, hglb, p10, p11, p9]; go_simp; try exact rfl
      refine ⟨fun ρ W ⟨hcst, hglb, hfun⟩ hX hp ho => ?_, ?_⟩ -- 6: slot 13 := Op.call { value (Operand.func 8), args := #[const (0:u32), t12], argTypes := #[24, 22] }   [guarded: some (2, 
      · obtain ⟨p12, p9, -⟩ := hp
        change ρ (.tmp 12) = _ at p12
        change ρ (.tmp 9) = _ at p9
        refine turn_yes p9 ?_
        refine ok_call (by simp only [execOp, hcst, hfun, hglb, p12, p9]; go_simp; exact ⟨rfl, rfl⟩) ?_
        refine (hs.out W _ (hat.later ((Below.refl _ _).drew.trans hX) (Nat.le_refl _))).mono ?_
        rintro e W' ⟨rfl, rfl⟩
        exact ⟨_, rfl, Below.refl _ _, rfl⟩
      refine ⟨fun ρ W ⟨hcst, hglb, hfun⟩ hX hp ho => ?_, ?_⟩ -- 7: slot 14 := Op.call { value (Operand.func 13), args := #[t13], argTypes := #[24] }   [guarded: some (2, true)]
      · obtain ⟨p13, p9, -⟩ := hp
        change ρ (.tmp 13) = _ at p13
        change ρ (.tmp 9) = _ at p9
        refine turn_yes p9 ?_
        refine ok_call (by simp only [execOp, hcst, hfun, hglb, p13, p9]; go_simp; exact ⟨rfl, rfl⟩) ?_
        refine (tail_own _ W).mono ?_
        rintro e W' ⟨rfl, h2, h3, h4⟩
        exact ⟨_, rfl, h3, ⟨_, rfl, h2.at_⟩⟩
      refine ⟨fun ρ W ⟨hcst, hglb, hfun⟩ hX hp ho => ?_, ?_⟩ -- 8: slot 15 := Op.convert 22 9 t14   [guarded: some (2, true)]
      · obtain ⟨p14, p9, -⟩ := hp
        change ρ (.tmp 9) = _ at p9
        refine turn_yes p9 ?_
        obtain ⟨A, h1, h2⟩ := p14
        refine ok_is (by simp only [execOp, hcst, hfun, hglb, h1, p9]; rw [Sem.run_bind, run_str W elt_c8.ht (by kernel_rfl) (by kernel_rfl) (n := 4) rfl h2]; rfl) rfl
      refine ⟨fun ρ W ⟨hcst, hglb, hfun⟩ hX hp ho => ?_, ?_⟩ -- 9: slot 16 := Op.move t0   [guarded: some (2, true)]
      · obtain ⟨p9, -⟩ := hp
        change ρ (.tmp 9) = _ at p9
        obtain ⟨o0, -⟩ := ho
        change ρ (.tmp 0) = _ at o0
        refine turn_yes p9 (ok_is ?_ rfl)
        simp only [execOp, hcst, hfun, hglb, p9, o0]; go_simp; try exact rfl
      refine ⟨fun ρ W ⟨hcst, hglb, hfun⟩ hX hp ho => ?_, ?_⟩ -- 10: slot 17 := Op.move t3   [guarded: some (2, true)]
      · obtain ⟨p9, -⟩ := hp
        change ρ (.tmp 9) = _ at p9
        obtain ⟨o3, -⟩ := ho
        change ρ (.tmp 3) = _ at o3
        refine turn_yes p9 (ok_is ?_ rfl)
        simp only [execOp, hcst, hfun, hglb, p9, o3]; go_simp; try exact rfl
      refine ⟨fun ρ W ⟨hcst, hglb, hfun⟩ hX hp ho => ?_, ?_⟩ -- 11: slot 18 := Op.slice 22 t16 (some t17) none none   [guarded: some (2, true)]
      · obtain ⟨p16, p17, p9, -⟩ := hp
        change ρ (.tmp 16) = _ at p16
        change ρ (.tmp 17) = _ at p17
        change ρ (.tmp 9) = _ at p9
        refine turn_yes p9 (ok_is ?_ rfl)
        simp only [execOp, hcst, hfun, hglb, p16, p17, p9]; go_simp; try exact rfl
      refine ⟨fun ρ W ⟨hcst, hglb, hfun⟩ hX hp ho => ?_, ?_⟩ -- 12: slot 19 := Op.convert 22 9 t18   [guarded: some (2, true)]
      · obtain ⟨p18, p9, -⟩ := hp
        change ρ (.tmp 18) = _ at p18
        change ρ (.tmp 9) = _ at p9
        refine turn_yes p9 ?_
        refine ok_is (by simp only [execOp, hcst, hfun, hglb, p18, p9]; rw [Sem.run_bind, run_str W elt_c8.ht (by kernel_rfl) (by kernel_rfl) (n := 4) HD.out (had.later ((Below.refl _ _).drew.trans hX) (Nat.le_refl _))]; rfl) rfl
      refine ⟨fun ρ W ⟨hcst, hglb, hfun⟩ hX hp ho => ?_, ?_⟩ -- 13: slot 20 := Op.binOp BinOp.eql 9 t15 t19 9   [guarded: some (2, true)]
      · obtain ⟨p15, p19, p9, -⟩ := hp
        change ρ (.tmp 15) = _ at p15
        change ρ (.tmp 19) = _ at p19
        change ρ (.tmp 9) = _ at p9
        refine turn_yes p9 (ok_is ?_ rfl)
        simp only [execOp, hcst, hfun, hglb, p15, p19, p9]; go_simp; try exact rfl
      refine ⟨fun ρ W ⟨hcst, hglb, hfun⟩ hX hp ho => ?_, ?_⟩ -- 14: slot 21 := Op.pick t9 t20 (const (Value.bool false))
      · obtain ⟨p9, p20, -⟩ := hp
        change ρ (.tmp 9) = _ at p9
        change ρ (.tmp 20) = _ at p20
        refine turn_plain (ok_is ?_ rfl)
        simp only [execOp, hcst, hfun, hglb, p9, p20]; go_simp; try exact rfl
      refine ⟨fun ρ W ⟨hcst, hglb, hfun⟩ hX hp ho => ?_, ?_⟩ -- 15: slot 2 := Op.assign t21
      · obtain ⟨p21, -⟩ := hp
        change ρ (.tmp 21) = _ at p21
        refine turn_plain (ok_is ?_ rfl)
        simp only [execOp, hcst, hfun, hglb, p21]; go_simp; try exact rfl
      exact trivial
    case fin =>
      rintro v W hX ⟨f0, f1, f2, f3, f4, f5, f6, f7, f8, f9, f10, f11, f12, f13, f14, f15, -⟩
      -- relations: f7
      obtain ⟨A7, f7, -⟩ := f7
      simp only [is] at f0 f1 f2 f3 f4 f5 f6 f8 f9 f10 f11 f12 f13 f14 f15
      simp only [putAll, Act.put, List.setIfInBounds_toArray, List.set_cons_succ, List.set_cons_zero, f0, f1, f2, f3, f4, f5, f6, f7, f8, f9, f10, f11, f12, f13, f14, f15]
      clear f0 f1 f2 f3 f4 f5 f6 f7 f8 f9 f10 f11 f12 f13 f14 f15
      go_wp2
      go_ret
      exact ⟨ret_bool HF.out.symm, hX⟩
  · have h0 : Crc.Fits l = false := Crc.fits_short l (by omega)
    have HF := Lib.hid h0; clear h0
    have hd : decide ((4 : Int) ≤ (n : Int)) = false := by simp; omega
    go_enter Tryd.func57, Tryd.ntmps57
    go_wp2
    refine wp_region_below [is ?d0, is ?d1, is ?d2, is undef, is undef, is undef, is undef, is undef, is undef, is undef, is undef, is undef, is undef, is undef, is ?d14, is ?d15]
      [⟨[], [3], none⟩, ⟨[(7, 0)], [], none⟩, ⟨[(8, 1)], [], none⟩, ⟨[(9, 2)], [0], some (9, true)⟩, ⟨[(9, 2)], [3], some (9, true)⟩, ⟨[(10, 3), (11, 4), (9, 2)], [], some (9, true)⟩, ⟨[(12, 5), (9, 2)], [], some (9, true)⟩, ⟨[(13, 6), (9, 2)], [], some (9, true)⟩, ⟨[(14, 7), (9, 2)], [], some (9, true)⟩, ⟨[(9, 2)], [0], some (9, true)⟩, ⟨[(9, 2)], [3], some (9, true)⟩, ⟨[(16, 9), (17, 10), (9, 2)], [], some (9, true)⟩, ⟨[(18, 11), (9, 2)], [], some (9, true)⟩, ⟨[(15, 8), (19, 12), (9, 2)], [], some (9, true)⟩, ⟨[(9, 2), (20, 13)], [], none⟩, ⟨[(21, 14)], [], none⟩] (by kernel_rfl) (by kernel_rfl) (by kernel_rfl) (by kernel_rfl) (by kernel_rfl) ?mono ?steps ?fin
    case mono => exact ⟨mono_eq _, mono_eq _, mono_eq _, mono_eq _, mono_eq _, mono_eq _, mono_eq _, mono_eq _, mono_eq _, mono_eq _, mono_eq _, mono_eq _, mono_eq _, mono_eq _, mono_eq _, mono_eq _, trivial⟩
    case steps =>
      refine ⟨fun ρ W ⟨hcst, hglb, hfun⟩ hX hp ho => ?_, ?_⟩ -- 0: slot 7 := Op.move t3
      · obtain ⟨o3, -⟩ := ho
        change ρ (.tmp 3) = _ at o3
        refine turn_plain (ok_is ?_ rfl)
        simp only [execOp, hcst, hfun, hglb, o3]; go_simp; try exact rfl
      refine ⟨fun ρ W ⟨hcst, hglb, hfun⟩ hX hp ho => ?_, ?_⟩ -- 1: slot 8 := Op.binOp BinOp.geq 3 t7 (const (0:i64)) 3
      · obtain ⟨p7, -⟩ := hp
        change ρ (.tmp 7) = _ at p7
        refine turn_plain (ok_is ?_ rfl)
        simp only [execOp, hcst, hfun, hglb, p7]; go_simp; try exact rfl
      refine ⟨fun ρ W ⟨hcst, hglb, hfun⟩ hX hp ho => ?_, ?_⟩ -- 2: slot 9 := Op.move t8
      · obtain ⟨p8, -⟩ := hp
        change ρ (.tmp 8) = _ at p8
        refine turn_plain (ok_is ?_ rfl)
        simp only [execOp, hcst, hfun, hglb, p8]; go_simp; try exact rfl
      refine ⟨fun ρ W ⟨hcst, hglb, hfun⟩ hX hp ho => ?_, ?_⟩ -- 3: slot 10 := Op.move t0   [guarded: some (2, true)]
      · obtain ⟨p9, -⟩ := hp
        change ρ (.tmp 9) = _ at p9
        obtain ⟨o0, -⟩ := ho
        change ρ (.tmp 0) = _ at o0
        exact turn_skip p9 (by decide) rfl
      refine ⟨fun ρ W ⟨hcst, hglb, hfun⟩ hX hp ho => ?_, ?_⟩ -- 4: slot 11 := Op.move t3   [guarded: some (2, true)]
      · obtain ⟨p9, -⟩ := hp
        change ρ (.tmp 9) = _ at p9
        obtain ⟨o3, -⟩ := ho
        change ρ (.tmp 3) = _ at o3
        exact turn_skip p9 (by decide) rfl
      refine ⟨fun ρ W ⟨hcst, hglb, hfun⟩ hX hp ho => ?_, ?_⟩ -- 5: slot 12 := Op.slice 22 t10 none (some t11) none   [guarded: some (2, true)]
      · obtain ⟨p10, p11, p9, -⟩ := hp
        change ρ (.tmp 10) = _ at p10
        change ρ (.tmp 11) = _ at p11
        change ρ (.tmp 9) = _ at p9
        exact turn_skip p9 (by decide) rfl
      refine ⟨fun ρ W ⟨hcst, hglb, hfun⟩ hX hp ho => ?_, ?_⟩ -- 6: slot 13 := Op.call { value (Operand.func 8), args := #[const (0:u32), t12], argTypes := #[24, 22] }   [guarded: some (2, 
      · obtain ⟨p12, p9, -⟩ := hp
        change ρ (.tmp 12) = _ at p12
        change ρ (.tmp 9) = _ at p9
        exact turn_skip p9 (by decide) rfl
      refine ⟨fun ρ W ⟨hcst, hglb, hfun⟩ hX hp ho => ?_, ?_⟩ -- 7: slot 14 := Op.call { value (Operand.func 13), args := #[t13], argTypes := #[24] }   [guarded: some (2, true)]
      · obtain ⟨p13, p9, -⟩ := hp
        change ρ (.tmp 13) = _ at p13
        change ρ (.tmp 9) = _ at p9
        exact turn_skip p9 (by decide) rfl
      refine ⟨fun ρ W ⟨hcst, hglb, hfun⟩ hX hp ho => ?_, ?_⟩ -- 8: slot 15 := Op.convert 22 9 t14   [guarded: some (2, true)]
      · obtain ⟨p14, p9, -⟩ := hp
        change ρ (.tmp 14) = _ at p14
        change ρ (.tmp 9) = _ at p9
        exact turn_skip p9 (by decide) rfl
      refine ⟨fun ρ W ⟨hcst, hglb, hfun⟩ hX hp ho => ?_, ?_⟩ -- 9: slot 16 := Op.move t0   [guarded: some (2, true)]
      · obtain ⟨p9, -⟩ := hp
        change ρ (.tmp 9) = _ at p9
        obtain ⟨o0, -⟩ := ho
        change ρ (.tmp 0) = _ at o0
        exact turn_skip p9 (by decide) rfl
      refine ⟨fun ρ W ⟨hcst, hglb, hfun⟩ hX hp ho => ?_, ?_⟩ -- 10: slot 17 := Op.move t3   [guarded: some (2, true)]
      · obtain ⟨p9, -⟩ := hp
        change ρ (.tmp 9) = _ at p9
        obtain ⟨o3, -⟩ := ho
        change ρ (.tmp 3) = _ at o3
        exact turn_skip p9 (by decide) rfl
      refine ⟨fun ρ W ⟨hcst, hglb, hfun⟩ hX hp ho => ?_, ?_⟩ -- 11: slot 18 := Op.slice 22 t16 (some t17) none none   [guarded: some (2, true)]
      · obtain ⟨p16, p17, p9, -⟩ := hp
        change ρ (.tmp 16) = _ at p16
        change ρ (.tmp 17) = _ at p17
        change ρ (.tmp 9) = _ at p9
        exact turn_skip p9 (by decide) rfl
      refine ⟨fun ρ W ⟨hcst, hglb, hfun⟩ hX hp ho => ?_, ?_⟩ -- 12: slot 19 := Op.convert 22 9 t18   [guarded: some (2, true)]
      · obtain ⟨p18, p9, -⟩ := hp
        change ρ (.tmp 18) = _ at p18
        change ρ (.tmp 9) = _ at p9
        exact turn_skip p9 (by decide) rfl
      refine ⟨fun ρ W ⟨hcst, hglb, hfun⟩ hX hp ho => ?_, ?_⟩ -- 13: slot 20 := Op.binOp BinOp.eql 9 t15 t19 9   [guarded: some (2, true)]
      · obtain ⟨p15, p19, p9, -⟩ := hp
        change ρ (.tmp 15) = _ at p15
        change ρ (.tmp 19) = _ at p19
        change ρ (.tmp 9) = _ at p9
        exact turn_skip p9 (by decide) rfl
      refine ⟨fun ρ W ⟨hcst, hglb, hfun⟩ hX hp ho => ?_, ?_⟩ -- 14: slot 21 := Op.pick t9 t20 (const (Value.bool false))
      · obtain ⟨p9, p20, -⟩ := hp
        change ρ (.tmp 9) = _ at p9
        change ρ (.tmp 20) = _ at p20
        refine turn_plain (ok_is ?_ rfl)
        simp only [execOp, hcst, hfun, hglb, p9, p20]; go_simp; try exact rfl
      refine ⟨fun ρ W ⟨hcst, hglb, hfun⟩ hX hp ho => ?_, ?_⟩ -- 15: slot 2 := Op.assign t21
      · obtain ⟨p21, -⟩ := hp
        change ρ (.tmp 21) = _ at p21
        refine turn_plain (ok_is ?_ rfl)
        simp only [execOp, hcst, hfun, hglb, p21]; go_simp; try exact rfl
      exact trivial
    case fin =>
      rintro v W hX ⟨f0, f1, f2, f3, f4, f5, f6, f7, f8, f9, f10, f11, f12, f13, f14, f15, -⟩
      -- relations: 
      simp only [is] at f0 f1 f2 f3 f4 f5 f6 f7 f8 f9 f10 f11 f12 f13 f14 f15
      simp only [putAll, Act.put, List.setIfInBounds_toArray, List.set_cons_succ, List.set_cons_zero, f0, f1, f2, f3, f4, f5, f6, f7, f8, f9, f10, f11, f12, f13, f14, f15]
      clear f0 f1 f2 f3 f4 f5 f6 f7 f8 f9 f10 f11 f12 f13 f14 f15
      go_wp2
      go_ret
      exact ⟨ret_bool HF.out.symm, hX⟩
end Go.Proofs.YtodimanghmepoaaDoor
