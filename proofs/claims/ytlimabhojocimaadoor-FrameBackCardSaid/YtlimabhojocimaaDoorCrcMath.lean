/- Plain law for the sums of 32 bits: the register's step is linear and one to one, so that bits turned within 32 in a row are seen. No program in sight. -/
namespace Go.Proofs.YtlimabhojocimaaDoor.Crc

def P : BitVec 32 := 0x04c11db7#32
/-- one step of the register -/
def st (v : BitVec 32) : BitVec 32 := if v.msb then (v <<< 1) ^^^ P else v <<< 1
def sts : Nat → BitVec 32 → BitVec 32
  | 0, v => v
  | n + 1, v => st (sts n v)
/-- a byte taken in -/
def by8 (v : BitVec 32) (x : Nat) : BitVec 32 := sts 8 (v ^^^ (BitVec.ofNat 32 x <<< 24))
def reg (v : BitVec 32) (l : List Nat) : BitVec 32 := l.foldl by8 v
/-- a bit taken in -/
def bit (v : BitVec 32) (b : Bool) : BitVec 32 := if v.msb != b then (v <<< 1) ^^^ P else v <<< 1
def ones : BitVec 32 := BitVec.allOnes 32
def top : BitVec 32 := 0x80000000#32
def More (s : BitVec 32) (l : List Nat) : BitVec 32 := ~~~ reg (~~~ s) l
/-- the sum of bytes -/
def sum (l : List Nat) : BitVec 32 := More 0#32 l

theorem st_xor (a b : BitVec 32) : st (a ^^^ b) = st a ^^^ st b := by
  unfold st
  rw [BitVec.msb_xor, BitVec.shiftLeft_xor_distrib]
  cases a.msb <;> cases b.msb <;> simp
  · ac_rfl
  · ac_rfl
  · rw [show (a <<< 1 ^^^ P ^^^ (b <<< 1 ^^^ P)) = (a <<< 1 ^^^ b <<< 1) ^^^ (P ^^^ P) from by ac_rfl, BitVec.xor_self, BitVec.xor_zero]
theorem sts_xor (n : Nat) (a b : BitVec 32) : sts n (a ^^^ b) = sts n a ^^^ sts n b := by
  induction n with
  | zero => rfl
  | succ n ih => simp only [sts, ih, st_xor]
theorem sts_add (m n : Nat) (v : BitVec 32) : sts (m + n) v = sts m (sts n v) := by
  induction m with
  | zero => simp [sts]
  | succ m ih => rw [Nat.succ_add]; simp only [sts, ih]
theorem sts_zero (n : Nat) : sts n 0#32 = 0#32 := by
  induction n with
  | zero => rfl
  | succ n ih => simp only [sts, ih]; decide
theorem st_inj0 (v : BitVec 32) (h : st v = 0#32) : v = 0#32 := by
  unfold st at h
  split at h
  · have h0 := congrArg (fun x : BitVec 32 => x.getLsbD 0) h
    simp [P] at h0
  · rename_i hm
    have hm' : v.toNat < 2147483648 := by
      rw [BitVec.msb_eq_decide] at hm; simpa using hm
    have h1 := congrArg BitVec.toNat h
    rw [BitVec.toNat_shiftLeft, Nat.shiftLeft_eq] at h1
    apply BitVec.eq_of_toNat_eq
    simp at h1 ⊢; omega
theorem sts_inj0 (n : Nat) (v : BitVec 32) (h : sts n v = 0#32) : v = 0#32 := by
  induction n with
  | zero => exact h
  | succ n ih => exact ih (st_inj0 _ h)
theorem sts_inj (n : Nat) (a b : BitVec 32) (h : sts n a = sts n b) : a = b := by
  have : sts n (a ^^^ b) = 0#32 := by rw [sts_xor, h, BitVec.xor_self]
  have := sts_inj0 n _ this
  have h2 : a ^^^ b ^^^ b = 0#32 ^^^ b := by rw [this]
  rwa [BitVec.xor_assoc, BitVec.xor_self, BitVec.xor_zero, BitVec.zero_xor] at h2
theorem st_small (v : BitVec 32) (h : v.toNat < 2147483648) : st v = v <<< 1 := by
  unfold st
  rw [if_neg]
  rw [BitVec.msb_eq_decide]; simp; omega
theorem sts_small (n : Nat) : ∀ (v : BitVec 32), v.toNat * 2 ^ n < 4294967296 → sts n v = v <<< n := by
  induction n with
  | zero => intro v _; simp [sts]
  | succ n ih =>
    intro v h
    have hp : 0 < 2 ^ n := Nat.pos_of_ne_zero (by simp)
    rw [Nat.pow_succ] at h
    have h1 : v.toNat * 2 ^ n < 2147483648 := by
      have e : v.toNat * (2 ^ n * 2) = (v.toNat * 2 ^ n) * 2 := by rw [Nat.mul_assoc]
      omega
    simp only [sts]
    rw [ih v (by omega), st_small, ← BitVec.shiftLeft_add]
    rw [BitVec.toNat_shiftLeft, Nat.shiftLeft_eq, Nat.mod_eq_of_lt (by omega)]; exact h1

attribute [local irreducible] sts
theorem by8_xor (a b : BitVec 32) (x : Nat) : by8 (a ^^^ b) x = by8 a x ^^^ sts 8 b := by
  unfold by8
  rw [← sts_xor]; generalize BitVec.ofNat 32 x <<< 24 = y; rw [BitVec.xor_assoc, BitVec.xor_assoc, BitVec.xor_comm b y]
theorem reg_cons (v : BitVec 32) (x : Nat) (l : List Nat) : reg v (x :: l) = reg (by8 v x) l := by unfold reg; rw [List.foldl_cons]
theorem reg_xor (l : List Nat) : ∀ (a b : BitVec 32), reg (a ^^^ b) l = reg a l ^^^ sts (8 * l.length) b := by
  induction l with
  | nil => intro a b; simp [reg, sts]
  | cons x l ih =>
    intro a b
    rw [reg_cons, reg_cons, by8_xor, ih, ← sts_add, List.length_cons, Nat.mul_add]
theorem reg_append (v : BitVec 32) (a b : List Nat) : reg v (a ++ b) = reg (reg v a) b := List.foldl_append ..
/-- in whatever pieces: the same sum -/
theorem More_append (s : BitVec 32) (a b : List Nat) : More (More s a) b = More s (a ++ b) := by
  unfold More; rw [BitVec.not_not, reg_append]

/-! bit by bit -/
theorem bit_eq (v : BitVec 32) (b : Bool) : bit v b = st (v ^^^ (if b then top else 0#32)) := by
  unfold bit st
  rw [BitVec.msb_xor, BitVec.shiftLeft_xor_distrib]
  have ht : top.msb = true := by decide
  have hs : top <<< 1 = 0#32 := by decide
  cases b <;> cases v.msb <;> simp [ht, hs]
theorem bit_xor (a b : BitVec 32) (x : Bool) : bit (a ^^^ b) x = bit a x ^^^ st b := by
  rw [bit_eq, bit_eq, ← st_xor]; congr 1; ac_rfl
/-- the bits of a byte, the upper ones first, from bit k - 1 on -/
def bits : Nat → BitVec 32 → Nat → BitVec 32
  | 0, v, _ => v
  | k + 1, v, x => bits k (bit v (x / 2 ^ k % 2 == 1)) x
theorem bits_xor (k x : Nat) : ∀ (a b : BitVec 32), bits k (a ^^^ b) x = bits k a x ^^^ sts k b := by
  induction k with
  | zero => intro a b; simp only [bits, sts]
  | succ k ih => intro a b; simp only [bits]; rw [bit_xor, ih, sts_add k 1]; simp only [sts]
theorem bits_zero : ∀ x : Fin 256, bits 8 0#32 x.val = sts 8 (BitVec.ofNat 32 x.val <<< 24) := by decide +kernel
theorem bits8 (v : BitVec 32) (x : Nat) (h : x < 256) : bits 8 v x = by8 v x := by
  have h1 := bits_xor 8 x 0#32 v
  rw [BitVec.zero_xor, bits_zero ⟨x, h⟩] at h1
  rw [h1, by8, sts_xor, BitVec.xor_comm]

/-! the sum behind the bytes -/
def be (a b c d : Nat) : BitVec 32 := (((BitVec.ofNat 32 a <<< 8 ||| BitVec.ofNat 32 b) <<< 8 ||| BitVec.ofNat 32 c) <<< 8) ||| BitVec.ofNat 32 d
/-- bytes as one number, the upper ones first -/
def pre (l : List Nat) : BitVec 32 := l.foldl (fun a x => a <<< 8 ||| BitVec.ofNat 32 x) 0#32
theorem pre4 (a b c d : Nat) : pre [a, b, c, d] = be a b c d := by simp [pre, be]
theorem pre_snoc (l : List Nat) (x : Nat) : pre (l ++ [x]) = pre l <<< 8 ||| BitVec.ofNat 32 x := by simp [pre]
theorem step8 (x : BitVec 32) (y : Nat) (hx : x.toNat < 16777216) (hy : y < 256) : (x <<< 8 ||| BitVec.ofNat 32 y).toNat = x.toNat * 256 + y := by
  rw [BitVec.toNat_or, BitVec.toNat_shiftLeft, BitVec.toNat_ofNat, Nat.mod_eq_of_lt (show y < 2 ^ 32 by omega), Nat.mod_eq_of_lt (by rw [Nat.shiftLeft_eq]; omega),
    ← Nat.shiftLeft_add_eq_or_of_lt (show y < 2 ^ 8 by omega), Nat.shiftLeft_eq]
theorem be_toNat (a b c d : Nat) (ha : a < 256) (hb : b < 256) (hc : c < 256) (hd : d < 256) : (be a b c d).toNat = ((a * 256 + b) * 256 + c) * 256 + d := by
  have e0 : (BitVec.ofNat 32 a).toNat = a := by simp; omega
  unfold be
  rw [step8 _ _ (by rw [step8 _ _ (by rw [step8 _ _ (by omega) hb]; omega) hc, step8 _ _ (by omega) hb]; omega) hd, step8 _ _ (by rw [step8 _ _ (by omega) hb]; omega) hc, step8 _ _ (by omega) hb, e0]
def magic : BitVec 32 := sts 32 ones
theorem be_xor (a b c d : Nat) (hb : b < 256) (hc : c < 256) (hd : d < 256) :
    be a b c d = BitVec.ofNat 32 a <<< 24 ^^^ BitVec.ofNat 32 b <<< 16 ^^^ BitVec.ofNat 32 c <<< 8 ^^^ BitVec.ofNat 32 d := by
  have key : ∀ (x y : BitVec 32), y.toNat < 256 → x <<< 8 ||| y = x <<< 8 ^^^ y := by
    intro x y hy
    apply BitVec.eq_of_getLsbD_eq
    intro i hi
    by_cases h8 : i < 8
    · simp [h8]
    · have : y.getLsbD i = false := by
        rw [BitVec.getLsbD]
        apply Nat.testBit_lt_two_pow
        have : 2 ^ 8 ≤ 2 ^ i := Nat.pow_le_pow_right (by omega) (by omega)
        omega
      simp [this]
  unfold be
  rw [key _ _ (by simp; omega), key _ _ (by simp; omega), key _ _ (by simp; omega)]
  simp only [BitVec.shiftLeft_xor_distrib, ← BitVec.shiftLeft_add]
theorem reg4 (r : BitVec 32) (a b c d : Nat) (hb : b < 256) (hc : c < 256) (hd : d < 256) :
    reg r [a, b, c, d] = sts 32 (r ^^^ be a b c d) := by
  have e : ∀ (x k : Nat), x < 256 → k ≤ 24 → sts k (BitVec.ofNat 32 x <<< (24 - k)) = BitVec.ofNat 32 x <<< 24 := by
    intro x k hx hk
    rw [sts_small]
    · rw [← BitVec.shiftLeft_add]; congr 1; omega
    · rw [BitVec.toNat_shiftLeft, Nat.shiftLeft_eq]
      have h1 : (BitVec.ofNat 32 x).toNat = x := by simp; omega
      rw [h1]
      have h2 : 2 ^ (24 - k) * 2 ^ k = 2 ^ 24 := by rw [← Nat.pow_add]; congr 1; omega
      have h3 : x * 2 ^ (24 - k) % 2 ^ 32 ≤ x * 2 ^ (24 - k) := Nat.mod_le _ _
      calc x * 2 ^ (24 - k) % 2 ^ 32 * 2 ^ k ≤ x * 2 ^ (24 - k) * 2 ^ k := Nat.mul_le_mul_right _ h3
        _ = x * 2 ^ 24 := by rw [Nat.mul_assoc, h2]
        _ < 4294967296 := by omega
  show by8 (by8 (by8 (by8 r a) b) c) d = _
  rw [be_xor a b c d hb hc hd]
  have hb' := e b 8 hb (by omega)
  have hc' := e c 16 hc (by omega)
  have hd' := e d 24 hd (by omega)
  simp only [Nat.reduceSub] at hb' hc' hd'
  rw [BitVec.shiftLeft_zero] at hd'
  have b2 : sts 32 (BitVec.ofNat 32 b <<< 16) = sts 24 (BitVec.ofNat 32 b <<< 24) := by rw [← hb', ← sts_add]
  have c2 : sts 32 (BitVec.ofNat 32 c <<< 8) = sts 16 (BitVec.ofNat 32 c <<< 24) := by rw [← hc', ← sts_add]
  have d2 : sts 32 (BitVec.ofNat 32 d) = sts 8 (BitVec.ofNat 32 d <<< 24) := by rw [← hd', ← sts_add]
  unfold by8
  simp only [sts_xor, ← sts_add, Nat.reduceAdd, b2, c2, d2]
  ac_rfl

/-- whether bytes end with the sum of those ahead -/
def Fits (l : List Nat) : Bool := decide (4 ≤ l.length) && (be (l.getD (l.length - 4) 0) (l.getD (l.length - 3) 0) (l.getD (l.length - 2) 0) (l.getD (l.length - 1) 0) == sum (l.take (l.length - 4)))
theorem last4 (l : List Nat) (h : 4 ≤ l.length) : l = l.take (l.length - 4) ++ [l.getD (l.length - 4) 0, l.getD (l.length - 3) 0, l.getD (l.length - 2) 0, l.getD (l.length - 1) 0] := by
  apply List.ext_getElem
  · simp; omega
  · intro i h1 h2
    by_cases hi : i < l.length - 4
    · rw [List.getElem_append_left (by simp; omega)]; simp
    · rw [List.getElem_append_right (by simp; omega)]
      have : (l.take (l.length - 4)).length = l.length - 4 := by simp
      have hcase : i - (l.take (l.length - 4)).length = 0 ∧ i = l.length - 4 ∨ i - (l.take (l.length - 4)).length = 1 ∧ i = l.length - 3 ∨ i - (l.take (l.length - 4)).length = 2 ∧ i = l.length - 2 ∨ i - (l.take (l.length - 4)).length = 3 ∧ i = l.length - 1 := by omega
      rcases hcase with ⟨e, e'⟩ | ⟨e, e'⟩ | ⟨e, e'⟩ | ⟨e, e'⟩ <;> (simp only [e]; subst e'; simp [List.getD_eq_getElem?_getD, List.getElem?_eq_getElem h1])
/-- the same, by what the bytes behind are as one number -/
theorem fits_pre (m : Nat) (l : List Nat) (h : l.length = m + 4) : Fits l = (pre (l.drop m) == sum (l.take m)) := by
  have e : l.drop m = [l.getD (l.length - 4) 0, l.getD (l.length - 3) 0, l.getD (l.length - 2) 0, l.getD (l.length - 1) 0] := by
    conv => lhs; rw [last4 l (by omega)]
    exact List.drop_left' (by simp; omega)
  unfold Fits
  rw [e, pre4]
  have : l.length - 4 = m := by omega
  rw [this]; simp [h]
theorem fits_short (l : List Nat) (h : l.length < 4) : Fits l = false := by unfold Fits; simp; omega
theorem step_bit_t (u : BitVec 32) (b : Bool) (h : (u.msb != b) = true) : bit u b = u <<< 1 ^^^ P := by unfold bit; rw [if_pos h]
theorem step_bit_f (u : BitVec 32) (b : Bool) (h : (u.msb != b) = false) : bit u b = u <<< 1 := by unfold bit; rw [if_neg (by rw [h]; decide)]
def Bytes (l : List Nat) : Prop := ∀ i, l.getD i 0 < 256
theorem fits_iff (l : List Nat) (h : 4 ≤ l.length) (hb : Bytes l) : Fits l = true ↔ reg ones l = magic := by
  have e := last4 l h
  have h4 : reg ones l = sts 32 (reg ones (l.take (l.length - 4)) ^^^ be (l.getD (l.length - 4) 0) (l.getD (l.length - 3) 0) (l.getD (l.length - 2) 0) (l.getD (l.length - 1) 0)) := by
    conv => lhs; rw [e]
    rw [reg_append, reg4 _ _ _ _ _ (hb _) (hb _) (hb _)]
  rw [h4]
  unfold Fits magic sum More
  rw [show (~~~ (0#32)) = ones from by decide]
  generalize reg ones (l.take (l.length - 4)) = r
  generalize be _ _ _ _ = q
  simp only [h, decide_true, Bool.true_and, beq_iff_eq]
  constructor
  · rintro rfl
    congr 1
    unfold ones
    apply BitVec.eq_of_getLsbD_eq; intro i hi; rw [BitVec.getLsbD_xor, BitVec.getLsbD_not, BitVec.getLsbD_allOnes]; cases r.getLsbD i <;> simp [hi]
  · intro hh
    have := sts_inj 32 _ _ hh
    have h2 : r ^^^ (r ^^^ q) = r ^^^ ones := by rw [this]
    rw [← BitVec.xor_assoc, BitVec.xor_self, BitVec.zero_xor] at h2
    rw [h2]
    apply BitVec.eq_of_getLsbD_eq; intro i hi; unfold ones; rw [BitVec.getLsbD_xor, BitVec.getLsbD_not, BitVec.getLsbD_allOnes]; cases r.getLsbD i <;> simp [hi]
/-- bytes with their sum behind fit -/
theorem fits_sum (l : List Nat) (a b c d : Nat) (h : be a b c d = sum l) : Fits (l ++ [a, b, c, d]) = true := by
  unfold Fits
  have hl : (l ++ [a, b, c, d]).length = l.length + 4 := by simp
  rw [hl]
  have g : ∀ k, k < 4 → (l ++ [a, b, c, d]).getD (l.length + k) 0 = [a, b, c, d].getD k 0 := by
    intro k _
    simp [List.getD_eq_getElem?_getD, List.getElem?_append_right]
  have g0 := g 0 (by omega); have g1 := g 1 (by omega); have g2 := g 2 (by omega); have g3 := g 3 (by omega)
  simp only [show l.length + 4 - 4 = l.length + 0 from rfl, show l.length + 4 - 3 = l.length + 1 from rfl, show l.length + 4 - 2 = l.length + 2 from rfl, show l.length + 4 - 1 = l.length + 3 from rfl, g0, g1, g2, g3]
  simp [h]

/-! bits turned -/
theorem turn_bits : ∀ r : Fin 8, sts 8 (BitVec.ofNat 32 (128 / 2 ^ r.val) <<< 24) = sts (8 - r.val) top := by decide +kernel
theorem ofNat_xor (x y : Nat) : BitVec.ofNat 32 (x ^^^ y) = BitVec.ofNat 32 x ^^^ BitVec.ofNat 32 y := by
  apply BitVec.eq_of_getLsbD_eq
  intro i hi
  rw [BitVec.getLsbD_xor, BitVec.getLsbD_ofNat, BitVec.getLsbD_ofNat, BitVec.getLsbD_ofNat, Nat.testBit_xor]; simp [hi]
/-- one bit of bytes turned -/
theorem reg_turn (l : List Nat) : ∀ (v : BitVec 32) (q r : Nat), q < l.length → r < 8 →
    reg v (l.set q (l.getD q 0 ^^^ 128 / 2 ^ r)) = reg v l ^^^ sts (8 * l.length - (8 * q + r)) top := by
  induction l with
  | nil => intro v q r h; simp at h
  | cons x l ih =>
    intro v q r h hr
    cases q with
    | zero =>
      simp only [List.set_cons_zero, List.getD_cons_zero, reg_cons, List.length_cons]
      have : by8 v (x ^^^ 128 / 2 ^ r) = by8 v x ^^^ sts (8 - r) top := by
        unfold by8
        rw [ofNat_xor, BitVec.shiftLeft_xor_distrib, ← turn_bits ⟨r, hr⟩, ← sts_xor]
        rw [BitVec.xor_assoc]
      rw [this, reg_xor, ← sts_add]
      exact congrArg (fun k => _ ^^^ sts k top) (by omega)
    | succ q =>
      have h' : q < l.length := by simpa using h
      have e2 : (x :: l).set (q + 1) ((x :: l).getD (q + 1) 0 ^^^ 128 / 2 ^ r) = x :: l.set q (l.getD q 0 ^^^ 128 / 2 ^ r) := by simp
      rw [e2, reg_cons, reg_cons, ih _ q r h' hr, List.length_cons]
      exact congrArg (fun k => _ ^^^ sts k top) (by omega)
/-- what bits turned, one behind the other, make of the register -/
def E (b : Nat → Bool) : Nat → BitVec 32
  | 0 => 0#32
  | i + 1 => st (E b i ^^^ (if b i then top else 0#32))
theorem E_step (b : Nat → Bool) (i n : Nat) (h : i < n) : sts (n - i) (E b i) ^^^ (if b i then sts (n - i) top else 0#32) = sts (n - (i + 1)) (E b (i + 1)) := by
  have e : n - i = (n - (i + 1)) + 1 := by omega
  rw [e, sts_add, sts_add]
  have e1 : ∀ v, sts 1 v = st v := fun v => by simp only [sts]
  simp only [E, e1, st_xor, sts_xor]
  congr 1
  cases b i
  · simp only [Bool.false_eq_true, if_false]
    rw [show st 0#32 = 0#32 from by decide, sts_zero]
  · simp
def X (b : Nat → Bool) : Nat → BitVec 32
  | 0 => 0#32
  | i + 1 => X b i ^^^ (if b i then BitVec.ofNat 32 (2 ^ (31 - i)) else 0#32)
theorem top_of : ∀ i : Fin 32, sts i.val (BitVec.ofNat 32 (2 ^ (31 - i.val))) = top := by decide +kernel
theorem E_eq (b : Nat → Bool) (i : Nat) (h : i ≤ 32) : E b i = sts i (X b i) := by
  induction i with
  | zero => simp only [E, X, sts]
  | succ i ih =>
    simp only [E, X, sts]
    rw [ih (by omega), sts_xor, st_xor, st_xor]
    congr 1
    cases b i
    · simp [sts_zero]
    · simp only [if_true]; rw [top_of ⟨i, by omega⟩]
theorem X_bit (b : Nat → Bool) (i : Nat) : ∀ j, j < 32 → i ≤ 32 → (X b i).getLsbD (31 - j) = (decide (j < i) && b j) := by
  induction i with
  | zero => intro j _ _; simp [X]
  | succ i ih =>
    intro j hj hi
    simp only [X]
    rw [BitVec.getLsbD_xor, ih j hj (by omega)]
    by_cases hji : j = i
    · subst hji
      cases hb : b j
      · simp
      · simp [BitVec.getLsbD_ofNat, Nat.testBit_two_pow_self]; omega
    · have h1 : decide (j < i + 1) = decide (j < i) := by simp; omega
      rw [h1]
      have h2 : (if b i = true then BitVec.ofNat 32 (2 ^ (31 - i)) else 0#32).getLsbD (31 - j) = false := by
        cases b i
        · simp
        · simp only [if_true, BitVec.getLsbD_ofNat, Nat.testBit_two_pow]
          simp; omega
      rw [h2, Bool.xor_false]
theorem E_zero_iff (b : Nat → Bool) (i : Nat) (h : i ≤ 32) : E b i = 0#32 ↔ ∀ j, j < i → b j = false := by
  rw [E_eq b i h]
  constructor
  · intro hh j hj
    have := sts_inj0 _ _ hh
    have hx := X_bit b i j (by omega) h
    rw [this] at hx
    simpa [hj] using hx.symm
  · intro hb
    have : ∀ k, k ≤ i → X b k = 0#32 := by
      intro k
      induction k with
      | zero => intro _; rfl
      | succ k ih => intro hk; simp only [X]; rw [ih (by omega), hb k (by omega)]; simp
    rw [this i (Nat.le_refl _), sts_zero]
end Go.Proofs.YtlimabhojocimaaDoor.Crc
