/- Layer 11, plain: numbers as few bytes; what comes back. -/
import Derived.Lib.BitFns
import GoSem.Op.String
namespace Go.Proofs.YtodimanghmepoaaDoor
namespace VM
/-- m bytes, the greatest first -/
def be : Nat → Nat → List Nat
  | 0, _ => []
  | m + 1, v => be m (v / 256) ++ [v % 256]
def val (l : List Nat) : Nat := l.foldl (fun a b => 256 * a + b) 0
def vlen (v : Nat) : Nat := if h : v = 0 then 0 else vlen (v / 256) + 1
termination_by v
decreasing_by omega
theorem vlen_zero : vlen 0 = 0 := by unfold vlen; simp
theorem vlen_pos {v : Nat} (h : 0 < v) : vlen v = vlen (v / 256) + 1 := by rw [vlen]; simp; omega
theorem be_length : ∀ m v, (be m v).length = m
  | 0, _ => rfl
  | m + 1, v => by simp [be, be_length m]
theorem val_nil : val [] = 0 := rfl
theorem val_snoc (l : List Nat) (x : Nat) : val (l ++ [x]) = 256 * val l + x := by simp [val]
theorem be_byte : ∀ m v, ∀ x ∈ be m v, x < 256
  | 0, _, x, h => by simp [be] at h
  | m + 1, v, x, h => by
    rcases List.mem_append.1 h with h | h
    · exact be_byte m _ x h
    · simp at h; omega
theorem val_be : ∀ m v, v < 256 ^ m → val (be m v) = v
  | 0, v, h => by simp at h; subst h; rfl
  | m + 1, v, h => by
    rw [be, val_snoc, val_be m (v / 256) (by rw [Nat.pow_succ] at h; omega)]; omega
theorem snoc_cases {α : Type} (l : List α) : l = [] ∨ ∃ l' x, l = l' ++ [x] := by
  rcases List.eq_nil_or_concat l with h | ⟨a, b, h⟩
  · exact .inl h
  · exact .inr ⟨a, b, by simpa using h⟩
theorem be_val (l : List Nat) (h : ∀ x ∈ l, x < 256) : be l.length (val l) = l := by
  generalize hn : l.length = n
  induction n generalizing l with
  | zero => rw [List.eq_nil_of_length_eq_zero hn]; rfl
  | succ n ih =>
    rcases snoc_cases l with rfl | ⟨l', x, rfl⟩
    · simp at hn
    · have hx := h x (by simp)
      rw [val_snoc, be, show (256 * val l' + x) / 256 = val l' by omega, show (256 * val l' + x) % 256 = x by omega, ih l' (fun y hy => h y (by simp [hy])) (by simpa using hn)]
theorem val_lt (l : List Nat) (h : ∀ x ∈ l, x < 256) : val l < 256 ^ l.length := by
  generalize hn : l.length = n
  induction n generalizing l with
  | zero => rw [List.eq_nil_of_length_eq_zero hn]; decide
  | succ n ih =>
    rcases snoc_cases l with rfl | ⟨l', x, rfl⟩
    · simp at hn
    · have hx := h x (by simp)
      have := ih l' (fun y hy => h y (by simp [hy])) (by simpa using hn)
      rw [val_snoc, Nat.pow_succ]; omega
theorem vlen_lt (v : Nat) : v < 256 ^ vlen v := by
  induction v using Nat.strongRecOn with
  | _ v ih =>
    rcases Nat.eq_zero_or_pos v with rfl | h
    · rw [vlen_zero]; decide
    · have := ih (v / 256) (by omega)
      rw [vlen_pos h, Nat.pow_succ]; omega
theorem vlen_ge (v : Nat) (h : 0 < v) : 256 ^ (vlen v - 1) ≤ v := by
  induction v using Nat.strongRecOn with
  | _ v ih =>
    rw [vlen_pos h, Nat.add_sub_cancel]
    rcases Nat.eq_zero_or_pos (v / 256) with h0 | h0
    · rw [h0, vlen_zero]; simp; omega
    · have := ih (v / 256) (by omega) h0
      have e : vlen (v / 256) = vlen (v / 256) - 1 + 1 := by rw [vlen_pos h0]; omega
      rw [e, Nat.pow_succ]; omega
theorem pow_le_of {a b : Nat} (h : a ≤ b) : 256 ^ a ≤ 256 ^ b := Nat.pow_le_pow_right (by decide) h
theorem vlen_one {v k : Nat} (h1 : 256 ^ k ≤ v) (h2 : v < 256 ^ (k + 1)) : vlen v = k + 1 := by
  have h0 : 0 < v := Nat.lt_of_lt_of_le (Nat.pow_pos (by decide)) h1
  have a := vlen_lt v
  have b := vlen_ge v h0
  rcases Nat.lt_trichotomy (vlen v) (k + 1) with h | h | h
  · have := pow_le_of (show vlen v ≤ k by omega); omega
  · exact h
  · have := pow_le_of (show k + 1 ≤ vlen v - 1 by omega); omega
theorem vlen_le {v k : Nat} (h : v < 256 ^ k) : vlen v ≤ k := by
  rcases Nat.eq_zero_or_pos v with rfl | h0
  · rw [vlen_zero]; omega
  · have b := vlen_ge v h0
    rcases Nat.lt_or_ge k (vlen v) with h1 | h1
    · have := pow_le_of (show k ≤ vlen v - 1 by omega); omega
    · exact h1
theorem be_cons : ∀ k v, be (k + 1) v = (v / 256 ^ k % 256) :: be k v
  | 0, v => by simp [be]
  | k + 1, v => by
    rw [be, be_cons k (v / 256)]
    simp only [be, List.cons_append, Nat.pow_succ, Nat.div_div_eq_div_mul]
    rw [Nat.mul_comm 256]
theorem head_ne (v k : Nat) (h1 : 256 ^ k ≤ v) (h2 : v < 256 ^ (k + 1)) : v / 256 ^ k % 256 ≠ 0 := by
  have hp : 0 < 256 ^ k := Nat.pow_pos (by decide)
  have a : 1 ≤ v / 256 ^ k := (Nat.le_div_iff_mul_le hp).2 (by omega)
  have b : v / 256 ^ k < 256 := Nat.div_lt_of_lt_mul (by rw [Nat.pow_succ] at h2; exact h2)
  omega
/-- the bytes of a number -/
def enc (v : Nat) : List Nat := if v < 248 then [v] else (247 + vlen v) :: be (vlen v) v
theorem enc_small {v : Nat} (h : v < 248) : enc v = [v] := by unfold enc; rw [if_pos h]
theorem enc_big {v : Nat} (h : ¬ v < 248) : enc v = (247 + vlen v) :: be (vlen v) v := by unfold enc; rw [if_neg h]
def size (v : Nat) : Nat := if v < 248 then 1 else 1 + vlen v
theorem enc_length (v : Nat) : (enc v).length = size v := by
  unfold enc size; split <;> simp [be_length]; omega
theorem vlen_8 {v : Nat} (h : v < 18446744073709551616) : vlen v ≤ 8 := vlen_le (by simpa using h)
theorem vlen_p {v : Nat} (h : 0 < v) : 1 ≤ vlen v := by rw [vlen_pos h]; omega
theorem size_9 {v : Nat} (h : v < 18446744073709551616) : 1 ≤ size v ∧ size v ≤ 9 := by
  have := vlen_8 h
  unfold size; split <;> omega
theorem enc_byte {v : Nat} (h : v < 18446744073709551616) : ∀ x ∈ enc v, x < 256 := by
  have := vlen_8 h
  intro x hx
  unfold enc at hx
  split at hx
  · simp at hx; omega
  · rcases List.mem_cons.1 hx with h | h
    · omega
    · exact be_byte _ _ x h
theorem vlen_bits (v : Nat) (h : v < 18446744073709551616) : (Lib.bitLen v + 7) / 8 = vlen v := by
  induction v using Nat.strongRecOn with
  | _ v ih =>
    rcases Nat.eq_zero_or_pos v with rfl | h0
    · rw [vlen_zero]; decide
    · rcases Nat.lt_or_ge v 256 with h1 | h1
      · have a : Lib.bitLen v ≤ 8 := Lib.bitLen_le8 ⟨v, h1⟩
        have b := Lib.bitLen_half v (by omega) (by simpa using h)
        rw [vlen_pos h0, show v / 256 = 0 by omega, vlen_zero]; omega
      · have a := Lib.bitLen_shift8 v h1 h
        have b := ih (v / 256) (by omega) (by omega)
        rw [vlen_pos h0, ← b, a]; omega
/-- the number at the beginning -/
def dec : List Nat → Option (Nat × Nat)
  | [] => none
  | x :: r => if x < 248 then some (x, 1) else if r.length < x - 247 then none else if r.getD 0 0 = 0 then none else
    if val (r.take (x - 247)) < 248 then none else some (val (r.take (x - 247)), x - 246)
theorem dec_enc (v : Nat) (h : v < 18446744073709551616) (t : List Nat) : dec (enc v ++ t) = some (v, size v) := by
  by_cases hs : v < 248
  · rw [enc_small hs]; simp [dec, size, hs]
  · have h0 : 0 < v := by omega
    have hp := vlen_p h0
    obtain ⟨k, hk⟩ : ∃ k, vlen v = k + 1 := ⟨vlen v - 1, by omega⟩
    have a := vlen_lt v
    have b := vlen_ge v h0
    rw [enc_big hs]
    have hl : (be (vlen v) v).length = vlen v := be_length _ _
    have h1 : ¬ 247 + vlen v < 248 := by omega
    have h2 : ¬ (be (vlen v) v ++ t).length < 247 + vlen v - 247 := by rw [List.length_append, hl]; omega
    have h3 : (be (vlen v) v ++ t).getD 0 0 ≠ 0 := by
      rw [hk, be_cons]
      simp only [List.cons_append, List.getD_cons_zero]
      rw [hk] at a b
      exact head_ne v k (by simpa using b) a
    have h4 : (be (vlen v) v ++ t).take (247 + vlen v - 247) = be (vlen v) v := by
      rw [show 247 + vlen v - 247 = (be (vlen v) v).length by rw [hl]; omega, List.take_left]
    have h5 : val (be (vlen v) v) = v := val_be _ _ a
    simp only [List.cons_append, dec, if_neg h1, if_neg h2, if_neg h3, h4, h5, if_neg hs]
    simp [size, hs]; omega
theorem dec_cut (v : Nat) (h : v < 18446744073709551616) : dec ((enc v).take (size v - 1)) = none := by
  by_cases hs : v < 248
  · rw [enc_small hs]; simp [size, hs, dec]
  · have hp := vlen_p (v := v) (by omega)
    rw [enc_big hs]
    simp only [size, if_neg hs]
    obtain ⟨k, hk⟩ : ∃ k, vlen v = k + 1 := ⟨vlen v - 1, by omega⟩
    rw [show 1 + vlen v - 1 = k + 1 by omega, List.take_succ_cons]
    have h1 : ¬ 247 + vlen v < 248 := by omega
    have h2 : ((be (vlen v) v).take k).length < 247 + vlen v - 247 := by rw [List.length_take, be_length]; omega
    simp only [dec, if_neg h1, if_pos h2]
theorem dec_le {b : List Nat} {v n : Nat} (h : dec b = some (v, n)) : 1 ≤ n ∧ n ≤ b.length := by
  cases b with
  | nil => cases h
  | cons x r =>
    simp only [dec] at h
    split at h
    · injection h with h; injection h with h1 h2; simp; omega
    · split at h
      · cases h
      · split at h
        · cases h
        · split at h
          · cases h
          · injection h with h; injection h with h1 h2; simp; omega
/-- the document's way: the bytes of the number that it would be -/
theorem ref_iff (x : Nat) (r : List Nat) (hx : ¬ x < 248) (hx2 : x < 256) (hr : ∀ y ∈ r, y < 256) (hl : ¬ r.length < x - 247) :
    enc (val (r.take (x - 247))) = (x :: r).take (x - 246) ↔ (r.getD 0 0 ≠ 0 ∧ ¬ val (r.take (x - 247)) < 248) := by
  obtain ⟨k, hk⟩ : ∃ k, x - 247 = k + 1 := ⟨x - 248, by omega⟩
  rw [show x - 246 = k + 1 + 1 by omega, List.take_succ_cons, hk]
  cases r with
  | nil => simp at hl; omega
  | cons y r =>
    have hb : ∀ z ∈ (y :: r).take (k + 1), z < 256 := fun z hz => hr z (List.mem_of_mem_take hz)
    have hlen : ((y :: r).take (k + 1)).length = k + 1 := by rw [List.length_take]; simp at hl ⊢; omega
    have hlt := val_lt _ hb
    have hbe := be_val _ hb
    rw [hlen] at hlt hbe
    generalize val ((y :: r).take (k + 1)) = v at *
    rw [be_cons, List.take_succ_cons] at hbe
    injection hbe with hy hr'
    simp only [List.getD_cons_zero]
    constructor
    · intro h
      by_cases hs : v < 248
      · rw [enc_small hs] at h
        have := congrArg List.length h
        simp at this
      · refine ⟨?_, hs⟩
        rw [enc_big hs] at h
        injection h with h1 h2
        have hv : vlen v = k + 1 := by omega
        have b := vlen_ge v (by omega)
        rw [hv] at b
        rw [← hy]
        exact head_ne v k (by simpa using b) hlt
    · rintro ⟨h1, h2⟩
      rw [enc_big h2]
      have hg : 256 ^ k ≤ v := by
        rcases Nat.lt_or_ge v (256 ^ k) with h | h
        · rw [Nat.div_eq_of_lt h] at hy; omega
        · exact h
      rw [vlen_one hg hlt, be_cons, hy, hr', List.take_succ_cons, show 247 + (k + 1) = x by omega]
/-! ### order -/
def less : List Nat → List Nat → Bool
  | _, [] => false
  | [], _ :: _ => true
  | a :: x, b :: y => decide (a < b) || (a == b && less x y)
theorem bytesLess_map : ∀ a b : List Nat, (∀ x ∈ a, x < 256) → (∀ x ∈ b, x < 256) → Op.bytesLess (a.map UInt8.ofNat) (b.map UInt8.ofNat) = less a b
  | a, [], _, _ => by cases a <;> rfl
  | [], b :: y, _, _ => rfl
  | a :: x, b :: y, ha, hb => by
    have h1 := ha a (by simp)
    have h2 := hb b (by simp)
    have h3 := bytesLess_map x y (fun z hz => ha z (by simp [hz])) (fun z hz => hb z (by simp [hz]))
    simp only [List.map_cons, Op.bytesLess, less, h3]
    congr 1
    · rw [Bool.eq_iff_iff]; simp [UInt8.lt_iff_toNat_lt]; omega
    · congr 1
      rw [Bool.eq_iff_iff, beq_iff_eq, beq_iff_eq, ← UInt8.toNat_inj]; simp; omega
theorem less_irr : ∀ a, less a a = false
  | [] => rfl
  | a :: x => by simp [less, less_irr x]
theorem less_be : ∀ (m v w : Nat), v < 256 ^ m → w < 256 ^ m → less (be m v) (be m w) = decide (v < w)
  | 0, v, w, hv, hw => by simp at hv hw; subst hv; subst hw; rfl
  | m + 1, v, w, hv, hw => by
    have hp : 0 < 256 ^ m := Nat.pow_pos (by decide)
    have key : ∀ (m v : Nat), be m v = be m (v % 256 ^ m) := by
      intro m
      induction m with
      | zero => intro v; rfl
      | succ m ih =>
        intro v
        have e1 : v % 256 ^ (m + 1) % 256 = v % 256 := Nat.mod_mod_of_dvd _ ⟨256 ^ m, by rw [Nat.pow_succ, Nat.mul_comm]⟩
        have e2 : v % 256 ^ (m + 1) / 256 = v / 256 % 256 ^ m := by
          rw [Nat.pow_succ, Nat.mul_comm (256 ^ m), Nat.mod_mul_right_div_self]
        simp only [be, e1]
        rw [e2, ← ih]
    rw [be_cons, be_cons, less]
    have hv1 : v / 256 ^ m < 256 := Nat.div_lt_of_lt_mul (by rw [Nat.pow_succ] at hv; exact hv)
    have hw1 : w / 256 ^ m < 256 := Nat.div_lt_of_lt_mul (by rw [Nat.pow_succ] at hw; exact hw)
    rw [Nat.mod_eq_of_lt hv1, Nat.mod_eq_of_lt hw1, key m v, key m w, less_be m _ _ (Nat.mod_lt _ hp) (Nat.mod_lt _ hp)]
    have ev := Nat.div_add_mod v (256 ^ m)
    have ew := Nat.div_add_mod w (256 ^ m)
    have lv := Nat.mod_lt v hp
    have lw := Nat.mod_lt w hp
    generalize v / 256 ^ m = a at *
    generalize w / 256 ^ m = b at *
    generalize v % 256 ^ m = c at *
    generalize w % 256 ^ m = d at *
    generalize 256 ^ m = q at *
    rw [Bool.eq_iff_iff]
    simp only [Bool.or_eq_true, Bool.and_eq_true, decide_eq_true_eq, beq_iff_eq]
    subst ev; subst ew
    constructor
    · rintro (h | ⟨rfl, h⟩)
      · have : q * (a + 1) ≤ q * b := Nat.mul_le_mul_left q h
        rw [Nat.mul_add, Nat.mul_one] at this; omega
      · omega
    · intro h
      rcases Nat.lt_trichotomy a b with h1 | h1 | h1
      · exact .inl h1
      · subst h1; exact .inr ⟨rfl, by omega⟩
      · have : q * (b + 1) ≤ q * a := Nat.mul_le_mul_left q h1
        rw [Nat.mul_add, Nat.mul_one] at this; omega
theorem vlen_mono {v w : Nat} (h : v ≤ w) : vlen v ≤ vlen w := vlen_le (Nat.lt_of_le_of_lt h (vlen_lt w))
theorem less_enc (v w : Nat) : less (enc v) (enc w) = decide (v < w) := by
  by_cases hv : v < 248 <;> by_cases hw : w < 248
  · rw [enc_small hv, enc_small hw]; simp [less]
  · have := vlen_p (v := w) (by omega)
    rw [enc_small hv, enc_big hw]
    have h1 : v < 247 + vlen w := by omega
    have h2 : v < w := by omega
    simp [less, h1, h2]
  · have := vlen_p (v := v) (by omega)
    rw [enc_big hv, enc_small hw]
    have h1 : ¬ 247 + vlen v < w := by omega
    have h3 : ¬ 247 + vlen v = w := by omega
    have h2 : ¬ v < w := by omega
    simp [less, h1, h2, h3]
  · rw [enc_big hv, enc_big hw, less]
    rcases Nat.lt_trichotomy (vlen v) (vlen w) with h | h | h
    · have h1 : 247 + vlen v < 247 + vlen w := by omega
      have h2 : v < w := by
        rcases Nat.lt_or_ge v w with h3 | h3
        · exact h3
        · have := vlen_mono h3; omega
      simp [h2, h]
    · have a := vlen_lt v
      have b := vlen_lt w
      rw [h] at a ⊢
      simp [less_be _ v w a b]
    · have h2 : ¬ v < w := by
        intro h3
        have := vlen_mono (Nat.le_of_lt h3); omega
      have h4 : ¬ vlen v < vlen w := by omega
      have h5 : ¬ vlen v = vlen w := by omega
      simp [h2, h4, h5]
/-- no number's bytes are the beginning of another's -/
theorem prefix_no {v w : Nat} (hv : v < 18446744073709551616) (hw : w < 18446744073709551616) (h : enc v = (enc w).take (size v)) (hl : size v < size w) : False := by
  have a := dec_enc v hv ((enc w).drop (size v))
  rw [h, List.take_append_drop] at a
  have b := dec_enc w hw []
  rw [List.append_nil, a] at b
  injection b with b; injection b with b1 b2; omega
end VM
end Go.Proofs.YtodimanghmepoaaDoor
