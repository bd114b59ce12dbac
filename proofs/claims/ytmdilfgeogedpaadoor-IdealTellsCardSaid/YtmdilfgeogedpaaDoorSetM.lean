/- Layer 15: plain mathematics of sets as bits. -/
namespace Go.Proofs.YtmdilfgeogedpaaDoor.SetM

/-- whether a number can be in a set -/
def can (x : Int) : Bool := decide (0 ≤ x) && decide (x < 64)
def put (acc : Nat) (x : Int) : Nat := if can x then acc ||| 2 ^ x.toNat else acc
def bitsOf (l : List Int) : Nat := l.foldl put 0
def elemsTo (v n : Nat) : List Int := ((List.range n).filter fun i => v.testBit i).map fun (i : Nat) => (i : Int)
def elems (v : Nat) : List Int := elemsTo v 64
theorem can_iff (x : Int) : can x = true ↔ 0 ≤ x ∧ x < 64 := by simp [can]
theorem put_testBit (acc : Nat) (x : Int) (n : Nat) : (put acc x).testBit n = (acc.testBit n || (can x && decide (x = n))) := by
  unfold put
  by_cases h : can x = true
  · rw [if_pos h, Nat.testBit_or, Nat.testBit_two_pow, h]
    congr 1
    rw [Bool.true_and]
    have h2 := (can_iff x).1 h
    congr 1
    apply propext
    omega
  · rw [if_neg h]; simp at h; simp [h]
theorem foldl_put_testBit (l : List Int) : ∀ (acc n : Nat), (l.foldl put acc).testBit n = (acc.testBit n || l.any fun x => can x && decide (x = n)) := by
  induction l with
  | nil => intro acc n; simp
  | cons x l ih => intro acc n; rw [List.foldl_cons, ih, put_testBit, List.any_cons, Bool.or_assoc]
theorem bitsOf_testBit (l : List Int) (n : Nat) : (bitsOf l).testBit n = (decide (n < 64) && decide ((n : Int) ∈ l)) := by
  unfold bitsOf
  rw [foldl_put_testBit, Nat.zero_testBit, Bool.false_or, Bool.eq_iff_iff]
  simp only [List.any_eq_true, Bool.and_eq_true, decide_eq_true_eq, can_iff]
  constructor
  · rintro ⟨x, hx, ⟨h1, h2⟩, rfl⟩; exact ⟨by omega, hx⟩
  · rintro ⟨h1, h2⟩; exact ⟨_, h2, by omega, rfl⟩
theorem bitsOf_lt (l : List Int) : bitsOf l < 2 ^ 64 := by
  apply Nat.lt_pow_two_of_testBit
  intro i hi
  rw [bitsOf_testBit]
  simp; omega
theorem put_lt {acc : Nat} (h : acc < 2 ^ 64) (x : Int) : put acc x < 2 ^ 64 := by
  unfold put
  split
  · rename_i hc
    have := (can_iff x).1 hc
    exact Nat.or_lt_two_pow h (Nat.pow_lt_pow_right (by decide) (by omega))
  · exact h
theorem bitsOf_snoc (l : List Int) (x : Int) : bitsOf (l ++ [x]) = put (bitsOf l) x := by unfold bitsOf; rw [List.foldl_append]; rfl
theorem mem_elemsTo (v n : Nat) (x : Int) : x ∈ elemsTo v n ↔ ∃ i : Nat, x = i ∧ i < n ∧ v.testBit i = true := by
  unfold elemsTo
  simp only [List.mem_map, List.mem_filter, List.mem_range]
  constructor
  · rintro ⟨i, ⟨h1, h2⟩, rfl⟩; exact ⟨i, rfl, h1, h2⟩
  · rintro ⟨i, rfl, h1, h2⟩; exact ⟨i, ⟨h1, h2⟩, rfl⟩
theorem bitsOf_elems {v : Nat} (h : v < 2 ^ 64) : bitsOf (elems v) = v := by
  apply Nat.eq_of_testBit_eq
  intro i
  rw [bitsOf_testBit, Bool.eq_iff_iff]
  simp only [Bool.and_eq_true, decide_eq_true_eq]
  unfold elems
  rw [mem_elemsTo]
  constructor
  · rintro ⟨h1, j, e, h2, h3⟩
    obtain rfl : i = j := by omega
    exact h3
  · intro hv
    have hi : i < 64 := by
      rcases Nat.lt_or_ge i 64 with h1 | h1
      · exact h1
      · rw [Nat.testBit_lt_two_pow (Nat.lt_of_lt_of_le h (Nat.pow_le_pow_right (by decide) h1))] at hv; cases hv
    exact ⟨hi, i, rfl, hi, hv⟩
theorem elemsTo_succ (v n : Nat) : elemsTo v (n + 1) = elemsTo v n ++ (if v.testBit n then [(n : Int)] else []) := by
  unfold elemsTo
  rw [List.range_succ, List.filter_append, List.map_append]
  congr 1
  by_cases h : v.testBit n = true
  · simp [h]
  · simp at h; simp [h]
theorem elemsTo_length (v n : Nat) : (elemsTo v n).length ≤ n := by
  unfold elemsTo
  rw [List.length_map]
  exact Nat.le_trans (List.length_filter_le _ _) (by simp)
theorem elems_inj {v w : Nat} (hv : v < 2 ^ 64) (hw : w < 2 ^ 64) : elems v = elems w ↔ v = w := by
  constructor
  · intro h; rw [← bitsOf_elems hv, h, bitsOf_elems hw]
  · rintro rfl; rfl
/-- as a test of one bit -/
theorem bit_of (v n : Nat) : (v / 2 ^ n % 2 == 1) = v.testBit n := by
  rw [Nat.testBit_eq_decide_div_mod_eq]
  rw [Bool.eq_iff_iff]; simp
/-- the bits from n on, one after the other -/
theorem half (v n : Nat) : v / 2 ^ n = 2 * (v / 2 ^ (n + 1)) + (if v.testBit n then 1 else 0) := by
  rw [Nat.testBit_eq_decide_div_mod_eq, Nat.pow_succ, ← Nat.div_div_eq_div_mul]
  generalize v / 2 ^ n = x
  by_cases h : x % 2 = 1
  · simp [h]; omega
  · simp [h]; omega
/-- what is in the first one alone -/
def lessB (v w : Nat) : Nat := v &&& (18446744073709551615 - w)
theorem lessB_testBit {v w : Nat} (hw : w < 2 ^ 64) (hv : v < 2 ^ 64) (i : Nat) : (lessB v w).testBit i = (v.testBit i && !w.testBit i) := by
  unfold lessB
  have e : (18446744073709551615 : Nat) - w = 2 ^ 64 - (w + 1) := by
    have : (2 : Nat) ^ 64 = 18446744073709551616 := by decide
    omega
  rw [Nat.testBit_and, e, Nat.testBit_two_pow_sub_succ hw]
  by_cases hi : i < 64
  · simp [hi]
  · have : v.testBit i = false := Nat.testBit_lt_two_pow (Nat.lt_of_lt_of_le hv (Nat.pow_le_pow_right (by decide) (by omega)))
    simp [this]
theorem lessB_lt {v w : Nat} (hv : v < 2 ^ 64) : lessB v w < 2 ^ 64 := Nat.lt_of_le_of_lt Nat.and_le_left hv
theorem or_lt {v w : Nat} (hv : v < 2 ^ 64) (hw : w < 2 ^ 64) : v ||| w < 2 ^ 64 := Nat.or_lt_two_pow hv hw
theorem and_lt {v w : Nat} (hv : v < 2 ^ 64) : v &&& w < 2 ^ 64 := Nat.lt_of_le_of_lt Nat.and_le_left hv
/-- whether a number is in -/
def has (l : List Int) (x : Int) : Bool := can x && (bitsOf l).testBit x.toNat
theorem has_iff (l : List Int) (x : Int) : has l x = (decide (x ∈ l) && can x) := by
  unfold has
  by_cases h : can x = true
  · have h1 := (can_iff x).1 h
    rw [h, bitsOf_testBit, Bool.true_and, Bool.and_true]
    have h2 : x.toNat < 64 := by omega
    have h3 : ((x.toNat : Nat) : Int) = x := by omega
    rw [h3]; simp [h2]
  · simp at h; simp [h]
theorem has_nat (l : List Int) (n : Nat) (h : n < 64) : has l n = (bitsOf l).testBit n := by
  unfold has
  have : can (n : Int) = true := (can_iff _).2 (by omega)
  rw [this]; simp
/-- ascending, each once, from 0 to 63 -/
def mayFrom (last : Int) : List Int → Bool
  | [] => true
  | x :: t => (decide (last < x) && can x) && mayFrom x t
def may (l : List Int) : Bool := mayFrom (-1) l
/-- each once, from 0 to 63 -/
def okFrom (seen : Nat) : List Int → Bool
  | [] => true
  | x :: t => (can x && !seen.testBit x.toNat) && okFrom (put seen x) t
def ok (l : List Int) : Bool := okFrom 0 l
theorem drop_consI {l : List Int} {k : Nat} (h : k < l.length) : l.drop k = l.getD k 0 :: l.drop (k + 1) := by
  rw [List.drop_eq_getElem_cons h]; simp [List.getD_eq_getElem?_getD, List.getElem?_eq_getElem h]
/-- two lists out of bits -/
def op (how : Nat) (v w : Nat) : Nat := if how = 0 then v ||| w else if how = 1 then v &&& w else lessB v w
def opb (how : Nat) (x y : Bool) : Bool := if how = 0 then x || y else if how = 1 then x && y else x && !y
theorem op_testBit (how : Nat) {v w : Nat} (hv : v < 2 ^ 64) (hw : w < 2 ^ 64) (i : Nat) : (op how v w).testBit i = opb how (v.testBit i) (w.testBit i) := by
  unfold op opb
  split
  · exact Nat.testBit_or ..
  · split
    · exact Nat.testBit_and ..
    · exact lessB_testBit hw hv i
theorem op_lt (how : Nat) {v w : Nat} (hv : v < 2 ^ 64) (hw : w < 2 ^ 64) : op how v w < 2 ^ 64 := by
  unfold op
  split
  · exact or_lt hv hw
  · split
    · exact and_lt hv
    · exact lessB_lt hv
/-- sets of bits are ascending -/
theorem mayFrom_snoc (l : List Int) : ∀ (last x : Int), mayFrom last (l ++ [x]) = (mayFrom last l && (decide ((l.getLast?.getD last) < x) && can x)) := by
  induction l with
  | nil => intro last x; simp [mayFrom]; rfl
  | cons y l ih =>
    intro last x
    rw [List.cons_append, mayFrom, mayFrom, ih, Bool.and_assoc, Bool.and_assoc, Bool.and_assoc]
    cases l with
    | nil => simp; rfl
    | cons z l => simp [List.getLast?_cons]
theorem elemsTo_last (v : Nat) : ∀ n, ∀ x ∈ (elemsTo v n).getLast?, x < (n : Int) := by
  intro n x hx
  have := List.mem_of_getLast? hx
  obtain ⟨i, rfl, h, _⟩ := (mem_elemsTo v n x).1 this
  omega
theorem may_elemsTo (v : Nat) : ∀ n, n ≤ 64 → may (elemsTo v n) = true
  | 0, _ => rfl
  | n + 1, h => by
    have ih := may_elemsTo v n (by omega)
    rw [elemsTo_succ]
    by_cases hb : v.testBit n = true
    · rw [if_pos hb]
      unfold may at ih ⊢
      rw [mayFrom_snoc, ih, Bool.true_and]
      have h1 : can (n : Int) = true := (can_iff _).2 (by omega)
      rw [h1, Bool.and_true, decide_eq_true_eq]
      cases hg : (elemsTo v n).getLast? with
      | none => simp; omega
      | some y => exact elemsTo_last v n y (by rw [hg]; rfl)
    · rw [if_neg hb, List.append_nil]; exact ih
theorem may_elems (v : Nat) : may (elems v) = true := may_elemsTo v 64 (Nat.le_refl _)
/-- ok in plain words -/
theorem okFrom_iff (l : List Int) : ∀ seen, okFrom seen l = true ↔ (∀ x ∈ l, can x = true ∧ seen.testBit x.toNat = false) ∧ l.Nodup := by
  induction l with
  | nil => intro seen; simp [okFrom]
  | cons y l ih =>
    intro seen
    simp only [okFrom, Bool.and_eq_true, Bool.not_eq_true', ih, List.nodup_cons, List.mem_cons]
    constructor
    · rintro ⟨⟨h1, h2⟩, h3, h4⟩
      refine ⟨?_, ?_, h4⟩
      · rintro x (rfl | hx)
        · exact ⟨h1, h2⟩
        · have := h3 x hx
          rw [put_testBit] at this
          simp only [Bool.or_eq_false_iff] at this
          exact ⟨this.1, this.2.1⟩
      · intro hy
        have := (h3 y hy).2
        rw [put_testBit, h1] at this
        have h5 := (can_iff y).1 h1
        simp at this
        omega
    · rintro ⟨h1, h2, h3⟩
      refine ⟨h1 y (.inl rfl), fun x hx => ?_, h3⟩
      have h4 := h1 x (.inr hx)
      refine ⟨h4.1, ?_⟩
      rw [put_testBit, h4.2, Bool.false_or]
      have h5 := (can_iff x).1 h4.1
      have hne : ¬ y = ((x.toNat : Nat) : Int) := by
        intro e
        have : x = y := by omega
        subst this
        exact h2 hx
      rw [decide_eq_false hne, Bool.and_false]
theorem ok_iff (l : List Int) : ok l = true ↔ (∀ x ∈ l, can x = true) ∧ l.Nodup := by
  unfold ok
  rw [okFrom_iff]
  simp
theorem ok_reverse (l : List Int) : ok l.reverse = ok l := by
  rw [Bool.eq_iff_iff, ok_iff, ok_iff]
  have h : l.reverse.Nodup ↔ l.Nodup := by
    unfold List.Nodup
    rw [List.pairwise_reverse]
    constructor <;> exact fun h => h.imp fun hne => Ne.symm hne
  rw [h]; simp
theorem bitsOf_reverse (l : List Int) : bitsOf l.reverse = bitsOf l := by
  apply Nat.eq_of_testBit_eq
  intro i
  rw [bitsOf_testBit, bitsOf_testBit]; simp
/-- the same number of elements, parted -/
theorem part_length (a b c d : Nat → Bool) (hd : ∀ i, d i = (a i || b i || c i)) (h1 : ∀ i, ¬ (a i = true ∧ b i = true)) (h2 : ∀ i, ¬ (a i = true ∧ c i = true)) (h3 : ∀ i, ¬ (b i = true ∧ c i = true)) (l : List Nat) :
    (l.filter a).length + (l.filter b).length + (l.filter c).length = (l.filter d).length := by
  induction l with
  | nil => rfl
  | cons x l ih =>
    simp only [List.filter_cons, hd]
    have e1 := h1 x; have e2 := h2 x; have e3 := h3 x
    rcases ha : a x with _ | _ <;> rcases hb : b x with _ | _ <;> rcases hc : c x with _ | _ <;> (try simp [ha, hb, hc] at e1 e2 e3) <;> simp <;> omega
end Go.Proofs.YtmdilfgeogedpaaDoor.SetM
