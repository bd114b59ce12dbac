/- Layer 2, plain: rows of numbers that wrap. -/
import Derived.WalkKit
namespace Go.Proofs.YtmdilfgeogedpaaDoor
namespace VE
/-- a row, and another one so many times -/
def lin (k : Nat) (a b : List Nat) : List Nat := List.zipWith (fun x y => (x + k * y) % 4294967296) a b
theorem lin_length (k : Nat) (a b : List Nat) : (lin k a b).length = min a.length b.length := by simp [lin]
theorem lin_take (k m : Nat) (a b : List Nat) : (lin k a b).take m = lin k (a.take m) (b.take m) := by simp [lin, List.take_zipWith]
theorem lin_snoc {k m : Nat} {a b : List Nat} (ha : m < a.length) (hb : m < b.length) : (lin k a b).take (m + 1) = (lin k a b).take m ++ [(a.getD m 0 + k * b.getD m 0) % 4294967296] := by
  have h : m < (lin k a b).length := by rw [lin_length]; omega
  rw [List.take_succ_eq_append_getElem h]
  simp [lin, List.getD_eq_getElem?_getD, List.getElem?_eq_getElem ha, List.getElem?_eq_getElem hb]
theorem lin_lt (k : Nat) (a b : List Nat) : ∀ x ∈ lin k a b, x < 4294967296 := by
  intro x hx
  obtain ⟨i, hi, rfl⟩ := List.mem_iff_getElem.1 hx
  simp [lin]; omega
def times (k : Nat) (a : List Nat) : List Nat := a.map fun x => x * k % 4294967296
def zero (n : Nat) : List Nat := List.replicate n 0
def row (a b : List Nat) : Bool := decide (a.length ≤ 32) && decide (a.length = b.length)
theorem row_iff (a b : List Nat) : row a b = true ↔ a.length ≤ 32 ∧ a.length = b.length := by simp [row]
theorem zero_length (n : Nat) : (zero n).length = n := by simp [zero]
theorem times_length (k : Nat) (a : List Nat) : (times k a).length = a.length := by simp [times]
theorem times_getD {k m : Nat} {a : List Nat} (h : m < a.length) : (times k a).getD m 0 = a.getD m 0 * k % 4294967296 := by
  simp [times, List.getD_eq_getElem?_getD, List.getElem?_eq_getElem h]
theorem times_lt (k : Nat) (a : List Nat) : ∀ x ∈ times k a, x < 4294967296 := by
  intro x hx
  obtain ⟨y, _, rfl⟩ := List.mem_map.1 hx
  omega
theorem zero_lt (n : Nat) : ∀ x ∈ zero n, x < 4294967296 := by
  intro x hx
  have := List.eq_of_mem_replicate hx
  omega
theorem lin_getD {k m : Nat} {a b : List Nat} (ha : m < a.length) (hb : m < b.length) : (lin k a b).getD m 0 = (a.getD m 0 + k * b.getD m 0) % 4294967296 := by
  have h : m < (lin k a b).length := by rw [lin_length]; omega
  rw [List.getD_eq_getElem?_getD, List.getElem?_eq_getElem h]
  simp [lin, List.getD_eq_getElem?_getD, List.getElem?_eq_getElem ha, List.getElem?_eq_getElem hb]
theorem lin_zero (k : Nat) (a : List Nat) : lin k (zero a.length) a = times k a := by
  apply List.ext_getElem
  · rw [lin_length, zero_length, times_length]; omega
  · intro i h1 h2
    simp [lin, zero, times, Nat.mul_comm]
/-- a row that is being written over -/
def mix (m : Nat) (new old : List Nat) : List Nat := new.take m ++ old.drop m
theorem mix_zero (new old : List Nat) : mix 0 new old = old := by simp [mix]
theorem mix_full {n : Nat} {new old : List Nat} (h1 : new.length = n) (h2 : old.length = n) : mix n new old = new := by
  subst h1; simp [mix, List.drop_eq_nil_of_le (Nat.le_of_eq h2)]
theorem mix_length {n m : Nat} {new old : List Nat} (h1 : new.length = n) (h2 : old.length = n) : (mix m new old).length = n := by
  simp [mix]; omega
theorem mix_getD {n m : Nat} {new old : List Nat} (h1 : new.length = n) (h2 : old.length = n) (hm : m < n) : (mix m new old).getD m 0 = old.getD m 0 := by
  have hl : (new.take m).length = m := by rw [List.length_take]; omega
  rw [mix, List.getD_eq_getElem?_getD, List.getElem?_append_right (by omega), hl, Nat.sub_self, List.getElem?_drop, Nat.add_zero, List.getD_eq_getElem?_getD]
theorem mix_set {n m : Nat} {new old : List Nat} (h1 : new.length = n) (h2 : old.length = n) (hm : m < n) : (mix m new old).set m (new.getD m 0) = mix (m + 1) new old := by
  have hl : (new.take m).length = m := by rw [List.length_take]; omega
  have hn : m < new.length := by omega
  have ho : m < old.length := by omega
  rw [mix, mix, List.set_append_right _ _ (by omega), hl, Nat.sub_self, List.take_succ_eq_append_getElem hn, List.drop_eq_getElem_cons ho, List.set_cons_zero, List.append_assoc]
  simp [List.getD_eq_getElem?_getD, List.getElem?_eq_getElem hn]
/-- the sum of rows of n numbers -/
def acc (n : Nat) (l : List (List Nat)) : List Nat := l.foldl (lin 1) (zero n)
def good (n : Nat) (l : List (List Nat)) : Prop := ∀ r ∈ l, r.length = n
theorem acc_snoc {n k : Nat} {l : List (List Nat)} (h : k < l.length) : acc n (l.take (k + 1)) = lin 1 (acc n (l.take k)) (l.getD k []) := by
  rw [List.take_succ_eq_append_getElem h, acc, List.foldl_append]
  simp [acc, List.getD_eq_getElem?_getD, List.getElem?_eq_getElem h]
theorem acc_length {n : Nat} (l : List (List Nat)) (h : good n l) : (acc n l).length = n := by
  have : ∀ (l : List (List Nat)) (a : List Nat), (∀ r ∈ l, r.length = n) → a.length = n → (l.foldl (lin 1) a).length = n := by
    intro l
    induction l with
    | nil => intro a _ h; exact h
    | cons r l ih =>
      intro a h1 h2
      refine ih _ (fun x hx => h1 x (by simp [hx])) ?_
      rw [lin_length, h1 r (by simp), h2]; omega
  exact this l _ h (zero_length n)
theorem acc_lt {n : Nat} (l : List (List Nat)) : ∀ x ∈ acc n l, x < 4294967296 := by
  rcases List.eq_nil_or_concat l with h | ⟨l', r, h⟩
  · subst h; exact zero_lt n
  · subst h; simp only [acc, List.concat_eq_append, List.foldl_append, List.foldl_cons, List.foldl_nil]; exact lin_lt 1 _ _
theorem good_snoc {n k : Nat} {l : List (List Nat)} (h : k < l.length) (h1 : good n (l.take k)) (h2 : (l.getD k []).length = n) : good n (l.take (k + 1)) := by
  intro r hr
  rw [List.take_succ_eq_append_getElem h] at hr
  rcases List.mem_append.1 hr with h3 | h3
  · exact h1 r h3
  · simp at h3; subst h3; simpa [List.getD_eq_getElem?_getD, List.getElem?_eq_getElem h] using h2
/-- the sum, or none: of any number n -/
noncomputable def sums (n : Int) (l : List (List Nat)) : Option (List Nat) := by
  classical exact if 0 ≤ n ∧ n ≤ 32 ∧ good n.toNat l then some (acc n.toNat l) else none
theorem sums_ok {n : Nat} {l : List (List Nat)} (h : n ≤ 32) (h2 : good n l) : sums n l = some (acc n l) := by
  unfold sums; rw [if_pos ⟨by omega, by omega, by simpa using h2⟩]; rfl
theorem sums_no {n : Int} {l : List (List Nat)} (h : ¬ (0 ≤ n ∧ n ≤ 32 ∧ good n.toNat l)) : sums n l = none := by
  unfold sums; rw [if_neg h]
end VE
end Go.Proofs.YtmdilfgeogedpaaDoor
