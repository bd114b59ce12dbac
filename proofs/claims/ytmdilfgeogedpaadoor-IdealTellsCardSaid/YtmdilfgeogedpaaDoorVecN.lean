/- Layer 2, plain: what rows do: less themselves, with noughts; in whatever order they are added. -/
import Derived.Test.YtmdilfgeogedpaaDoorVecM
namespace Go.Proofs.YtmdilfgeogedpaaDoor
namespace VE
theorem ext {a b : List Nat} {n : Nat} (ha : a.length = n) (hb : b.length = n) (h : ∀ i, i < n → a.getD i 0 = b.getD i 0) : a = b := by
  apply List.ext_getElem (ha.trans hb.symm)
  intro i h1 h2
  have := h i (by omega)
  rwa [List.getD_eq_getElem?_getD, List.getD_eq_getElem?_getD, List.getElem?_eq_getElem h1, List.getElem?_eq_getElem h2] at this
theorem zero_getD (n i : Nat) : (zero n).getD i 0 = 0 := by
  simp only [zero, List.getD_eq_getElem?_getD]
  by_cases h : i < n
  · simp [h]
  · simp [h]
theorem lt_getD {l : List Nat} (h : ∀ x ∈ l, x < 4294967296) (i : Nat) : l.getD i 0 < 4294967296 := by
  by_cases hi : i < l.length
  · rw [List.getD_eq_getElem?_getD, List.getElem?_eq_getElem hi]; exact h _ (List.getElem_mem _)
  · rw [List.getD_eq_getElem?_getD, List.getElem?_eq_none (by omega)]; simp
section
variable {x y : List Nat} {n : Nat} (hx : x.length = n) (hy : y.length = n) (bx : ∀ v ∈ x, v < 4294967296) (bz : ∀ v ∈ y, v < 4294967296)
include hx
theorem self_less : lin 4294967295 x x = zero n := ext (n := n) (by rw [lin_length, hx]; omega) (zero_length n) fun i hi => by
  rw [lin_getD (by omega) (by omega), zero_getD]; omega
include bx
theorem plus_zero : lin 1 x (zero n) = x := ext (n := n) (by rw [lin_length, hx, zero_length]; omega) hx fun i hi => by
  have := lt_getD bx i
  rw [lin_getD (by omega) (by rw [zero_length]; exact hi), zero_getD]; omega
theorem less_zero : lin 4294967295 x (zero n) = x := ext (n := n) (by rw [lin_length, hx, zero_length]; omega) hx fun i hi => by
  have := lt_getD bx i
  rw [lin_getD (by omega) (by rw [zero_length]; exact hi), zero_getD]; omega
include hy bz
theorem turned : lin 4294967295 (zero n) (lin 4294967295 y x) = lin 4294967295 x y := ext (n := n) (by rw [lin_length, lin_length, hx, hy, zero_length]; omega) (by rw [lin_length, hx, hy]; omega) fun i hi => by
  have h1 := lt_getD bx i
  have h2 := lt_getD bz i
  rw [lin_getD (by rw [zero_length]; exact hi) (by rw [lin_length]; omega), lin_getD (by omega) (by omega), lin_getD (by omega) (by omega), zero_getD]
  generalize x.getD i 0 = p at *
  generalize y.getD i 0 = q at *
  omega
end
theorem times_zero' {x : List Nat} {n : Nat} (hx : x.length = n) : times 0 x = zero n := ext (n := n) (by rw [times_length, hx]) (zero_length n) fun i hi => by
  rw [times_getD (by omega), zero_getD]; rfl
theorem times_succ (c : Nat) (x : List Nat) : lin 1 (times c x) x = times (c + 1) x := ext (n := x.length) (by rw [lin_length, times_length]; omega) (times_length _ _) fun i hi => by
  rw [lin_getD (by rw [times_length]; exact hi) hi, times_getD hi, times_getD hi, Nat.mul_add]
  generalize x.getD i 0 * c = p
  omega
/-- what stands in place i of the rows, all added -/
def col (i : Nat) (l : List (List Nat)) : Nat := (l.map fun r => r.getD i 0).sum
theorem col_nil (i : Nat) : col i [] = 0 := rfl
theorem col_cons (i : Nat) (r : List Nat) (l : List (List Nat)) : col i (r :: l) = r.getD i 0 + col i l := by simp [col]
theorem col_append (i : Nat) (a b : List (List Nat)) : col i (a ++ b) = col i a + col i b := by simp [col]
theorem col_reverse (i : Nat) (l : List (List Nat)) : col i l.reverse = col i l := by
  induction l with
  | nil => rfl
  | cons r l ih => rw [List.reverse_cons, col_append, ih, col_cons, col_cons, col_nil]; omega
theorem acc_getD {n i : Nat} {l : List (List Nat)} (h : good n l) (hi : i < n) : (acc n l).getD i 0 = col i l % 4294967296 := by
  have key : ∀ (l : List (List Nat)) (a : List Nat), good n l → a.length = n → a.getD i 0 < 4294967296 → (l.foldl (lin 1) a).getD i 0 = (a.getD i 0 + col i l) % 4294967296 := by
    intro l
    induction l with
    | nil => intro a _ _ h; rw [col_nil]; simp only [List.foldl_nil]; omega
    | cons r l ih =>
      intro a hg ha hlt
      have hr : r.length = n := hg r (by simp)
      have e := lin_getD (k := 1) (m := i) (a := a) (b := r) (by omega) (by omega)
      rw [List.foldl_cons, ih (lin 1 a r) (fun x hx => hg x (by simp [hx])) (by rw [lin_length]; omega) (by rw [e]; omega), e, col_cons]
      omega
  have := key l (zero n) h (zero_length n) (by rw [zero_getD]; decide)
  rw [zero_getD] at this
  rw [acc, this]; omega
theorem good_reverse {n : Nat} {l : List (List Nat)} (h : good n l) : good n l.reverse := fun r hr => h r (List.mem_reverse.1 hr)
theorem good_take {n : Nat} {l : List (List Nat)} (m : Nat) (h : good n l) : good n (l.take m) := fun r hr => h r (List.mem_of_mem_take hr)
theorem good_drop {n : Nat} {l : List (List Nat)} (m : Nat) (h : good n l) : good n (l.drop m) := fun r hr => h r (List.mem_of_mem_drop hr)
theorem good_times {n : Nat} {l : List (List Nat)} (k : Nat) (h : good n l) : good n (l.map (times k)) := by
  intro r hr
  obtain ⟨x, hx, rfl⟩ := List.mem_map.1 hr
  rw [times_length]; exact h x hx
theorem acc_reverse {n : Nat} {l : List (List Nat)} (h : good n l) : acc n l.reverse = acc n l := ext (acc_length _ (good_reverse h)) (acc_length _ h) fun i hi => by
  rw [acc_getD (good_reverse h) hi, acc_getD h hi, col_reverse]
theorem col_split (i m : Nat) (l : List (List Nat)) : col i l = col i (l.take m) + col i (l.drop m) := by
  rw [← col_append, List.take_append_drop]
theorem acc_split {n : Nat} {l : List (List Nat)} (m : Nat) (h : good n l) : lin 1 (acc n (l.take m)) (acc n (l.drop m)) = acc n l := by
  have h1 := acc_length _ (good_take m h)
  have h2 := acc_length _ (good_drop m h)
  refine ext (n := n) (by rw [lin_length]; omega) (acc_length _ h) fun i hi => ?_
  rw [lin_getD (by omega) (by omega), acc_getD (good_take m h) hi, acc_getD (good_drop m h) hi, acc_getD h hi, col_split i m l]
  omega
theorem acc_less {n : Nat} {l : List (List Nat)} (m : Nat) (h : good n l) : lin 4294967295 (acc n l) (acc n (l.drop m)) = acc n (l.take m) := by
  have h1 := acc_length _ h
  have h2 := acc_length _ (good_drop m h)
  refine ext (n := n) (by rw [lin_length]; omega) (acc_length _ (good_take m h)) fun i hi => ?_
  rw [lin_getD (by omega) (by omega), acc_getD (good_take m h) hi, acc_getD (good_drop m h) hi, acc_getD h hi, col_split i m l]
  generalize col i (l.take m) = p
  generalize col i (l.drop m) = q
  omega
theorem col_times {n i : Nat} (k : Nat) {l : List (List Nat)} (h : good n l) (hi : i < n) : col i (l.map (times k)) % 4294967296 = col i l * k % 4294967296 := by
  induction l with
  | nil => simp [col]
  | cons r l ih =>
    have ih' := ih (fun x hx => h x (by simp [hx]))
    have hr : r.length = n := h r (by simp)
    rw [List.map_cons, col_cons, col_cons, times_getD (by omega), Nat.add_mul]
    generalize col i (List.map (times k) l) = p at *
    generalize col i l * k = q at *
    generalize r.getD i 0 * k = s
    omega
theorem acc_times {n : Nat} (k : Nat) {l : List (List Nat)} (h : good n l) : acc n (l.map (times k)) = times k (acc n l) := by
  have h1 := acc_length _ h
  refine ext (n := n) (acc_length _ (good_times k h)) (by rw [times_length, h1]) fun i hi => ?_
  rw [acc_getD (good_times k h) hi, times_getD (by omega), acc_getD h hi, col_times k h hi, Nat.mod_mul_mod]
end VE
end Go.Proofs.YtmdilfgeogedpaaDoor
