/- Layer 26: plain mathematics: who may have come. -/
import Derived.Test.YtpcghenjmiacbaaDoorSetM
namespace Go.Proofs.YtpcghenjmiacbaaDoor.SetM
theorem can_of_mayFrom : ∀ (l : List Int) (last : Int), mayFrom last l = true → ∀ x ∈ l, can x = true
  | [], _, _, x, hx => by simp at hx
  | y :: t, last, h, x, hx => by
    rw [mayFrom] at h
    simp only [Bool.and_eq_true] at h
    rcases List.mem_cons.1 hx with rfl | hx
    · exact h.1.2
    · exact can_of_mayFrom t y h.2 x hx
theorem can_of_may {l : List Int} (h : may l = true) : ∀ x ∈ l, can x = true := can_of_mayFrom l _ h
theorem elems_nil {u : Nat} (hu : u < 2 ^ 64) : (elems u).length = 0 ↔ u = 0 := by
  constructor
  · intro h
    have h1 : elems u = [] := List.eq_nil_of_length_eq_zero h
    have h2 := bitsOf_elems hu
    rw [h1] at h2
    exact h2.symm
  · rintro rfl; decide
/-- all of those are among who -/
def sub (who l : List Int) : Bool := l.all fun x => has who x
theorem less_nil {who l : List Int} (h : may l = true) : (elems (op 2 (bitsOf l) (bitsOf who))).length = 0 ↔ sub who l = true := by
  rw [elems_nil (op_lt 2 (bitsOf_lt l) (bitsOf_lt who))]
  have hb : ∀ i, (op 2 (bitsOf l) (bitsOf who)).testBit i = ((bitsOf l).testBit i && !(bitsOf who).testBit i) := fun i => op_testBit 2 (bitsOf_lt l) (bitsOf_lt who) i
  constructor
  · intro h0
    unfold sub
    rw [List.all_eq_true]
    intro x hx
    have hc := can_of_may h x hx
    have hc2 := (can_iff x).1 hc
    have h1 := hb x.toNat
    rw [h0, Nat.zero_testBit, bitsOf_testBit l] at h1
    have h2 : ((x.toNat : Nat) : Int) = x := by omega
    rw [h2, decide_eq_true hx, decide_eq_true (by omega : x.toNat < 64)] at h1
    unfold has
    rw [hc]
    simpa using h1
  · intro h1
    unfold sub at h1
    rw [List.all_eq_true] at h1
    refine Nat.eq_of_testBit_eq fun i => ?_
    rw [Nat.zero_testBit, hb i, bitsOf_testBit l]
    by_cases hi : i < 64 ∧ (i : Int) ∈ l
    · have h2 := h1 _ hi.2
      rw [has_nat who i hi.1] at h2
      rw [h2]; simp
    · rw [Bool.and_eq_false_iff]
      left
      rw [Bool.and_eq_false_iff, decide_eq_false_iff_not, decide_eq_false_iff_not]
      rcases Classical.em (i < 64) with h3 | h3
      · exact .inr fun h4 => hi ⟨h3, h4⟩
      · exact .inl h3
theorem sub_take {who l : List Int} (k : Nat) (hk : k < l.length) : sub who (l.take (k + 1)) = (sub who (l.take k) && has who (l.getD k 0)) := by
  unfold sub
  rw [List.take_succ_eq_append_getElem hk, List.all_append]
  simp [List.getD_eq_getElem?_getD, List.getElem?_eq_getElem hk]
theorem sub_false {who l : List Int} (k : Nat) (hk : k < l.length) (h : has who (l.getD k 0) = false) : sub who l = false := by
  unfold sub
  rw [List.all_eq_false]
  refine ⟨l[k], List.getElem_mem hk, ?_⟩
  rw [List.getD_eq_getElem?_getD, List.getElem?_eq_getElem hk] at h
  simp at h
  simp [h]
/-- what an asking is answered -/
def askCode (who : List Int) (need : Int) (cur : List Int) (asked : Bool) (l : List Int) : Int :=
  if (may l && sub who l) = false then 1 else if (l.length : Int) < need then 7 else if (asked && !decide (l = cur)) = true then 12 else 0
theorem askCode_1 {who l cur : List Int} {need : Int} {asked : Bool} (h : (may l && sub who l) = false) : askCode who need cur asked l = 1 := by simp [askCode, h]
theorem askCode_7 {who l cur : List Int} {need : Int} {asked : Bool} (h : (may l && sub who l) = true) (h2 : (l.length : Int) < need) : askCode who need cur asked l = 7 := by simp [askCode, h, h2]
theorem askCode_12 {who l cur : List Int} {need : Int} {asked : Bool} (h : (may l && sub who l) = true) (h2 : ¬ (l.length : Int) < need) (h3 : asked = true) (h4 : l ≠ cur) : askCode who need cur asked l = 12 := by simp [askCode, h, h2, h3, h4]
theorem askCode_0 {who l cur : List Int} {need : Int} {asked : Bool} (h : (may l && sub who l) = true) (h2 : ¬ (l.length : Int) < need) (h3 : asked = false ∨ l = cur) : askCode who need cur asked l = 0 := by
  rcases h3 with rfl | rfl <;> simp [askCode, h, h2]
/-- which secret goes out -/
def outOf (who cur : List Int) (asked : Bool) (id : Int) : Int := if (asked && has who id) = false then 0 else if has cur id then 1 else 2
end Go.Proofs.YtpcghenjmiacbaaDoor.SetM
