/- Layer 3: each function's contract for whatever points: by what the document says. -/
import Derived.Test.YtnofckhljoghpaaDoorPoF
import Derived.Test.YtnofckhljoghpaaDoorNum03
namespace Go.Proofs.YtnofckhljoghpaaDoor
open Go.RowKit
open Classical in
/-- the error's number -/
noncomputable def fOf (xs : List Nat) (n : Nat) : Int := if 64 < n then 1 else if PoM.Dif xs then 0 else 8
theorem fOf_cases (xs : List Nat) (n : Nat) : (fOf xs n = 0 ∧ n ≤ 64 ∧ PoM.Dif xs) ∨ (fOf xs n ≠ 0 ∧ Bad xs n (fOf xs n)) := by
  unfold fOf
  by_cases h : 64 < n
  · rw [if_pos h]; exact .inr ⟨by decide, .inl ⟨rfl, h⟩⟩
  · rw [if_neg h]
    by_cases hd : PoM.Dif xs
    · rw [if_pos hd]; exact .inl ⟨rfl, by omega, hd⟩
    · rw [if_neg hd]; exact .inr ⟨by decide, .inr ⟨rfl, by omega, hd⟩⟩
/-- an error as the program tells it -/
def erV (f : Int) : Value := if f = 0 then .nilIface else .iface 57 (.int .i64 f)
theorem erV_zero : erV 0 = .nilIface := rfl
theorem erV_ne {f : Int} (h : f ≠ 0) : erV f = .iface 57 (.int .i64 f) := by unfold erV; rw [if_neg h]
theorem num_er (f : Int) (w : World) (hg : Glob w) : Calls Tryd.prog 15 #[erV f] w fun e w' => e = .returned (.int .i64 f) ∧ Below w.heap.size w w' := by
  by_cases h : f = 0
  · subst h; exact num03_nil w
  · rw [erV_ne h]; exact num03_err f w hg
/-- the value told -/
noncomputable def thV (xs ys : List Nat) (z n : Nat) : Nat := if fOf xs n = 0 then PoM.sm xs ys z n else 0
section
variable (A : Option Addr) (n c : Nat) (xs ys : List Nat) (w : World)
theorem through_any (z : Nat) (hz : z < 18446744073709551616) (hm : n ≤ 1000) (hl : xs.length = n) (ha : Shs w A xs ys n) (hb : ∀ i, xs.getD i 0 < 18446744073709551616) (hy : ∀ i, ys.getD i 0 < 18446744073709551616) :
    Calls Tryd.prog 8 #[.slice A n c, .int .u64 z] w fun e w' => e = .returned (.tuple #[.int .u64 (thV xs ys z n : Nat), erV (fOf xs n)]) ∧ Below w.heap.size w w' := by
  rcases fOf_cases xs n with ⟨h0, h, hd⟩ | ⟨h0, hB⟩
  · unfold thV; rw [if_pos h0, h0]; exact through_ok A n c xs ys w z hz hd h hl ha hb hy
  · unfold thV; rw [if_neg h0, erV_ne h0]; exact through_bad A n c xs ys w z _ hB hl hm ha hb
theorem rthrough_any (z : Nat) (hz : z < 18446744073709551616) (hm : n ≤ 1000) (hl : xs.length = n) (ha : Shs w A xs ys n) (hb : ∀ i, xs.getD i 0 < 18446744073709551616) (hy : ∀ i, ys.getD i 0 < 18446744073709551616) :
    Calls Tryd.prog 9 #[.slice A n c, .int .u64 z] w fun e w' => e = .returned (.tuple #[.int .u64 (thV xs ys z n : Nat), .int .i64 (fOf xs n)]) ∧ Below w.heap.size w w' := by
  rcases fOf_cases xs n with ⟨h0, h, hd⟩ | ⟨h0, hB⟩
  · unfold thV; rw [if_pos h0, h0]; exact rthrough_ok A n c xs ys w z hz hd h hl ha hb hy
  · unfold thV; rw [if_neg h0]; exact rthrough_bad A n c xs ys w z _ hB hl hm ha
/-- what Weights leaves -/
def WtP (xs : List Nat) (z n : Nat) (w : World) (e : Ending) (w' : World) : Prop :=
  ∃ A' m c', e = .returned (.tuple #[.slice A' m c', erV (fOf xs n)]) ∧ (fOf xs n = 0 → m = n ∧ At w' A' (nats .u64 (wl xs z n))) ∧ (fOf xs n ≠ 0 → m = 0) ∧ Below w.heap.size w w'
theorem weights_any (z : Nat) (hz : z < 18446744073709551616) (hl : xs.length = n) (ha : At w A (nats .u64 xs)) (hb : ∀ i, xs.getD i 0 < 18446744073709551616) :
    Calls Tryd.prog 12 #[.slice A n c, .int .u64 z] w (WtP xs z n w) := by
  rcases fOf_cases xs n with ⟨h0, h, hd⟩ | ⟨h0, hB⟩
  · refine (weights_ok A n c xs w z hz hd h hl ha hb).mono ?_
    rintro e w' ⟨A', c', rfl, h1, h2⟩
    exact ⟨A', n, c', by rw [h0]; rfl, fun _ => ⟨rfl, h1⟩, fun h3 => absurd h0 h3, h2⟩
  · refine (weights_bad A n c xs w z _ hB hl ha hb).mono ?_
    rintro e w' ⟨rfl, h2⟩
    exact ⟨none, 0, 0, by rw [erV_ne h0], fun h3 => absurd h3 h0, fun _ => rfl, h2⟩
/-- what Line tells -/
noncomputable def lnF (xs : List Nat) (n : Nat) (m : Int) : Int := if m < 0 then 1 else fOf xs n
open Classical in
noncomputable def lnB (xs ys : List Nat) (n : Nat) (m : Int) : Bool := if lnF xs n m = 0 ∧ ∀ i : Nat, m ≤ (i : Int) → i < n → lv xs ys m.toNat i = ys.getD i 0 % FpM.p then true else false
theorem lnB_no {xs ys : List Nat} {n : Nat} {m : Int} (h : lnF xs n m ≠ 0) : lnB xs ys n m = false := by
  unfold lnB; exact if_neg fun h2 => h h2.1
theorem lnB_of {xs ys : List Nat} {n : Nat} {m : Nat} (h : lnF xs n m = 0) {bb : Bool} (hb : bb = true ↔ ∀ i, m ≤ i → i < n → lv xs ys m i = ys.getD i 0 % FpM.p) : lnB xs ys n (m : Nat) = bb := by
  have e : lnB xs ys n (m : Nat) = true ↔ bb = true := by
    rw [hb]
    unfold lnB
    refine ⟨fun h2 i h3 h4 => ?_, fun h2 => if_pos ⟨h, fun i h3 h4 => h2 i (by omega) h4⟩⟩
    split at h2
    · rename_i h5; exact h5.2 i (by omega) h4
    · cases h2
  cases bb with
  | true => exact e.2 rfl
  | false =>
    cases h5 : lnB xs ys n (m : Nat) with
    | true => exact absurd (e.1 h5) (by simp)
    | false => rfl
theorem lnB_all {xs ys : List Nat} {n : Nat} {m : Int} (h : lnF xs n m = 0) (hm : (n : Int) ≤ m) : lnB xs ys n m = true := by
  unfold lnB; exact if_pos ⟨h, fun i h1 h2 => by omega⟩
theorem line_any (m : Int) (hm : n ≤ 1000) (hcc : n ≤ c) (hc9 : c ≤ 9223372036854775807) (hl : xs.length = n) (ha : Shs w A xs ys n) (hb : ∀ i, xs.getD i 0 < 18446744073709551616) (hy : ∀ i, ys.getD i 0 < 18446744073709551616) :
    Calls Tryd.prog 10 #[.slice A n c, .int .i64 m] w fun e w' => e = .returned (.tuple #[.bool (lnB xs ys n m), erV (lnF xs n m)]) ∧ Below w.heap.size w w' := by
  by_cases h0 : m < 0
  · have h1 : lnF xs n m = 1 := if_pos h0
    rw [lnB_no (by rw [h1]; decide), h1]
    exact (line_neg A n c w m h0).mono fun e w' ⟨h2, h3⟩ => by subst h3; exact ⟨h2, Below.refl _ _⟩
  · have h1 : lnF xs n m = fOf xs n := if_neg h0
    rcases fOf_cases xs n with ⟨h2, h, hd⟩ | ⟨h2, hB⟩
    · have h3 : lnF xs n m = 0 := h1.trans h2
      by_cases h4 : (n : Int) ≤ m
      · rw [lnB_all h3 h4, h3]
        exact line_all A n c xs ys w m h4 hd h hl ha hb
      · obtain ⟨k, rfl⟩ := Int.eq_ofNat_of_zero_le (show 0 ≤ m by omega)
        refine (line_ok A n c xs ys w k (by omega) hcc hc9 hd h hl ha hb hy).mono ?_
        rintro e w' ⟨bb, rfl, h5, h6⟩
        rw [lnB_of h3 h5, h3]
        exact ⟨rfl, h6⟩
    · rw [lnB_no (by rw [h1]; exact h2), h1, erV_ne h2]
      exact line_bad A n c xs ys w m (by omega) _ hB hl hm ha hb
theorem rline_any (m : Int) (hm : n ≤ 1000) (hcc : n ≤ c) (hc9 : c ≤ 9223372036854775807) (hl : xs.length = n) (ha : Shs w A xs ys n) (hb : ∀ i, xs.getD i 0 < 18446744073709551616) (hy : ∀ i, ys.getD i 0 < 18446744073709551616) :
    Calls Tryd.prog 11 #[.slice A n c, .int .i64 m] w fun e w' => e = .returned (.tuple #[.bool (lnB xs ys n m), .int .i64 (lnF xs n m)]) ∧ Below w.heap.size w w' := by
  by_cases h0 : m < 0
  · have h1 : lnF xs n m = 1 := if_pos h0
    rw [lnB_no (by rw [h1]; decide), h1]
    exact (rline_neg A n c w m h0).mono fun e w' ⟨h2, h3⟩ => by subst h3; exact ⟨h2, Below.refl _ _⟩
  · have h1 : lnF xs n m = fOf xs n := if_neg h0
    rcases fOf_cases xs n with ⟨h2, h, hd⟩ | ⟨h2, hB⟩
    · have h3 : lnF xs n m = 0 := h1.trans h2
      by_cases h4 : (n : Int) ≤ m
      · rw [lnB_all h3 h4, h3]
        exact rline_all A n c xs ys w m h4 hd h hl ha hb
      · obtain ⟨k, rfl⟩ := Int.eq_ofNat_of_zero_le (show 0 ≤ m by omega)
        refine (rline_ok A n c xs ys w k (by omega) hcc hc9 hd h hl ha hb hy).mono ?_
        rintro e w' ⟨bb, rfl, h5, h6⟩
        rw [lnB_of h3 h5, h3]
        exact ⟨rfl, h6⟩
    · rw [lnB_no (by rw [h1]; exact h2), h1]
      exact rline_bad A n c xs ys w m (by omega) _ hB hl hm ha
end
end Go.Proofs.YtnofckhljoghpaaDoor
