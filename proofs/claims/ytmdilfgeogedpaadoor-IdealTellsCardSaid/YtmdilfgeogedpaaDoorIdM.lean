/- Layer 37, plain: hidden rows, and their sum. -/
import Derived.Test.YtmdilfgeogedpaaDoorVecN
namespace Go.Proofs.YtmdilfgeogedpaaDoor
namespace VE
/-- a sum over the first n places -/
def sI (n : Nat) (f : Nat → Int) : Int := ((List.range n).map f).sum
theorem sI_zero (f : Nat → Int) : sI 0 f = 0 := rfl
theorem sI_succ (n : Nat) (f : Nat → Int) : sI (n + 1) f = sI n f + f n := by simp [sI, List.range_succ, List.sum_append]
theorem sI_add (n : Nat) (f g : Nat → Int) : sI n (fun i => f i + g i) = sI n f + sI n g := by
  induction n with
  | zero => rfl
  | succ n ih => rw [sI_succ, sI_succ, sI_succ, ih]; omega
theorem sI_neg (n : Nat) (f : Nat → Int) : sI n (fun i => - f i) = - sI n f := by
  induction n with
  | zero => rfl
  | succ n ih => rw [sI_succ, sI_succ, ih]; omega
theorem sI_congr {n : Nat} {f g : Nat → Int} (h : ∀ i, i < n → f i = g i) : sI n f = sI n g := by
  induction n with
  | zero => rfl
  | succ n ih => rw [sI_succ, sI_succ, ih (fun i hi => h i (by omega)), h n (by omega)]
/-- what each owes the other is nothing together -/
theorem anti (s : Nat → Nat → Int) (h : ∀ i j, s i j = - s j i) (n : Nat) : sI n (fun i => sI n (s i)) = 0 := by
  induction n with
  | zero => rfl
  | succ n ih =>
    have h1 : sI n (fun i => sI (n + 1) (s i)) = sI n (fun i => sI n (s i)) + sI n (fun i => s i n) := by
      rw [← sI_add]; exact sI_congr fun i _ => sI_succ n (s i)
    have h2 : sI n (s n) = - sI n (fun i => s i n) := by
      rw [← sI_neg]; exact sI_congr fun i _ => h n i
    have h3 := h n n
    rw [sI_succ, sI_succ, h1, h2, ih]; omega
/-- the row of two places, the first one ahead of the second one -/
def pairOf (P : List (List (List Nat))) (i j : Nat) : List Nat := (P.getD i []).getD (j - i - 1) []
/-- one more pair in a hidden row -/
def hid1 (P : List (List (List Nat))) (i : Nat) (r : List Nat) (j : Nat) : List Nat := if i < j then lin 1 r (pairOf P i j) else if j < i then lin 4294967295 r (pairOf P j i) else r
def hidR (P : List (List (List Nat))) (i m : Nat) (r : List Nat) : List Nat := (List.range m).foldl (hid1 P i) r
def hidRow (own : List (List Nat)) (P : List (List (List Nat))) (rows : List (List Nat)) (i : Nat) : List Nat := hidR P i rows.length (lin 1 (rows.getD i []) (own.getD i []))
/-- the hidden rows -/
def hid (own : List (List Nat)) (P : List (List (List Nat))) (rows : List (List Nat)) : List (List Nat) := (List.range rows.length).map (hidRow own P rows)
theorem hidR_zero (P : List (List (List Nat))) (i : Nat) (r : List Nat) : hidR P i 0 r = r := rfl
theorem hidR_succ (P : List (List (List Nat))) (i m : Nat) (r : List Nat) : hidR P i (m + 1) r = hid1 P i (hidR P i m r) m := by simp [hidR, List.range_succ, List.foldl_append]
theorem hid_length (own : List (List Nat)) (P : List (List (List Nat))) (rows : List (List Nat)) : (hid own P rows).length = rows.length := by simp [hid]
theorem hid_getD {own : List (List Nat)} {P : List (List (List Nat))} {rows : List (List Nat)} {i : Nat} (h : i < rows.length) : (hid own P rows).getD i [] = hidRow own P rows i := by
  simp [hid, List.getD_eq_getElem?_getD, h]
theorem hid_take {own : List (List Nat)} {P : List (List (List Nat))} {rows : List (List Nat)} {i : Nat} (h : i < rows.length) : (hid own P rows).take (i + 1) = (hid own P rows).take i ++ [hidRow own P rows i] := by
  have hl : i < (hid own P rows).length := by rw [hid_length]; exact h
  rw [List.take_succ_eq_append_getElem hl]
  congr 2
  have := hid_getD (own := own) (P := P) h
  rw [List.getD_eq_getElem?_getD, List.getElem?_eq_getElem hl] at this
  simpa using this
/-- the pairs of n places have so many numbers -/
def PairsOk (P : List (List (List Nat))) (n d : Nat) : Prop := ∀ a b, a < b → b < n → (pairOf P a b).length = d
theorem hid1_length {P : List (List (List Nat))} {n d i j : Nat} {r : List Nat} (h : PairsOk P n d) (hi : i < n) (hj : j < n) (hr : r.length = d) : (hid1 P i r j).length = d := by
  unfold hid1
  split
  · rw [lin_length, hr, h i j (by assumption) hj]; omega
  · split
    · rw [lin_length, hr, h j i (by assumption) hi]; omega
    · exact hr
theorem hidR_length {P : List (List (List Nat))} {n d i : Nat} {r : List Nat} (h : PairsOk P n d) (hi : i < n) (hr : r.length = d) : ∀ m, m ≤ n → (hidR P i m r).length = d
  | 0, _ => hr
  | m + 1, hm => by rw [hidR_succ]; exact hid1_length h hi (by omega) (hidR_length h hi hr m (by omega))
theorem hid1_lt {P : List (List (List Nat))} {i j : Nat} {r : List Nat} (hr : ∀ x ∈ r, x < 4294967296) : ∀ x ∈ hid1 P i r j, x < 4294967296 := by
  unfold hid1
  split
  · exact lin_lt _ _ _
  · split
    · exact lin_lt _ _ _
    · exact hr
theorem hidR_lt {P : List (List (List Nat))} {i : Nat} {r : List Nat} (hr : ∀ x ∈ r, x < 4294967296) : ∀ m, ∀ x ∈ hidR P i m r, x < 4294967296
  | 0 => hr
  | m + 1 => by rw [hidR_succ]; exact hid1_lt (hidR_lt hr m)
theorem hidRow_lt (own : List (List Nat)) (P : List (List (List Nat))) (rows : List (List Nat)) (i : Nat) : ∀ x ∈ hidRow own P rows i, x < 4294967296 := hidR_lt (lin_lt _ _ _) _
/-- what a pair gives one of the two -/
def sg (P : List (List (List Nat))) (c i j : Nat) : Int := if i < j then ((pairOf P i j).getD c 0 : Nat) else if j < i then - (((pairOf P j i).getD c 0 : Nat) : Int) else 0
theorem sg_anti (P : List (List (List Nat))) (c i j : Nat) : sg P c i j = - sg P c j i := by
  unfold sg
  rcases Nat.lt_trichotomy i j with h | h | h
  · rw [if_pos h, if_neg (by omega), if_pos h]; omega
  · subst h; simp
  · rw [if_neg (by omega), if_pos h, if_pos h]
theorem hidR_col {P : List (List (List Nat))} {n d i c : Nat} {r : List Nat} (h : PairsOk P n d) (hi : i < n) (hr : r.length = d) (hc : c < d) : ∀ m, m ≤ n → (((hidR P i m r).getD c 0 : Nat) : Int) % 4294967296 = ((r.getD c 0 : Nat) + sI m (sg P c i)) % 4294967296
  | 0, _ => by rw [hidR_zero, sI_zero]; simp
  | m + 1, hm => by
    have ih := hidR_col h hi hr hc m (by omega)
    have hl := hidR_length h hi hr m (by omega)
    rw [hidR_succ, sI_succ]
    unfold hid1
    have hs : sg P c i m = if i < m then (((pairOf P i m).getD c 0 : Nat) : Int) else if m < i then - (((pairOf P m i).getD c 0 : Nat) : Int) else 0 := rfl
    rw [hs]
    by_cases h1 : i < m
    · rw [if_pos h1, if_pos h1, lin_getD (by omega) (by rw [h i m h1 (by omega)]; exact hc)]
      omega
    · rw [if_neg h1, if_neg h1]
      by_cases h2 : m < i
      · rw [if_pos h2, if_pos h2, lin_getD (by omega) (by rw [h m i h2 hi]; exact hc)]
        omega
      · rw [if_neg h2, if_neg h2]
        omega
theorem sI_mod {n : Nat} {f g : Nat → Int} (h : ∀ i, i < n → f i % 4294967296 = g i % 4294967296) : sI n f % 4294967296 = sI n g % 4294967296 := by
  induction n with
  | zero => rfl
  | succ n ih => have h1 := ih (fun i hi => h i (by omega)); have h2 := h n (by omega); rw [sI_succ, sI_succ]; omega
theorem col_sI (c : Nat) (l : List (List Nat)) : ((col c l : Nat) : Int) = sI l.length (fun i => (((l.getD i []).getD c 0 : Nat) : Int)) := by
  generalize hn : l.length = n
  induction n generalizing l with
  | zero => rw [List.eq_nil_of_length_eq_zero hn]; rfl
  | succ n ih =>
    rcases List.eq_nil_or_concat l with h | ⟨a, x, h⟩
    · rw [h] at hn; simp at hn
    · have h' : l = a ++ [x] := by simpa using h
      subst h'
      have ha : a.length = n := by simpa using hn
      rw [col_append, col_cons, col_nil, sI_succ, Int.natCast_add, ih a ha]
      have h1 : ∀ i, i < n → ((((a ++ [x]).getD i []).getD c 0 : Nat) : Int) = (((a.getD i []).getD c 0 : Nat) : Int) := fun i hi => by
        rw [show (a ++ [x]).getD i [] = a.getD i [] from by simp [List.getD_eq_getElem?_getD, List.getElem?_append_left (show i < a.length by omega)]]
      rw [sI_congr h1]
      rw [show (a ++ [x]).getD n [] = x from by subst ha; simp [List.getD_eq_getElem?_getD]]
      omega
/-- the sum of what is hidden is the sum of the rows, and of all Own -/
theorem hid_sum {own : List (List Nat)} {P : List (List (List Nat))} {rows : List (List Nat)} {d : Nat} (hp : PairsOk P rows.length d) (ho : own.length = rows.length) (go : good d own) (gr : good d rows) :
    acc d (hid own P rows) = lin 1 (acc d rows) (acc d own) := by
  have hr : ∀ i, i < rows.length → (rows.getD i []).length = d := fun i hi => gr _ (by simp [List.getD_eq_getElem?_getD, List.getElem?_eq_getElem hi])
  have hw : ∀ i, i < rows.length → (own.getD i []).length = d := fun i hi => go _ (by simp [List.getD_eq_getElem?_getD, List.getElem?_eq_getElem (show i < own.length by omega)])
  have hl : ∀ i, i < rows.length → (lin 1 (rows.getD i []) (own.getD i [])).length = d := fun i hi => by rw [lin_length, hr i hi, hw i hi]; omega
  have gh : good d (hid own P rows) := by
    intro r hm
    obtain ⟨i, hi, rfl⟩ := List.mem_iff_getElem.1 hm
    have hi' : i < rows.length := by rw [hid_length] at hi; exact hi
    have := hid_getD (own := own) (P := P) hi'
    rw [List.getD_eq_getElem?_getD, List.getElem?_eq_getElem hi] at this
    simp only [Option.getD_some] at this
    rw [this]
    exact hidR_length hp hi' (hl i hi') _ (Nat.le_refl _)
  refine ext (acc_length _ gh) (by rw [lin_length, acc_length _ gr, acc_length _ go]; omega) fun c hc => ?_
  rw [acc_getD gh hc, lin_getD (by rw [acc_length _ gr]; exact hc) (by rw [acc_length _ go]; exact hc), acc_getD gr hc, acc_getD go hc]
  have h1 := col_sI c (hid own P rows)
  have h2 := col_sI c rows
  have h3 := col_sI c own
  rw [hid_length] at h1
  rw [ho] at h3
  have h4 : ∀ i, i < rows.length → (((((hid own P rows).getD i []).getD c 0 : Nat) : Int)) % 4294967296 = ((((rows.getD i []).getD c 0 : Nat) : Int) + (((own.getD i []).getD c 0 : Nat) : Int) + sI rows.length (sg P c i)) % 4294967296 := fun i hi => by
    rw [hid_getD hi]
    unfold hidRow
    rw [hidR_col hp hi (hl i hi) hc _ (Nat.le_refl _), lin_getD (by rw [hr i hi]; exact hc) (by rw [hw i hi]; exact hc)]
    omega
  have h5 := sI_mod h4
  rw [sI_add, sI_add, anti (sg P c) (sg_anti P c), ← h1, ← h2, ← h3] at h5
  omega
end VE
end Go.Proofs.YtmdilfgeogedpaaDoor
