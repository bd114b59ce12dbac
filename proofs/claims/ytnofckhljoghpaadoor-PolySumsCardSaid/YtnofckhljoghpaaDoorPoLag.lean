/- Layer 3: what the program's and the document's curves reckon, and that both are the same: plain mathematics. -/
import Derived.Test.YtnofckhljoghpaaDoorPoMath
namespace Go.Proofs.YtnofckhljoghpaaDoor.PoM
open FpM (p p_pos)
/-- the program's and the document's steps, on numbers -/
def sb (a b : Nat) : Nat := (a % 2305843009213693951 + 2305843009213693951 - b % 2305843009213693951) % 2305843009213693951
def ml (a b : Nat) : Nat := a * b % 2305843009213693951
def ad (a b : Nat) : Nat := (a + b) % 2305843009213693951
def iv (a : Nat) : Nat := a ^ FpM.e2 % 2305843009213693951
theorem p_num : p = 2305843009213693951 := rfl
theorem sb_lt (a b : Nat) : sb a b < p := Nat.mod_lt _ p_pos
theorem ml_lt (a b : Nat) : ml a b < p := Nat.mod_lt _ p_pos
theorem ad_lt (a b : Nat) : ad a b < p := Nat.mod_lt _ p_pos
theorem iv_lt (a : Nat) : iv a < p := Nat.mod_lt _ p_pos
theorem ml_eq (a b : Nat) : Eq (ml a b : Nat) ((a : Int) * b) := by
  have := Eq.modp (a * b)
  rw [Int.natCast_mul] at this
  exact this
theorem ad_eq (a b : Nat) : Eq (ad a b : Nat) ((a : Int) + b) := by
  have := Eq.modp (a + b)
  rw [Int.natCast_add] at this
  exact this
theorem sb_eq (a b : Nat) : Eq (sb a b : Nat) ((a : Int) - b) := by
  have hb : b % p < p := Nat.mod_lt _ p_pos
  have h1 := Eq.modp (a % p + p - b % p)
  have h2 : ((a % p + p - b % p : Nat) : Int) = ((a % p : Nat) : Int) - ((b % p : Nat) : Int) + P := by rw [P_p]; omega
  rw [h2] at h1
  refine (show Eq (sb a b : Nat) _ from h1).trans ?_
  refine Eq.trans (Eq.add (Eq.sub (Eq.modp a) (Eq.modp b)) (show Eq P 0 from ⟨1, by omega⟩)) (Eq.of (by omega))
theorem iv_mul {a : Nat} (h : ¬ Eq (a : Int) 0) : Eq ((iv a : Nat) * (a : Int)) 1 := by
  have h0 : a % p ≠ 0 := fun e => h ((Eq.modp a).symm.trans (by rw [e]; exact Eq.rfl' 0))
  have h2 := FpM.inv_mul a h0
  have h3 := ml_eq (iv a) a
  refine h3.symm.trans (Eq.of ?_)
  have : ml (iv a) a = 1 := by
    show (a ^ FpM.e2 % p) * a % p = 1
    rw [Nat.mul_mod, Nat.mod_mod, ← Nat.mul_mod]; exact h2
  rw [this]; rfl
/-- a curve's value, from the upper number on -/
def hor : List Nat → Nat → Nat
  | [], _ => 0
  | a :: l, x => ad (ml (hor l x) x) a
theorem hor_lt : ∀ l x, hor l x < p
  | [], _ => p_pos
  | _ :: _, _ => ad_lt _ _
def cst (l : List Nat) : List Int := l.map fun (n : Nat) => (n : Int)
theorem hor_eq : ∀ (l : List Nat) (x : Nat), Eq (hor l x : Nat) (ev (cst l) x)
  | [], x => Eq.of (by simp [hor, cst, ev])
  | a :: l, x => by
    have h1 := ad_eq (ml (hor l x) x) a
    have h2 := (ml_eq (hor l x) x).trans (Eq.mul (hor_eq l x) (Eq.rfl' (x : Int)))
    refine (show Eq (hor (a :: l) x : Nat) _ from h1).trans ((Eq.add h2 (Eq.rfl' (a : Int))).trans (Eq.of ?_))
    show ev (cst l) x * (x : Int) + (a : Int) = (a : Int) + (x : Int) * ev (cst l) x
    rw [Int.mul_comm]; omega
theorem hor_curve (l : List Nat) : Curve l.length (ev (cst l)) := ⟨cst l, by simp [cst], fun _ => Eq.rfl' _⟩
/-- .. from the lower one on: what is gathered, and the power -/
def low : List Nat → Nat → Nat → Nat → Nat
  | [], _, o, _ => o
  | a :: l, x, o, q => low l x (ad o (ml a q)) (ml q x)
theorem low_lt : ∀ l x o q, o < p → low l x o q < p
  | [], _, _, _, h => h
  | _ :: l, x, _, _, _ => low_lt l x _ _ (ad_lt _ _)
theorem low_eq : ∀ (l : List Nat) (x o q : Nat), Eq (low l x o q : Nat) (o + q * ev (cst l) x)
  | [], x, o, q => Eq.of (by simp [low, cst, ev])
  | a :: l, x, o, q => by
    refine (show Eq (low (a :: l) x o q : Nat) _ from low_eq l x (ad o (ml a q)) (ml q x)).trans ?_
    refine (Eq.add ((ad_eq o (ml a q)).trans (Eq.add (Eq.rfl' _) (ml_eq a q))) (Eq.mul (ml_eq q x) (Eq.rfl' _))).trans (Eq.of ?_)
    show (o : Int) + (a : Int) * q + (q : Int) * x * ev (cst l) x = (o : Int) + q * ((a : Int) + x * ev (cst l) x)
    grind
theorem low_hor (l : List Nat) (x : Nat) : low l x 0 1 = hor l x := by
  refine Eq.nat (low_lt l x 0 1 p_pos) (hor_lt l x) ((low_eq l x 0 1).trans (Eq.trans (Eq.of ?_) (hor_eq l x).symm))
  show (0 : Int) + 1 * ev (cst l) x = _
  omega
/-- how far z is from the first k places, but the i-th, multiplied -/
def prd (xs : List Nat) (i z : Nat) : Nat → Nat
  | 0 => 1
  | k + 1 => if k = i then prd xs i z k else ml (prd xs i z k) (sb z (xs.getD k 0))
theorem prd_lt (xs : List Nat) (i z : Nat) : ∀ k, prd xs i z k < p
  | 0 => by show 1 < p; decide
  | k + 1 => by
    unfold prd
    split
    · exact prd_lt xs i z k
    · exact ml_lt _ _
def prdI (xs : List Nat) (i : Nat) (x : Int) : Nat → Int
  | 0 => 1
  | k + 1 => if k = i then prdI xs i x k else prdI xs i x k * (x - (xs.getD k 0 : Nat))
theorem prd_eq (xs : List Nat) (i z : Nat) : ∀ k, Eq (prd xs i z k : Nat) (prdI xs i z k)
  | 0 => Eq.of rfl
  | k + 1 => by
    unfold prd prdI
    split
    · exact prd_eq xs i z k
    · exact (ml_eq _ _).trans (Eq.mul (prd_eq xs i z k) (sb_eq _ _))
theorem prdI_curve (xs : List Nat) (i : Nat) : ∀ k, Curve (if i < k then k else k + 1) (fun x => prdI xs i x k)
  | 0 => by simpa [prdI] using Curve.const 1
  | k + 1 => by
    have ih := prdI_curve xs i k
    by_cases h : k = i
    · subst h
      have h2 : (fun x => prdI xs k x (k + 1)) = fun x => prdI xs k x k := by funext x; simp [prdI]
      rw [h2, if_pos (Nat.lt_succ_self k)]
      rw [if_neg (Nat.lt_irrefl k)] at ih
      exact ih
    · have h2 : (fun x => prdI xs i x (k + 1)) = fun x => prdI xs i x k * (x - (xs.getD k 0 : Nat)) := by funext x; simp [prdI, h]
      rw [h2]
      refine (ih.times _).mono ?_
      split <;> split <;> omega
theorem prdI_zero (xs : List Nat) (i j : Nat) (hj : j ≠ i) : ∀ k, j < k → Eq (prdI xs i (xs.getD j 0 : Nat) k) 0
  | 0, h => absurd h (Nat.not_lt_zero _)
  | k + 1, h => by
    unfold prdI
    by_cases e : k = i
    · rw [if_pos e]; exact prdI_zero xs i j hj k (by omega)
    · rw [if_neg e]
      by_cases e2 : k = j
      · subst e2
        exact Eq.of (by rw [Int.sub_self, Int.mul_zero])
      · refine (Eq.mul (prdI_zero xs i j hj k (by omega)) (Eq.rfl' _)).trans (Eq.of (by rw [Int.zero_mul]))
/-- places that are all different, in the field -/
def Dif (xs : List Nat) : Prop := ∀ i j, i < xs.length → j < xs.length → i ≠ j → xs.getD i 0 % p ≠ xs.getD j 0 % p
theorem Dif.ne {xs : List Nat} (h : Dif xs) {i j : Nat} (hi : i < xs.length) (hj : j < xs.length) (e : i ≠ j) : ¬ Eq ((xs.getD i 0 : Nat) - (xs.getD j 0 : Nat) : Int) 0 := by
  intro h0
  refine h i j hi hj e ?_
  have h1 : Eq ((xs.getD i 0 % p : Nat) : Int) ((xs.getD j 0 % p : Nat) : Int) := by
    refine (Eq.modp _).trans (Eq.trans ?_ (Eq.modp _).symm)
    unfold Eq at h0 ⊢
    rwa [Int.sub_zero] at h0
  exact Eq.nat (Nat.mod_lt _ p_pos) (Nat.mod_lt _ p_pos) h1
theorem prdI_ne {xs : List Nat} (h : Dif xs) {i : Nat} (hi : i < xs.length) : ∀ k, k ≤ xs.length → ¬ Eq (prdI xs i (xs.getD i 0 : Nat) k) 0
  | 0, _ => ne_one
  | k + 1, hk => by
    unfold prdI
    by_cases e : k = i
    · rw [if_pos e]; exact prdI_ne h hi k (by omega)
    · rw [if_neg e]
      exact ne_mul (prdI_ne h hi k (by omega)) (h.ne hi (by omega) (Ne.symm e))
/-- what a place is worth -/
def wt (xs : List Nat) (z i : Nat) : Nat := ml (prd xs i z xs.length) (iv (prd xs i (xs.getD i 0) xs.length))
theorem wt_lt (xs : List Nat) (z i : Nat) : wt xs z i < p := ml_lt _ _
def wtI (xs : List Nat) (i : Nat) (x : Int) : Int := (iv (prd xs i (xs.getD i 0) xs.length) : Nat) * prdI xs i x xs.length
theorem wt_eq (xs : List Nat) (z i : Nat) : Eq (wt xs z i : Nat) (wtI xs i z) :=
  (ml_eq _ _).trans ((Eq.mul (prd_eq xs i z _) (Eq.rfl' _)).trans (Eq.of (Int.mul_comm _ _)))
theorem prd_ne {xs : List Nat} (h : Dif xs) {i : Nat} (hi : i < xs.length) : prd xs i (xs.getD i 0) xs.length % p ≠ 0 := by
  intro e
  refine prdI_ne h hi xs.length (Nat.le_refl _) ((prd_eq xs i (xs.getD i 0) xs.length).symm.trans ((Eq.modp _).symm.trans ?_))
  rw [e]; exact Eq.rfl' 0
theorem wtI_one {xs : List Nat} (h : Dif xs) {i : Nat} (hi : i < xs.length) : Eq (wtI xs i (xs.getD i 0 : Nat)) 1 := by
  unfold wtI
  refine (Eq.mul (Eq.rfl' _) (prd_eq xs i (xs.getD i 0) xs.length).symm).trans (iv_mul fun e => ?_)
  exact prdI_ne h hi xs.length (Nat.le_refl _) ((prd_eq xs i (xs.getD i 0) xs.length).symm.trans e)
theorem wtI_zero (xs : List Nat) {i j : Nat} (hj : j < xs.length) (e : j ≠ i) : Eq (wtI xs i (xs.getD j 0 : Nat)) 0 := by
  unfold wtI
  exact (Eq.mul (Eq.rfl' _) (prdI_zero xs i j e xs.length hj)).trans (Eq.of (Int.mul_zero _))
theorem wtI_curve (xs : List Nat) {i : Nat} (hi : i < xs.length) : Curve xs.length (wtI xs i) := by
  have := prdI_curve xs i xs.length
  rw [if_pos hi] at this
  exact this.scale _
/-- the points' sum, so far -/
def sm (xs ys : List Nat) (z : Nat) : Nat → Nat
  | 0 => 0
  | k + 1 => ad (sm xs ys z k) (ml (ys.getD k 0) (wt xs z k))
theorem sm_lt (xs ys : List Nat) (z : Nat) : ∀ k, sm xs ys z k < p
  | 0 => p_pos
  | _ + 1 => ad_lt _ _
def smI (xs ys : List Nat) (x : Int) : Nat → Int
  | 0 => 0
  | k + 1 => smI xs ys x k + (ys.getD k 0 : Nat) * wtI xs k x
theorem sm_eq (xs ys : List Nat) (z : Nat) : ∀ k, Eq (sm xs ys z k : Nat) (smI xs ys z k)
  | 0 => Eq.of rfl
  | k + 1 => (ad_eq _ _).trans (Eq.add (sm_eq xs ys z k) ((ml_eq _ _).trans (Eq.mul (Eq.rfl' _) (wt_eq xs z k))))
theorem smI_curve (xs ys : List Nat) : ∀ k, k ≤ xs.length → Curve xs.length (fun x => smI xs ys x k)
  | 0, _ => Curve.zero _
  | k + 1, hk => (smI_curve xs ys k (by omega)).add ((wtI_curve xs (by omega)).scale _)
theorem smI_at {xs : List Nat} (h : Dif xs) (ys : List Nat) {j : Nat} (hj : j < xs.length) : ∀ k, k ≤ xs.length → Eq (smI xs ys (xs.getD j 0 : Nat) k) (if j < k then (ys.getD j 0 : Nat) else 0)
  | 0, _ => Eq.rfl' _
  | k + 1, hk => by
    have ih := smI_at h ys hj k (by omega)
    unfold smI
    by_cases e : j = k
    · subst e
      rw [if_neg (Nat.lt_irrefl _)] at ih
      rw [if_pos (Nat.lt_succ_self _)]
      exact (Eq.add ih (Eq.mul (Eq.rfl' _) (wtI_one h hj))).trans (Eq.of (by omega))
    · have e2 : (if j < k + 1 then ((ys.getD j 0 : Nat) : Int) else 0) = if j < k then ((ys.getD j 0 : Nat) : Int) else 0 := by
        by_cases h1 : j < k
        · rw [if_pos h1, if_pos (by omega)]
        · rw [if_neg h1, if_neg (by omega)]
      rw [e2]
      exact (Eq.add ih ((Eq.mul (Eq.rfl' _) (wtI_zero xs hj e)).trans (Eq.of (Int.mul_zero _)))).trans (Eq.of (Int.add_zero _))
theorem Dif.apart {xs : List Nat} (h : Dif xs) : Apart (cst xs) := by
  unfold Apart
  rw [List.pairwise_iff_getElem]
  intro i j hi hj hij
  have hi' : i < xs.length := by simpa [cst] using hi
  have hj' : j < xs.length := by simpa [cst] using hj
  have := h.ne hj' hi' (by omega)
  simpa [cst, List.getD_eq_getElem?_getD, List.getElem?_eq_getElem hi', List.getElem?_eq_getElem hj'] using this
/-- a curve of so many numbers is known by its values at as many places -/
theorem sm_curve {xs ys : List Nat} (h : Dif xs) {f : Int → Int} (hf : Curve xs.length f) (hy : ∀ i, i < xs.length → Eq (ys.getD i 0 : Nat) (f (xs.getD i 0 : Nat))) (z : Nat) : Eq (sm xs ys z xs.length : Nat) (f z) := by
  refine (sm_eq xs ys z _).trans ?_
  refine Curve.one_place (smI_curve xs ys xs.length (Nat.le_refl _)) hf h.apart (by simp [cst]) (fun a ha => ?_) (z : Int)
  obtain ⟨i, hi, rfl⟩ := List.mem_iff_getElem.1 ha
  have hi' : i < xs.length := by simpa [cst] using hi
  have e : (cst xs)[i] = ((xs.getD i 0 : Nat) : Int) := by simp [cst, List.getD_eq_getElem?_getD, List.getElem?_eq_getElem hi']
  rw [e]
  have h1 := smI_at h ys hi' xs.length (Nat.le_refl _)
  rw [if_pos hi'] at h1
  exact h1.trans (hy i hi')
/-! ### the document's way: a number more, point by point -/
/-- what is gathered of the first k numbers at x, and how far x is from the first k places, multiplied -/
def nv (ns xs : List Nat) (x : Nat) : Nat → Nat × Nat
  | 0 => (0, 1)
  | k + 1 => (ad (nv ns xs x k).1 (ml (ns.getD k 0) (nv ns xs x k).2), ml (nv ns xs x k).2 (sb x (xs.getD k 0)))
theorem nv1_lt (ns xs : List Nat) (x : Nat) : ∀ k, (nv ns xs x k).1 < p
  | 0 => p_pos
  | _ + 1 => ad_lt _ _
theorem nv2_lt (ns xs : List Nat) (x : Nat) : ∀ k, (nv ns xs x k).2 < p
  | 0 => by show 1 < p; decide
  | _ + 1 => ml_lt _ _
def nw (xs ys : List Nat) : Nat → List Nat
  | 0 => []
  | i + 1 => nw xs ys i ++ [ml (sb (ys.getD i 0) (nv (nw xs ys i) xs (xs.getD i 0) i).1) (iv (nv (nw xs ys i) xs (xs.getD i 0) i).2)]
theorem nw_length (xs ys : List Nat) : ∀ i, (nw xs ys i).length = i
  | 0 => rfl
  | i + 1 => by simp [nw, nw_length xs ys i]
theorem nv_congr {ns ms : List Nat} (xs : List Nat) (x : Nat) : ∀ k, (∀ i, i < k → ns.getD i 0 = ms.getD i 0) → nv ns xs x k = nv ms xs x k
  | 0, _ => rfl
  | k + 1, h => by
    have ih := nv_congr xs x k (fun i hi => h i (by omega))
    unfold nv
    rw [ih, h k (by omega)]
def qI (xs : List Nat) (x : Int) : Nat → Int
  | 0 => 1
  | k + 1 => qI xs x k * (x - (xs.getD k 0 : Nat))
def nI (ns xs : List Nat) (x : Int) : Nat → Int
  | 0 => 0
  | k + 1 => nI ns xs x k + (ns.getD k 0 : Nat) * qI xs x k
theorem nv2_eq (ns xs : List Nat) (x : Nat) : ∀ k, Eq ((nv ns xs x k).2 : Nat) (qI xs x k)
  | 0 => Eq.of rfl
  | k + 1 => (ml_eq _ _).trans (Eq.mul (nv2_eq ns xs x k) (sb_eq _ _))
theorem nv1_eq (ns xs : List Nat) (x : Nat) : ∀ k, Eq ((nv ns xs x k).1 : Nat) (nI ns xs x k)
  | 0 => Eq.of rfl
  | k + 1 => (ad_eq _ _).trans (Eq.add (nv1_eq ns xs x k) ((ml_eq _ _).trans (Eq.mul (Eq.rfl' _) (nv2_eq ns xs x k))))
theorem qI_curve (xs : List Nat) : ∀ k, Curve (k + 1) (fun x => qI xs x k)
  | 0 => Curve.const 1
  | k + 1 => (qI_curve xs k).times _
theorem nI_curve (ns xs : List Nat) : ∀ k, Curve k (fun x => nI ns xs x k)
  | 0 => Curve.zero _
  | k + 1 => ((nI_curve ns xs k).mono (Nat.le_succ k)).add ((qI_curve xs k).scale _)
theorem qI_zero (xs : List Nat) (j : Nat) : ∀ k, j < k → Eq (qI xs (xs.getD j 0 : Nat) k) 0
  | 0, h => absurd h (Nat.not_lt_zero _)
  | k + 1, h => by
    unfold qI
    by_cases e : k = j
    · subst e; exact Eq.of (by rw [Int.sub_self, Int.mul_zero])
    · exact (Eq.mul (qI_zero xs j k (by omega)) (Eq.rfl' _)).trans (Eq.of (Int.zero_mul _))
theorem qI_ne {xs : List Nat} (h : Dif xs) {i : Nat} (hi : i < xs.length) : ∀ k, k ≤ i → ¬ Eq (qI xs (xs.getD i 0 : Nat) k) 0
  | 0, _ => ne_one
  | k + 1, hk => by
    unfold qI
    exact ne_mul (qI_ne h hi k (by omega)) (h.ne hi (by omega) (by omega))
theorem nv2_ne {xs : List Nat} (h : Dif xs) (ns : List Nat) {i : Nat} (hi : i < xs.length) : (nv ns xs (xs.getD i 0) i).2 % p ≠ 0 := by
  intro e
  refine qI_ne h hi i (Nat.le_refl _) ((nv2_eq ns xs (xs.getD i 0) i).symm.trans ((Eq.modp _).symm.trans ?_))
  rw [e]; exact Eq.rfl' 0
theorem nw_getD (xs ys : List Nat) : ∀ (n i : Nat), i < n → (nw xs ys n).getD i 0 = (nw xs ys (i + 1)).getD i 0
  | 0, _, h => absurd h (Nat.not_lt_zero _)
  | n + 1, i, h => by
    by_cases e : i = n
    · subst e; rfl
    · have := nw_getD xs ys n i (by omega)
      rw [← this]
      simp only [nw, List.getD_eq_getElem?_getD]
      rw [List.getElem?_append_left (by rw [nw_length]; omega)]
theorem nI_congr {ns ms : List Nat} (xs : List Nat) (x : Int) : ∀ k, (∀ i, i < k → ns.getD i 0 = ms.getD i 0) → nI ns xs x k = nI ms xs x k
  | 0, _ => rfl
  | k + 1, h => by
    unfold nI
    rw [nI_congr xs x k (fun i hi => h i (by omega)), h k (by omega)]
/-- the document's curve goes through each point -/
theorem nI_at {xs : List Nat} (h : Dif xs) (ys : List Nat) (j : Nat) (hj : j < xs.length) : ∀ n, j < n → n ≤ xs.length → Eq (nI (nw xs ys n) xs (xs.getD j 0 : Nat) n) (ys.getD j 0 : Nat)
  | 0, h0, _ => absurd h0 (Nat.not_lt_zero _)
  | n + 1, h0, hn => by
    have hc : nI (nw xs ys (n + 1)) xs (xs.getD j 0 : Nat) n = nI (nw xs ys n) xs (xs.getD j 0 : Nat) n :=
      nI_congr xs _ n (fun i hi => by
        simp only [nw, List.getD_eq_getElem?_getD]
        rw [List.getElem?_append_left (by rw [nw_length]; omega)])
    unfold nI
    rw [hc]
    by_cases e : j = n
    · subst e
      have hl : (nw xs ys (j + 1)).getD j 0 = ml (sb (ys.getD j 0) (nv (nw xs ys j) xs (xs.getD j 0) j).1) (iv (nv (nw xs ys j) xs (xs.getD j 0) j).2) := by
        simp only [nw, List.getD_eq_getElem?_getD]
        rw [List.getElem?_append_right (by rw [nw_length]; exact Nat.le_refl _), nw_length, Nat.sub_self, List.getElem?_cons_zero, Option.getD_some]
      rw [hl]
      have hq : ¬ Eq ((nv (nw xs ys j) xs (xs.getD j 0) j).2 : Int) 0 := fun e => qI_ne h hj j (Nat.le_refl _) ((nv2_eq _ xs (xs.getD j 0) j).symm.trans e)
      have h1 := iv_mul hq
      have h2 := nv1_eq (nw xs ys j) xs (xs.getD j 0) j
      have h3 := nv2_eq (nw xs ys j) xs (xs.getD j 0) j
      generalize (nv (nw xs ys j) xs (xs.getD j 0) j).1 = v at h2 ⊢
      generalize (nv (nw xs ys j) xs (xs.getD j 0) j).2 = q at h1 h3 ⊢
      have h4 : Eq ((ml (sb (ys.getD j 0) v) (iv q) : Nat) * qI xs (xs.getD j 0 : Nat) j) ((ys.getD j 0 : Nat) - v) := by
        refine (Eq.mul (ml_eq _ _) h3.symm).trans ?_
        rw [Int.mul_assoc]
        exact (Eq.mul (sb_eq _ _) h1).trans (Eq.of (by omega))
      exact (Eq.add h2.symm h4).trans (Eq.of (by omega))
    · refine (Eq.add (nI_at h ys j hj n (by omega) (by omega)) ((Eq.mul (Eq.rfl' _) (qI_zero xs j n (by omega))).trans (Eq.of (Int.mul_zero _)))).trans (Eq.of (Int.add_zero _))
/-- the program's way and the document's tell the same -/
theorem sm_nv {xs ys : List Nat} (h : Dif xs) (z : Nat) : sm xs ys z xs.length = (nv (nw xs ys xs.length) xs z xs.length).1 := by
  refine Eq.nat (sm_lt xs ys z _) (nv1_lt _ xs z _) ?_
  refine (sm_curve h (nI_curve (nw xs ys xs.length) xs xs.length) (fun i hi => (nI_at h ys i hi xs.length hi (Nat.le_refl _)).symm) z).trans (nv1_eq _ xs z _).symm
end Go.Proofs.YtnofckhljoghpaaDoor.PoM
