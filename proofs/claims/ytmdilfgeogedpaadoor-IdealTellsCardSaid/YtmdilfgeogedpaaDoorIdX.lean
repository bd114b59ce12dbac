/- Layer 37, plain law: the moved table hides the other rows as the table hides the rows; it shows the same; moved back it is the table. -/
import Derived.Test.YtmdilfgeogedpaaDoorIdS
namespace Go.Proofs.YtmdilfgeogedpaaDoor
open Go.RowKit
/-! ### the moved pairs, one by one -/
section
variable {cl : List Nat} {P : List (List (List Nat))} {rows other : List (List Nat)} {n d : Nat}
theorem mvP_pair (hn : P.length = n) (hl : ∀ i, i < n → (P.getD i []).length = n - 1 - i) (hlt : ∀ x ∈ cl, x < n) (hasc : cl.Pairwise (· < ·)) : ∀ m, m < cl.length → ∀ a b, a < b → b < n →
    VE.pairOf (mvP cl P rows other m) a b = if a = cl.getD 0 0 ∧ b ∈ (cl.drop 1).take m then mvR P rows other a b else VE.pairOf P a b
  | 0, _, a, b, _, _ => by simp [mvP]
  | m + 1, hm, a, b, hab, hb => by
    have ih := mvP_pair hn hl hlt hasc m (by omega) a b hab hb
    have hfx : cl.getD 0 0 < cl.getD (m + 1) 0 := asc_lt hasc (by omega) hm
    have hxn : cl.getD (m + 1) 0 < n := getD_ltN hlt hm
    have ht : (cl.drop 1).take (m + 1) = (cl.drop 1).take m ++ [cl.getD (m + 1) 0] := by
      rw [List.take_add_one, List.getElem?_drop, Nat.add_comm 1 m, List.getElem?_eq_getElem hm]
      simp [List.getD_eq_getElem?_getD, List.getElem?_eq_getElem hm]
    have hrow : ((mvP cl P rows other m).getD (cl.getD 0 0) []).length = n - 1 - cl.getD 0 0 := by rw [mvP_row, hl _ (by omega)]
    rw [ht]
    unfold VE.pairOf at ih ⊢
    show (((mvP cl P rows other m).set (cl.getD 0 0) (((mvP cl P rows other m).getD (cl.getD 0 0) []).set (cl.getD (m + 1) 0 - cl.getD 0 0 - 1) (mvR P rows other (cl.getD 0 0) (cl.getD (m + 1) 0)))).getD a []).getD (b - a - 1) [] = _
    generalize cl.getD 0 0 = f at *
    generalize cl.getD (m + 1) 0 = x at *
    by_cases haf : a = f
    · subst haf
      rw [getD_set_any, if_pos ⟨rfl, by rw [mvP_length, hn]; omega⟩, getD_set_any]
      by_cases hbx : b = x
      · subst hbx
        rw [if_pos ⟨rfl, by rw [hrow]; omega⟩, if_pos ⟨rfl, by simp⟩]
      · rw [if_neg (by omega), ih]
        by_cases hmem : b ∈ (cl.drop 1).take m
        · rw [if_pos ⟨rfl, hmem⟩, if_pos ⟨rfl, List.mem_append_left _ hmem⟩]
        · rw [if_neg (fun h => hmem h.2), if_neg (fun h => by rcases List.mem_append.1 h.2 with h | h; exact hmem h; simp at h; exact hbx h)]
    · rw [getD_set_any, if_neg (fun h => haf h.1), ih, if_neg (fun h => haf h.1), if_neg (fun h => haf h.1)]
end
/-- what a move is given -/
structure MvOk (P : List (List (List Nat))) (cl : List Nat) (rows other : List (List Nat)) (n d : Nat) : Prop where
  pn : P.length = n
  pl : ∀ i, i < n → (P.getD i []).length = n - 1 - i
  pd : VE.PairsOk P n d
  pu : ∀ a b, ∀ x ∈ VE.pairOf P a b, x < 4294967296
  rn : rows.length = n
  rd : ∀ i, i < n → (rows.getD i []).length = d
  ru : U32 rows
  qn : other.length = n
  qd : ∀ i, i < n → (other.getD i []).length = d
  qu : U32 other
  lt : ∀ x ∈ cl, x < n
  asc : cl.Pairwise (· < ·)
section
variable {cl : List Nat} {P : List (List (List Nat))} {rows other : List (List Nat)} {n d : Nat}
/-- the moved pairs, all of them -/
abbrev mv (cl : List Nat) (P : List (List (List Nat))) (rows other : List (List Nat)) : List (List (List Nat)) := mvP cl P rows other (cl.length - 1)
theorem MvOk.pair (h : MvOk P cl rows other n d) (a b : Nat) (hab : a < b) (hb : b < n) : VE.pairOf (mv cl P rows other) a b = if a = cl.getD 0 0 ∧ b ∈ cl.drop 1 then mvR P rows other a b else VE.pairOf P a b := by
  rcases Nat.eq_zero_or_pos cl.length with h0 | h0
  · have : cl = [] := List.eq_nil_of_length_eq_zero h0
    subst this
    simp [mv, mvP]
  · have h1 := mvP_pair (rows := rows) (other := other) h.pn h.pl h.lt h.asc (cl.length - 1) (by omega) a b hab hb
    rw [List.take_of_length_le (by simp)] at h1
    exact h1
theorem MvOk.mvR_length (h : MvOk P cl rows other n d) {a b : Nat} (hab : a < b) (hb : b < n) : (mvR P rows other a b).length = d := by
  unfold mvR
  rw [VE.lin_length, VE.lin_length, h.pd a b hab hb, h.qd b hb, h.rd b hb]; simp
theorem MvOk.pairsOk (h : MvOk P cl rows other n d) : VE.PairsOk (mv cl P rows other) n d := fun a b hab hb => by
  rw [h.pair a b hab hb]
  split
  · exact h.mvR_length hab hb
  · exact h.pd a b hab hb
theorem pairOf_getD (P : List (List (List Nat))) (i j : Nat) : (P.getD i []).getD j [] = VE.pairOf P i (i + 1 + j) := by
  unfold VE.pairOf; rw [show i + 1 + j - i - 1 = j by omega]
theorem MvOk.u32 (h : MvOk P cl rows other n d) : ∀ l ∈ mv cl P rows other, U32 l := by
  intro l hl r hr x hx
  obtain ⟨i, hi, rfl⟩ := List.mem_iff_getElem.1 hl
  obtain ⟨j, hj, rfl⟩ := List.mem_iff_getElem.1 hr
  have hin : i < n := by rw [mvP_length, h.pn] at hi; exact hi
  have e : VE.pairOf (mv cl P rows other) i (i + 1 + j) = (mv cl P rows other)[i][j] := by
    have e1 : (mv cl P rows other).getD i [] = (mv cl P rows other)[i] := by rw [List.getD_eq_getElem?_getD, List.getElem?_eq_getElem hi]; rfl
    rw [← pairOf_getD, e1, List.getD_eq_getElem?_getD, List.getElem?_eq_getElem hj]; rfl
  have hlen : ((mv cl P rows other)[i]).length = n - 1 - i := by
    have := mvP_row cl P rows other i (cl.length - 1)
    rw [List.getD_eq_getElem?_getD, List.getElem?_eq_getElem hi, h.pl i hin] at this
    exact this
  rw [← e, h.pair i (i + 1 + j) (by omega) (by omega)] at hx
  split at hx
  · exact VE.lin_lt _ _ _ x hx
  · exact h.pu _ _ x hx
/-! ### what is hidden -/
theorem sI_one {n x : Nat} (v : Int) (hx : x < n) : VE.sI n (fun j => if j = x then v else 0) = v := by
  induction n with
  | zero => omega
  | succ n ih =>
    rw [VE.sI_succ]
    by_cases h : x = n
    · subst h
      rw [if_pos rfl]
      have : VE.sI x (fun j => if j = x then v else 0) = VE.sI x (fun _ => 0) := VE.sI_congr fun i hi => if_neg (by omega)
      rw [this]
      have h0 : ∀ n, VE.sI n (fun _ => 0) = 0 := fun n => by
        induction n with
        | zero => rfl
        | succ n ih => rw [VE.sI_succ, ih]; rfl
      rw [h0]; omega
    · rw [ih (by omega), if_neg (by omega)]; omega
theorem sI_zeros (n : Nat) : VE.sI n (fun _ => 0) = 0 := by
  induction n with
  | zero => rfl
  | succ n ih => rw [VE.sI_succ, ih]; rfl
theorem sI_mem {n : Nat} (F : Nat → Int) : ∀ (T : List Nat), T.Nodup → (∀ x ∈ T, x < n) → VE.sI n (fun j => if j ∈ T then F j else 0) = (T.map F).sum
  | [], _, _ => by
    rw [List.map_nil, List.sum_nil]
    rw [show (fun j => if j ∈ ([] : List Nat) then F j else 0) = fun _ => (0 : Int) from funext fun j => by simp]
    exact sI_zeros n
  | x :: T, hn, hl => by
    have hn' := List.nodup_cons.1 hn
    rw [List.map_cons, List.sum_cons, ← sI_mem F T hn'.2 (fun y hy => hl y (List.mem_cons_of_mem _ hy))]
    have h1 := sI_one (F x) (hl x List.mem_cons_self)
    rw [← h1, ← VE.sI_add]
    refine VE.sI_congr fun j _ => ?_
    by_cases e : j = x
    · subst e; simp [hn'.1]
    · simp [e]
theorem sum_diff (F G : Nat → Nat) : ∀ (l : List Nat), (l.map fun x => ((G x : Int) - (F x : Int))).sum = (((l.map G).sum : Nat) : Int) - (((l.map F).sum : Nat) : Int)
  | [] => rfl
  | x :: l => by
    simp only [List.map_cons, List.sum_cons, Int.natCast_add]
    rw [sum_diff F G l]; omega
theorem picked_cast (cl : List Nat) (rows : List (List Nat)) : picked (cl.map fun (x : Nat) => (x : Int)) rows = cl.map fun x => rows.getD x [] := by
  unfold picked
  rw [List.map_map]
  exact List.map_congr_left fun x _ => by simp
theorem col_map (c : Nat) (cl : List Nat) (rows : List (List Nat)) : VE.col c (cl.map fun x => rows.getD x []) = (cl.map fun x => (rows.getD x []).getD c 0).sum := by
  unfold VE.col
  rw [List.map_map]; rfl
theorem MvOk.good (h : MvOk P cl rows other n d) : VE.good d (cl.map fun x => rows.getD x []) ∧ VE.good d (cl.map fun x => other.getD x []) := by
  constructor <;> intro r hr <;> obtain ⟨x, hx, rfl⟩ := List.mem_map.1 hr
  · exact h.rd x (h.lt x hx)
  · exact h.qd x (h.lt x hx)
theorem MvOk.sum0 (h : MvOk P cl rows other n d) (hs : VE.acc d (picked (cl.map fun (x : Nat) => (x : Int)) rows) = VE.acc d (picked (cl.map fun (x : Nat) => (x : Int)) other)) {c : Nat} (hc : c < d) :
    (cl.map fun x => ((((other.getD x []).getD c 0 : Nat) : Int) - (((rows.getD x []).getD c 0 : Nat) : Int))).sum % 4294967296 = 0 := by
  rw [picked_cast, picked_cast] at hs
  have h1 := VE.acc_getD h.good.1 hc
  have h2 := VE.acc_getD h.good.2 hc
  rw [hs, h2, col_map, col_map] at h1
  rw [sum_diff]
  omega
theorem MvOk.delta (h : MvOk P cl rows other n d) {f : Nat} {T : List Nat} (hcl : cl = f :: T) {c : Nat} (hc : c < d) (i j : Nat) (hi : i < n) (hj : j < n) :
    VE.sg (mv cl P rows other) c i j % 4294967296 = (VE.sg P c i j + (if i = f then (if j ∈ T then ((((other.getD j []).getD c 0 : Nat) : Int) - (((rows.getD j []).getD c 0 : Nat) : Int)) else 0) else if i ∈ T then (if j = f then - ((((other.getD i []).getD c 0 : Nat) : Int) - (((rows.getD i []).getD c 0 : Nat) : Int)) else 0) else 0)) % 4294967296 := by
  have hfT : ∀ x ∈ T, f < x := by have := h.asc; rw [hcl] at this; exact fun x hx => List.rel_of_pairwise_cons this hx
  have hmv : ∀ a b, a < b → b < n → (((mvR P rows other a b).getD c 0 : Nat) : Int) % 4294967296 = ((((VE.pairOf P a b).getD c 0 : Nat) : Int) + ((((other.getD b []).getD c 0 : Nat) : Int) - (((rows.getD b []).getD c 0 : Nat) : Int))) % 4294967296 := fun a b hab hb => by
    unfold mvR
    have l1 : (VE.lin 4294967295 (other.getD b []) (rows.getD b [])).length = d := by rw [VE.lin_length, h.qd b hb, h.rd b hb]; simp
    rw [VE.lin_getD (by rw [h.pd a b hab hb]; exact hc) (by rw [l1]; exact hc), VE.lin_getD (by rw [h.qd b hb]; exact hc) (by rw [h.rd b hb]; exact hc)]
    omega
  have hp := h.pair
  rw [hcl] at hp
  simp only [List.getD_cons_zero, List.drop_succ_cons, List.drop_zero] at hp
  rw [hcl]
  unfold VE.sg
  rcases Nat.lt_trichotomy i j with hij | hij | hij
  · rw [if_pos hij, if_pos hij, hp i j hij hj]
    by_cases e : i = f
    · subst e
      by_cases e2 : j ∈ T
      · rw [if_pos ⟨rfl, e2⟩, if_pos rfl, if_pos e2]; exact hmv i j hij hj
      · rw [if_neg (fun h => e2 h.2), if_pos rfl, if_neg e2]; simp
    · rw [if_neg (fun h => e h.1), if_neg e]
      by_cases e2 : i ∈ T
      · rw [if_pos e2, if_neg (by have := hfT i e2; omega)]; simp
      · rw [if_neg e2]; simp
  · subst hij
    rw [if_neg (by omega), if_neg (by omega), if_neg (by omega), if_neg (by omega)]
    by_cases e : i = f
    · subst e
      rw [if_pos rfl, if_neg (fun h => by have := hfT i h; omega)]; rfl
    · rw [if_neg e]
      split <;> simp
  · rw [if_neg (by omega), if_pos hij, if_neg (by omega), if_pos hij, hp j i hij hi]
    by_cases e : i = f
    · subst e
      rw [if_neg (fun h => by have := hfT i h.2; omega), if_pos rfl, if_neg (fun h => by have := hfT j h; omega)]; simp
    · rw [if_neg e]
      by_cases e2 : i ∈ T
      · rw [if_pos e2]
        by_cases e3 : j = f
        · subst e3
          rw [if_pos ⟨rfl, e2⟩, if_pos rfl]
          have := hmv j i hij hi
          omega
        · rw [if_neg (fun h => e3 h.1), if_neg e3]; simp
      · rw [if_neg (fun h => e2 h.2), if_neg e2]; simp
theorem getD_lt32 {l : List Nat} (h : ∀ x ∈ l, x < 4294967296) (c : Nat) : l.getD c 0 < 4294967296 := by
  rw [List.getD_eq_getElem?_getD]
  by_cases hc : c < l.length
  · rw [List.getElem?_eq_getElem hc]; exact h _ (List.getElem_mem hc)
  · rw [List.getElem?_eq_none (by omega)]; simp
/-- who did not come has the same rows -/
def AgreeN (cl : List Nat) (rows other : List (List Nat)) (n : Nat) : Prop := ∀ i, i < n → i ∈ cl ∨ rows.getD i [] = other.getD i []
theorem MvOk.hid (h : MvOk P cl rows other n d) {own : List (List Nat)} (on_ : own.length = n) (od : ∀ i, i < n → (own.getD i []).length = d) (ha : AgreeN cl rows other n)
    (hs : VE.acc d (picked (cl.map fun (x : Nat) => (x : Int)) rows) = VE.acc d (picked (cl.map fun (x : Nat) => (x : Int)) other)) : VE.hid own P rows = VE.hid own (mv cl P rows other) other := by
  apply rows_eq (by rw [VE.hid_length, VE.hid_length, h.rn, h.qn])
  intro i hi
  rw [VE.hid_length, h.rn] at hi
  rw [VE.hid_getD (by rw [h.rn]; exact hi), VE.hid_getD (by rw [h.qn]; exact hi)]
  unfold VE.hidRow
  rw [h.rn, h.qn]
  have l1 : (VE.lin 1 (rows.getD i []) (own.getD i [])).length = d := by rw [VE.lin_length, h.rd i hi, od i hi]; simp
  have l2 : (VE.lin 1 (other.getD i []) (own.getD i [])).length = d := by rw [VE.lin_length, h.qd i hi, od i hi]; simp
  refine VE.ext (VE.hidR_length h.pd hi l1 n (Nat.le_refl _)) (VE.hidR_length h.pairsOk hi l2 n (Nat.le_refl _)) fun c hc => ?_
  have g1 := VE.hidR_col h.pd hi l1 hc n (Nat.le_refl _)
  have g2 := VE.hidR_col h.pairsOk hi l2 hc n (Nat.le_refl _)
  rw [VE.lin_getD (by rw [h.rd i hi]; exact hc) (by rw [od i hi]; exact hc)] at g1
  rw [VE.lin_getD (by rw [h.qd i hi]; exact hc) (by rw [od i hi]; exact hc)] at g2
  have b1 := getD_lt32 (VE.hidR_lt (P := P) (i := i) (VE.lin_lt 1 (rows.getD i []) (own.getD i [])) n) c
  have b2 := getD_lt32 (VE.hidR_lt (P := mv cl P rows other) (i := i) (VE.lin_lt 1 (other.getD i []) (own.getD i [])) n) c
  have key : VE.sI n (VE.sg (mv cl P rows other) c i) % 4294967296 = (VE.sI n (VE.sg P c i) + ((((rows.getD i []).getD c 0 : Nat) : Int) - (((other.getD i []).getD c 0 : Nat) : Int))) % 4294967296 := by
    cases hcl : cl with
    | nil =>
      have hr : rows.getD i [] = other.getD i [] := (ha i hi).resolve_left (by rw [hcl]; simp)
      rw [hr, Int.sub_self, Int.add_zero]
      rfl
    | cons f T =>
      have hfT : ∀ x ∈ T, f < x := by have := h.asc; rw [hcl] at this; exact fun x hx => List.rel_of_pairwise_cons this hx
      have hT : T.Nodup := by
        have := h.asc; rw [hcl] at this
        exact (List.pairwise_cons.1 this).2.imp fun hab => Nat.ne_of_lt hab
      have hTn : ∀ x ∈ T, x < n := fun x hx => h.lt x (by rw [hcl]; exact List.mem_cons_of_mem _ hx)
      have hfn : f < n := h.lt f (by rw [hcl]; exact List.mem_cons_self)
      rw [← hcl]
      rw [VE.sI_mod (fun j hj => h.delta hcl hc i j hi hj), VE.sI_add]
      by_cases e : i = f
      · subst e
        simp only [if_true]
        rw [sI_mem _ T hT hTn]
        have h0 := h.sum0 hs hc
        rw [hcl, List.map_cons, List.sum_cons] at h0
        omega
      · simp only [if_neg e]
        by_cases e2 : i ∈ T
        · simp only [if_pos e2]
          rw [sI_one _ hfn]
          omega
        · simp only [if_neg e2]
          rw [sI_zeros]
          have hr : rows.getD i [] = other.getD i [] := (ha i hi).resolve_left (by rw [hcl]; simp [e, e2])
          rw [hr, Int.sub_self]
  omega
theorem MvOk.swap (h : MvOk P cl rows other n d) : MvOk (mv cl P rows other) cl other rows n d where
  pn := by rw [mvP_length, h.pn]
  pl := fun i hi => by rw [mvP_row, h.pl i hi]
  pd := h.pairsOk
  pu := fun a b => u32_pair h.u32 a b
  rn := h.qn
  rd := h.qd
  ru := h.qu
  qn := h.rn
  qd := h.rd
  qu := h.ru
  lt := h.lt
  asc := h.asc
theorem rows3_pair {a b : List (List (List Nat))} (ha : a.length = n) (hb : b.length = n) (la : ∀ i, i < n → (a.getD i []).length = n - 1 - i) (lb : ∀ i, i < n → (b.getD i []).length = n - 1 - i) (h : ∀ i j, i < j → j < n → VE.pairOf a i j = VE.pairOf b i j) : a = b := by
  refine rows3_eq (by rw [ha, hb]) fun i hi => rows_eq (by rw [la i (by omega), lb i (by omega)]) fun j hj => ?_
  rw [la i (by omega)] at hj
  rw [pairOf_getD, pairOf_getD]
  exact h _ _ (by omega) (by omega)
theorem MvOk.back (h : MvOk P cl rows other n d) : mv cl (mv cl P rows other) other rows = P := by
  refine rows3_pair (n := n) (by rw [mvP_length, mvP_length, h.pn]) h.pn (fun i hi => by rw [mvP_row, mvP_row, h.pl i hi]) h.pl fun a b hab hb => ?_
  rw [h.swap.pair a b hab hb]
  have hp := h.pair a b hab hb
  by_cases e : a = cl.getD 0 0 ∧ b ∈ cl.drop 1
  · rw [if_pos e]
    rw [if_pos e] at hp
    unfold mvR at hp ⊢
    rw [hp]
    have p1 := h.pd a b hab hb
    have l1 : (VE.lin 4294967295 (other.getD b []) (rows.getD b [])).length = d := by rw [VE.lin_length, h.qd b hb, h.rd b hb]; simp
    have l2 : (VE.lin 4294967295 (rows.getD b []) (other.getD b [])).length = d := by rw [VE.lin_length, h.qd b hb, h.rd b hb]; simp
    have l3 : (VE.lin 1 (VE.pairOf P a b) (VE.lin 4294967295 (other.getD b []) (rows.getD b []))).length = d := by rw [VE.lin_length, p1, l1]; simp
    refine VE.ext (n := d) (by rw [VE.lin_length, l3, l2]; simp) p1 fun c hc => ?_
    rw [VE.lin_getD (by rw [l3]; exact hc) (by rw [l2]; exact hc), VE.lin_getD (by rw [p1]; exact hc) (by rw [l1]; exact hc), VE.lin_getD (by rw [h.qd b hb]; exact hc) (by rw [h.rd b hb]; exact hc), VE.lin_getD (by rw [h.rd b hb]; exact hc) (by rw [h.qd b hb]; exact hc)]
    have b1 := getD_lt32 (h.pu a b) c
    have b2 := getD_lt32 (h.ru.get b) c
    have b3 := getD_lt32 (h.qu.get b) c
    omega
  · rw [if_neg e, hp, if_neg e]
/-! ### what is shown -/
theorem shR_get (came : List Int) (i : Nat) (l : List (List Nat)) : ∀ m j, (shR came i l m).getD j [] = if j < m ∧ j < l.length ∧ SetM.has came (i : Nat) = SetM.has came ((i + j + 1 : Nat) : Int) then clr (l.getD j []) else l.getD j []
  | 0, j => by rw [if_neg (by omega)]; rfl
  | m + 1, j => by
    have ih := shR_get came i l m
    unfold shR
    by_cases hh : SetM.has came (i : Nat) = SetM.has came ((i + m + 1 : Nat) : Int)
    · rw [if_pos hh, getD_set_any]
      by_cases e : j = m
      · subst e
        by_cases hl : j < l.length
        · rw [if_pos ⟨rfl, by rw [shR_length]; exact hl⟩, ih, if_neg (by omega), if_pos ⟨by omega, hl, hh⟩]
        · rw [if_neg (by rw [shR_length]; omega), ih, if_neg (by omega), if_neg (by omega)]
      · rw [if_neg (by omega), ih]
        by_cases h2 : j < m ∧ j < l.length ∧ SetM.has came (i : Nat) = SetM.has came ((i + j + 1 : Nat) : Int)
        · rw [if_pos h2, if_pos ⟨by omega, h2.2⟩]
        · rw [if_neg h2, if_neg (fun h => h2 ⟨by omega, h.2⟩)]
    · rw [if_neg hh, ih]
      by_cases e : j = m
      · subst e
        rw [if_neg (by omega), if_neg (fun h => hh h.2.2)]
      · by_cases h2 : j < m ∧ j < l.length ∧ SetM.has came (i : Nat) = SetM.has came ((i + j + 1 : Nat) : Int)
        · rw [if_pos h2, if_pos ⟨by omega, h2.2⟩]
        · rw [if_neg h2, if_neg (fun h => h2 ⟨by omega, h.2⟩)]
theorem shP_get (came : List Int) (P : List (List (List Nat))) : ∀ m i, (shP came P m).getD i [] = if i < m then shR came i (P.getD i []) (P.getD i []).length else P.getD i []
  | 0, i => by rw [if_neg (by omega)]; rfl
  | m + 1, i => by
    have ih := shP_get came P m
    show ((shP came P m).set m (shR came m ((shP came P m).getD m []) ((shP came P m).getD m []).length)).getD i [] = _
    rw [shP_later came P m m (Nat.le_refl _), getD_set_any]
    by_cases e : i = m
    · subst e
      by_cases hl : i < P.length
      · rw [if_pos ⟨rfl, by rw [shP_length]; exact hl⟩, if_pos (by omega)]
      · rw [if_neg (by rw [shP_length]; omega), ih, if_neg (by omega), if_pos (by omega)]
        have : P.getD i [] = [] := by rw [List.getD_eq_getElem?_getD, List.getElem?_eq_none (by omega)]; rfl
        rw [this]; rfl
    · rw [if_neg (by omega), ih]
      by_cases h2 : i < m
      · rw [if_pos h2, if_pos (by omega)]
      · rw [if_neg h2, if_neg (by omega)]
theorem has_cl {cl : List Nat} {i : Nat} (h : i < 64) : SetM.has (cl.map fun (x : Nat) => (x : Int)) (i : Nat) = decide (i ∈ cl) := by
  rw [SetM.has_iff, (SetM.can_iff _).2 (by omega), Bool.and_true]
  refine decide_eq_decide.2 ?_
  rw [List.mem_map]
  exact ⟨fun ⟨a, h1, h2⟩ => (Int.ofNat_inj.1 h2) ▸ h1, fun h => ⟨i, h, rfl⟩⟩
theorem MvOk.shown (h : MvOk P cl rows other n d) (h64 : n ≤ 64) : shP (cl.map fun (x : Nat) => (x : Int)) (mv cl P rows other) n = shP (cl.map fun (x : Nat) => (x : Int)) P n := by
  refine rows3_eq (by rw [shP_length, shP_length, mvP_length]) fun i hi => ?_
  rw [shP_length, mvP_length, h.pn] at hi
  rw [shP_get, shP_get, if_pos hi, if_pos hi, mvP_row]
  refine rows_eq (by rw [shR_length, shR_length, mvP_row]) fun j hj => ?_
  rw [shR_length, mvP_row, h.pl i hi] at hj
  rw [shR_get, shR_get, mvP_row, pairOf_getD, pairOf_getD, h.pl i hi]
  have l1 : (VE.pairOf (mv cl P rows other) i (i + 1 + j)).length = d := h.pairsOk i _ (by omega) (by omega)
  have l2 : (VE.pairOf P i (i + 1 + j)).length = d := h.pd i _ (by omega) (by omega)
  by_cases e : SetM.has (cl.map fun (x : Nat) => (x : Int)) (i : Nat) = SetM.has (cl.map fun (x : Nat) => (x : Int)) ((i + j + 1 : Nat) : Int)
  · rw [if_pos ⟨hj, hj, e⟩, if_pos ⟨hj, hj, e⟩]
    unfold clr
    rw [l1, l2]
  · rw [if_neg (fun h => e h.2.2), if_neg (fun h => e h.2.2), h.pair i (i + 1 + j) (by omega) (by omega), if_neg]
    rintro ⟨e1, e2⟩
    apply e
    rw [has_cl (by omega), has_cl (by omega)]
    have m2 : i + j + 1 ∈ cl := List.mem_of_mem_drop (by rw [show i + j + 1 = i + 1 + j by omega]; exact e2)
    have m1 : i ∈ cl := by
      cases hcl : cl with
      | nil => rw [hcl] at m2; simp at m2
      | cons f T => rw [hcl] at e1; simp at e1; subst e1; exact List.mem_cons_self
    rw [decide_eq_true m1, decide_eq_true m2]
end
theorem getD_mem {α : Type} {l : List (List α)} {i : Nat} (hi : i < l.length) : l.getD i [] ∈ l := by
  rw [List.getD_eq_getElem?_getD, List.getElem?_eq_getElem hi]; exact List.getElem_mem hi
theorem allB_of {l : List (List Nat)} {n d : Nat} (hn : l.length = n) (h : ∀ i, i < n → (l.getD i []).length = d) : allB l n d = true := by
  unfold allB
  rw [decide_eq_true_iff]
  refine ⟨fun r hr => ?_, by rw [hn]⟩
  obtain ⟨i, hi, rfl⟩ := List.mem_iff_getElem.1 hr
  have := h i (by omega)
  rw [List.getD_eq_getElem?_getD, List.getElem?_eq_getElem hi] at this
  have : (l[i]).length = d := this
  rw [this]
theorem fit_of {own : List (List Nat)} {P : List (List (List Nat))} {rows : List (List Nat)} {n d : Nat} (h64 : n ≤ 64) (h32 : d ≤ 32) (rn : rows.length = n) (rd : ∀ i, i < n → (rows.getD i []).length = d) (hd : dimOf rows = d) (on_ : own.length = n) (od : ∀ i, i < n → (own.getD i []).length = d) (pn : P.length = n) (pl : ∀ i, i < n → (P.getD i []).length = n - 1 - i) (pd : VE.PairsOk P n d) : Fit own P rows := by
  refine ⟨by rw [rn, hd]; exact allB_of rn rd, ?_⟩
  rw [rn, hd]
  refine ⟨⟨by omega, by omega, by omega, by omega⟩, allB_of on_ od, by omega, fun i hi => ?_⟩
  rw [show ((n : Int) - 1 - i) = ((n - 1 - i : Nat) : Int) by omega]
  exact allB_of (pl i (by omega)) fun j hj => by rw [pairOf_getD]; exact pd _ _ (by omega) (by omega)
/-- **the law of a move** -/
theorem moved_law {own : List (List Nat)} {P : List (List (List Nat))} {came : List Int} {rows other : List (List Nat)} (h : MvArg own P came rows other) (hs : MvSum came rows other) (u2 : ∀ l ∈ P, U32 l) (u3 : U32 rows) (u4 : U32 other) {P' : List (List (List Nat))} (hP : mvP (came.map Int.toNat) P rows other (came.length - 1) = P') :
    Fit own P' other ∧ VE.hid own P rows = VE.hid own P' other ∧ shP came P' rows.length = shP came P rows.length ∧ MvArg own P' came other rows ∧ MvSum came other rows ∧ mvP (came.map Int.toNat) P' other rows (came.length - 1) = P ∧ (∀ l ∈ P', U32 l) ∧ other.length = rows.length ∧ dimOf other = dimOf rows ∧ TMay own P rows.length (dimOf rows) ∧ TMay own P' rows.length (dimOf rows) := by
  obtain ⟨⟨hf, ho, hp⟩, ha⟩ := h
  have hq := PlB.nats hp
  obtain ⟨cl, rfl, hlt, hasc⟩ := hq
  have sh := hf.shape
  obtain ⟨n, hn⟩ : ∃ n, rows.length = n := ⟨_, rfl⟩
  obtain ⟨d, hd⟩ : ∃ d, dimOf rows = d := ⟨_, rfl⟩
  have hot := hf.2
  rw [hn, hd] at ho hot
  rw [hn, hd] at sh
  rw [hn] at hlt hp
  have oo := allB_len ho
  have qn : other.length = n := by omega
  have qd : ∀ i, i < n → (other.getD i []).length = d := fun i hi => by have := oo.2 i (by omega); omega
  have ok : MvOk P cl rows other n d := ⟨sh.pn, sh.pl, sh.pd, fun a b => u32_pair u2 a b, hn, sh.rd, u3, qn, qd, u4, hlt, hasc⟩
  have hdo : dimOf other = d := by
    rcases Nat.eq_zero_or_pos n with h0 | h0
    · rw [dimOf_nil (by omega), ← hd, dimOf_nil (by omega)]
    · exact qd 0 h0
  rw [ints_cast, List.length_map] at hP ⊢
  subst hP
  have agN : AgreeN cl rows other n := fun i hi => by
    have h64 := sh.n64
    rcases ha i (by omega) with e | e
    · rw [has_cl (by omega)] at e; exact .inl (of_decide_eq_true e)
    · exact .inr e
  have hs' : VE.acc d (picked (cl.map fun (x : Nat) => (x : Int)) rows) = VE.acc d (picked (cl.map fun (x : Nat) => (x : Int)) other) := by
    unfold MvSum at hs; rw [hd] at hs; exact hs
  have f2 : Fit own (mv cl P rows other) other := fit_of sh.n64 sh.d32 qn qd hdo sh.on sh.od (by rw [mvP_length, ok.pn]) (fun i hi => by rw [mvP_row, ok.pl i hi]) ok.pairsOk
  have f3 : Fit own (mv cl P rows other) rows := fit_of sh.n64 sh.d32 hn sh.rd hd sh.on sh.od (by rw [mvP_length, ok.pn]) (fun i hi => by rw [mvP_row, ok.pl i hi]) ok.pairsOk
  have t3 := f3.2
  rw [hn, hd] at t3
  refine ⟨f2, ok.hid sh.on sh.od agN hs', by rw [hn]; exact ok.shown sh.n64, ⟨⟨f2, by rw [qn, hdo]; exact allB_of hn sh.rd, by rw [qn]; exact hp⟩, fun i hi => ?_⟩, by unfold MvSum; rw [hdo]; exact hs'.symm, ok.back, ok.u32, by omega, by omega, by rw [hn, hd]; exact hot, by rw [hn, hd]; exact t3⟩
  rcases ha i (by omega) with e | e
  · exact .inl e
  · exact .inr e.symm
end Go.Proofs.YtmdilfgeogedpaaDoor
