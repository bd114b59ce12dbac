/- Layer 2: three lists of rows that grow beside each other. -/
import Derived.Test.YtbgmbemaopnjfaaDoorVecA
import Derived.Test.YtbgmbemaopnjfaaDoorBods
namespace Go.Proofs.YtbgmbemaopnjfaaDoor
open Go.RowKit
set_option maxRecDepth 100000 in
theorem elt_sl32 : Elt Tryd.prog 68 58 (.slice none 0 0) 1 24 where
  ht := by kernel_rfl
  hi := ⟨_, rfl, by kernel_rfl, by kernel_rfl, by kernel_rfl⟩
  hzs := rfl
  hsz := by decide
/-- rows, each beside the heads hs -/
structure RowsF (w : World) (hs : List (Option Addr)) (vs : List Value) (l : List (List Nat)) : Prop where
  len : vs.length = l.length
  each : ∀ (i : Nat) (v : Value) (b : List Nat), vs[i]? = some v → l[i]? = some b → ∃ A1 c1, v = .slice A1 b.length c1 ∧ At w A1 (nats .u32 b) ∧ b ≠ [] ∧ b.length ≤ c1 ∧ c1 ≤ maxLen ∧ ∀ H ∈ hs, blk A1 ≠ blk H
section
variable {w w' : World} {hs hs' : List (Option Addr)} {vs : List Value} {l : List (List Nat)}
theorem nats_ne {k : IntKind} {b : List Nat} (h : b ≠ []) : nats k b ≠ [] := by
  cases b with
  | nil => exact absurd rfl h
  | cons x b => simp [nats]
theorem RowsF.nil (w : World) (hs : List (Option Addr)) : RowsF w hs [] [] := ⟨rfl, by intro i v b h; simp at h⟩
theorem RowsF.later (h : RowsF w hs vs l) (hb : Below w.heap.size w w') : RowsF w' hs vs l := ⟨h.len, fun i v b h1 h2 => by
  obtain ⟨A1, c1, e1, h2, h3⟩ := h.each i v b h1 h2
  exact ⟨A1, c1, e1, h2.later hb (Nat.le_refl _), h3⟩⟩
theorem RowsF.grown {H : Option Addr} (h : RowsF w hs vs l) (hH : H ∈ hs) (hg : w.grownBy w' (blk H)) : RowsF w' hs vs l := ⟨h.len, fun i v b h1 h2 => by
  obtain ⟨A1, c1, e1, h2, h3, h4, h5, h6⟩ := h.each i v b h1 h2
  exact ⟨A1, c1, e1, h2.grown hg (.inr (h6 H hH)), h3, h4, h5, h6⟩⟩
/-- other heads: each one of the old ones' blocks, or a new one -/
theorem RowsF.heads (h : RowsF w hs vs l) (hh : ∀ H' ∈ hs', (∃ H ∈ hs, blk H' = blk H) ∨ (∃ s, blk H' = some s ∧ w.heap.size ≤ s)) : RowsF w hs' vs l := ⟨h.len, fun i v b h1 h2 => by
  obtain ⟨A1, c1, e1, h2, h3, h4, h5, h6⟩ := h.each i v b h1 h2
  refine ⟨A1, c1, e1, h2, h3, h4, h5, fun H' hH' => ?_⟩
  rcases hh H' hH' with ⟨H, hH, e⟩ | ⟨s, e, hs⟩
  · rw [e]; exact h6 H hH
  · intro e2
    have := h2.lt (nats_ne h3) s (e2.trans e)
    omega⟩
theorem RowsF.snoc (h : RowsF w hs vs l) {A1 : Option Addr} {c1 : Nat} {b : List Nat} (h2 : At w A1 (nats .u32 b)) (h3 : b ≠ []) (h4 : b.length ≤ c1) (h5 : c1 ≤ maxLen) (h6 : ∀ H ∈ hs, blk A1 ≠ blk H) : RowsF w hs (vs ++ [.slice A1 b.length c1]) (l ++ [b]) := ⟨by simp [h.len], fun i v b' e1 e2 => by
  rcases Nat.lt_trichotomy i l.length with hi | hi | hi
  · rw [List.getElem?_append_left (by rw [h.len]; exact hi)] at e1
    rw [List.getElem?_append_left hi] at e2
    exact h.each i v b' e1 e2
  · subst hi
    rw [List.getElem?_append_right (by rw [h.len]; exact Nat.le_refl _), h.len, Nat.sub_self] at e1
    rw [List.getElem?_append_right (Nat.le_refl _), Nat.sub_self] at e2
    simp at e1 e2; subst e1; subst e2
    exact ⟨A1, c1, rfl, h2, h3, h4, h5, h6⟩
  · rw [List.getElem?_eq_none (by simp; omega)] at e2; cases e2⟩
end
def away (A B : Option Addr) : Prop := blk A = none ∨ blk A ≠ blk B
/-- three lists of rows -/
structure Tri (B : Nat) (w0 w : World) (A1 : Option Addr) (n1 c1 : Nat) (v1 : List Value) (l1 : List (List Nat)) (A2 : Option Addr) (n2 c2 : Nat) (v2 : List Value) (l2 : List (List Nat)) (A3 : Option Addr) (n3 c3 : Nat) (v3 : List Value) (l3 : List (List Nat)) : Prop where
  o1 : Own w B 58 1 A1 n1 c1 v1
  o2 : Own w B 58 1 A2 n2 c2 v2
  o3 : Own w B 58 1 A3 n3 c3 v3
  r1 : RowsF w [A1, A2, A3] v1 l1
  r2 : RowsF w [A1, A2, A3] v2 l2
  r3 : RowsF w [A1, A2, A3] v3 l3
  a21 : away A2 A1
  a31 : away A3 A1
  a12 : away A1 A2
  a32 : away A3 A2
  a13 : away A1 A3
  a23 : away A2 A3
  bel : Below B w0 w
section
variable {B : Nat} {w0 w w' : World} {A1 A2 A3 A4 : Option Addr} {n1 n2 n3 c1 c2 c3 c4 : Nat} {v1 v2 v3 : List Value} {l1 l2 l3 : List (List Nat)}
theorem RowsF.perm {hs hs' : List (Option Addr)} {vs : List Value} {l : List (List Nat)} (h : RowsF w hs vs l) (hh : ∀ H ∈ hs', H ∈ hs) : RowsF w hs' vs l := ⟨h.len, fun i v b h1 h2 => by
  obtain ⟨A, c, e1, h2, h3, h4, h5, h6⟩ := h.each i v b h1 h2
  exact ⟨A, c, e1, h2, h3, h4, h5, fun H hH => h6 H (hh H hH)⟩⟩
theorem Tri.turn (h : Tri B w0 w A1 n1 c1 v1 l1 A2 n2 c2 v2 l2 A3 n3 c3 v3 l3) : Tri B w0 w A2 n2 c2 v2 l2 A3 n3 c3 v3 l3 A1 n1 c1 v1 l1 where
  o1 := h.o2
  o2 := h.o3
  o3 := h.o1
  r1 := h.r2.perm (by simp)
  r2 := h.r3.perm (by simp)
  r3 := h.r1.perm (by simp)
  a21 := h.a32
  a31 := h.a12
  a12 := h.a23
  a32 := h.a13
  a13 := h.a21
  a23 := h.a31
  bel := h.bel
theorem Tri.later (h : Tri B w0 w A1 n1 c1 v1 l1 A2 n2 c2 v2 l2 A3 n3 c3 v3 l3) (hb : Below w.heap.size w w') (hB : B ≤ w.heap.size) : Tri B w0 w' A1 n1 c1 v1 l1 A2 n2 c2 v2 l2 A3 n3 c3 v3 l3 where
  o1 := h.o1.below hb (Nat.le_refl _)
  o2 := h.o2.below hb (Nat.le_refl _)
  o3 := h.o3.below hb (Nat.le_refl _)
  r1 := h.r1.later hb
  r2 := h.r2.later hb
  r3 := h.r3.later hb
  a21 := h.a21
  a31 := h.a31
  a12 := h.a12
  a32 := h.a32
  a13 := h.a13
  a23 := h.a23
  bel := h.bel.trans (hb.mono hB)
theorem Tri.start (w : World) : Tri w.heap.size w w none 0 0 [] [] none 0 0 [] [] none 0 0 [] [] :=
  ⟨Own.none_ _ _ _ _, Own.none_ _ _ _ _, Own.none_ _ _ _ _, RowsF.nil _ _, RowsF.nil _ _, RowsF.nil _ _, .inl rfl, .inl rfl, .inl rfl, .inl rfl, .inl rfl, .inl rfl, Below.refl _ _⟩
theorem own_size {e : TypeId} {A : Option Addr} {n c : Nat} {xs : List Value} (h : Own w B e 1 A n c xs) {s : Nat} (hs : w.heap.size ≤ s) : blk A = none ∨ blk A ≠ some s := by
  cases hb : blk A with
  | none => exact .inl rfl
  | some k => exact .inr (by intro e; injection e with e; have := (h.lt k hb).2; omega)
/-- one row more in the first list: it was laid behind all, then the head grew -/
theorem Tri.push (h : Tri B w0 w A1 n1 c1 v1 l1 A2 n2 c2 v2 l2 A3 n3 c3 v3 l3) (hB : B ≤ w.heap.size) {Ar : Option Addr} {cr nb : Nat} {b : List Nat} (hnb : b.length = nb)
    (hat : At w Ar (nats .u32 b)) (hb0 : b ≠ []) (hbc : nb ≤ cr) (hcm : cr ≤ maxLen) (hfar : ∀ H ∈ [A1, A2, A3], blk Ar ≠ blk H)
    (hg : w.grownBy w' (blk A1)) (ho : Own w' B 58 1 A4 (n1 + 1) c4 (v1 ++ [.slice Ar nb cr])) (hA : blk A4 = blk A1 ∨ ∃ s, blk A4 = some s ∧ w.heap.size ≤ s) :
    Tri B w0 w' A4 (n1 + 1) c4 (v1 ++ [.slice Ar nb cr]) (l1 ++ [b]) A2 n2 c2 v2 l2 A3 n3 c3 v3 l3 := by
  subst hnb
  have key : ∀ H' ∈ [A4, A2, A3], (∃ H ∈ [A1, A2, A3], blk H' = blk H) ∨ (∃ s, blk H' = some s ∧ w.heap.size ≤ s) := by
    intro H' hH'
    simp at hH'
    rcases hH' with rfl | rfl | rfl
    · rcases hA with e | e
      · exact .inl ⟨A1, by simp, e⟩
      · exact .inr e
    · exact .inl ⟨H', by simp, rfl⟩
    · exact .inl ⟨H', by simp, rfl⟩
  have far4 : ∀ {A : Option Addr} {n c : Nat} {xs : List Value}, Own w B 58 1 A n c xs → away A A1 → away A1 A → away A A4 ∧ away A4 A := by
    intro A n c xs o a1 a2
    rcases hA with e | ⟨s, e, hs⟩
    · exact ⟨by unfold away; rw [e]; exact a1, by unfold away; rw [e]; exact a2⟩
    · refine ⟨by unfold away; rw [e]; exact own_size o hs, .inr ?_⟩
      rw [e]
      rcases own_size o hs with h | h
      · rw [h]; simp
      · exact fun e2 => h e2.symm
  have f2 := far4 h.o2 h.a21 h.a12
  have f3 := far4 h.o3 h.a31 h.a13
  have m1 : A1 ∈ [A1, A2, A3] := by simp
  have gr : ∀ {vs : List Value} {l : List (List Nat)}, RowsF w [A1, A2, A3] vs l → RowsF w' [A4, A2, A3] vs l := by
    intro vs l r
    have r' := r.heads key
    exact ⟨r'.len, fun i v b e1 e2 => by
      obtain ⟨A, c, x1, x2, x3, x4, x5, x6⟩ := r.each i v b e1 e2
      obtain ⟨A', c', y1, y2, y3, y4, y5, y6⟩ := r'.each i v b e1 e2
      rw [x1] at y1; injection y1 with z1 z2 z3
      subst z1; subst z3
      exact ⟨A, c, x1, x2.grown hg (.inr (x6 A1 m1)), x3, x4, x5, y6⟩⟩
  refine ⟨ho, h.o2.kept hg h.a21, h.o3.kept hg h.a31, ?_, gr h.r2, gr h.r3, f2.1, f3.1, f2.2, h.a32, f3.2, h.a23, ?_⟩
  · refine (gr h.r1).snoc (hat.grown hg (.inr (hfar A1 m1))) hb0 hbc hcm ?_
    intro H' hH'
    rcases key H' hH' with ⟨H, hH, e⟩ | ⟨s, e, hs⟩
    · rw [e]; exact hfar H hH
    · intro e2
      have := hat.lt (nats_ne hb0) s (e2.trans e)
      omega
  · exact h.bel.grown hg hB (fun k hk => (h.o1.lt k hk).1)
theorem Tri.far (h : Tri B w0 w A1 n1 c1 v1 l1 A2 n2 c2 v2 l2 A3 n3 c3 v3 l3) {Ar : Option Addr} {b : List Nat} (hat : At w' Ar (nats .u32 b)) (hb0 : b ≠ []) (hK : ∀ k, blk Ar = some k → w.heap.size ≤ k) : ∀ H ∈ [A1, A2, A3], blk Ar ≠ blk H := by
  have lt : ∀ {A : Option Addr} {n c : Nat} {xs : List Value}, Own w B 58 1 A n c xs → blk Ar ≠ blk A := by
    intro A n c xs o e
    cases b with
    | nil => exact absurd rfl hb0
    | cons x b =>
      obtain ⟨bb, oo, e2, _⟩ := hat 0 _ rfl
      have h1 : blk Ar = some bb := by rw [e2]; rfl
      have h2 := hK bb h1
      have h3 := (o.lt bb (e ▸ h1)).2
      omega
  intro H hH
  simp at hH
  rcases hH with rfl | rfl | rfl
  · exact lt h.o1
  · exact lt h.o2
  · exact lt h.o3
theorem RowsF.rows {hs : List (Option Addr)} {vs : List Value} {l : List (List Nat)} (h : RowsF w hs vs l) {A : Option Addr} (ha : At w A vs) : Rows_ w .u32 A vs l where
  at_ := ha
  len := h.len
  each := fun i v b h1 h2 => by
    obtain ⟨A1, c1, e1, h2, h3, h4, h5, _⟩ := h.each i v b h1 h2
    refine ⟨A1, c1, e1, h2, fun e => ?_, h4, h5⟩
    cases b with
    | nil => exact absurd rfl h3
    | cons x b => obtain ⟨bb, oo, e2, _⟩ := h2 0 _ rfl; rw [e] at e2; cases e2
end
theorem flat_drop : ∀ (i : Nat) (l : List (List Nat)), VE.good 8 l → i < l.length → l.flatten.drop (i * 8) = l.getD i [] ++ (l.drop (i + 1)).flatten
  | _, [], _, h => by simp at h
  | 0, r :: l, _, _ => by simp
  | i + 1, r :: l, hg, h => by
    have hr : r.length = 8 := hg r (by simp)
    have ih := flat_drop i l (fun x hx => hg x (by simp [hx])) (by simpa using h)
    have e : (i + 1) * 8 = r.length + i * 8 := by omega
    rw [List.flatten_cons, e, ← List.drop_drop, List.drop_left, ih]
    simp
theorem At.row8 {w : World} {k : IntKind} {b o : Nat} {l : List (List Nat)} (h : At w (some ⟨b, o, none⟩) (nats k l.flatten)) (hg : VE.good 8 l) (i : Nat) (hi : i < l.length) : At w (some ⟨b, o + i * 8, none⟩) (nats k (l.getD i [])) := by
  have h1 := h.cut (m := i * 8)
  rw [← nats_drop, flat_drop i l hg hi] at h1
  have h2 := h1.take (m := (l.getD i []).length)
  rw [← nats_take, List.take_left] at h2
  exact h2
theorem getD_mem {l : List (List Nat)} {i : Nat} (h : i < l.length) : l.getD i [] ∈ l := by
  rw [show l.getD i [] = l[i] by simp [List.getD_eq_getElem?_getD, List.getElem?_eq_getElem h]]
  exact List.getElem_mem _
theorem take_snocR {l : List (List Nat)} {k : Nat} (h : k < l.length) : l.take (k + 1) = l.take k ++ [l.getD k []] := by
  rw [List.take_succ_eq_append_getElem h]; simp [List.getD_eq_getElem?_getD, List.getElem?_eq_getElem h]
theorem Rows_.take {w : World} {k : IntKind} {A : Option Addr} {vs : List Value} {l : List (List Nat)} (h : Rows_ w k A vs l) (m : Nat) : Rows_ w k A (vs.take m) (l.take m) where
  at_ := h.at_.take
  len := by simp [h.len]
  each := fun i v b h1 h2 => by
    by_cases hi : i < m
    · rw [List.getElem?_take, if_pos hi] at h1 h2
      exact h.each i v b h1 h2
    · rw [List.getElem?_take, if_neg hi] at h1; cases h1
theorem Rows_.drop {w : World} {k : IntKind} {b o : Nat} {vs : List Value} {l : List (List Nat)} (h : Rows_ w k (some ⟨b, o, none⟩) vs l) (m : Nat) : Rows_ w k (some ⟨b, o + m, none⟩) (vs.drop m) (l.drop m) where
  at_ := h.at_.cut
  len := by simp [h.len]
  each := fun i v b h1 h2 => by
    rw [List.getElem?_drop] at h1 h2
    exact h.each (m + i) v b h1 h2
theorem lit_grown {w w5 : World} {o : Obj} (g5 : (w.alloc o).grownBy w5 (blk (some ⟨w.heap.size, 0, none⟩))) : Below w.heap.size w w5 :=
  ((Below.refl _ _).alloc (Nat.le_refl _) o).grown g5 (by simp) (fun k hk => by simp [blk] at hk; omega)
theorem lit_far {w : World} {o : Obj} {A5 : Option Addr} (k5 : blk A5 = blk (some ⟨w.heap.size, 0, none⟩) ∨ blk A5 = some (w.alloc o).heap.size) : ∀ k, blk A5 = some k → w.heap.size ≤ k := by
  intro k hk
  rw [hk] at k5
  simp [blk] at k5
  omega
theorem new_of {w w' : World} {A A' : Option Addr} (h : blk A' = blk A ∨ blk A' = some w.heap.size) (hs : w'.heap.size ≤ w.heap.size) : blk A' = blk A ∨ ∃ s, blk A' = some s ∧ w'.heap.size ≤ s := by
  rcases h with h | h
  · exact .inl h
  · exact .inr ⟨_, h, hs⟩
end Go.Proofs.YtbgmbemaopnjfaaDoor
