/- Layer 37: rows made by package vec, each the call's own; rows beside a head; a table's pair. Printed by idc.py. -/
import Derived.Test.YtmdilfgeogedpaaDoorIdB
namespace Go.Proofs.YtmdilfgeogedpaaDoor
open Go.RowKit
set_option maxRecDepth 100000 in
theorem elt_sl32 : Elt Tryd.prog 22 54 (.slice none 0 0) 1 24 where
  ht := by kernel_rfl
  hi := ⟨_, rfl, by kernel_rfl, by kernel_rfl, by kernel_rfl⟩
  hzs := rfl
  hsz := by decide
theorem ownsRow_le_ {w : World} {B B' : Nat} {e : TypeId} {size : Nat} {A : Option Addr} {n c : Nat} {xs : List Value} (h : Own w B e size A n c xs) (hb : B' ≤ B) : Own w B' e size A n c xs := by
  refine ⟨h.1, ?_⟩
  rcases h.2 with h0 | ⟨g, cap, cur, h1, h2, h3⟩
  · exact .inl h0
  · exact .inr ⟨g, cap, cur, h1, Nat.le_trans hb h2, h3⟩
/-- a row that a call made, its own, and no error -/
def RowO (w : World) (l : List Nat) (e : Ending) (w' : World) : Prop :=
  ∃ A c, e = .returned (.tuple #[.slice A l.length c, .nilIface]) ∧ Own w' w.heap.size 61 1 A l.length c (nats .u32 l) ∧ Below w.heap.size w w'
set_option maxRecDepth 100000 in
set_option maxHeartbeats 1000000 in
theorem vadd_own (A : Option Addr) (n c : Nat) (l : List Nat) (A2 : Option Addr) (n2 c2 : Nat) (l2 : List Nat) (w : World) (hl : l.length = n) (hl2 : l2.length = n2) (hn : n ≤ 9223372036854775807) (hn2 : n2 ≤ 9223372036854775807) (ha : At w A (nats .u32 l)) (ha2 : At w A2 (nats .u32 l2)) (hr : ∀ x ∈ l, x < 4294967296) (hr2 : ∀ x ∈ l2, x < 4294967296) (h32 : n ≤ 32) (hnn : n = n2) :
    Calls Tryd.prog 26 #[.slice A n c, .slice A2 n2 c2] w (RowO w (VE.lin 1 l l2)) := by
  have hcap : Cap (w.alloc (.cells #[.slice none 0 0] 54)) w.heap.size [] := ⟨none, 0, Holds.new w _ _ _ rfl, Own.none_ _ _ _ _⟩
  have C := both_add A n c l A2 n2 c2 l2 w.heap.size w (w.alloc (.cells #[.slice none 0 0] 54)) hl hl2 hn hn2 ha ha2 hr hr2 ((Below.refl _ _).alloc (Nat.le_refl _) _) (Nat.le_refl _) hcap h32 hnn
  have HC := Lib.hid C
  clear C hl hl2 ha ha2 hr hr2 hcap hnn
  go_enter Tryd.func26, Tryd.ntmps26
  go_wp2_with fail
  refine HC.out.mono ?_
  rintro e w1 ⟨rfl, ⟨A3, c3, hh, ho⟩, hb⟩
  have hce : w1.cell? ⟨w.heap.size, 0, none⟩ = some (.slice A3 (VE.lin 1 l l2).length c3) := hh.cell 0
  have HHO := Lib.hid ho
  have HBB := Lib.hid (((Below.refl w.heap.size w).alloc (Nat.le_refl _) _).trans hb)
  clear hh ho hb
  go_wp2_with fail
  go_ret2
  exact ⟨A3, c3, rfl, ownsRow_le_ HHO.out (by omega), HBB.out⟩
set_option maxRecDepth 100000 in
set_option maxHeartbeats 1000000 in
theorem vsub_own (A : Option Addr) (n c : Nat) (l : List Nat) (A2 : Option Addr) (n2 c2 : Nat) (l2 : List Nat) (w : World) (hl : l.length = n) (hl2 : l2.length = n2) (hn : n ≤ 9223372036854775807) (hn2 : n2 ≤ 9223372036854775807) (ha : At w A (nats .u32 l)) (ha2 : At w A2 (nats .u32 l2)) (hr : ∀ x ∈ l, x < 4294967296) (hr2 : ∀ x ∈ l2, x < 4294967296) (h32 : n ≤ 32) (hnn : n = n2) :
    Calls Tryd.prog 28 #[.slice A n c, .slice A2 n2 c2] w (RowO w (VE.lin 4294967295 l l2)) := by
  have hcap : Cap (w.alloc (.cells #[.slice none 0 0] 54)) w.heap.size [] := ⟨none, 0, Holds.new w _ _ _ rfl, Own.none_ _ _ _ _⟩
  have C := both_sub A n c l A2 n2 c2 l2 w.heap.size w (w.alloc (.cells #[.slice none 0 0] 54)) hl hl2 hn hn2 ha ha2 hr hr2 ((Below.refl _ _).alloc (Nat.le_refl _) _) (Nat.le_refl _) hcap h32 hnn
  have HC := Lib.hid C
  clear C hl hl2 ha ha2 hr hr2 hcap hnn
  go_enter Tryd.func28, Tryd.ntmps28
  go_wp2_with fail
  refine HC.out.mono ?_
  rintro e w1 ⟨rfl, ⟨A3, c3, hh, ho⟩, hb⟩
  have hce : w1.cell? ⟨w.heap.size, 0, none⟩ = some (.slice A3 (VE.lin 4294967295 l l2).length c3) := hh.cell 0
  have HHO := Lib.hid ho
  have HBB := Lib.hid (((Below.refl w.heap.size w).alloc (Nat.le_refl _) _).trans hb)
  clear hh ho hb
  go_wp2_with fail
  go_ret2
  exact ⟨A3, c3, rfl, ownsRow_le_ HHO.out (by omega), HBB.out⟩
/-- rows, each beside the head H -/
structure RowsG (w : World) (H : Option Addr) (vs : List Value) (l : List (List Nat)) : Prop where
  len : vs.length = l.length
  each : ∀ (i : Nat) (v : Value) (b : List Nat), vs[i]? = some v → l[i]? = some b → ∃ A1 c1, v = .slice A1 b.length c1 ∧ At w A1 (nats .u32 b) ∧ (A1 = none → b.length = 0) ∧ b.length ≤ c1 ∧ c1 ≤ maxLen ∧ (b = [] ∨ blk A1 ≠ blk H)
section
variable {w w' : World} {H H' : Option Addr} {vs : List Value} {l : List (List Nat)}
theorem natsne {k : IntKind} {b : List Nat} (h : b ≠ []) : nats k b ≠ [] := by
  cases b with
  | nil => exact absurd rfl h
  | cons x b => simp [nats]
theorem RowsG.nil (w : World) (H : Option Addr) : RowsG w H [] [] := ⟨rfl, by intro i v b h; simp at h⟩
theorem RowsG.later (h : RowsG w H vs l) (hb : Below w.heap.size w w') : RowsG w' H vs l := ⟨h.len, fun i v b h1 h2 => by
  obtain ⟨A1, c1, e1, h2, h3⟩ := h.each i v b h1 h2
  exact ⟨A1, c1, e1, h2.later hb (Nat.le_refl _), h3⟩⟩
theorem RowsG.grown (h : RowsG w H vs l) (hg : w.grownBy w' (blk H)) : RowsG w' H vs l := ⟨h.len, fun i v b h1 h2 => by
  obtain ⟨A1, c1, e1, h2, h3, h4, h5, h6⟩ := h.each i v b h1 h2
  refine ⟨A1, c1, e1, ?_, h3, h4, h5, h6⟩
  rcases h6 with rfl | h6
  · exact At.nil _ _
  · exact h2.grown hg (.inr h6)⟩
/-- another head: the old one's block, or a new one -/
theorem RowsG.head (h : RowsG w H vs l) (hh : blk H' = blk H ∨ ∃ s, blk H' = some s ∧ w.heap.size ≤ s) : RowsG w H' vs l := ⟨h.len, fun i v b h1 h2 => by
  obtain ⟨A1, c1, e1, h2, h3, h4, h5, h6⟩ := h.each i v b h1 h2
  refine ⟨A1, c1, e1, h2, h3, h4, h5, ?_⟩
  by_cases hb : b = []
  · exact .inl hb
  · right
    rcases hh with e | ⟨s, e, hs⟩
    · rw [e]; exact h6.resolve_left hb
    · intro e2
      have := h2.lt (natsne hb) s (e2.trans e)
      omega⟩
theorem RowsG.turn (h : RowsG w H vs l) (hg : w.grownBy w' (blk H)) (hh : blk H' = blk H ∨ ∃ s, blk H' = some s ∧ w.heap.size ≤ s) : RowsG w' H' vs l := by
  have h1 := h.grown hg
  have h2 := h.head hh
  refine ⟨h.len, fun i v b e1 e2 => ?_⟩
  obtain ⟨A1, c1, q1, q2, q3, q4, q5, _⟩ := h1.each i v b e1 e2
  obtain ⟨A2, c2, r1, _, _, _, _, r6⟩ := h2.each i v b e1 e2
  rw [q1] at r1
  injection r1 with r1
  subst r1
  exact ⟨A1, c1, q1, q2, q3, q4, q5, r6⟩
theorem RowsG.snoc (h : RowsG w H vs l) {A1 : Option Addr} {c1 : Nat} {b : List Nat} (h2 : At w A1 (nats .u32 b)) (h3 : A1 = none → b.length = 0) (h4 : b.length ≤ c1) (h5 : c1 ≤ maxLen) (h6 : b = [] ∨ blk A1 ≠ blk H) : RowsG w H (vs ++ [.slice A1 b.length c1]) (l ++ [b]) := ⟨by simp [h.len], fun i v b' e1 e2 => by
  rcases Nat.lt_trichotomy i l.length with hi | hi | hi
  · rw [List.getElem?_append_left (by rw [h.len]; exact hi)] at e1
    rw [List.getElem?_append_left hi] at e2
    exact h.each i v b' e1 e2
  · subst hi
    rw [List.getElem?_append_right (by rw [h.len]; exact Nat.le_refl _), h.len, Nat.sub_self] at e1
    rw [List.getElem?_append_right (Nat.le_refl _), Nat.sub_self] at e2
    simp at e1 e2; subst e1; subst e2
    exact ⟨A1, c1, rfl, h2, h3, h4, h5, h6⟩
  · rw [List.getElem?_eq_none (by simp; omega)] at e2; cases e2⟩
theorem RowsG.rows {A : Option Addr} (h : RowsG w H vs l) (ha : At w A vs) : Rows_ w .u32 A vs l where
  at_ := ha
  len := h.len
  each := fun i v b h1 h2 => by
    obtain ⟨A1, c1, e1, h2, h3, h4, h5, _⟩ := h.each i v b h1 h2
    exact ⟨A1, c1, e1, h2, h3, h4, h5⟩
end
/-- rows that grow, one behind the other, all made since B -/
structure Out (B : Nat) (w0 w : World) (A : Option Addr) (k c : Nat) (vs : List Value) (l : List (List Nat)) : Prop where
  own : Own w B 54 1 A k c vs
  rows : RowsG w A vs l
  low : Below B w0 w
theorem Out.start (w : World) : Out w.heap.size w w none 0 0 [] [] := ⟨Own.none_ _ _ _ _, RowsG.nil _ _, Below.refl _ _⟩
theorem Out.later {B : Nat} {w0 w w' : World} {A : Option Addr} {k c : Nat} {vs : List Value} {l : List (List Nat)} (h : Out B w0 w A k c vs l) (hb : Below w.heap.size w w') (hB : B ≤ w.heap.size) : Out B w0 w' A k c vs l :=
  ⟨h.own.below hb (Nat.le_refl _), h.rows.later hb, h.low.trans (hb.mono hB)⟩
/-- one more row: behind the literal's world the append's -/
theorem Out.push {B : Nat} {w0 w w' : World} {A A' : Option Addr} {k c c' : Nat} {vs : List Value} {l : List (List Nat)} (h : Out B w0 w A k c vs l) (hB : B ≤ w.heap.size) {Ar : Option Addr} {cr : Nat} {b : List Nat}
    (h2 : At w Ar (nats .u32 b)) (h3 : Ar = none → b.length = 0) (h4 : b.length ≤ cr) (h5 : cr ≤ maxLen) (h6 : b = [] ∨ blk Ar ≠ blk A)
    (ho : Own w' B 54 1 A' (k + 1) c' (vs ++ [.slice Ar b.length cr])) (hg : (w.alloc (.cells #[.slice Ar b.length cr] 54)).grownBy w' (blk A)) (hA : blk A' = blk A ∨ blk A' = some (w.alloc (.cells #[.slice Ar b.length cr] 54)).heap.size) :
    Out B w0 w' A' (k + 1) c' (vs ++ [.slice Ar b.length cr]) (l ++ [b]) := by
  have NB := (Below.refl w.heap.size w).alloc (Nat.le_refl _) (.cells #[.slice Ar b.length cr] 54)
  have hs : w.heap.size < (w.alloc (.cells #[.slice Ar b.length cr] 54)).heap.size := by simp
  have R := ((h.rows.snoc h2 h3 h4 h5 h6).later NB).turn (H' := A') hg (by
    rcases hA with e | e
    · exact .inl e
    · exact .inr ⟨_, e, Nat.le_refl _⟩)
  exact ⟨ho, R, (h.low.trans (NB.mono hB)).grown hg (Nat.le_trans hB (Nat.le_of_lt hs)) (fun j hj => (h.own.lt j hj).1)⟩
section
variable (A : Option Addr) (n c : Nat) (A2 : Option Addr) (n2 c2 : Nat) (vs2 : List Value) (P : List (List (List Nat)))
/-- a row that is a table's -/
def RowR (w : World) (l : List Nat) (e : Ending) (w' : World) : Prop :=
  ∃ A c, e = .returned (.slice A l.length c) ∧ At w' A (nats .u32 l) ∧ l.length ≤ c ∧ c ≤ maxLen ∧ Below w.heap.size w w'
set_option maxRecDepth 100000 in
set_option maxHeartbeats 1000000 in
theorem pair_any (i j : Nat) (w : World) (hl2 : P.length = n2) (hn2 : n2 ≤ 1000) (hr2 : Rows3 w .u32 A2 vs2 P) (hij : i < j) (hi : i < n2) (hj : j - i - 1 < (P.getD i []).length) (hj2 : j ≤ 1000) (hlen : (P.getD i []).length ≤ 1000) :
    Calls Tryd.prog 27 #[.agg #[.slice A n c, .slice A2 n2 c2], .int .i64 i, .int .i64 j] w (RowR w (VE.pairOf P i j)) := by
  have HB0 := (Below.refl w.heap.size w).alloc (Nat.le_refl _) (.cells #[.slice A n c, .slice A2 n2 c2] 32)
  obtain ⟨b, o, A1, c1, ws, rfl, hcell, hrows, _, hle, hcm, _⟩ := (hr2.later HB0 (Nat.le_refl _)).get i (by omega)
  obtain ⟨b2, o2, A3, c3, rfl, hcell2, hat, _, hle2, hcm2, _⟩ := hrows.get (j - i - 1) hj
  obtain ⟨m, hm⟩ : ∃ m, (P.getD i []).length = m := ⟨_, rfl⟩
  rw [hm] at hcell hle hj hlen
  obtain ⟨q, hq⟩ : ∃ q, j - i - 1 = q := ⟨_, rfl⟩
  have hR : (P.getD i []).getD (j - i - 1) [] = VE.pairOf P i j := rfl
  rw [hR] at hcell2 hat hle2
  rw [hq] at hcell2 hj
  obtain ⟨r, hr⟩ : ∃ r, (VE.pairOf P i j).length = r := ⟨_, rfl⟩
  rw [hr] at hcell2 hle2
  have HT := Lib.hid hat
  have HB := Lib.hid HB0
  have HRL := Lib.hid hr
  have HL3 := Lib.hid hle2
  have HC3 := Lib.hid hcm2
  have e1 : (j : Int) - i - 1 = q := by omega
  have hiI : (i : Int) < n2 := by omega
  have hqI : (q : Int) < m := by omega
  clear hl2 hr2 hrows hm hq hR hat HB0 hr hle2 hcm2
  go_enter Tryd.func27, Tryd.ntmps27
  go_wp2_with fail
  go_ret
  exact ⟨A3, c3, by rw [HRL.out]; rfl, HT.out, by rw [HRL.out]; exact HL3.out, HC3.out, HB.out⟩
end
end Go.Proofs.YtmdilfgeogedpaaDoor
