/- Layer 37's law: what sure asks of the program, each with its answer. -/
import Derived.Test.YtmdilfgeogedpaaDoorIdT
import Derived.Test.YtmdilfgeogedpaaDoorNum37
namespace Go.Proofs.YtmdilfgeogedpaaDoor
open Go.RowKit
section
variable {W : World} {A : Option Addr}
theorem rows_0 (h : At W A []) : Rows_ W .u32 A [] [] := ⟨h, rfl, by intro i v b h; simp at h⟩
theorem rows_1 {a1 : Addr} {x : Nat} (h : At W A [.slice (some a1) 1 1]) (h1 : At W (some a1) (nats .u32 [x])) : Rows_ W .u32 A [.slice (some a1) 1 1] [[x]] := ⟨h, rfl, by
  intro i v b h2 h3
  match i with
  | 0 => simp at h2 h3; subst h2; subst h3; exact ⟨_, 1, rfl, h1, (fun e => by cases e), Nat.le_refl _, by unfold maxLen; omega⟩
  | i + 1 => simp at h2⟩
theorem rows_2 {a1 a2 : Addr} {x y : Nat} (h : At W A [.slice (some a1) 1 1, .slice (some a2) 1 1]) (h1 : At W (some a1) (nats .u32 [x])) (h2 : At W (some a2) (nats .u32 [y])) : Rows_ W .u32 A [.slice (some a1) 1 1, .slice (some a2) 1 1] [[x], [y]] := ⟨h, rfl, by
  intro i v b h3 h4
  match i with
  | 0 => simp at h3 h4; subst h3; subst h4; exact ⟨_, 1, rfl, h1, (fun e => by cases e), Nat.le_refl _, by unfold maxLen; omega⟩
  | 1 => simp at h3 h4; subst h3; subst h4; exact ⟨_, 1, rfl, h2, (fun e => by cases e), Nat.le_refl _, by unfold maxLen; omega⟩
  | i + 2 => simp at h3⟩
theorem rows3_2 {a1 a2 : Addr} {v1 v2 : List Value} {x y : List (List Nat)} {m1 m2 : Nat} (h : At W A [.slice (some a1) m1 m1, .slice (some a2) m2 m2]) (h1 : Rows_ W .u32 (some a1) v1 x) (h2 : Rows_ W .u32 (some a2) v2 y) (l1 : x.length = m1 := by rfl) (l2 : y.length = m2 := by rfl) (b1 : m1 ≤ maxLen := by decide) (b2 : m2 ≤ maxLen := by decide) : Rows3 W .u32 A [.slice (some a1) m1 m1, .slice (some a2) m2 m2] [x, y] := ⟨h, rfl, by
  subst l1 l2
  intro i v b h3 h4
  match i with
  | 0 => simp at h3 h4; subst h3; subst h4; exact ⟨_, _, v1, rfl, h1, (fun e => by cases e), Nat.le_refl _, b1⟩
  | 1 => simp at h3 h4; subst h3; subst h4; exact ⟨_, _, v2, rfl, h2, (fun e => by cases e), Nat.le_refl _, b2⟩
  | i + 2 => simp at h3⟩
end
/-- hidden rows, of so many -/
def HidF (w : World) (l : List (List Nat)) (n : Nat) (e : Ending) (w' : World) : Prop :=
  ∃ A c vs, e = .returned (.tuple #[.slice A n c, .nilIface]) ∧ Rows_ w' .u32 A vs l ∧ Below w.heap.size w w'
theorem hidF {w : World} {l : List (List Nat)} {n : Nat} {e : Ending} {w' : World} (h : HidE w l e w') (hl : l.length = n) : HidF w l n e w' := by
  obtain ⟨A, c, vs, rfl, _, h1, h2⟩ := h
  exact ⟨A, c, vs, by rw [hl], h1, h2⟩
/-- a table of the call's own, seen as rows -/
def TabF (w : World) (own : List (List Nat)) (P : List (List (List Nat))) (n n2 : Nat) (e : Ending) (w' : World) : Prop :=
  ∃ A1 c1 v1 A2 c2 v2, e = .returned (.tuple #[.agg #[.slice A1 n c1, .slice A2 n2 c2], .nilIface]) ∧ Rows_ w' .u32 A1 v1 own ∧ Rows3 w' .u32 A2 v2 P ∧ Below w.heap.size w w'
theorem tabF {w : World} {own : List (List Nat)} {P : List (List (List Nat))} {n n2 : Nat} {e : Ending} {w' : World} (h : TabE w own P e w') (h1 : own.length = n) (h2 : P.length = n2) : TabF w own P n n2 e w' := by
  obtain ⟨D, rfl, f, t, _, b⟩ := h
  exact ⟨_, _, _, _, _, _, by rw [h1, h2], t.rows f, t.rows3 f, b⟩
theorem may37 : Fit [[1], [2]] [[[10]], []] [[5], [6]] ∧ Fit [[1], [2]] [[[10]], []] [[5], [6]] := by
  have h : TMay [[1], [2]] [[[10]], []] (2 : Nat) (1 : Nat) := ⟨⟨by decide, by decide, by decide, by decide⟩, by decide, by decide, fun i hi => by
    match i with
    | 0 => decide
    | 1 => decide
    | i + 2 => simp at hi; omega⟩
  exact ⟨⟨by decide, h⟩, ⟨by decide, h⟩⟩
theorem u37 : ∀ l ∈ [[[10]], ([] : List (List Nat))], U32 l := by
  intro l hl r hr x hx
  simp at hl
  rcases hl with rfl | rfl
  · simp at hr; subst hr; simp at hx; omega
  · simp at hr
theorem u37r (x y : Nat) (hx : x < 4294967296) (hy : y < 4294967296) : U32 [[x], [y]] := by
  intro r hr z hz
  simp at hr
  rcases hr with rfl | rfl <;> simp at hz <;> omega
theorem agree37 (rows other : List (List Nat)) (h : rows.length = 2) : Agree [0, 1] rows other := by
  intro i hi
  rw [h] at hi
  left
  match i with
  | 0 => decide
  | 1 => decide
section
variable (A : Option Addr) (c : Nat) (vs : List Value) (A2 : Option Addr) (c2 : Nat) (vs2 : List Value) (A4 : Option Addr) (c4 : Nat) (vs4 : List Value) (A5 : Option Addr) (c5 : Nat) (vs5 : List Value) (A3 : Option Addr) (c3 : Nat) (w : World)
theorem s_hid (hr : Rows_ w .u32 A vs [[1], [2]]) (hr2 : Rows3 w .u32 A2 vs2 [[[10]], []]) (hr4 : Rows_ w .u32 A4 vs4 [[5], [6]]) :
    Calls Tryd.prog 10 #[.agg #[.slice A 2 c, .slice A2 2 c2], .slice A4 2 c4] w (HidF w [[16], [4294967294]] 2) := by
  have h := hidden_yes A 2 c vs _ A2 c2 vs2 _ A4 c4 vs4 _ 1 w hr hr2 hr4 may37.1.shape may37.1 (u37r 1 2 (by decide) (by decide)) u37 (u37r 5 6 (by decide) (by decide))
  rw [show VE.hid [[1], [2]] [[[10]], []] [[5], [6]] = [[16], [4294967294]] from by decide] at h
  exact h.mono fun e w' h => hidF h rfl
theorem s_hidno (hr : Rows_ w .u32 A vs [[1], [2]]) (hr2 : Rows3 w .u32 A2 vs2 [[[10]], []]) (hr4 : Rows_ w .u32 A4 vs4 [[5]]) :
    Calls Tryd.prog 10 #[.agg #[.slice A 2 c, .slice A2 2 c2], .slice A4 1 c4] w fun e w' => e = .returned (.tuple #[.slice none 0 0, .iface 62 (.int .i64 1)]) ∧ Below w.heap.size w w' :=
  hidden_no A 2 c vs _ A2 2 c2 vs2 _ A4 1 c4 vs4 _ w rfl (by decide) hr rfl (by decide) hr2 rfl (by decide) hr4 (fun h => by
    have h1 := h.2.2.1
    revert h1
    decide)
theorem s_mov (hc : 2 ≤ c3) (ha : At w A3 (ints .i64 [0, 1])) (hr : Rows_ w .u32 A vs [[1], [2]]) (hr2 : Rows3 w .u32 A2 vs2 [[[10]], []]) (hr4 : Rows_ w .u32 A4 vs4 [[5], [6]]) (hr5 : Rows_ w .u32 A5 vs5 [[4], [7]]) :
    Calls Tryd.prog 14 #[.agg #[.slice A 2 c, .slice A2 2 c2], .slice A3 2 c3, .slice A4 2 c4, .slice A5 2 c5] w (TabF w [[1], [2]] [[[11]], []] 2 2) := by
  refine (moved_any A 2 c vs _ A2 2 c2 vs2 _ A3 2 c3 [0, 1] A4 2 c4 vs4 _ A5 2 c5 vs5 _ w rfl (by decide) hr rfl (by decide) hr2 rfl (by decide) hc ha rfl (by decide) hr4 rfl (by decide) hr5 u37 (u37r 5 6 (by decide) (by decide)) (u37r 4 7 (by decide) (by decide))).mono ?_
  have h1 : MvArg [[1], [2]] [[[10]], []] [0, 1] [[5], [6]] [[4], [7]] := ⟨⟨may37.1, by decide, by decide⟩, agree37 _ _ rfl⟩
  have h2 : MvSum [0, 1] [[5], [6]] [[4], [7]] := by unfold MvSum; decide
  rintro e w' (⟨h, _⟩ | ⟨_, h, _⟩ | ⟨_, _, h⟩)
  · exact absurd h1 h
  · exact absurd h2 h
  · rw [show mvP (([0, 1] : List Int).map Int.toNat) [[[10]], []] [[5], [6]] [[4], [7]] (([0, 1] : List Int).length - 1) = [[[11]], []] from by decide] at h
    exact tabF h rfl rfl
theorem s_movno (hc : 2 ≤ c3) (ha : At w A3 (ints .i64 [0, 1])) (hr : Rows_ w .u32 A vs [[1], [2]]) (hr2 : Rows3 w .u32 A2 vs2 [[[10]], []]) (hr4 : Rows_ w .u32 A4 vs4 [[5], [6]]) (hr5 : Rows_ w .u32 A5 vs5 [[5], [7]]) :
    Calls Tryd.prog 14 #[.agg #[.slice A 2 c, .slice A2 2 c2], .slice A3 2 c3, .slice A4 2 c4, .slice A5 2 c5] w (TabN 4 w) := by
  refine (moved_any A 2 c vs _ A2 2 c2 vs2 _ A3 2 c3 [0, 1] A4 2 c4 vs4 _ A5 2 c5 vs5 _ w rfl (by decide) hr rfl (by decide) hr2 rfl (by decide) hc ha rfl (by decide) hr4 rfl (by decide) hr5 u37 (u37r 5 6 (by decide) (by decide)) (u37r 5 7 (by decide) (by decide))).mono ?_
  have h1 : MvArg [[1], [2]] [[[10]], []] [0, 1] [[5], [6]] [[5], [7]] := ⟨⟨may37.1, by decide, by decide⟩, agree37 _ _ rfl⟩
  have h2 : ¬ MvSum [0, 1] [[5], [6]] [[5], [7]] := by unfold MvSum; decide
  rintro e w' (⟨h, _⟩ | ⟨_, _, h⟩ | ⟨_, h, _⟩)
  · exact absurd h1 h
  · exact h
  · exact absurd h h2
theorem s_shown (ha : At w A3 (ints .i64 [1])) (hr : Rows_ w .u32 A vs [[1], [2]]) (hr2 : Rows3 w .u32 A2 vs2 [[[10]], []]) :
    Calls Tryd.prog 12 #[.agg #[.slice A 2 c, .slice A2 2 c2], .slice A3 1 c3, .int .i64 1] w (TabF w [[0], [2]] [[[10]], []] 2 2) := by
  have hs := may37.1.shape
  refine (shown_yes A 2 c vs _ A2 c2 vs2 _ A3 1 c3 [1] 1 w rfl (by decide) hr rfl hr2 (fun i hi => by rw [hs.od i hi]; decide) hs.pl (fun i j hi hj => ?_) rfl (by decide) ha may37.1.2 (by decide)).mono ?_
  · match i with
    | 0 =>
      match j with
      | 0 => decide
      | j + 1 => simp at hj
    | 1 => simp at hj
  · intro e w' h
    rw [show shO [1] [[1], [2]] 2 = [[0], [2]] from by decide, show shP [1] [[[10]], []] 2 = [[[10]], []] from by decide] at h
    exact tabF h rfl rfl
end
end Go.Proofs.YtmdilfgeogedpaaDoor
