/- Layer 20: BagAll for every length; a slice of truths that came in. -/
import Derived.Test.YtbgmbemaopnjfaaDoorBagG
import Derived.Test.YtbgmbemaopnjfaaDoorOpen
import Derived.Deep.Grids
namespace Go.Proofs.YtbgmbemaopnjfaaDoor
open Go.RowKit Go.ChangeShapes Go.WideShapes Go.ChangeAt
section
variable {H : Type} {enc : TypeId × Value → H} {P : Program} {W : World}
theorem open_boolz {t e : TypeId} (ht : P.underlying t = some (.slice e)) (he : P.underlying e = some .bool) (hc : P.cellsOf e = 1)
    {v : Value} {d : DataW H} {p : List MemPlace} {r : Reach} {b0 : Nat} (hv : Value.okWide P W r b0 t v) (h : DataW.Trod enc P W 0 (fun _ => true) true t v d p) :
    ∃ A n c, ∃ l : List Bool, v = .slice A n c ∧ l.length = n ∧ n ≤ c ∧ c ≤ maxLen ∧ At W A (l.map Value.bool) := by
  obtain ⟨A, n, c, rfl⟩ := okWide_slice ht hv
  obtain ⟨fuel, hf⟩ := h
  rcases Deep.open_bools ht he hc hf with ⟨hcs, _⟩ | ⟨ad, len, cap, B, hcs, _, hl, hm, _, hi⟩
  · simp [Value.cells] at hcs
    obtain ⟨rfl, rfl, rfl⟩ := hcs
    exact ⟨none, 0, 0, [], rfl, rfl, Nat.le_refl _, by unfold maxLen; omega, At.nil _ _⟩
  · simp [Value.cells] at hcs
    obtain ⟨rfl, rfl, rfl⟩ := hcs
    refine ⟨_, n, c, (List.range n).map B, rfl, by simp, hl, hm, ?_⟩
    intro i x hx
    have hin : i < n := by
      rcases Nat.lt_or_ge i n with h | h
      · exact h
      · rw [List.getElem?_eq_none (by simpa using h)] at hx; cases hx
    have h1 := hi i (by omega)
    obtain ⟨b, off, spot⟩ := ad
    have hspot : spot = none := by simpa [Addr.add] using World.cell?_spot (hi 0 (by omega))
    subst hspot
    rw [addr_add] at h1
    refine ⟨b, off, rfl, ?_⟩
    rw [h1]
    simpa [hin] using hx
end
set_option maxRecDepth 100000 in
theorem ball_long (A0 : Option Addr) (n0 c0 : Nat) (v1 v2 : Value) (w : World) (hn0 : 100 < n0) (hg : Glob w) :
    Calls Tryd.prog 9 #[.slice A0 n0 c0, v1, v2] w fun e w' => e = .returned (.bool true) ∧ Below w.heap.size w w' := by
  have HG := Lib.hid hg
  clear hg
  go_enter Tryd.func9, Tryd.ntmps9
  go_wp2_with fail
  refine (bnew_ok 300 w (by decide)).mono ?_
  rintro e w1 ⟨rfl, rfl⟩
  have HB := Lib.hid ((Below.refl w.heap.size w).alloc (Nat.le_refl _) (.cells #[.int .i64 300, .slice none 0 0] 95))
  have HG1 := Lib.hid (HG.out.alloc (.cells #[.int .i64 300, .slice none 0 0] 95))
  have HS1 := Lib.hid (show w.heap.size ≤ (w.alloc (.cells #[.int .i64 300, .slice none 0 0] 95)).heap.size from by simp)
  generalize hw1 : (w.alloc (.cells #[.int .i64 300, .slice none 0 0] 95)) = w1 at *
  clear hw1
  go_wp2_with fail
  refine (sure20 w1 HG1.out).mono ?_
  rintro e w2 ⟨rfl, hb2⟩
  have HB2 := Lib.hid (HB.out.trans (hb2.mono HS1.out))
  clear hb2
  go_wp2_with fail
  go_ret
  exact ⟨rfl, HB2.out⟩
theorem ball_any (A0 : Option Addr) (n0 c0 : Nat) (l : List Nat) (A1 : Option Addr) (n1 c1 : Nat) (t : List Bool) (A2 : Option Addr) (n2 c2 : Nat) (a : List Nat) (w : World) (hl : l.length = n0) (ha0 : At w A0 (nats .u8 l)) (hr0 : ∀ x ∈ l, x < 256) (ht : t.length = n1) (hn1 : n1 ≤ 9223372036854775807) (ha1 : At w A1 (t.map Value.bool)) (h2 : a.length = n2) (hn2 : n2 ≤ 9223372036854775807) (ha2 : At w A2 (nats .u8 a)) (hr2 : ∀ x ∈ a, x < 256) (hg : Glob w) :
    Calls Tryd.prog 9 #[.slice A0 n0 c0, .slice A1 n1 c1, .slice A2 n2 c2] w fun e w' => e = .returned (.bool true) ∧ Below w.heap.size w w' := by
  rcases Nat.lt_or_ge 100 n0 with h | h
  · exact ball_long A0 n0 c0 _ _ w h hg
  · exact ball_in A0 n0 c0 l A1 n1 c1 t A2 n2 c2 a w hl h ha0 hr0 ht hn1 ha1 h2 hn2 ha2 hr2 hg
theorem all_nats {l : List Nat} {m : Nat} (hm : 1 ≤ m) (h : ∀ i, l.getD i 0 < max m 1) : ∀ x ∈ l, x < m := by
  intro x hx
  obtain ⟨i, hi, rfl⟩ := List.getElem_of_mem hx
  have := h i
  rw [getD_lt hi] at this
  omega
end Go.Proofs.YtbgmbemaopnjfaaDoor
