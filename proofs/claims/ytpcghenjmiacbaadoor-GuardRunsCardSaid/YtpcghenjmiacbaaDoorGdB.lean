/- Layer 26: the guard: New, Ask, Out, Came. -/
import Derived.Test.YtpcghenjmiacbaaDoorGdM
import Derived.Test.YtpcghenjmiacbaaDoorGdA
namespace Go.Proofs.YtpcghenjmiacbaaDoor
open Go.RowKit
def errK (k : Int) : Value := if k = 0 then .nilIface else .iface 48 (.int .i64 k)
structure Gd (w : World) (g : Nat) (who : List Int) (need : Int) (cur : List Int) (asked : Bool) (Aw : Option Addr) (cw : Nat) (Ac : Option Addr) (cc : Nat) : Prop where
  lay : Holds w g 51 #[.slice Aw who.length cw, .int .i64 need, .slice Ac cur.length cc, .bool asked]
  atw : At w Aw (ints .i64 who)
  atc : At w Ac (ints .i64 cur)
  farw : ∀ k, blk Aw = some k → k < w.heap.size ∧ k ≠ g
  farc : ∀ k, blk Ac = some k → k < w.heap.size ∧ k ≠ g
  nilc : Ac = none → cur.length = 0
  lenw : who.length ≤ 100
  lenc : cur.length ≤ 100
section
variable {w w' : World} {g : Nat} {who cur : List Int} {need : Int} {asked : Bool} {Aw Ac : Option Addr} {cw cc : Nat}
theorem Gd.later (h : Gd w g who need cur asked Aw cw Ac cc) (hb : Below w.heap.size w w') : Gd w' g who need cur asked Aw cw Ac cc :=
  ⟨h.lay.later hb (Nat.le_refl _), h.atw.later hb (Nat.le_refl _), h.atc.later hb (Nat.le_refl _), fun k e => ⟨Nat.lt_of_lt_of_le (h.farw k e).1 hb.size, (h.farw k e).2⟩, fun k e => ⟨Nat.lt_of_lt_of_le (h.farc k e).1 hb.size, (h.farc k e).2⟩, h.nilc, h.lenw, h.lenc⟩
set_option maxRecDepth 100000 in
theorem gnew_ok (A : Option Addr) (n c : Nat) (l : List Int) (need : Int) (w : World) (hl : l.length = n) (hn : n ≤ 100) (ha : At w A (ints .i64 l)) (hz : A = none → n = 0) (hm : SetM.may l = true) (h1 : ¬ need < 1) (h2 : ¬ (n : Int) < need) :
    Calls Tryd.prog 7 #[.slice A n c, .int .i64 need] w fun e w' => ∃ g Aw cw, e = .returned (.tuple #[.pointer (some ⟨g, 0, none⟩), .nilIface]) ∧ Gd w' g l need [] false Aw cw none 0 ∧ Below w.heap.size w w' ∧ w.heap.size ≤ g := by
  have C := Lib.hid (setCheck_any A n c l w hl (by omega) ha)
  rw [hm] at C
  have K := Lib.hid (cloneI_any A n c l w hl (by omega) ha hz)
  have d1 : decide (need < 1) = false := decide_eq_false h1
  have d2 : decide ((n : Int) < need) = false := decide_eq_false h2
  have HL := Lib.hid hl
  clear ha hz hm h1 h2 hl
  go_enter Tryd.func7, Tryd.ntmps7
  go_wp2_with fail
  refine C.out.mono ?_
  rintro e w1 ⟨rfl, rfl⟩
  simp only [errIf, if_true]
  go_wp2_with fail
  refine K.out.mono ?_
  rintro e w1 ⟨A1, c1, rfl, hat, hnn, hk, hb⟩
  have HA := Lib.hid hat
  have HB := Lib.hid hb
  have HK := Lib.hid hk
  clear hat hb hk hnn C K
  go_wp2_with fail
  have HN := Holds.new w1 51 #[.slice A1 n c1, .int .i64 need, .slice none 0 0, .bool false] w1.heap.size rfl
  have BB := (Below.refl w1.heap.size w1).alloc (Nat.le_refl _) (.cells #[.slice A1 n c1, .int .i64 need, .slice none 0 0, .bool false] 51)
  refine bodyPost_ret (v := .tuple #[.pointer (some ⟨w1.heap.size, 0, none⟩), .nilIface]) (by simp [results, Tryd.results7, go_sem]) rfl ⟨w1.heap.size, A1, c1, rfl, ⟨?_, HA.out.later BB (Nat.le_refl _), At.nil _ _, fun k e => ⟨?_, ?_⟩, by simp [blk], fun _ => rfl, by rw [HL.out]; exact hn, by simp⟩, HB.out.trans (BB.mono HB.out.size), HB.out.size⟩
  · rw [HL.out]; exact HN
  · have := (HK.out k e).2; simp; omega
  · have := (HK.out k e).2; omega
set_option maxRecDepth 100000 in
theorem gnew_no (A : Option Addr) (n c : Nat) (l : List Int) (need : Int) (w : World) (hl : l.length = n) (hn : n ≤ 100) (ha : At w A (ints .i64 l)) (h : SetM.may l = false ∨ need < 1 ∨ (n : Int) < need) :
    Calls Tryd.prog 7 #[.slice A n c, .int .i64 need] w fun e w' => e = .returned (.tuple #[.pointer none, .iface 48 (.int .i64 1)]) ∧ w = w' := by
  have C := Lib.hid (setCheck_any A n c l w hl (by omega) ha)
  clear ha
  by_cases hm : SetM.may l = true
  · rw [hm] at C h
    by_cases h1 : need < 1
    · have d1 : decide (need < 1) = true := decide_eq_true h1
      clear h h1 hm hl
      go_enter Tryd.func7, Tryd.ntmps7
      go_wp2_with fail
      refine C.out.mono ?_
      rintro e w1 ⟨rfl, rfl⟩
      simp only [errIf, if_true]
      go_wp2_with fail
      go_ret2
      exact ⟨rfl, rfl⟩
    · have d1 : decide (need < 1) = false := decide_eq_false h1
      have h2 : (n : Int) < need := by rcases h with h | h | h; exact absurd h (by simp); exact absurd h h1; exact h
      have d2 : decide ((n : Int) < need) = true := decide_eq_true h2
      clear h h1 hm hl h2
      go_enter Tryd.func7, Tryd.ntmps7
      go_wp2_with fail
      refine C.out.mono ?_
      rintro e w1 ⟨rfl, rfl⟩
      simp only [errIf, if_true]
      go_wp2_with fail
      go_ret2
      exact ⟨rfl, rfl⟩
  · have hm2 : SetM.may l = false := by simpa using hm
    rw [hm2] at C
    clear h hm hm2 hl
    go_enter Tryd.func7, Tryd.ntmps7
    go_wp2_with fail
    refine C.out.mono ?_
    rintro e w1 ⟨rfl, rfl⟩
    simp only [errIf, Bool.false_eq_true, if_false]
    go_wp2_with fail
    go_ret2
    exact ⟨rfl, rfl⟩
set_option maxRecDepth 100000 in
theorem gask_nil (v : Value) (w : World) :
    Calls Tryd.prog 8 #[.pointer none, v] w fun e w' => e = .returned (.iface 48 (.int .i64 1)) ∧ w = w' := by
  go_enter Tryd.func8, Tryd.ntmps8
  go_wp2_with fail
  go_ret
  exact ⟨rfl, rfl⟩
set_option maxRecDepth 100000 in
theorem gout_nil (i : Int) (w : World) :
    Calls Tryd.prog 9 #[.pointer none, .int .i64 i] w fun e w' => e = .returned (.int .i64 0) ∧ w = w' := by
  go_enter Tryd.func9, Tryd.ntmps9
  go_wp2_with fail
  go_ret
  exact ⟨rfl, rfl⟩
set_option maxRecDepth 100000 in
theorem gcame_nil (w : World) :
    Calls Tryd.prog 11 #[.pointer none] w fun e w' => e = .returned (.tuple #[.slice none 0 0, .bool false]) ∧ w = w' := by
  go_enter Tryd.func11, Tryd.ntmps11
  go_wp2_with fail
  go_ret2
  exact ⟨rfl, rfl⟩
set_option maxRecDepth 100000 in
theorem gout_any (id : Int) (h : Gd w g who need cur asked Aw cw Ac cc) :
    Calls Tryd.prog 9 #[.pointer (some ⟨g, 0, none⟩), .int .i64 id] w fun e w' => e = .returned (.int .i64 (SetM.outOf who cur asked id)) ∧ w = w' := by
  have p0 : w.cell? ⟨g, 0, none⟩ = some (.slice Aw who.length cw) := h.lay.cell 0
  have p2 : w.cell? ⟨g, 2, none⟩ = some (.slice Ac cur.length cc) := h.lay.cell 2
  have p3 : w.cell? ⟨g, 3, none⟩ = some (.bool asked) := h.lay.cell 3
  have H1 := Lib.hid (setHas_any Aw who.length cw who id w rfl (by have := h.lenw; omega) h.atw)
  have H2 := Lib.hid (setHas_any Ac cur.length cc cur id w rfl (by have := h.lenc; omega) h.atc)
  clear h
  unfold SetM.outOf
  cases asked with
  | false =>
    simp only [Bool.false_and, if_true]
    go_enter Tryd.func9, Tryd.ntmps9
    go_wp2_with fail
    go_ret
    exact ⟨rfl, rfl⟩
  | true =>
    simp only [Bool.true_and]
    cases e1 : SetM.has who id with
    | false =>
      rw [e1] at H1
      simp only [if_true]
      clear e1
      go_enter Tryd.func9, Tryd.ntmps9
      go_wp2_with fail
      refine H1.out.mono ?_
      rintro e w1 ⟨rfl, rfl⟩
      go_wp2_with fail
      go_ret
      exact ⟨rfl, rfl⟩
    | true =>
      rw [e1] at H1
      simp only [Bool.true_eq_false, if_false]
      clear e1
      cases e2 : SetM.has cur id <;> rw [e2] at H2 <;> clear e2 <;> simp only [Bool.false_eq_true, if_true, if_false]
      all_goals
        go_enter Tryd.func9, Tryd.ntmps9
        go_wp2_with fail
        refine H1.out.mono ?_
        rintro e w1 ⟨rfl, rfl⟩
        go_wp2_with fail
        refine H2.out.mono ?_
        rintro e w1 ⟨rfl, rfl⟩
        go_wp2_with fail
        go_ret
        exact ⟨rfl, rfl⟩
set_option maxRecDepth 100000 in
theorem gcame_no (h : Gd w g who need cur false Aw cw Ac cc) :
    Calls Tryd.prog 11 #[.pointer (some ⟨g, 0, none⟩)] w fun e w' => e = .returned (.tuple #[.slice none 0 0, .bool false]) ∧ w = w' := by
  have p3 : w.cell? ⟨g, 3, none⟩ = some (.bool false) := h.lay.cell 3
  clear h
  go_enter Tryd.func11, Tryd.ntmps11
  go_wp2_with fail
  go_ret2
  exact ⟨rfl, rfl⟩
set_option maxRecDepth 100000 in
theorem gcame_any (h : Gd w g who need cur true Aw cw Ac cc) :
    Calls Tryd.prog 11 #[.pointer (some ⟨g, 0, none⟩)] w fun e w' => ∃ A' c', e = .returned (.tuple #[.slice A' cur.length c', .bool true]) ∧ At w' A' (ints .i64 cur) ∧ Below w.heap.size w w' := by
  have p2 : w.cell? ⟨g, 2, none⟩ = some (.slice Ac cur.length cc) := h.lay.cell 2
  have p3 : w.cell? ⟨g, 3, none⟩ = some (.bool true) := h.lay.cell 3
  have K := Lib.hid (cloneI_any Ac cur.length cc cur w rfl (by have := h.lenc; omega) h.atc h.nilc)
  clear h
  go_enter Tryd.func11, Tryd.ntmps11
  go_wp2_with fail
  refine K.out.mono ?_
  rintro e w1 ⟨A1, c1, rfl, hat, hnn, hk, hb⟩
  have HA := Lib.hid hat
  have HB := Lib.hid hb
  clear hat hb hk hnn K
  go_wp2_with fail
  go_ret2
  exact ⟨A1, c1, rfl, HA.out, HB.out⟩
end
end Go.Proofs.YtpcghenjmiacbaaDoor
