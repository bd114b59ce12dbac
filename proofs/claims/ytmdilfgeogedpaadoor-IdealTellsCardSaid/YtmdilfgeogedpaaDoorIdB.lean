/- Layer 37: width, fits, places, pair of package ideal. -/
import Derived.Test.YtmdilfgeogedpaaDoorIdA
import Derived.Test.YtmdilfgeogedpaaDoorIGset
namespace Go.Proofs.YtmdilfgeogedpaaDoor
open Go.RowKit
def dimOf (l : List (List Nat)) : Nat := (l.getD 0 []).length
theorem dimOf_nil {l : List (List Nat)} (h : l.length = 0) : dimOf l = 0 := by rw [List.eq_nil_of_length_eq_zero h]; rfl
set_option maxRecDepth 100000 in
set_option maxHeartbeats 1000000 in
theorem width_any (A : Option Addr) (n c : Nat) (vs : List Value) (l : List (List Nat)) (w : World) (hl : l.length = n) (hn : n ≤ 9223372036854775807) (hr : Rows_ w .u32 A vs l) :
    Calls Tryd.prog 35 #[.slice A n c] w fun e w' => e = .returned (.int .i64 (dimOf l : Nat)) ∧ w = w' := by
  by_cases h0 : n = 0
  · have hd := Lib.hid (dimOf_nil (l := l) (by omega))
    subst h0
    clear hl hr
    go_enter Tryd.func35, Tryd.ntmps35
    go_wp2_with fail
    go_ret
    exact ⟨by rw [hd.out]; rfl, rfl⟩
  · obtain ⟨b, o, A1, c1, rfl, hcell, _, _, hle, hcm, _⟩ := hr.get 0 (by omega)
    have d1 : ((n : Int) == 0) = false := by simp; omega
    have d2 : 0 < n := by omega
    have d3 : decide (n = 0) = false := by simp; omega
    rw [Nat.add_zero] at hcell
    change w.cell? ⟨b, o, none⟩ = some (Value.slice A1 (dimOf l) c1) at hcell
    generalize dimOf l = m at *
    clear hr hl h0
    go_enter Tryd.func35, Tryd.ntmps35
    go_wp2_with fail
    go_ret
    exact ⟨rfl, rfl⟩
/-- whether rows are for a table -/
def Fit (own : List (List Nat)) (P : List (List (List Nat))) (rows : List (List Nat)) : Prop := allB rows rows.length (dimOf rows) = true ∧ TMay own P rows.length (dimOf rows)
section
variable (A : Option Addr) (n c : Nat) (vs : List Value) (own : List (List Nat)) (A2 : Option Addr) (n2 c2 : Nat) (vs2 : List Value) (P : List (List (List Nat)))
set_option maxRecDepth 100000 in
set_option maxHeartbeats 1000000 in
theorem fits_tab (A3 : Option Addr) (n3 c3 : Nat) (vs3 : List Value) (rows : List (List Nat)) (w : World)
    (hl : own.length = n) (hn : n ≤ 9223372036854775807) (hr : Rows_ w .u32 A vs own) (hl2 : P.length = n2) (hn2 : n2 ≤ 9223372036854775807) (hr2 : Rows3 w .u32 A2 vs2 P) (hl3 : rows.length = n3) (hn3 : n3 ≤ 9223372036854775807) (hr3 : Rows_ w .u32 A3 vs3 rows) :
    Calls Tryd.prog 25 #[.agg #[.slice A n c, .slice A2 n2 c2], .slice A3 n3 c3] w fun e w' => ((e = .returned (.iface 62 (.int .i64 1)) ∧ ¬ Fit own P rows) ∨ (e = .returned .nilIface ∧ Fit own P rows)) ∧ Below w.heap.size w w' := by
  have HB0 := (Below.refl w.heap.size w).alloc (Nat.le_refl _) (.cells #[.slice A n c, .slice A2 n2 c2] 32)
  have hdm : ∃ m, dimOf rows = m := ⟨_, rfl⟩
  obtain ⟨m, hm⟩ := hdm
  have hr3' := hr3.later HB0 (Nat.le_refl _)
  have QW := width_any A3 n3 c3 vs3 rows _ hl3 hn3 hr3'
  rw [hm] at QW
  have QW := Lib.hid QW
  have QA := Lib.hid (all_any A3 n3 c3 vs3 rows (n3 : Int) (m : Int) _ hl3 hn3 hr3')
  have QC := Lib.hid (tcheck_any A n c vs own A2 n2 c2 vs2 P (n3 : Int) (m : Int) _ hl hn (hr.later HB0 (Nat.le_refl _)) hl2 hn2 (hr2.later HB0 (Nat.le_refl _)))
  have HF := Lib.hid (show Fit own P rows ↔ (allB rows n3 m = true ∧ TMay own P n3 m) from by unfold Fit; rw [hm, hl3])
  have HB := Lib.hid HB0
  clear hl hr hl2 hr2 hl3 hr3 hr3' HB0 hm
  cases hb : allB rows n3 m with
  | false =>
    rw [hb] at QA
    have HN := Lib.hid (show ¬ Fit own P rows from fun h => by have := (HF.out.1 h).1; rw [hb] at this; cases this)
    clear hb
    go_enter Tryd.func25, Tryd.ntmps25
    go_wp2_with fail
    with_reducible refine QW.out.mono ?_
    rintro e w1 ⟨rfl, rfl⟩
    go_wp2_with fail
    with_reducible refine QA.out.mono ?_
    rintro e w1 ⟨rfl, rfl⟩
    go_wp2_with fail
    go_ret
    exact ⟨.inl ⟨rfl, HN.out⟩, HB.out⟩
  | true =>
    rw [hb] at QA
    have HA := Lib.hid hb
    clear hb
    go_enter Tryd.func25, Tryd.ntmps25
    go_wp2_with fail
    with_reducible refine QW.out.mono ?_
    rintro e w1 ⟨rfl, rfl⟩
    go_wp2_with fail
    with_reducible refine QA.out.mono ?_
    rintro e w1 ⟨rfl, rfl⟩
    go_wp2_with fail
    with_reducible refine QC.out.mono ?_
    rintro e w1 ⟨⟨rfl, hm⟩ | ⟨rfl, hm⟩, b1⟩
    · have HN := Lib.hid (show ¬ Fit own P rows from fun h => hm (HF.out.1 h).2)
      have B1 := Lib.hid (HB.out.trans (b1.mono HB.out.size))
      clear hm b1
      go_wp2_with fail
      go_ret
      exact ⟨.inl ⟨rfl, HN.out⟩, B1.out⟩
    · have HY := Lib.hid (show Fit own P rows from HF.out.2 ⟨HA.out, hm⟩)
      have B1 := Lib.hid (HB.out.trans (b1.mono HB.out.size))
      clear hm b1
      go_wp2_with fail
      go_ret
      exact ⟨.inr ⟨rfl, HY.out⟩, B1.out⟩
end
/-- whether numbers are a set of places of so many -/
def PlB (came : List Int) (many : Int) : Bool := SetM.may came && decide (came.length = 0 ∨ came.getD (came.length - 1) 0 < many)
set_option maxRecDepth 100000 in
set_option maxHeartbeats 1000000 in
theorem places_any (A : Option Addr) (n c : Nat) (came : List Int) (many : Int) (w : World) (hl : came.length = n) (hn : n ≤ 9223372036854775807) (ha : At w A (ints .i64 came)) :
    Calls Tryd.prog 30 #[.slice A n c, .int .i64 many] w fun e w' => e = .returned (errIf (PlB came many)) ∧ w = w' := by
  have QS := setCheck_any A n c came w hl hn ha
  cases hs : SetM.may came with
  | false =>
    have HP := Lib.hid (show PlB came many = false from by unfold PlB; rw [hs]; rfl)
    rw [hs, show errIf false = .iface 62 (.int .i64 1) from rfl] at QS
    have QS := Lib.hid QS
    clear hs ha hl
    rw [HP.out, show errIf false = .iface 62 (.int .i64 1) from rfl]
    go_enter Tryd.func30, Tryd.ntmps30
    go_wp2_with fail
    with_reducible refine QS.out.mono ?_
    rintro e w1 ⟨rfl, rfl⟩
    go_wp2_with fail
    go_ret
    exact ⟨rfl, rfl⟩
  | true =>
    rw [hs, show errIf true = .nilIface from rfl] at QS
    have QS := Lib.hid QS
    have HP0 := Lib.hid (show PlB came many = decide (came.length = 0 ∨ came.getD (came.length - 1) 0 < many) from by unfold PlB; rw [hs, Bool.true_and])
    clear hs
    by_cases h0 : n = 0
    · have HP := Lib.hid (show PlB came many = true from by rw [HP0.out]; exact decide_eq_true (.inl (by omega)))
      rw [HP.out, show errIf true = .nilIface from rfl]
      subst h0
      clear ha hl
      go_enter Tryd.func30, Tryd.ntmps30
      go_wp2_with fail
      with_reducible refine QS.out.mono ?_
      rintro e w1 ⟨rfl, rfl⟩
      go_wp2_with fail
      go_ret
      exact ⟨rfl, rfl⟩
    · obtain ⟨k, rfl⟩ : ∃ k, n = k + 1 := ⟨n - 1, by omega⟩
      obtain ⟨b, o, rfl, hcell⟩ := ha.int k (by omega)
      obtain ⟨z, hz⟩ : ∃ z, came.getD k 0 = z := ⟨_, rfl⟩
      rw [hz] at hcell
      have hPl : PlB came many = decide (z < many) := by
        rw [HP0.out, hl, Nat.add_sub_cancel, hz]
        rw [Bool.eq_iff_iff, decide_eq_true_eq, decide_eq_true_eq]
        constructor
        · rintro (h | h)
          · omega
          · exact h
        · exact .inr
      have d1 : decide ((0 : Int) < ((k + 1 : Nat) : Int)) = true := decide_eq_true (by omega)
      have e1 : (((k + 1 : Nat) : Int) - 1) = k := by omega
      have HP := Lib.hid hPl
      rw [HP.out]
      clear ha hl hz hPl HP0 h0
      have hk1 : k ≤ 9223372036854775806 := by omega
      clear hn
      by_cases hzm : z < many
      · have d2 : decide (many ≤ z) = false := decide_eq_false (by omega)
        rw [show errIf (decide (z < many)) = .nilIface from by rw [decide_eq_true hzm]; rfl]
        go_enter Tryd.func30, Tryd.ntmps30
        go_wp2_with fail
        with_reducible refine QS.out.mono ?_
        rintro e w1 ⟨rfl, rfl⟩
        go_wp2_with fail
        go_ret
        exact ⟨rfl, rfl⟩
      · have d2 : decide (many ≤ z) = true := decide_eq_true (by omega)
        rw [show errIf (decide (z < many)) = .iface 62 (.int .i64 1) from by rw [decide_eq_false hzm]; rfl]
        go_enter Tryd.func30, Tryd.ntmps30
        go_wp2_with fail
        with_reducible refine QS.out.mono ?_
        rintro e w1 ⟨rfl, rfl⟩
        go_wp2_with fail
        go_ret
        exact ⟨rfl, rfl⟩
end Go.Proofs.YtmdilfgeogedpaaDoor
