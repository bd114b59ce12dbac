/- Layer 37: all, Check, width, fits of package ideal. -/
import Derived.Test.YtmdilfgeogedpaaDoorOpenT
import Derived.Test.YtmdilfgeogedpaaDoorIVecD
import Derived.Test.YtmdilfgeogedpaaDoorIdM
namespace Go.Proofs.YtmdilfgeogedpaaDoor
open Go.RowKit
/-- whether rows are so many, of so many numbers each -/
def allB (l : List (List Nat)) (many dim : Int) : Bool := decide ((∀ r ∈ l, (r.length : Int) = dim) ∧ (l.length : Int) = many)
set_option maxRecDepth 100000 in
set_option maxHeartbeats 1000000 in
theorem all_any (A : Option Addr) (n c : Nat) (vs : List Value) (l : List (List Nat)) (many dim : Int) (w : World) (hl : l.length = n) (hn : n ≤ 9223372036854775807) (hr : Rows_ w .u32 A vs l) :
    Calls Tryd.prog 24 #[.slice A n c, .int .i64 many, .int .i64 dim] w fun e w' => e = .returned (.bool (allB l many dim)) ∧ w = w' := by
  have HL := Lib.hid hl
  have HR := Lib.hid hr
  clear hl hr
  go_enter Tryd.func24, Tryd.ntmps24
  go_wp2_with fail
  go_loopw [11] (fun i wr => ∃ k : Nat, k ≤ n ∧ i = .int .i64 k ∧ (∀ j, j < k → ((l.getD j []).length : Int) = dim) ∧ wr = w) (fun i _ => (n - intOf i).toNat)
  case atStart => exact ⟨0, by omega, rfl, fun j hj => by omega, rfl⟩
  case round =>
    obtain ⟨k, hk, rfl, hall, rfl⟩ := hrel
    have HA := Lib.hid hall
    clear hall
    by_cases hkn : k < n
    · obtain ⟨b, o, A1, c1, rfl, hcell, _, _, hle, hcm, _⟩ := HR.out.get k (by rw [HL.out]; exact hkn)
      obtain ⟨m, hm⟩ : ∃ m, (l.getD k []).length = m := ⟨_, rfl⟩
      rw [hm] at hcell hle
      have HM := Lib.hid hm
      clear hm
      unfold maxLen at hcm
      by_cases hd : (m : Int) = dim
      · have HD := Lib.hid hd
        subst hd
        go_wp2_with fail
        exact ⟨⟨k + 1, by omega, by simp, fun j hj => by
          rcases Nat.lt_or_ge j k with h | h
          · exact HA.out j h
          · obtain rfl : j = k := by omega
            rw [HM.out], trivial⟩, by simp only [intOf]; omega⟩
      · have hb : allB l many dim = false := by
          unfold allB
          refine decide_eq_false fun h => hd ?_
          have := h.1 (l.getD k []) (by rw [List.getD_eq_getElem?_getD, List.getElem?_eq_getElem (show k < l.length by rw [HL.out]; exact hkn)]; exact List.getElem_mem _)
          rw [HM.out] at this; exact this
        have HBB := Lib.hid hb
        clear hb
        have d1 : ((m : Int) == dim) = false := by simpa using hd
        have d2 : decide ((m : Int) = dim) = false := by simpa using hd
        go_wp2_with fail
        go_ret
        exact ⟨by rw [HBB.out]; rfl, rfl⟩
    · obtain rfl : k = n := by omega
      have hb : allB l many dim = decide ((k : Int) = many) := by
        unfold allB
        rw [Bool.eq_iff_iff, decide_eq_true_eq, decide_eq_true_eq, HL.out]
        constructor
        · exact fun h => h.2
        · refine fun h => ⟨fun r hr => ?_, h⟩
          obtain ⟨i, hi, rfl⟩ := List.mem_iff_getElem.1 hr
          have := HA.out i (by rw [← HL.out]; exact hi)
          rw [List.getD_eq_getElem?_getD, List.getElem?_eq_getElem hi] at this
          simpa using this
      have HBB := Lib.hid hb
      clear hb
      go_wp2_with fail
      go_ret
      exact ⟨by rw [HBB.out]; rfl, rfl⟩
/-- whether there may be a table, for so many clients and numbers -/
def TMay (own : List (List Nat)) (P : List (List (List Nat))) (many dim : Int) : Prop :=
  (0 ≤ many ∧ many ≤ 64 ∧ 0 ≤ dim ∧ dim ≤ 32) ∧ allB own many dim = true ∧ (P.length : Int) = many ∧ ∀ i, i < P.length → allB (P.getD i []) (many - 1 - i) dim = true
def errT1 (ok : Bool) : Value := if ok then .nilIface else .iface 62 (.int .i64 1)
set_option maxRecDepth 100000 in
set_option maxHeartbeats 2000000 in
theorem tcheck_any (A : Option Addr) (n c : Nat) (vs : List Value) (own : List (List Nat)) (A2 : Option Addr) (n2 c2 : Nat) (vs2 : List Value) (P : List (List (List Nat))) (many dim : Int) (w : World)
    (hl : own.length = n) (hn : n ≤ 9223372036854775807) (hr : Rows_ w .u32 A vs own) (hl2 : P.length = n2) (hn2 : n2 ≤ 9223372036854775807) (hr2 : Rows3 w .u32 A2 vs2 P) :
    Calls Tryd.prog 9 #[.agg #[.slice A n c, .slice A2 n2 c2], .int .i64 many, .int .i64 dim] w fun e w' => ((e = .returned (.iface 62 (.int .i64 1)) ∧ ¬ TMay own P many dim) ∨ (e = .returned .nilIface ∧ TMay own P many dim)) ∧ Below w.heap.size w w' := by
  have HL := Lib.hid hl
  have HL2 := Lib.hid hl2
  have HB0 := (Below.refl w.heap.size w).alloc (Nat.le_refl _) (.cells #[.slice A n c, .slice A2 n2 c2] 32)
  have HR := Lib.hid (hr.later HB0 (Nat.le_refl _))
  have HR2 := Lib.hid (hr2.later HB0 (Nat.le_refl _))
  have HB := Lib.hid HB0
  clear hl hl2 hr hr2 HB0
  by_cases h1 : many < 0
  · have d1 : decide (many < 0) = true := decide_eq_true h1
    have HN := Lib.hid (show ¬ TMay own P many dim from fun h => by have := h.1; omega)
    go_enter Tryd.func9, Tryd.ntmps9
    go_wp2_with fail
    go_ret
    exact ⟨.inl ⟨rfl, HN.out⟩, HB.out⟩
  have d1 : decide (many < 0) = false := decide_eq_false h1
  by_cases h2 : 64 < many
  · have d2 : decide (64 < many) = true := decide_eq_true h2
    have HN := Lib.hid (show ¬ TMay own P many dim from fun h => by have := h.1; omega)
    go_enter Tryd.func9, Tryd.ntmps9
    go_wp2_with fail
    go_ret
    exact ⟨.inl ⟨rfl, HN.out⟩, HB.out⟩
  have d2 : decide (64 < many) = false := decide_eq_false h2
  by_cases h3 : dim < 0
  · have d3 : decide (dim < 0) = true := decide_eq_true h3
    have HN := Lib.hid (show ¬ TMay own P many dim from fun h => by have := h.1; omega)
    go_enter Tryd.func9, Tryd.ntmps9
    go_wp2_with fail
    go_ret
    exact ⟨.inl ⟨rfl, HN.out⟩, HB.out⟩
  have d3 : decide (dim < 0) = false := decide_eq_false h3
  by_cases h4 : 32 < dim
  · have d4 : decide (32 < dim) = true := decide_eq_true h4
    have HN := Lib.hid (show ¬ TMay own P many dim from fun h => by have := h.1; omega)
    go_enter Tryd.func9, Tryd.ntmps9
    go_wp2_with fail
    go_ret
    exact ⟨.inl ⟨rfl, HN.out⟩, HB.out⟩
  have d4 : decide (32 < dim) = false := decide_eq_false h4
  have QA := Lib.hid (all_any A n c vs own many dim _ HL.out hn HR.out)
  cases ha : allB own many dim with
  | false =>
    rw [ha] at QA
    have HN := Lib.hid (show ¬ TMay own P many dim from fun h => by have := h.2.1; rw [ha] at this; cases this)
    clear ha
    go_enter Tryd.func9, Tryd.ntmps9
    go_wp2_with fail
    with_reducible refine QA.out.mono ?_
    rintro e w1 ⟨rfl, rfl⟩
    go_wp2_with fail
    go_ret
    exact ⟨.inl ⟨rfl, HN.out⟩, HB.out⟩
  | true =>
    rw [ha] at QA
    have HA := Lib.hid ha
    clear ha
    by_cases h5 : (n2 : Int) = many
    rotate_left
    · have d5 : ((n2 : Int) == many) = false := by simpa using h5
      have d5' : decide ((n2 : Int) = many) = false := by simpa using h5
      have HN := Lib.hid (show ¬ TMay own P many dim from fun h => h5 (by have := h.2.2.1; rw [HL2.out] at this; exact this))
      go_enter Tryd.func9, Tryd.ntmps9
      go_wp2_with fail
      with_reducible refine QA.out.mono ?_
      rintro e w1 ⟨rfl, rfl⟩
      go_wp2_with fail
      go_ret
      exact ⟨.inl ⟨rfl, HN.out⟩, HB.out⟩
    subst h5
    have HG := Lib.hid (show (0 : Int) ≤ n2 ∧ (n2 : Int) ≤ 64 ∧ 0 ≤ dim ∧ dim ≤ 32 from by omega)
    go_enter Tryd.func9, Tryd.ntmps9
    go_wp2_with fail
    with_reducible refine QA.out.mono ?_
    rintro e w1 ⟨rfl, rfl⟩
    have hn64 : n2 ≤ 64 := by have := HG.out; omega
    clear h1 h2 h3 h4 d1 d2 d3 d4 QA
    go_wp2_with fail
    generalize hw1 : w.alloc (.cells #[.slice A n c, .slice A2 n2 c2] 32) = w1 at *
    clear hw1
    go_loopw [41] (fun i wr => ∃ k : Nat, k ≤ n2 ∧ i = .int .i64 k ∧ (∀ j, j < k → allB (P.getD j []) ((n2 : Int) - 1 - j) dim = true) ∧ wr = w1) (fun i _ => (n2 - intOf i).toNat)
    case atStart => exact ⟨0, by omega, rfl, fun j hj => by omega, rfl⟩
    case round =>
      obtain ⟨k, hk, rfl, hall, rfl⟩ := hrel
      have HAL := Lib.hid hall
      clear hall
      by_cases hkn : k < n2
      · obtain ⟨b, o, A1, c1, ws, rfl, hcell, hrows, _, hle, hcm, _⟩ := HR2.out.get k (by rw [HL2.out]; exact hkn)
        obtain ⟨m, hm⟩ : ∃ m, (P.getD k []).length = m := ⟨_, rfl⟩
        rw [hm] at hcell hle
        unfold maxLen at hcm
        have QK := Lib.hid (all_any A1 m c1 ws (P.getD k []) ((n2 : Int) - 1 - k) dim wr hm (by omega) hrows)
        clear hrows hm
        cases hb : allB (P.getD k []) ((n2 : Int) - 1 - k) dim with
        | true =>
          rw [hb] at QK
          have HBK := Lib.hid hb
          clear hb
          go_wp2_with fail
          with_reducible refine QK.out.mono ?_
          rintro e w2 ⟨rfl, rfl⟩
          go_wp2_with fail
          exact ⟨⟨k + 1, by omega, by simp, fun j hj => by
            rcases Nat.lt_or_ge j k with h | h
            · exact HAL.out j h
            · obtain rfl : j = k := by omega
              exact HBK.out, trivial⟩, by simp only [intOf]; omega⟩
        | false =>
          rw [hb] at QK
          have HN := Lib.hid (show ¬ TMay own P n2 dim from fun h => by have := h.2.2.2 k (by rw [HL2.out]; exact hkn); rw [hb] at this; cases this)
          clear hb
          go_wp2_with fail
          with_reducible refine QK.out.mono ?_
          rintro e w2 ⟨rfl, rfl⟩
          go_wp2_with fail
          go_ret
          exact ⟨.inl ⟨rfl, HN.out⟩, HB.out⟩
      · obtain rfl : k = n2 := by omega
        have HY := Lib.hid (show TMay own P k dim from ⟨HG.out, HA.out, by rw [HL2.out], fun i hi => HAL.out i (by rw [← HL2.out]; exact hi)⟩)
        go_wp2_with fail
        go_ret
        exact ⟨.inr ⟨rfl, HY.out⟩, HB.out⟩
end Go.Proofs.YtmdilfgeogedpaaDoor
