/- Layer 14: whether a packet may be: the program's Check, the document's May. Layer 13: the writer: fields one behind the other, each a block that hangs on the one ahead. Layer 13: numbers and bytes written. Layer 13: all that was written. -/
import Derived.Test.YtodimanghmepoaaDoorProg
import Derived.Test.YtodimanghmepoaaDoorHolds
import Derived.WalkKit
import Derived.Lib.Hide
import Derived.Test.YtodimanghmepoaaDoorLvC
import Derived.Laws.CopyOwn
import Derived.Laws.MakeOwn
import Derived.Deep.RegionLaw
import Derived.Deep.CutRange
namespace Go.Proofs.YtodimanghmepoaaDoor
open Go.RowKit
/-- whether a packet may be -/
def FMay (fr dt0 : Int) (ack : Bool) (ep sq : Int) (n : Nat) : Prop :=
  (0 ≤ fr ∧ fr ≤ 255) ∧ (0 ≤ dt0 ∧ dt0 ≤ 255) ∧ fr ≠ dt0 ∧ (1 ≤ ep ∧ ep ≤ 1073741824) ∧ (0 ≤ sq ∧ sq ≤ 1073741824) ∧ (ack = true → n = 0) ∧ (ack = false → sq ≠ 0 ∧ n ≤ 8192)
set_option maxRecDepth 100000 in
set_option maxHeartbeats 2000000 in
theorem fcheck_true (fr dt0 : Int) (ep sq : Int) (A : Option Addr) (n c : Nat) (w : World) :
    Calls Tryd.prog 41 #[.agg #[.int .i64 fr, .int .i64 dt0, .bool true, .int .i64 ep, .int .i64 sq, .slice A n c]] w fun e w' => ((e = .returned .nilIface ∧ FMay fr dt0 true ep sq n) ∨ (e = .returned (.iface 70 (.int .i64 1)) ∧ ¬ FMay fr dt0 true ep sq n)) ∧ Below w.heap.size w w' := by
  have HB := Lib.hid ((Below.refl w.heap.size w).alloc (Nat.le_refl _) (.cells #[.int .i64 fr, .int .i64 dt0, .bool true, .int .i64 ep, .int .i64 sq, .slice A n c] 80))
  by_cases h0 : fr < 0
  · have HN := Lib.hid (show ¬ FMay fr dt0 true ep sq n from by unfold FMay; simp; omega)
    have d0 : decide (fr < 0) = true := decide_eq_true h0
    go_enter Tryd.func41, Tryd.ntmps41
    go_wp2_with fail
    go_ret
    exact ⟨.inr ⟨rfl, HN.out⟩, HB.out⟩
  · have d0 : decide (fr < 0) = false := decide_eq_false h0
    by_cases h1 : 255 < fr
    · have HN := Lib.hid (show ¬ FMay fr dt0 true ep sq n from by unfold FMay; simp; omega)
      have d1 : decide (255 < fr) = true := decide_eq_true h1
      go_enter Tryd.func41, Tryd.ntmps41
      go_wp2_with fail
      go_ret
      exact ⟨.inr ⟨rfl, HN.out⟩, HB.out⟩
    · have d1 : decide (255 < fr) = false := decide_eq_false h1
      by_cases h2 : dt0 < 0
      · have HN := Lib.hid (show ¬ FMay fr dt0 true ep sq n from by unfold FMay; simp; omega)
        have d2 : decide (dt0 < 0) = true := decide_eq_true h2
        go_enter Tryd.func41, Tryd.ntmps41
        go_wp2_with fail
        go_ret
        exact ⟨.inr ⟨rfl, HN.out⟩, HB.out⟩
      · have d2 : decide (dt0 < 0) = false := decide_eq_false h2
        by_cases h3 : 255 < dt0
        · have HN := Lib.hid (show ¬ FMay fr dt0 true ep sq n from by unfold FMay; simp; omega)
          have d3 : decide (255 < dt0) = true := decide_eq_true h3
          go_enter Tryd.func41, Tryd.ntmps41
          go_wp2_with fail
          go_ret
          exact ⟨.inr ⟨rfl, HN.out⟩, HB.out⟩
        · have d3 : decide (255 < dt0) = false := decide_eq_false h3
          by_cases h4 : fr = dt0
          · have HN := Lib.hid (show ¬ FMay fr dt0 true ep sq n from by unfold FMay; simp; omega)
            have d4 : (fr == dt0) = true := by simp [h4]
            have d4' : decide (fr = dt0) = true := by simp [h4]
            have HH4 := Lib.hid h4
            clear h4
            go_enter Tryd.func41, Tryd.ntmps41
            go_wp2_with fail
            go_ret
            exact ⟨.inr ⟨rfl, HN.out⟩, HB.out⟩
          · have d4 : (fr == dt0) = false := by simpa using h4
            have d4' : decide (fr = dt0) = false := by simpa using h4
            by_cases h5 : ep < 1
            · have HN := Lib.hid (show ¬ FMay fr dt0 true ep sq n from by unfold FMay; simp; omega)
              have d5 : decide (ep < 1) = true := decide_eq_true h5
              go_enter Tryd.func41, Tryd.ntmps41
              go_wp2_with fail
              go_ret
              exact ⟨.inr ⟨rfl, HN.out⟩, HB.out⟩
            · have d5 : decide (ep < 1) = false := decide_eq_false h5
              by_cases h6 : 1073741824 < ep
              · have HN := Lib.hid (show ¬ FMay fr dt0 true ep sq n from by unfold FMay; simp; omega)
                have d6 : decide (1073741824 < ep) = true := decide_eq_true h6
                go_enter Tryd.func41, Tryd.ntmps41
                go_wp2_with fail
                go_ret
                exact ⟨.inr ⟨rfl, HN.out⟩, HB.out⟩
              · have d6 : decide (1073741824 < ep) = false := decide_eq_false h6
                by_cases h7 : sq < 0
                · have HN := Lib.hid (show ¬ FMay fr dt0 true ep sq n from by unfold FMay; simp; omega)
                  have d7 : decide (sq < 0) = true := decide_eq_true h7
                  go_enter Tryd.func41, Tryd.ntmps41
                  go_wp2_with fail
                  go_ret
                  exact ⟨.inr ⟨rfl, HN.out⟩, HB.out⟩
                · have d7 : decide (sq < 0) = false := decide_eq_false h7
                  by_cases h8 : 1073741824 < sq
                  · have HN := Lib.hid (show ¬ FMay fr dt0 true ep sq n from by unfold FMay; simp; omega)
                    have d8 : decide (1073741824 < sq) = true := decide_eq_true h8
                    go_enter Tryd.func41, Tryd.ntmps41
                    go_wp2_with fail
                    go_ret
                    exact ⟨.inr ⟨rfl, HN.out⟩, HB.out⟩
                  · have d8 : decide (1073741824 < sq) = false := decide_eq_false h8
                    by_cases h9 : 0 < n
                    · have HN := Lib.hid (show ¬ FMay fr dt0 true ep sq n from by unfold FMay; simp; omega)
                      have d9 : decide (0 < (n : Int)) = true := decide_eq_true (by omega)
                      go_enter Tryd.func41, Tryd.ntmps41
                      go_wp2_with fail
                      go_ret
                      exact ⟨.inr ⟨rfl, HN.out⟩, HB.out⟩
                    · have d9 : decide (0 < (n : Int)) = false := decide_eq_false (by omega)
                      have HN := Lib.hid (show FMay fr dt0 true ep sq n from by unfold FMay; simp; omega)
                      go_enter Tryd.func41, Tryd.ntmps41
                      go_wp2_with fail
                      go_ret
                      exact ⟨.inl ⟨rfl, HN.out⟩, HB.out⟩
set_option maxRecDepth 100000 in
set_option maxHeartbeats 2000000 in
theorem fcheck_false (fr dt0 : Int) (ep sq : Int) (A : Option Addr) (n c : Nat) (w : World) :
    Calls Tryd.prog 41 #[.agg #[.int .i64 fr, .int .i64 dt0, .bool false, .int .i64 ep, .int .i64 sq, .slice A n c]] w fun e w' => ((e = .returned .nilIface ∧ FMay fr dt0 false ep sq n) ∨ (e = .returned (.iface 70 (.int .i64 1)) ∧ ¬ FMay fr dt0 false ep sq n)) ∧ Below w.heap.size w w' := by
  have HB := Lib.hid ((Below.refl w.heap.size w).alloc (Nat.le_refl _) (.cells #[.int .i64 fr, .int .i64 dt0, .bool false, .int .i64 ep, .int .i64 sq, .slice A n c] 80))
  by_cases h0 : fr < 0
  · have HN := Lib.hid (show ¬ FMay fr dt0 false ep sq n from by unfold FMay; simp; omega)
    have d0 : decide (fr < 0) = true := decide_eq_true h0
    go_enter Tryd.func41, Tryd.ntmps41
    go_wp2_with fail
    go_ret
    exact ⟨.inr ⟨rfl, HN.out⟩, HB.out⟩
  · have d0 : decide (fr < 0) = false := decide_eq_false h0
    by_cases h1 : 255 < fr
    · have HN := Lib.hid (show ¬ FMay fr dt0 false ep sq n from by unfold FMay; simp; omega)
      have d1 : decide (255 < fr) = true := decide_eq_true h1
      go_enter Tryd.func41, Tryd.ntmps41
      go_wp2_with fail
      go_ret
      exact ⟨.inr ⟨rfl, HN.out⟩, HB.out⟩
    · have d1 : decide (255 < fr) = false := decide_eq_false h1
      by_cases h2 : dt0 < 0
      · have HN := Lib.hid (show ¬ FMay fr dt0 false ep sq n from by unfold FMay; simp; omega)
        have d2 : decide (dt0 < 0) = true := decide_eq_true h2
        go_enter Tryd.func41, Tryd.ntmps41
        go_wp2_with fail
        go_ret
        exact ⟨.inr ⟨rfl, HN.out⟩, HB.out⟩
      · have d2 : decide (dt0 < 0) = false := decide_eq_false h2
        by_cases h3 : 255 < dt0
        · have HN := Lib.hid (show ¬ FMay fr dt0 false ep sq n from by unfold FMay; simp; omega)
          have d3 : decide (255 < dt0) = true := decide_eq_true h3
          go_enter Tryd.func41, Tryd.ntmps41
          go_wp2_with fail
          go_ret
          exact ⟨.inr ⟨rfl, HN.out⟩, HB.out⟩
        · have d3 : decide (255 < dt0) = false := decide_eq_false h3
          by_cases h4 : fr = dt0
          · have HN := Lib.hid (show ¬ FMay fr dt0 false ep sq n from by unfold FMay; simp; omega)
            have d4 : (fr == dt0) = true := by simp [h4]
            have d4' : decide (fr = dt0) = true := by simp [h4]
            have HH4 := Lib.hid h4
            clear h4
            go_enter Tryd.func41, Tryd.ntmps41
            go_wp2_with fail
            go_ret
            exact ⟨.inr ⟨rfl, HN.out⟩, HB.out⟩
          · have d4 : (fr == dt0) = false := by simpa using h4
            have d4' : decide (fr = dt0) = false := by simpa using h4
            by_cases h5 : ep < 1
            · have HN := Lib.hid (show ¬ FMay fr dt0 false ep sq n from by unfold FMay; simp; omega)
              have d5 : decide (ep < 1) = true := decide_eq_true h5
              go_enter Tryd.func41, Tryd.ntmps41
              go_wp2_with fail
              go_ret
              exact ⟨.inr ⟨rfl, HN.out⟩, HB.out⟩
            · have d5 : decide (ep < 1) = false := decide_eq_false h5
              by_cases h6 : 1073741824 < ep
              · have HN := Lib.hid (show ¬ FMay fr dt0 false ep sq n from by unfold FMay; simp; omega)
                have d6 : decide (1073741824 < ep) = true := decide_eq_true h6
                go_enter Tryd.func41, Tryd.ntmps41
                go_wp2_with fail
                go_ret
                exact ⟨.inr ⟨rfl, HN.out⟩, HB.out⟩
              · have d6 : decide (1073741824 < ep) = false := decide_eq_false h6
                by_cases h7 : sq < 0
                · have HN := Lib.hid (show ¬ FMay fr dt0 false ep sq n from by unfold FMay; simp; omega)
                  have d7 : decide (sq < 0) = true := decide_eq_true h7
                  go_enter Tryd.func41, Tryd.ntmps41
                  go_wp2_with fail
                  go_ret
                  exact ⟨.inr ⟨rfl, HN.out⟩, HB.out⟩
                · have d7 : decide (sq < 0) = false := decide_eq_false h7
                  by_cases h8 : 1073741824 < sq
                  · have HN := Lib.hid (show ¬ FMay fr dt0 false ep sq n from by unfold FMay; simp; omega)
                    have d8 : decide (1073741824 < sq) = true := decide_eq_true h8
                    go_enter Tryd.func41, Tryd.ntmps41
                    go_wp2_with fail
                    go_ret
                    exact ⟨.inr ⟨rfl, HN.out⟩, HB.out⟩
                  · have d8 : decide (1073741824 < sq) = false := decide_eq_false h8
                    by_cases h9 : sq = 0
                    · have HN := Lib.hid (show ¬ FMay fr dt0 false ep sq n from by unfold FMay; simp; omega)
                      have d9 : (sq == 0) = true := by simp [h9]
                      have d9' : decide (sq = 0) = true := by simp [h9]
                      have HH9 := Lib.hid h9
                      clear h9
                      go_enter Tryd.func41, Tryd.ntmps41
                      go_wp2_with fail
                      go_ret
                      exact ⟨.inr ⟨rfl, HN.out⟩, HB.out⟩
                    · have d9 : (sq == 0) = false := by simpa using h9
                      have d9' : decide (sq = 0) = false := by simpa using h9
                      by_cases h10 : 8192 < n
                      · have HN := Lib.hid (show ¬ FMay fr dt0 false ep sq n from by unfold FMay; simp; omega)
                        have d10 : decide (8192 < (n : Int)) = true := decide_eq_true (by omega)
                        go_enter Tryd.func41, Tryd.ntmps41
                        go_wp2_with fail
                        go_ret
                        exact ⟨.inr ⟨rfl, HN.out⟩, HB.out⟩
                      · have d10 : decide (8192 < (n : Int)) = false := decide_eq_false (by omega)
                        have HN := Lib.hid (show FMay fr dt0 false ep sq n from by unfold FMay; simp; omega)
                        go_enter Tryd.func41, Tryd.ntmps41
                        go_wp2_with fail
                        go_ret
                        exact ⟨.inl ⟨rfl, HN.out⟩, HB.out⟩
theorem fcheck_any (fr dt0 : Int) (ack : Bool) (ep sq : Int) (A : Option Addr) (n c : Nat) (w : World) :
    Calls Tryd.prog 41 #[.agg #[.int .i64 fr, .int .i64 dt0, .bool ack, .int .i64 ep, .int .i64 sq, .slice A n c]] w fun e w' => ((e = .returned .nilIface ∧ FMay fr dt0 ack ep sq n) ∨ (e = .returned (.iface 70 (.int .i64 1)) ∧ ¬ FMay fr dt0 ack ep sq n)) ∧ Below w.heap.size w w' := by
  cases ack with
  | true => exact fcheck_true fr dt0 ep sq A n c w
  | false => exact fcheck_false fr dt0 ep sq A n c w
set_option maxRecDepth 100000 in
set_option maxHeartbeats 2000000 in
theorem fmay_true (fr dt0 : Int) (ep sq : Int) (A : Option Addr) (n c : Nat) (w : World) :
    Calls Tryd.prog 33 #[.agg #[.int .i64 fr, .int .i64 dt0, .bool true, .int .i64 ep, .int .i64 sq, .slice A n c]] w fun e w' => ((e = .returned (.bool true) ∧ FMay fr dt0 true ep sq n) ∨ (e = .returned (.bool false) ∧ ¬ FMay fr dt0 true ep sq n)) ∧ Below w.heap.size w w' := by
  have HB := Lib.hid ((Below.refl w.heap.size w).alloc (Nat.le_refl _) (.cells #[.int .i64 fr, .int .i64 dt0, .bool true, .int .i64 ep, .int .i64 sq, .slice A n c] 50))
  by_cases h0 : fr < 0
  · have HN := Lib.hid (show ¬ FMay fr dt0 true ep sq n from by unfold FMay; simp; omega)
    have d0 : decide (fr < 0) = true := decide_eq_true h0
    go_enter Tryd.func33, Tryd.ntmps33
    go_wp2_with fail
    go_ret
    exact ⟨.inr ⟨rfl, HN.out⟩, HB.out⟩
  · have d0 : decide (fr < 0) = false := decide_eq_false h0
    by_cases h1 : 255 < fr
    · have HN := Lib.hid (show ¬ FMay fr dt0 true ep sq n from by unfold FMay; simp; omega)
      have d1 : decide (255 < fr) = true := decide_eq_true h1
      go_enter Tryd.func33, Tryd.ntmps33
      go_wp2_with fail
      go_ret
      exact ⟨.inr ⟨rfl, HN.out⟩, HB.out⟩
    · have d1 : decide (255 < fr) = false := decide_eq_false h1
      by_cases h2 : dt0 < 0
      · have HN := Lib.hid (show ¬ FMay fr dt0 true ep sq n from by unfold FMay; simp; omega)
        have d2 : decide (dt0 < 0) = true := decide_eq_true h2
        go_enter Tryd.func33, Tryd.ntmps33
        go_wp2_with fail
        go_ret
        exact ⟨.inr ⟨rfl, HN.out⟩, HB.out⟩
      · have d2 : decide (dt0 < 0) = false := decide_eq_false h2
        by_cases h3 : 255 < dt0
        · have HN := Lib.hid (show ¬ FMay fr dt0 true ep sq n from by unfold FMay; simp; omega)
          have d3 : decide (255 < dt0) = true := decide_eq_true h3
          go_enter Tryd.func33, Tryd.ntmps33
          go_wp2_with fail
          go_ret
          exact ⟨.inr ⟨rfl, HN.out⟩, HB.out⟩
        · have d3 : decide (255 < dt0) = false := decide_eq_false h3
          by_cases h4 : fr = dt0
          · have HN := Lib.hid (show ¬ FMay fr dt0 true ep sq n from by unfold FMay; simp; omega)
            have d4 : (fr == dt0) = true := by simp [h4]
            have d4' : decide (fr = dt0) = true := by simp [h4]
            have HH4 := Lib.hid h4
            clear h4
            go_enter Tryd.func33, Tryd.ntmps33
            go_wp2_with fail
            go_ret
            exact ⟨.inr ⟨rfl, HN.out⟩, HB.out⟩
          · have d4 : (fr == dt0) = false := by simpa using h4
            have d4' : decide (fr = dt0) = false := by simpa using h4
            by_cases h5 : ep < 1
            · have HN := Lib.hid (show ¬ FMay fr dt0 true ep sq n from by unfold FMay; simp; omega)
              have d5 : decide (ep < 1) = true := decide_eq_true h5
              go_enter Tryd.func33, Tryd.ntmps33
              go_wp2_with fail
              go_ret
              exact ⟨.inr ⟨rfl, HN.out⟩, HB.out⟩
            · have d5 : decide (ep < 1) = false := decide_eq_false h5
              by_cases h6 : 1073741824 < ep
              · have HN := Lib.hid (show ¬ FMay fr dt0 true ep sq n from by unfold FMay; simp; omega)
                have d6 : decide (1073741824 < ep) = true := decide_eq_true h6
                go_enter Tryd.func33, Tryd.ntmps33
                go_wp2_with fail
                go_ret
                exact ⟨.inr ⟨rfl, HN.out⟩, HB.out⟩
              · have d6 : decide (1073741824 < ep) = false := decide_eq_false h6
                by_cases h7 : sq < 0
                · have HN := Lib.hid (show ¬ FMay fr dt0 true ep sq n from by unfold FMay; simp; omega)
                  have d7 : decide (sq < 0) = true := decide_eq_true h7
                  go_enter Tryd.func33, Tryd.ntmps33
                  go_wp2_with fail
                  go_ret
                  exact ⟨.inr ⟨rfl, HN.out⟩, HB.out⟩
                · have d7 : decide (sq < 0) = false := decide_eq_false h7
                  by_cases h8 : 1073741824 < sq
                  · have HN := Lib.hid (show ¬ FMay fr dt0 true ep sq n from by unfold FMay; simp; omega)
                    have d8 : decide (1073741824 < sq) = true := decide_eq_true h8
                    go_enter Tryd.func33, Tryd.ntmps33
                    go_wp2_with fail
                    go_ret
                    exact ⟨.inr ⟨rfl, HN.out⟩, HB.out⟩
                  · have d8 : decide (1073741824 < sq) = false := decide_eq_false h8
                    by_cases h9 : 0 < n
                    · have HN := Lib.hid (show ¬ FMay fr dt0 true ep sq n from by unfold FMay; simp; omega)
                      have e9 : ((n : Int) == 0) = false := by simp; omega
                      have e9' : (n == 0) = false := by simp; omega
                      have e9'' : decide (n = 0) = false := by simp; omega
                      go_enter Tryd.func33, Tryd.ntmps33
                      go_wp2_with fail
                      go_ret
                      exact ⟨.inr ⟨rfl, HN.out⟩, HB.out⟩
                    · have e9 : ((n : Int) == 0) = true := by simp; omega
                      have e9' : (n == 0) = true := by simp; omega
                      have e9'' : decide (n = 0) = true := by simp; omega
                      have HN := Lib.hid (show FMay fr dt0 true ep sq n from by unfold FMay; simp; omega)
                      go_enter Tryd.func33, Tryd.ntmps33
                      go_wp2_with fail
                      go_ret
                      exact ⟨.inl ⟨rfl, HN.out⟩, HB.out⟩
set_option maxRecDepth 100000 in
set_option maxHeartbeats 2000000 in
theorem fmay_false (fr dt0 : Int) (ep sq : Int) (A : Option Addr) (n c : Nat) (w : World) :
    Calls Tryd.prog 33 #[.agg #[.int .i64 fr, .int .i64 dt0, .bool false, .int .i64 ep, .int .i64 sq, .slice A n c]] w fun e w' => ((e = .returned (.bool true) ∧ FMay fr dt0 false ep sq n) ∨ (e = .returned (.bool false) ∧ ¬ FMay fr dt0 false ep sq n)) ∧ Below w.heap.size w w' := by
  have HB := Lib.hid ((Below.refl w.heap.size w).alloc (Nat.le_refl _) (.cells #[.int .i64 fr, .int .i64 dt0, .bool false, .int .i64 ep, .int .i64 sq, .slice A n c] 50))
  by_cases h0 : fr < 0
  · have HN := Lib.hid (show ¬ FMay fr dt0 false ep sq n from by unfold FMay; simp; omega)
    have d0 : decide (fr < 0) = true := decide_eq_true h0
    go_enter Tryd.func33, Tryd.ntmps33
    go_wp2_with fail
    go_ret
    exact ⟨.inr ⟨rfl, HN.out⟩, HB.out⟩
  · have d0 : decide (fr < 0) = false := decide_eq_false h0
    by_cases h1 : 255 < fr
    · have HN := Lib.hid (show ¬ FMay fr dt0 false ep sq n from by unfold FMay; simp; omega)
      have d1 : decide (255 < fr) = true := decide_eq_true h1
      go_enter Tryd.func33, Tryd.ntmps33
      go_wp2_with fail
      go_ret
      exact ⟨.inr ⟨rfl, HN.out⟩, HB.out⟩
    · have d1 : decide (255 < fr) = false := decide_eq_false h1
      by_cases h2 : dt0 < 0
      · have HN := Lib.hid (show ¬ FMay fr dt0 false ep sq n from by unfold FMay; simp; omega)
        have d2 : decide (dt0 < 0) = true := decide_eq_true h2
        go_enter Tryd.func33, Tryd.ntmps33
        go_wp2_with fail
        go_ret
        exact ⟨.inr ⟨rfl, HN.out⟩, HB.out⟩
      · have d2 : decide (dt0 < 0) = false := decide_eq_false h2
        by_cases h3 : 255 < dt0
        · have HN := Lib.hid (show ¬ FMay fr dt0 false ep sq n from by unfold FMay; simp; omega)
          have d3 : decide (255 < dt0) = true := decide_eq_true h3
          go_enter Tryd.func33, Tryd.ntmps33
          go_wp2_with fail
          go_ret
          exact ⟨.inr ⟨rfl, HN.out⟩, HB.out⟩
        · have d3 : decide (255 < dt0) = false := decide_eq_false h3
          by_cases h4 : fr = dt0
          · have HN := Lib.hid (show ¬ FMay fr dt0 false ep sq n from by unfold FMay; simp; omega)
            have d4 : (fr == dt0) = true := by simp [h4]
            have d4' : decide (fr = dt0) = true := by simp [h4]
            have HH4 := Lib.hid h4
            clear h4
            go_enter Tryd.func33, Tryd.ntmps33
            go_wp2_with fail
            go_ret
            exact ⟨.inr ⟨rfl, HN.out⟩, HB.out⟩
          · have d4 : (fr == dt0) = false := by simpa using h4
            have d4' : decide (fr = dt0) = false := by simpa using h4
            by_cases h5 : ep < 1
            · have HN := Lib.hid (show ¬ FMay fr dt0 false ep sq n from by unfold FMay; simp; omega)
              have d5 : decide (ep < 1) = true := decide_eq_true h5
              go_enter Tryd.func33, Tryd.ntmps33
              go_wp2_with fail
              go_ret
              exact ⟨.inr ⟨rfl, HN.out⟩, HB.out⟩
            · have d5 : decide (ep < 1) = false := decide_eq_false h5
              by_cases h6 : 1073741824 < ep
              · have HN := Lib.hid (show ¬ FMay fr dt0 false ep sq n from by unfold FMay; simp; omega)
                have d6 : decide (1073741824 < ep) = true := decide_eq_true h6
                go_enter Tryd.func33, Tryd.ntmps33
                go_wp2_with fail
                go_ret
                exact ⟨.inr ⟨rfl, HN.out⟩, HB.out⟩
              · have d6 : decide (1073741824 < ep) = false := decide_eq_false h6
                by_cases h7 : sq < 0
                · have HN := Lib.hid (show ¬ FMay fr dt0 false ep sq n from by unfold FMay; simp; omega)
                  have d7 : decide (sq < 0) = true := decide_eq_true h7
                  go_enter Tryd.func33, Tryd.ntmps33
                  go_wp2_with fail
                  go_ret
                  exact ⟨.inr ⟨rfl, HN.out⟩, HB.out⟩
                · have d7 : decide (sq < 0) = false := decide_eq_false h7
                  by_cases h8 : 1073741824 < sq
                  · have HN := Lib.hid (show ¬ FMay fr dt0 false ep sq n from by unfold FMay; simp; omega)
                    have d8 : decide (1073741824 < sq) = true := decide_eq_true h8
                    go_enter Tryd.func33, Tryd.ntmps33
                    go_wp2_with fail
                    go_ret
                    exact ⟨.inr ⟨rfl, HN.out⟩, HB.out⟩
                  · have d8 : decide (1073741824 < sq) = false := decide_eq_false h8
                    by_cases h9 : sq = 0
                    · have HN := Lib.hid (show ¬ FMay fr dt0 false ep sq n from by unfold FMay; simp; omega)
                      have e9 : decide (0 < sq) = false := decide_eq_false (by omega)
                      have HH9 := Lib.hid h9
                      clear h9
                      go_enter Tryd.func33, Tryd.ntmps33
                      go_wp2_with fail
                      go_ret
                      exact ⟨.inr ⟨rfl, HN.out⟩, HB.out⟩
                    · have e9 : decide (0 < sq) = true := decide_eq_true (by omega)
                      by_cases h10 : 8192 < n
                      · have HN := Lib.hid (show ¬ FMay fr dt0 false ep sq n from by unfold FMay; simp; omega)
                        have e10 : decide ((n : Int) ≤ 8192) = false := decide_eq_false (by omega)
                        go_enter Tryd.func33, Tryd.ntmps33
                        go_wp2_with fail
                        go_ret
                        exact ⟨.inr ⟨rfl, HN.out⟩, HB.out⟩
                      · have e10 : decide ((n : Int) ≤ 8192) = true := decide_eq_true (by omega)
                        have HN := Lib.hid (show FMay fr dt0 false ep sq n from by unfold FMay; simp; omega)
                        go_enter Tryd.func33, Tryd.ntmps33
                        go_wp2_with fail
                        go_ret
                        exact ⟨.inl ⟨rfl, HN.out⟩, HB.out⟩
theorem fmay_any (fr dt0 : Int) (ack : Bool) (ep sq : Int) (A : Option Addr) (n c : Nat) (w : World) :
    Calls Tryd.prog 33 #[.agg #[.int .i64 fr, .int .i64 dt0, .bool ack, .int .i64 ep, .int .i64 sq, .slice A n c]] w fun e w' => ((e = .returned (.bool true) ∧ FMay fr dt0 ack ep sq n) ∨ (e = .returned (.bool false) ∧ ¬ FMay fr dt0 ack ep sq n)) ∧ Below w.heap.size w w' := by
  cases ack with
  | true => exact fmay_true fr dt0 ep sq A n c w
  | false => exact fmay_false fr dt0 ep sq A n c w
end Go.Proofs.YtodimanghmepoaaDoor
namespace Go.Proofs.YtodimanghmepoaaDoor
open Go.RowKit
/-- the fields that hang on a pointer, the last one first; none of them lies in block g -/
def Chain (w : World) (g : Nat) : Option Addr → List (List Nat) → Prop
  | p, [] => p = none
  | p, b :: fs => ∃ k q A c, p = some ⟨k, 0, none⟩ ∧ (∀ j, blk q = some j → j < k) ∧ k ≠ g ∧ blk A ≠ some g ∧ Holds w k 148 #[.pointer q, .slice A b.length c] ∧ At w A (nats .u8 b) ∧ Chain w g q fs
theorem Chain.grown {w w' : World} {g : Nat} (hg : w.grownBy w' (some g)) : ∀ {fs : List (List Nat)} {p : Option Addr}, Chain w g p fs → Chain w' g p fs
  | [], _, h => h
  | b :: fs, p, ⟨k, q, A, c, h1, h0, h2, h3, h4, h5, h6⟩ => ⟨k, q, A, c, h1, h0, h2, h3, h4.grown hg (fun e => h2 (by injection e with e; exact e.symm)), h5.grown hg (.inr h3), Chain.grown hg h6⟩
theorem Chain.later {w w' : World} {g : Nat} (hb : Below w.heap.size w w') : ∀ {fs : List (List Nat)} {p : Option Addr}, Chain w g p fs → Chain w' g p fs
  | [], _, h => h
  | b :: fs, p, ⟨k, q, A, c, h1, h0, h2, h3, h4, h5, h6⟩ => ⟨k, q, A, c, h1, h0, h2, h3, h4.later hb (Nat.le_refl _), h5.later hb (Nat.le_refl _), Chain.later hb h6⟩
theorem Chain.lt {w : World} {g : Nat} : ∀ {fs : List (List Nat)} {p : Option Addr}, Chain w g p fs → ∀ j, blk p = some j → j < w.heap.size
  | [], _, h, j, e => by have h : _ = _ := h; subst h; simp [blk] at e
  | b :: fs, p, ⟨k, q, A, c, h1, h0, h2, h3, h4, h5, h6⟩, j, e => by subst h1; simp [blk] at e; subst e; exact h4.lt
/-- how many bytes there are -/
def tot (fs : List (List Nat)) : Nat := (fs.map List.length).sum
theorem tot_cons (b : List Nat) (fs : List (List Nat)) : tot (b :: fs) = b.length + tot fs := by simp [tot]
/-- a writer -/
structure Wr (w : World) (g : Nat) (p : Option Addr) (fs : List (List Nat)) : Prop where
  blk_ : Holds w g 118 #[.pointer p, .int .i64 (tot fs : Nat)]
  ch : Chain w g p fs
theorem Wr.later {w w' : World} {g : Nat} {p : Option Addr} {fs : List (List Nat)} (h : Wr w g p fs) (hb : Below w.heap.size w w') : Wr w' g p fs := ⟨h.blk_.later hb (Nat.le_refl _), h.ch.later hb⟩
/-- bytes do not lie in a writer's block -/
theorem Wr.far {w : World} {g : Nat} {p : Option Addr} {fs : List (List Nat)} (h : Wr w g p fs) {A : Option Addr} {b : List Nat} (ha : At w A (nats .u8 b)) (h0 : b ≠ []) : blk A ≠ some g := by
  intro e
  obtain ⟨b', o', rfl, hc⟩ := ha.nat 0 (by cases b with | nil => exact absurd rfl h0 | cons _ _ => simp)
  simp [blk] at e
  subst e
  have hx := h.blk_.cell (o' + 0)
  rw [hc] at hx
  match o', hx with
  | 0, hx => simp at hx
  | 1, hx => simp at hx
  | o + 2, hx => simp at hx
section
variable {g : Nat} {p : Option Addr} {fs : List (List Nat)} {w : World}
def Wrote (w : World) (g : Nat) (fs : List (List Nat)) (e : Ending) (w' : World) : Prop := e = .returned (.tuple #[]) ∧ ∃ p', Wr w' g p' fs ∧ w.grownBy w' (some g)
set_option maxRecDepth 100000 in
set_option maxHeartbeats 1000000 in
theorem wput_any (A : Option Addr) (c : Nat) (b : List Nat) (h : Wr w g p fs) (hat : At w A (nats .u8 b)) (hA : blk A ≠ some g) (hm : tot fs + b.length ≤ 1000000) :
    Calls Tryd.prog 59 #[.pointer (some ⟨g, 0, none⟩), .slice A b.length c] w (Wrote w g (b :: fs)) := by
  have HT := Lib.hid hat
  have HF := Lib.hid hA
  have H0 := h.blk_
  have HC := Lib.hid h.ch
  have hgl := H0.lt
  have hn : g ≠ w.heap.size := Nat.ne_of_lt hgl
  have hn' : w.heap.size ≠ g := fun e => hn e.symm
  have c0 : w.cell? ⟨g, 0, none⟩ = some (.pointer p) := H0.cell 0
  have H1 := H0.set 0 (.pointer (some ⟨w.heap.size, 0, none⟩))
  have e1 : (w.setCell ⟨g, 0, none⟩ (.pointer (some ⟨w.heap.size, 0, none⟩))).cell? ⟨g, 1, none⟩ = some (.int .i64 (tot fs : Nat)) := H1.cell 1
  have f1 : (w.setCell ⟨g, 0, none⟩ (.pointer (some ⟨w.heap.size, 0, none⟩))).frozen? ⟨g, 1, none⟩ = false := H1.frozen 1
  have c1 : w.cell? ⟨g, 1, none⟩ = some (.int .i64 (tot fs : Nat)) := H0.cell 1
  have f0 : w.frozen? ⟨g, 0, none⟩ = false := H0.frozen 0
  have f2 : w.frozen? ⟨g, 1, none⟩ = false := H0.frozen 1
  have HH := Lib.hid H0
  clear H0 H1 h hat hA
  go_enter Tryd.func59, Tryd.ntmps59
  go_wp2_with fail
  refine bodyPost_end (v := .tuple #[]) (by simp [results, Tryd.results59, go_sem]) rfl ⟨rfl, some ⟨w.heap.size, 0, none⟩, ?_, ?_⟩
  · have G1 := grown_set (grown_set (grown_refl w (some g)) 0 (.pointer (some ⟨w.heap.size, 0, none⟩))) 1 (.int .i64 ((tot fs : Nat) + (b.length : Nat)))
    have S1 : ((w.setCell ⟨g, 0, none⟩ (.pointer (some ⟨w.heap.size, 0, none⟩))).setCell ⟨g, 1, none⟩ (.int .i64 ((tot fs : Nat) + (b.length : Nat)))).heap.size = w.heap.size := by simp
    have HN := Holds.new ((w.setCell ⟨g, 0, none⟩ (.pointer (some ⟨w.heap.size, 0, none⟩))).setCell ⟨g, 1, none⟩ (.int .i64 ((tot fs : Nat) + (b.length : Nat)))) 148 #[.pointer p, .slice A b.length c] w.heap.size S1
    have G2 := grown_below G1 ((Below.refl _ _).alloc (Nat.le_refl _) (.cells #[.pointer p, .slice A b.length c] 148))
    refine ⟨?_, w.heap.size, p, A, c, rfl, HC.out.lt, hn', HF.out, HN, HT.out.grown G2 (.inr HF.out), HC.out.grown G2⟩
    have X := ((HH.out.set 0 (.pointer (some ⟨w.heap.size, 0, none⟩))).set 1 (.int .i64 ((tot fs : Nat) + (b.length : Nat)))).alloc (.cells #[.pointer p, .slice A b.length c] 148)
    rw [tot_cons, Nat.add_comm b.length, Int.natCast_add]
    exact X
  · have G1 := grown_set (grown_set (grown_refl w (some g)) 0 (.pointer (some ⟨w.heap.size, 0, none⟩))) 1 (.int .i64 ((tot fs : Nat) + (b.length : Nat)))
    exact grown_below G1 ((Below.refl _ _).alloc (Nat.le_refl _) _)
end
end Go.Proofs.YtodimanghmepoaaDoor
namespace Go.Proofs.YtodimanghmepoaaDoor
open Go.RowKit
theorem SlO.mono_ {w : World} {l l' : List Nat} {e : Ending} {w' : World} (h : SlO w l e w') (hl : l = l') : SlO w l' e w' := hl ▸ h
set_option maxRecDepth 100000 in
set_option maxHeartbeats 1000000 in
theorem number_any (v : Nat) (w : World) (hv : v < 18446744073709551616) :
    Calls Tryd.prog 60 #[.int .u64 v] w (SlO w (VM.enc v)) := by
  have C1 : Calls Tryd.prog 68 #[.slice none 0 0, .int .u64 v] w (SlO w (VM.enc v)) := (oput_any none 0 0 [] v w rfl (by decide) (At.nil _ _) hv).mono fun e w' h => h.mono_ (List.nil_append _)
  have CC := Lib.hid C1
  clear C1 hv
  go_enter Tryd.func60, Tryd.ntmps60
  go_wp2_with (go_at_call 68; refine CC.out.mono ?_; rintro e w1 ⟨A1, c1, rfl, o1, b1⟩; have O1 := Lib.hid o1; have B1 := Lib.hid b1; clear o1 b1)
  go_ret
  exact ⟨A1, c1, rfl, O1.out, B1.out⟩
section
variable {g : Nat} {p : Option Addr} {fs : List (List Nat)} {w : World}
theorem far_of {w1 : World} {A : Option Addr} {n c : Nat} {xs : List Value} (h : Wr w g p fs) (ho : Own w1 w.heap.size 5 1 A n c xs) : blk A ≠ some g := fun e => Nat.lt_irrefl _ (Nat.lt_of_lt_of_le h.blk_.lt (ho.lt g e).1)
theorem Wrote.after {w1 : World} {e : Ending} {w2 : World} (hb : Below w.heap.size w w1) (h : Wrote w1 g fs e w2) : Wrote w g fs e w2 := by
  obtain ⟨h1, p', h2, h3⟩ := h
  exact ⟨h1, p', h2, grown_trans ⟨hb.os, hb.tape, hb.output, hb.size, fun k hk _ => hb.block k hk⟩ h3⟩
set_option maxRecDepth 100000 in
set_option maxHeartbeats 1000000 in
theorem wnum_any (v : Nat) (h : Wr w g p fs) (hv : v < 18446744073709551616) (hm : tot fs ≤ 900000) :
    Calls Tryd.prog 42 #[.pointer (some ⟨g, 0, none⟩), .int .u64 v] w (Wrote w g (VM.enc v :: fs)) := by
  have HW := Lib.hid h
  have CC := Lib.hid (number_any v w hv)
  have HS := Lib.hid (VM.size_9 hv)
  clear h hv
  go_enter Tryd.func42, Tryd.ntmps42
  go_wp2_with (first
    | (go_at_call 60; refine CC.out.mono ?_; rintro e w1 ⟨A1, c1, rfl, o1, b1⟩; have O1 := Lib.hid o1; have B1 := Lib.hid b1; clear o1 b1)
    | (go_at_call 59; refine (wput_any A1 c1 (VM.enc v) (HW.out.later B1.out) O1.out.at_ (far_of HW.out O1.out) (by have := HS.out; rw [VM.enc_length]; omega)).mono ?_; rintro e w2 h2; have H2 := Lib.hid (h2.after B1.out); obtain ⟨rfl, _⟩ := h2))
  exact bodyPost_end (v := .tuple #[]) (by simp [results, Tryd.results42, go_sem]) rfl H2.out
set_option maxRecDepth 100000 in
set_option maxHeartbeats 1000000 in
theorem wbytes_any (A : Option Addr) (c : Nat) (b : List Nat) (h : Wr w g p fs) (hat : At w A (nats .u8 b)) (hb : b.length ≤ 10000) (hm : tot fs ≤ 900000) :
    Calls Tryd.prog 43 #[.pointer (some ⟨g, 0, none⟩), .slice A b.length c] w (Wrote w g ((VM.enc b.length ++ b) :: fs)) := by
  have HW := Lib.hid h
  have HT := Lib.hid hat
  have hv : b.length < 18446744073709551616 := by omega
  have CC := Lib.hid (number_any b.length w hv)
  have HS := Lib.hid (VM.size_9 hv)
  have hl1 : (b.length : Int) % 18446744073709551616 = b.length := by omega
  clear h hv hat
  go_enter Tryd.func43, Tryd.ntmps43
  go_wp2_with (first
    | (go_at_call 60; refine CC.out.mono ?_; rintro e w1 ⟨A1, c1, rfl, o1, b1⟩; have O1 := Lib.hid o1; have B1 := Lib.hid b1; have T1 := Lib.hid (HT.out.later b1 (Nat.le_refl _)); have hle := b1.size; clear o1 b1)
    | (at_builtin; refine wpList_app rfl elt_u8 w.heap.size (.tmp 8) (.tmp 9) rfl _ rfl O1.out (nats .u8 b) rfl T1.out (by rw [nats_length, Nat.mul_one]) (nats_one _ _) (by unfold maxLen; have := HS.out; rw [VM.enc_length]; omega) (by have := HS.out; rw [VM.enc_length]; omega) hle ?_; intro A2 c2 w2 own2 g2 _; have O2 := Lib.hid own2; have B2 := Lib.hid (B1.out.grown g2 hle (fun k hk => (O1.out.lt k hk).1)); clear own2 g2)
    | (go_at_call 59; have K := wput_any A2 c2 (VM.enc b.length ++ b) (HW.out.later B2.out) (by have := O2.out.at_; simpa [nats] using this) (far_of HW.out O2.out) (by have := HS.out; rw [List.length_append, VM.enc_length]; omega); rw [List.length_append] at K; refine K.mono ?_; rintro e w2 h2; have H2 := Lib.hid (h2.after B2.out); obtain ⟨rfl, _⟩ := h2))
  exact bodyPost_end (v := .tuple #[]) (by simp [results, Tryd.results43, go_sem]) rfl H2.out
end
end Go.Proofs.YtodimanghmepoaaDoor
namespace Go.Proofs.YtodimanghmepoaaDoor
open Go.RowKit
theorem wpList_mkn {P : Program} {w : World} {ops : Array Oper} {rest : List Oper} {o : Oper} {a : Act} {Q : Exit → Act → World → Prop} {t e : TypeId} {z : Value} {bytes : Nat} (E : Elt P t e z 1 bytes) (hz1 : z.cells = #[z])
    (hgd : Region.wanted o (yielded ops a.tmps) = true) (l c : Operand) (hop : o.op = Op.makeSlice t l c) (kl kc : IntKind) (C : Int) (n : Nat) (hl : a.eval l = .int kl C) (hc : a.eval c = .int kc C) (hC : C = (n : Int)) (b2 : bytes * n ≤ 281474976710656) (b3 : n ≤ maxLen)
    (hK : ∀ w', Holds w' w.heap.size e (List.replicate n z).toArray → Below w.heap.size w w' → w.heap.size < w'.heap.size → wpList P ops Q rest (a.put o.dst (.slice (some ⟨w.heap.size, 0, none⟩) n n)) w') :
    wpList P ops Q (o :: rest) a w := by
  obtain ⟨i, hi, hz, hs, hb⟩ := E.hi
  have h63 : (n : Int) ≤ 9223372036854775807 := by unfold maxLen at b3; omega
  have hb' : (i.bytes : Int) * (n : Int) ≤ 281474976710656 := by
    have h : ((i.bytes * n : Nat) : Int) ≤ 281474976710656 := by rw [hb]; omega
    rwa [Int.natCast_mul] at h
  have hr := run_make (P := P) w t e i z E.ht hi hz kl kc n n (by omega) (Int.le_refl _) hb' h63
  simp only [Int.toNat_natCast, hs, Nat.mul_one, hz1] at hr
  have e1 : madeCells #[z] n = (List.replicate n z).toArray := by
    rw [← toList_madeCells_one, Array.toArray_toList]
  rw [e1] at hr
  refine wpList_step fun K hK' => ?_
  rw [if_pos hgd]
  subst hC
  unfold Oper.wp
  simp [execOp, hop, hl, hc, hr, Result.andThen]
  exact hK' _ _ (hK _ (Holds.new w e _ _ rfl) ((Below.refl _ _).alloc (Nat.le_refl _) _) (by simp))
def atM (v : Value) : Nat := match v with | .pointer (some a) => a.block + 1 | _ => 0
section
variable {g : Nat} {p : Option Addr} {fs : List (List Nat)} {w : World}
set_option maxRecDepth 100000 in
set_option maxHeartbeats 1000000 in
theorem wall_any (h : Wr w g p fs) (hm : tot fs ≤ 1000000) :
    Calls Tryd.prog 44 #[.pointer (some ⟨g, 0, none⟩)] w (SlN w fs.reverse.flatten) := by
  obtain ⟨n, hn⟩ : ∃ n, tot fs = n := ⟨_, rfl⟩
  have H0 := h.blk_
  rw [hn] at hm H0
  have HC := Lib.hid h.ch
  have HN := Lib.hid hn
  have c0 : w.cell? ⟨g, 0, none⟩ = some (.pointer p) := H0.cell 0
  have c1 : w.cell? ⟨g, 1, none⟩ = some (.int .i64 (n : Nat)) := H0.cell 1
  have HH := Lib.hid H0
  clear h hn H0
  go_enter Tryd.func44, Tryd.ntmps44
  go_wp2_with (at_make; refine wpList_mkn elt_u8 rfl rfl (.tmp 11) (.tmp 11) rfl .i64 .i64 _ n rfl rfl rfl (by omega) (by unfold maxLen; omega) ?_; intro w1 h1 b1 s1; have H1 := Lib.hid h1; have B1 := Lib.hid b1; have HL := HH.out.lt; have c10 : w1.cell? ⟨g, 0, none⟩ = some (.pointer p) := (HH.out.later b1 (Nat.le_refl _)).cell 0; have c11 : w1.cell? ⟨g, 1, none⟩ = some (.int .i64 (n : Nat)) := (HH.out.later b1 (Nat.le_refl _)).cell 1; clear h1 b1 c0 c1)
  go_loopw [4, 5] (fun e f wr => ∃ (rs dn : List (List Nat)) (q : Option Addr) (m : Nat) (cur : List Value), fs = dn ++ rs ∧ tot rs = m ∧ m ≤ n ∧ e = .int .i64 (m : Nat) ∧ f = .pointer q ∧ Chain w g q rs ∧ Holds wr w.heap.size 5 cur.toArray ∧ cur.length = n ∧ cur.drop m = nats .u8 dn.reverse.flatten ∧ Below w.heap.size w wr) (fun _ f _ => atM f)
  case atStart => exact ⟨fs, [], p, n, _, rfl, HN.out, Nat.le_refl _, rfl, rfl, HC.out, H1.out, by simp, by simp [nats], B1.out⟩
  case round =>
    obtain ⟨rs, dn, q, m, cur, hfs, hm', hmn, rfl, rfl, hch, hcur, hlen, hdrop, hbel⟩ := hrel
    have HF := Lib.hid hfs
    have HM := Lib.hid hm'
    have HCU := Lib.hid hcur
    have HLE := Lib.hid hlen
    have HD := Lib.hid hdrop
    have HB := Lib.hid hbel
    clear hfs hm' hcur hlen hdrop hbel
    rcases rs with _ | ⟨b, rs⟩
    · obtain rfl : q = none := hch
      obtain rfl : m = 0 := by have := HM.out; simpa [tot] using this.symm
      have X := Lib.hid (show nats .u8 fs.reverse.flatten = cur from by rw [HF.out, List.append_nil, ← HD.out, List.drop_zero])
      have XL : fs.reverse.flatten.length = n := by have := congrArg List.length X.out; rw [nats_length, HLE.out] at this; exact this
      go_wp2
      go_ret
      refine ⟨some ⟨w.heap.size, 0, none⟩, n, by rw [XL]; rfl, ?_, HB.out, by omega, by unfold maxLen; omega⟩
      rw [X.out]
      intro i x hx
      refine ⟨w.heap.size, 0, rfl, ?_⟩
      rw [Nat.zero_add]
      have := HCU.out.cell i
      rw [this, List.getElem?_toArray]
      exact hx
    · obtain ⟨k, q', A, c, rfl, hk1, hk2, hk3, hk4, hk5, hk6⟩ := hch
      have d0 : wr.cell? ⟨k, 0, none⟩ = some (.pointer q') := (hk4.later HB.out (Nat.le_refl _)).cell 0
      have d1 : wr.cell? ⟨k, 1, none⟩ = some (.slice A b.length c) := (hk4.later HB.out (Nat.le_refl _)).cell 1
      obtain ⟨m', hm2⟩ : ∃ m', m' = tot rs := ⟨_, rfl⟩
      have hmm : m = b.length + m' := by have := HM.out; rw [tot_cons] at this; omega
      have hsub : (m : Int) - (b.length : Int) = (m' : Nat) := by omega
      have hmn' : m' ≤ n := by omega
      have hmnI : (m' : Int) ≤ n := by omega
      have HM2 := Lib.hid hm2
      have HMM := Lib.hid hmm
      have K4 := Lib.hid hk4
      have K5 := Lib.hid hk5
      have K6 := Lib.hid hk6
      have K1 := Lib.hid hk1
      clear hm2 hmm hk4 hk5 hk6 hk1
      go_upto_region 9 with fail
      have hmm := HMM.out
      have HP := Lib.hid (show 0 < (nats .u8 b).length → (if n = m' then some (⟨w.heap.size, 0, none⟩ : Addr) else some ⟨w.heap.size, m', none⟩) = some ⟨w.heap.size, m', none⟩ ∧ ∃ ad, A = some ad ∧ ∀ j v, (nats .u8 b)[j]? = some v → wr.drew.cell? (ad.add j) = some v from by
        intro h0
        rw [nats_length] at h0
        refine ⟨if_neg (by omega), ?_⟩
        have X := K5.out.later HB.out (Nat.le_refl _)
        obtain ⟨b', o', hA, _⟩ := X.nat 0 h0
        refine ⟨⟨b', o', none⟩, hA, fun j v hj => ?_⟩
        rw [addr_add]
        obtain ⟨b2, o2, hA2, h2⟩ := X j v hj
        rw [hA] at hA2
        injection hA2 with hA2
        injection hA2 with h3 h4
        subst h3; subst h4
        exact h2)
      have HQ := Lib.hid (show (nats .u8 b).length = Nat.min b.length (n - m') from (nats_length _ _).trans (Nat.min_eq_left (show b.length ≤ n - m' from by omega)).symm)
      have HR := Lib.hid (show m' + (nats .u8 b).length ≤ cur.length from by rw [nats_length, HLE.out]; omega)
      clear hmm
      go_region_law ((go_loud (refine step_copy_splice rfl (.tmp 36) (.tmp 40) 22 22 rfl 5 (by kernel_rfl) (by kernel_rfl) (if n = m' then some (⟨w.heap.size, 0, none⟩ : Addr) else some ⟨w.heap.size, m', none⟩) A (n - m') (n - m') b.length c rfl rfl w.heap.size m' cur 5 HCU.out.drew (nats .u8 b) HQ.out HP.out HR.out (nats_one _ _) w.heap.size w HB.out.drew (Nat.le_refl _) ?_)); intro w4 hg4 hb4; have G4 := Lib.hid hg4; have B4 := Lib.hid hb4; have d2 : w4.cell? ⟨k, 0, none⟩ = some (.pointer q') := (K4.out.later hb4 (Nat.le_refl _)).cell 0; clear hg4 hb4 d0 d1)
      go_wp2
      go_round
      case rel =>
        refine ⟨rs, dn ++ [b], q', m', splice cur m' (nats .u8 b), by rw [HF.out]; simp, HM2.out.symm, hmn', rfl, rfl, K6.out, G4.out.out, ?_, ?_, B4.out⟩
        · rw [length_splice _ _ _ HR.out, HLE.out]
        · have e1 : (cur.take m').length = m' := by rw [List.length_take, HLE.out]; omega
          have e2 : m' + (nats .u8 b).length = m := by rw [nats_length, HMM.out]; omega
          have e3 : List.drop m' (splice cur m' (nats .u8 b)) = nats .u8 b ++ cur.drop (m' + (nats .u8 b).length) := by
            unfold splice; rw [List.drop_append_of_le_length (by rw [e1]; exact Nat.le_refl _), List.drop_of_length_le (by rw [e1]; exact Nat.le_refl _), List.nil_append]
          rw [e3, e2, HD.out]
          simp [nats]
      case measure =>
        have h := K1.out
        cases q' with
        | none => simp [atM]
        | some a => have := h a.block rfl; simp [atM]; omega
end
end Go.Proofs.YtodimanghmepoaaDoor
