/- Layer 14: whether a packet may be: the program's Check, the document's May. -/
import Derived.Test.YtlimabhojocimaaDoorProg
import Derived.Test.YtlimabhojocimaaDoorHolds
import Derived.WalkKit
import Derived.Lib.Hide
namespace Go.Proofs.YtlimabhojocimaaDoor
open Go.RowKit
/-- whether a packet may be -/
def FMay (fr to : Int) (ack : Bool) (ep sq : Int) (n : Nat) : Prop :=
  (0 ≤ fr ∧ fr ≤ 255) ∧ (0 ≤ to ∧ to ≤ 255) ∧ fr ≠ to ∧ (1 ≤ ep ∧ ep ≤ 1073741824) ∧ (0 ≤ sq ∧ sq ≤ 1073741824) ∧ (ack = true → n = 0) ∧ (ack = false → sq ≠ 0 ∧ n ≤ 8192)
set_option maxRecDepth 100000 in
set_option maxHeartbeats 2000000 in
theorem fcheck_true (fr to : Int) (ep sq : Int) (A : Option Addr) (n c : Nat) (w : World) :
    Calls Tryd.prog 11 #[.agg #[.int .i64 fr, .int .i64 to, .bool true, .int .i64 ep, .int .i64 sq, .slice A n c]] w fun e w' => ((e = .returned .nilIface ∧ FMay fr to true ep sq n) ∨ (e = .returned (.iface 65 (.int .i64 1)) ∧ ¬ FMay fr to true ep sq n)) ∧ Below w.heap.size w w' := by
  have HB := Lib.hid ((Below.refl w.heap.size w).alloc (Nat.le_refl _) (.cells #[.int .i64 fr, .int .i64 to, .bool true, .int .i64 ep, .int .i64 sq, .slice A n c] 30))
  by_cases h0 : fr < 0
  · have HN := Lib.hid (show ¬ FMay fr to true ep sq n from by unfold FMay; simp; omega)
    have d0 : decide (fr < 0) = true := decide_eq_true h0
    go_enter Tryd.func11, Tryd.ntmps11
    go_wp2_with fail
    go_ret
    exact ⟨.inr ⟨rfl, HN.out⟩, HB.out⟩
  · have d0 : decide (fr < 0) = false := decide_eq_false h0
    by_cases h1 : 255 < fr
    · have HN := Lib.hid (show ¬ FMay fr to true ep sq n from by unfold FMay; simp; omega)
      have d1 : decide (255 < fr) = true := decide_eq_true h1
      go_enter Tryd.func11, Tryd.ntmps11
      go_wp2_with fail
      go_ret
      exact ⟨.inr ⟨rfl, HN.out⟩, HB.out⟩
    · have d1 : decide (255 < fr) = false := decide_eq_false h1
      by_cases h2 : to < 0
      · have HN := Lib.hid (show ¬ FMay fr to true ep sq n from by unfold FMay; simp; omega)
        have d2 : decide (to < 0) = true := decide_eq_true h2
        go_enter Tryd.func11, Tryd.ntmps11
        go_wp2_with fail
        go_ret
        exact ⟨.inr ⟨rfl, HN.out⟩, HB.out⟩
      · have d2 : decide (to < 0) = false := decide_eq_false h2
        by_cases h3 : 255 < to
        · have HN := Lib.hid (show ¬ FMay fr to true ep sq n from by unfold FMay; simp; omega)
          have d3 : decide (255 < to) = true := decide_eq_true h3
          go_enter Tryd.func11, Tryd.ntmps11
          go_wp2_with fail
          go_ret
          exact ⟨.inr ⟨rfl, HN.out⟩, HB.out⟩
        · have d3 : decide (255 < to) = false := decide_eq_false h3
          by_cases h4 : fr = to
          · have HN := Lib.hid (show ¬ FMay fr to true ep sq n from by unfold FMay; simp; omega)
            have d4 : (fr == to) = true := by simp [h4]
            have d4' : decide (fr = to) = true := by simp [h4]
            have HH4 := Lib.hid h4
            clear h4
            go_enter Tryd.func11, Tryd.ntmps11
            go_wp2_with fail
            go_ret
            exact ⟨.inr ⟨rfl, HN.out⟩, HB.out⟩
          · have d4 : (fr == to) = false := by simpa using h4
            have d4' : decide (fr = to) = false := by simpa using h4
            by_cases h5 : ep < 1
            · have HN := Lib.hid (show ¬ FMay fr to true ep sq n from by unfold FMay; simp; omega)
              have d5 : decide (ep < 1) = true := decide_eq_true h5
              go_enter Tryd.func11, Tryd.ntmps11
              go_wp2_with fail
              go_ret
              exact ⟨.inr ⟨rfl, HN.out⟩, HB.out⟩
            · have d5 : decide (ep < 1) = false := decide_eq_false h5
              by_cases h6 : 1073741824 < ep
              · have HN := Lib.hid (show ¬ FMay fr to true ep sq n from by unfold FMay; simp; omega)
                have d6 : decide (1073741824 < ep) = true := decide_eq_true h6
                go_enter Tryd.func11, Tryd.ntmps11
                go_wp2_with fail
                go_ret
                exact ⟨.inr ⟨rfl, HN.out⟩, HB.out⟩
              · have d6 : decide (1073741824 < ep) = false := decide_eq_false h6
                by_cases h7 : sq < 0
                · have HN := Lib.hid (show ¬ FMay fr to true ep sq n from by unfold FMay; simp; omega)
                  have d7 : decide (sq < 0) = true := decide_eq_true h7
                  go_enter Tryd.func11, Tryd.ntmps11
                  go_wp2_with fail
                  go_ret
                  exact ⟨.inr ⟨rfl, HN.out⟩, HB.out⟩
                · have d7 : decide (sq < 0) = false := decide_eq_false h7
                  by_cases h8 : 1073741824 < sq
                  · have HN := Lib.hid (show ¬ FMay fr to true ep sq n from by unfold FMay; simp; omega)
                    have d8 : decide (1073741824 < sq) = true := decide_eq_true h8
                    go_enter Tryd.func11, Tryd.ntmps11
                    go_wp2_with fail
                    go_ret
                    exact ⟨.inr ⟨rfl, HN.out⟩, HB.out⟩
                  · have d8 : decide (1073741824 < sq) = false := decide_eq_false h8
                    by_cases h9 : 0 < n
                    · have HN := Lib.hid (show ¬ FMay fr to true ep sq n from by unfold FMay; simp; omega)
                      have d9 : decide (0 < (n : Int)) = true := decide_eq_true (by omega)
                      go_enter Tryd.func11, Tryd.ntmps11
                      go_wp2_with fail
                      go_ret
                      exact ⟨.inr ⟨rfl, HN.out⟩, HB.out⟩
                    · have d9 : decide (0 < (n : Int)) = false := decide_eq_false (by omega)
                      have HN := Lib.hid (show FMay fr to true ep sq n from by unfold FMay; simp; omega)
                      go_enter Tryd.func11, Tryd.ntmps11
                      go_wp2_with fail
                      go_ret
                      exact ⟨.inl ⟨rfl, HN.out⟩, HB.out⟩
set_option maxRecDepth 100000 in
set_option maxHeartbeats 2000000 in
theorem fcheck_false (fr to : Int) (ep sq : Int) (A : Option Addr) (n c : Nat) (w : World) :
    Calls Tryd.prog 11 #[.agg #[.int .i64 fr, .int .i64 to, .bool false, .int .i64 ep, .int .i64 sq, .slice A n c]] w fun e w' => ((e = .returned .nilIface ∧ FMay fr to false ep sq n) ∨ (e = .returned (.iface 65 (.int .i64 1)) ∧ ¬ FMay fr to false ep sq n)) ∧ Below w.heap.size w w' := by
  have HB := Lib.hid ((Below.refl w.heap.size w).alloc (Nat.le_refl _) (.cells #[.int .i64 fr, .int .i64 to, .bool false, .int .i64 ep, .int .i64 sq, .slice A n c] 30))
  by_cases h0 : fr < 0
  · have HN := Lib.hid (show ¬ FMay fr to false ep sq n from by unfold FMay; simp; omega)
    have d0 : decide (fr < 0) = true := decide_eq_true h0
    go_enter Tryd.func11, Tryd.ntmps11
    go_wp2_with fail
    go_ret
    exact ⟨.inr ⟨rfl, HN.out⟩, HB.out⟩
  · have d0 : decide (fr < 0) = false := decide_eq_false h0
    by_cases h1 : 255 < fr
    · have HN := Lib.hid (show ¬ FMay fr to false ep sq n from by unfold FMay; simp; omega)
      have d1 : decide (255 < fr) = true := decide_eq_true h1
      go_enter Tryd.func11, Tryd.ntmps11
      go_wp2_with fail
      go_ret
      exact ⟨.inr ⟨rfl, HN.out⟩, HB.out⟩
    · have d1 : decide (255 < fr) = false := decide_eq_false h1
      by_cases h2 : to < 0
      · have HN := Lib.hid (show ¬ FMay fr to false ep sq n from by unfold FMay; simp; omega)
        have d2 : decide (to < 0) = true := decide_eq_true h2
        go_enter Tryd.func11, Tryd.ntmps11
        go_wp2_with fail
        go_ret
        exact ⟨.inr ⟨rfl, HN.out⟩, HB.out⟩
      · have d2 : decide (to < 0) = false := decide_eq_false h2
        by_cases h3 : 255 < to
        · have HN := Lib.hid (show ¬ FMay fr to false ep sq n from by unfold FMay; simp; omega)
          have d3 : decide (255 < to) = true := decide_eq_true h3
          go_enter Tryd.func11, Tryd.ntmps11
          go_wp2_with fail
          go_ret
          exact ⟨.inr ⟨rfl, HN.out⟩, HB.out⟩
        · have d3 : decide (255 < to) = false := decide_eq_false h3
          by_cases h4 : fr = to
          · have HN := Lib.hid (show ¬ FMay fr to false ep sq n from by unfold FMay; simp; omega)
            have d4 : (fr == to) = true := by simp [h4]
            have d4' : decide (fr = to) = true := by simp [h4]
            have HH4 := Lib.hid h4
            clear h4
            go_enter Tryd.func11, Tryd.ntmps11
            go_wp2_with fail
            go_ret
            exact ⟨.inr ⟨rfl, HN.out⟩, HB.out⟩
          · have d4 : (fr == to) = false := by simpa using h4
            have d4' : decide (fr = to) = false := by simpa using h4
            by_cases h5 : ep < 1
            · have HN := Lib.hid (show ¬ FMay fr to false ep sq n from by unfold FMay; simp; omega)
              have d5 : decide (ep < 1) = true := decide_eq_true h5
              go_enter Tryd.func11, Tryd.ntmps11
              go_wp2_with fail
              go_ret
              exact ⟨.inr ⟨rfl, HN.out⟩, HB.out⟩
            · have d5 : decide (ep < 1) = false := decide_eq_false h5
              by_cases h6 : 1073741824 < ep
              · have HN := Lib.hid (show ¬ FMay fr to false ep sq n from by unfold FMay; simp; omega)
                have d6 : decide (1073741824 < ep) = true := decide_eq_true h6
                go_enter Tryd.func11, Tryd.ntmps11
                go_wp2_with fail
                go_ret
                exact ⟨.inr ⟨rfl, HN.out⟩, HB.out⟩
              · have d6 : decide (1073741824 < ep) = false := decide_eq_false h6
                by_cases h7 : sq < 0
                · have HN := Lib.hid (show ¬ FMay fr to false ep sq n from by unfold FMay; simp; omega)
                  have d7 : decide (sq < 0) = true := decide_eq_true h7
                  go_enter Tryd.func11, Tryd.ntmps11
                  go_wp2_with fail
                  go_ret
                  exact ⟨.inr ⟨rfl, HN.out⟩, HB.out⟩
                · have d7 : decide (sq < 0) = false := decide_eq_false h7
                  by_cases h8 : 1073741824 < sq
                  · have HN := Lib.hid (show ¬ FMay fr to false ep sq n from by unfold FMay; simp; omega)
                    have d8 : decide (1073741824 < sq) = true := decide_eq_true h8
                    go_enter Tryd.func11, Tryd.ntmps11
                    go_wp2_with fail
                    go_ret
                    exact ⟨.inr ⟨rfl, HN.out⟩, HB.out⟩
                  · have d8 : decide (1073741824 < sq) = false := decide_eq_false h8
                    by_cases h9 : sq = 0
                    · have HN := Lib.hid (show ¬ FMay fr to false ep sq n from by unfold FMay; simp; omega)
                      have d9 : (sq == 0) = true := by simp [h9]
                      have d9' : decide (sq = 0) = true := by simp [h9]
                      have HH9 := Lib.hid h9
                      clear h9
                      go_enter Tryd.func11, Tryd.ntmps11
                      go_wp2_with fail
                      go_ret
                      exact ⟨.inr ⟨rfl, HN.out⟩, HB.out⟩
                    · have d9 : (sq == 0) = false := by simpa using h9
                      have d9' : decide (sq = 0) = false := by simpa using h9
                      by_cases h10 : 8192 < n
                      · have HN := Lib.hid (show ¬ FMay fr to false ep sq n from by unfold FMay; simp; omega)
                        have d10 : decide (8192 < (n : Int)) = true := decide_eq_true (by omega)
                        go_enter Tryd.func11, Tryd.ntmps11
                        go_wp2_with fail
                        go_ret
                        exact ⟨.inr ⟨rfl, HN.out⟩, HB.out⟩
                      · have d10 : decide (8192 < (n : Int)) = false := decide_eq_false (by omega)
                        have HN := Lib.hid (show FMay fr to false ep sq n from by unfold FMay; simp; omega)
                        go_enter Tryd.func11, Tryd.ntmps11
                        go_wp2_with fail
                        go_ret
                        exact ⟨.inl ⟨rfl, HN.out⟩, HB.out⟩
theorem fcheck_any (fr to : Int) (ack : Bool) (ep sq : Int) (A : Option Addr) (n c : Nat) (w : World) :
    Calls Tryd.prog 11 #[.agg #[.int .i64 fr, .int .i64 to, .bool ack, .int .i64 ep, .int .i64 sq, .slice A n c]] w fun e w' => ((e = .returned .nilIface ∧ FMay fr to ack ep sq n) ∨ (e = .returned (.iface 65 (.int .i64 1)) ∧ ¬ FMay fr to ack ep sq n)) ∧ Below w.heap.size w w' := by
  cases ack with
  | true => exact fcheck_true fr to ep sq A n c w
  | false => exact fcheck_false fr to ep sq A n c w
set_option maxRecDepth 100000 in
set_option maxHeartbeats 2000000 in
theorem fmay_true (fr to : Int) (ep sq : Int) (A : Option Addr) (n c : Nat) (w : World) :
    Calls Tryd.prog 19 #[.agg #[.int .i64 fr, .int .i64 to, .bool true, .int .i64 ep, .int .i64 sq, .slice A n c]] w fun e w' => ((e = .returned (.bool true) ∧ FMay fr to true ep sq n) ∨ (e = .returned (.bool false) ∧ ¬ FMay fr to true ep sq n)) ∧ Below w.heap.size w w' := by
  have HB := Lib.hid ((Below.refl w.heap.size w).alloc (Nat.le_refl _) (.cells #[.int .i64 fr, .int .i64 to, .bool true, .int .i64 ep, .int .i64 sq, .slice A n c] 24))
  by_cases h0 : fr < 0
  · have HN := Lib.hid (show ¬ FMay fr to true ep sq n from by unfold FMay; simp; omega)
    have d0 : decide (fr < 0) = true := decide_eq_true h0
    go_enter Tryd.func19, Tryd.ntmps19
    go_wp2_with fail
    go_ret
    exact ⟨.inr ⟨rfl, HN.out⟩, HB.out⟩
  · have d0 : decide (fr < 0) = false := decide_eq_false h0
    by_cases h1 : 255 < fr
    · have HN := Lib.hid (show ¬ FMay fr to true ep sq n from by unfold FMay; simp; omega)
      have d1 : decide (255 < fr) = true := decide_eq_true h1
      go_enter Tryd.func19, Tryd.ntmps19
      go_wp2_with fail
      go_ret
      exact ⟨.inr ⟨rfl, HN.out⟩, HB.out⟩
    · have d1 : decide (255 < fr) = false := decide_eq_false h1
      by_cases h2 : to < 0
      · have HN := Lib.hid (show ¬ FMay fr to true ep sq n from by unfold FMay; simp; omega)
        have d2 : decide (to < 0) = true := decide_eq_true h2
        go_enter Tryd.func19, Tryd.ntmps19
        go_wp2_with fail
        go_ret
        exact ⟨.inr ⟨rfl, HN.out⟩, HB.out⟩
      · have d2 : decide (to < 0) = false := decide_eq_false h2
        by_cases h3 : 255 < to
        · have HN := Lib.hid (show ¬ FMay fr to true ep sq n from by unfold FMay; simp; omega)
          have d3 : decide (255 < to) = true := decide_eq_true h3
          go_enter Tryd.func19, Tryd.ntmps19
          go_wp2_with fail
          go_ret
          exact ⟨.inr ⟨rfl, HN.out⟩, HB.out⟩
        · have d3 : decide (255 < to) = false := decide_eq_false h3
          by_cases h4 : fr = to
          · have HN := Lib.hid (show ¬ FMay fr to true ep sq n from by unfold FMay; simp; omega)
            have d4 : (fr == to) = true := by simp [h4]
            have d4' : decide (fr = to) = true := by simp [h4]
            have HH4 := Lib.hid h4
            clear h4
            go_enter Tryd.func19, Tryd.ntmps19
            go_wp2_with fail
            go_ret
            exact ⟨.inr ⟨rfl, HN.out⟩, HB.out⟩
          · have d4 : (fr == to) = false := by simpa using h4
            have d4' : decide (fr = to) = false := by simpa using h4
            by_cases h5 : ep < 1
            · have HN := Lib.hid (show ¬ FMay fr to true ep sq n from by unfold FMay; simp; omega)
              have d5 : decide (ep < 1) = true := decide_eq_true h5
              go_enter Tryd.func19, Tryd.ntmps19
              go_wp2_with fail
              go_ret
              exact ⟨.inr ⟨rfl, HN.out⟩, HB.out⟩
            · have d5 : decide (ep < 1) = false := decide_eq_false h5
              by_cases h6 : 1073741824 < ep
              · have HN := Lib.hid (show ¬ FMay fr to true ep sq n from by unfold FMay; simp; omega)
                have d6 : decide (1073741824 < ep) = true := decide_eq_true h6
                go_enter Tryd.func19, Tryd.ntmps19
                go_wp2_with fail
                go_ret
                exact ⟨.inr ⟨rfl, HN.out⟩, HB.out⟩
              · have d6 : decide (1073741824 < ep) = false := decide_eq_false h6
                by_cases h7 : sq < 0
                · have HN := Lib.hid (show ¬ FMay fr to true ep sq n from by unfold FMay; simp; omega)
                  have d7 : decide (sq < 0) = true := decide_eq_true h7
                  go_enter Tryd.func19, Tryd.ntmps19
                  go_wp2_with fail
                  go_ret
                  exact ⟨.inr ⟨rfl, HN.out⟩, HB.out⟩
                · have d7 : decide (sq < 0) = false := decide_eq_false h7
                  by_cases h8 : 1073741824 < sq
                  · have HN := Lib.hid (show ¬ FMay fr to true ep sq n from by unfold FMay; simp; omega)
                    have d8 : decide (1073741824 < sq) = true := decide_eq_true h8
                    go_enter Tryd.func19, Tryd.ntmps19
                    go_wp2_with fail
                    go_ret
                    exact ⟨.inr ⟨rfl, HN.out⟩, HB.out⟩
                  · have d8 : decide (1073741824 < sq) = false := decide_eq_false h8
                    by_cases h9 : 0 < n
                    · have HN := Lib.hid (show ¬ FMay fr to true ep sq n from by unfold FMay; simp; omega)
                      have e9 : ((n : Int) == 0) = false := by simp; omega
                      have e9' : (n == 0) = false := by simp; omega
                      have e9'' : decide (n = 0) = false := by simp; omega
                      go_enter Tryd.func19, Tryd.ntmps19
                      go_wp2_with fail
                      go_ret
                      exact ⟨.inr ⟨rfl, HN.out⟩, HB.out⟩
                    · have e9 : ((n : Int) == 0) = true := by simp; omega
                      have e9' : (n == 0) = true := by simp; omega
                      have e9'' : decide (n = 0) = true := by simp; omega
                      have HN := Lib.hid (show FMay fr to true ep sq n from by unfold FMay; simp; omega)
                      go_enter Tryd.func19, Tryd.ntmps19
                      go_wp2_with fail
                      go_ret
                      exact ⟨.inl ⟨rfl, HN.out⟩, HB.out⟩
set_option maxRecDepth 100000 in
set_option maxHeartbeats 2000000 in
theorem fmay_false (fr to : Int) (ep sq : Int) (A : Option Addr) (n c : Nat) (w : World) :
    Calls Tryd.prog 19 #[.agg #[.int .i64 fr, .int .i64 to, .bool false, .int .i64 ep, .int .i64 sq, .slice A n c]] w fun e w' => ((e = .returned (.bool true) ∧ FMay fr to false ep sq n) ∨ (e = .returned (.bool false) ∧ ¬ FMay fr to false ep sq n)) ∧ Below w.heap.size w w' := by
  have HB := Lib.hid ((Below.refl w.heap.size w).alloc (Nat.le_refl _) (.cells #[.int .i64 fr, .int .i64 to, .bool false, .int .i64 ep, .int .i64 sq, .slice A n c] 24))
  by_cases h0 : fr < 0
  · have HN := Lib.hid (show ¬ FMay fr to false ep sq n from by unfold FMay; simp; omega)
    have d0 : decide (fr < 0) = true := decide_eq_true h0
    go_enter Tryd.func19, Tryd.ntmps19
    go_wp2_with fail
    go_ret
    exact ⟨.inr ⟨rfl, HN.out⟩, HB.out⟩
  · have d0 : decide (fr < 0) = false := decide_eq_false h0
    by_cases h1 : 255 < fr
    · have HN := Lib.hid (show ¬ FMay fr to false ep sq n from by unfold FMay; simp; omega)
      have d1 : decide (255 < fr) = true := decide_eq_true h1
      go_enter Tryd.func19, Tryd.ntmps19
      go_wp2_with fail
      go_ret
      exact ⟨.inr ⟨rfl, HN.out⟩, HB.out⟩
    · have d1 : decide (255 < fr) = false := decide_eq_false h1
      by_cases h2 : to < 0
      · have HN := Lib.hid (show ¬ FMay fr to false ep sq n from by unfold FMay; simp; omega)
        have d2 : decide (to < 0) = true := decide_eq_true h2
        go_enter Tryd.func19, Tryd.ntmps19
        go_wp2_with fail
        go_ret
        exact ⟨.inr ⟨rfl, HN.out⟩, HB.out⟩
      · have d2 : decide (to < 0) = false := decide_eq_false h2
        by_cases h3 : 255 < to
        · have HN := Lib.hid (show ¬ FMay fr to false ep sq n from by unfold FMay; simp; omega)
          have d3 : decide (255 < to) = true := decide_eq_true h3
          go_enter Tryd.func19, Tryd.ntmps19
          go_wp2_with fail
          go_ret
          exact ⟨.inr ⟨rfl, HN.out⟩, HB.out⟩
        · have d3 : decide (255 < to) = false := decide_eq_false h3
          by_cases h4 : fr = to
          · have HN := Lib.hid (show ¬ FMay fr to false ep sq n from by unfold FMay; simp; omega)
            have d4 : (fr == to) = true := by simp [h4]
            have d4' : decide (fr = to) = true := by simp [h4]
            have HH4 := Lib.hid h4
            clear h4
            go_enter Tryd.func19, Tryd.ntmps19
            go_wp2_with fail
            go_ret
            exact ⟨.inr ⟨rfl, HN.out⟩, HB.out⟩
          · have d4 : (fr == to) = false := by simpa using h4
            have d4' : decide (fr = to) = false := by simpa using h4
            by_cases h5 : ep < 1
            · have HN := Lib.hid (show ¬ FMay fr to false ep sq n from by unfold FMay; simp; omega)
              have d5 : decide (ep < 1) = true := decide_eq_true h5
              go_enter Tryd.func19, Tryd.ntmps19
              go_wp2_with fail
              go_ret
              exact ⟨.inr ⟨rfl, HN.out⟩, HB.out⟩
            · have d5 : decide (ep < 1) = false := decide_eq_false h5
              by_cases h6 : 1073741824 < ep
              · have HN := Lib.hid (show ¬ FMay fr to false ep sq n from by unfold FMay; simp; omega)
                have d6 : decide (1073741824 < ep) = true := decide_eq_true h6
                go_enter Tryd.func19, Tryd.ntmps19
                go_wp2_with fail
                go_ret
                exact ⟨.inr ⟨rfl, HN.out⟩, HB.out⟩
              · have d6 : decide (1073741824 < ep) = false := decide_eq_false h6
                by_cases h7 : sq < 0
                · have HN := Lib.hid (show ¬ FMay fr to false ep sq n from by unfold FMay; simp; omega)
                  have d7 : decide (sq < 0) = true := decide_eq_true h7
                  go_enter Tryd.func19, Tryd.ntmps19
                  go_wp2_with fail
                  go_ret
                  exact ⟨.inr ⟨rfl, HN.out⟩, HB.out⟩
                · have d7 : decide (sq < 0) = false := decide_eq_false h7
                  by_cases h8 : 1073741824 < sq
                  · have HN := Lib.hid (show ¬ FMay fr to false ep sq n from by unfold FMay; simp; omega)
                    have d8 : decide (1073741824 < sq) = true := decide_eq_true h8
                    go_enter Tryd.func19, Tryd.ntmps19
                    go_wp2_with fail
                    go_ret
                    exact ⟨.inr ⟨rfl, HN.out⟩, HB.out⟩
                  · have d8 : decide (1073741824 < sq) = false := decide_eq_false h8
                    by_cases h9 : sq = 0
                    · have HN := Lib.hid (show ¬ FMay fr to false ep sq n from by unfold FMay; simp; omega)
                      have e9 : decide (0 < sq) = false := decide_eq_false (by omega)
                      have HH9 := Lib.hid h9
                      clear h9
                      go_enter Tryd.func19, Tryd.ntmps19
                      go_wp2_with fail
                      go_ret
                      exact ⟨.inr ⟨rfl, HN.out⟩, HB.out⟩
                    · have e9 : decide (0 < sq) = true := decide_eq_true (by omega)
                      by_cases h10 : 8192 < n
                      · have HN := Lib.hid (show ¬ FMay fr to false ep sq n from by unfold FMay; simp; omega)
                        have e10 : decide ((n : Int) ≤ 8192) = false := decide_eq_false (by omega)
                        go_enter Tryd.func19, Tryd.ntmps19
                        go_wp2_with fail
                        go_ret
                        exact ⟨.inr ⟨rfl, HN.out⟩, HB.out⟩
                      · have e10 : decide ((n : Int) ≤ 8192) = true := decide_eq_true (by omega)
                        have HN := Lib.hid (show FMay fr to false ep sq n from by unfold FMay; simp; omega)
                        go_enter Tryd.func19, Tryd.ntmps19
                        go_wp2_with fail
                        go_ret
                        exact ⟨.inl ⟨rfl, HN.out⟩, HB.out⟩
theorem fmay_any (fr to : Int) (ack : Bool) (ep sq : Int) (A : Option Addr) (n c : Nat) (w : World) :
    Calls Tryd.prog 19 #[.agg #[.int .i64 fr, .int .i64 to, .bool ack, .int .i64 ep, .int .i64 sq, .slice A n c]] w fun e w' => ((e = .returned (.bool true) ∧ FMay fr to ack ep sq n) ∨ (e = .returned (.bool false) ∧ ¬ FMay fr to ack ep sq n)) ∧ Below w.heap.size w w' := by
  cases ack with
  | true => exact fmay_true fr to ep sq A n c w
  | false => exact fmay_false fr to ep sq A n c w
end Go.Proofs.YtlimabhojocimaaDoor
