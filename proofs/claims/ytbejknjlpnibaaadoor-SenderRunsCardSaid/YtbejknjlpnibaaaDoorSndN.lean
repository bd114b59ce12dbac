/- Layer 17: nothing of a nil one, and the errors. -/
import Derived.Test.YtbejknjlpnibaaaDoorSndK
namespace Go.Proofs.YtbejknjlpnibaaaDoor
open Go.RowKit
set_option maxRecDepth 100000 in
theorem tick_nil (w : World) : Calls Tryd.prog 4 #[.pointer none] w fun e w' => e = .returned (.tuple #[]) ∧ w = w' := by
  go_enter Tryd.func4, Tryd.ntmps4
  go_wp2
  exact bodyPost_end (v := .tuple #[]) (by simp [results, Tryd.results4, go_sem]) rfl ⟨rfl, rfl⟩
set_option maxRecDepth 100000 in
theorem out_nil (w : World) : Calls Tryd.prog 5 #[.pointer none] w fun e w' => e = .returned (.tuple #[.int .i64 0, .slice none 0 0, .bool false]) ∧ w = w' := by
  go_enter Tryd.func5, Tryd.ntmps5
  go_wp2
  exact bodyPost_ret (v := .tuple #[.int .i64 0, .slice none 0 0, .bool false]) (by simp [results, Tryd.results5, go_sem]) rfl ⟨rfl, rfl⟩
set_option maxRecDepth 100000 in
theorem put_nil (v : Value) (w : World) : Calls Tryd.prog 7 #[.pointer none, v] w fun e w' => e = .returned (.iface 54 (.int .i64 1)) ∧ w = w' := by
  go_enter Tryd.func7, Tryd.ntmps7
  go_wp2
  go_ret
  exact ⟨rfl, rfl⟩
set_option maxRecDepth 100000 in
theorem heard_nil (e s : Int) (w : World) : Calls Tryd.prog 8 #[.pointer none, .int .i64 e, .int .i64 s] w fun e w' => e = .returned (.bool false) ∧ w = w' := by
  go_enter Tryd.func8, Tryd.ntmps8
  go_wp2
  go_ret
  exact ⟨rfl, rfl⟩
set_option maxRecDepth 100000 in
theorem reset_nil (w : World) : Calls Tryd.prog 9 #[.pointer none] w fun e w' => e = .returned (.iface 54 (.int .i64 1)) ∧ w = w' := by
  go_enter Tryd.func9, Tryd.ntmps9
  go_wp2
  go_ret
  exact ⟨rfl, rfl⟩
set_option maxRecDepth 100000 in
theorem epoch_nil (w : World) : Calls Tryd.prog 10 #[.pointer none] w fun e w' => e = .returned (.int .i64 0) ∧ w = w' := by
  go_enter Tryd.func10, Tryd.ntmps10
  go_wp2
  go_ret
  exact ⟨rfl, rfl⟩
set_option maxRecDepth 100000 in
theorem seq_nil (w : World) : Calls Tryd.prog 11 #[.pointer none] w fun e w' => e = .returned (.int .i64 0) ∧ w = w' := by
  go_enter Tryd.func11, Tryd.ntmps11
  go_wp2
  go_ret
  exact ⟨rfl, rfl⟩
set_option maxRecDepth 100000 in
theorem waits_nil (w : World) : Calls Tryd.prog 12 #[.pointer none] w fun e w' => e = .returned (.int .i64 0) ∧ w = w' := by
  go_enter Tryd.func12, Tryd.ntmps12
  go_wp2
  go_ret
  exact ⟨rfl, rfl⟩
set_option maxRecDepth 100000 in
theorem new_bad (E : Int) (w : World) (hE : E < 1 ∨ 1073741824 < E) :
    Calls Tryd.prog 13 #[.int .i64 E] w fun e w' => e = .returned (.tuple #[.pointer none, .iface 54 (.int .i64 1)]) ∧ w = w' := by
  by_cases h : E < 1
  · have h1 : decide (E < 1) = true := decide_eq_true h
    go_enter Tryd.func13, Tryd.ntmps13
    go_wp2
    exact bodyPost_ret (v := .tuple #[.pointer none, .iface 54 (.int .i64 1)]) (by simp [results, Tryd.results13, go_sem]) rfl ⟨rfl, rfl⟩
  · have h1 : decide (E < 1) = false := decide_eq_false h
    have h2 : decide (1073741824 < E) = true := decide_eq_true (by omega)
    go_enter Tryd.func13, Tryd.ntmps13
    go_wp2
    exact bodyPost_ret (v := .tuple #[.pointer none, .iface 54 (.int .i64 1)]) (by simp [results, Tryd.results13, go_sem]) rfl ⟨rfl, rfl⟩
section
variable {g base : Nat} {xs : List (Value × List Nat)} {E S : Int} {A : Option Addr} {n c : Nat} {vs : List Value} {l : List (List Nat)} {st lf : Int}
set_option maxRecDepth 100000 in
theorem seq_any (w : World) (h : Snd w g base xs E S A n c vs l st lf) :
    Calls Tryd.prog 11 #[.pointer (some ⟨g, 0, none⟩)] w fun e w' => e = .returned (.int .i64 S) ∧ w = w' := by
  have hc : w.cell? ⟨g, 1, none⟩ = some (.int .i64 S) := h.blk_.cell 1
  clear h
  go_enter Tryd.func11, Tryd.ntmps11
  go_wp2
  go_ret
  exact ⟨rfl, rfl⟩
set_option maxRecDepth 100000 in
theorem reset_max (w : World) (h : Snd w g base xs E S A n c vs l st lf) (hE : 1073741824 ≤ E) :
    Calls Tryd.prog 9 #[.pointer (some ⟨g, 0, none⟩)] w fun e w' => e = .returned (.iface 54 (.int .i64 1)) ∧ w = w' := by
  have h0 : w.cell? ⟨g, 0, none⟩ = some (.int .i64 E) := h.blk_.cell 0
  have hd : decide (1073741824 ≤ E) = true := decide_eq_true hE
  clear h
  go_enter Tryd.func9, Tryd.ntmps9
  go_wp2
  go_ret
  exact ⟨rfl, rfl⟩
set_option maxRecDepth 100000 in
theorem put_long (w : World) (A1 : Option Addr) (m c1 : Nat) (hm : 8192 < m) :
    Calls Tryd.prog 7 #[.pointer (some ⟨g, 0, none⟩), .slice A1 m c1] w fun e w' => e = .returned (.iface 54 (.int .i64 5)) ∧ w = w' := by
  have d1 : decide (8192 < (m : Int)) = true := decide_eq_true (by omega)
  go_enter Tryd.func7, Tryd.ntmps7
  go_wp2
  go_ret
  exact ⟨rfl, rfl⟩
set_option maxRecDepth 100000 in
theorem put_full (w : World) (h : Snd w g base xs E S A n c vs l st lf) (hn : 64 ≤ n) (A1 : Option Addr) (m c1 : Nat) (hm : m ≤ 8192) :
    Calls Tryd.prog 7 #[.pointer (some ⟨g, 0, none⟩), .slice A1 m c1] w fun e w' => e = .returned (.iface 54 (.int .i64 14)) ∧ ∃ j, w.drewN j = w' := by
  have p1 : w.cell? ⟨g, 1, none⟩ = some (.int .i64 S) := h.blk_.cell 1
  have p2 : w.cell? ⟨g, 2, none⟩ = some (.slice A n c) := h.blk_.cell 2
  have d1 : decide (8192 < (m : Int)) = false := decide_eq_false (by omega)
  have d2 : decide (64 ≤ (n : Int)) = true := decide_eq_true (by omega)
  clear h
  go_enter Tryd.func7, Tryd.ntmps7
  go_wp2
  go_quiet (fail)
  go_wp2
  go_ret
  exact ⟨rfl, _, rfl⟩
end
end Go.Proofs.YtbejknjlpnibaaaDoor
