/- An error's number: package caucuslaw19's num, by errors.As' contracts. -/
import Derived.Test.YtodimanghmepoaaDoorGlob
namespace Go.Proofs.YtodimanghmepoaaDoor
open Go.RowKit
set_option maxRecDepth 100000 in
theorem num19_nil (w : World) : Calls Tryd.prog 13 #[.nilIface] w fun e w' => e = .returned (.int .i64 0) ∧ Below w.heap.size w w' := by
  go_enter Tryd.func13, Tryd.ntmps13
  go_wp2
  go_ret
  exact ⟨rfl, (Below.refl _ _).alloc (Nat.le_refl _) _⟩
set_option maxRecDepth 100000 in
set_option maxHeartbeats 1000000 in
theorem num19_err (k : Int) (w : World) (h : Glob w) : Calls Tryd.prog 13 #[.iface 70 (.int .i64 k)] w fun e w' => e = .returned (.int .i64 k) ∧ Below w.heap.size w w' := by
  have hg := h.alloc (.cells #[.int .i64 0] 70)
  have h0 : (w.alloc (.cells #[.int .i64 0] 70)).cell? ⟨w.heap.size, 0, none⟩ = some (.int .i64 0) := by simp
  have hf : (w.alloc (.cells #[.int .i64 0] 70)).frozen? ⟨w.heap.size, 0, none⟩ = false := by simp
  unfold Glob at hg
  have C := as_hit k ⟨w.heap.size, 0, none⟩ (.int .i64 0) (w.alloc (.cells #[.int .i64 0] 70)) hg h0 hf
  have HC := Lib.hid C
  clear C hg h0 hf h
  go_enter Tryd.func13, Tryd.ntmps13
  go_wp2_with (go_at_call 31; refine HC.out.mono ?_; rintro e w' ⟨rfl, rfl⟩)
  go_ret
  refine ⟨rfl, ?_⟩
  first
    | exact (((((Below.refl _ _).alloc (Nat.le_refl _) _).alloc (by simp) _).alloc (by simp <;> omega) _).alloc (by simp <;> omega) _).alloc (by simp <;> omega) _
    | exact ((((((Below.refl _ _).alloc (Nat.le_refl _) _).alloc (by simp) _).alloc (by simp <;> omega) _).alloc (by simp <;> omega) _).alloc (by simp <;> omega) _).setCell (by simp) _
end Go.Proofs.YtodimanghmepoaaDoor
