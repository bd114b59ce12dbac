/- Layer 37: slices.Clone of a row. -/
import Derived.Test.YtmdilfgeogedpaaDoorIdD
namespace Go.Proofs.YtmdilfgeogedpaaDoor
open Go.RowKit
/-- a row of the call's own -/
def RowC (w : World) (l : List Nat) (n : Nat) (e : Ending) (w' : World) : Prop :=
  ∃ A c, e = .returned (.slice A n c) ∧ Own w' w.heap.size 61 1 A n c (nats .u32 l) ∧ Below w.heap.size w w'
set_option maxRecDepth 100000 in
set_option maxHeartbeats 1000000 in
theorem clone_own (A : Option Addr) (n c : Nat) (l : List Nat) (w : World) (hl : l.length = n) (hm : n ≤ 9000) (hr : At w A (nats .u32 l)) (hz : A = none → n = 0) :
    Calls Tryd.prog 43 #[.slice A n c] w (RowC w l n) := by
  have HL := Lib.hid hl; clear hl
  cases A with
  | none =>
    have h0 := hz rfl
    clear hz
    subst h0
    have : l = [] := List.eq_nil_of_length_eq_zero HL.out
    subst this
    clear HL hr
    go_enter Tryd.func43, Tryd.ntmps43
    have hnil := Lib.run_eql_slice_nil (P := Tryd.prog) (t := 54) (e := 61)
    go_wp2_with fail
    go_ret
    exact ⟨none, 0, rfl, Own.none_ _ _ _ _, Below.refl _ _⟩
  | some a =>
    clear hz
    go_enter Tryd.func43, Tryd.ntmps43
    have hnil := Lib.run_eql_slice_nil (P := Tryd.prog) (t := 54) (e := 61)
    have B0 : Below w.heap.size w (w.alloc (.cells #[] 61)) := (Below.refl _ _).alloc (Nat.le_refl _) _
    have hr' := Lib.hid (fun (W : World) (hW : Below w.heap.size w W) => hr.later hW (Nat.le_refl _))
    clear hr
    go_wp2_with (at_builtin; refine wpList_app rfl elt_u32 w.heap.size (.tmp 5) (.tmp 6) rfl [] rfl (Own.lit #[] 0 (Nat.le_refl _) (by unfold maxLen; omega) rfl) (nats .u32 l) rfl (hr'.out _ B0) (by rw [nats_length, Nat.mul_one]; exact HL.out) (nats_one _ _) (by unfold maxLen; omega) (by omega) (by simp) ?_; intro A' c' w1 own1 g1 _; have B1 := B0.grown g1 (by simp) (by simp [blk]); simp only [Nat.zero_add, List.nil_append] at own1)
    go_ret
    exact ⟨A', c', rfl, own1, B1⟩
end Go.Proofs.YtmdilfgeogedpaaDoor
