/- Layer 17: the sender: its state, and the library's Clone. -/
import Derived.Test.YtbejknjlpnibaaaDoorProg
import Derived.Test.YtbejknjlpnibaaaDoorHolds
import Derived.Deep.QuietTactic
import Derived.BigQuiet
import Derived.Outline
import Derived.RegionTactic
import Derived.WalkSpells
import Derived.Deep.RegionHeld3
namespace Go.Proofs.YtbejknjlpnibaaaDoor
open Go.RowKit

theorem elt_u8 : Elt Tryd.prog 24 5 (.int .u8 0) 1 1 where
  ht := by kernel_rfl
  hi := ⟨_, rfl, by kernel_rfl, by kernel_rfl, by kernel_rfl⟩
  hzs := rfl
  hsz := by decide
theorem elt_sl : Elt Tryd.prog 37 24 (.slice none 0 0) 1 24 where
  ht := by kernel_rfl
  hi := ⟨_, rfl, by kernel_rfl, by kernel_rfl, by kernel_rfl⟩
  hzs := rfl
  hsz := by decide
/-- what a Clone hands back -/
def Clo (w : World) (n : Nat) (l : List Nat) (e : Ending) (w' : World) : Prop :=
  ∃ A' c', e = .returned (.slice A' n c') ∧ At w' A' (nats .u8 l) ∧ (A' = none → n = 0) ∧ (∀ k, blk A' = some k → w.heap.size ≤ k ∧ k < w'.heap.size) ∧ Below w.heap.size w w'
set_option maxRecDepth 100000 in
set_option maxHeartbeats 1000000 in
theorem clone_any (A : Option Addr) (n c : Nat) (l : List Nat) (w : World) (hl : l.length = n) (hm : n ≤ 9000) (hr : At w A (nats .u8 l)) (hz : A = none → n = 0) :
    Calls Tryd.prog 20 #[.slice A n c] w (Clo w n l) := by
  have HL := Lib.hid hl; clear hl
  cases A with
  | none =>
    have h0 := hz rfl
    clear hz
    subst h0
    have : l = [] := List.eq_nil_of_length_eq_zero HL.out
    subst this
    clear HL hr
    go_enter Tryd.func20, Tryd.ntmps20
    have hnil := Lib.run_eql_slice_nil (P := Tryd.prog) (t := 24) (e := 5)
    go_wp2_with fail
    go_ret
    exact ⟨none, 0, rfl, At.nil _ _, fun _ => rfl, by simp [blk], Below.refl _ _⟩
  | some a =>
    clear hz
    go_enter Tryd.func20, Tryd.ntmps20
    have hnil := Lib.run_eql_slice_nil (P := Tryd.prog) (t := 24) (e := 5)
    have B0 : Below w.heap.size w (w.alloc (.cells #[] 5)) := (Below.refl _ _).alloc (Nat.le_refl _) _
    have hr' := Lib.hid (fun (W : World) (hW : Below w.heap.size w W) => hr.later hW (Nat.le_refl _))
    clear hr
    go_wp2_with (at_builtin; go_loud (refine wpList_app rfl elt_u8 w.heap.size (.tmp 5) (.tmp 6) rfl [] rfl (Own.lit #[] 0 (Nat.le_refl _) (by unfold maxLen; omega) rfl) (nats .u8 l) rfl (hr'.out _ B0) (by rw [nats_length, Nat.mul_one]; exact HL.out) (nats_one _ _) (by unfold maxLen; omega) (by omega) (by simp) ?_); intro A' c' w1 own1 g1 _; have B1 := B0.grown g1 (by simp) (by simp [blk]); simp only [Nat.zero_add, List.nil_append] at own1)
    go_ret
    exact ⟨A', c', rfl, own1.at_, by rintro rfl; rcases own1.lies with ⟨_, h, _⟩ | ⟨g, h, _⟩ <;> simp_all, own1.lt, B1⟩
end Go.Proofs.YtbejknjlpnibaaaDoor
