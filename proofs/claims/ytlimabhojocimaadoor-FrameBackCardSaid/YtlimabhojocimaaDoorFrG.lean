/- Layer 13: the reader's Num, Bytes and Done; the library's Clone. -/
import Derived.Test.YtlimabhojocimaaDoorFrF
import Derived.Deep.QuietTactic
import Derived.RegionTactic
import Derived.Deep.RegionHeld3
namespace Go.Proofs.YtlimabhojocimaaDoor
open Go.RowKit
/-- what a Clone hands back -/
def Clo (w : World) (n : Nat) (l : List Nat) (e : Ending) (w' : World) : Prop :=
  ∃ A' c', e = .returned (.slice A' n c') ∧ At w' A' (nats .u8 l) ∧ (A' = none → n = 0) ∧ (∀ k, blk A' = some k → w.heap.size ≤ k ∧ k < w'.heap.size) ∧ Below w.heap.size w w' ∧ n ≤ c' ∧ c' ≤ maxLen
set_option maxRecDepth 100000 in
set_option maxHeartbeats 1000000 in
theorem clone_any (A : Option Addr) (n c : Nat) (l : List Nat) (w : World) (hl : l.length = n) (hm : n ≤ 9000) (hr : At w A (nats .u8 l)) (hz : A = none → n = 0) :
    Calls Tryd.prog 36 #[.slice A n c] w (Clo w n l) := by
  have HL := Lib.hid hl; clear hl
  cases A with
  | none =>
    have h0 := hz rfl
    clear hz
    subst h0
    have : l = [] := List.eq_nil_of_length_eq_zero HL.out
    subst this
    clear HL hr
    go_enter Tryd.func36, Tryd.ntmps36
    have hnil := Lib.run_eql_slice_nil (P := Tryd.prog) (t := 22) (e := 5)
    go_wp2_with fail
    go_ret
    exact ⟨none, 0, rfl, At.nil _ _, fun _ => rfl, by simp [blk], Below.refl _ _, Nat.le_refl _, by unfold maxLen; omega⟩
  | some a =>
    clear hz
    go_enter Tryd.func36, Tryd.ntmps36
    have hnil := Lib.run_eql_slice_nil (P := Tryd.prog) (t := 22) (e := 5)
    have B0 : Below w.heap.size w (w.alloc (.cells #[] 5)) := (Below.refl _ _).alloc (Nat.le_refl _) _
    have hr' := Lib.hid (fun (W : World) (hW : Below w.heap.size w W) => hr.later hW (Nat.le_refl _))
    clear hr
    go_wp2_with (at_builtin; go_loud (refine wpList_app rfl elt_u8 w.heap.size (.tmp 5) (.tmp 6) rfl [] rfl (Own.lit #[] 0 (Nat.le_refl _) (by unfold maxLen; omega) rfl) (nats .u8 l) rfl (hr'.out _ B0) (by rw [nats_length, Nat.mul_one]; exact HL.out) (nats_one _ _) (by unfold maxLen; omega) (by omega) (by simp) ?_); intro A' c' w1 own1 g1 _; have B1 := B0.grown g1 (by simp) (by simp [blk]); simp only [Nat.zero_add, List.nil_append] at own1)
    go_ret
    exact ⟨A', c', rfl, own1.at_, by rintro rfl; rcases own1.lies with ⟨_, h, _⟩ | ⟨g, h, _⟩ <;> simp_all, own1.lt, B1, own1.cap⟩
theorem none_zero {w : World} {A : Option Addr} {l : List Nat} (h : At w A (nats .u8 l)) : A = none → l.length = 0 := by
  intro e
  subst e
  cases l with
  | nil => rfl
  | cons x r => obtain ⟨b, o, h1, _⟩ := h.nat 0 (by simp); cases h1
/-- whether a number is there, the number, and what is left -/
def rk (l : List Nat) (most : Nat) : Bool := match VM.dec l with | some (v, _) => decide (v ≤ most) | none => false
def rv (l : List Nat) (most : Nat) : Nat := match VM.dec l with | some (v, _) => if v ≤ most then v else 0 | none => 0
def rl (l : List Nat) (most : Nat) : List Nat := match VM.dec l with | some (v, k) => if v ≤ most then l.drop k else [] | none => []
section
variable {g : Nat} {l : List Nat} {x : Bool} {w : World}
theorem rnumber_any (most : Nat) (h : Rd w g l x) :
    Calls Tryd.prog 37 #[.pointer (some ⟨g, 0, none⟩), .int .u64 most] w fun e w' => e = .returned (.tuple #[.int .u64 (rv l most : Nat), .bool (rk l most)]) ∧ Rd w' g (rl l most) (x || !rk l most) ∧ w.grownBy w' (some g) := by
  cases hd : VM.dec l with
  | none =>
    have h1 : rk l most = false := by unfold rk; rw [hd]
    have h2 : rv l most = 0 := by unfold rv; rw [hd]
    have h3 : rl l most = [] := by unfold rl; rw [hd]
    rw [h1, h2, h3, Bool.not_false, Bool.or_true]
    exact rnumber_no most h (.inl hd)
  | some vk =>
    obtain ⟨v, k⟩ := vk
    by_cases hv : v ≤ most
    · have h1 : rk l most = true := by unfold rk; rw [hd]; exact decide_eq_true hv
      have h2 : rv l most = v := by unfold rv; rw [hd]; exact if_pos hv
      have h3 : rl l most = l.drop k := by unfold rl; rw [hd]; exact if_pos hv
      rw [h1, h2, h3, Bool.not_true, Bool.or_false]
      exact rnumber_yes most v k h hd hv
    · have h1 : rk l most = false := by unfold rk; rw [hd]; exact decide_eq_false hv
      have h2 : rv l most = 0 := by unfold rv; rw [hd]; exact if_neg hv
      have h3 : rl l most = [] := by unfold rl; rw [hd]; exact if_neg hv
      rw [h1, h2, h3, Bool.not_false, Bool.or_true]
      exact rnumber_no most h (.inr ⟨v, k, hd, by omega⟩)
set_option maxRecDepth 100000 in
set_option maxHeartbeats 1000000 in
theorem rnum_any (most : Nat) (h : Rd w g l x) :
    Calls Tryd.prog 25 #[.pointer (some ⟨g, 0, none⟩), .int .u64 most] w fun e w' => e = .returned (.int .u64 (rv l most : Nat)) ∧ Rd w' g (rl l most) (x || !rk l most) ∧ w.grownBy w' (some g) := by
  have C := Lib.hid (rnumber_any most h)
  clear h
  generalize rv l most = v at *
  generalize rk l most = k at *
  generalize rl l most = r at *
  go_enter Tryd.func25, Tryd.ntmps25
  go_wp2_with fail
  refine C.out.mono ?_
  rintro e w' ⟨rfl, h1, h2⟩
  have H1 := Lib.hid h1
  have H2 := Lib.hid h2
  clear h1 h2
  go_wp2_with fail
  go_ret
  exact ⟨rfl, H1.out, H2.out⟩
set_option maxRecDepth 100000 in
set_option maxHeartbeats 1000000 in
theorem rdone_any (h : Rd w g l x) :
    Calls Tryd.prog 27 #[.pointer (some ⟨g, 0, none⟩)] w fun e w' => e = .returned (if x || !l.isEmpty then .iface 65 (.int .i64 3) else .nilIface) ∧ w = w' := by
  obtain ⟨A, c, H0, _⟩ := h
  have c0 := H0.cell 0
  have c1 := H0.cell 1
  simp at c0 c1
  clear H0
  cases x with
  | true =>
    go_enter Tryd.func27, Tryd.ntmps27
    go_wp2_with fail
    go_ret
    exact ⟨rfl, rfl⟩
  | false =>
    cases l with
    | nil =>
      simp at c0
      go_enter Tryd.func27, Tryd.ntmps27
      go_wp2_with fail
      go_ret
      exact ⟨rfl, rfl⟩
    | cons y r =>
      obtain ⟨n, hn⟩ : ∃ n, (y :: r).length = n := ⟨_, rfl⟩
      rw [hn] at c0
      have hn' : 0 < n := by rw [← hn]; simp
      clear hn
      go_enter Tryd.func27, Tryd.ntmps27
      go_wp2_with fail
      go_ret
      exact ⟨rfl, rfl⟩
end
end Go.Proofs.YtlimabhojocimaaDoor
