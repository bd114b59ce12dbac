/- Clones of, and comparisons of, slices of numbers, as the packages of layer 23 make them. -/
import Derived.Test.YtkpangeeldhjfaaDoorQset
namespace Go.Proofs.YtkpangeeldhjfaaDoor
open Go.RowKit
set_option maxRecDepth 100000 in
theorem ints23_any (A : Option Addr) (n c : Nat) (l : List Int) (A2 : Option Addr) (n2 c2 : Nat) (l2 : List Int) (w : World) (hl : l.length = n) (hm : n ≤ 9223372036854775807) (ha : At w A (ints .i64 l)) (hl2 : l2.length = n2) (hm2 : n2 ≤ 9223372036854775807) (ha2 : At w A2 (ints .i64 l2)) :
    Calls Tryd.prog 18 #[.slice A n c, .slice A2 n2 c2] w fun e w' => e = .returned (.bool (decide (l = l2))) ∧ ∃ m, w' = w.drewN m := by
  have HL := Lib.hid hl
  have HA := Lib.hid ha
  have HL2 := Lib.hid hl2
  have HA2 := Lib.hid ha2
  clear hl ha hl2 ha2
  obtain ⟨r, hr⟩ : ∃ r, decide (l = l2) = r := ⟨_, rfl⟩
  rw [hr]
  have HR0 := Lib.hid hr
  clear hr
  by_cases hn : n = n2
  · subst hn
    go_enter Tryd.func18, Tryd.ntmps18
    go_wp2
    go_loopw [5] (fun i wr => ∃ k m : Nat, k ≤ n ∧ i = .int .i64 k ∧ l.take k = l2.take k ∧ wr = w.drewN m) (fun i _ => n - (intOf i).toNat)
    case atStart => exact ⟨0, 0, by omega, rfl, rfl, rfl⟩
    case round =>
      obtain ⟨k, m, hk, rfl, hrm, rfl⟩ := hrel
      have HR := Lib.hid hrm
      clear hrm
      by_cases hlt : k < n
      · obtain ⟨b, o, rfl, hc⟩ := HA.out.int k (by rw [HL.out]; exact hlt)
        obtain ⟨b2, o2, rfl, hc2⟩ := HA2.out.int k (by rw [HL2.out]; exact hlt)
        have ht := take_snocI (l := l) (k := k) (by rw [HL.out]; exact hlt)
        have ht2 := take_snocI (l := l2) (k := k) (by rw [HL2.out]; exact hlt)
        obtain ⟨x, hx⟩ : ∃ x, l.getD k 0 = x := ⟨_, rfl⟩
        obtain ⟨x2, hx2⟩ : ∃ x, l2.getD k 0 = x := ⟨_, rfl⟩
        rw [hx] at hc ht
        rw [hx2] at hc2 ht2
        by_cases hxx : x = x2
        · subst hxx
          have hr2 : l.take (k + 1) = l2.take (k + 1) := by rw [ht, ht2, HR.out]
          have HR2 := Lib.hid hr2
          clear hx hx2 ht ht2 hr2
          go_wp2_with fail
          go_quiet (fail)
          go_wp2_with fail
          exact ⟨⟨k + 1, m + nq, by omega, by simp, HR2.out, rfl⟩, by simp only [intOf]; omega⟩
        · have hne : r = false := by
            rw [← HR0.out, decide_eq_false_iff_not]; rintro rfl; exact hxx (hx.symm.trans hx2)
          subst hne
          have hd : (x != x2) = true := by simpa using hxx
          clear hx hx2 ht ht2 hxx HR0
          go_wp2_with fail
          go_quiet (fail)
          go_wp2_with fail
          go_ret
          first | exact ⟨rfl, _, World.drewN_drewN _ _ _⟩ | exact ⟨rfl, _, rfl⟩
      · obtain rfl : k = n := by omega
        have he : r = true := by
          have := HR.out
          rw [List.take_of_length_le (by rw [HL.out]; omega), List.take_of_length_le (by rw [HL2.out]; omega)] at this
          rw [← HR0.out]; simpa using this
        subst he
        clear HR0
        go_wp2
        go_ret
        first | exact ⟨rfl, _, World.drewN_drewN _ _ _⟩ | exact ⟨rfl, _, rfl⟩
  · have hne : r = false := by
      rw [← HR0.out, decide_eq_false_iff_not]; rintro rfl; exact hn (HL.out.symm.trans HL2.out)
    subst hne
    have hd2 : ((n : Int) != (n2 : Int)) = true := by simp; omega
    clear HR0
    go_enter Tryd.func18, Tryd.ntmps18
    go_wp2
    go_ret
    exact ⟨rfl, 0, rfl⟩
/-- what a Clone hands back -/
def CloI (w : World) (n : Nat) (l : List Int) (e : Ending) (w' : World) : Prop :=
  ∃ A' c', e = .returned (.slice A' n c') ∧ At w' A' (ints .i64 l) ∧ (A' = none → n = 0) ∧ (∀ k, blk A' = some k → w.heap.size ≤ k ∧ k < w'.heap.size) ∧ Below w.heap.size w w'
set_option maxRecDepth 100000 in
set_option maxHeartbeats 1000000 in
theorem cloneI_any (A : Option Addr) (n c : Nat) (l : List Int) (w : World) (hl : l.length = n) (hm : n ≤ 9000) (hr : At w A (ints .i64 l)) (hz : A = none → n = 0) :
    Calls Tryd.prog 23 #[.slice A n c] w (CloI w n l) := by
  have HL := Lib.hid hl; clear hl
  cases A with
  | none =>
    have h0 := hz rfl
    clear hz
    subst h0
    have : l = [] := List.eq_nil_of_length_eq_zero HL.out
    subst this
    clear HL hr
    go_enter Tryd.func23, Tryd.ntmps23
    have hnil := Lib.run_eql_slice_nil (P := Tryd.prog) (t := 22) (e := 3)
    go_wp2_with fail
    go_ret
    exact ⟨none, 0, rfl, At.nil _ _, fun _ => rfl, by simp [blk], Below.refl _ _⟩
  | some a =>
    clear hz
    go_enter Tryd.func23, Tryd.ntmps23
    have hnil := Lib.run_eql_slice_nil (P := Tryd.prog) (t := 22) (e := 3)
    have B0 : Below w.heap.size w (w.alloc (.cells #[] 3)) := (Below.refl _ _).alloc (Nat.le_refl _) _
    have hr' := Lib.hid (fun (W : World) (hW : Below w.heap.size w W) => hr.later hW (Nat.le_refl _))
    clear hr
    go_wp2_with (at_builtin; refine wpList_app rfl elt_int w.heap.size (.tmp 5) (.tmp 6) rfl [] rfl (Own.lit #[] 0 (Nat.le_refl _) (by unfold maxLen; omega) rfl) (ints .i64 l) rfl (hr'.out _ B0) (by rw [ints_length, Nat.mul_one]; exact HL.out) (by intro u hu; simp [ints] at hu; obtain ⟨y, _, rfl⟩ := hu; rfl) (by unfold maxLen; omega) (by omega) (by simp) ?_; intro A' c' w1 own1 g1 _; have B1 := B0.grown g1 (by simp) (by simp [blk]); simp only [Nat.zero_add, List.nil_append] at own1)
    go_ret
    exact ⟨A', c', rfl, own1.at_, by rintro rfl; rcases own1.lies with ⟨_, h, _⟩ | ⟨g, h, _⟩ <;> simp_all, own1.lt, B1⟩
/-! ### items -/
end Go.Proofs.YtkpangeeldhjfaaDoor
