/- The laws' own comparison of two slices of numbers (ints), package caucuslaw15. -/
import Derived.Test.YtpmejkgmeoajaaaDoorSetA
namespace Go.Proofs.YtpmejkgmeoajaaaDoor
open Go.RowKit
set_option maxRecDepth 100000 in
theorem ints15_any (A : Option Addr) (n c : Nat) (l : List Int) (A2 : Option Addr) (n2 c2 : Nat) (l2 : List Int) (w : World) (hl : l.length = n) (hm : n ≤ 9223372036854775807) (ha : At w A (ints .i64 l)) (hl2 : l2.length = n2) (hm2 : n2 ≤ 9223372036854775807) (ha2 : At w A2 (ints .i64 l2)) :
    Calls Tryd.prog 17 #[.slice A n c, .slice A2 n2 c2] w fun e w' => e = .returned (.bool (decide (l = l2))) ∧ Below w.heap.size w w' := by
  have HL := Lib.hid hl
  have HA := Lib.hid ha
  have HL2 := Lib.hid hl2
  have HA2 := Lib.hid ha2
  clear hl ha hl2 ha2
  obtain ⟨r, hr⟩ : ∃ r, decide (l = l2) = r := ⟨_, rfl⟩
  rw [hr]
  have HR0 := Lib.hid hr
  clear hr
  by_cases hn : n = n2
  · subst hn
    go_enter Tryd.func17, Tryd.ntmps17
    go_wp2
    go_loopw [5] (fun i wr => ∃ k m : Nat, k ≤ n ∧ i = .int .i64 k ∧ l.take k = l2.take k ∧ wr = w.drewN m) (fun i _ => n - (intOf i).toNat)
    case atStart => exact ⟨0, 0, by omega, rfl, rfl, rfl⟩
    case round =>
      obtain ⟨k, m, hk, rfl, hrm, rfl⟩ := hrel
      have HR := Lib.hid hrm
      clear hrm
      by_cases hlt : k < n
      · obtain ⟨b, o, rfl, hc⟩ := HA.out.int k (by rw [HL.out]; exact hlt)
        obtain ⟨b2, o2, rfl, hc2⟩ := HA2.out.int k (by rw [HL2.out]; exact hlt)
        have ht := take_snocI (l := l) (k := k) (by rw [HL.out]; exact hlt)
        have ht2 := take_snocI (l := l2) (k := k) (by rw [HL2.out]; exact hlt)
        obtain ⟨x, hx⟩ : ∃ x, l.getD k 0 = x := ⟨_, rfl⟩
        obtain ⟨x2, hx2⟩ : ∃ x, l2.getD k 0 = x := ⟨_, rfl⟩
        rw [hx] at hc ht
        rw [hx2] at hc2 ht2
        by_cases hxx : x = x2
        · subst hxx
          have hr2 : l.take (k + 1) = l2.take (k + 1) := by rw [ht, ht2, HR.out]
          have HR2 := Lib.hid hr2
          clear hx hx2 ht ht2 hr2
          go_wp2_with fail
          go_quiet (fail)
          go_wp2_with fail
          exact ⟨⟨k + 1, m + nq, by omega, by simp, HR2.out, rfl⟩, by simp only [intOf]; omega⟩
        · have hne : r = false := by
            rw [← HR0.out, decide_eq_false_iff_not]; rintro rfl; exact hxx (hx.symm.trans hx2)
          subst hne
          have hd : (x != x2) = true := by simpa using hxx
          clear hx hx2 ht ht2 hxx HR0
          go_wp2_with fail
          go_quiet (fail)
          go_wp2_with fail
          go_ret
          exact ⟨rfl, rfl, rfl, rfl, Nat.le_refl _, fun _ _ => rfl⟩
      · obtain rfl : k = n := by omega
        have he : r = true := by
          have := HR.out
          rw [List.take_of_length_le (by rw [HL.out]; omega), List.take_of_length_le (by rw [HL2.out]; omega)] at this
          rw [← HR0.out]; simpa using this
        subst he
        clear HR0
        go_wp2
        go_ret
        exact ⟨rfl, rfl, rfl, rfl, Nat.le_refl _, fun _ _ => rfl⟩
  · have hne : r = false := by
      rw [← HR0.out, decide_eq_false_iff_not]; rintro rfl; exact hn (HL.out.symm.trans HL2.out)
    subst hne
    have hd2 : ((n : Int) != (n2 : Int)) = true := by simp; omega
    clear HR0
    go_enter Tryd.func17, Tryd.ntmps17
    go_wp2
    go_ret
    exact ⟨rfl, Below.refl _ _⟩
end Go.Proofs.YtpmejkgmeoajaaaDoor
