/- Layer 15: the document's Of; what must come whatever the input is. -/
import Derived.Test.YtpmejkgmeoajaaaDoorSetC
import Derived.Test.YtpmejkgmeoajaaaDoorSetD
import Derived.Test.YtpmejkgmeoajaaaDoorNum15
namespace Go.Proofs.YtpmejkgmeoajaaaDoor
open Go.RowKit
/-- what the document's Of makes -/
def OfR (w : World) (l : List Int) (e : Ending) (w' : World) : Prop :=
  ∃ A c, e = .returned (.tuple #[.slice A (if SetM.ok l then SetM.elems (SetM.bitsOf l) else []).length c, .bool (SetM.ok l)]) ∧ At w' A (ints .i64 (if SetM.ok l then SetM.elems (SetM.bitsOf l) else [])) ∧ Below w.heap.size w w'
theorem mem_take_of {l : List Int} {j k : Nat} (hj : j < k) (hk : k < l.length) : l.getD j 0 ∈ l.take k := by
  rw [List.mem_iff_getElem]
  refine ⟨j, by simp; omega, ?_⟩
  simp [List.getD_eq_getElem?_getD, List.getElem?_eq_getElem (show j < l.length by omega)]
set_option maxRecDepth 100000 in
set_option maxHeartbeats 1000000 in
theorem refOf_any (A : Option Addr) (n c : Nat) (l : List Int) (w : World) (hl : l.length = n) (hm : n ≤ 9223372036854775807) (ha : At w A (ints .i64 l)) :
    Calls Tryd.prog 15 #[.slice A n c] w (OfR w l) := by
  have HS0 := Lib.hid (fun m => refSome0_any A n c l none 0 0 [] (w.drewN m) hl hm ha rfl (by omega) (At.nil _ _))
  have HL := Lib.hid hl
  have HA := Lib.hid ha
  clear hl ha
  go_enter Tryd.func15, Tryd.ntmps15
  go_wp2
  go_loopw [4, 5] (fun i _ wr => ∃ k m : Nat, k ≤ n ∧ i = .int .i64 k ∧ SetM.okFrom (SetM.bitsOf (l.take k)) (l.drop k) = SetM.ok l ∧ wr = w.drewN m) (fun i _ _ => n - (intOf i).toNat)
  case atStart => exact ⟨0, 0, by omega, rfl, rfl, rfl⟩
  case round =>
    obtain ⟨k, m, hk, rfl, hrm, rfl⟩ := hrel
    by_cases hlt : k < n
    · obtain ⟨b, o, rfl, hc⟩ := HA.out.int k (by rw [HL.out]; exact hlt)
      have hs := SetM.drop_consI (l := l) (k := k) (by rw [HL.out]; exact hlt)
      have ht := take_snocI (l := l) (k := k) (by rw [HL.out]; exact hlt)
      rw [hs, SetM.okFrom] at hrm
      generalize hx : l.getD k 0 = x at *
      have hv : SetM.bitsOf (l.take (k + 1)) = SetM.put (SetM.bitsOf (l.take k)) x := by rw [ht, SetM.bitsOf_snoc]
      have HV := Lib.hid hv
      have hx0 := Lib.hid hx
      clear hs ht hx hv
      by_cases h1 : 0 ≤ x
      · by_cases h2 : x < 64
        · have hcan := (SetM.can_iff x).2 ⟨h1, h2⟩
          rw [hcan, Bool.true_and] at hrm
          have HR := Lib.hid hrm
          have HCN := Lib.hid hcan
          clear hrm hcan
          go_wp2_with fail
          go_loopw [5] (fun i wr => ∃ j m : Nat, j ≤ k ∧ i = .int .i64 j ∧ x ∉ l.take j ∧ wr = w.drewN m) (fun i _ => k - (intOf i).toNat)
          case atStart => exact ⟨0, m, by omega, rfl, by simp, rfl⟩
          case round =>
            obtain ⟨j, m2, hj, rfl, hnot, rfl⟩ := hrel
            have HN := Lib.hid hnot
            clear hnot
            by_cases hjk : j < k
            · obtain ⟨b', o', e', hc'⟩ := HA.out.int j (by rw [HL.out]; omega)
              injection e' with e'; injection e' with e1 e2; subst e1; subst e2
              have hmem := mem_take_of hjk (by rw [HL.out]; exact hlt)
              have ht2 := take_snocI (l := l) (k := j) (by rw [HL.out]; omega)
              generalize l.getD j 0 = y at *
              by_cases hxy : y = x
              · subst hxy
                have hko : SetM.ok l = false := by
                  rw [← HR.out, SetM.bitsOf_testBit]
                  have : ((y.toNat : Nat) : Int) = y := by omega
                  rw [this]
                  have h3 : y.toNat < 64 := by omega
                  simp [hmem, h3]
                have HK := Lib.hid hko
                clear hmem ht2 hko
                go_wp2_with fail
                go_quiet (fail)
                go_wp2_with fail
                go_ret2
                unfold OfR
                rw [HK.out]
                exact ⟨none, 0, rfl, At.nil _ _, rfl, rfl, rfl, Nat.le_refl _, fun _ _ => rfl⟩
              · have hn2 : x ∉ l.take (j + 1) := by
                  rw [ht2, List.mem_append]
                  rintro (h | h)
                  · exact HN.out h
                  · simp at h; exact hxy h.symm
                have hd : (y == x) = false := by simpa using hxy
                have HN2 := Lib.hid hn2
                clear hmem ht2 hn2 hxy
                go_wp2_with fail
                go_quiet (fail)
                go_wp2_with fail
                exact ⟨⟨j + 1, _, by omega, by simp, HN2.out, rfl⟩, by simp only [intOf]; omega⟩
            · obtain rfl : j = k := by omega
              have hr2 : SetM.okFrom (SetM.put (SetM.bitsOf (l.take j)) x) (l.drop (j + 1)) = SetM.ok l := by
                have h3 : (SetM.bitsOf (l.take j)).testBit x.toNat = false := by
                  rw [SetM.bitsOf_testBit]
                  have : ((x.toNat : Nat) : Int) = x := by omega
                  rw [this]; simp [HN.out]
                rw [← HR.out, h3]; rfl
              rw [← HV.out] at hr2
              have HR2 := Lib.hid hr2
              clear hr2
              go_wp2_with fail
              exact ⟨⟨j + 1, m2, by omega, by simp, HR2.out, rfl⟩, by simp only [intOf]; omega⟩
        · have hko : SetM.ok l = false := by rw [← hrm]; simp [SetM.can, h2]
          have HK := Lib.hid hko
          clear hko hrm
          go_wp2_with fail
          go_ret2
          unfold OfR
          rw [HK.out]
          exact ⟨none, 0, rfl, At.nil _ _, rfl, rfl, rfl, Nat.le_refl _, fun _ _ => rfl⟩
      · have hko : SetM.ok l = false := by
          rw [← hrm]
          have : SetM.can x = false := by simp [SetM.can]; omega
          rw [this]; rfl
        have HK := Lib.hid hko
        clear hko hrm
        go_wp2_with fail
        go_ret2
        unfold OfR
        rw [HK.out]
        exact ⟨none, 0, rfl, At.nil _ _, rfl, rfl, rfl, Nat.le_refl _, fun _ _ => rfl⟩
    · obtain rfl : k = n := by omega
      have hko : SetM.ok l = true := by rw [← hrm, List.drop_of_length_le (by rw [HL.out]; omega)]; rfl
      have HK := Lib.hid hko
      clear hko hrm
      go_wp2_with (go_at_call 23; refine (HS0.out m).mono ?_; rintro e w1 ⟨A3, c3, rfl, h3, h4⟩)
      go_ret2
      unfold OfR
      rw [HK.out, if_pos rfl]
      have e0 : SetM.op 0 (SetM.bitsOf l) (SetM.bitsOf []) = SetM.bitsOf l := Nat.or_zero _
      rw [e0] at h3 ⊢
      exact ⟨A3, c3, rfl, h3, (show Below w.heap.size w (w.drewN m) from ⟨rfl, rfl, rfl, Nat.le_refl _, fun _ _ => rfl⟩).trans h4⟩
end Go.Proofs.YtpmejkgmeoajaaaDoor
