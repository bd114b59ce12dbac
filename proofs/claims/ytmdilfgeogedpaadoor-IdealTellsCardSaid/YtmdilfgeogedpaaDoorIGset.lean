/- Sets as slices of numbers: Has, Less, Check of package set; Has, May of the document's sets; clones, comparisons. -/
import Derived.Test.YtmdilfgeogedpaaDoorISetA
namespace Go.Proofs.YtmdilfgeogedpaaDoor
open Go.RowKit
section
variable (A : Option Addr) (n c : Nat) (l : List Int)
set_option maxRecDepth 100000 in
theorem setHas_any (x : Int) (w : World) (hl : l.length = n) (hm : n ≤ 9223372036854775807) (ha : At w A (ints .i64 l)) :
    Calls Tryd.prog 32 #[.slice A n c, .int .i64 x] w fun e w' => e = .returned (.bool (SetM.has l x)) ∧ w = w' := by
  have HB := Lib.hid (setBits_any A n c l w hl hm ha)
  cases hcan : SetM.can x with
  | true =>
    have hx1 := (SetM.can_iff x).1 hcan
    obtain ⟨y, rfl⟩ := Int.eq_ofNat_of_zero_le hx1.1
    have hb := bit_and (SetM.bitsOf l) y (SetM.bitsOf_lt l)
    have hr : SetM.has l (y : Int) = (SetM.bitsOf l).testBit y := SetM.has_nat l y (by omega)
    rw [hr]
    have HCN := Lib.hid hcan
    generalize SetM.bitsOf l = v at *
    clear hcan hr hl ha
    cases hv : v.testBit y <;> rw [hv] at hb <;> clear hv
    all_goals
      go_enter Tryd.func32, Tryd.ntmps32
      go_wp2_with (first | (go_at_call 44; refine (setCan_any _ _).mono ?_; rintro e w' ⟨rfl, rfl⟩; rw [HCN.out]) | (go_at_call 45; refine HB.out.mono ?_; rintro e w' ⟨rfl, rfl⟩))
      go_ret
      exact ⟨rfl, rfl⟩
  | false =>
    have hr : SetM.has l x = false := by unfold SetM.has; rw [hcan]; rfl
    rw [hr]
    have HCN := Lib.hid hcan
    clear hcan hr hl ha
    go_enter Tryd.func32, Tryd.ntmps32
    go_wp2_with (go_at_call 44; refine (setCan_any _ _).mono ?_; rintro e w' ⟨rfl, rfl⟩; rw [HCN.out])
    go_ret
    exact ⟨rfl, rfl⟩
variable (A2 : Option Addr) (n2 c2 : Nat) (l2 : List Int)
/-- an error or none -/
def errIf (b : Bool) : Value := if b then .nilIface else .iface 62 (.int .i64 1)
set_option maxRecDepth 100000 in
theorem setCheck_any (w : World) (hl : l.length = n) (hm : n ≤ 9223372036854775807) (ha : At w A (ints .i64 l)) :
    Calls Tryd.prog 42 #[.slice A n c] w fun e w' => e = .returned (errIf (SetM.may l)) ∧ w = w' := by
  have HL := Lib.hid hl
  have HA := Lib.hid ha
  clear hl ha
  obtain ⟨may, hmay⟩ : ∃ m, SetM.may l = m := ⟨_, rfl⟩
  rw [hmay]
  have HM := Lib.hid hmay
  clear hmay
  go_enter Tryd.func42, Tryd.ntmps42
  go_wp2
  go_loop [3, 8] (fun v i => ∃ (k : Nat) (last : Int), k ≤ n ∧ i = .int .i64 k ∧ v = .int .i64 last ∧ SetM.mayFrom last (l.drop k) = may) (fun _ i => n - (intOf i).toNat)
  case atStart => exact ⟨0, -1, by omega, rfl, rfl, HM.out⟩
  case round =>
    obtain ⟨k, last, hk, rfl, rfl, hrm⟩ := hrel
    have HR := Lib.hid hrm
    clear hrm
    by_cases hlt : k < n
    · obtain ⟨b, o, rfl, hc⟩ := HA.out.int k (by rw [HL.out]; exact hlt)
      have hs := SetM.drop_consI (l := l) (k := k) (by rw [HL.out]; exact hlt)
      generalize hx : l.getD k 0 = x at *
      have hr := HR.out
      rw [hs, SetM.mayFrom] at hr
      clear hx hs HR
      by_cases hlast : last < x
      · cases hcan : SetM.can x with
        | true =>
          have hr2 : SetM.mayFrom x (l.drop (k + 1)) = may := by rw [← hr]; simp [hlast, hcan]
          have HR2 := Lib.hid hr2
          have HCN := Lib.hid hcan
          clear hr hr2 hcan
          go_wp2_with (go_at_call 44; refine (setCan_any _ _).mono ?_; rintro e w' ⟨rfl, rfl⟩; rw [HCN.out])
          go_round
          case rel => exact ⟨k + 1, x, by omega, by go_num, rfl, HR2.out⟩
          case measure => simp [intOf]; omega
        | false =>
          have hr2 : may = false := by rw [← hr]; simp [hcan]
          subst hr2
          have HCN := Lib.hid hcan
          clear hr hcan HM
          go_wp2_with (go_at_call 44; refine (setCan_any _ _).mono ?_; rintro e w' ⟨rfl, rfl⟩; rw [HCN.out])
          go_ret
          exact ⟨rfl, rfl⟩
      · have hr2 : may = false := by rw [← hr]; simp [hlast]
        subst hr2
        clear hr HM
        go_wp2_with fail
        go_ret
        exact ⟨rfl, rfl⟩
    · obtain rfl : k = n := by omega
      have hr2 : may = true := by rw [← HR.out, List.drop_of_length_le (by rw [HL.out]; omega)]; rfl
      subst hr2
      go_wp2
      go_ret
      exact ⟨rfl, rfl⟩
end
theorem below_drewN (w : World) (n B : Nat) : Below B w (w.drewN n) := ⟨rfl, rfl, rfl, Nat.le_refl _, fun _ _ => rfl⟩
section
variable (A : Option Addr) (n c : Nat) (l : List Int)
theorem any_take (l : List Int) (x : Int) (k : Nat) (h : k < l.length) : decide (x ∈ l.take (k + 1)) = (decide (x ∈ l.take k) || decide (l.getD k 0 = x)) := by
  rw [take_snocI h, Bool.eq_iff_iff]
  simp only [decide_eq_true_eq, Bool.or_eq_true, List.mem_append, List.mem_singleton]
  constructor
  · rintro (h | h)
    · exact .inl h
    · exact .inr h.symm
  · rintro (h | h)
    · exact .inl h
    · exact .inr h.symm
theorem wrap_small' (y : Int) (h : 0 ≤ y ∧ y < 9223372036854775808) : IntKind.i64.wrap y = y := by
  unfold IntKind.wrap
  simp [IntKind.signed, IntKind.bits]
  omega
set_option maxRecDepth 100000 in
theorem refHas_any (x : Int) (w : World) (hl : l.length = n) (hm : n ≤ 9223372036854775807) (ha : At w A (ints .i64 l)) :
    Calls Tryd.prog 34 #[.slice A n c, .int .i64 x] w fun e w' => e = .returned (.bool (SetM.has l x)) ∧ w = w' := by
  have HL := Lib.hid hl
  have HA := Lib.hid ha
  clear hl ha
  obtain ⟨r, hr⟩ : ∃ r, SetM.has l x = r := ⟨_, rfl⟩
  rw [hr]
  have HR := Lib.hid hr
  clear hr
  go_enter Tryd.func34, Tryd.ntmps34
  go_wp2
  go_loop [5, 6] (fun v i => ∃ k : Nat, k ≤ n ∧ i = .int .i64 k ∧ v = .bool (decide (x ∈ l.take k))) (fun _ i => n - (intOf i).toNat)
  case atStart => exact ⟨0, by omega, rfl, by simp⟩
  case round =>
    obtain ⟨k, hk, rfl, rfl⟩ := hrel
    by_cases hlt : k < n
    · obtain ⟨b, o, rfl, hc⟩ := HA.out.int k (by rw [HL.out]; exact hlt)
      have ht := any_take l x k (by rw [HL.out]; exact hlt)
      generalize l.getD k 0 = y at *
      generalize decide (x ∈ l.take k) = p at *
      have HT := Lib.hid ht
      clear ht
      cases p with
      | true =>
        go_wp2_with fail
        go_round
        case rel => exact ⟨k + 1, by omega, by go_num, by rw [HT.out]; rfl⟩
        case measure => simp [intOf]; omega
      | false =>
        by_cases hxy : y = x
        · subst hxy
          go_wp2_with fail
          go_round
          case rel => exact ⟨k + 1, by omega, by go_num, by rw [HT.out]; simp⟩
          case measure => simp [intOf]; omega
        · have hd : (y == x) = false := by simpa using hxy
          have HX := Lib.hid hxy
          clear hxy
          go_wp2_with fail
          go_round
          case rel => exact ⟨k + 1, by omega, by go_num, by rw [HT.out]; simp [HX.out]⟩
          case measure => simp [intOf]; omega
    · obtain rfl : k = n := by omega
      have hr := HR.out
      rw [SetM.has_iff] at hr
      rw [List.take_of_length_le (by rw [HL.out]; omega)]
      generalize decide (x ∈ l) = p at *
      clear HR
      cases p with
      | false =>
        have hr2 : r = false := by rw [← hr]; rfl
        subst hr2
        clear hr
        go_wp2_with fail
        go_ret
        exact ⟨rfl, rfl⟩
      | true =>
        by_cases h1 : 0 ≤ x
        · by_cases h2 : x < 64
          · have hr2 : r = true := by rw [← hr, (SetM.can_iff x).2 ⟨h1, h2⟩]; rfl
            subst hr2
            clear hr
            go_wp2_with fail
            go_ret
            exact ⟨ret_bool (by simp; omega), rfl⟩
          · have hr2 : r = false := by rw [← hr]; simp [SetM.can, h2]
            subst hr2
            clear hr
            go_wp2_with fail
            go_ret
            exact ⟨ret_bool (by simp; omega), rfl⟩
        · have hr2 : r = false := by rw [← hr]; simp [SetM.can]; omega
          subst hr2
          clear hr
          go_wp2_with fail
          go_ret
          exact ⟨rfl, rfl⟩
theorem may_step {l : List Int} {k : Nat} (hk : k + 1 < l.length) (h : SetM.mayFrom (l.getD k 0) (l.drop (k + 1)) = SetM.may l) :
    (decide (l.getD k 0 < l.getD (k + 1) 0) && SetM.can (l.getD (k + 1) 0) && SetM.mayFrom (l.getD (k + 1) 0) (l.drop (k + 2))) = SetM.may l := by
  rw [SetM.drop_consI hk, SetM.mayFrom] at h; exact h
set_option maxRecDepth 100000 in
theorem refMay_any (w : World) (hl : l.length = n) (hm : n ≤ 9223372036854775807) (ha : At w A (ints .i64 l)) :
    Calls Tryd.prog 46 #[.slice A n c] w fun e w' => e = .returned (.bool (SetM.may l)) ∧ Below w.heap.size w w' := by
  have HL := Lib.hid hl
  have HA := Lib.hid ha
  clear hl ha
  obtain ⟨may, hmay⟩ : ∃ m, SetM.may l = m := ⟨_, rfl⟩
  rw [hmay]
  have HM := Lib.hid hmay
  clear hmay
  go_enter Tryd.func46, Tryd.ntmps46
  go_wp2
  go_loopw [3] (fun i wr => ∃ k m : Nat, k ≤ n ∧ i = .int .i64 k ∧ SetM.mayFrom (if k = 0 then -1 else l.getD (k - 1) 0) (l.drop k) = may ∧ wr = w.drewN m) (fun i _ => n - (intOf i).toNat)
  case atStart => exact ⟨0, 0, by omega, rfl, HM.out, rfl⟩
  case round =>
    obtain ⟨k, m, hk, rfl, hrm, rfl⟩ := hrel
    by_cases hlt : k < n
    · obtain ⟨b, o, rfl, hc⟩ := HA.out.int k (by rw [HL.out]; exact hlt)
      have hs := SetM.drop_consI (l := l) (k := k) (by rw [HL.out]; exact hlt)
      rw [hs, SetM.mayFrom] at hrm
      generalize hx : l.getD k 0 = x at *
      have hx' : l.getD (k + 1 - 1) 0 = x := hx
      have HX := Lib.hid hx'
      clear hx hx' hs
      by_cases h1 : 0 ≤ x
      · by_cases h2 : x < 64
        · rw [(SetM.can_iff x).2 ⟨h1, h2⟩, Bool.and_true] at hrm
          by_cases hk0 : k = 0
          · subst hk0
            rw [Nat.add_zero] at hc
            have e1 : decide (x < 0) = false := decide_eq_false (by omega)
            have e2 : decide (63 < x) = false := decide_eq_false (by omega)
            have hr2 : SetM.mayFrom x (l.drop 1) = may := by
              rw [← hrm]
              have : decide ((if (0 : Nat) = 0 then (-1 : Int) else l.getD (0 - 1) 0) < x) = true := decide_eq_true (by rw [if_pos rfl]; omega)
              rw [this]; rfl
            have HR2 := Lib.hid hr2
            clear hrm hr2
            go_wp2_with fail
            go_quiet (fail)
            go_wp2_with fail
            exact ⟨⟨1, _, by omega, rfl, by rw [if_neg (by decide), show (1 - 1 : Nat) = 0 + 1 - 1 from rfl, HX.out]; exact HR2.out, rfl⟩, by simp only [intOf]; omega⟩
          · obtain ⟨j, rfl⟩ : ∃ j, k = j + 1 := ⟨k - 1, by omega⟩
            rw [if_neg hk0, Nat.add_sub_cancel] at hrm
            obtain ⟨b', o', e', hc'⟩ := HA.out.int j (by rw [HL.out]; omega)
            injection e' with e'; injection e' with e1 e2; subst e1; subst e2
            generalize l.getD j 0 = y at *
            have hw := wrap_small' (j : Int) (by omega)
            have e1 : decide (x < 0) = false := decide_eq_false (by omega)
            have e2 : decide (63 < x) = false := decide_eq_false (by omega)
            have e3 : decide ((0 : Int) < (j : Int) + 1) = true := decide_eq_true (by omega)
            by_cases hxy : y < x
            · have e4 : decide (x ≤ y) = false := decide_eq_false (by omega)
              have hr2 : SetM.mayFrom x (l.drop (j + 1 + 1)) = may := by rw [← hrm]; simp [hxy]
              have HR2 := Lib.hid hr2
              clear hrm hr2 hk0
              go_wp2_with fail
              go_quiet (fail)
              go_wp2_with fail
              exact ⟨⟨j + 1 + 1, _, by omega, by go_num, by rw [if_neg (by omega), HX.out]; exact HR2.out, rfl⟩, by simp only [intOf]; omega⟩
            · have e4 : decide (x ≤ y) = true := decide_eq_true (by omega)
              have hr2 : may = false := by rw [← hrm]; simp [hxy]
              subst hr2
              clear hrm HM hk0
              go_wp2_with fail
              go_quiet (fail)
              go_wp2_with fail
              go_ret
              exact ⟨rfl, rfl, rfl, rfl, Nat.le_refl _, fun _ _ => rfl⟩
        · have e2 : decide (63 < x) = true := decide_eq_true (by omega)
          have e1 : decide (x < 0) = false := decide_eq_false (by omega)
          have hr2 : may = false := by rw [← hrm]; simp [SetM.can, h2]
          subst hr2
          clear hrm HM
          go_wp2_with fail
          go_quiet (fail)
          go_wp2_with fail
          go_ret
          exact ⟨rfl, rfl, rfl, rfl, Nat.le_refl _, fun _ _ => rfl⟩
      · have e1 : decide (x < 0) = true := decide_eq_true (by omega)
        have hr2 : may = false := by
          rw [← hrm]
          have : SetM.can x = false := by simp [SetM.can]; omega
          rw [this]; simp
        subst hr2
        clear hrm HM
        go_wp2_with fail
        go_quiet (fail)
        go_wp2_with fail
        go_ret
        exact ⟨rfl, rfl, rfl, rfl, Nat.le_refl _, fun _ _ => rfl⟩
    · obtain rfl : k = n := by omega
      have hr2 : may = true := by rw [← hrm, List.drop_of_length_le (by rw [HL.out]; omega)]; rfl
      subst hr2
      clear hrm HM
      go_wp2_with fail
      go_ret
      exact ⟨rfl, below_drewN _ _ _⟩
end
end Go.Proofs.YtmdilfgeogedpaaDoor
