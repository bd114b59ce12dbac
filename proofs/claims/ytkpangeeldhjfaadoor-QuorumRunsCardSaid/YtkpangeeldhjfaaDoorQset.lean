/- Sets as slices of numbers: Has, Either, Less, Check of package set; Has, May, Some of the document's sets. -/
import Derived.Test.YtkpangeeldhjfaaDoorQSetA
import Derived.Deep.RegionHeld3
namespace Go.Proofs.YtkpangeeldhjfaaDoor
open Go.RowKit
theorem u64_or_l (v w : Nat) (hv : v < 2 ^ 64) (hw : w < 2 ^ 64) : bits .or .u64 (v : Int) (w : Int) = ((SetM.op 0 v w : Nat) : Int) := u64_or_nat v w hv hw
theorem u64_less_l (v w : Nat) (hv : v < 2 ^ 64) (hw : w < 2 ^ 64) : bits .andNot .u64 (v : Int) (w : Int) = ((SetM.op 2 v w : Nat) : Int) := u64_andNot_nat v w hv hw
section
variable (A : Option Addr) (n c : Nat) (l : List Int)
set_option maxRecDepth 100000 in
theorem setHas_any (x : Int) (w : World) (hl : l.length = n) (hm : n ≤ 9223372036854775807) (ha : At w A (ints .i64 l)) :
    Calls Tryd.prog 32 #[.slice A n c, .int .i64 x] w fun e w' => e = .returned (.bool (SetM.has l x)) ∧ w = w' := by
  have HB := Lib.hid (setBits_any A n c l w hl hm ha)
  cases hcan : SetM.can x with
  | true =>
    have hx1 := (SetM.can_iff x).1 hcan
    obtain ⟨y, rfl⟩ := Int.eq_ofNat_of_zero_le hx1.1
    have hb := bit_and (SetM.bitsOf l) y (SetM.bitsOf_lt l)
    have hr : SetM.has l (y : Int) = (SetM.bitsOf l).testBit y := SetM.has_nat l y (by omega)
    rw [hr]
    have HCN := Lib.hid hcan
    generalize SetM.bitsOf l = v at *
    clear hcan hr hl ha
    cases hv : v.testBit y <;> rw [hv] at hb <;> clear hv
    all_goals
      go_enter Tryd.func32, Tryd.ntmps32
      go_wp2_with (first | (go_at_call 35; refine (setCan_any _ _).mono ?_; rintro e w' ⟨rfl, rfl⟩; rw [HCN.out]) | (go_at_call 34; refine HB.out.mono ?_; rintro e w' ⟨rfl, rfl⟩))
      go_ret
      exact ⟨rfl, rfl⟩
  | false =>
    have hr : SetM.has l x = false := by unfold SetM.has; rw [hcan]; rfl
    rw [hr]
    have HCN := Lib.hid hcan
    clear hcan hr hl ha
    go_enter Tryd.func32, Tryd.ntmps32
    go_wp2_with (go_at_call 35; refine (setCan_any _ _).mono ?_; rintro e w' ⟨rfl, rfl⟩; rw [HCN.out])
    go_ret
    exact ⟨rfl, rfl⟩
variable (A2 : Option Addr) (n2 c2 : Nat) (l2 : List Int)
set_option maxRecDepth 100000 in
theorem setEither_any (w : World) (hl : l.length = n) (hm : n ≤ 9223372036854775807) (ha : At w A (ints .i64 l)) (hl2 : l2.length = n2) (hm2 : n2 ≤ 9223372036854775807) (ha2 : At w A2 (ints .i64 l2)) :
    Calls Tryd.prog 22 #[.slice A n c, .slice A2 n2 c2] w (SlOf w (SetM.elems (SetM.op 0 (SetM.bitsOf l) (SetM.bitsOf l2)))) := by
  have HB := Lib.hid (setBits_any A n c l w hl hm ha)
  have HB2 := Lib.hid (setBits_any A2 n2 c2 l2 w hl2 hm2 ha2)
  have h1 := SetM.bitsOf_lt l
  have h2 := SetM.bitsOf_lt l2
  clear ha ha2 hl hl2
  generalize SetM.bitsOf l = v at *
  generalize SetM.bitsOf l2 = v2 at *
  have hf := setFrom_any (SetM.op 0 v v2) w (SetM.op_lt 0 h1 h2)
  have he := u64_or_l v v2 h1 h2
  generalize SetM.op 0 v v2 = u at *
  have HF := Lib.hid hf
  clear hf h1 h2
  go_enter Tryd.func22, Tryd.ntmps22
  go_wp2_with fail
  refine HB.out.mono ?_
  rintro e w' ⟨rfl, rfl⟩
  go_wp2_with fail
  refine HB2.out.mono ?_
  rintro e w' ⟨rfl, rfl⟩
  go_wp2_with fail
  refine HF.out.mono ?_
  rintro e w1 ⟨A3, c3, rfl, h3, h4⟩
  clear he
  go_wp2_with fail
  go_ret
  exact ⟨A3, c3, rfl, h3, h4⟩
set_option maxRecDepth 100000 in
theorem setLess_any (w : World) (hl : l.length = n) (hm : n ≤ 9223372036854775807) (ha : At w A (ints .i64 l)) (hl2 : l2.length = n2) (hm2 : n2 ≤ 9223372036854775807) (ha2 : At w A2 (ints .i64 l2)) :
    Calls Tryd.prog 24 #[.slice A n c, .slice A2 n2 c2] w (SlOf w (SetM.elems (SetM.op 2 (SetM.bitsOf l) (SetM.bitsOf l2)))) := by
  have HB := Lib.hid (setBits_any A n c l w hl hm ha)
  have HB2 := Lib.hid (setBits_any A2 n2 c2 l2 w hl2 hm2 ha2)
  have h1 := SetM.bitsOf_lt l
  have h2 := SetM.bitsOf_lt l2
  clear ha ha2 hl hl2
  generalize SetM.bitsOf l = v at *
  generalize SetM.bitsOf l2 = v2 at *
  have hf := setFrom_any (SetM.op 2 v v2) w (SetM.op_lt 2 h1 h2)
  have he := u64_less_l v v2 h1 h2
  generalize SetM.op 2 v v2 = u at *
  have HF := Lib.hid hf
  clear hf h1 h2
  go_enter Tryd.func24, Tryd.ntmps24
  go_wp2_with fail
  refine HB.out.mono ?_
  rintro e w' ⟨rfl, rfl⟩
  go_wp2_with fail
  refine HB2.out.mono ?_
  rintro e w' ⟨rfl, rfl⟩
  go_wp2_with fail
  refine HF.out.mono ?_
  rintro e w1 ⟨A3, c3, rfl, h3, h4⟩
  clear he
  go_wp2_with fail
  go_ret
  exact ⟨A3, c3, rfl, h3, h4⟩
/-- an error or none -/
def errIf (b : Bool) : Value := if b then .nilIface else .iface 52 (.int .i64 1)
set_option maxRecDepth 100000 in
theorem setCheck_any (w : World) (hl : l.length = n) (hm : n ≤ 9223372036854775807) (ha : At w A (ints .i64 l)) :
    Calls Tryd.prog 25 #[.slice A n c] w fun e w' => e = .returned (errIf (SetM.may l)) ∧ w = w' := by
  have HL := Lib.hid hl
  have HA := Lib.hid ha
  clear hl ha
  obtain ⟨may, hmay⟩ : ∃ m, SetM.may l = m := ⟨_, rfl⟩
  rw [hmay]
  have HM := Lib.hid hmay
  clear hmay
  go_enter Tryd.func25, Tryd.ntmps25
  go_wp2
  go_loop [3, 8] (fun v i => ∃ (k : Nat) (last : Int), k ≤ n ∧ i = .int .i64 k ∧ v = .int .i64 last ∧ SetM.mayFrom last (l.drop k) = may) (fun _ i => n - (intOf i).toNat)
  case atStart => exact ⟨0, -1, by omega, rfl, rfl, HM.out⟩
  case round =>
    obtain ⟨k, last, hk, rfl, rfl, hrm⟩ := hrel
    have HR := Lib.hid hrm
    clear hrm
    by_cases hlt : k < n
    · obtain ⟨b, o, rfl, hc⟩ := HA.out.int k (by rw [HL.out]; exact hlt)
      have hs := SetM.drop_consI (l := l) (k := k) (by rw [HL.out]; exact hlt)
      generalize hx : l.getD k 0 = x at *
      have hr := HR.out
      rw [hs, SetM.mayFrom] at hr
      clear hx hs HR
      by_cases hlast : last < x
      · cases hcan : SetM.can x with
        | true =>
          have hr2 : SetM.mayFrom x (l.drop (k + 1)) = may := by rw [← hr]; simp [hlast, hcan]
          have HR2 := Lib.hid hr2
          have HCN := Lib.hid hcan
          clear hr hr2 hcan
          go_wp2_with (go_at_call 35; refine (setCan_any _ _).mono ?_; rintro e w' ⟨rfl, rfl⟩; rw [HCN.out])
          go_round
          case rel => exact ⟨k + 1, x, by omega, by go_num, rfl, HR2.out⟩
          case measure => simp [intOf]; omega
        | false =>
          have hr2 : may = false := by rw [← hr]; simp [hcan]
          subst hr2
          have HCN := Lib.hid hcan
          clear hr hcan HM
          go_wp2_with (go_at_call 35; refine (setCan_any _ _).mono ?_; rintro e w' ⟨rfl, rfl⟩; rw [HCN.out])
          go_ret
          exact ⟨rfl, rfl⟩
      · have hr2 : may = false := by rw [← hr]; simp [hlast]
        subst hr2
        clear hr HM
        go_wp2_with fail
        go_ret
        exact ⟨rfl, rfl⟩
    · obtain rfl : k = n := by omega
      have hr2 : may = true := by rw [← HR.out, List.drop_of_length_le (by rw [HL.out]; omega)]; rfl
      subst hr2
      go_wp2
      go_ret
      exact ⟨rfl, rfl⟩
end
theorem below_drewN (w : World) (n B : Nat) : Below B w (w.drewN n) := ⟨rfl, rfl, rfl, Nat.le_refl _, fun _ _ => rfl⟩
section
variable (A : Option Addr) (n c : Nat) (l : List Int)
theorem any_take (l : List Int) (x : Int) (k : Nat) (h : k < l.length) : decide (x ∈ l.take (k + 1)) = (decide (x ∈ l.take k) || decide (l.getD k 0 = x)) := by
  rw [take_snocI h, Bool.eq_iff_iff]
  simp only [decide_eq_true_eq, Bool.or_eq_true, List.mem_append, List.mem_singleton]
  constructor
  · rintro (h | h)
    · exact .inl h
    · exact .inr h.symm
  · rintro (h | h)
    · exact .inl h
    · exact .inr h.symm
theorem wrap_small' (y : Int) (h : 0 ≤ y ∧ y < 9223372036854775808) : IntKind.i64.wrap y = y := by
  unfold IntKind.wrap
  simp [IntKind.signed, IntKind.bits]
  omega
set_option maxRecDepth 100000 in
theorem refHas_any (x : Int) (w : World) (hl : l.length = n) (hm : n ≤ 9223372036854775807) (ha : At w A (ints .i64 l)) :
    Calls Tryd.prog 27 #[.slice A n c, .int .i64 x] w fun e w' => e = .returned (.bool (SetM.has l x)) ∧ w = w' := by
  have HL := Lib.hid hl
  have HA := Lib.hid ha
  clear hl ha
  obtain ⟨r, hr⟩ : ∃ r, SetM.has l x = r := ⟨_, rfl⟩
  rw [hr]
  have HR := Lib.hid hr
  clear hr
  go_enter Tryd.func27, Tryd.ntmps27
  go_wp2
  go_loop [5, 6] (fun v i => ∃ k : Nat, k ≤ n ∧ i = .int .i64 k ∧ v = .bool (decide (x ∈ l.take k))) (fun _ i => n - (intOf i).toNat)
  case atStart => exact ⟨0, by omega, rfl, by simp⟩
  case round =>
    obtain ⟨k, hk, rfl, rfl⟩ := hrel
    by_cases hlt : k < n
    · obtain ⟨b, o, rfl, hc⟩ := HA.out.int k (by rw [HL.out]; exact hlt)
      have ht := any_take l x k (by rw [HL.out]; exact hlt)
      generalize l.getD k 0 = y at *
      generalize decide (x ∈ l.take k) = p at *
      have HT := Lib.hid ht
      clear ht
      cases p with
      | true =>
        go_wp2_with fail
        go_round
        case rel => exact ⟨k + 1, by omega, by go_num, by rw [HT.out]; rfl⟩
        case measure => simp [intOf]; omega
      | false =>
        by_cases hxy : y = x
        · subst hxy
          go_wp2_with fail
          go_round
          case rel => exact ⟨k + 1, by omega, by go_num, by rw [HT.out]; simp⟩
          case measure => simp [intOf]; omega
        · have hd : (y == x) = false := by simpa using hxy
          have HX := Lib.hid hxy
          clear hxy
          go_wp2_with fail
          go_round
          case rel => exact ⟨k + 1, by omega, by go_num, by rw [HT.out]; simp [HX.out]⟩
          case measure => simp [intOf]; omega
    · obtain rfl : k = n := by omega
      have hr := HR.out
      rw [SetM.has_iff] at hr
      rw [List.take_of_length_le (by rw [HL.out]; omega)]
      generalize decide (x ∈ l) = p at *
      clear HR
      cases p with
      | false =>
        have hr2 : r = false := by rw [← hr]; rfl
        subst hr2
        clear hr
        go_wp2_with fail
        go_ret
        exact ⟨rfl, rfl⟩
      | true =>
        by_cases h1 : 0 ≤ x
        · by_cases h2 : x < 64
          · have hr2 : r = true := by rw [← hr, (SetM.can_iff x).2 ⟨h1, h2⟩]; rfl
            subst hr2
            clear hr
            go_wp2_with fail
            go_ret
            exact ⟨ret_bool (by simp; omega), rfl⟩
          · have hr2 : r = false := by rw [← hr]; simp [SetM.can, h2]
            subst hr2
            clear hr
            go_wp2_with fail
            go_ret
            exact ⟨ret_bool (by simp; omega), rfl⟩
        · have hr2 : r = false := by rw [← hr]; simp [SetM.can]; omega
          subst hr2
          clear hr
          go_wp2_with fail
          go_ret
          exact ⟨rfl, rfl⟩
theorem may_step {l : List Int} {k : Nat} (hk : k + 1 < l.length) (h : SetM.mayFrom (l.getD k 0) (l.drop (k + 1)) = SetM.may l) :
    (decide (l.getD k 0 < l.getD (k + 1) 0) && SetM.can (l.getD (k + 1) 0) && SetM.mayFrom (l.getD (k + 1) 0) (l.drop (k + 2))) = SetM.may l := by
  rw [SetM.drop_consI hk, SetM.mayFrom] at h; exact h
set_option maxRecDepth 100000 in
theorem refMay_any (w : World) (hl : l.length = n) (hm : n ≤ 9223372036854775807) (ha : At w A (ints .i64 l)) :
    Calls Tryd.prog 26 #[.slice A n c] w fun e w' => e = .returned (.bool (SetM.may l)) ∧ Below w.heap.size w w' := by
  have HL := Lib.hid hl
  have HA := Lib.hid ha
  clear hl ha
  obtain ⟨may, hmay⟩ : ∃ m, SetM.may l = m := ⟨_, rfl⟩
  rw [hmay]
  have HM := Lib.hid hmay
  clear hmay
  go_enter Tryd.func26, Tryd.ntmps26
  go_wp2
  go_loopw [3] (fun i wr => ∃ k m : Nat, k ≤ n ∧ i = .int .i64 k ∧ SetM.mayFrom (if k = 0 then -1 else l.getD (k - 1) 0) (l.drop k) = may ∧ wr = w.drewN m) (fun i _ => n - (intOf i).toNat)
  case atStart => exact ⟨0, 0, by omega, rfl, HM.out, rfl⟩
  case round =>
    obtain ⟨k, m, hk, rfl, hrm, rfl⟩ := hrel
    by_cases hlt : k < n
    · obtain ⟨b, o, rfl, hc⟩ := HA.out.int k (by rw [HL.out]; exact hlt)
      have hs := SetM.drop_consI (l := l) (k := k) (by rw [HL.out]; exact hlt)
      rw [hs, SetM.mayFrom] at hrm
      generalize hx : l.getD k 0 = x at *
      have hx' : l.getD (k + 1 - 1) 0 = x := hx
      have HX := Lib.hid hx'
      clear hx hx' hs
      by_cases h1 : 0 ≤ x
      · by_cases h2 : x < 64
        · rw [(SetM.can_iff x).2 ⟨h1, h2⟩, Bool.and_true] at hrm
          by_cases hk0 : k = 0
          · subst hk0
            rw [Nat.add_zero] at hc
            have e1 : decide (x < 0) = false := decide_eq_false (by omega)
            have e2 : decide (63 < x) = false := decide_eq_false (by omega)
            have hr2 : SetM.mayFrom x (l.drop 1) = may := by
              rw [← hrm]
              have : decide ((if (0 : Nat) = 0 then (-1 : Int) else l.getD (0 - 1) 0) < x) = true := decide_eq_true (by rw [if_pos rfl]; omega)
              rw [this]; rfl
            have HR2 := Lib.hid hr2
            clear hrm hr2
            go_wp2_with fail
            go_quiet (fail)
            go_wp2_with fail
            exact ⟨⟨1, _, by omega, rfl, by rw [if_neg (by decide), show (1 - 1 : Nat) = 0 + 1 - 1 from rfl, HX.out]; exact HR2.out, rfl⟩, by simp only [intOf]; omega⟩
          · obtain ⟨j, rfl⟩ : ∃ j, k = j + 1 := ⟨k - 1, by omega⟩
            rw [if_neg hk0, Nat.add_sub_cancel] at hrm
            obtain ⟨b', o', e', hc'⟩ := HA.out.int j (by rw [HL.out]; omega)
            injection e' with e'; injection e' with e1 e2; subst e1; subst e2
            generalize l.getD j 0 = y at *
            have hw := wrap_small' (j : Int) (by omega)
            have e1 : decide (x < 0) = false := decide_eq_false (by omega)
            have e2 : decide (63 < x) = false := decide_eq_false (by omega)
            have e3 : decide ((0 : Int) < (j : Int) + 1) = true := decide_eq_true (by omega)
            by_cases hxy : y < x
            · have e4 : decide (x ≤ y) = false := decide_eq_false (by omega)
              have hr2 : SetM.mayFrom x (l.drop (j + 1 + 1)) = may := by rw [← hrm]; simp [hxy]
              have HR2 := Lib.hid hr2
              clear hrm hr2 hk0
              go_wp2_with fail
              go_quiet (fail)
              go_wp2_with fail
              exact ⟨⟨j + 1 + 1, _, by omega, by go_num, by rw [if_neg (by omega), HX.out]; exact HR2.out, rfl⟩, by simp only [intOf]; omega⟩
            · have e4 : decide (x ≤ y) = true := decide_eq_true (by omega)
              have hr2 : may = false := by rw [← hrm]; simp [hxy]
              subst hr2
              clear hrm HM hk0
              go_wp2_with fail
              go_quiet (fail)
              go_wp2_with fail
              go_ret
              exact ⟨rfl, rfl, rfl, rfl, Nat.le_refl _, fun _ _ => rfl⟩
        · have e2 : decide (63 < x) = true := decide_eq_true (by omega)
          have e1 : decide (x < 0) = false := decide_eq_false (by omega)
          have hr2 : may = false := by rw [← hrm]; simp [SetM.can, h2]
          subst hr2
          clear hrm HM
          go_wp2_with fail
          go_quiet (fail)
          go_wp2_with fail
          go_ret
          exact ⟨rfl, rfl, rfl, rfl, Nat.le_refl _, fun _ _ => rfl⟩
      · have e1 : decide (x < 0) = true := decide_eq_true (by omega)
        have hr2 : may = false := by
          rw [← hrm]
          have : SetM.can x = false := by simp [SetM.can]; omega
          rw [this]; simp
        subst hr2
        clear hrm HM
        go_wp2_with fail
        go_quiet (fail)
        go_wp2_with fail
        go_ret
        exact ⟨rfl, rfl, rfl, rfl, Nat.le_refl _, fun _ _ => rfl⟩
    · obtain rfl : k = n := by omega
      have hr2 : may = true := by rw [← hrm, List.drop_of_length_le (by rw [HL.out]; omega)]; rfl
      subst hr2
      clear hrm HM
      go_wp2_with fail
      go_ret
      exact ⟨rfl, below_drewN _ _ _⟩
set_option maxRecDepth 100000 in
set_option maxHeartbeats 1000000 in
theorem refSome0_any (A2 : Option Addr) (n2 c2 : Nat) (l2 : List Int) (w : World) (hl : l.length = n) (hm : n ≤ 9223372036854775807) (ha : At w A (ints .i64 l)) (hl2 : l2.length = n2) (hm2 : n2 ≤ 9223372036854775807) (ha2 : At w A2 (ints .i64 l2)) :
    Calls Tryd.prog 19 #[.slice A n c, .slice A2 n2 c2, .int .i64 0] w (SlOf w (SetM.elems (SetM.op 0 (SetM.bitsOf l) (SetM.bitsOf l2)))) := by
  have HH := Lib.hid (fun x w' (hb : Below w.heap.size w w') => refHas_any A n c l x w' hl hm (ha.later hb (Nat.le_refl _)))
  have HH2 := Lib.hid (fun x w' (hb : Below w.heap.size w w') => refHas_any A2 n2 c2 l2 x w' hl2 hm2 (ha2.later hb (Nat.le_refl _)))
  have h1 := SetM.bitsOf_lt l
  have h2 := SetM.bitsOf_lt l2
  have g1 : ∀ k : Nat, k < 64 → SetM.has l k = (SetM.bitsOf l).testBit k := fun k hk => SetM.has_nat l k hk
  have g2 : ∀ k : Nat, k < 64 → SetM.has l2 k = (SetM.bitsOf l2).testBit k := fun k hk => SetM.has_nat l2 k hk
  clear ha ha2 hl hl2
  generalize SetM.bitsOf l = v1 at *
  generalize SetM.bitsOf l2 = v2 at *
  have hop := fun i => SetM.op_testBit 0 h1 h2 i
  have hvlt := SetM.op_lt 0 h1 h2
  generalize SetM.op 0 v1 v2 = v at *
  have HG1 := Lib.hid g1
  have HG2 := Lib.hid g2
  have HOP := Lib.hid hop
  clear g1 g2 hop h1 h2 hvlt
  obtain ⟨B, hB⟩ : ∃ B, w.heap.size = B := ⟨_, rfl⟩
  have HBS := Lib.hid hB
  clear hB
  go_enter Tryd.func19, Tryd.ntmps19
  go_wp2
  go_loopw [7, 8, 9, 10] (fun s i _ _ wr => ∃ (k : Nat) (A : Option Addr) (c : Nat), k ≤ 64 ∧ i = .int .i64 k ∧ s = .slice A (SetM.elemsTo v k).length c ∧ Own wr B 3 1 A (SetM.elemsTo v k).length c (ints .i64 (SetM.elemsTo v k)) ∧ Below B w wr) (fun _ i _ _ _ => 64 - (intOf i).toNat)
  case atStart => exact ⟨0, none, 0, by omega, rfl, rfl, Own.none_ _ _ _ _, by rw [← HBS.out]; exact Below.refl _ _⟩
  case round =>
    obtain ⟨k, A5, c5, hk, rfl, rfl, hown, hbel⟩ := hrel
    have hlen := SetM.elemsTo_length v k
    have hsucc := SetM.elemsTo_succ v k
    have HO := Lib.hid hown
    have HBL := Lib.hid hbel
    have HS := Lib.hid hsucc
    clear hown hbel hsucc
    by_cases hlt : k < 64
    · generalize hL : SetM.elemsTo v k = L at *
      have hx := HG1.out k hlt
      have hy := HG2.out k hlt
      have ho := HOP.out k
      have hbw : Below w.heap.size w wr := by rw [HBS.out]; exact HBL.out
      have C1 := Lib.hid (HH.out k wr hbw)
      have C2 := Lib.hid (HH2.out k wr hbw)
      clear hbw
      have hS := HS.out
      have hz : B ≤ (wr.alloc (.cells #[.int .i64 (k : Int)] 3)).heap.size := by have := HBL.out.size; have := HBS.out; simp; omega
      have HZ := Lib.hid hz
      clear hz HS hL
      rw [ho] at hS
      generalize v1.testBit k = x at *
      generalize v2.testBit k = y at *
      have HX := Lib.hid hx
      have HY := Lib.hid hy
      clear ho hx hy
      cases x <;> cases y <;> simp only [SetM.opb] at hS
      all_goals
        have HS' := Lib.hid hS
        clear hS
        go_wp2_with (first
          | (go_at_call 27; refine C1.out.mono ?_; rintro e w' ⟨rfl, rfl⟩; rw [HX.out]; clear C1)
          | (go_at_call 27; refine C2.out.mono ?_; rintro e w' ⟨rfl, rfl⟩; rw [HY.out])
          | (at_builtin; refine wpList_app rfl elt_int B (.tmp 50) (.tmp 52) rfl (ints .i64 L) rfl (HO.out.alloc _) [.int .i64 (k : Int)] rfl (show At _ _ [.int .i64 (k : Int)] from At.lit _ _ _ _ _ rfl) rfl (by intro u hu; simp at hu; subst hu; rfl) (by unfold maxLen; omega) (by omega) HZ.out ?_; intro A' c' w1 own1 g1 _; have B1 := (HBL.out.alloc (by have := HBL.out.size; have := HBS.out; omega) _).grown g1 HZ.out (fun k hk => (HO.out.lt k hk).1); have HO1 := Lib.hid own1; have HB1 := Lib.hid B1; clear own1 g1 B1))
        first
          | exact ⟨⟨k + 1, A', c', by omega, by simp, by rw [HS'.out]; simp, by rw [HS'.out]; simpa [ints] using HO1.out, HB1.out⟩, by simp only [intOf]; omega⟩
          | exact ⟨⟨k + 1, A5, c5, by omega, by simp, by rw [HS'.out]; simp, by rw [HS'.out]; simpa using HO.out, HBL.out⟩, by simp only [intOf]; omega⟩
    · obtain rfl : k = 64 := by omega
      have hL : SetM.elemsTo v 64 = SetM.elems v := rfl
      rw [hL] at HO
      rw [hL]
      generalize SetM.elems v = L at *
      go_wp2_with fail
      go_ret
      exact ⟨A5, c5, rfl, HO.out.at_, by rw [HBS.out]; exact HBL.out, fun k hk => by rw [HBS.out]; exact HO.out.lt k hk⟩
set_option maxRecDepth 100000 in
set_option maxHeartbeats 1000000 in
theorem refSome2_any (A2 : Option Addr) (n2 c2 : Nat) (l2 : List Int) (w : World) (hl : l.length = n) (hm : n ≤ 9223372036854775807) (ha : At w A (ints .i64 l)) (hl2 : l2.length = n2) (hm2 : n2 ≤ 9223372036854775807) (ha2 : At w A2 (ints .i64 l2)) :
    Calls Tryd.prog 19 #[.slice A n c, .slice A2 n2 c2, .int .i64 2] w (SlOf w (SetM.elems (SetM.op 2 (SetM.bitsOf l) (SetM.bitsOf l2)))) := by
  have HH := Lib.hid (fun x w' (hb : Below w.heap.size w w') => refHas_any A n c l x w' hl hm (ha.later hb (Nat.le_refl _)))
  have HH2 := Lib.hid (fun x w' (hb : Below w.heap.size w w') => refHas_any A2 n2 c2 l2 x w' hl2 hm2 (ha2.later hb (Nat.le_refl _)))
  have h1 := SetM.bitsOf_lt l
  have h2 := SetM.bitsOf_lt l2
  have g1 : ∀ k : Nat, k < 64 → SetM.has l k = (SetM.bitsOf l).testBit k := fun k hk => SetM.has_nat l k hk
  have g2 : ∀ k : Nat, k < 64 → SetM.has l2 k = (SetM.bitsOf l2).testBit k := fun k hk => SetM.has_nat l2 k hk
  clear ha ha2 hl hl2
  generalize SetM.bitsOf l = v1 at *
  generalize SetM.bitsOf l2 = v2 at *
  have hop := fun i => SetM.op_testBit 2 h1 h2 i
  have hvlt := SetM.op_lt 2 h1 h2
  generalize SetM.op 2 v1 v2 = v at *
  have HG1 := Lib.hid g1
  have HG2 := Lib.hid g2
  have HOP := Lib.hid hop
  clear g1 g2 hop h1 h2 hvlt
  obtain ⟨B, hB⟩ : ∃ B, w.heap.size = B := ⟨_, rfl⟩
  have HBS := Lib.hid hB
  clear hB
  go_enter Tryd.func19, Tryd.ntmps19
  go_wp2
  go_loopw [7, 8, 9, 10] (fun s i _ _ wr => ∃ (k : Nat) (A : Option Addr) (c : Nat), k ≤ 64 ∧ i = .int .i64 k ∧ s = .slice A (SetM.elemsTo v k).length c ∧ Own wr B 3 1 A (SetM.elemsTo v k).length c (ints .i64 (SetM.elemsTo v k)) ∧ Below B w wr) (fun _ i _ _ _ => 64 - (intOf i).toNat)
  case atStart => exact ⟨0, none, 0, by omega, rfl, rfl, Own.none_ _ _ _ _, by rw [← HBS.out]; exact Below.refl _ _⟩
  case round =>
    obtain ⟨k, A5, c5, hk, rfl, rfl, hown, hbel⟩ := hrel
    have hlen := SetM.elemsTo_length v k
    have hsucc := SetM.elemsTo_succ v k
    have HO := Lib.hid hown
    have HBL := Lib.hid hbel
    have HS := Lib.hid hsucc
    clear hown hbel hsucc
    by_cases hlt : k < 64
    · generalize hL : SetM.elemsTo v k = L at *
      have hx := HG1.out k hlt
      have hy := HG2.out k hlt
      have ho := HOP.out k
      have hbw : Below w.heap.size w wr := by rw [HBS.out]; exact HBL.out
      have C1 := Lib.hid (HH.out k wr hbw)
      have C2 := Lib.hid (HH2.out k wr hbw)
      clear hbw
      have hS := HS.out
      have hz : B ≤ (wr.alloc (.cells #[.int .i64 (k : Int)] 3)).heap.size := by have := HBL.out.size; have := HBS.out; simp; omega
      have HZ := Lib.hid hz
      clear hz HS hL
      rw [ho] at hS
      generalize v1.testBit k = x at *
      generalize v2.testBit k = y at *
      have HX := Lib.hid hx
      have HY := Lib.hid hy
      clear ho hx hy
      cases x <;> cases y <;> simp only [SetM.opb] at hS
      all_goals
        have HS' := Lib.hid hS
        clear hS
        go_wp2_with (first
          | (go_at_call 27; refine C1.out.mono ?_; rintro e w' ⟨rfl, rfl⟩; rw [HX.out]; clear C1)
          | (go_at_call 27; refine C2.out.mono ?_; rintro e w' ⟨rfl, rfl⟩; rw [HY.out])
          | (at_builtin; refine wpList_app rfl elt_int B (.tmp 50) (.tmp 52) rfl (ints .i64 L) rfl (HO.out.alloc _) [.int .i64 (k : Int)] rfl (show At _ _ [.int .i64 (k : Int)] from At.lit _ _ _ _ _ rfl) rfl (by intro u hu; simp at hu; subst hu; rfl) (by unfold maxLen; omega) (by omega) HZ.out ?_; intro A' c' w1 own1 g1 _; have B1 := (HBL.out.alloc (by have := HBL.out.size; have := HBS.out; omega) _).grown g1 HZ.out (fun k hk => (HO.out.lt k hk).1); have HO1 := Lib.hid own1; have HB1 := Lib.hid B1; clear own1 g1 B1))
        first
          | exact ⟨⟨k + 1, A', c', by omega, by simp, by rw [HS'.out]; simp, by rw [HS'.out]; simpa [ints] using HO1.out, HB1.out⟩, by simp only [intOf]; omega⟩
          | exact ⟨⟨k + 1, A5, c5, by omega, by simp, by rw [HS'.out]; simp, by rw [HS'.out]; simpa using HO.out, HBL.out⟩, by simp only [intOf]; omega⟩
    · obtain rfl : k = 64 := by omega
      have hL : SetM.elemsTo v 64 = SetM.elems v := rfl
      rw [hL] at HO
      rw [hL]
      generalize SetM.elems v = L at *
      go_wp2_with fail
      go_ret
      exact ⟨A5, c5, rfl, HO.out.at_, by rw [HBS.out]; exact HBL.out, fun k hk => by rw [HBS.out]; exact HO.out.lt k hk⟩
end
end Go.Proofs.YtkpangeeldhjfaaDoor
