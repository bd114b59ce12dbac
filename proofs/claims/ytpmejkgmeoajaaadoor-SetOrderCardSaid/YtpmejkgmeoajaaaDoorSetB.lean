/- Layer 15: the walks of package set: Has, Check, Of, Either, Both, Less; ints. -/
import Derived.Test.YtpmejkgmeoajaaaDoorSetA
namespace Go.Proofs.YtpmejkgmeoajaaaDoor
open Go.RowKit
theorem u64_or_l (v w : Nat) (hv : v < 2 ^ 64) (hw : w < 2 ^ 64) : bits .or .u64 (v : Int) (w : Int) = ((SetM.op 0 v w : Nat) : Int) := u64_or_nat v w hv hw
theorem u64_and_l (v w : Nat) (hv : v < 2 ^ 64) (hw : w < 2 ^ 64) : bits .and .u64 (v : Int) (w : Int) = ((SetM.op 1 v w : Nat) : Int) := u64_and_nat v w hv hw
theorem u64_less_l (v w : Nat) (hv : v < 2 ^ 64) (hw : w < 2 ^ 64) : bits .andNot .u64 (v : Int) (w : Int) = ((SetM.op 2 v w : Nat) : Int) := u64_andNot_nat v w hv hw
section
variable (A : Option Addr) (n c : Nat) (l : List Int)
set_option maxRecDepth 100000 in
theorem setHas_any (x : Int) (w : World) (hl : l.length = n) (hm : n ≤ 9223372036854775807) (ha : At w A (ints .i64 l)) :
    Calls Tryd.prog 20 #[.slice A n c, .int .i64 x] w fun e w' => e = .returned (.bool (SetM.has l x)) ∧ w = w' := by
  have HB := Lib.hid (setBits_any A n c l w hl hm ha)
  cases hcan : SetM.can x with
  | true =>
    have hx1 := (SetM.can_iff x).1 hcan
    obtain ⟨y, rfl⟩ := Int.eq_ofNat_of_zero_le hx1.1
    have hb := bit_and (SetM.bitsOf l) y (SetM.bitsOf_lt l)
    have hr : SetM.has l (y : Int) = (SetM.bitsOf l).testBit y := SetM.has_nat l y (by omega)
    rw [hr]
    have HCN := Lib.hid hcan
    generalize SetM.bitsOf l = v at *
    clear hcan hr hl ha
    cases hv : v.testBit y <;> rw [hv] at hb <;> clear hv
    all_goals
      go_enter Tryd.func20, Tryd.ntmps20
      go_wp2_with (first | (go_at_call 30; refine (setCan_any _ _).mono ?_; rintro e w' ⟨rfl, rfl⟩; rw [HCN.out]) | (go_at_call 26; refine HB.out.mono ?_; rintro e w' ⟨rfl, rfl⟩))
      go_ret
      exact ⟨rfl, rfl⟩
  | false =>
    have hr : SetM.has l x = false := by unfold SetM.has; rw [hcan]; rfl
    rw [hr]
    have HCN := Lib.hid hcan
    clear hcan hr hl ha
    go_enter Tryd.func20, Tryd.ntmps20
    go_wp2_with (go_at_call 30; refine (setCan_any _ _).mono ?_; rintro e w' ⟨rfl, rfl⟩; rw [HCN.out])
    go_ret
    exact ⟨rfl, rfl⟩
variable (A2 : Option Addr) (n2 c2 : Nat) (l2 : List Int)
set_option maxRecDepth 100000 in
theorem setEither_any (w : World) (hl : l.length = n) (hm : n ≤ 9223372036854775807) (ha : At w A (ints .i64 l)) (hl2 : l2.length = n2) (hm2 : n2 ≤ 9223372036854775807) (ha2 : At w A2 (ints .i64 l2)) :
    Calls Tryd.prog 22 #[.slice A n c, .slice A2 n2 c2] w (SlOf w (SetM.elems (SetM.op 0 (SetM.bitsOf l) (SetM.bitsOf l2)))) := by
  have HB := Lib.hid (setBits_any A n c l w hl hm ha)
  have HB2 := Lib.hid (setBits_any A2 n2 c2 l2 w hl2 hm2 ha2)
  have h1 := SetM.bitsOf_lt l
  have h2 := SetM.bitsOf_lt l2
  clear ha ha2 hl hl2
  generalize SetM.bitsOf l = v at *
  generalize SetM.bitsOf l2 = v2 at *
  have hf := setFrom_any (SetM.op 0 v v2) w (SetM.op_lt 0 h1 h2)
  have he := u64_or_l v v2 h1 h2
  generalize SetM.op 0 v v2 = u at *
  have HF := Lib.hid hf
  clear hf h1 h2
  go_enter Tryd.func22, Tryd.ntmps22
  go_wp2_with fail
  refine HB.out.mono ?_
  rintro e w' ⟨rfl, rfl⟩
  go_wp2_with fail
  refine HB2.out.mono ?_
  rintro e w' ⟨rfl, rfl⟩
  go_wp2_with fail
  refine HF.out.mono ?_
  rintro e w1 ⟨A3, c3, rfl, h3, h4⟩
  clear he
  go_wp2_with fail
  go_ret
  exact ⟨A3, c3, rfl, h3, h4⟩
set_option maxRecDepth 100000 in
theorem setBoth_any (w : World) (hl : l.length = n) (hm : n ≤ 9223372036854775807) (ha : At w A (ints .i64 l)) (hl2 : l2.length = n2) (hm2 : n2 ≤ 9223372036854775807) (ha2 : At w A2 (ints .i64 l2)) :
    Calls Tryd.prog 24 #[.slice A n c, .slice A2 n2 c2] w (SlOf w (SetM.elems (SetM.op 1 (SetM.bitsOf l) (SetM.bitsOf l2)))) := by
  have HB := Lib.hid (setBits_any A n c l w hl hm ha)
  have HB2 := Lib.hid (setBits_any A2 n2 c2 l2 w hl2 hm2 ha2)
  have h1 := SetM.bitsOf_lt l
  have h2 := SetM.bitsOf_lt l2
  clear ha ha2 hl hl2
  generalize SetM.bitsOf l = v at *
  generalize SetM.bitsOf l2 = v2 at *
  have hf := setFrom_any (SetM.op 1 v v2) w (SetM.op_lt 1 h1 h2)
  have he := u64_and_l v v2 h1 h2
  generalize SetM.op 1 v v2 = u at *
  have HF := Lib.hid hf
  clear hf h1 h2
  go_enter Tryd.func24, Tryd.ntmps24
  go_wp2_with fail
  refine HB.out.mono ?_
  rintro e w' ⟨rfl, rfl⟩
  go_wp2_with fail
  refine HB2.out.mono ?_
  rintro e w' ⟨rfl, rfl⟩
  go_wp2_with fail
  refine HF.out.mono ?_
  rintro e w1 ⟨A3, c3, rfl, h3, h4⟩
  clear he
  go_wp2_with fail
  go_ret
  exact ⟨A3, c3, rfl, h3, h4⟩
set_option maxRecDepth 100000 in
theorem setLess_any (w : World) (hl : l.length = n) (hm : n ≤ 9223372036854775807) (ha : At w A (ints .i64 l)) (hl2 : l2.length = n2) (hm2 : n2 ≤ 9223372036854775807) (ha2 : At w A2 (ints .i64 l2)) :
    Calls Tryd.prog 25 #[.slice A n c, .slice A2 n2 c2] w (SlOf w (SetM.elems (SetM.op 2 (SetM.bitsOf l) (SetM.bitsOf l2)))) := by
  have HB := Lib.hid (setBits_any A n c l w hl hm ha)
  have HB2 := Lib.hid (setBits_any A2 n2 c2 l2 w hl2 hm2 ha2)
  have h1 := SetM.bitsOf_lt l
  have h2 := SetM.bitsOf_lt l2
  clear ha ha2 hl hl2
  generalize SetM.bitsOf l = v at *
  generalize SetM.bitsOf l2 = v2 at *
  have hf := setFrom_any (SetM.op 2 v v2) w (SetM.op_lt 2 h1 h2)
  have he := u64_less_l v v2 h1 h2
  generalize SetM.op 2 v v2 = u at *
  have HF := Lib.hid hf
  clear hf h1 h2
  go_enter Tryd.func25, Tryd.ntmps25
  go_wp2_with fail
  refine HB.out.mono ?_
  rintro e w' ⟨rfl, rfl⟩
  go_wp2_with fail
  refine HB2.out.mono ?_
  rintro e w' ⟨rfl, rfl⟩
  go_wp2_with fail
  refine HF.out.mono ?_
  rintro e w1 ⟨A3, c3, rfl, h3, h4⟩
  clear he
  go_wp2_with fail
  go_ret
  exact ⟨A3, c3, rfl, h3, h4⟩
/-- an error or none -/
def errIf (b : Bool) : Value := if b then .nilIface else .iface 48 (.int .i64 1)
set_option maxRecDepth 100000 in
theorem setCheck_any (w : World) (hl : l.length = n) (hm : n ≤ 9223372036854775807) (ha : At w A (ints .i64 l)) :
    Calls Tryd.prog 16 #[.slice A n c] w fun e w' => e = .returned (errIf (SetM.may l)) ∧ w = w' := by
  have HL := Lib.hid hl
  have HA := Lib.hid ha
  clear hl ha
  obtain ⟨may, hmay⟩ : ∃ m, SetM.may l = m := ⟨_, rfl⟩
  rw [hmay]
  have HM := Lib.hid hmay
  clear hmay
  go_enter Tryd.func16, Tryd.ntmps16
  go_wp2
  go_loop [3, 8] (fun v i => ∃ (k : Nat) (last : Int), k ≤ n ∧ i = .int .i64 k ∧ v = .int .i64 last ∧ SetM.mayFrom last (l.drop k) = may) (fun _ i => n - (intOf i).toNat)
  case atStart => exact ⟨0, -1, by omega, rfl, rfl, HM.out⟩
  case round =>
    obtain ⟨k, last, hk, rfl, rfl, hrm⟩ := hrel
    have HR := Lib.hid hrm
    clear hrm
    by_cases hlt : k < n
    · obtain ⟨b, o, rfl, hc⟩ := HA.out.int k (by rw [HL.out]; exact hlt)
      have hs := SetM.drop_consI (l := l) (k := k) (by rw [HL.out]; exact hlt)
      generalize hx : l.getD k 0 = x at *
      have hr := HR.out
      rw [hs, SetM.mayFrom] at hr
      clear hx hs HR
      by_cases hlast : last < x
      · cases hcan : SetM.can x with
        | true =>
          have hr2 : SetM.mayFrom x (l.drop (k + 1)) = may := by rw [← hr]; simp [hlast, hcan]
          have HR2 := Lib.hid hr2
          have HCN := Lib.hid hcan
          clear hr hr2 hcan
          go_wp2_with (go_at_call 30; refine (setCan_any _ _).mono ?_; rintro e w' ⟨rfl, rfl⟩; rw [HCN.out])
          go_round
          case rel => exact ⟨k + 1, x, by omega, by go_num, rfl, HR2.out⟩
          case measure => simp [intOf]; omega
        | false =>
          have hr2 : may = false := by rw [← hr]; simp [hcan]
          subst hr2
          have HCN := Lib.hid hcan
          clear hr hcan HM
          go_wp2_with (go_at_call 30; refine (setCan_any _ _).mono ?_; rintro e w' ⟨rfl, rfl⟩; rw [HCN.out])
          go_ret
          exact ⟨rfl, rfl⟩
      · have hr2 : may = false := by rw [← hr]; simp [hlast]
        subst hr2
        clear hr HM
        go_wp2_with fail
        go_ret
        exact ⟨rfl, rfl⟩
    · obtain rfl : k = n := by omega
      have hr2 : may = true := by rw [← HR.out, List.drop_of_length_le (by rw [HL.out]; omega)]; rfl
      subst hr2
      go_wp2
      go_ret
      exact ⟨rfl, rfl⟩
/-- what Of makes: the set, or the error -/
def OfP (w : World) (l : List Int) (e : Ending) (w' : World) : Prop :=
  ∃ A c, e = .returned (.tuple #[.slice A (if SetM.ok l then SetM.elems (SetM.bitsOf l) else []).length c, errIf (SetM.ok l)]) ∧ At w' A (ints .i64 (if SetM.ok l then SetM.elems (SetM.bitsOf l) else [])) ∧ Below w.heap.size w w'
set_option maxRecDepth 100000 in
theorem setOf_any (w : World) (hl : l.length = n) (hm : n ≤ 9223372036854775807) (ha : At w A (ints .i64 l)) :
    Calls Tryd.prog 14 #[.slice A n c] w (OfP w l) := by
  have HL := Lib.hid hl
  have HA := Lib.hid ha
  clear hl ha
  go_enter Tryd.func14, Tryd.ntmps14
  go_wp2
  go_loop [4, 9] (fun v i => ∃ k : Nat, k ≤ n ∧ i = .int .i64 k ∧ v = .int .u64 (SetM.bitsOf (l.take k) : Nat) ∧ SetM.okFrom (SetM.bitsOf (l.take k)) (l.drop k) = SetM.ok l) (fun _ i => n - (intOf i).toNat)
  case atStart => exact ⟨0, by omega, rfl, rfl, rfl⟩
  case round =>
    obtain ⟨k, hk, rfl, rfl, hrm⟩ := hrel
    have HR := Lib.hid hrm
    clear hrm
    by_cases hlt : k < n
    · obtain ⟨b, o, rfl, hc⟩ := HA.out.int k (by rw [HL.out]; exact hlt)
      have hs := SetM.drop_consI (l := l) (k := k) (by rw [HL.out]; exact hlt)
      have ht := take_snocI (l := l) (k := k) (by rw [HL.out]; exact hlt)
      have hbl : SetM.bitsOf (l.take k) < 18446744073709551616 := SetM.bitsOf_lt _
      generalize hx : l.getD k 0 = x at *
      have hr := HR.out
      have hv : SetM.bitsOf (l.take (k + 1)) = SetM.put (SetM.bitsOf (l.take k)) x := by rw [ht, SetM.bitsOf_snoc]
      rw [hs, SetM.okFrom] at hr
      obtain ⟨v, hve⟩ : ∃ v, SetM.bitsOf (l.take k) = v := ⟨_, rfl⟩
      rw [hve] at hv hr hbl ⊢
      have HV := Lib.hid hv
      clear hx hs HR ht hve hv
      cases hcan : SetM.can x with
      | true =>
        have hx1 := (SetM.can_iff x).1 hcan
        obtain ⟨y, rfl⟩ := Int.eq_ofNat_of_zero_le hx1.1
        have hba := bit_and v y hbl
        have HCN := Lib.hid hcan
        rw [hcan, show ((y : Int)).toNat = y from rfl] at hr
        clear hcan
        cases hbit : v.testBit y with
        | true =>
          rw [hbit] at hba hr
          have hko : SetM.ok l = false := by rw [← hr]; simp
          have HK := Lib.hid hko
          clear hbit hr hko
          go_wp2_with (go_at_call 30; refine (setCan_any _ _).mono ?_; rintro e w' ⟨rfl, rfl⟩; rw [HCN.out])
          go_ret2
          unfold OfP
          rw [HK.out]
          exact ⟨none, 0, rfl, At.nil _ _, Below.refl _ _⟩
        | false =>
          rw [hbit] at hba hr
          have hr2 : SetM.okFrom (SetM.put v y) (l.drop (k + 1)) = SetM.ok l := by rw [← hr]; simp
          have HR2 := Lib.hid hr2
          clear hbit hr hr2
          go_wp2_with (go_at_call 30; refine (setCan_any _ _).mono ?_; rintro e w' ⟨rfl, rfl⟩; rw [HCN.out])
          go_round
          case rel => exact ⟨k + 1, by omega, by go_num, by rw [HV.out, SetM.put, if_pos HCN.out, or_pow v y hbl (by omega)]; rfl, by rw [HV.out]; exact HR2.out⟩
          case measure => simp [intOf]; omega
      | false =>
        have hko : SetM.ok l = false := by rw [← hr]; simp [hcan]
        have HK := Lib.hid hko
        have HCN := Lib.hid hcan
        clear hr hko hcan
        go_wp2_with (go_at_call 30; refine (setCan_any _ _).mono ?_; rintro e w' ⟨rfl, rfl⟩; rw [HCN.out])
        go_ret2
        unfold OfP
        rw [HK.out]
        exact ⟨none, 0, rfl, At.nil _ _, Below.refl _ _⟩
    · obtain rfl : k = n := by omega
      have hko : SetM.ok l = true := by rw [← HR.out, List.drop_of_length_le (by rw [HL.out]; omega)]; rfl
      have hbl : SetM.bitsOf l < 18446744073709551616 := SetM.bitsOf_lt _
      rw [List.take_of_length_le (by rw [HL.out]; omega)]
      have HK := Lib.hid hko
      have HF := Lib.hid (setFrom_any (SetM.bitsOf l) w hbl)
      clear hko HR
      go_wp2_with (go_at_call 28; refine HF.out.mono ?_; rintro e w1 ⟨A3, c3, rfl, h3, h4⟩)
      go_ret2
      unfold OfP
      rw [HK.out]
      exact ⟨A3, c3, rfl, h3, h4⟩
end
theorem below_drewN (w : World) (n B : Nat) : Below B w (w.drewN n) := ⟨rfl, rfl, rfl, Nat.le_refl _, fun _ _ => rfl⟩
end Go.Proofs.YtpmejkgmeoajaaaDoor
