/- Layer 15: the walks of package set: can, Bits, From. -/
import Derived.Test.YtmdilfgeogedpaaDoorProg
import Derived.Test.YtmdilfgeogedpaaDoorHolds
import Derived.Test.YtmdilfgeogedpaaDoorSetM
import Derived.Test.YtmdilfgeogedpaaDoorApp
import Derived.Deep.QuietTactic
import Derived.BigQuiet
import Derived.Outline
import Derived.RegionTactic
import Derived.WalkSpells
namespace Go.Proofs.YtmdilfgeogedpaaDoor
open Go.RowKit
/-- numbers as values -/
def ints (k : IntKind) (l : List Int) : List Value := l.map fun x => .int k x
theorem ints_length (k : IntKind) (l : List Int) : (ints k l).length = l.length := by simp [ints]
theorem At.int {w : World} {A : Option Addr} {k : IntKind} {l : List Int} (h : At w A (ints k l)) (i : Nat) (hi : i < l.length) :
    ∃ b o, A = some ⟨b, o, none⟩ ∧ w.cell? ⟨b, o + i, none⟩ = some (.int k (l.getD i 0)) := by
  apply h i
  simp [ints, List.getD_eq_getElem?_getD, List.getElem?_eq_getElem hi]
theorem take_snocI {l : List Int} {k : Nat} (h : k < l.length) : l.take (k + 1) = l.take k ++ [l.getD k 0] := by
  rw [List.take_succ_eq_append_getElem h]; simp [List.getD_eq_getElem?_getD, List.getElem?_eq_getElem h]
set_option maxRecDepth 100000 in
theorem elt_int : Elt Tryd.prog 26 3 (.int .i64 0) 1 8 where
  ht := by kernel_rfl
  hi := ⟨_, rfl, by kernel_rfl, by kernel_rfl, by kernel_rfl⟩
  hzs := rfl
  hsz := by decide
theorem bit_and (v k : Nat) (hv : v < 18446744073709551616) : (bits .and .u64 ((v : Int) / 2 ^ k) 1 == 1) = v.testBit k := by
  have e : (v : Int) / 2 ^ k = ((v / 2 ^ k : Nat) : Int) := by push_cast; rfl
  have h1 : v / 2 ^ k < 18446744073709551616 := Nat.lt_of_le_of_lt (Nat.div_le_self _ _) hv
  have h2 : bits .and .u64 ((v / 2 ^ k : Nat) : Int) 1 = ((v / 2 ^ k &&& 1 : Nat) : Int) := u64_and_nat (v / 2 ^ k) 1 h1 (by decide)
  rw [e, h2, Nat.and_one_is_mod, ← SetM.bit_of]
  rw [Bool.eq_iff_iff]; simp; omega
set_option maxRecDepth 100000 in
theorem setCan_any (x : Int) (w : World) :
    Calls Tryd.prog 44 #[.int .i64 x] w fun e w' => e = .returned (.bool (SetM.can x)) ∧ w = w' := by
  by_cases h1 : 0 ≤ x
  · by_cases h2 : x < 64
    · go_enter Tryd.func44, Tryd.ntmps44
      go_wp2
      go_ret
      exact ⟨ret_bool (by simp [SetM.can]; omega), rfl⟩
    · go_enter Tryd.func44, Tryd.ntmps44
      go_wp2
      go_ret
      exact ⟨ret_bool (by simp [SetM.can]; omega), rfl⟩
  · go_enter Tryd.func44, Tryd.ntmps44
    go_wp2
    go_ret
    exact ⟨ret_bool (by simp [SetM.can]; omega), rfl⟩
theorem or_pow (v y : Nat) (hv : v < 18446744073709551616) (hy : y < 64) : bits .or .u64 (v : Int) (IntKind.u64.wrap (2 ^ y)) = ((v ||| 2 ^ y : Nat) : Int) := by
  have h1 : (2 : Nat) ^ y < 18446744073709551616 := by
    rw [show (18446744073709551616 : Nat) = 2 ^ 64 from by decide]; exact Nat.pow_lt_pow_right (by decide) hy
  have e : (2 : Int) ^ y = ((2 ^ y : Nat) : Int) := by push_cast; rfl
  have h2 : IntKind.u64.wrap (2 ^ y) = ((2 ^ y : Nat) : Int) := by
    rw [e]; generalize 2 ^ y = z at h1; simp [IntKind.wrap, IntKind.signed, IntKind.bits]; omega
  rw [h2, u64_or_nat _ _ hv h1]
set_option maxRecDepth 100000 in
theorem setBits_any (A : Option Addr) (n c : Nat) (l : List Int) (w : World) (hl : l.length = n) (hm : n ≤ 9223372036854775807) (ha : At w A (ints .i64 l)) :
    Calls Tryd.prog 45 #[.slice A n c] w fun e w' => e = .returned (.int .u64 (SetM.bitsOf l : Nat)) ∧ w = w' := by
  have HL := Lib.hid hl
  have HA := Lib.hid ha
  clear hl ha
  go_enter Tryd.func45, Tryd.ntmps45
  go_wp2
  go_loop [3, 8] (fun v i => ∃ k : Nat, k ≤ n ∧ i = .int .i64 k ∧ v = .int .u64 (SetM.bitsOf (l.take k) : Nat)) (fun _ i => n - (intOf i).toNat)
  case atStart => exact ⟨0, by omega, rfl, rfl⟩
  case round =>
    obtain ⟨k, hk, rfl, rfl⟩ := hrel
    have hb := SetM.bitsOf_lt (l.take k)
    by_cases hlt : k < n
    · obtain ⟨b, o, rfl, hc⟩ := HA.out.int k (by rw [HL.out]; exact hlt)
      have hs := take_snocI (l := l) (k := k) (by rw [HL.out]; exact hlt)
      generalize hx : l.getD k 0 = x at *
      have hv : SetM.bitsOf (l.take (k + 1)) = SetM.put (SetM.bitsOf (l.take k)) x := by rw [hs, SetM.bitsOf_snoc]
      obtain ⟨v, hve⟩ : ∃ v, SetM.bitsOf (l.take k) = v := ⟨_, rfl⟩
      rw [hve] at hv hb
      have HV := Lib.hid hv
      have HE := Lib.hid hve
      have hv2 : v < 18446744073709551616 := hb
      rw [hve]
      clear hs hx hv hve hb
      cases hcan : SetM.can x with
      | true =>
        have hx1 := (SetM.can_iff x).1 hcan
        obtain ⟨y, rfl⟩ := Int.eq_ofNat_of_zero_le hx1.1
        have HCN := Lib.hid hcan
        clear hcan
        go_wp2_with (go_at_call 44; refine (setCan_any _ _).mono ?_; rintro e w' ⟨rfl, rfl⟩; rw [HCN.out])
        go_round
        case rel => exact ⟨k + 1, by omega, by go_num, by rw [HV.out, SetM.put, if_pos HCN.out, or_pow v y hv2 (by omega)]; rfl⟩
        case measure => simp [intOf]; omega
      | false =>
        have HCN := Lib.hid hcan
        clear hcan
        go_wp2_with (go_at_call 44; refine (setCan_any _ _).mono ?_; rintro e w' ⟨rfl, rfl⟩; rw [HCN.out])
        go_round
        case rel => exact ⟨k + 1, by omega, by go_num, by rw [HV.out, SetM.put, HCN.out]; rfl⟩
        case measure => simp [intOf]; omega
    · obtain rfl : k = n := by omega
      rw [List.take_of_length_le (by rw [HL.out]; omega)]
      go_wp2
      go_ret
      exact ⟨rfl, rfl⟩
end Go.Proofs.YtmdilfgeogedpaaDoor
