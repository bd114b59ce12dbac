/- The walks of package set: can, Bits, From; where what From makes lies. -/
import Derived.Test.YtkpangeeldhjfaaDoorProg
import Derived.Test.YtkpangeeldhjfaaDoorHolds
import Derived.Test.YtkpangeeldhjfaaDoorSetM
import Derived.Test.YtkpangeeldhjfaaDoorApp
import Derived.Deep.QuietTactic
import Derived.BigQuiet
import Derived.Outline
import Derived.RegionTactic
import Derived.WalkSpells
namespace Go.Proofs.YtkpangeeldhjfaaDoor
open Go.RowKit
/-- numbers as values -/
def ints (k : IntKind) (l : List Int) : List Value := l.map fun x => .int k x
theorem ints_length (k : IntKind) (l : List Int) : (ints k l).length = l.length := by simp [ints]
theorem At.int {w : World} {A : Option Addr} {k : IntKind} {l : List Int} (h : At w A (ints k l)) (i : Nat) (hi : i < l.length) :
    ∃ b o, A = some ⟨b, o, none⟩ ∧ w.cell? ⟨b, o + i, none⟩ = some (.int k (l.getD i 0)) := by
  apply h i
  simp [ints, List.getD_eq_getElem?_getD, List.getElem?_eq_getElem hi]
theorem take_snocI {l : List Int} {k : Nat} (h : k < l.length) : l.take (k + 1) = l.take k ++ [l.getD k 0] := by
  rw [List.take_succ_eq_append_getElem h]; simp [List.getD_eq_getElem?_getD, List.getElem?_eq_getElem h]
theorem elt_int : Elt Tryd.prog 22 3 (.int .i64 0) 1 8 where
  ht := by kernel_rfl
  hi := ⟨_, rfl, by kernel_rfl, by kernel_rfl, by kernel_rfl⟩
  hzs := rfl
  hsz := by decide
theorem bit_and (v k : Nat) (hv : v < 18446744073709551616) : (bits .and .u64 ((v : Int) / 2 ^ k) 1 == 1) = v.testBit k := by
  have e : (v : Int) / 2 ^ k = ((v / 2 ^ k : Nat) : Int) := by push_cast; rfl
  have h1 : v / 2 ^ k < 18446744073709551616 := Nat.lt_of_le_of_lt (Nat.div_le_self _ _) hv
  have h2 : bits .and .u64 ((v / 2 ^ k : Nat) : Int) 1 = ((v / 2 ^ k &&& 1 : Nat) : Int) := u64_and_nat (v / 2 ^ k) 1 h1 (by decide)
  rw [e, h2, Nat.and_one_is_mod, ← SetM.bit_of]
  rw [Bool.eq_iff_iff]; simp; omega
set_option maxRecDepth 100000 in
theorem setCan_any (x : Int) (w : World) :
    Calls Tryd.prog 35 #[.int .i64 x] w fun e w' => e = .returned (.bool (SetM.can x)) ∧ w = w' := by
  by_cases h1 : 0 ≤ x
  · by_cases h2 : x < 64
    · go_enter Tryd.func35, Tryd.ntmps35
      go_wp2
      go_ret
      exact ⟨ret_bool (by simp [SetM.can]; omega), rfl⟩
    · go_enter Tryd.func35, Tryd.ntmps35
      go_wp2
      go_ret
      exact ⟨ret_bool (by simp [SetM.can]; omega), rfl⟩
  · go_enter Tryd.func35, Tryd.ntmps35
    go_wp2
    go_ret
    exact ⟨ret_bool (by simp [SetM.can]; omega), rfl⟩
theorem or_pow (v y : Nat) (hv : v < 18446744073709551616) (hy : y < 64) : bits .or .u64 (v : Int) (IntKind.u64.wrap (2 ^ y)) = ((v ||| 2 ^ y : Nat) : Int) := by
  have h1 : (2 : Nat) ^ y < 18446744073709551616 := by
    rw [show (18446744073709551616 : Nat) = 2 ^ 64 from by decide]; exact Nat.pow_lt_pow_right (by decide) hy
  have e : (2 : Int) ^ y = ((2 ^ y : Nat) : Int) := by push_cast; rfl
  have h2 : IntKind.u64.wrap (2 ^ y) = ((2 ^ y : Nat) : Int) := by
    rw [e]; generalize 2 ^ y = z at h1; simp [IntKind.wrap, IntKind.signed, IntKind.bits]; omega
  rw [h2, u64_or_nat _ _ hv h1]
set_option maxRecDepth 100000 in
theorem setBits_any (A : Option Addr) (n c : Nat) (l : List Int) (w : World) (hl : l.length = n) (hm : n ≤ 9223372036854775807) (ha : At w A (ints .i64 l)) :
    Calls Tryd.prog 34 #[.slice A n c] w fun e w' => e = .returned (.int .u64 (SetM.bitsOf l : Nat)) ∧ w = w' := by
  have HL := Lib.hid hl
  have HA := Lib.hid ha
  clear hl ha
  go_enter Tryd.func34, Tryd.ntmps34
  go_wp2
  go_loop [3, 8] (fun v i => ∃ k : Nat, k ≤ n ∧ i = .int .i64 k ∧ v = .int .u64 (SetM.bitsOf (l.take k) : Nat)) (fun _ i => n - (intOf i).toNat)
  case atStart => exact ⟨0, by omega, rfl, rfl⟩
  case round =>
    obtain ⟨k, hk, rfl, rfl⟩ := hrel
    have hb := SetM.bitsOf_lt (l.take k)
    by_cases hlt : k < n
    · obtain ⟨b, o, rfl, hc⟩ := HA.out.int k (by rw [HL.out]; exact hlt)
      have hs := take_snocI (l := l) (k := k) (by rw [HL.out]; exact hlt)
      generalize hx : l.getD k 0 = x at *
      have hv : SetM.bitsOf (l.take (k + 1)) = SetM.put (SetM.bitsOf (l.take k)) x := by rw [hs, SetM.bitsOf_snoc]
      obtain ⟨v, hve⟩ : ∃ v, SetM.bitsOf (l.take k) = v := ⟨_, rfl⟩
      rw [hve] at hv hb
      have HV := Lib.hid hv
      have HE := Lib.hid hve
      have hv2 : v < 18446744073709551616 := hb
      rw [hve]
      clear hs hx hv hve hb
      cases hcan : SetM.can x with
      | true =>
        have hx1 := (SetM.can_iff x).1 hcan
        obtain ⟨y, rfl⟩ := Int.eq_ofNat_of_zero_le hx1.1
        have HCN := Lib.hid hcan
        clear hcan
        go_wp2_with (go_at_call 35; refine (setCan_any _ _).mono ?_; rintro e w' ⟨rfl, rfl⟩; rw [HCN.out])
        go_round
        case rel => exact ⟨k + 1, by omega, by go_num, by rw [HV.out, SetM.put, if_pos HCN.out, or_pow v y hv2 (by omega)]; rfl⟩
        case measure => simp [intOf]; omega
      | false =>
        have HCN := Lib.hid hcan
        clear hcan
        go_wp2_with (go_at_call 35; refine (setCan_any _ _).mono ?_; rintro e w' ⟨rfl, rfl⟩; rw [HCN.out])
        go_round
        case rel => exact ⟨k + 1, by omega, by go_num, by rw [HV.out, SetM.put, HCN.out]; rfl⟩
        case measure => simp [intOf]; omega
    · obtain rfl : k = n := by omega
      rw [List.take_of_length_le (by rw [HL.out]; omega)]
      go_wp2
      go_ret
      exact ⟨rfl, rfl⟩
/-- the set's slice that From makes -/
def SlOf (w : World) (l : List Int) (e : Ending) (w' : World) : Prop :=
  ∃ A c, e = .returned (.slice A l.length c) ∧ At w' A (ints .i64 l) ∧ Below w.heap.size w w' ∧ ∀ k, blk A = some k → w.heap.size ≤ k ∧ k < w'.heap.size
set_option maxRecDepth 100000 in
set_option maxHeartbeats 1000000 in
theorem setFrom_any (v : Nat) (w : World) (hv : v < 18446744073709551616) :
    Calls Tryd.prog 33 #[.int .u64 v] w (SlOf w (SetM.elems v)) := by
  obtain ⟨B, hB⟩ : ∃ B, w.heap.size = B := ⟨_, rfl⟩
  go_enter Tryd.func33, Tryd.ntmps33
  go_wp2
  go_loopw [3, 5] (fun s i wr => ∃ (k : Nat) (A : Option Addr) (c : Nat), k ≤ 64 ∧ i = .int .i64 k ∧ s = .slice A (SetM.elemsTo v k).length c ∧ Own wr B 3 1 A (SetM.elemsTo v k).length c (ints .i64 (SetM.elemsTo v k)) ∧ Below B w wr) (fun _ i _ => 64 - (intOf i).toNat)
  case atStart => exact ⟨0, none, 0, by omega, rfl, rfl, Own.none_ _ _ _ _, by rw [← hB]; exact Below.refl _ _⟩
  case round =>
    obtain ⟨k, A, c, hk, rfl, rfl, hown, hbel⟩ := hrel
    have hlen := SetM.elemsTo_length v k
    have hsucc := SetM.elemsTo_succ v k
    have HO := Lib.hid hown
    have HBL := Lib.hid hbel
    have HS := Lib.hid hsucc
    clear hown hbel hsucc
    by_cases hlt : k < 64
    · generalize hL : SetM.elemsTo v k = L at *
      have ha := bit_and v k hv
      cases hbit : v.testBit k with
      | true =>
        rw [hbit] at ha
        have hS := HS.out
        rw [hbit, if_pos rfl] at hS
        have HS' := Lib.hid hS
        clear hL hbit hS HS
        have hz : B ≤ (wr.alloc (.cells #[.int .i64 (k : Int)] 3)).heap.size := by have := HBL.out.size; simp; omega
        have HZ := Lib.hid hz
        clear hz
        go_wp2_with (at_builtin; refine wpList_app rfl elt_int B (.tmp 13) (.tmp 15) rfl (ints .i64 L) rfl (HO.out.alloc _) [.int .i64 (k : Int)] rfl (show At _ _ [.int .i64 (k : Int)] from At.lit _ _ _ _ _ rfl) rfl (by intro u hu; simp at hu; subst hu; rfl) (by unfold maxLen; omega) (by omega) HZ.out ?_; intro A' c' w1 own1 g1 _; have B1 := (HBL.out.alloc (by have := HBL.out.size; omega) _).grown g1 HZ.out (fun k hk => (HO.out.lt k hk).1); have HO1 := Lib.hid own1; have HB1 := Lib.hid B1; clear own1 g1 B1)
        exact ⟨⟨k + 1, A', c', by omega, by simp, by rw [HS'.out]; simp, by rw [HS'.out]; simpa [ints] using HO1.out, HB1.out⟩, by simp only [intOf]; omega⟩
      | false =>
        rw [hbit] at ha
        have hS := HS.out
        rw [hbit, if_neg (by decide), List.append_nil] at hS
        have HS' := Lib.hid hS
        clear hL hbit hS HS
        go_wp2_with fail
        exact ⟨⟨k + 1, A, c, by omega, by simp, by rw [HS'.out], by rw [HS'.out]; exact HO.out, HBL.out⟩, by simp only [intOf]; omega⟩
    · obtain rfl : k = 64 := by omega
      have hL : SetM.elemsTo v 64 = SetM.elems v := rfl
      rw [hL] at HO
      rw [hL]
      generalize SetM.elems v = L at *
      go_wp2
      go_ret
      exact ⟨A, c, rfl, HO.out.at_, by rw [hB]; exact HBL.out, fun k hk => by rw [hB]; exact HO.out.lt k hk⟩
end Go.Proofs.YtkpangeeldhjfaaDoor
