/- The walks of the sums of 32 bits: package crc, and the document's sums. -/
import Derived.Test.YtlimabhojocimaaDoorProg
import Derived.Test.YtlimabhojocimaaDoorBase
import Derived.Test.YtlimabhojocimaaDoorCrcMath
import Derived.Outline
import Derived.Deep.RegionHeld3
import Derived.WalkSpells
namespace Go.Proofs.YtlimabhojocimaaDoor
open Go.RowKit

theorem xor_u32 (a b : BitVec 32) : bits .xor .u32 (a.toNat : Int) (b.toNat : Int) = ((a ^^^ b).toNat : Int) := by
  rw [u32_xor_nat _ _ a.isLt b.isLt, BitVec.toNat_xor]
theorem not_u32 (a : BitVec 32) : bits .xor .u32 IntKind.u32.max (a.toNat : Int) = ((~~~ a).toNat : Int) := by
  have h : IntKind.u32.max = (((BitVec.allOnes 32).toNat : Nat) : Int) := by decide
  rw [h, xor_u32, BitVec.allOnes_xor]
theorem shl1_u32 (a : BitVec 32) : (a.toNat : Int) * (2 : Int) % (4294967296 : Int) = ((a <<< 1).toNat : Int) := by
  rw [BitVec.toNat_shiftLeft, Nat.shiftLeft_eq]; omega
theorem byte_u32 (x : Nat) : (x : Int) % (4294967296 : Int) * (16777216 : Int) % (4294967296 : Int) = ((BitVec.ofNat 32 x <<< 24).toNat : Int) := by
  rw [BitVec.toNat_shiftLeft, Nat.shiftLeft_eq, BitVec.toNat_ofNat]; omega
theorem P_u32 : (79764919 : Int) = (Crc.P.toNat : Int) := by decide
theorem msb_t (u : BitVec 32) (h : ((u.toNat : Int) / 2147483648 == 1) = true) : u.msb = true := by
  rw [BitVec.msb_eq_decide]; simp at h ⊢; omega
theorem msb_f (u : BitVec 32) (h : ((u.toNat : Int) / 2147483648 == 1) = false) : u.msb = false := by
  rw [BitVec.msb_eq_decide]; simp at h ⊢; have := u.isLt; omega
theorem st_t (u : BitVec 32) (h : ((u.toNat : Int) / 2147483648 == 1) = true) : bits .xor .u32 ((u.toNat : Int) * (2 : Int) % (4294967296 : Int)) (79764919 : Int) = ((Crc.st u).toNat : Int) := by
  rw [shl1_u32, P_u32, xor_u32, Crc.st, if_pos (msb_t u h)]
theorem st_f (u : BitVec 32) (h : ((u.toNat : Int) / 2147483648 == 1) = false) : (u.toNat : Int) * (2 : Int) % (4294967296 : Int) = ((Crc.st u).toNat : Int) := by
  rw [shl1_u32, Crc.st, if_neg (by rw [msb_f u h]; decide)]

theorem msb_num (u : BitVec 32) : (u.toNat : Int) / 2147483648 = if u.msb then 1 else 0 := by
  have := u.isLt
  rw [BitVec.msb_eq_decide]; split <;> rename_i h <;> simp at h <;> omega
theorem bit_num (x k : Nat) : ((x : Int) / 2 ^ k).tmod 2 % (4294967296 : Int) = if (x / 2 ^ k % 2 == 1) = true then 1 else 0 := by
  have e : (x : Int) / 2 ^ k = ((x / 2 ^ k : Nat) : Int) := by push_cast; rfl
  rw [e]
  generalize x / 2 ^ k = y
  rw [Int.tmod_eq_emod_of_nonneg (by omega)]
  by_cases hy : y % 2 = 1
  · simp [hy]; omega
  · have : y % 2 = 0 := by omega
    simp [this]; omega
theorem bit_ne (u : BitVec 32) (x k : Nat) : ((u.toNat : Int) / 2147483648 != ((x : Int) / 2 ^ k).tmod 2 % (4294967296 : Int)) = (u.msb != (x / 2 ^ k % 2 == 1)) := by
  rw [msb_num, bit_num]
  cases u.msb <;> cases (x / 2 ^ k % 2 == 1) <;> decide
theorem shl1_u32' (a : BitVec 32) : (2 : Int) * (a.toNat : Int) % (4294967296 : Int) = ((a <<< 1).toNat : Int) := by
  rw [Int.mul_comm, shl1_u32]
theorem not_sub (a : BitVec 32) : (4294967295 : Int) - (a.toNat : Int) = ((~~~ a).toNat : Int) := by
  rw [BitVec.toNat_not]; have := a.isLt; omega
theorem or_u32 (a b : BitVec 32) : Go.bits .or .u32 (a.toNat : Int) (b.toNat : Int) = ((a ||| b).toNat : Int) := by
  rw [u32_or_nat _ _ a.isLt b.isLt, BitVec.toNat_or]
theorem shl8_u32 (a : BitVec 32) : (a.toNat : Int) * (256 : Int) % (4294967296 : Int) = ((a <<< 8).toNat : Int) := by
  rw [BitVec.toNat_shiftLeft, Nat.shiftLeft_eq]; omega
theorem conv_u32 (x : Nat) : (x : Int) % (4294967296 : Int) = ((BitVec.ofNat 32 x).toNat : Int) := by
  rw [BitVec.toNat_ofNat]; omega
set_option maxHeartbeats 400000 in
theorem more_any (v : BitVec 32) (A : Option Addr) (n c : Nat) (l : List Nat) (w : World) (hn : l.length = n) (hm : n ≤ 9223372036854775807) (hr : At w A (nats .u8 l)) :
    Calls Tryd.prog 34 #[.int .u32 v.toNat, .slice A n c] w fun e w' => e = .returned (.int .u32 (Crc.More v l).toNat) ∧ w = w' := by
  have H := Lib.hid hn; clear hn
  go_enter Tryd.func34, Tryd.ntmps34
  go_wp2
  go_loop [5, 12] (fun t i => ∃ k : Nat, k ≤ n ∧ i = .int .i64 k ∧ t = .int .u32 (Crc.reg (~~~ v) (l.take k)).toNat) (fun _ i => n - (intOf i).toNat)
  case atStart => exact ⟨0, Nat.zero_le _, rfl, by rw [not_u32]; rfl⟩
  case round =>
    obtain ⟨k, hk, rfl, rfl⟩ := hrel
    by_cases hlt : k < n
    · obtain ⟨b, o, rfl, hc⟩ := hr.nat k (by rw [H.out]; exact hlt)
      clear hr
      go_wp2
      go_loop [5, 21] (fun t i => ∃ j : Nat, j ≤ 8 ∧ i = .int .i64 j ∧ t = .int .u32 (Crc.sts j ((Crc.reg (~~~ v) (l.take k)) ^^^ ((BitVec.ofNat 32 (l.getD k 0)) <<< 24))).toNat) (fun _ i => 8 - (intOf i).toNat)
      case atStart => exact ⟨0, Nat.zero_le _, rfl, int_eq (by rw [byte_u32, xor_u32]; rfl)⟩
      case round =>
        obtain ⟨j, hj, rfl, rfl⟩ := hrel
        generalize hu : (Crc.sts j _) = u
        have HU := Lib.hid hu; clear hu
        go_wp2
        · have ht : ((u.toNat : Int) / 2147483648 == 1) = true := by assumption
          go_round
          case rel => exact ⟨j + 1, by omega, by go_num, int_eq (by rw [st_t u ht, ← HU.out]; rfl)⟩
          case measure => simp [intOf]; omega
        · have ht : ((u.toNat : Int) / 2147483648 == 1) = false := by assumption
          go_round
          case rel => exact ⟨j + 1, by omega, by go_num, int_eq (by rw [st_f u ht, ← HU.out]; rfl)⟩
          case measure => simp [intOf]; omega
        · have hj8 : j = 8 := by omega
          go_round
          case rel => exact ⟨k + 1, by omega, by go_num, int_eq (by
            have hlk : k < l.length := by rw [H.out]; exact hlt
            rw [← HU.out, hj8, List.take_succ_eq_append_getElem hlk, Crc.reg_append, Crc.reg_cons]
            have e : l.getD k 0 = l[k] := by simp [List.getD_eq_getElem?_getD, List.getElem?_eq_getElem hlk]
            rw [e]; rfl)⟩
          case measure => simp [intOf]; omega
    · have hkn : k = n := by omega
      go_wp2
      go_ret
      exact ⟨ret_int (by rw [Crc.More, List.take_of_length_le (by rw [H.out]; omega), not_u32]), rfl⟩

set_option maxHeartbeats 400000 in
theorem refMore_any (v : BitVec 32) (A : Option Addr) (n c : Nat) (l : List Nat) (w : World) (hn : l.length = n) (hm : n ≤ 9223372036854775807) (hr : At w A (nats .u8 l)) (hb : Crc.Bytes l) :
    Calls Tryd.prog 22 #[.int .u32 v.toNat, .slice A n c] w fun e w' => e = .returned (.int .u32 (Crc.More v l).toNat) ∧ w = w' := by
  have H := Lib.hid hn; clear hn
  go_enter Tryd.func22, Tryd.ntmps22
  go_wp2
  go_loop [5, 6] (fun t i => ∃ k : Nat, k ≤ n ∧ i = .int .i64 k ∧ t = .int .u32 (Crc.reg (~~~ v) (l.take k)).toNat) (fun _ i => n - (intOf i).toNat)
  case atStart => exact ⟨0, Nat.zero_le _, rfl, int_eq (by rw [not_sub]; rfl)⟩
  case round =>
    obtain ⟨k, hk, rfl, rfl⟩ := hrel
    by_cases hlt : k < n
    · obtain ⟨b, o, rfl, hc⟩ := hr.nat k (by rw [H.out]; exact hlt)
      have hx := hb k
      generalize hxx : l.getD k 0 = x at hc hx
      have HX := Lib.hid hxx; clear hxx
      clear hr hb
      go_wp2
      go_loop [5, 7] (fun t i => ∃ (j : Nat) (u : BitVec 32), j ≤ 8 ∧ i = .int .i64 ((j : Int) - 1) ∧ t = .int .u32 u.toNat ∧ Crc.bits j u x = Crc.by8 (Crc.reg (~~~ v) (l.take k)) x) (fun _ i => (intOf i + 1).toNat)
      case atStart => exact ⟨8, _, Nat.le_refl _, rfl, rfl, Crc.bits8 _ _ hx⟩
      case round =>
        obtain ⟨j, u, hj, rfl, rfl, hu⟩ := hrel
        have HU := Lib.hid hu; clear hu
        by_cases hj0 : 1 ≤ j
        · have e1 : Crc.bits j u x = Crc.bits (j - 1) (Crc.bit u (x / 2 ^ (j - 1) % 2 == 1)) x := by
            obtain ⟨i, rfl⟩ : ∃ i, j = i + 1 := ⟨j - 1, by omega⟩
            rfl
          have HE := Lib.hid e1; clear e1
          go_wp2
          · have ht : ((u.toNat : Int) / 2147483648 != ((x : Int) / 2 ^ (j - 1)).tmod 2 % 4294967296) = true := by assumption
            go_round
            case rel => exact ⟨j - 1, (u <<< 1) ^^^ Crc.P, by omega, int_eq (by omega), int_eq (by rw [shl1_u32', P_u32, xor_u32]), by rw [← HU.out, HE.out, Crc.step_bit_t u _ (by rw [← bit_ne]; exact ht)]⟩
            case measure => simp [intOf]; omega
          · have ht : ((u.toNat : Int) / 2147483648 != ((x : Int) / 2 ^ (j - 1)).tmod 2 % 4294967296) = false := by assumption
            go_round
            case rel => exact ⟨j - 1, (u <<< 1), by omega, int_eq (by omega), int_eq (by rw [shl1_u32']), by rw [← HU.out, HE.out, Crc.step_bit_f u _ (by rw [← bit_ne]; exact ht)]⟩
            case measure => simp [intOf]; omega
        · have hj8 : j = 0 := by omega
          go_wp2
          go_round
          case rel => exact ⟨k + 1, by omega, by go_num, int_eq (by
            have hlk : k < l.length := by rw [H.out]; exact hlt
            have hu := HU.out
            rw [hj8] at hu
            have e0 : Crc.bits 0 u x = u := rfl
            rw [e0] at hu
            rw [hu, List.take_succ_eq_append_getElem hlk, Crc.reg_append, Crc.reg_cons, ← HX.out]
            have e : l.getD k 0 = l[k] := by simp [List.getD_eq_getElem?_getD, List.getElem?_eq_getElem hlk]
            rw [e]; rfl)⟩
          case measure => simp [intOf]; omega
    · have hkn : k = n := by omega
      go_wp2
      go_ret
      exact ⟨ret_int (by rw [Crc.More, List.take_of_length_le (by rw [H.out]; omega), not_sub]), rfl⟩

theorem more0 (A : Option Addr) (n c : Nat) (l : List Nat) (w : World) (hn : l.length = n) (hm : n ≤ 9223372036854775807) (hr : At w A (nats .u8 l)) :
    Calls Tryd.prog 34 #[.int .u32 0, .slice A n c] w fun e w' => e = .returned (.int .u32 (Crc.sum l).toNat) ∧ w = w' := more_any 0 A n c l w hn hm hr
theorem sum_any (A : Option Addr) (n c : Nat) (l : List Nat) (w : World) (hn : l.length = n) (hm : n ≤ 9223372036854775807) (hr : At w A (nats .u8 l)) :
    Calls Tryd.prog 18 #[.slice A n c] w fun e w' => e = .returned (.int .u32 (Crc.sum l).toNat) ∧ w = w' := by
  have h := Lib.hid (more0 A n c l w hn hm hr)
  clear hr hn
  go_enter Tryd.func18, Tryd.ntmps18
  go_wp2_with (go_at_call 34; refine (h.out).mono ?_; rintro e w' ⟨rfl, rfl⟩)
  go_ret
  exact ⟨rfl, rfl⟩
theorem u32_eq (a b : BitVec 32) : ((a.toNat : Int) == (b.toNat : Int)) = (a == b) := by
  rw [Bool.eq_iff_iff]; simp [BitVec.toNat_eq]; omega
set_option maxHeartbeats 400000 in
theorem fits_any (A : Option Addr) (n c : Nat) (l : List Nat) (w : World) (hn : l.length = n) (hc : n ≤ c) (hm : c ≤ 9223372036854775807) (hr : At w A (nats .u8 l)) :
    Calls Tryd.prog 23 #[.slice A n c] w fun e w' => e = .returned (.bool (Crc.Fits l)) ∧ w = w' := by
  by_cases h4 : 4 ≤ n
  · obtain ⟨m, rfl⟩ : ∃ m, n = m + 4 := ⟨n - 4, by omega⟩
    obtain ⟨b, o, rfl, -⟩ := hr.nat 0 (by omega)
    have hs := Lib.hid (fun c => sum_any (some ⟨b, o, none⟩) m c (l.take m) w (by simp; omega) (by omega) (by rw [nats_take]; exact hr.take))
    have hd : At w (some ⟨b, o + m, none⟩) (nats .u8 (l.drop m)) := by rw [nats_drop]; exact hr.cut
    have hdl : (l.drop m).length = 4 := by simp; omega
    have hf : Crc.Fits l = (Crc.pre (l.drop m) == Crc.sum (l.take m)) := Crc.fits_pre m l hn
    have HF := Lib.hid hf
    clear hf hr hn
    generalize l.drop m = d at hd hdl HF
    have HL := Lib.hid hdl; clear hdl
    go_enter Tryd.func23, Tryd.ntmps23
    go_wp2
    go_loop [4, 16] (fun t i => ∃ k : Nat, k ≤ 4 ∧ i = .int .i64 k ∧ t = .int .u32 (Crc.pre (d.take k)).toNat) (fun _ i => 4 - (intOf i).toNat)
    case atStart => exact ⟨0, Nat.zero_le _, rfl, rfl⟩
    case round =>
      obtain ⟨k, hk, rfl, rfl⟩ := hrel
      by_cases hlt : k < 4
      · obtain ⟨b', o', e, hc'⟩ := hd.nat k (by rw [HL.out]; exact hlt)
        injection e with e; injection e with e1 e2 e3; subst e1; subst e2; clear e3 hd
        go_wp2
        go_round
        case rel => exact ⟨k + 1, by omega, by go_num, int_eq (by
          rw [shl8_u32, conv_u32, or_u32, take_snoc (by rw [HL.out]; exact hlt), Crc.pre_snoc, List.getD_eq_getElem?_getD])⟩
        case measure => simp [intOf]; omega
      · have hk4 : k = 4 := by omega
        go_wp2_with (go_at_call 18; refine (hs.out _).mono ?_; rintro e w' ⟨rfl, rfl⟩)
        go_ret
        exact ⟨ret_bool (by rw [HF.out, u32_eq, List.take_of_length_le (by rw [HL.out]; omega)]), rfl⟩
  · have h0 : Crc.Fits l = false := Crc.fits_short l (by omega)
    have HF := Lib.hid h0; clear h0
    go_enter Tryd.func23, Tryd.ntmps23
    go_wp2
    go_ret
    exact ⟨ret_bool HF.out.symm, rfl⟩
end Go.Proofs.YtlimabhojocimaaDoor
