/- Layer 11: the walk of varint.Get. -/
import Derived.Test.YtlimabhojocimaaDoorVarA
import Derived.Laws.Bits64b
import Derived.Laws.BitsAllLaws
namespace Go.Proofs.YtlimabhojocimaaDoor
open Go.RowKit
theorem getD_of_all {l : List Nat} {m : Nat} (h : ∀ x ∈ l, x < m + 1) (i : Nat) : l.getD i 0 < m + 1 := by
  by_cases hi : i < l.length
  · rw [getD_lt hi]; exact h _ (List.getElem_mem _)
  · rw [List.getD_eq_getElem?_getD, List.getElem?_eq_none (by omega)]; simp
theorem ret_mid {k : IntKind} {a b : Int} {x y : Value} (h : a = b) : Ending.returned (.tuple #[x, .int k a, y]) = .returned (.tuple #[x, .int k b, y]) := by rw [h]
/-- what Get tells of bytes -/
def vgot (l : List Nat) : Value := match VM.dec l with
  | some (v, k) => .tuple #[.int .u64 (v : Nat), .int .i64 (k : Nat), .nilIface]
  | none => .tuple #[.int .u64 0, .int .i64 0, .iface 65 (.int .i64 3)]
theorem vgot_some {l : List Nat} {v k : Nat} (h : VM.dec l = some (v, k)) : vgot l = .tuple #[.int .u64 (v : Nat), .int .i64 (k : Nat), .nilIface] := by unfold vgot; rw [h]
theorem vgot_none {l : List Nat} (h : VM.dec l = none) : vgot l = .tuple #[.int .u64 0, .int .i64 0, .iface 65 (.int .i64 3)] := by unfold vgot; rw [h]
set_option maxRecDepth 100000 in
theorem or_byte (u y : Nat) (hu : u < 72057594037927936) (hy : y < 256) : bits .or .u64 ((u : Int) * 256) (y : Int) = ((256 * u + y : Nat) : Int) := by
  have h := u64_or_nat (u * 256) y (by omega) (by omega)
  have e : u * 256 ||| y = 256 * u + y := by
    have := Nat.shiftLeft_add_eq_or_of_lt (show y < 2 ^ 8 by omega) u
    rw [Nat.shiftLeft_eq] at this
    have e8 : (2 : Nat) ^ 8 = 256 := by decide
    rw [e8] at this
    rw [← this, Nat.mul_comm]
  rw [e] at h
  rw [← h, Int.natCast_mul]; rfl
theorem val_small {l : List Nat} {k : Nat} (h : ∀ x ∈ l, x < 256) (hk : k ≤ 7) : VM.val (l.take k) < 72057594037927936 := by
  have h1 := VM.val_lt (l.take k) fun x hx => h x (List.mem_of_mem_take hx)
  have h2 : (l.take k).length ≤ 7 := Nat.le_trans (List.length_take_le _ _) hk
  exact Nat.lt_of_lt_of_le h1 (Nat.le_trans (VM.pow_le_of h2) (by decide))
theorem val_big {l : List Nat} {k : Nat} (h : ∀ x ∈ l, x < 256) (hk : k ≤ 8) : VM.val (l.take k) < 18446744073709551616 := by
  have h1 := VM.val_lt (l.take k) fun x hx => h x (List.mem_of_mem_take hx)
  have h2 : (l.take k).length ≤ 8 := Nat.le_trans (List.length_take_le _ _) hk
  exact Nat.lt_of_lt_of_le h1 (Nat.le_trans (VM.pow_le_of h2) (by decide))
theorem take_succ_val {l : List Nat} {k : Nat} (h : k < l.length) : VM.val (l.take (k + 1)) = 256 * VM.val (l.take k) + l.getD k 0 := by
  rw [take_snoc h, VM.val_snoc]
set_option maxRecDepth 100000 in
theorem vget_nil (A : Option Addr) (c : Nat) (w : World) :
    Calls Tryd.prog 45 #[.slice A 0 c] w fun e w' => e = .returned (vgot []) ∧ w = w' := by
  rw [vgot_none rfl]
  go_enter Tryd.func45, Tryd.ntmps45
  go_wp2
  go_ret3
  exact ⟨rfl, rfl⟩
set_option maxRecDepth 100000 in
theorem vget_small (b o n c x : Nat) (r : List Nat) (w : World) (hl : r.length + 1 = n) (hn : n ≤ 9223372036854775807) (ha : At w (some ⟨b, o, none⟩) (nats .u8 (x :: r))) (hx : x < 248) :
    Calls Tryd.prog 45 #[.slice (some ⟨b, o, none⟩) n c] w fun e w' => e = .returned (vgot (x :: r)) ∧ w = w' := by
  rw [vgot_some (v := x) (k := 1) (by simp [VM.dec, hx])]
  obtain ⟨b', o', e, hc⟩ := ha.nat 0 (by simp)
  injection e with e; injection e with e1 e2 e3; subst e1; subst e2
  rw [Nat.add_zero, List.getD_cons_zero] at hc
  have h0 : ((n : Int) == 0) = false := by simp; omega
  have hn0 : 0 < n := by omega
  clear ha hl
  go_enter Tryd.func45, Tryd.ntmps45
  go_wp2
  go_ret3
  exact ⟨rfl, rfl⟩
set_option maxRecDepth 100000 in
set_option maxHeartbeats 1000000 in
theorem vget_big (b o n c m : Nat) (r : List Nat) (w : World) (hl : r.length + 1 = n) (hn : n ≤ 9223372036854775807) (hnc : n ≤ c) (hc63 : c ≤ 9223372036854775807) (ha : At w (some ⟨b, o, none⟩) (nats .u8 ((247 + m) :: r))) (hr : ∀ y ∈ r, y < 256) (hm : 1 ≤ m) (hm8 : m ≤ 8) :
    Calls Tryd.prog 45 #[.slice (some ⟨b, o, none⟩) n c] w fun e w' => e = .returned (vgot ((247 + m) :: r)) ∧ w = w' := by
  have hc0 : w.cell? ⟨b, o, none⟩ = some (.int .u8 (247 + (m : Int))) := by
    obtain ⟨b', o', e, hc⟩ := ha.nat 0 (by simp)
    injection e with e; injection e with e1 e2 e3; subst e1; subst e2
    rw [Nat.add_zero, List.getD_cons_zero] at hc
    rw [hc]; push_cast; rfl
  have h0 : ((n : Int) == 0) = false := by simp; omega
  have hn0 : 0 < n := by omega
  have hd : ¬ 247 + m < 248 := by omega
  have hat : At w (some ⟨b, o + 1, none⟩) (nats .u8 r) := by have := ha.cut (m := 1); simpa [nats] using this
  clear ha
  by_cases h1 : n < 1 + m
  · rw [vgot_none (by simp only [VM.dec, if_neg hd]; rw [if_pos (by omega)])]
    clear hl hd hat hr
    go_enter Tryd.func45, Tryd.ntmps45
    go_wp2
    go_ret3
    exact ⟨rfl, rfl⟩
  · have hrl : m ≤ r.length := by omega
    have hc1 : w.cell? ⟨b, o + 1, none⟩ = some (.int .u8 (r.getD 0 0 : Nat)) := by
      obtain ⟨b', o', e, hc⟩ := hat.nat 0 (by omega)
      injection e with e; injection e with e1 e2 e3; subst e1; subst e2
      exact hc
    by_cases h2 : r.getD 0 0 = 0
    · rw [vgot_none (by simp only [VM.dec, if_neg hd]; rw [if_neg (by omega), if_pos h2])]
      rw [h2] at hc1
      clear hl hd hat hr h2
      go_enter Tryd.func45, Tryd.ntmps45
      go_wp2
      go_ret3
      exact ⟨rfl, rfl⟩
    · have hv : vgot ((247 + m) :: r) = if VM.val (r.take m) < 248 then .tuple #[.int .u64 0, .int .i64 0, .iface 65 (.int .i64 3)] else .tuple #[.int .u64 (VM.val (r.take m) : Nat), .int .i64 (m + 1 : Nat), .nilIface] := by
        unfold vgot
        simp only [VM.dec, if_neg hd]
        rw [if_neg (by omega), if_neg h2, show 247 + m - 247 = m by omega, show 247 + m - 246 = m + 1 by omega]
        split
        · rename_i v k e; split at e
          · cases e
          · rename_i h3; injection e with e; injection e with e1 e2; subst e1; subst e2; rw [if_neg h3]
        · rename_i e; split at e
          · rename_i h3; rw [if_pos h3]
          · cases e
      obtain ⟨res, hres⟩ : ∃ res, vgot ((247 + m) :: r) = res := ⟨_, rfl⟩
      rw [hres]
      rw [hres] at hv
      have HRES := Lib.hid hv
      have hz : (((r.getD 0 0 : Nat) : Int) == 0) = false := by simp; simpa using h2
      generalize r.getD 0 0 = y0 at *
      have HL := Lib.hid hl
      have HT := Lib.hid hat
      have HR := Lib.hid hr
      clear hl hd hat hr h2 hv hres
      go_enter Tryd.func45, Tryd.ntmps45
      go_wp2
      go_loop [6, 42] (fun v i => ∃ k : Nat, k ≤ m ∧ i = .int .i64 k ∧ v = .int .u64 (VM.val (r.take k) : Nat)) (fun _ i => m - (intOf i).toNat)
      case atStart => exact ⟨0, by omega, rfl, rfl⟩
      case round =>
        obtain ⟨k, hk, rfl, rfl⟩ := hrel
        by_cases hlt : k < m
        · have hst := take_succ_val (l := r) (k := k) (by have := HL.out; omega)
          have hcell : w.cell? ⟨b, o + 1 + k, none⟩ = some (.int .u8 (r.getD k 0 : Nat)) := by
            obtain ⟨b', o', e, hc⟩ := HT.out.nat k (by have := HL.out; omega)
            injection e with e; injection e with e1 e2 e3; subst e1; subst e2
            exact hc
          have hy : r.getD k 0 < 256 := by
            rw [getD_lt (by have := HL.out; omega)]; exact HR.out _ (List.getElem_mem _)
          have hu := val_small (l := r) (k := k) HR.out (by omega)
          have hor := or_byte (VM.val (r.take k)) (r.getD k 0) hu hy
          have HST := Lib.hid hst
          clear hst
          generalize r.getD k 0 = y at *
          generalize hU : VM.val (r.take k) = u at *
          clear hU
          go_wp2
          exact ⟨⟨k + 1, by omega, by simp, by rw [HST.out]; push_cast; rfl⟩, by simp only [intOf]; omega⟩
        · obtain rfl : k = m := by omega
          have hb := val_big (l := r) (k := k) HR.out hm8
          by_cases h3 : VM.val (r.take k) < 248
          · have HE := Lib.hid (HRES.out.trans (if_pos h3))
            generalize VM.val (r.take k) = u at *
            go_wp2
            go_ret3
            exact ⟨by rw [HE.out]; rfl, rfl⟩
          · have HE := Lib.hid (HRES.out.trans (if_neg h3))
            generalize VM.val (r.take k) = u at *
            go_wp2
            go_ret3
            exact ⟨by rw [HE.out]; exact ret_mid (by omega), rfl⟩
theorem vget_any (A : Option Addr) (n c : Nat) (l : List Nat) (w : World) (hl : l.length = n) (hn : n ≤ 9223372036854775807) (hnc : n ≤ c) (hc63 : c ≤ 9223372036854775807) (ha : At w A (nats .u8 l)) (hr : ∀ y ∈ l, y < 256) :
    Calls Tryd.prog 45 #[.slice A n c] w fun e w' => e = .returned (vgot l) ∧ w = w' := by
  cases l with
  | nil => obtain rfl : n = 0 := by simpa using hl.symm
           exact vget_nil A c w
  | cons x r =>
    obtain ⟨b, o, rfl, _⟩ := ha.nat 0 (by simp)
    by_cases hx : x < 248
    · exact vget_small b o n c x r w (by simpa using hl) hn ha hx
    · have hx2 := hr x (by simp)
      obtain ⟨m, rfl⟩ : ∃ m, x = 247 + m := ⟨x - 247, by omega⟩
      exact vget_big b o n c m r w (by simpa using hl) hn hnc hc63 ha (fun y hy => hr y (by simp [hy])) (by omega) (by omega)
end Go.Proofs.YtlimabhojocimaaDoor
