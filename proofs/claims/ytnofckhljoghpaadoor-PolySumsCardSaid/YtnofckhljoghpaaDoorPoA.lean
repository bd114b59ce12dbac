/- Layer 3: the field's steps by name; a curve's value, the program's and the document's. -/
import Derived.Test.YtnofckhljoghpaaDoorPoLag
import Derived.Test.YtnofckhljoghpaaDoorFpCm
import Derived.Test.YtnofckhljoghpaaDoorHolds
import Derived.Deep.QuietTactic
import Derived.BigQuiet
import Derived.WalkKit
import Derived.Lib.Hide
namespace Go.Proofs.YtnofckhljoghpaaDoor
open Go.RowKit
open PoM (ml ad sb iv)
theorem lt64 {a : Nat} (h : a < FpM.p) : a < 18446744073709551616 := Nat.lt_trans h (by decide)
theorem Calls.flip {P : Program} {f : FuncId} {args : Array Value} {w : World} {v : Value} (h : Calls P f args w fun e w' => e = .returned v ∧ w = w') : Calls P f args w fun e w' => e = .returned v ∧ w' = w :=
  h.mono fun _ _ ⟨a, b⟩ => ⟨a, b.symm⟩
theorem below_drewN (B : Nat) (w : World) (n : Nat) : Below B w (w.drewN n) := ⟨rfl, rfl, rfl, Nat.le_refl _, fun _ _ => rfl⟩
section
variable (a b : Nat) (w : World) (ha : a < 18446744073709551616) (hb : b < 18446744073709551616)
include ha hb
theorem cml : Calls Tryd.prog 20 #[.int .u64 a, .int .u64 b] w fun e w' => e = .returned (.int .u64 (ml a b : Nat)) ∧ w = w' := fpMul_any a b w ha hb
theorem cad : Calls Tryd.prog 19 #[.int .u64 a, .int .u64 b] w fun e w' => e = .returned (.int .u64 (ad a b : Nat)) ∧ w = w' := fpAdd_any a b w ha hb
theorem csb : Calls Tryd.prog 27 #[.int .u64 a, .int .u64 b] w fun e w' => e = .returned (.int .u64 (sb a b : Nat)) ∧ w = w' := fpSub_any a b w ha hb
theorem rml : Calls Tryd.prog 17 #[.int .u64 a, .int .u64 b] w fun e w' => e = .returned (.int .u64 (ml a b : Nat)) ∧ w = w' := rfMul_any a b w ha hb
theorem rad : Calls Tryd.prog 16 #[.int .u64 a, .int .u64 b] w fun e w' => e = .returned (.int .u64 (ad a b : Nat)) ∧ w = w' := rfAdd_any a b w ha hb
theorem rsb : Calls Tryd.prog 23 #[.int .u64 a, .int .u64 b] w fun e w' => e = .returned (.int .u64 (sb a b : Nat)) ∧ w = w' := rfSub_any a b w ha hb
omit hb in
theorem riv (h0 : a % FpM.p ≠ 0) : Calls Tryd.prog 24 #[.int .u64 a] w fun e w' => e = .returned (.int .u64 (iv a : Nat)) ∧ w = w' := rfInv_ok a w ha h0
theorem cdv (h0 : b % FpM.p ≠ 0) : Calls Tryd.prog 28 #[.int .u64 a, .int .u64 b] w fun e w' => e = .returned (.tuple #[.int .u64 (ml a (iv b) : Nat), .nilIface]) ∧ w = w' := fpDiv_ok a b w ha hb h0
end
theorem hor_step (l : List Nat) (x k : Nat) (h : k < l.length) : ad (ml (PoM.hor (l.drop (k + 1)) x) x) (l.getD k 0) = PoM.hor (l.drop k) x := by
  rw [List.drop_eq_getElem_cons h]
  simp only [PoM.hor, List.getD_eq_getElem?_getD, List.getElem?_eq_getElem h, Option.getD_some]
set_option maxRecDepth 100000 in
set_option maxHeartbeats 1000000 in
theorem peval_any (A : Option Addr) (n c : Nat) (l : List Nat) (x : Nat) (w : World) (hl : l.length = n) (hm : n ≤ 1000) (ha : At w A (nats .u64 l)) (hb : ∀ i, l.getD i 0 < 18446744073709551616) (hx : x < 18446744073709551616) :
    Calls Tryd.prog 13 #[.slice A n c, .int .u64 x] w fun e w' => e = .returned (.int .u64 (PoM.hor l x : Nat)) ∧ ∃ m, w.drewN m = w' := by
  have HL := Lib.hid hl
  have HA := Lib.hid ha
  have HB := Lib.hid hb
  clear hl ha hb
  go_enter Tryd.func13, Tryd.ntmps13
  go_wp2_with fail
  go_loopw [5, 6] (fun o i wr => ∃ k : Nat, k ≤ n ∧ o = .int .u64 (PoM.hor (l.drop k) x : Nat) ∧ i = .int .i64 ((k : Int) - 1) ∧ ∃ m, w.drewN m = wr) (fun _ i _ => (intOf i + 1).toNat)
  case atStart => exact ⟨n, Nat.le_refl _, by rw [← HL.out, List.drop_length]; rfl, by go_num, 0, rfl⟩
  case round =>
    obtain ⟨k, hk, rfl, rfl, hmm⟩ := hrel
    have HMM := Lib.hid hmm
    clear hmm
    by_cases h0 : 0 < k
    · obtain ⟨j, rfl⟩ : ∃ j, k = j + 1 := ⟨k - 1, by omega⟩
      have hjl : j < l.length := by rw [HL.out]; omega
      obtain ⟨b, o, rfl, hc⟩ := HA.out.nat j hjl
      have d1 : decide ((0 : Int) ≤ ((j + 1 : Nat) : Int) - 1) = true := decide_eq_true (by omega)
      have e1 : ((j + 1 : Nat) : Int) - 1 = (j : Int) := by omega
      rw [e1]
      have j0 : (0 : Int) ≤ (j : Int) := by omega
      obtain ⟨y, hy⟩ : ∃ y, l.getD j 0 = y := ⟨_, rfl⟩
      have hyl := HB.out j
      have hst := hor_step l x j hjl
      rw [hy] at hc hyl hst
      have hol := lt64 (PoM.hor_lt (l.drop (j + 1)) x)
      obtain ⟨v, hv⟩ : ∃ v, PoM.hor (l.drop (j + 1)) x = v := ⟨_, rfl⟩
      rw [hv] at hst hol ⊢
      have HST := Lib.hid hst
      clear hst hv hy
      have hc' : wr.cell? ⟨b, o + j, none⟩ = some (.int .u64 (y : Nat)) := by
        obtain ⟨m, rfl⟩ := HMM.out
        exact hc
      clear hc
      go_wp2_with fail
      go_quiet (first
        | (go_at_call 20; exact Calls.quiet_of_same (Calls.flip (cml v x _ hol hx)))
        | (go_at_call 19; exact Calls.quiet_of_same (Calls.flip (cad _ y _ (lt64 (PoM.ml_lt _ _)) hyl))))
      go_wp2_with fail
      go_round
      case rel => exact ⟨j, by omega, by rw [HST.out], rfl, (by obtain ⟨m, rfl⟩ := HMM.out; exact ⟨_, (World.drewN_drewN _ _ _).symm⟩)⟩
      case measure => simp [intOf]
    · obtain rfl : k = 0 := by omega
      go_wp2_with fail
      go_ret
      exact ⟨rfl, HMM.out⟩
theorem low_step (l : List Nat) (x k o q : Nat) (h : k < l.length) : PoM.low (l.drop k) x o q = PoM.low (l.drop (k + 1)) x (ad o (ml (l.getD k 0) q)) (ml q x) := by
  rw [List.drop_eq_getElem_cons h]
  simp only [PoM.low, List.getD_eq_getElem?_getD, List.getElem?_eq_getElem h, Option.getD_some]
set_option maxRecDepth 100000 in
set_option maxHeartbeats 1000000 in
theorem reval_any (A : Option Addr) (n c : Nat) (l : List Nat) (x : Nat) (w : World) (hl : l.length = n) (hm : n ≤ 1000) (ha : At w A (nats .u64 l)) (hb : ∀ i, l.getD i 0 < 18446744073709551616) (hx : x < 18446744073709551616) :
    Calls Tryd.prog 14 #[.slice A n c, .int .u64 x] w fun e w' => e = .returned (.int .u64 (PoM.hor l x : Nat)) ∧ w = w' := by
  have HL := Lib.hid hl
  have HA := Lib.hid ha
  have HB := Lib.hid hb
  have HH := Lib.hid (PoM.low_hor l x)
  clear hl ha hb
  go_enter Tryd.func14, Tryd.ntmps14
  go_wp2_with fail
  go_loopw [5, 6, 7] (fun o q i wr => ∃ k u v : Nat, k ≤ n ∧ o = .int .u64 (u : Nat) ∧ q = .int .u64 (v : Nat) ∧ i = .int .i64 (k : Nat) ∧ u < FpM.p ∧ v < FpM.p ∧ PoM.low (l.drop k) x u v = PoM.hor l x ∧ w = wr) (fun _ _ i _ => n - (intOf i).toNat)
  case atStart => exact ⟨0, 0, 1, Nat.zero_le _, rfl, rfl, rfl, FpM.p_pos, by decide, HH.out, rfl⟩
  case round =>
    obtain ⟨k, u, v, hk, rfl, rfl, rfl, hu, hv, hE, rfl⟩ := hrel
    have HE := Lib.hid hE
    clear hE
    by_cases h0 : k < n
    · have hkl : k < l.length := by rw [HL.out]; omega
      obtain ⟨b, o, rfl, hc⟩ := HA.out.nat k hkl
      have k0 : (0 : Int) ≤ (k : Int) := by omega
      have hyl := HB.out k
      have hst := (low_step l x k u v hkl).symm.trans HE.out
      obtain ⟨y, hy⟩ : ∃ y, l.getD k 0 = y := ⟨_, rfl⟩
      rw [hy] at hc hyl hst
      have HST := Lib.hid hst
      clear hst hy
      have hu64 := lt64 hu
      have hv64 := lt64 hv
      go_wp2_with fail
      refine (rml y v _ hyl hv64).mono ?_
      rintro e w' ⟨rfl, rfl⟩
      go_wp2_with fail
      refine (rad u _ _ hu64 (lt64 (PoM.ml_lt _ _))).mono ?_
      rintro e w' ⟨rfl, rfl⟩
      go_wp2_with fail
      refine (rml v x _ hv64 hx).mono ?_
      rintro e w' ⟨rfl, rfl⟩
      go_wp2_with fail
      go_round
      case rel => exact ⟨k + 1, _, _, by omega, rfl, rfl, by go_num, PoM.ad_lt _ _, PoM.ml_lt _ _, HST.out, trivial⟩
      case measure => simp [intOf]; omega
    · obtain rfl : k = n := by omega
      have he : u = PoM.hor l x := by
        have h1 := HE.out
        rw [← HL.out, List.drop_length] at h1
        exact h1
      subst he
      go_wp2_with fail
      go_ret
      exact ⟨rfl, rfl⟩
end Go.Proofs.YtnofckhljoghpaaDoor
