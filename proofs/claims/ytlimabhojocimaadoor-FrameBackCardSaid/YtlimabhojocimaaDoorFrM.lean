/- Layer 13, the document: Put of a number, and of bytes. -/
import Derived.Test.YtlimabhojocimaaDoorFrL
namespace Go.Proofs.YtlimabhojocimaaDoor
open Go.RowKit
theorem Own.base_ {w : World} {B B' : Nat} {e : TypeId} {size : Nat} {A : Option Addr} {n c : Nat} {xs : List Value} (h : Own w B e size A n c xs) (hb : B' ≤ B) : Own w B' e size A n c xs := by
  refine ⟨h.1, ?_⟩
  rcases h.2 with h0 | ⟨g, cap, cur, h1, h2, h3⟩
  · exact .inl h0
  · exact .inr ⟨g, cap, cur, h1, Nat.le_trans hb h2, h3⟩
/-- a field as a value -/
def fldV (k : Int) (n : Int) (B : Value) (many : Int) (most : Int) : Value := .agg #[.int .u8 k, .int .u64 n, .slice none 0 0, B, .int .u8 0, .int .u8 0, .int .u8 0, .int .u8 0, .int .u8 0, .int .u8 0, .int .u8 0, .int .u8 0, .int .u8 0, .int .u8 0, .int .u8 0, .int .u8 0, .int .u8 0, .int .u8 0, .int .u8 0, .int .u8 0, .int .u8 0, .int .u8 0, .int .u8 0, .int .u8 0, .int .u8 0, .int .u8 0, .int .u8 0, .int .u8 0, .int .u8 0, .int .u8 0, .int .u8 0, .int .u8 0, .int .u8 0, .int .u8 0, .int .u8 0, .int .u8 0, .slice none 0 0, .int .i64 many, .int .u64 most]
set_option maxRecDepth 100000 in
set_option maxHeartbeats 1000000 in
theorem kput_num (A : Option Addr) (n c : Nat) (l : List Nat) (v : Nat) (w : World) (hl : l.length = n) (hn : n ≤ 2000) (ha : At w A (nats .u8 l)) (hv : v < 18446744073709551616) :
    Calls Tryd.prog 20 #[.slice A n c, fldV 0 v (.slice none 0 0) 0 0] w (SlO w (l ++ VM.enc v)) := by
  have HA := Lib.hid ha
  have HV := Lib.hid hv
  have HL := Lib.hid hl
  clear ha hv hl
  unfold fldV
  go_enter Tryd.func20, Tryd.ntmps20
  go_upto_region 3 with fail
  go_wp2_with fail
  refine (oref_any A n c l v _ HL.out hn (HA.out.later ((Below.refl _ _).alloc (Nat.le_refl _) _) (Nat.le_refl _)) HV.out).mono ?_
  rintro e w1 ⟨A1, c1, rfl, o1, b1⟩
  have O1 := Lib.hid o1
  have B1 := Lib.hid b1
  clear o1 b1
  go_wp2_with fail
  go_ret
  have b0 := (Below.refl w.heap.size w).alloc (Nat.le_refl _) (.cells #[.int .u8 (0 : Nat), .int .u64 v, .slice none 0 0, .slice none 0 0, .int .u8 0, .int .u8 0, .int .u8 0, .int .u8 0, .int .u8 0, .int .u8 0, .int .u8 0, .int .u8 0, .int .u8 0, .int .u8 0, .int .u8 0, .int .u8 0, .int .u8 0, .int .u8 0, .int .u8 0, .int .u8 0, .int .u8 0, .int .u8 0, .int .u8 0, .int .u8 0, .int .u8 0, .int .u8 0, .int .u8 0, .int .u8 0, .int .u8 0, .int .u8 0, .int .u8 0, .int .u8 0, .int .u8 0, .int .u8 0, .int .u8 0, .int .u8 0, .slice none 0 0, .int .i64 0, .int .u64 0] 62)
  refine ⟨A1, c1, by simp, O1.out.base_ (by simp), ?_⟩
  have := B1.out
  exact Below.trans ((Below.refl w.heap.size w).alloc (Nat.le_refl _) _) (this.mono (by simp))
set_option maxRecDepth 100000 in
set_option maxHeartbeats 2000000 in
theorem kput_bytes (A : Option Addr) (n c : Nat) (l : List Nat) (A2 : Option Addr) (m c2 : Nat) (r : List Nat) (w : World) (hl : l.length = n) (hn : n ≤ 2000) (ha : At w A (nats .u8 l)) (hr : r.length = m) (hm : m ≤ 10000) (ha2 : At w A2 (nats .u8 r)) :
    Calls Tryd.prog 20 #[.slice A n c, fldV 2 0 (.slice A2 m c2) 0 0] w (SlO w (l ++ (VM.enc m ++ r))) := by
  have HA := Lib.hid ha
  have HA2 := Lib.hid ha2
  have HL := Lib.hid hl
  have HR := Lib.hid hr
  have HS := Lib.hid (VM.size_9 (v := m) (by omega))
  have hm1 : (m : Int) % 18446744073709551616 = m := by omega
  have hm2 : IntKind.u64.wrap (m : Int) = m := by simp [IntKind.wrap, go_sem]; omega
  clear ha ha2 hl hr
  unfold fldV
  go_enter Tryd.func20, Tryd.ntmps20
  go_upto_region 12 with fail
  have HBB := Lib.hid ((Below.refl w.heap.size w).alloc (Nat.le_refl _) (.cells #[.int .u8 2, .int .u64 0, .slice none 0 0, .slice A2 m c2, .int .u8 0, .int .u8 0, .int .u8 0, .int .u8 0, .int .u8 0, .int .u8 0, .int .u8 0, .int .u8 0, .int .u8 0, .int .u8 0, .int .u8 0, .int .u8 0, .int .u8 0, .int .u8 0, .int .u8 0, .int .u8 0, .int .u8 0, .int .u8 0, .int .u8 0, .int .u8 0, .int .u8 0, .int .u8 0, .int .u8 0, .int .u8 0, .int .u8 0, .int .u8 0, .int .u8 0, .int .u8 0, .int .u8 0, .int .u8 0, .int .u8 0, .int .u8 0, .slice none 0 0, .int .i64 0, .int .u64 0] 62))
  have HK := Lib.hid (Holds.new w 62 #[.int .u8 2, .int .u64 0, .slice none 0 0, .slice A2 m c2, .int .u8 0, .int .u8 0, .int .u8 0, .int .u8 0, .int .u8 0, .int .u8 0, .int .u8 0, .int .u8 0, .int .u8 0, .int .u8 0, .int .u8 0, .int .u8 0, .int .u8 0, .int .u8 0, .int .u8 0, .int .u8 0, .int .u8 0, .int .u8 0, .int .u8 0, .int .u8 0, .int .u8 0, .int .u8 0, .int .u8 0, .int .u8 0, .int .u8 0, .int .u8 0, .int .u8 0, .int .u8 0, .int .u8 0, .int .u8 0, .int .u8 0, .int .u8 0, .slice none 0 0, .int .i64 0, .int .u64 0] w.heap.size rfl)
  obtain ⟨k, hk⟩ : ∃ k, (l ++ VM.enc m).length = k := ⟨_, rfl⟩
  have hk9 : k ≤ n + 9 := by rw [← hk, List.length_append, HL.out, VM.enc_length]; have := HS.out; omega
  have hkm : ((l ++ (VM.enc m ++ r)).length) = k + m := by rw [← List.append_assoc, List.length_append, hk, HR.out]
  have HKL := Lib.hid hk
  have HKM := Lib.hid hkm
  clear hk hkm
  go_region_law (first
    | ((refine step_app rfl elt_u8 w.heap.size (.tmp 46) (.tmp 48) rfl _ rfl O1.out (nats .u8 r) rfl T1.out (by rw [nats_length, HR.out, Nat.mul_one]) (nats_one _ _) (by unfold maxLen; omega) (by omega) hle ?_); intro A3 c3 w3 own3 g3 _; have O3 := Lib.hid own3; have B3 := Lib.hid (B1.out.grown g3 hle (fun k hk => (O1.out.lt k hk).1)); clear own3 g3)
    | (go_simp; go_at_call 35; go_loud (have CC := oref_any A n c l m _ HL.out hn (HA.out.later HBB.out.drew (Nat.le_refl _)) (by omega)); go_loud (with_reducible refine CC.mono ?_); clear CC; rintro e w1 ⟨A1, c1, he, o1, b1⟩; go_loud (rw [HKL.out] at he o1; subst he); go_loud (have T1 := Lib.hid (HA2.out.later (HBB.out.drew.trans (b1.mono (by simp))) (Nat.le_refl _))); go_loud (have B1 := Lib.hid (HBB.out.drew.trans (b1.mono (by simp)))); have hle : w.heap.size ≤ w1.heap.size := B1.out.size; go_loud (have p3 := (HK.out.drew.later b1 (Nat.le_refl _)).cell 3; simp at p3); go_loud (have O1 := Lib.hid (o1.base_ (B' := w.heap.size) (by simp))); clear o1 b1))
  all_goals
    go_wp2_with fail
    go_ret
    exact ⟨A3, c3, by rw [HKM.out]; rfl, by rw [HKM.out]; have := O3.out; rw [← nats_append, List.append_assoc] at this; exact this, B3.out⟩
end Go.Proofs.YtlimabhojocimaaDoor
