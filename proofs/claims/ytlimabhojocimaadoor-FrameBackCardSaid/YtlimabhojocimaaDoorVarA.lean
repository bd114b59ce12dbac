/- Layer 11: the walks of package varint: Size, Put. -/
import Derived.Test.YtlimabhojocimaaDoorProg
import Derived.Test.YtlimabhojocimaaDoorHolds
import Derived.Test.YtlimabhojocimaaDoorVarM
import Derived.Test.YtlimabhojocimaaDoorApp
import Derived.Test.YtlimabhojocimaaDoorLen64
import Derived.Deep.QuietTactic
import Derived.BigQuiet
import Derived.Outline
import Derived.OwnWalk
import Derived.WalkSpells
namespace Go.Proofs.YtlimabhojocimaaDoor
open Go.RowKit
set_option maxRecDepth 100000 in
theorem elt_u8 : Elt Tryd.prog 22 5 (.int .u8 0) 1 1 where
  ht := by kernel_rfl
  hi := ⟨_, rfl, by kernel_rfl, by kernel_rfl, by kernel_rfl⟩
  hzs := rfl
  hsz := by decide
theorem wpList_mk {P : Program} {w : World} {ops : Array Oper} {rest : List Oper} {o : Oper} {a : Act} {Q : Exit → Act → World → Prop} {t e : TypeId} {z : Value} {size bytes : Nat} (E : Elt P t e z size bytes)
    (hg : o.guard = none) (base : Nat) (l c : Operand) (hop : o.op = Op.makeSlice t l c) (kl kc : IntKind) (C : Int) (n : Nat) (hl : a.eval l = .int kl 0) (hc : a.eval c = .int kc C) (hC : C = (n : Int)) (b2 : bytes * n ≤ 281474976710656) (b3 : n ≤ maxLen) (b4 : base ≤ w.heap.size)
    (hK : ∀ w', Own w' base e size (some ⟨w.heap.size, 0, none⟩) 0 n [] → w.grownBy w' none → wpList P ops Q rest (a.put o.dst (.slice (some ⟨w.heap.size, 0, none⟩) 0 n)) w') :
    wpList P ops Q (o :: rest) a w := by
  obtain ⟨i, hi, hz, hs, hb⟩ := E.hi
  exact wpList_make_own w hg l c t hop base e i z size E.ht hi hz hs kl kc C n hl hc hC (by rw [hb]; exact b2) b3 b4 hK
theorem At.grownNone {w w' : World} {A : Option Addr} {xs : List Value} (h : At w A xs) (hg : w.grownBy w' none) : At w' A xs := by
  refine h.grown hg ?_
  cases blk A with
  | none => exact .inl rfl
  | some k => exact .inr (by simp)
theorem val_eq {w : World} {v : Value} (v' : Value) (h : v = v') {f : FuncId} {args : Array Value} {Q : Program} (hc : Calls Q f args w fun e w' => e = .returned v ∧ w = w') : Calls Q f args w fun e w' => e = .returned v' ∧ w = w' := by
  subst h; exact hc
/-- a slice of bytes that a call made -/
def SlN (w : World) (l : List Nat) (e : Ending) (w' : World) : Prop :=
  ∃ A c, e = .returned (.slice A l.length c) ∧ At w' A (nats .u8 l) ∧ Below w.heap.size w w' ∧ l.length ≤ c ∧ c ≤ maxLen
set_option maxRecDepth 100000 in
theorem vsize_any (v : Nat) (w : World) (hv : v < 18446744073709551616) :
    Calls Tryd.prog 51 #[.int .u64 v] w fun e w' => e = .returned (.int .i64 (VM.size v : Nat)) ∧ w = w' := by
  by_cases hs : v < 248
  · rw [show VM.size v = 1 by unfold VM.size; rw [if_pos hs]]
    go_enter Tryd.func51, Tryd.ntmps51
    go_wp2
    go_ret
    exact ⟨rfl, rfl⟩
  · have hb := VM.vlen_bits v hv
    have h9 := VM.vlen_8 hv
    rw [show VM.size v = 1 + VM.vlen v by unfold VM.size; rw [if_neg hs]]
    have hL := len64_lib v w (by omega) (by omega)
    rw [Int.toNat_natCast] at hL
    rw [← hb]
    rw [← hb] at h9
    generalize Lib.bitLen v = b at *
    have HL := Lib.hid hL
    clear hL hb
    go_enter Tryd.func51, Tryd.ntmps51
    go_wp2_with (go_at_call 52; refine HL.out.mono ?_; rintro e w' ⟨rfl, rfl⟩)
    go_ret
    exact ⟨ret_int (by omega), rfl⟩
theorem sln_of {w w' : World} {B : Nat} {A : Option Addr} {n c : Nat} {l : List Nat} {xs : List Value} (hB : w.heap.size = B) (ho : Own w' B 5 1 A n c xs) (hx : xs = nats .u8 l) (hn : l.length = n) (hb : Below B w w') : SlN w l (.returned (.slice A n c)) w' := by
  subst hB; subst hx; subst hn
  exact ⟨A, c, rfl, ho.at_, hb, ho.cap.1, ho.cap.2⟩
theorem be_step (v k j : Nat) (h : j ≤ k) : VM.be (k + 1 - j) (v / 256 ^ j) = VM.be (k + 1 - (j + 1)) (v / 256 ^ (j + 1)) ++ [v / 256 ^ j % 256] := by
  rw [show k + 1 - j = (k + 1 - (j + 1)) + 1 by omega, VM.be, Nat.div_div_eq_div_mul, ← Nat.pow_succ]
theorem byte_of (v j : Nat) : (v : Int) / 2 ^ (8 * j) % 256 = ((v : Int) / 256 ^ j % 256) := by
  rw [Int.pow_mul]; rfl
section
variable (A : Option Addr) (n c : Nat) (l : List Nat)
set_option maxRecDepth 100000 in
set_option maxHeartbeats 1000000 in
theorem vput_small (v : Nat) (w : World) (hl : l.length = n) (hn : n ≤ 2000) (ha : At w A (nats .u8 l)) (hs : v < 248) :
    Calls Tryd.prog 44 #[.slice A n c, .int .u64 v] w (SlN w (l ++ VM.enc v)) := by
  obtain ⟨B, hB⟩ : ∃ B, w.heap.size = B := ⟨_, rfl⟩
  rw [VM.enc_small hs]
  have C := val_eq (.int .i64 1) (by rw [show VM.size v = 1 by unfold VM.size; rw [if_pos hs]]; rfl) (vsize_any v w (by omega))
  have HS := Lib.hid C
  have A1 := Lib.hid ha
  have HL := Lib.hid hl
  have HBB := Lib.hid hB
  clear C ha hl hB
  go_enter Tryd.func44, Tryd.ntmps44
  go_wp2_with fail
  refine HS.out.mono ?_
  rintro e w' ⟨rfl, rfl⟩
  go_wp2_with (first
    | (at_make; refine wpList_mk elt_u8 rfl B _ (.tmp 13) rfl .i64 .i64 _ (n + 1) rfl rfl (by omega) (by omega) (by unfold maxLen; omega) (Nat.le_of_eq HBB.out.symm) ?_; intro w1 own1 g1; have B1 := Lib.hid ((Below.refl B w).grown g1 (Nat.le_of_eq HBB.out.symm) (fun k hk => by cases hk)); replace A1 := Lib.hid (A1.out.grownNone g1); have O1 := Lib.hid own1; clear own1 g1)
    | (at_builtin; refine wpList_app rfl elt_u8 B (.tmp 15) (.tmp 16) rfl _ rfl O1.out (nats .u8 l) rfl A1.out (by rw [nats_length, HL.out, Nat.mul_one]) (nats_one _ _) (by unfold maxLen; omega) (by omega) (by have := B1.out.size; have := HBB.out; omega) ?_; intro A2 c2 w2 own2 g2 _; simp only [Nat.zero_add, List.nil_append] at own2; have B2 := Lib.hid (B1.out.grown g2 (by have := B1.out.size; have := HBB.out; omega) (fun k hk => (O1.out.lt k hk).1)); have O2 := Lib.hid own2; clear own2 g2 O1)
    | (at_builtin; refine wpList_app rfl elt_u8 B (.tmp 20) (.tmp 23) rfl _ rfl (O2.out.alloc _) _ rfl (At.lit _ _ _ _ _ rfl) rfl (by intro u hu; simp at hu; subst hu; rfl) (by unfold maxLen; omega) (by omega) (by have := B2.out.size; have := HBB.out; simp; omega) ?_; intro A3 c3 w3 own3 g3 _; have B3 := Lib.hid ((B2.out.alloc (by have := B2.out.size; have := HBB.out; omega) _).grown g3 (by have := B2.out.size; have := HBB.out; simp; omega) (fun k hk => (O2.out.lt k hk).1)); have O3 := Lib.hid own3; clear own3 g3 O2))
  go_ret
  exact sln_of HBB.out O3.out (by simp [nats]) (by simp [HL.out]) B3.out
set_option maxRecDepth 100000 in
set_option maxHeartbeats 4000000 in
theorem vput_big (v : Nat) (w : World) (hl : l.length = n) (hn : n ≤ 2000) (ha : At w A (nats .u8 l)) (hs : ¬ v < 248) (hv : v < 18446744073709551616) :
    Calls Tryd.prog 44 #[.slice A n c, .int .u64 v] w (SlN w (l ++ VM.enc v)) := by
  obtain ⟨B, hB⟩ : ∃ B, w.heap.size = B := ⟨_, rfl⟩
  have hp := VM.vlen_p (v := v) (by omega)
  have h8 := VM.vlen_8 hv
  obtain ⟨k, hk⟩ : ∃ k, VM.vlen v = k + 1 := ⟨VM.vlen v - 1, by omega⟩
  rw [VM.enc_big hs, hk]
  have C := val_eq (.int .i64 (k + 2 : Int)) (by rw [show VM.size v = k + 2 by unfold VM.size; rw [if_neg hs, hk]; omega]; rfl) (vsize_any v w hv)
  have hd : ((k : Int) + 2 == 1) = false := by simp; omega
  have HS := Lib.hid C
  have A1 := Lib.hid ha
  have HL := Lib.hid hl
  have HBB := Lib.hid hB
  have HSS := Lib.hid hs
  clear C ha hl hB hs
  rw [hk] at h8
  clear hk hp
  go_enter Tryd.func44, Tryd.ntmps44
  go_wp2_with fail
  refine HS.out.mono ?_
  rintro e w' ⟨rfl, rfl⟩
  go_wp2_with (first
    | (at_make; refine wpList_mk elt_u8 rfl B _ (.tmp 13) rfl .i64 .i64 _ (n + (k + 2)) rfl rfl (by omega) (by omega) (by unfold maxLen; omega) (Nat.le_of_eq HBB.out.symm) ?_; intro w1 own1 g1; have B1 := Lib.hid ((Below.refl B w).grown g1 (Nat.le_of_eq HBB.out.symm) (fun k hk => by cases hk)); replace A1 := Lib.hid (A1.out.grownNone g1); have O1 := Lib.hid own1; clear own1 g1)
    | (at_builtin; refine wpList_app rfl elt_u8 B (.tmp 15) (.tmp 16) rfl _ rfl O1.out (nats .u8 l) rfl A1.out (by rw [nats_length, HL.out, Nat.mul_one]) (nats_one _ _) (by unfold maxLen; omega) (by omega) (by have := B1.out.size; have := HBB.out; omega) ?_; intro A2 c2 w2 own2 g2 _; simp only [Nat.zero_add, List.nil_append] at own2; have B2 := Lib.hid (B1.out.grown g2 (by have := B1.out.size; have := HBB.out; omega) (fun k hk => (O1.out.lt k hk).1)); have O2 := Lib.hid own2; clear own2 g2 O1)
    | (at_builtin; refine wpList_app rfl elt_u8 B (.tmp 25) (.tmp 30) rfl _ rfl (O2.out.alloc _) _ rfl (At.lit _ _ _ _ _ rfl) rfl (by intro u hu; simp at hu; subst hu; rfl) (by unfold maxLen; omega) (by omega) (by have := B2.out.size; have := HBB.out; simp; omega) ?_; intro A3 c3 w3 own3 g3 _; have B3 := Lib.hid ((B2.out.alloc (by have := B2.out.size; have := HBB.out; omega) _).grown g3 (by have := B2.out.size; have := HBB.out; simp; omega) (fun k hk => (O2.out.lt k hk).1)); have O3 := Lib.hid own3; clear own3 g3 O2))
  have HK := Lib.hid h8
  clear hd HS A1
  go_loopw [6, 7] (fun s i wr => ∃ (j : Nat) (z : Int) (A : Option Addr) (c : Nat), j ≤ k + 1 ∧ z = (j : Int) - 1 ∧ i = .int .i64 z ∧ s = .slice A (n + 1 + (k + 1 - j)) c ∧ Own wr B 5 1 A (n + 1 + (k + 1 - j)) c (nats .u8 (l ++ (247 + (k + 1)) :: VM.be (k + 1 - j) (v / 256 ^ j))) ∧ Below B w wr) (fun _ i _ => (intOf i + 1).toNat)
  case atStart => exact ⟨k + 1, k, A3, c3, by omega, by omega, rfl, by rw [Nat.sub_self, Nat.add_zero], by rw [Nat.sub_self, Nat.add_zero]; simpa [nats, VM.be, show (247 : Int) + (k + 2) - 1 = 247 + (k + 1) by omega] using O3.out, B3.out⟩
  case round =>
    obtain ⟨j, z, A, c, hj, hi, rfl, rfl, hown, hbel⟩ := hrel
    have O0 := Lib.hid hown
    have B0 := Lib.hid hbel
    clear hown hbel O3 B3 B2 B1
    rcases j with _ | j
    · obtain rfl : z = -1 := by omega
      clear hi
      go_wp2
      go_ret
      exact sln_of HBB.out O0.out (by simp) (by simp [VM.be_length, HL.out]; omega) B0.out
    · obtain rfl : z = j := by omega
      clear hi
      go_wp2_with (first
        | (at_builtin; refine wpList_app rfl elt_u8 B (.tmp 38) (.tmp 44) rfl _ rfl (O0.out.alloc _) _ rfl (At.lit _ _ _ _ _ rfl) rfl (by intro u hu; simp at hu; subst hu; rfl) (by unfold maxLen; omega) (by omega) (by have := B0.out.size; have := HBB.out; simp; omega) ?_; intro A4 c4 w4 own4 g4 _; have B4 := Lib.hid ((B0.out.alloc (by have := B0.out.size; have := HBB.out; omega) _).grown g4 (by have := B0.out.size; have := HBB.out; simp; omega) (fun k hk => (O0.out.lt k hk).1)); have O4 := Lib.hid own4; clear own4 g4 O0))

      have eb := be_step v k j (by omega)
      have e1 : n + 1 + (k + 1 - (j + 1)) + 1 = n + 1 + (k + 1 - j) := by omega
      refine ⟨⟨j, (j : Int) - 1, A4, c4, by omega, rfl, rfl, by rw [← e1, Nat.add_sub_add_right], ?_, B4.out⟩, by simp only [intOf]; omega⟩
      have o := O4.out
      rw [e1] at o
      rw [eb]
      simpa [nats, byte_of] using o
end
end Go.Proofs.YtlimabhojocimaaDoor
