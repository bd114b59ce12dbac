/- Layer 11: the walks of package varint: Size, Put. Layer 11: the walk of varint.Get. -/
import Derived.Test.YtodimanghmepoaaDoorProg
import Derived.Test.YtodimanghmepoaaDoorHolds
import Derived.Test.YtodimanghmepoaaDoorLvA
import Derived.Test.YtodimanghmepoaaDoorApp
import Derived.Test.YtodimanghmepoaaDoorLen64
import Derived.Deep.QuietTactic
import Derived.BigQuiet
import Derived.Outline
import Derived.OwnWalk
import Derived.WalkSpells
import Derived.Laws.Bits64b
import Derived.Laws.BitsAllLaws
namespace Go.Proofs.YtodimanghmepoaaDoor
open Go.RowKit
set_option maxRecDepth 100000 in
theorem elt_u8 : Elt Tryd.prog 22 5 (.int .u8 0) 1 1 where
  ht := by kernel_rfl
  hi := ⟨_, rfl, by kernel_rfl, by kernel_rfl, by kernel_rfl⟩
  hzs := rfl
  hsz := by decide
theorem wpList_mk {P : Program} {w : World} {ops : Array Oper} {rest : List Oper} {o : Oper} {a : Act} {Q : Exit → Act → World → Prop} {t e : TypeId} {z : Value} {size bytes : Nat} (E : Elt P t e z size bytes)
    (hg : o.guard = none) (base : Nat) (l c : Operand) (hop : o.op = Op.makeSlice t l c) (kl kc : IntKind) (C : Int) (n : Nat) (hl : a.eval l = .int kl 0) (hc : a.eval c = .int kc C) (hC : C = (n : Int)) (b2 : bytes * n ≤ 281474976710656) (b3 : n ≤ maxLen) (b4 : base ≤ w.heap.size)
    (hK : ∀ w', Own w' base e size (some ⟨w.heap.size, 0, none⟩) 0 n [] → w.grownBy w' none → wpList P ops Q rest (a.put o.dst (.slice (some ⟨w.heap.size, 0, none⟩) 0 n)) w') :
    wpList P ops Q (o :: rest) a w := by
  obtain ⟨i, hi, hz, hs, hb⟩ := E.hi
  exact wpList_make_own w hg l c t hop base e i z size E.ht hi hz hs kl kc C n hl hc hC (by rw [hb]; exact b2) b3 b4 hK
theorem At.grownNone {w w' : World} {A : Option Addr} {xs : List Value} (h : At w A xs) (hg : w.grownBy w' none) : At w' A xs := by
  refine h.grown hg ?_
  cases blk A with
  | none => exact .inl rfl
  | some k => exact .inr (by simp)
theorem val_eq {w : World} {v : Value} (v' : Value) (h : v = v') {f : FuncId} {args : Array Value} {Q : Program} (hc : Calls Q f args w fun e w' => e = .returned v ∧ w = w') : Calls Q f args w fun e w' => e = .returned v' ∧ w = w' := by
  subst h; exact hc
/-- a slice of bytes that a call made -/
def SlN (w : World) (l : List Nat) (e : Ending) (w' : World) : Prop :=
  ∃ A c, e = .returned (.slice A l.length c) ∧ At w' A (nats .u8 l) ∧ Below w.heap.size w w' ∧ l.length ≤ c ∧ c ≤ maxLen
set_option maxRecDepth 100000 in
theorem vsize_any (v : Nat) (w : World) (hv : v < 18446744073709551616) :
    Calls Tryd.prog 72 #[.int .u64 v] w fun e w' => e = .returned (.int .i64 (VM.size v : Nat)) ∧ w = w' := by
  by_cases hs : v < 248
  · rw [show VM.size v = 1 by unfold VM.size; rw [if_pos hs]]
    go_enter Tryd.func72, Tryd.ntmps72
    go_wp2
    go_ret
    exact ⟨rfl, rfl⟩
  · have hb := VM.vlen_bits v hv
    have h9 := VM.vlen_8 hv
    rw [show VM.size v = 1 + VM.vlen v by unfold VM.size; rw [if_neg hs]]
    have hL := len64_lib v w (by omega) (by omega)
    rw [Int.toNat_natCast] at hL
    rw [← hb]
    rw [← hb] at h9
    generalize Lib.bitLen v = b at *
    have HL := Lib.hid hL
    clear hL hb
    go_enter Tryd.func72, Tryd.ntmps72
    go_wp2_with (go_at_call 73; refine HL.out.mono ?_; rintro e w' ⟨rfl, rfl⟩)
    go_ret
    exact ⟨ret_int (by omega), rfl⟩
theorem sln_of {w w' : World} {B : Nat} {A : Option Addr} {n c : Nat} {l : List Nat} {xs : List Value} (hB : w.heap.size = B) (ho : Own w' B 5 1 A n c xs) (hx : xs = nats .u8 l) (hn : l.length = n) (hb : Below B w w') : SlN w l (.returned (.slice A n c)) w' := by
  subst hB; subst hx; subst hn
  exact ⟨A, c, rfl, ho.at_, hb, ho.cap.1, ho.cap.2⟩
theorem be_step (v k j : Nat) (h : j ≤ k) : VM.be (k + 1 - j) (v / 256 ^ j) = VM.be (k + 1 - (j + 1)) (v / 256 ^ (j + 1)) ++ [v / 256 ^ j % 256] := by
  rw [show k + 1 - j = (k + 1 - (j + 1)) + 1 by omega, VM.be, Nat.div_div_eq_div_mul, ← Nat.pow_succ]
theorem byte_of (v j : Nat) : (v : Int) / 2 ^ (8 * j) % 256 = ((v : Int) / 256 ^ j % 256) := by
  rw [Int.pow_mul]; rfl
section
variable (A : Option Addr) (n c : Nat) (l : List Nat)
set_option maxRecDepth 100000 in
set_option maxHeartbeats 1000000 in
theorem vput_small (v : Nat) (w : World) (hl : l.length = n) (hn : n ≤ 2000) (ha : At w A (nats .u8 l)) (hs : v < 248) :
    Calls Tryd.prog 68 #[.slice A n c, .int .u64 v] w (SlN w (l ++ VM.enc v)) := by
  obtain ⟨B, hB⟩ : ∃ B, w.heap.size = B := ⟨_, rfl⟩
  rw [VM.enc_small hs]
  have C := val_eq (.int .i64 1) (by rw [show VM.size v = 1 by unfold VM.size; rw [if_pos hs]]; rfl) (vsize_any v w (by omega))
  have HS := Lib.hid C
  have A1 := Lib.hid ha
  have HL := Lib.hid hl
  have HBB := Lib.hid hB
  clear C ha hl hB
  go_enter Tryd.func68, Tryd.ntmps68
  go_wp2_with fail
  refine HS.out.mono ?_
  rintro e w' ⟨rfl, rfl⟩
  go_wp2_with (first
    | (at_make; refine wpList_mk elt_u8 rfl B _ (.tmp 13) rfl .i64 .i64 _ (n + 1) rfl rfl (by omega) (by omega) (by unfold maxLen; omega) (Nat.le_of_eq HBB.out.symm) ?_; intro w1 own1 g1; have B1 := Lib.hid ((Below.refl B w).grown g1 (Nat.le_of_eq HBB.out.symm) (fun k hk => by cases hk)); replace A1 := Lib.hid (A1.out.grownNone g1); have O1 := Lib.hid own1; clear own1 g1)
    | (at_builtin; refine wpList_app rfl elt_u8 B (.tmp 15) (.tmp 16) rfl _ rfl O1.out (nats .u8 l) rfl A1.out (by rw [nats_length, HL.out, Nat.mul_one]) (nats_one _ _) (by unfold maxLen; omega) (by omega) (by have := B1.out.size; have := HBB.out; omega) ?_; intro A2 c2 w2 own2 g2 _; simp only [Nat.zero_add, List.nil_append] at own2; have B2 := Lib.hid (B1.out.grown g2 (by have := B1.out.size; have := HBB.out; omega) (fun k hk => (O1.out.lt k hk).1)); have O2 := Lib.hid own2; clear own2 g2 O1)
    | (at_builtin; refine wpList_app rfl elt_u8 B (.tmp 20) (.tmp 23) rfl _ rfl (O2.out.alloc _) _ rfl (At.lit _ _ _ _ _ rfl) rfl (by intro u hu; simp at hu; subst hu; rfl) (by unfold maxLen; omega) (by omega) (by have := B2.out.size; have := HBB.out; simp; omega) ?_; intro A3 c3 w3 own3 g3 _; have B3 := Lib.hid ((B2.out.alloc (by have := B2.out.size; have := HBB.out; omega) _).grown g3 (by have := B2.out.size; have := HBB.out; simp; omega) (fun k hk => (O2.out.lt k hk).1)); have O3 := Lib.hid own3; clear own3 g3 O2))
  go_ret
  exact sln_of HBB.out O3.out (by simp [nats]) (by simp [HL.out]) B3.out
set_option maxRecDepth 100000 in
set_option maxHeartbeats 4000000 in
theorem vput_big (v : Nat) (w : World) (hl : l.length = n) (hn : n ≤ 2000) (ha : At w A (nats .u8 l)) (hs : ¬ v < 248) (hv : v < 18446744073709551616) :
    Calls Tryd.prog 68 #[.slice A n c, .int .u64 v] w (SlN w (l ++ VM.enc v)) := by
  obtain ⟨B, hB⟩ : ∃ B, w.heap.size = B := ⟨_, rfl⟩
  have hp := VM.vlen_p (v := v) (by omega)
  have h8 := VM.vlen_8 hv
  obtain ⟨k, hk⟩ : ∃ k, VM.vlen v = k + 1 := ⟨VM.vlen v - 1, by omega⟩
  rw [VM.enc_big hs, hk]
  have C := val_eq (.int .i64 (k + 2 : Int)) (by rw [show VM.size v = k + 2 by unfold VM.size; rw [if_neg hs, hk]; omega]; rfl) (vsize_any v w hv)
  have hd : ((k : Int) + 2 == 1) = false := by simp; omega
  have HS := Lib.hid C
  have A1 := Lib.hid ha
  have HL := Lib.hid hl
  have HBB := Lib.hid hB
  have HSS := Lib.hid hs
  clear C ha hl hB hs
  rw [hk] at h8
  clear hk hp
  go_enter Tryd.func68, Tryd.ntmps68
  go_wp2_with fail
  refine HS.out.mono ?_
  rintro e w' ⟨rfl, rfl⟩
  go_wp2_with (first
    | (at_make; refine wpList_mk elt_u8 rfl B _ (.tmp 13) rfl .i64 .i64 _ (n + (k + 2)) rfl rfl (by omega) (by omega) (by unfold maxLen; omega) (Nat.le_of_eq HBB.out.symm) ?_; intro w1 own1 g1; have B1 := Lib.hid ((Below.refl B w).grown g1 (Nat.le_of_eq HBB.out.symm) (fun k hk => by cases hk)); replace A1 := Lib.hid (A1.out.grownNone g1); have O1 := Lib.hid own1; clear own1 g1)
    | (at_builtin; refine wpList_app rfl elt_u8 B (.tmp 15) (.tmp 16) rfl _ rfl O1.out (nats .u8 l) rfl A1.out (by rw [nats_length, HL.out, Nat.mul_one]) (nats_one _ _) (by unfold maxLen; omega) (by omega) (by have := B1.out.size; have := HBB.out; omega) ?_; intro A2 c2 w2 own2 g2 _; simp only [Nat.zero_add, List.nil_append] at own2; have B2 := Lib.hid (B1.out.grown g2 (by have := B1.out.size; have := HBB.out; omega) (fun k hk => (O1.out.lt k hk).1)); have O2 := Lib.hid own2; clear own2 g2 O1)
    | (at_builtin; refine wpList_app rfl elt_u8 B (.tmp 25) (.tmp 30) rfl _ rfl (O2.out.alloc _) _ rfl (At.lit _ _ _ _ _ rfl) rfl (by intro u hu; simp at hu; subst hu; rfl) (by unfold maxLen; omega) (by omega) (by have := B2.out.size; have := HBB.out; simp; omega) ?_; intro A3 c3 w3 own3 g3 _; have B3 := Lib.hid ((B2.out.alloc (by have := B2.out.size; have := HBB.out; omega) _).grown g3 (by have := B2.out.size; have := HBB.out; simp; omega) (fun k hk => (O2.out.lt k hk).1)); have O3 := Lib.hid own3; clear own3 g3 O2))
  have HK := Lib.hid h8
  clear hd HS A1
  go_loopw [6, 7] (fun s i wr => ∃ (j : Nat) (z : Int) (A : Option Addr) (c : Nat), j ≤ k + 1 ∧ z = (j : Int) - 1 ∧ i = .int .i64 z ∧ s = .slice A (n + 1 + (k + 1 - j)) c ∧ Own wr B 5 1 A (n + 1 + (k + 1 - j)) c (nats .u8 (l ++ (247 + (k + 1)) :: VM.be (k + 1 - j) (v / 256 ^ j))) ∧ Below B w wr) (fun _ i _ => (intOf i + 1).toNat)
  case atStart => exact ⟨k + 1, k, A3, c3, by omega, by omega, rfl, by rw [Nat.sub_self, Nat.add_zero], by rw [Nat.sub_self, Nat.add_zero]; simpa [nats, VM.be, show (247 : Int) + (k + 2) - 1 = 247 + (k + 1) by omega] using O3.out, B3.out⟩
  case round =>
    obtain ⟨j, z, A, c, hj, hi, rfl, rfl, hown, hbel⟩ := hrel
    have O0 := Lib.hid hown
    have B0 := Lib.hid hbel
    clear hown hbel O3 B3 B2 B1
    rcases j with _ | j
    · obtain rfl : z = -1 := by omega
      clear hi
      go_wp2
      go_ret
      exact sln_of HBB.out O0.out (by simp) (by simp [VM.be_length, HL.out]; omega) B0.out
    · obtain rfl : z = j := by omega
      clear hi
      go_wp2_with (first
        | (at_builtin; refine wpList_app rfl elt_u8 B (.tmp 38) (.tmp 44) rfl _ rfl (O0.out.alloc _) _ rfl (At.lit _ _ _ _ _ rfl) rfl (by intro u hu; simp at hu; subst hu; rfl) (by unfold maxLen; omega) (by omega) (by have := B0.out.size; have := HBB.out; simp; omega) ?_; intro A4 c4 w4 own4 g4 _; have B4 := Lib.hid ((B0.out.alloc (by have := B0.out.size; have := HBB.out; omega) _).grown g4 (by have := B0.out.size; have := HBB.out; simp; omega) (fun k hk => (O0.out.lt k hk).1)); have O4 := Lib.hid own4; clear own4 g4 O0))

      have eb := be_step v k j (by omega)
      have e1 : n + 1 + (k + 1 - (j + 1)) + 1 = n + 1 + (k + 1 - j) := by omega
      refine ⟨⟨j, (j : Int) - 1, A4, c4, by omega, rfl, rfl, by rw [← e1, Nat.add_sub_add_right], ?_, B4.out⟩, by simp only [intOf]; omega⟩
      have o := O4.out
      rw [e1] at o
      rw [eb]
      simpa [nats, byte_of] using o
end
end Go.Proofs.YtodimanghmepoaaDoor
namespace Go.Proofs.YtodimanghmepoaaDoor
open Go.RowKit
theorem getD_of_all {l : List Nat} {m : Nat} (h : ∀ x ∈ l, x < m + 1) (i : Nat) : l.getD i 0 < m + 1 := by
  by_cases hi : i < l.length
  · rw [getD_lt hi]; exact h _ (List.getElem_mem _)
  · rw [List.getD_eq_getElem?_getD, List.getElem?_eq_none (by omega)]; simp
theorem ret_mid {k : IntKind} {a b : Int} {x y : Value} (h : a = b) : Ending.returned (.tuple #[x, .int k a, y]) = .returned (.tuple #[x, .int k b, y]) := by rw [h]
/-- what Get tells of bytes -/
def vgot (l : List Nat) : Value := match VM.dec l with
  | some (v, k) => .tuple #[.int .u64 (v : Nat), .int .i64 (k : Nat), .nilIface]
  | none => .tuple #[.int .u64 0, .int .i64 0, .iface 70 (.int .i64 3)]
theorem vgot_some {l : List Nat} {v k : Nat} (h : VM.dec l = some (v, k)) : vgot l = .tuple #[.int .u64 (v : Nat), .int .i64 (k : Nat), .nilIface] := by unfold vgot; rw [h]
theorem vgot_none {l : List Nat} (h : VM.dec l = none) : vgot l = .tuple #[.int .u64 0, .int .i64 0, .iface 70 (.int .i64 3)] := by unfold vgot; rw [h]
set_option maxRecDepth 100000 in
theorem or_byte (u y : Nat) (hu : u < 72057594037927936) (hy : y < 256) : bits .or .u64 ((u : Int) * 256) (y : Int) = ((256 * u + y : Nat) : Int) := by
  have h := u64_or_nat (u * 256) y (by omega) (by omega)
  have e : u * 256 ||| y = 256 * u + y := by
    have := Nat.shiftLeft_add_eq_or_of_lt (show y < 2 ^ 8 by omega) u
    rw [Nat.shiftLeft_eq] at this
    have e8 : (2 : Nat) ^ 8 = 256 := by decide
    rw [e8] at this
    rw [← this, Nat.mul_comm]
  rw [e] at h
  rw [← h, Int.natCast_mul]; rfl
theorem val_small {l : List Nat} {k : Nat} (h : ∀ x ∈ l, x < 256) (hk : k ≤ 7) : VM.val (l.take k) < 72057594037927936 := by
  have h1 := VM.val_lt (l.take k) fun x hx => h x (List.mem_of_mem_take hx)
  have h2 : (l.take k).length ≤ 7 := Nat.le_trans (List.length_take_le _ _) hk
  exact Nat.lt_of_lt_of_le h1 (Nat.le_trans (VM.pow_le_of h2) (by decide))
theorem val_big {l : List Nat} {k : Nat} (h : ∀ x ∈ l, x < 256) (hk : k ≤ 8) : VM.val (l.take k) < 18446744073709551616 := by
  have h1 := VM.val_lt (l.take k) fun x hx => h x (List.mem_of_mem_take hx)
  have h2 : (l.take k).length ≤ 8 := Nat.le_trans (List.length_take_le _ _) hk
  exact Nat.lt_of_lt_of_le h1 (Nat.le_trans (VM.pow_le_of h2) (by decide))
theorem take_succ_val {l : List Nat} {k : Nat} (h : k < l.length) : VM.val (l.take (k + 1)) = 256 * VM.val (l.take k) + l.getD k 0 := by
  rw [take_snoc h, VM.val_snoc]
set_option maxRecDepth 100000 in
theorem vget_nil (A : Option Addr) (c : Nat) (w : World) :
    Calls Tryd.prog 69 #[.slice A 0 c] w fun e w' => e = .returned (vgot []) ∧ w = w' := by
  rw [vgot_none rfl]
  go_enter Tryd.func69, Tryd.ntmps69
  go_wp2
  go_ret3
  exact ⟨rfl, rfl⟩
set_option maxRecDepth 100000 in
theorem vget_small (b o n c x : Nat) (r : List Nat) (w : World) (hl : r.length + 1 = n) (hn : n ≤ 9223372036854775807) (ha : At w (some ⟨b, o, none⟩) (nats .u8 (x :: r))) (hx : x < 248) :
    Calls Tryd.prog 69 #[.slice (some ⟨b, o, none⟩) n c] w fun e w' => e = .returned (vgot (x :: r)) ∧ w = w' := by
  rw [vgot_some (v := x) (k := 1) (by simp [VM.dec, hx])]
  obtain ⟨b', o', e, hc⟩ := ha.nat 0 (by simp)
  injection e with e; injection e with e1 e2 e3; subst e1; subst e2
  rw [Nat.add_zero, List.getD_cons_zero] at hc
  have h0 : ((n : Int) == 0) = false := by simp; omega
  have hn0 : 0 < n := by omega
  clear ha hl
  go_enter Tryd.func69, Tryd.ntmps69
  go_wp2
  go_ret3
  exact ⟨rfl, rfl⟩
set_option maxRecDepth 100000 in
set_option maxHeartbeats 1000000 in
theorem vget_big (b o n c m : Nat) (r : List Nat) (w : World) (hl : r.length + 1 = n) (hn : n ≤ 9223372036854775807) (hnc : n ≤ c) (hc63 : c ≤ 9223372036854775807) (ha : At w (some ⟨b, o, none⟩) (nats .u8 ((247 + m) :: r))) (hr : ∀ y ∈ r, y < 256) (hm : 1 ≤ m) (hm8 : m ≤ 8) :
    Calls Tryd.prog 69 #[.slice (some ⟨b, o, none⟩) n c] w fun e w' => e = .returned (vgot ((247 + m) :: r)) ∧ w = w' := by
  have hc0 : w.cell? ⟨b, o, none⟩ = some (.int .u8 (247 + (m : Int))) := by
    obtain ⟨b', o', e, hc⟩ := ha.nat 0 (by simp)
    injection e with e; injection e with e1 e2 e3; subst e1; subst e2
    rw [Nat.add_zero, List.getD_cons_zero] at hc
    rw [hc]; push_cast; rfl
  have h0 : ((n : Int) == 0) = false := by simp; omega
  have hn0 : 0 < n := by omega
  have hd : ¬ 247 + m < 248 := by omega
  have hat : At w (some ⟨b, o + 1, none⟩) (nats .u8 r) := by have := ha.cut (m := 1); simpa [nats] using this
  clear ha
  by_cases h1 : n < 1 + m
  · rw [vgot_none (by simp only [VM.dec, if_neg hd]; rw [if_pos (by omega)])]
    clear hl hd hat hr
    go_enter Tryd.func69, Tryd.ntmps69
    go_wp2
    go_ret3
    exact ⟨rfl, rfl⟩
  · have hrl : m ≤ r.length := by omega
    have hc1 : w.cell? ⟨b, o + 1, none⟩ = some (.int .u8 (r.getD 0 0 : Nat)) := by
      obtain ⟨b', o', e, hc⟩ := hat.nat 0 (by omega)
      injection e with e; injection e with e1 e2 e3; subst e1; subst e2
      exact hc
    by_cases h2 : r.getD 0 0 = 0
    · rw [vgot_none (by simp only [VM.dec, if_neg hd]; rw [if_neg (by omega), if_pos h2])]
      rw [h2] at hc1
      clear hl hd hat hr h2
      go_enter Tryd.func69, Tryd.ntmps69
      go_wp2
      go_ret3
      exact ⟨rfl, rfl⟩
    · have hv : vgot ((247 + m) :: r) = if VM.val (r.take m) < 248 then .tuple #[.int .u64 0, .int .i64 0, .iface 70 (.int .i64 3)] else .tuple #[.int .u64 (VM.val (r.take m) : Nat), .int .i64 (m + 1 : Nat), .nilIface] := by
        unfold vgot
        simp only [VM.dec, if_neg hd]
        rw [if_neg (by omega), if_neg h2, show 247 + m - 247 = m by omega, show 247 + m - 246 = m + 1 by omega]
        split
        · rename_i v k e; split at e
          · cases e
          · rename_i h3; injection e with e; injection e with e1 e2; subst e1; subst e2; rw [if_neg h3]
        · rename_i e; split at e
          · rename_i h3; rw [if_pos h3]
          · cases e
      obtain ⟨res, hres⟩ : ∃ res, vgot ((247 + m) :: r) = res := ⟨_, rfl⟩
      rw [hres]
      rw [hres] at hv
      have HRES := Lib.hid hv
      have hz : (((r.getD 0 0 : Nat) : Int) == 0) = false := by simp; simpa using h2
      generalize r.getD 0 0 = y0 at *
      have HL := Lib.hid hl
      have HT := Lib.hid hat
      have HR := Lib.hid hr
      clear hl hd hat hr h2 hv hres
      go_enter Tryd.func69, Tryd.ntmps69
      go_wp2
      go_loop [6, 42] (fun v i => ∃ k : Nat, k ≤ m ∧ i = .int .i64 k ∧ v = .int .u64 (VM.val (r.take k) : Nat)) (fun _ i => m - (intOf i).toNat)
      case atStart => exact ⟨0, by omega, rfl, rfl⟩
      case round =>
        obtain ⟨k, hk, rfl, rfl⟩ := hrel
        by_cases hlt : k < m
        · have hst := take_succ_val (l := r) (k := k) (by have := HL.out; omega)
          have hcell : w.cell? ⟨b, o + 1 + k, none⟩ = some (.int .u8 (r.getD k 0 : Nat)) := by
            obtain ⟨b', o', e, hc⟩ := HT.out.nat k (by have := HL.out; omega)
            injection e with e; injection e with e1 e2 e3; subst e1; subst e2
            exact hc
          have hy : r.getD k 0 < 256 := by
            rw [getD_lt (by have := HL.out; omega)]; exact HR.out _ (List.getElem_mem _)
          have hu := val_small (l := r) (k := k) HR.out (by omega)
          have hor := or_byte (VM.val (r.take k)) (r.getD k 0) hu hy
          have HST := Lib.hid hst
          clear hst
          generalize r.getD k 0 = y at *
          generalize hU : VM.val (r.take k) = u at *
          clear hU
          go_wp2
          exact ⟨⟨k + 1, by omega, by simp, by rw [HST.out]; push_cast; rfl⟩, by simp only [intOf]; omega⟩
        · obtain rfl : k = m := by omega
          have hb := val_big (l := r) (k := k) HR.out hm8
          by_cases h3 : VM.val (r.take k) < 248
          · have HE := Lib.hid (HRES.out.trans (if_pos h3))
            generalize VM.val (r.take k) = u at *
            go_wp2
            go_ret3
            exact ⟨by rw [HE.out]; rfl, rfl⟩
          · have HE := Lib.hid (HRES.out.trans (if_neg h3))
            generalize VM.val (r.take k) = u at *
            go_wp2
            go_ret3
            exact ⟨by rw [HE.out]; exact ret_mid (by omega), rfl⟩
theorem vget_any (A : Option Addr) (n c : Nat) (l : List Nat) (w : World) (hl : l.length = n) (hn : n ≤ 9223372036854775807) (hnc : n ≤ c) (hc63 : c ≤ 9223372036854775807) (ha : At w A (nats .u8 l)) (hr : ∀ y ∈ l, y < 256) :
    Calls Tryd.prog 69 #[.slice A n c] w fun e w' => e = .returned (vgot l) ∧ w = w' := by
  cases l with
  | nil => obtain rfl : n = 0 := by simpa using hl.symm
           exact vget_nil A c w
  | cons x r =>
    obtain ⟨b, o, rfl, _⟩ := ha.nat 0 (by simp)
    by_cases hx : x < 248
    · exact vget_small b o n c x r w (by simpa using hl) hn ha hx
    · have hx2 := hr x (by simp)
      obtain ⟨m, rfl⟩ : ∃ m, x = 247 + m := ⟨x - 247, by omega⟩
      exact vget_big b o n c m r w (by simpa using hl) hn hnc hc63 ha (fun y hy => hr y (by simp [hy])) (by omega) (by omega)
end Go.Proofs.YtodimanghmepoaaDoor
