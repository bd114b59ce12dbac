/- Layer 11: the document's Put and Get. Layer 11: the document's Get. Layer 11: both Puts, and that what they hand back is their own. -/
import Derived.Test.YtodimanghmepoaaDoorLvB
import Derived.Test.YtodimanghmepoaaDoorRegionB
import Derived.RegionTactic
namespace Go.Proofs.YtodimanghmepoaaDoor
open Go.RowKit
theorem strN_self (l : List Nat) : ((strN l).toList == (strN l).toList) = true := beq_self_eq_true _
theorem strN_ne {a b : List Nat} (ha : ∀ x ∈ a, x < 256) (hb : ∀ x ∈ b, x < 256) (h : a ≠ b) : ((strN a).toList == (strN b).toList) = false := by
  rw [strN_beq (getD_of_all ha) (getD_of_all hb)]
  simpa using h
theorem nats_glue {k : IntKind} (l d : List Nat) (x : Nat) (y : Int) (h : y = x) : nats k l ++ [.int k y] ++ nats k d = nats k (l ++ x :: d) := by
  subst h; simp [nats]
theorem ne_of_far {x y : Option Nat} (h : ∀ k, x = some k → y ≠ some k) : y = none ∨ y ≠ x := by
  cases y with
  | none => exact .inl rfl
  | some k => right; intro e; exact h k e.symm rfl
section
variable (A : Option Addr) (n c : Nat) (l : List Nat)
set_option maxRecDepth 100000 in
set_option maxHeartbeats 1000000 in
theorem rput_small (v : Nat) (w : World) (hl : l.length = n) (hn : n ≤ 2000) (ha : At w A (nats .u8 l)) (hs : v < 248) :
    Calls Tryd.prog 56 #[.slice A n c, .int .u64 v] w (SlN w (l ++ VM.enc v)) := by
  obtain ⟨B, hB⟩ : ∃ B, w.heap.size = B := ⟨_, rfl⟩
  rw [VM.enc_small hs]
  have A1 := Lib.hid ha
  have HL := Lib.hid hl
  have HBB := Lib.hid hB
  have B1 := Lib.hid (show Below B w w from Below.refl _ _)
  have O1 := Lib.hid (Own.none_ w B 5 1)
  clear ha hl hB
  go_enter Tryd.func56, Tryd.ntmps56
  go_wp2_with (first
    | (at_builtin; refine wpList_app rfl elt_u8 B (.tmp 8) (.tmp 9) rfl _ rfl O1.out (nats .u8 l) rfl A1.out (by rw [nats_length, HL.out, Nat.mul_one]) (nats_one _ _) (by unfold maxLen; omega) (by omega) (by have := B1.out.size; have := HBB.out; omega) ?_; intro A2 c2 w2 own2 g2 _; simp only [Nat.zero_add, List.nil_append] at own2; have B2 := Lib.hid (B1.out.grown g2 (by have := B1.out.size; have := HBB.out; omega) (fun k hk => (O1.out.lt k hk).1)); have O2 := Lib.hid own2; clear own2 g2 O1)
    | (at_builtin; refine wpList_app rfl elt_u8 B (.tmp 13) (.tmp 16) rfl _ rfl (O2.out.alloc _) _ rfl (At.lit _ _ _ _ _ rfl) rfl (by intro u hu; simp at hu; subst hu; rfl) (by unfold maxLen; omega) (by omega) (by have := B2.out.size; have := HBB.out; simp; omega) ?_; intro A3 c3 w3 own3 g3 _; have B3 := Lib.hid ((B2.out.alloc (by have := B2.out.size; have := HBB.out; omega) _).grown g3 (by have := B2.out.size; have := HBB.out; simp; omega) (fun k hk => (O2.out.lt k hk).1)); have O3 := Lib.hid own3; clear own3 g3 O2))
  go_ret
  exact sln_of HBB.out O3.out (by simp [nats]) (by simp [HL.out]) B3.out
set_option maxRecDepth 100000 in
set_option maxHeartbeats 4000000 in
theorem rput_big (v : Nat) (w : World) (hl : l.length = n) (hn : n ≤ 2000) (ha : At w A (nats .u8 l)) (hs : ¬ v < 248) (hv : v < 18446744073709551616) :
    Calls Tryd.prog 56 #[.slice A n c, .int .u64 v] w (SlN w (l ++ VM.enc v)) := by
  obtain ⟨B, hB⟩ : ∃ B, w.heap.size = B := ⟨_, rfl⟩
  have hp := VM.vlen_p (v := v) (by omega)
  have h8 := VM.vlen_8 hv
  have hge := VM.vlen_ge v (by omega)
  have hlt := VM.vlen_lt v
  rw [VM.enc_big hs]
  generalize VM.vlen v = m at *
  have hd : decide ((v : Int) < 248) = false := by simp; omega
  have A1 := Lib.hid ha
  have HL := Lib.hid hl
  have HBB := Lib.hid hB
  have HGE := Lib.hid hge
  have HLT := Lib.hid hlt
  have B1 := Lib.hid (show Below B w w from Below.refl _ _)
  have O1 := Lib.hid (Own.none_ w B 5 1)
  clear ha hl hB hs hge hlt
  go_enter Tryd.func56, Tryd.ntmps56
  go_wp2_with (first
    | (at_builtin; refine wpList_app rfl elt_u8 B (.tmp 8) (.tmp 9) rfl _ rfl O1.out (nats .u8 l) rfl A1.out (by rw [nats_length, HL.out, Nat.mul_one]) (nats_one _ _) (by unfold maxLen; omega) (by omega) (by have := B1.out.size; have := HBB.out; omega) ?_; intro A2 c2 w2 own2 g2 _; simp only [Nat.zero_add, List.nil_append] at own2; have B2 := Lib.hid (B1.out.grown g2 (by have := B1.out.size; have := HBB.out; omega) (fun k hk => (O1.out.lt k hk).1)); have O2 := Lib.hid own2; clear own2 g2 O1))
  clear A1 hd
  have B2' := B2
  clear B1
  go_loopw [6, 7] (fun d i wr => ∃ (j : Nat) (Ad : Option Addr) (cd : Nat), j ≤ m ∧ i = .int .u64 (v / 256 ^ j : Nat) ∧ d = .slice Ad j cd ∧ Own wr B 5 1 A2 n c2 (nats .u8 l) ∧ At wr Ad (nats .u8 (VM.be j v)) ∧ (∀ k, blk A2 = some k → blk Ad ≠ some k) ∧ Below B w wr) (fun _ i _ => (intOf i).toNat)
  case atStart => exact ⟨0, none, 0, by omega, by simp, rfl, O2.out, At.nil _ _, (fun k _ e => by cases e), B2.out⟩
  case round =>
    obtain ⟨j, Ad, cd, hj, rfl, rfl, hown, had, hfar, hbel⟩ := hrel
    have FA := Lib.hid hfar
    have O0 := Lib.hid hown
    have AD := Lib.hid had
    have B0 := Lib.hid hbel
    clear hown had hbel hfar O2 B2 B2'
    by_cases hjm : j < m
    · have hu : 0 < v / 256 ^ j := by
        have h1 := VM.pow_le_of (show j ≤ m - 1 by omega)
        exact Nat.div_pos (Nat.le_trans h1 HGE.out) (Nat.pow_pos (by decide))
      have hul : v / 256 ^ j < 18446744073709551616 := Nat.lt_of_le_of_lt (Nat.div_le_self _ _) hv
      have hc := VM.be_cons j v
      have hn2 : v / 256 ^ (j + 1) = v / 256 ^ j / 256 := by rw [Nat.div_div_eq_div_mul, ← Nat.pow_succ]
      have HC := Lib.hid hc
      have HN := Lib.hid hn2
      clear hc hn2
      generalize v / 256 ^ j = u at *
      have ow := Lib.hid (Own.lit (w := wr) (base := B) (e := 5) (size := 1) #[.int .u8 ((u : Int) % 256)] 1 (by have := B0.out.size; have := HBB.out; omega) (by decide) rfl)
      have av := Lib.hid (AD.out.later ((Below.refl wr.heap.size wr).alloc (Nat.le_refl _) (.cells #[.int .u8 ((u : Int) % 256)] 5)) (Nat.le_refl _))
      have ov := Lib.hid (O0.out.alloc (.cells #[.int .u8 ((u : Int) % 256)] 5))
      have bv := Lib.hid (B0.out.alloc (by have := B0.out.size; have := HBB.out; omega) (.cells #[.int .u8 ((u : Int) % 256)] 5))
      have ltO := Lib.hid (fun k hk => (O0.out.lt k hk).2)
      go_wp2_with (at_builtin; refine wpList_app rfl elt_u8 B (.tmp 26) (.tmp 27) rfl _ rfl ow.out (nats .u8 (VM.be j v)) rfl av.out (by rw [nats_length, VM.be_length, Nat.mul_one]) (nats_one _ _) (by unfold maxLen; omega) (by omega) (by have := B0.out.size; have := HBB.out; simp; omega) ?_; intro A4 c4 w4 own4 g4 k4; have F4 := Lib.hid (show ∀ k, blk A2 = some k → blk A4 ≠ some k from fun k hk e => by have := ltO.out k hk; rcases k4 with h | h <;> (rw [e] at h; simp [blk] at h; omega)); clear k4; have B4 := Lib.hid (bv.out.grown g4 (by have := B0.out.size; have := HBB.out; simp; omega) (fun k hk => by simp [blk] at hk; have := B0.out.size; have := HBB.out; omega)); have O4 := Lib.hid own4; have O5 := Lib.hid (ov.out.kept g4 (by have hlt := ltO.out; cases hb : blk A2 with | none => exact .inl rfl | some k => exact .inr (by have := hlt k hb; simp [blk]; omega))); clear own4 g4)
      refine ⟨⟨j + 1, A4, c4, by omega, by rw [HN.out]; simp, by rw [Nat.add_comm], O5.out, ?_, F4.out, B4.out⟩, by simp only [intOf]; omega⟩
      rw [HC.out]
      have o := O4.out.at_
      simpa [nats] using o
    · obtain rfl : j = m := by omega
      have h0 : v / 256 ^ j = 0 := Nat.div_eq_of_lt HLT.out
      rw [h0]
      clear h0
      go_wp2_with (first
        | (at_builtin; refine wpList_app rfl elt_u8 B (.tmp 29) (.tmp 34) rfl _ rfl (O0.out.alloc _) _ rfl (At.lit _ _ _ _ _ rfl) rfl (by intro u hu; simp at hu; subst hu; rfl) (by unfold maxLen; omega) (by omega) (by have := B0.out.size; have := HBB.out; simp; omega) ?_; intro A5 c5 w5 own5 g5 _; have B5 := Lib.hid ((B0.out.alloc (by have := B0.out.size; have := HBB.out; omega) _).grown g5 (by have := B0.out.size; have := HBB.out; simp; omega) (fun k hk => (O0.out.lt k hk).1)); have O5 := Lib.hid own5; have A5 := Lib.hid ((AD.out.later ((Below.refl wr.heap.size wr).alloc (Nat.le_refl _) _) (Nat.le_refl _)).grown g5 (ne_of_far FA.out)); clear own5 g5 O0)
        | (at_builtin; refine wpList_app rfl elt_u8 B (.tmp 36) (.tmp 37) rfl _ rfl O5.out (nats .u8 (VM.be j v)) rfl A5.out (by rw [nats_length, VM.be_length, Nat.mul_one]) (nats_one _ _) (by unfold maxLen; omega) (by omega) (by have := B5.out.size; have := HBB.out; omega) ?_; intro A6 c6 w6 own6 g6 _; have B6 := Lib.hid (B5.out.grown g6 (by have := B5.out.size; have := HBB.out; omega) (fun k hk => (O5.out.lt k hk).1)); have O6 := Lib.hid own6; clear own6 g6 O5))
      go_ret
      exact sln_of HBB.out O6.out (nats_glue _ _ _ _ (by omega)) (by simp [VM.be_length, HL.out]; omega) B6.out
end
end Go.Proofs.YtodimanghmepoaaDoor
namespace Go.Proofs.YtodimanghmepoaaDoor
open Go.RowKit
/-- bytes, wherever they lie -/
def SlRB (L : List Nat) : Rel := fun v W => ∃ A c, v = .slice A L.length c ∧ At W A (nats .u8 L)
theorem mono_slb (L : List Nat) : Mono (SlRB L) := fun _ _ _ h hX => by obtain ⟨A, c, h1, h2⟩ := h; exact ⟨A, c, h1, h2.later hX (Nat.le_refl _)⟩
theorem rput_any (A : Option Addr) (n c : Nat) (l : List Nat) (v : Nat) (w : World) (hl : l.length = n) (hn : n ≤ 2000) (ha : At w A (nats .u8 l)) (hv : v < 18446744073709551616) :
    Calls Tryd.prog 56 #[.slice A n c, .int .u64 v] w (SlN w (l ++ VM.enc v)) := by
  by_cases hs : v < 248
  · exact rput_small A n c l v w hl hn ha hs
  · exact rput_big A n c l v w hl hn ha hs hv
theorem vput_any (A : Option Addr) (n c : Nat) (l : List Nat) (v : Nat) (w : World) (hl : l.length = n) (hn : n ≤ 2000) (ha : At w A (nats .u8 l)) (hv : v < 18446744073709551616) :
    Calls Tryd.prog 68 #[.slice A n c, .int .u64 v] w (SlN w (l ++ VM.enc v)) := by
  by_cases hs : v < 248
  · exact vput_small A n c l v w hl hn ha hs
  · exact vput_big A n c l v w hl hn ha hs hv
/-- what the document's Get tells of bytes -/
def rgot (l : List Nat) : Value := match VM.dec l with
  | some (v, k) => .tuple #[.int .u64 (v : Nat), .int .i64 (k : Nat), .int .i64 0]
  | none => .tuple #[.int .u64 0, .int .i64 0, .int .i64 3]
theorem rgot_some {l : List Nat} {v k : Nat} (h : VM.dec l = some (v, k)) : rgot l = .tuple #[.int .u64 (v : Nat), .int .i64 (k : Nat), .int .i64 0] := by unfold rgot; rw [h]
theorem rgot_none {l : List Nat} (h : VM.dec l = none) : rgot l = .tuple #[.int .u64 0, .int .i64 0, .int .i64 3] := by unfold rgot; rw [h]
set_option maxRecDepth 100000 in
theorem rget_nil (A : Option Addr) (c : Nat) (w : World) :
    Calls Tryd.prog 71 #[.slice A 0 c] w fun e w' => e = .returned (rgot []) ∧ Below w.heap.size w w' := by
  rw [rgot_none rfl]
  go_enter Tryd.func71, Tryd.ntmps71
  go_wp2
  go_ret3
  exact ⟨rfl, Below.refl _ _⟩
set_option maxRecDepth 100000 in
set_option maxHeartbeats 2000000 in
theorem rget_small (b o n c x : Nat) (r : List Nat) (w : World) (hl : r.length + 1 = n) (hn : n ≤ 9223372036854775807) (hnc : n ≤ c) (hc63 : c ≤ 9223372036854775807) (ha : At w (some ⟨b, o, none⟩) (nats .u8 (x :: r))) (hx : x < 248) :
    Calls Tryd.prog 71 #[.slice (some ⟨b, o, none⟩) n c] w fun e w' => e = .returned (rgot (x :: r)) ∧ Below w.heap.size w w' := by
  rw [rgot_some (v := x) (k := 1) (by simp [VM.dec, hx])]
  obtain ⟨b', o', e, hc⟩ := ha.nat 0 (by simp)
  injection e with e; injection e with e1 e2 e3; subst e1; subst e2
  rw [Nat.add_zero, List.getD_cons_zero] at hc
  have h0 : ((n : Int) == 0) = false := by simp; omega
  have hn0 : 0 < n := by omega
  have hci : (1 : Int) ≤ (c : Int) := by omega
  have HV := Lib.hid (show x < 18446744073709551616 by omega)
  have HTK := Lib.hid (show At w (some ⟨b, o, none⟩) (nats .u8 [x]) from by have := ha.take (m := 1); simpa [nats] using this)
  have HLT := Lib.hid (show [x].length = 1 from rfl)
  have HEQ := Lib.hid (show ((strN (VM.enc x)).toList == (strN [x]).toList) = true by rw [VM.enc_small hx]; exact strN_self _)
  clear ha hl
  go_enter Tryd.func71, Tryd.ntmps71
  go_wp2_with fail
  refine wp_region_below [is ?c0, SlRB (VM.enc x), is ?c2, is ?c3, is ?c4, is ?c5, is ?c6, is ?c7]
    [⟨[], [5], none⟩, ⟨[(41, 0)], [], none⟩, ⟨[(42, 1)], [], none⟩, ⟨[], [0], none⟩, ⟨[], [6], none⟩, ⟨[(44, 3), (45, 4)], [], none⟩, ⟨[(46, 5)], [], none⟩, ⟨[(43, 2), (47, 6)], [], none⟩] (by kernel_rfl) (by kernel_rfl) (by kernel_rfl) (by kernel_rfl) (by kernel_rfl) ?monoc ?stepsc ?finc
  case monoc => exact ⟨mono_eq _, mono_slb _, mono_eq _, mono_eq _, mono_eq _, mono_eq _, mono_eq _, mono_eq _, trivial⟩
  case stepsc =>
    refine ⟨fun ρ W ⟨hcst, hglb, hfun⟩ hX hp ho => ?_, ?_⟩ -- 0: slot 41 := Op.move t5
    · obtain ⟨o5, -⟩ := ho
      change ρ (.tmp 5) = _ at o5
      refine turn_plain (ok_is ?_ rfl)
      simp only [execOp, o5]; go_simp; try exact rfl
    refine ⟨fun ρ W ⟨hcst, hglb, hfun⟩ hX hp ho => ?_, ?_⟩ -- 1: slot 42 := Op.call { value (Operand.func 34), args := #[const (Value.slice none 0 0), t41], argTypes 
    · obtain ⟨p41, -⟩ := hp
      change ρ (.tmp 41) = _ at p41
      have hW := (Below.refl _ _).drew.trans hX
      refine turn_plain ?_
      have ce := @enter_of Tryd.prog 56 _ Tryd.func56 (by kernel_rfl) (by kernel_rfl)
      refine ok_call (op_call2 hfun ce (by exact rfl) (hcst _) p41) ?_
      refine (rput_any none 0 0 [] x W rfl (by omega) (At.nil _ _) HV.out).mono ?_
      rintro e W' ⟨A', c', rfl, hat, bel, -, -⟩
      exact ⟨_, rfl, bel, ⟨A', c', rfl, hat⟩⟩
    refine ⟨fun ρ W ⟨hcst, hglb, hfun⟩ hX hp ho => ?_, ?_⟩ -- 2: slot 43 := Op.convert 36 9 t42
    · obtain ⟨p42, -⟩ := hp
      obtain ⟨A42, c42, p42, hat42⟩ := p42
      change ρ (.tmp 42) = _ at p42
      have hW := (Below.refl _ _).drew.trans hX
      refine turn_plain ?_
      refine ok_is (by simp only [execOp, p42]; rw [Sem.run_bind, run_str W elt_u8.ht (by kernel_rfl) (by kernel_rfl) rfl hat42]; rfl) rfl
    refine ⟨fun ρ W ⟨hcst, hglb, hfun⟩ hX hp ho => ?_, ?_⟩ -- 3: slot 44 := Op.move t0
    · obtain ⟨o0, -⟩ := ho
      change ρ (.tmp 0) = _ at o0
      refine turn_plain (ok_is ?_ rfl)
      simp only [execOp, o0]; go_simp; try exact rfl
    refine ⟨fun ρ W ⟨hcst, hglb, hfun⟩ hX hp ho => ?_, ?_⟩ -- 4: slot 45 := Op.move t6
    · obtain ⟨o6, -⟩ := ho
      change ρ (.tmp 6) = _ at o6
      refine turn_plain (ok_is ?_ rfl)
      simp only [execOp, o6]; go_simp; try exact rfl
    refine ⟨fun ρ W ⟨hcst, hglb, hfun⟩ hX hp ho => ?_, ?_⟩ -- 5: slot 46 := Op.slice 36 t44 none (some t45) none
    · obtain ⟨p44, p45, -⟩ := hp
      change ρ (.tmp 44) = _ at p44
      change ρ (.tmp 45) = _ at p45
      refine turn_plain (ok_is ?_ rfl)
      simp only [execOp, p44, p45]; go_simp; try exact rfl
    refine ⟨fun ρ W ⟨hcst, hglb, hfun⟩ hX hp ho => ?_, ?_⟩ -- 6: slot 47 := Op.convert 36 9 t46
    · obtain ⟨p46, -⟩ := hp
      change ρ (.tmp 46) = _ at p46
      have hW := (Below.refl _ _).drew.trans hX
      refine turn_plain ?_
      refine ok_is (by simp only [execOp, p46]; rw [Sem.run_bind, run_str W elt_u8.ht (by kernel_rfl) (by kernel_rfl) HLT.out (HTK.out.later hW (Nat.le_refl _))]; rfl) rfl
    refine ⟨fun ρ W ⟨hcst, hglb, hfun⟩ hX hp ho => ?_, ?_⟩ -- 7: slot 48 := Op.binOp BinOp.neq 9 t43 t47 9
    · obtain ⟨p43, p47, -⟩ := hp
      change ρ (.tmp 43) = _ at p43
      change ρ (.tmp 47) = _ at p47
      have hb := HEQ.out
      refine turn_plain (ok_is ?_ rfl)
      simp only [execOp, p43, p47]; go_simp; try exact rfl
    exact trivial
  case finc =>
    rintro v W hX ⟨f0, f1, f2, f3, f4, f5, f6, f7, -⟩
    obtain ⟨A_1, c_1, f1, hat_1⟩ := f1
    simp only [is] at f0 f2 f3 f4 f5 f6 f7
    simp only [putAll, Act.put, List.setIfInBounds_toArray, List.set_cons_succ, List.set_cons_zero, f0, f1, f2, f3, f4, f5, f6, f7]
    clear f0 f1 f2 f3 f4 f5 f6 f7
    go_wp2_with fail
    go_ret3
    exact ⟨rfl, hX⟩
set_option maxRecDepth 100000 in
set_option maxHeartbeats 4000000 in
theorem rget_big (b o n c m : Nat) (r : List Nat) (w : World) (hl : r.length + 1 = n) (hn : n ≤ 9223372036854775807) (hnc : n ≤ c) (hc63 : c ≤ 9223372036854775807) (ha : At w (some ⟨b, o, none⟩) (nats .u8 ((247 + m) :: r))) (hr : ∀ y ∈ r, y < 256) (hm : 1 ≤ m) (hm8 : m ≤ 8) :
    Calls Tryd.prog 71 #[.slice (some ⟨b, o, none⟩) n c] w fun e w' => e = .returned (rgot ((247 + m) :: r)) ∧ Below w.heap.size w w' := by
  have hc0 : w.cell? ⟨b, o, none⟩ = some (.int .u8 (247 + (m : Int))) := by
    obtain ⟨b', o', e, hc⟩ := ha.nat 0 (by simp)
    injection e with e; injection e with e1 e2 e3; subst e1; subst e2
    rw [Nat.add_zero, List.getD_cons_zero] at hc
    rw [hc]; push_cast; rfl
  have h0 : ((n : Int) == 0) = false := by simp; omega
  have hn0 : 0 < n := by omega
  have hd : ¬ 247 + m < 248 := by omega
  by_cases h1 : n < 1 + m
  · rw [rgot_none (by simp only [VM.dec, if_neg hd]; rw [if_pos (by omega)])]
    clear hl hd ha hr
    go_enter Tryd.func71, Tryd.ntmps71
    go_wp2
    go_ret3
    exact ⟨rfl, Below.refl _ _⟩
  · have hrl : m ≤ r.length := by omega
    have hb8 : ∀ y ∈ (247 + m) :: r, y < 256 := fun y hy => by
      rcases List.mem_cons.1 hy with h | h
      · omega
      · exact hr y h
    have hv : rgot ((247 + m) :: r) = if VM.enc (VM.val (r.take m)) = ((247 + m) :: r).take (m + 1) then .tuple #[.int .u64 (VM.val (r.take m) : Nat), .int .i64 (m + 1 : Nat), .int .i64 0] else .tuple #[.int .u64 0, .int .i64 0, .int .i64 3] := by
      have hri := VM.ref_iff (247 + m) r hd (by omega) hr (by omega)
      rw [show 247 + m - 247 = m by omega, show 247 + m - 246 = m + 1 by omega] at hri
      by_cases h2 : r.getD 0 0 = 0
      · rw [if_neg (by rw [hri]; intro h; exact h.1 h2), rgot_none]
        simp only [VM.dec, if_neg hd]
        rw [if_neg (by omega), if_pos h2]
      · by_cases h3 : VM.val (r.take m) < 248
        · rw [if_neg (by rw [hri]; intro h; exact h.2 h3), rgot_none]
          simp only [VM.dec, if_neg hd]
          rw [if_neg (by omega), if_neg h2, show 247 + m - 247 = m by omega, if_pos h3]
        · rw [if_pos (hri.2 ⟨h2, h3⟩)]
          exact rgot_some (by
            simp only [VM.dec, if_neg hd]
            rw [if_neg (by omega), if_neg h2, show 247 + m - 247 = m by omega, if_neg h3, show 247 + m - 246 = m + 1 by omega])
    obtain ⟨res, hres⟩ : ∃ res, rgot ((247 + m) :: r) = res := ⟨_, rfl⟩
    rw [hres]
    rw [hres] at hv
    have HRES := Lib.hid hv
    have HL := Lib.hid hl
    have HA := Lib.hid ha
    have HR := Lib.hid hr
    have HBY := Lib.hid hb8
    have HTK0 := Lib.hid (show At w (some ⟨b, o, none⟩) (nats .u8 (((247 + m) :: r).take (m + 1))) from by rw [nats_take]; exact ha.take)
    have HLT0 := Lib.hid (show (((247 + m) :: r).take (m + 1)).length = m + 1 by rw [List.length_take, List.length_cons]; omega)
    clear hl hd ha hr hv hres hb8
    go_enter Tryd.func71, Tryd.ntmps71
    go_wp2
    go_loop [5, 7] (fun v i => ∃ k : Nat, k ≤ m ∧ i = .int .i64 (k + 1 : Int) ∧ v = .int .u64 (VM.val (r.take k) : Nat)) (fun _ i => m + 1 - (intOf i).toNat)
    case atStart => exact ⟨0, by omega, rfl, rfl⟩
    case round =>
      obtain ⟨k, hk, rfl, rfl⟩ := hrel
      by_cases hlt : k < m
      · have hst := take_succ_val (l := r) (k := k) (by have := HL.out; omega)
        have hcell : w.cell? ⟨b, o + (k + 1), none⟩ = some (.int .u8 (r.getD k 0 : Nat)) := by
          obtain ⟨b', o', e, hc⟩ := HA.out.nat (k + 1) (by have := HL.out; simp; omega)
          injection e with e; injection e with e1 e2 e3; subst e1; subst e2
          exact hc
        have hy : r.getD k 0 < 256 := by
          rw [getD_lt (by have := HL.out; omega)]; exact HR.out _ (List.getElem_mem _)
        have hu := val_small (l := r) (k := k) HR.out (by omega)
        have HST := Lib.hid hst
        clear hst
        generalize r.getD k 0 = y at *
        generalize hU : VM.val (r.take k) = u at *
        clear hU
        go_wp2
        exact ⟨⟨k + 1, by omega, by simp, by rw [HST.out]; push_cast; rfl⟩, by simp only [intOf]; omega⟩
      · obtain rfl : k = m := by omega
        have hb := val_big (l := r) (k := k) HR.out hm8
        by_cases h3 : VM.enc (VM.val (r.take k)) = ((247 + k) :: r).take (k + 1)
        · have HEQ := Lib.hid (show ((strN (VM.enc (VM.val (r.take k)))).toList == (strN (((247 + k) :: r).take (k + 1))).toList) = true by rw [h3]; exact strN_self _)
          have HE := Lib.hid (HRES.out.trans (if_pos h3))
          have HV := Lib.hid hb
          have hcj : (246 : Int) ≤ 247 + (k : Int) := by omega
          have hci : 247 + (k : Int) - 246 ≤ (c : Int) := by omega
          have hti : (247 + (k : Int) - 246).toNat = k + 1 := by omega
          have HTK := Lib.hid HTK0.out
          have HLT := Lib.hid HLT0.out
          clear h3 hb
          generalize VM.val (r.take k) = u at *
          generalize ((247 + k) :: r).take (k + 1) = LT at *
          go_wp2_with fail
          refine wp_region_below [is ?d0, SlRB (VM.enc u), is ?d2, is ?d3, is ?d4, is ?d5, is ?d6, is ?d7]
            [⟨[], [5], none⟩, ⟨[(41, 0)], [], none⟩, ⟨[(42, 1)], [], none⟩, ⟨[], [0], none⟩, ⟨[], [6], none⟩, ⟨[(44, 3), (45, 4)], [], none⟩, ⟨[(46, 5)], [], none⟩, ⟨[(43, 2), (47, 6)], [], none⟩] (by kernel_rfl) (by kernel_rfl) (by kernel_rfl) (by kernel_rfl) (by kernel_rfl) ?monod ?stepsd ?find
          case monod => exact ⟨mono_eq _, mono_slb _, mono_eq _, mono_eq _, mono_eq _, mono_eq _, mono_eq _, mono_eq _, trivial⟩
          case stepsd =>
            refine ⟨fun ρ W ⟨hcst, hglb, hfun⟩ hX hp ho => ?_, ?_⟩ -- 0: slot 41 := Op.move t5
            · obtain ⟨o5, -⟩ := ho
              change ρ (.tmp 5) = _ at o5
              refine turn_plain (ok_is ?_ rfl)
              simp only [execOp, o5]; go_simp; try exact rfl
            refine ⟨fun ρ W ⟨hcst, hglb, hfun⟩ hX hp ho => ?_, ?_⟩ -- 1: slot 42 := Op.call { value (Operand.func 34), args := #[const (Value.slice none 0 0), t41], argTypes 
            · obtain ⟨p41, -⟩ := hp
              change ρ (.tmp 41) = _ at p41
              have hW := (Below.refl _ _).drew.trans hX
              refine turn_plain ?_
              have ce := @enter_of Tryd.prog 56 _ Tryd.func56 (by kernel_rfl) (by kernel_rfl)
              refine ok_call (op_call2 hfun ce (by exact rfl) (hcst _) p41) ?_
              refine (rput_any none 0 0 [] u W rfl (by omega) (At.nil _ _) HV.out).mono ?_
              rintro e W' ⟨A', c', rfl, hat, bel, -, -⟩
              exact ⟨_, rfl, bel, ⟨A', c', rfl, hat⟩⟩
            refine ⟨fun ρ W ⟨hcst, hglb, hfun⟩ hX hp ho => ?_, ?_⟩ -- 2: slot 43 := Op.convert 36 9 t42
            · obtain ⟨p42, -⟩ := hp
              obtain ⟨A42, c42, p42, hat42⟩ := p42
              change ρ (.tmp 42) = _ at p42
              have hW := (Below.refl _ _).drew.trans hX
              refine turn_plain ?_
              refine ok_is (by simp only [execOp, p42]; rw [Sem.run_bind, run_str W elt_u8.ht (by kernel_rfl) (by kernel_rfl) rfl hat42]; rfl) rfl
            refine ⟨fun ρ W ⟨hcst, hglb, hfun⟩ hX hp ho => ?_, ?_⟩ -- 3: slot 44 := Op.move t0
            · obtain ⟨o0, -⟩ := ho
              change ρ (.tmp 0) = _ at o0
              refine turn_plain (ok_is ?_ rfl)
              simp only [execOp, o0]; go_simp; try exact rfl
            refine ⟨fun ρ W ⟨hcst, hglb, hfun⟩ hX hp ho => ?_, ?_⟩ -- 4: slot 45 := Op.move t6
            · obtain ⟨o6, -⟩ := ho
              change ρ (.tmp 6) = _ at o6
              refine turn_plain (ok_is ?_ rfl)
              simp only [execOp, o6]; go_simp; try exact rfl
            refine ⟨fun ρ W ⟨hcst, hglb, hfun⟩ hX hp ho => ?_, ?_⟩ -- 5: slot 46 := Op.slice 36 t44 none (some t45) none
            · obtain ⟨p44, p45, -⟩ := hp
              change ρ (.tmp 44) = _ at p44
              change ρ (.tmp 45) = _ at p45
              refine turn_plain (ok_is ?_ rfl)
              simp only [execOp, p44, p45]; go_simp; try exact rfl
            refine ⟨fun ρ W ⟨hcst, hglb, hfun⟩ hX hp ho => ?_, ?_⟩ -- 6: slot 47 := Op.convert 36 9 t46
            · obtain ⟨p46, -⟩ := hp
              change ρ (.tmp 46) = _ at p46
              have hW := (Below.refl _ _).drew.trans hX
              refine turn_plain ?_
              refine ok_is (by simp only [execOp, p46]; rw [Sem.run_bind, run_str W elt_u8.ht (by kernel_rfl) (by kernel_rfl) HLT.out (HTK.out.later hW (Nat.le_refl _))]; rfl) rfl
            refine ⟨fun ρ W ⟨hcst, hglb, hfun⟩ hX hp ho => ?_, ?_⟩ -- 7: slot 48 := Op.binOp BinOp.neq 9 t43 t47 9
            · obtain ⟨p43, p47, -⟩ := hp
              change ρ (.tmp 43) = _ at p43
              change ρ (.tmp 47) = _ at p47
              have hb := HEQ.out
              refine turn_plain (ok_is ?_ rfl)
              simp only [execOp, p43, p47]; go_simp; try exact rfl
            exact trivial
          case find =>
            rintro v W hX ⟨f0, f1, f2, f3, f4, f5, f6, f7, -⟩
            obtain ⟨A_1, c_1, f1, hat_1⟩ := f1
            simp only [is] at f0 f2 f3 f4 f5 f6 f7
            simp only [putAll, Act.put, List.setIfInBounds_toArray, List.set_cons_succ, List.set_cons_zero, f0, f1, f2, f3, f4, f5, f6, f7]
            clear f0 f1 f2 f3 f4 f5 f6 f7
            go_wp2_with fail
            go_ret3
            exact ⟨by rw [HE.out]; exact ret_mid (by omega), hX⟩
        · have HEQ := Lib.hid (show ((strN (VM.enc (VM.val (r.take k)))).toList == (strN (((247 + k) :: r).take (k + 1))).toList) = false by exact strN_ne (VM.enc_byte hb) (fun y hy => HBY.out y (List.mem_of_mem_take hy)) h3)
          have HE := Lib.hid (HRES.out.trans (if_neg h3))
          have HV := Lib.hid hb
          have hcj : (246 : Int) ≤ 247 + (k : Int) := by omega
          have hci : 247 + (k : Int) - 246 ≤ (c : Int) := by omega
          have hti : (247 + (k : Int) - 246).toNat = k + 1 := by omega
          have HTK := Lib.hid HTK0.out
          have HLT := Lib.hid HLT0.out
          clear h3 hb
          generalize VM.val (r.take k) = u at *
          generalize ((247 + k) :: r).take (k + 1) = LT at *
          go_wp2_with fail
          refine wp_region_below [is ?e0, SlRB (VM.enc u), is ?e2, is ?e3, is ?e4, is ?e5, is ?e6, is ?e7]
            [⟨[], [5], none⟩, ⟨[(41, 0)], [], none⟩, ⟨[(42, 1)], [], none⟩, ⟨[], [0], none⟩, ⟨[], [6], none⟩, ⟨[(44, 3), (45, 4)], [], none⟩, ⟨[(46, 5)], [], none⟩, ⟨[(43, 2), (47, 6)], [], none⟩] (by kernel_rfl) (by kernel_rfl) (by kernel_rfl) (by kernel_rfl) (by kernel_rfl) ?monoe ?stepse ?fine
          case monoe => exact ⟨mono_eq _, mono_slb _, mono_eq _, mono_eq _, mono_eq _, mono_eq _, mono_eq _, mono_eq _, trivial⟩
          case stepse =>
            refine ⟨fun ρ W ⟨hcst, hglb, hfun⟩ hX hp ho => ?_, ?_⟩ -- 0: slot 41 := Op.move t5
            · obtain ⟨o5, -⟩ := ho
              change ρ (.tmp 5) = _ at o5
              refine turn_plain (ok_is ?_ rfl)
              simp only [execOp, o5]; go_simp; try exact rfl
            refine ⟨fun ρ W ⟨hcst, hglb, hfun⟩ hX hp ho => ?_, ?_⟩ -- 1: slot 42 := Op.call { value (Operand.func 34), args := #[const (Value.slice none 0 0), t41], argTypes 
            · obtain ⟨p41, -⟩ := hp
              change ρ (.tmp 41) = _ at p41
              have hW := (Below.refl _ _).drew.trans hX
              refine turn_plain ?_
              have ce := @enter_of Tryd.prog 56 _ Tryd.func56 (by kernel_rfl) (by kernel_rfl)
              refine ok_call (op_call2 hfun ce (by exact rfl) (hcst _) p41) ?_
              refine (rput_any none 0 0 [] u W rfl (by omega) (At.nil _ _) HV.out).mono ?_
              rintro e W' ⟨A', c', rfl, hat, bel, -, -⟩
              exact ⟨_, rfl, bel, ⟨A', c', rfl, hat⟩⟩
            refine ⟨fun ρ W ⟨hcst, hglb, hfun⟩ hX hp ho => ?_, ?_⟩ -- 2: slot 43 := Op.convert 36 9 t42
            · obtain ⟨p42, -⟩ := hp
              obtain ⟨A42, c42, p42, hat42⟩ := p42
              change ρ (.tmp 42) = _ at p42
              have hW := (Below.refl _ _).drew.trans hX
              refine turn_plain ?_
              refine ok_is (by simp only [execOp, p42]; rw [Sem.run_bind, run_str W elt_u8.ht (by kernel_rfl) (by kernel_rfl) rfl hat42]; rfl) rfl
            refine ⟨fun ρ W ⟨hcst, hglb, hfun⟩ hX hp ho => ?_, ?_⟩ -- 3: slot 44 := Op.move t0
            · obtain ⟨o0, -⟩ := ho
              change ρ (.tmp 0) = _ at o0
              refine turn_plain (ok_is ?_ rfl)
              simp only [execOp, o0]; go_simp; try exact rfl
            refine ⟨fun ρ W ⟨hcst, hglb, hfun⟩ hX hp ho => ?_, ?_⟩ -- 4: slot 45 := Op.move t6
            · obtain ⟨o6, -⟩ := ho
              change ρ (.tmp 6) = _ at o6
              refine turn_plain (ok_is ?_ rfl)
              simp only [execOp, o6]; go_simp; try exact rfl
            refine ⟨fun ρ W ⟨hcst, hglb, hfun⟩ hX hp ho => ?_, ?_⟩ -- 5: slot 46 := Op.slice 36 t44 none (some t45) none
            · obtain ⟨p44, p45, -⟩ := hp
              change ρ (.tmp 44) = _ at p44
              change ρ (.tmp 45) = _ at p45
              refine turn_plain (ok_is ?_ rfl)
              simp only [execOp, p44, p45]; go_simp; try exact rfl
            refine ⟨fun ρ W ⟨hcst, hglb, hfun⟩ hX hp ho => ?_, ?_⟩ -- 6: slot 47 := Op.convert 36 9 t46
            · obtain ⟨p46, -⟩ := hp
              change ρ (.tmp 46) = _ at p46
              have hW := (Below.refl _ _).drew.trans hX
              refine turn_plain ?_
              refine ok_is (by simp only [execOp, p46]; rw [Sem.run_bind, run_str W elt_u8.ht (by kernel_rfl) (by kernel_rfl) HLT.out (HTK.out.later hW (Nat.le_refl _))]; rfl) rfl
            refine ⟨fun ρ W ⟨hcst, hglb, hfun⟩ hX hp ho => ?_, ?_⟩ -- 7: slot 48 := Op.binOp BinOp.neq 9 t43 t47 9
            · obtain ⟨p43, p47, -⟩ := hp
              change ρ (.tmp 43) = _ at p43
              change ρ (.tmp 47) = _ at p47
              have hb := HEQ.out
              refine turn_plain (ok_is ?_ rfl)
              simp only [execOp, p43, p47]; go_simp; try exact rfl
            exact trivial
          case fine =>
            rintro v W hX ⟨f0, f1, f2, f3, f4, f5, f6, f7, -⟩
            obtain ⟨A_1, c_1, f1, hat_1⟩ := f1
            simp only [is] at f0 f2 f3 f4 f5 f6 f7
            simp only [putAll, Act.put, List.setIfInBounds_toArray, List.set_cons_succ, List.set_cons_zero, f0, f1, f2, f3, f4, f5, f6, f7]
            clear f0 f1 f2 f3 f4 f5 f6 f7
            go_wp2_with fail
            go_ret3
            exact ⟨by rw [HE.out]; rfl, hX⟩
theorem rget_any (A : Option Addr) (n c : Nat) (l : List Nat) (w : World) (hl : l.length = n) (hn : n ≤ 9223372036854775807) (hnc : n ≤ c) (hc63 : c ≤ 9223372036854775807) (ha : At w A (nats .u8 l)) (hr : ∀ y ∈ l, y < 256) :
    Calls Tryd.prog 71 #[.slice A n c] w fun e w' => e = .returned (rgot l) ∧ Below w.heap.size w w' := by
  cases l with
  | nil => obtain rfl : n = 0 := by simpa using hl.symm
           exact rget_nil A c w
  | cons x r =>
    obtain ⟨b, o, rfl, _⟩ := ha.nat 0 (by simp)
    by_cases hx : x < 248
    · exact rget_small b o n c x r w (by simpa using hl) hn hnc hc63 ha hx
    · have hx2 := hr x (by simp)
      obtain ⟨m, rfl⟩ : ∃ m, x = 247 + m := ⟨x - 247, by omega⟩
      exact rget_big b o n c m r w (by simpa using hl) hn hnc hc63 ha (fun y hy => hr y (by simp [hy])) (by omega) (by omega)
end Go.Proofs.YtodimanghmepoaaDoor
namespace Go.Proofs.YtodimanghmepoaaDoor
open Go.RowKit
/-- bytes of the call's own -/
def SlO (w : World) (l : List Nat) (e : Ending) (w' : World) : Prop :=
  ∃ A c, e = .returned (.slice A l.length c) ∧ Own w' w.heap.size 5 1 A l.length c (nats .u8 l) ∧ Below w.heap.size w w'
theorem slo_of {w w' : World} {B : Nat} {A : Option Addr} {n c : Nat} {l : List Nat} {xs : List Value} (hB : w.heap.size = B) (ho : Own w' B 5 1 A n c xs) (hx : xs = nats .u8 l) (hn : l.length = n) (hb : Below B w w') : SlO w l (.returned (.slice A n c)) w' := by
  subst hB; subst hx; subst hn
  exact ⟨A, c, rfl, ho, hb⟩
section
variable (A : Option Addr) (n c : Nat) (l : List Nat)
set_option maxRecDepth 100000 in
set_option maxHeartbeats 1000000 in
theorem oput_small (v : Nat) (w : World) (hl : l.length = n) (hn : n ≤ 2000) (ha : At w A (nats .u8 l)) (hs : v < 248) :
    Calls Tryd.prog 68 #[.slice A n c, .int .u64 v] w (SlO w (l ++ VM.enc v)) := by
  obtain ⟨B, hB⟩ : ∃ B, w.heap.size = B := ⟨_, rfl⟩
  rw [VM.enc_small hs]
  have C := val_eq (.int .i64 1) (by rw [show VM.size v = 1 by unfold VM.size; rw [if_pos hs]]; rfl) (vsize_any v w (by omega))
  have HS := Lib.hid C
  have A1 := Lib.hid ha
  have HL := Lib.hid hl
  have HBB := Lib.hid hB
  clear C ha hl hB
  go_enter Tryd.func68, Tryd.ntmps68
  go_wp2_with fail
  refine HS.out.mono ?_
  rintro e w' ⟨rfl, rfl⟩
  go_wp2_with (first
    | (at_make; refine wpList_mk elt_u8 rfl B _ (.tmp 13) rfl .i64 .i64 _ (n + 1) rfl rfl (by omega) (by omega) (by unfold maxLen; omega) (Nat.le_of_eq HBB.out.symm) ?_; intro w1 own1 g1; have B1 := Lib.hid ((Below.refl B w).grown g1 (Nat.le_of_eq HBB.out.symm) (fun k hk => by cases hk)); replace A1 := Lib.hid (A1.out.grownNone g1); have O1 := Lib.hid own1; clear own1 g1)
    | (at_builtin; refine wpList_app rfl elt_u8 B (.tmp 15) (.tmp 16) rfl _ rfl O1.out (nats .u8 l) rfl A1.out (by rw [nats_length, HL.out, Nat.mul_one]) (nats_one _ _) (by unfold maxLen; omega) (by omega) (by have := B1.out.size; have := HBB.out; omega) ?_; intro A2 c2 w2 own2 g2 _; simp only [Nat.zero_add, List.nil_append] at own2; have B2 := Lib.hid (B1.out.grown g2 (by have := B1.out.size; have := HBB.out; omega) (fun k hk => (O1.out.lt k hk).1)); have O2 := Lib.hid own2; clear own2 g2 O1)
    | (at_builtin; refine wpList_app rfl elt_u8 B (.tmp 20) (.tmp 23) rfl _ rfl (O2.out.alloc _) _ rfl (At.lit _ _ _ _ _ rfl) rfl (by intro u hu; simp at hu; subst hu; rfl) (by unfold maxLen; omega) (by omega) (by have := B2.out.size; have := HBB.out; simp; omega) ?_; intro A3 c3 w3 own3 g3 _; have B3 := Lib.hid ((B2.out.alloc (by have := B2.out.size; have := HBB.out; omega) _).grown g3 (by have := B2.out.size; have := HBB.out; simp; omega) (fun k hk => (O2.out.lt k hk).1)); have O3 := Lib.hid own3; clear own3 g3 O2))
  go_ret
  exact slo_of HBB.out O3.out (by simp [nats]) (by simp [HL.out]) B3.out
set_option maxRecDepth 100000 in
set_option maxHeartbeats 4000000 in
theorem oput_big (v : Nat) (w : World) (hl : l.length = n) (hn : n ≤ 2000) (ha : At w A (nats .u8 l)) (hs : ¬ v < 248) (hv : v < 18446744073709551616) :
    Calls Tryd.prog 68 #[.slice A n c, .int .u64 v] w (SlO w (l ++ VM.enc v)) := by
  obtain ⟨B, hB⟩ : ∃ B, w.heap.size = B := ⟨_, rfl⟩
  have hp := VM.vlen_p (v := v) (by omega)
  have h8 := VM.vlen_8 hv
  obtain ⟨k, hk⟩ : ∃ k, VM.vlen v = k + 1 := ⟨VM.vlen v - 1, by omega⟩
  rw [VM.enc_big hs, hk]
  have C := val_eq (.int .i64 (k + 2 : Int)) (by rw [show VM.size v = k + 2 by unfold VM.size; rw [if_neg hs, hk]; omega]; rfl) (vsize_any v w hv)
  have hd : ((k : Int) + 2 == 1) = false := by simp; omega
  have HS := Lib.hid C
  have A1 := Lib.hid ha
  have HL := Lib.hid hl
  have HBB := Lib.hid hB
  have HSS := Lib.hid hs
  clear C ha hl hB hs
  rw [hk] at h8
  clear hk hp
  go_enter Tryd.func68, Tryd.ntmps68
  go_wp2_with fail
  refine HS.out.mono ?_
  rintro e w' ⟨rfl, rfl⟩
  go_wp2_with (first
    | (at_make; refine wpList_mk elt_u8 rfl B _ (.tmp 13) rfl .i64 .i64 _ (n + (k + 2)) rfl rfl (by omega) (by omega) (by unfold maxLen; omega) (Nat.le_of_eq HBB.out.symm) ?_; intro w1 own1 g1; have B1 := Lib.hid ((Below.refl B w).grown g1 (Nat.le_of_eq HBB.out.symm) (fun k hk => by cases hk)); replace A1 := Lib.hid (A1.out.grownNone g1); have O1 := Lib.hid own1; clear own1 g1)
    | (at_builtin; refine wpList_app rfl elt_u8 B (.tmp 15) (.tmp 16) rfl _ rfl O1.out (nats .u8 l) rfl A1.out (by rw [nats_length, HL.out, Nat.mul_one]) (nats_one _ _) (by unfold maxLen; omega) (by omega) (by have := B1.out.size; have := HBB.out; omega) ?_; intro A2 c2 w2 own2 g2 _; simp only [Nat.zero_add, List.nil_append] at own2; have B2 := Lib.hid (B1.out.grown g2 (by have := B1.out.size; have := HBB.out; omega) (fun k hk => (O1.out.lt k hk).1)); have O2 := Lib.hid own2; clear own2 g2 O1)
    | (at_builtin; refine wpList_app rfl elt_u8 B (.tmp 25) (.tmp 30) rfl _ rfl (O2.out.alloc _) _ rfl (At.lit _ _ _ _ _ rfl) rfl (by intro u hu; simp at hu; subst hu; rfl) (by unfold maxLen; omega) (by omega) (by have := B2.out.size; have := HBB.out; simp; omega) ?_; intro A3 c3 w3 own3 g3 _; have B3 := Lib.hid ((B2.out.alloc (by have := B2.out.size; have := HBB.out; omega) _).grown g3 (by have := B2.out.size; have := HBB.out; simp; omega) (fun k hk => (O2.out.lt k hk).1)); have O3 := Lib.hid own3; clear own3 g3 O2))
  have HK := Lib.hid h8
  clear hd HS A1
  go_loopw [6, 7] (fun s i wr => ∃ (j : Nat) (z : Int) (A : Option Addr) (c : Nat), j ≤ k + 1 ∧ z = (j : Int) - 1 ∧ i = .int .i64 z ∧ s = .slice A (n + 1 + (k + 1 - j)) c ∧ Own wr B 5 1 A (n + 1 + (k + 1 - j)) c (nats .u8 (l ++ (247 + (k + 1)) :: VM.be (k + 1 - j) (v / 256 ^ j))) ∧ Below B w wr) (fun _ i _ => (intOf i + 1).toNat)
  case atStart => exact ⟨k + 1, k, A3, c3, by omega, by omega, rfl, by rw [Nat.sub_self, Nat.add_zero], by rw [Nat.sub_self, Nat.add_zero]; simpa [nats, VM.be, show (247 : Int) + (k + 2) - 1 = 247 + (k + 1) by omega] using O3.out, B3.out⟩
  case round =>
    obtain ⟨j, z, A, c, hj, hi, rfl, rfl, hown, hbel⟩ := hrel
    have O0 := Lib.hid hown
    have B0 := Lib.hid hbel
    clear hown hbel O3 B3 B2 B1
    rcases j with _ | j
    · obtain rfl : z = -1 := by omega
      clear hi
      go_wp2
      go_ret
      exact slo_of HBB.out O0.out (by simp) (by simp [VM.be_length, HL.out]; omega) B0.out
    · obtain rfl : z = j := by omega
      clear hi
      go_wp2_with (first
        | (at_builtin; refine wpList_app rfl elt_u8 B (.tmp 38) (.tmp 44) rfl _ rfl (O0.out.alloc _) _ rfl (At.lit _ _ _ _ _ rfl) rfl (by intro u hu; simp at hu; subst hu; rfl) (by unfold maxLen; omega) (by omega) (by have := B0.out.size; have := HBB.out; simp; omega) ?_; intro A4 c4 w4 own4 g4 _; have B4 := Lib.hid ((B0.out.alloc (by have := B0.out.size; have := HBB.out; omega) _).grown g4 (by have := B0.out.size; have := HBB.out; simp; omega) (fun k hk => (O0.out.lt k hk).1)); have O4 := Lib.hid own4; clear own4 g4 O0))

      have eb := be_step v k j (by omega)
      have e1 : n + 1 + (k + 1 - (j + 1)) + 1 = n + 1 + (k + 1 - j) := by omega
      refine ⟨⟨j, (j : Int) - 1, A4, c4, by omega, rfl, rfl, by rw [← e1, Nat.add_sub_add_right], ?_, B4.out⟩, by simp only [intOf]; omega⟩
      have o := O4.out
      rw [e1] at o
      rw [eb]
      simpa [nats, byte_of] using o
end
section
variable (A : Option Addr) (n c : Nat) (l : List Nat)
set_option maxRecDepth 100000 in
set_option maxHeartbeats 1000000 in
theorem oref_small (v : Nat) (w : World) (hl : l.length = n) (hn : n ≤ 2000) (ha : At w A (nats .u8 l)) (hs : v < 248) :
    Calls Tryd.prog 56 #[.slice A n c, .int .u64 v] w (SlO w (l ++ VM.enc v)) := by
  obtain ⟨B, hB⟩ : ∃ B, w.heap.size = B := ⟨_, rfl⟩
  rw [VM.enc_small hs]
  have A1 := Lib.hid ha
  have HL := Lib.hid hl
  have HBB := Lib.hid hB
  have B1 := Lib.hid (show Below B w w from Below.refl _ _)
  have O1 := Lib.hid (Own.none_ w B 5 1)
  clear ha hl hB
  go_enter Tryd.func56, Tryd.ntmps56
  go_wp2_with (first
    | (at_builtin; refine wpList_app rfl elt_u8 B (.tmp 8) (.tmp 9) rfl _ rfl O1.out (nats .u8 l) rfl A1.out (by rw [nats_length, HL.out, Nat.mul_one]) (nats_one _ _) (by unfold maxLen; omega) (by omega) (by have := B1.out.size; have := HBB.out; omega) ?_; intro A2 c2 w2 own2 g2 _; simp only [Nat.zero_add, List.nil_append] at own2; have B2 := Lib.hid (B1.out.grown g2 (by have := B1.out.size; have := HBB.out; omega) (fun k hk => (O1.out.lt k hk).1)); have O2 := Lib.hid own2; clear own2 g2 O1)
    | (at_builtin; refine wpList_app rfl elt_u8 B (.tmp 13) (.tmp 16) rfl _ rfl (O2.out.alloc _) _ rfl (At.lit _ _ _ _ _ rfl) rfl (by intro u hu; simp at hu; subst hu; rfl) (by unfold maxLen; omega) (by omega) (by have := B2.out.size; have := HBB.out; simp; omega) ?_; intro A3 c3 w3 own3 g3 _; have B3 := Lib.hid ((B2.out.alloc (by have := B2.out.size; have := HBB.out; omega) _).grown g3 (by have := B2.out.size; have := HBB.out; simp; omega) (fun k hk => (O2.out.lt k hk).1)); have O3 := Lib.hid own3; clear own3 g3 O2))
  go_ret
  exact slo_of HBB.out O3.out (by simp [nats]) (by simp [HL.out]) B3.out
set_option maxRecDepth 100000 in
set_option maxHeartbeats 4000000 in
theorem oref_big (v : Nat) (w : World) (hl : l.length = n) (hn : n ≤ 2000) (ha : At w A (nats .u8 l)) (hs : ¬ v < 248) (hv : v < 18446744073709551616) :
    Calls Tryd.prog 56 #[.slice A n c, .int .u64 v] w (SlO w (l ++ VM.enc v)) := by
  obtain ⟨B, hB⟩ : ∃ B, w.heap.size = B := ⟨_, rfl⟩
  have hp := VM.vlen_p (v := v) (by omega)
  have h8 := VM.vlen_8 hv
  have hge := VM.vlen_ge v (by omega)
  have hlt := VM.vlen_lt v
  rw [VM.enc_big hs]
  generalize VM.vlen v = m at *
  have hd : decide ((v : Int) < 248) = false := by simp; omega
  have A1 := Lib.hid ha
  have HL := Lib.hid hl
  have HBB := Lib.hid hB
  have HGE := Lib.hid hge
  have HLT := Lib.hid hlt
  have B1 := Lib.hid (show Below B w w from Below.refl _ _)
  have O1 := Lib.hid (Own.none_ w B 5 1)
  clear ha hl hB hs hge hlt
  go_enter Tryd.func56, Tryd.ntmps56
  go_wp2_with (first
    | (at_builtin; refine wpList_app rfl elt_u8 B (.tmp 8) (.tmp 9) rfl _ rfl O1.out (nats .u8 l) rfl A1.out (by rw [nats_length, HL.out, Nat.mul_one]) (nats_one _ _) (by unfold maxLen; omega) (by omega) (by have := B1.out.size; have := HBB.out; omega) ?_; intro A2 c2 w2 own2 g2 _; simp only [Nat.zero_add, List.nil_append] at own2; have B2 := Lib.hid (B1.out.grown g2 (by have := B1.out.size; have := HBB.out; omega) (fun k hk => (O1.out.lt k hk).1)); have O2 := Lib.hid own2; clear own2 g2 O1))
  clear A1 hd
  have B2' := B2
  clear B1
  go_loopw [6, 7] (fun d i wr => ∃ (j : Nat) (Ad : Option Addr) (cd : Nat), j ≤ m ∧ i = .int .u64 (v / 256 ^ j : Nat) ∧ d = .slice Ad j cd ∧ Own wr B 5 1 A2 n c2 (nats .u8 l) ∧ At wr Ad (nats .u8 (VM.be j v)) ∧ (∀ k, blk A2 = some k → blk Ad ≠ some k) ∧ Below B w wr) (fun _ i _ => (intOf i).toNat)
  case atStart => exact ⟨0, none, 0, by omega, by simp, rfl, O2.out, At.nil _ _, (fun k _ e => by cases e), B2.out⟩
  case round =>
    obtain ⟨j, Ad, cd, hj, rfl, rfl, hown, had, hfar, hbel⟩ := hrel
    have FA := Lib.hid hfar
    have O0 := Lib.hid hown
    have AD := Lib.hid had
    have B0 := Lib.hid hbel
    clear hown had hbel hfar O2 B2 B2'
    by_cases hjm : j < m
    · have hu : 0 < v / 256 ^ j := by
        have h1 := VM.pow_le_of (show j ≤ m - 1 by omega)
        exact Nat.div_pos (Nat.le_trans h1 HGE.out) (Nat.pow_pos (by decide))
      have hul : v / 256 ^ j < 18446744073709551616 := Nat.lt_of_le_of_lt (Nat.div_le_self _ _) hv
      have hc := VM.be_cons j v
      have hn2 : v / 256 ^ (j + 1) = v / 256 ^ j / 256 := by rw [Nat.div_div_eq_div_mul, ← Nat.pow_succ]
      have HC := Lib.hid hc
      have HN := Lib.hid hn2
      clear hc hn2
      generalize v / 256 ^ j = u at *
      have ow := Lib.hid (Own.lit (w := wr) (base := B) (e := 5) (size := 1) #[.int .u8 ((u : Int) % 256)] 1 (by have := B0.out.size; have := HBB.out; omega) (by decide) rfl)
      have av := Lib.hid (AD.out.later ((Below.refl wr.heap.size wr).alloc (Nat.le_refl _) (.cells #[.int .u8 ((u : Int) % 256)] 5)) (Nat.le_refl _))
      have ov := Lib.hid (O0.out.alloc (.cells #[.int .u8 ((u : Int) % 256)] 5))
      have bv := Lib.hid (B0.out.alloc (by have := B0.out.size; have := HBB.out; omega) (.cells #[.int .u8 ((u : Int) % 256)] 5))
      have ltO := Lib.hid (fun k hk => (O0.out.lt k hk).2)
      go_wp2_with (at_builtin; refine wpList_app rfl elt_u8 B (.tmp 26) (.tmp 27) rfl _ rfl ow.out (nats .u8 (VM.be j v)) rfl av.out (by rw [nats_length, VM.be_length, Nat.mul_one]) (nats_one _ _) (by unfold maxLen; omega) (by omega) (by have := B0.out.size; have := HBB.out; simp; omega) ?_; intro A4 c4 w4 own4 g4 k4; have F4 := Lib.hid (show ∀ k, blk A2 = some k → blk A4 ≠ some k from fun k hk e => by have := ltO.out k hk; rcases k4 with h | h <;> (rw [e] at h; simp [blk] at h; omega)); clear k4; have B4 := Lib.hid (bv.out.grown g4 (by have := B0.out.size; have := HBB.out; simp; omega) (fun k hk => by simp [blk] at hk; have := B0.out.size; have := HBB.out; omega)); have O4 := Lib.hid own4; have O5 := Lib.hid (ov.out.kept g4 (by have hlt := ltO.out; cases hb : blk A2 with | none => exact .inl rfl | some k => exact .inr (by have := hlt k hb; simp [blk]; omega))); clear own4 g4)
      refine ⟨⟨j + 1, A4, c4, by omega, by rw [HN.out]; simp, by rw [Nat.add_comm], O5.out, ?_, F4.out, B4.out⟩, by simp only [intOf]; omega⟩
      rw [HC.out]
      have o := O4.out.at_
      simpa [nats] using o
    · obtain rfl : j = m := by omega
      have h0 : v / 256 ^ j = 0 := Nat.div_eq_of_lt HLT.out
      rw [h0]
      clear h0
      go_wp2_with (first
        | (at_builtin; refine wpList_app rfl elt_u8 B (.tmp 29) (.tmp 34) rfl _ rfl (O0.out.alloc _) _ rfl (At.lit _ _ _ _ _ rfl) rfl (by intro u hu; simp at hu; subst hu; rfl) (by unfold maxLen; omega) (by omega) (by have := B0.out.size; have := HBB.out; simp; omega) ?_; intro A5 c5 w5 own5 g5 _; have B5 := Lib.hid ((B0.out.alloc (by have := B0.out.size; have := HBB.out; omega) _).grown g5 (by have := B0.out.size; have := HBB.out; simp; omega) (fun k hk => (O0.out.lt k hk).1)); have O5 := Lib.hid own5; have A5 := Lib.hid ((AD.out.later ((Below.refl wr.heap.size wr).alloc (Nat.le_refl _) _) (Nat.le_refl _)).grown g5 (ne_of_far FA.out)); clear own5 g5 O0)
        | (at_builtin; refine wpList_app rfl elt_u8 B (.tmp 36) (.tmp 37) rfl _ rfl O5.out (nats .u8 (VM.be j v)) rfl A5.out (by rw [nats_length, VM.be_length, Nat.mul_one]) (nats_one _ _) (by unfold maxLen; omega) (by omega) (by have := B5.out.size; have := HBB.out; omega) ?_; intro A6 c6 w6 own6 g6 _; have B6 := Lib.hid (B5.out.grown g6 (by have := B5.out.size; have := HBB.out; omega) (fun k hk => (O5.out.lt k hk).1)); have O6 := Lib.hid own6; clear own6 g6 O5))
      go_ret
      exact slo_of HBB.out O6.out (nats_glue _ _ _ _ (by omega)) (by simp [VM.be_length, HL.out]; omega) B6.out
end
theorem oput_any (A : Option Addr) (n c : Nat) (l : List Nat) (v : Nat) (w : World) (hl : l.length = n) (hn : n ≤ 2000) (ha : At w A (nats .u8 l)) (hv : v < 18446744073709551616) :
    Calls Tryd.prog 68 #[.slice A n c, .int .u64 v] w (SlO w (l ++ VM.enc v)) := by
  by_cases hs : v < 248
  · exact oput_small A n c l v w hl hn ha hs
  · exact oput_big A n c l v w hl hn ha hs hv
theorem oref_any (A : Option Addr) (n c : Nat) (l : List Nat) (v : Nat) (w : World) (hl : l.length = n) (hn : n ≤ 2000) (ha : At w A (nats .u8 l)) (hv : v < 18446744073709551616) :
    Calls Tryd.prog 56 #[.slice A n c, .int .u64 v] w (SlO w (l ++ VM.enc v)) := by
  by_cases hs : v < 248
  · exact oref_small A n c l v w hl hn ha hs
  · exact oref_big A n c l v w hl hn ha hs hv
end Go.Proofs.YtodimanghmepoaaDoor
