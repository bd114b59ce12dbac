/- Layer 11: what must come whatever the input is; VarintBytes' walk. -/
import Derived.Test.YtbgmbemaopnjfaaDoorVarD
import Derived.Test.YtbgmbemaopnjfaaDoorNum11
namespace Go.Proofs.YtbgmbemaopnjfaaDoor
open Go.RowKit
theorem slb_eq {w : World} {l : List Nat} (l' : List Nat) (n : Nat) (h : l = l') (hn : l'.length = n) {f : FuncId} {args : Array Value} {Q : Program} (hc : Calls Q f args w (SlN w l)) :
    Calls Q f args w fun e w' => ∃ A c, e = .returned (.slice A n c) ∧ At w' A (nats .u8 l') ∧ Below w.heap.size w w' ∧ n ≤ c ∧ c ≤ maxLen := by
  subst h; subst hn; exact hc
theorem all_u8 {l : List Nat} (h : ∀ i, l.getD i 0 < max 256 1) : ∀ y ∈ l, y < 256 := by
  intro y hy
  obtain ⟨i, hi, rfl⟩ := List.mem_iff_getElem.1 hy
  have := h i
  rw [getD_lt hi] at this
  omega
theorem enc248 : VM.enc 248 = [248, 248] := by rw [VM.enc_big (by decide), VM.vlen_one (k := 0) (by decide) (by decide)]; rfl
theorem size_max : VM.size 18446744073709551615 = 9 := by
  unfold VM.size
  rw [if_neg (by decide), VM.vlen_one (k := 7) (by decide) (by decide)]
theorem valB_eq {w : World} {v : Value} (v' : Value) (h : v = v') {f : FuncId} {args : Array Value} {Q : Program} (hc : Calls Q f args w fun e w' => e = .returned v ∧ Below w.heap.size w w') : Calls Q f args w fun e w' => e = .returned v' ∧ Below w.heap.size w w' := by
  subst h; exact hc
set_option maxRecDepth 100000 in
set_option maxHeartbeats 4000000 in
theorem sure11 (w : World) (hg : Glob w) : Calls Tryd.prog 29 #[] w fun e w' => e = .returned (.bool true) ∧ Below w.heap.size w w' := by
  have HG := Lib.hid hg
  clear hg
  go_enter Tryd.func29, Tryd.ntmps29
  have HB := Lib.hid (Below.refl w.heap.size w)
  go_wp2_with fail
  have bel := (Below.refl w.heap.size w).alloc (Nat.le_refl _) (.cells #[.int .u8 249, .int .u8 1, .int .u8 0, .int .u8 7] 5)
  have Sa := Lib.hid (show At (w.alloc (.cells #[.int .u8 249, .int .u8 1, .int .u8 0, .int .u8 7] 5)) (some ⟨w.heap.size, 0, none⟩) (nats .u8 [249, 1, 0, 7]) from At.lit _ _ _ _ _ rfl)
  generalize (w.alloc (.cells #[.int .u8 249, .int .u8 1, .int .u8 0, .int .u8 7] 5)) = w1 at bel Sa ⊢
  replace HB := Lib.hid (HB.out.trans (bel.mono HB.out.size))
  replace HG := Lib.hid (HG.out.later bel (Nat.le_refl _))
  have Na := Lib.hid (show (4 : Nat) ≤ 9223372036854775807 by decide)
  clear bel
  go_wp2_with fail
  refine (val_eq (.tuple #[.int .u64 256, .int .i64 3, .nilIface]) (by rw [vgot_some (v := 256) (k := 3) (by decide)]; rfl) (vget_any (some ⟨w.heap.size, 0, none⟩) 4 4 [249, 1, 0, 7] _ rfl (by decide) (by decide) (by decide) Sa.out (by decide))).mono ?_
  rintro e w' ⟨rfl, rfl⟩
  clear Sa Na
  go_wp2_with fail
  have bel := (Below.refl w1.heap.size w1).alloc (Nat.le_refl _) (.cells #[.int .u8 248, .int .u8 5] 5)
  have Sb := Lib.hid (show At (w1.alloc (.cells #[.int .u8 248, .int .u8 5] 5)) (some ⟨w1.heap.size, 0, none⟩) (nats .u8 [248, 5]) from At.lit _ _ _ _ _ rfl)
  generalize (w1.alloc (.cells #[.int .u8 248, .int .u8 5] 5)) = w2 at bel Sb ⊢
  replace HB := Lib.hid (HB.out.trans (bel.mono HB.out.size))
  replace HG := Lib.hid (HG.out.later bel (Nat.le_refl _))
  have Nb := Lib.hid (show (2 : Nat) ≤ 9223372036854775807 by decide)
  clear bel
  go_wp2_with fail
  refine (val_eq (.tuple #[.int .u64 0, .int .i64 0, .iface 87 (.int .i64 3)]) (by rw [vgot_none (by decide)]) (vget_any (some ⟨w1.heap.size, 0, none⟩) 2 2 [248, 5] _ rfl (by decide) (by decide) (by decide) Sb.out (by decide))).mono ?_
  rintro e w' ⟨rfl, rfl⟩
  clear Sb Nb
  go_wp2_with fail
  refine (num11_err 3 _ HG.out).mono ?_
  rintro e w3 ⟨rfl, bel⟩
  replace HB := Lib.hid (HB.out.trans (bel.mono HB.out.size))
  replace HG := Lib.hid (HG.out.later bel (Nat.le_refl _))
  clear bel
  go_wp2_with fail
  refine (slb_eq [247] 1 (by rw [VM.enc_small (by decide)]; rfl) rfl (vput_any none 0 0 [] 247 _ rfl (by decide) (At.nil _ _) (by decide))).mono ?_
  rintro e w4 ⟨A_p, c_p, rfl, hat, bel, -, -⟩
  replace HB := Lib.hid (HB.out.trans (bel.mono HB.out.size))
  replace HG := Lib.hid (HG.out.later bel (Nat.le_refl _))
  clear bel
  have kb : (convert 36 9 (.slice A_p 1 c_p)).run Tryd.prog w4 = .ok (.string (strN [247])) w4 := run_str (e := 5) w4 (by kernel_rfl) (by kernel_rfl) (by kernel_rfl) rfl hat
  rw [show strN [247] = (⟨#[247]⟩ : ByteArray) from by decide] at kb
  clear hat
  go_wp2_with fail
  have bel := (Below.refl w4.heap.size w4).alloc (Nat.le_refl _) (.cells #[.int .u8 1] 5)
  have Sc := Lib.hid (show At (w4.alloc (.cells #[.int .u8 1] 5)) (some ⟨w4.heap.size, 0, none⟩) (nats .u8 [1]) from At.lit _ _ _ _ _ rfl)
  generalize (w4.alloc (.cells #[.int .u8 1] 5)) = w5 at bel Sc ⊢
  replace HB := Lib.hid (HB.out.trans (bel.mono HB.out.size))
  replace HG := Lib.hid (HG.out.later bel (Nat.le_refl _))
  have Nc := Lib.hid (show (1 : Nat) ≤ 9223372036854775807 by decide)
  clear bel
  clear kb
  go_wp2_with fail
  refine (slb_eq [1, 248, 248] 3 (by rw [enc248]; rfl) rfl (vput_any (some ⟨w4.heap.size, 0, none⟩) 1 1 [1] 248 _ rfl (by decide) Sc.out (by decide))).mono ?_
  rintro e w6 ⟨A_p, c_p, rfl, hat, bel, -, -⟩
  replace HB := Lib.hid (HB.out.trans (bel.mono HB.out.size))
  replace Sc := Lib.hid (Sc.out.later bel (Nat.le_refl _))
  replace HG := Lib.hid (HG.out.later bel (Nat.le_refl _))
  clear bel
  have kb : (convert 36 9 (.slice A_p 3 c_p)).run Tryd.prog w6 = .ok (.string (strN [1, 248, 248])) w6 := run_str (e := 5) w6 (by kernel_rfl) (by kernel_rfl) (by kernel_rfl) rfl hat
  rw [show strN [1, 248, 248] = (⟨#[1, 248, 248]⟩ : ByteArray) from by decide] at kb
  clear hat
  clear Sc Nc
  go_wp2_with fail
  refine (val_eq (.int .i64 9) (by rw [size_max]; rfl) (vsize_any 18446744073709551615 _ (by decide))).mono ?_
  rintro e w' ⟨rfl, rfl⟩
  clear kb
  go_wp2_with fail
  go_ret
  exact ⟨rfl, HB.out⟩
set_option maxRecDepth 100000 in
set_option maxHeartbeats 4000000 in
theorem vbytes_some (A : Option Addr) (c : Nat) (l : List Nat) (v v0 k0 : Nat) (w : World) (hl : l.length ≤ 300) (hnc : l.length ≤ c) (hc63 : c ≤ 9223372036854775807) (ha : At w A (nats .u8 l)) (hr : ∀ y ∈ l, y < 256) (hv : v < 18446744073709551616) (hg : Glob w) (hd : VM.dec l = some (v0, k0)) :
    Calls Tryd.prog 6 #[.slice A l.length c, .int .u64 v] w fun e w' => e = .returned (.bool true) ∧ Below w.heap.size w w' := by
  have HG := Lib.hid hg
  have Sb := Lib.hid ha
  have HR := Lib.hid hr
  have HV := Lib.hid hv
  have HD := Lib.hid hd
  have HLE := Lib.hid hl
  have hel := VM.enc_length v
  have HEL := Lib.hid hel
  clear hg ha hr hd hv hel
  go_enter Tryd.func6, Tryd.ntmps6
  have HB := Lib.hid (Below.refl w.heap.size w)
  go_wp2_with fail
  refine (val_eq (.tuple #[.int .u64 (v0 : Nat), .int .i64 (k0 : Nat), .nilIface]) (vgot_some HD.out) (vget_any A l.length c l _ rfl (by omega) hnc hc63 Sb.out HR.out)).mono ?_
  rintro e w' ⟨rfl, rfl⟩
  go_wp2_with fail
  refine (valB_eq (.tuple #[.int .u64 (v0 : Nat), .int .i64 (k0 : Nat), .int .i64 0]) (rgot_some HD.out) (rget_any A l.length c l _ rfl (by omega) hnc hc63 Sb.out HR.out)).mono ?_
  rintro e w1 ⟨rfl, bel⟩
  replace HB := Lib.hid (HB.out.trans (bel.mono HB.out.size))
  replace Sb := Lib.hid (Sb.out.later bel (Nat.le_refl _))
  replace HG := Lib.hid (HG.out.later bel (Nat.le_refl _))
  clear bel
  go_wp2_with fail
  refine wp_region_last [is ?c0, is ?c1, is ?c2, is ?c3, is ?c4, is ?c5, is ?c6, is ?c7, is ?c8, is ?c9, is (.int .i64 0), is ?c11, is ?c12, is ?c13, is ?c14, is ?c15, is ?c16, SlRB (l ++ VM.enc v), is ?c18, is ?c19, is ?c20, SlRB (l ++ VM.enc v), is ?c22, is ?c23, is ?c24, is ?c25, is ?c26, is (.int .i64 (VM.size v : Nat)), is ?c28, SlRB (VM.enc v), is ?c30, is ?c31, is ?c32, is ?c33, is (.bool true), is ?c35, is ?c36]
    [⟨[], [5], none⟩, ⟨[], [8], none⟩, ⟨[(27, 0), (28, 1)], [], none⟩, ⟨[(29, 2)], [], none⟩, ⟨[(30, 3)], [6], some (30, true)⟩, ⟨[(30, 3)], [9], some (30, true)⟩, ⟨[(31, 4), (32, 5), (30, 3)], [], some (30, true)⟩, ⟨[(30, 3), (33, 6)], [], none⟩, ⟨[(34, 7)], [], none⟩, ⟨[(35, 8)], [7], some (35, true)⟩, ⟨[(36, 9), (35, 8)], [], some (35, true)⟩, ⟨[(35, 8)], [10], some (35, true)⟩, ⟨[(37, 10), (38, 11), (35, 8)], [], some (35, true)⟩, ⟨[(35, 8), (39, 12)], [], none⟩, ⟨[(40, 13)], [], none⟩, ⟨[(41, 14)], [0], some (41, true)⟩, ⟨[(41, 14)], [1], some (41, true)⟩, ⟨[(42, 15), (43, 16), (41, 14)], [], some (41, true)⟩, ⟨[(44, 17), (41, 14)], [], some (41, true)⟩, ⟨[(41, 14)], [0], some (41, true)⟩, ⟨[(41, 14)], [1], some (41, true)⟩, ⟨[(46, 19), (47, 20), (41, 14)], [], some (41, true)⟩, ⟨[(48, 21), (41, 14)], [], some (41, true)⟩, ⟨[(45, 18), (49, 22), (41, 14)], [], some (41, true)⟩, ⟨[(41, 14), (50, 23)], [], none⟩, ⟨[(51, 24)], [], none⟩, ⟨[(52, 25)], [1], some (52, true)⟩, ⟨[(53, 26), (52, 25)], [], some (52, true)⟩, ⟨[(52, 25)], [1], some (52, true)⟩, ⟨[(55, 28), (52, 25)], [], some (52, true)⟩, ⟨[(56, 29), (52, 25)], [], some (52, true)⟩, ⟨[(54, 27), (57, 30), (52, 25)], [], some (52, true)⟩, ⟨[(52, 25), (58, 31)], [], none⟩, ⟨[(59, 32)], [], none⟩, ⟨[(60, 33)], [], some (60, true)⟩, ⟨[(60, 33), (61, 34)], [], none⟩, ⟨[(62, 35)], [], none⟩] (by kernel_rfl) (by kernel_rfl) (by kernel_rfl) (by kernel_rfl) (by kernel_rfl) ?monoc ?stepsc ?finc
  case monoc => exact ⟨mono_eq _, mono_eq _, mono_eq _, mono_eq _, mono_eq _, mono_eq _, mono_eq _, mono_eq _, mono_eq _, mono_eq _, mono_eq _, mono_eq _, mono_eq _, mono_eq _, mono_eq _, mono_eq _, mono_eq _, mono_slb _, mono_eq _, mono_eq _, mono_eq _, mono_slb _, mono_eq _, mono_eq _, mono_eq _, mono_eq _, mono_eq _, mono_eq _, mono_eq _, mono_slb _, mono_eq _, mono_eq _, mono_eq _, mono_eq _, mono_eq _, mono_eq _, mono_eq _, trivial⟩
  case stepsc =>
    refine ⟨fun ρ W ⟨hcst, hglb, hfun⟩ hX hp ho => ?_, ?_⟩ -- 0: slot 27 := Op.move t5
    · obtain ⟨o5, -⟩ := ho
      change ρ (.tmp 5) = _ at o5
      refine turn_plain (ok_is ?_ rfl)
      simp only [execOp, o5]; go_simp; try exact rfl
    refine ⟨fun ρ W ⟨hcst, hglb, hfun⟩ hX hp ho => ?_, ?_⟩ -- 1: slot 28 := Op.move t8
    · obtain ⟨o8, -⟩ := ho
      change ρ (.tmp 8) = _ at o8
      refine turn_plain (ok_is ?_ rfl)
      simp only [execOp, o8]; go_simp; try exact rfl
    refine ⟨fun ρ W ⟨hcst, hglb, hfun⟩ hX hp ho => ?_, ?_⟩ -- 2: slot 29 := Op.binOp BinOp.eql 22 t27 t28 22
    · obtain ⟨p27, p28, -⟩ := hp
      change ρ (.tmp 27) = _ at p27
      change ρ (.tmp 28) = _ at p28
      refine turn_plain (ok_is ?_ rfl)
      simp only [execOp, p27, p28]; go_simp; try exact rfl
    refine ⟨fun ρ W ⟨hcst, hglb, hfun⟩ hX hp ho => ?_, ?_⟩ -- 3: slot 30 := Op.move t29
    · obtain ⟨p29, -⟩ := hp
      change ρ (.tmp 29) = _ at p29
      refine turn_plain (ok_is ?_ rfl)
      simp only [execOp, p29]; go_simp; try exact rfl
    refine ⟨fun ρ W ⟨hcst, hglb, hfun⟩ hX hp ho => ?_, ?_⟩ -- 4: slot 31 := Op.move t6   [guarded: some (3, true)]
    · obtain ⟨p30, -⟩ := hp
      change ρ (.tmp 30) = _ at p30
      obtain ⟨o6, -⟩ := ho
      change ρ (.tmp 6) = _ at o6
      refine turn_yes p30 (ok_is ?_ rfl)
      simp only [execOp, o6]; go_simp; try exact rfl
    refine ⟨fun ρ W ⟨hcst, hglb, hfun⟩ hX hp ho => ?_, ?_⟩ -- 5: slot 32 := Op.move t9   [guarded: some (3, true)]
    · obtain ⟨p30, -⟩ := hp
      change ρ (.tmp 30) = _ at p30
      obtain ⟨o9, -⟩ := ho
      change ρ (.tmp 9) = _ at o9
      refine turn_yes p30 (ok_is ?_ rfl)
      simp only [execOp, o9]; go_simp; try exact rfl
    refine ⟨fun ρ W ⟨hcst, hglb, hfun⟩ hX hp ho => ?_, ?_⟩ -- 6: slot 33 := Op.binOp BinOp.eql 3 t31 t32 3   [guarded: some (3, true)]
    · obtain ⟨p31, p32, p30, -⟩ := hp
      change ρ (.tmp 31) = _ at p31
      change ρ (.tmp 32) = _ at p32
      change ρ (.tmp 30) = _ at p30
      refine turn_yes p30 (ok_is ?_ rfl)
      simp only [execOp, p31, p32]; go_simp; try exact rfl
    refine ⟨fun ρ W ⟨hcst, hglb, hfun⟩ hX hp ho => ?_, ?_⟩ -- 7: slot 34 := Op.pick t30 t33 (const (Value.bool false))
    · obtain ⟨p30, p33, -⟩ := hp
      change ρ (.tmp 30) = _ at p30
      change ρ (.tmp 33) = _ at p33
      refine turn_plain (ok_is ?_ rfl)
      simp only [execOp, hcst, p30, p33]; go_simp; try exact rfl
    refine ⟨fun ρ W ⟨hcst, hglb, hfun⟩ hX hp ho => ?_, ?_⟩ -- 8: slot 35 := Op.move t34
    · obtain ⟨p34, -⟩ := hp
      change ρ (.tmp 34) = _ at p34
      refine turn_plain (ok_is ?_ rfl)
      simp only [execOp, p34]; go_simp; try exact rfl
    refine ⟨fun ρ W ⟨hcst, hglb, hfun⟩ hX hp ho => ?_, ?_⟩ -- 9: slot 36 := Op.move t7   [guarded: some (8, true)]
    · obtain ⟨p35, -⟩ := hp
      change ρ (.tmp 35) = _ at p35
      obtain ⟨o7, -⟩ := ho
      change ρ (.tmp 7) = _ at o7
      refine turn_yes p35 (ok_is ?_ rfl)
      simp only [execOp, o7]; go_simp; try exact rfl
    refine ⟨fun ρ W ⟨hcst, hglb, hfun⟩ hX hp ho => ?_, ?_⟩ -- 10: slot 37 := Op.call { value (Operand.func 32), args := #[t36], argTypes := #[24] }   [guarded: some (8
    · obtain ⟨p36, p35, -⟩ := hp
      change ρ (.tmp 36) = _ at p36
      change ρ (.tmp 35) = _ at p35
      have hW := (Below.refl _ _).drew.trans hX
      refine turn_yes p35 ?_
      have ce := @enter_of Tryd.prog 32 _ Tryd.func32 (by kernel_rfl) (by kernel_rfl)
      refine ok_call (op_call1 hfun ce (by exact rfl) p36) ?_
      refine (num11_nil W).mono ?_
      rintro e W' ⟨rfl, bel⟩
      exact ⟨_, rfl, bel, rfl⟩
    refine ⟨fun ρ W ⟨hcst, hglb, hfun⟩ hX hp ho => ?_, ?_⟩ -- 11: slot 38 := Op.move t10   [guarded: some (8, true)]
    · obtain ⟨p35, -⟩ := hp
      change ρ (.tmp 35) = _ at p35
      obtain ⟨o10, -⟩ := ho
      change ρ (.tmp 10) = _ at o10
      refine turn_yes p35 (ok_is ?_ rfl)
      simp only [execOp, o10]; go_simp; try exact rfl
    refine ⟨fun ρ W ⟨hcst, hglb, hfun⟩ hX hp ho => ?_, ?_⟩ -- 12: slot 39 := Op.binOp BinOp.eql 3 t37 t38 3   [guarded: some (8, true)]
    · obtain ⟨p37, p38, p35, -⟩ := hp
      change ρ (.tmp 37) = _ at p37
      change ρ (.tmp 38) = _ at p38
      change ρ (.tmp 35) = _ at p35
      refine turn_yes p35 (ok_is ?_ rfl)
      simp only [execOp, p37, p38]; go_simp; try exact rfl
    refine ⟨fun ρ W ⟨hcst, hglb, hfun⟩ hX hp ho => ?_, ?_⟩ -- 13: slot 40 := Op.pick t35 t39 (const (Value.bool false))
    · obtain ⟨p35, p39, -⟩ := hp
      change ρ (.tmp 35) = _ at p35
      change ρ (.tmp 39) = _ at p39
      refine turn_plain (ok_is ?_ rfl)
      simp only [execOp, hcst, p35, p39]; go_simp; try exact rfl
    refine ⟨fun ρ W ⟨hcst, hglb, hfun⟩ hX hp ho => ?_, ?_⟩ -- 14: slot 41 := Op.move t40
    · obtain ⟨p40, -⟩ := hp
      change ρ (.tmp 40) = _ at p40
      refine turn_plain (ok_is ?_ rfl)
      simp only [execOp, p40]; go_simp; try exact rfl
    refine ⟨fun ρ W ⟨hcst, hglb, hfun⟩ hX hp ho => ?_, ?_⟩ -- 15: slot 42 := Op.move t0   [guarded: some (14, true)]
    · obtain ⟨p41, -⟩ := hp
      change ρ (.tmp 41) = _ at p41
      obtain ⟨o0, -⟩ := ho
      change ρ (.tmp 0) = _ at o0
      refine turn_yes p41 (ok_is ?_ rfl)
      simp only [execOp, o0]; go_simp; try exact rfl
    refine ⟨fun ρ W ⟨hcst, hglb, hfun⟩ hX hp ho => ?_, ?_⟩ -- 16: slot 43 := Op.move t1   [guarded: some (14, true)]
    · obtain ⟨p41, -⟩ := hp
      change ρ (.tmp 41) = _ at p41
      obtain ⟨o1, -⟩ := ho
      change ρ (.tmp 1) = _ at o1
      refine turn_yes p41 (ok_is ?_ rfl)
      simp only [execOp, o1]; go_simp; try exact rfl
    refine ⟨fun ρ W ⟨hcst, hglb, hfun⟩ hX hp ho => ?_, ?_⟩ -- 17: slot 44 := Op.call { value (Operand.func 33), args := #[t42, t43], argTypes := #[36, 22] }   [guarded
    · obtain ⟨p42, p43, p41, -⟩ := hp
      change ρ (.tmp 42) = _ at p42
      change ρ (.tmp 43) = _ at p43
      change ρ (.tmp 41) = _ at p41
      have hW := (Below.refl _ _).drew.trans hX
      refine turn_yes p41 ?_
      have ce := @enter_of Tryd.prog 33 _ Tryd.func33 (by kernel_rfl) (by kernel_rfl)
      refine ok_call (op_call2 hfun ce (by exact rfl) p42 p43) ?_
      refine (vput_any A l.length c l v W rfl (by have := HLE.out; omega) (Sb.out.later hW (Nat.le_refl _)) HV.out).mono ?_
      rintro e W' ⟨A', c', rfl, hat, bel, -, -⟩
      exact ⟨_, rfl, bel, ⟨A', c', rfl, hat⟩⟩
    refine ⟨fun ρ W ⟨hcst, hglb, hfun⟩ hX hp ho => ?_, ?_⟩ -- 18: slot 45 := Op.convert 36 9 t44   [guarded: some (14, true)]
    · obtain ⟨p44, p41, -⟩ := hp
      obtain ⟨A44, c44, p44, hat44⟩ := p44
      change ρ (.tmp 44) = _ at p44
      change ρ (.tmp 41) = _ at p41
      have hW := (Below.refl _ _).drew.trans hX
      refine turn_yes p41 ?_
      refine ok_is (by simp only [execOp, p44]; rw [Sem.run_bind, run_str W elt_u8.ht (by kernel_rfl) (by kernel_rfl) rfl hat44]; rfl) rfl
    refine ⟨fun ρ W ⟨hcst, hglb, hfun⟩ hX hp ho => ?_, ?_⟩ -- 19: slot 46 := Op.move t0   [guarded: some (14, true)]
    · obtain ⟨p41, -⟩ := hp
      change ρ (.tmp 41) = _ at p41
      obtain ⟨o0, -⟩ := ho
      change ρ (.tmp 0) = _ at o0
      refine turn_yes p41 (ok_is ?_ rfl)
      simp only [execOp, o0]; go_simp; try exact rfl
    refine ⟨fun ρ W ⟨hcst, hglb, hfun⟩ hX hp ho => ?_, ?_⟩ -- 20: slot 47 := Op.move t1   [guarded: some (14, true)]
    · obtain ⟨p41, -⟩ := hp
      change ρ (.tmp 41) = _ at p41
      obtain ⟨o1, -⟩ := ho
      change ρ (.tmp 1) = _ at o1
      refine turn_yes p41 (ok_is ?_ rfl)
      simp only [execOp, o1]; go_simp; try exact rfl
    refine ⟨fun ρ W ⟨hcst, hglb, hfun⟩ hX hp ho => ?_, ?_⟩ -- 21: slot 48 := Op.call { value (Operand.func 34), args := #[t46, t47], argTypes := #[36, 22] }   [guarded
    · obtain ⟨p46, p47, p41, -⟩ := hp
      change ρ (.tmp 46) = _ at p46
      change ρ (.tmp 47) = _ at p47
      change ρ (.tmp 41) = _ at p41
      have hW := (Below.refl _ _).drew.trans hX
      refine turn_yes p41 ?_
      have ce := @enter_of Tryd.prog 34 _ Tryd.func34 (by kernel_rfl) (by kernel_rfl)
      refine ok_call (op_call2 hfun ce (by exact rfl) p46 p47) ?_
      refine (rput_any A l.length c l v W rfl (by have := HLE.out; omega) (Sb.out.later hW (Nat.le_refl _)) HV.out).mono ?_
      rintro e W' ⟨A', c', rfl, hat, bel, -, -⟩
      exact ⟨_, rfl, bel, ⟨A', c', rfl, hat⟩⟩
    refine ⟨fun ρ W ⟨hcst, hglb, hfun⟩ hX hp ho => ?_, ?_⟩ -- 22: slot 49 := Op.convert 36 9 t48   [guarded: some (14, true)]
    · obtain ⟨p48, p41, -⟩ := hp
      obtain ⟨A48, c48, p48, hat48⟩ := p48
      change ρ (.tmp 48) = _ at p48
      change ρ (.tmp 41) = _ at p41
      have hW := (Below.refl _ _).drew.trans hX
      refine turn_yes p41 ?_
      refine ok_is (by simp only [execOp, p48]; rw [Sem.run_bind, run_str W elt_u8.ht (by kernel_rfl) (by kernel_rfl) rfl hat48]; rfl) rfl
    refine ⟨fun ρ W ⟨hcst, hglb, hfun⟩ hX hp ho => ?_, ?_⟩ -- 23: slot 50 := Op.binOp BinOp.eql 9 t45 t49 9   [guarded: some (14, true)]
    · obtain ⟨p45, p49, p41, -⟩ := hp
      change ρ (.tmp 45) = _ at p45
      change ρ (.tmp 49) = _ at p49
      change ρ (.tmp 41) = _ at p41
      refine turn_yes p41 (ok_is ?_ rfl)
      simp only [execOp, p45, p49]; go_simp; try exact rfl
    refine ⟨fun ρ W ⟨hcst, hglb, hfun⟩ hX hp ho => ?_, ?_⟩ -- 24: slot 51 := Op.pick t41 t50 (const (Value.bool false))
    · obtain ⟨p41, p50, -⟩ := hp
      change ρ (.tmp 41) = _ at p41
      change ρ (.tmp 50) = _ at p50
      refine turn_plain (ok_is ?_ rfl)
      simp only [execOp, hcst, p41, p50]; go_simp; try exact rfl
    refine ⟨fun ρ W ⟨hcst, hglb, hfun⟩ hX hp ho => ?_, ?_⟩ -- 25: slot 52 := Op.move t51
    · obtain ⟨p51, -⟩ := hp
      change ρ (.tmp 51) = _ at p51
      refine turn_plain (ok_is ?_ rfl)
      simp only [execOp, p51]; go_simp; try exact rfl
    refine ⟨fun ρ W ⟨hcst, hglb, hfun⟩ hX hp ho => ?_, ?_⟩ -- 26: slot 53 := Op.move t1   [guarded: some (25, true)]
    · obtain ⟨p52, -⟩ := hp
      change ρ (.tmp 52) = _ at p52
      obtain ⟨o1, -⟩ := ho
      change ρ (.tmp 1) = _ at o1
      refine turn_yes p52 (ok_is ?_ rfl)
      simp only [execOp, o1]; go_simp; try exact rfl
    refine ⟨fun ρ W ⟨hcst, hglb, hfun⟩ hX hp ho => ?_, ?_⟩ -- 27: slot 54 := Op.call { value (Operand.func 35), args := #[t53], argTypes := #[22] }   [guarded: some (2
    · obtain ⟨p53, p52, -⟩ := hp
      change ρ (.tmp 53) = _ at p53
      change ρ (.tmp 52) = _ at p52
      have hW := (Below.refl _ _).drew.trans hX
      refine turn_yes p52 ?_
      have ce := @enter_of Tryd.prog 35 _ Tryd.func35 (by kernel_rfl) (by kernel_rfl)
      refine ok_call (op_call1 hfun ce (by exact rfl) p53) ?_
      refine (vsize_any v W HV.out).mono ?_
      rintro e W' ⟨rfl, rfl⟩
      exact ⟨_, rfl, Below.refl _ _, rfl⟩
    refine ⟨fun ρ W ⟨hcst, hglb, hfun⟩ hX hp ho => ?_, ?_⟩ -- 28: slot 55 := Op.move t1   [guarded: some (25, true)]
    · obtain ⟨p52, -⟩ := hp
      change ρ (.tmp 52) = _ at p52
      obtain ⟨o1, -⟩ := ho
      change ρ (.tmp 1) = _ at o1
      refine turn_yes p52 (ok_is ?_ rfl)
      simp only [execOp, o1]; go_simp; try exact rfl
    refine ⟨fun ρ W ⟨hcst, hglb, hfun⟩ hX hp ho => ?_, ?_⟩ -- 29: slot 56 := Op.call { value (Operand.func 34), args := #[const (Value.slice none 0 0), t55], argTypes 
    · obtain ⟨p55, p52, -⟩ := hp
      change ρ (.tmp 55) = _ at p55
      change ρ (.tmp 52) = _ at p52
      have hW := (Below.refl _ _).drew.trans hX
      refine turn_yes p52 ?_
      have ce := @enter_of Tryd.prog 34 _ Tryd.func34 (by kernel_rfl) (by kernel_rfl)
      refine ok_call (op_call2 hfun ce (by exact rfl) (hcst _) p55) ?_
      refine (rput_any none 0 0 [] v W rfl (by omega) (At.nil _ _) HV.out).mono ?_
      rintro e W' ⟨A', c', rfl, hat, bel, -, -⟩
      exact ⟨_, rfl, bel, ⟨A', c', rfl, hat⟩⟩
    refine ⟨fun ρ W ⟨hcst, hglb, hfun⟩ hX hp ho => ?_, ?_⟩ -- 30: slot 57 := Op.call { builtin len, args := #[t56], argTypes := #[36] }   [guarded: some (25, true)]
    · obtain ⟨p56, p52, -⟩ := hp
      obtain ⟨A56, c56, p56, hat56⟩ := p56
      change ρ (.tmp 56) = _ at p56
      change ρ (.tmp 52) = _ at p52
      refine turn_yes p52 (ok_is ?_ rfl)
      simp only [execOp, p56]; go_simp; try exact rfl
    refine ⟨fun ρ W ⟨hcst, hglb, hfun⟩ hX hp ho => ?_, ?_⟩ -- 31: slot 58 := Op.binOp BinOp.eql 3 t54 t57 3   [guarded: some (25, true)]
    · obtain ⟨p54, p57, p52, -⟩ := hp
      change ρ (.tmp 54) = _ at p54
      change ρ (.tmp 57) = _ at p57
      change ρ (.tmp 52) = _ at p52
      have hel := HEL.out
      refine turn_yes p52 (ok_is ?_ rfl)
      simp only [execOp, p54, p57]; go_simp; try exact rfl
    refine ⟨fun ρ W ⟨hcst, hglb, hfun⟩ hX hp ho => ?_, ?_⟩ -- 32: slot 59 := Op.pick t52 t58 (const (Value.bool false))
    · obtain ⟨p52, p58, -⟩ := hp
      change ρ (.tmp 52) = _ at p52
      change ρ (.tmp 58) = _ at p58
      refine turn_plain (ok_is ?_ rfl)
      simp only [execOp, hcst, p52, p58]; go_simp; try exact rfl
    refine ⟨fun ρ W ⟨hcst, hglb, hfun⟩ hX hp ho => ?_, ?_⟩ -- 33: slot 60 := Op.move t59
    · obtain ⟨p59, -⟩ := hp
      change ρ (.tmp 59) = _ at p59
      refine turn_plain (ok_is ?_ rfl)
      simp only [execOp, p59]; go_simp; try exact rfl
    refine ⟨fun ρ W ⟨hcst, hglb, hfun⟩ hX hp ho => ?_, ?_⟩ -- 34: slot 61 := Op.call { value (Operand.func 29), args := #[], argTypes := #[] }   [guarded: some (33, tr
    · obtain ⟨p60, -⟩ := hp
      change ρ (.tmp 60) = _ at p60
      have hW := (Below.refl _ _).drew.trans hX
      refine turn_yes p60 ?_
      have ce := @enter_of Tryd.prog 29 _ Tryd.func29 (by kernel_rfl) (by kernel_rfl)
      refine ok_call (op_call0 hfun ce (by exact rfl) ) ?_
      refine (sure11 W (HG.out.later hW (Nat.le_refl _))).mono ?_
      rintro e W' ⟨rfl, bel⟩
      exact ⟨_, rfl, bel, rfl⟩
    refine ⟨fun ρ W ⟨hcst, hglb, hfun⟩ hX hp ho => ?_, ?_⟩ -- 35: slot 62 := Op.pick t60 t61 (const (Value.bool false))
    · obtain ⟨p60, p61, -⟩ := hp
      change ρ (.tmp 60) = _ at p60
      change ρ (.tmp 61) = _ at p61
      refine turn_plain (ok_is ?_ rfl)
      simp only [execOp, hcst, p60, p61]; go_simp; try exact rfl
    refine ⟨fun ρ W ⟨hcst, hglb, hfun⟩ hX hp ho => ?_, ?_⟩ -- 36: slot 4 := Op.assign t62
    · obtain ⟨p62, -⟩ := hp
      change ρ (.tmp 62) = _ at p62
      refine turn_plain (ok_is ?_ rfl)
      simp only [execOp, p62]; go_simp; try exact rfl
    exact trivial
  case finc =>
    intro a W hX hsz hdf hold hR
    have hv := hR 36 4 rfl
    change a.tmps.getD 4 undef = _ at hv
    clear hold hR hsz
    go_wp2_with fail
    exact post_letter rfl hv hdf ⟨rfl, HB.out.trans (hX.mono HB.out.size)⟩
set_option maxRecDepth 100000 in
set_option maxHeartbeats 4000000 in
theorem vbytes_none (A : Option Addr) (c : Nat) (l : List Nat) (v : Nat) (w : World) (hl : l.length ≤ 300) (hnc : l.length ≤ c) (hc63 : c ≤ 9223372036854775807) (ha : At w A (nats .u8 l)) (hr : ∀ y ∈ l, y < 256) (hv : v < 18446744073709551616) (hg : Glob w) (hd : VM.dec l = none) :
    Calls Tryd.prog 6 #[.slice A l.length c, .int .u64 v] w fun e w' => e = .returned (.bool true) ∧ Below w.heap.size w w' := by
  have HG := Lib.hid hg
  have Sb := Lib.hid ha
  have HR := Lib.hid hr
  have HV := Lib.hid hv
  have HD := Lib.hid hd
  have HLE := Lib.hid hl
  have hel := VM.enc_length v
  have HEL := Lib.hid hel
  clear hg ha hr hd hv hel
  go_enter Tryd.func6, Tryd.ntmps6
  have HB := Lib.hid (Below.refl w.heap.size w)
  go_wp2_with fail
  refine (val_eq (.tuple #[.int .u64 0, .int .i64 0, .iface 87 (.int .i64 3)]) (vgot_none HD.out) (vget_any A l.length c l _ rfl (by omega) hnc hc63 Sb.out HR.out)).mono ?_
  rintro e w' ⟨rfl, rfl⟩
  go_wp2_with fail
  refine (valB_eq (.tuple #[.int .u64 0, .int .i64 0, .int .i64 3]) (rgot_none HD.out) (rget_any A l.length c l _ rfl (by omega) hnc hc63 Sb.out HR.out)).mono ?_
  rintro e w1 ⟨rfl, bel⟩
  replace HB := Lib.hid (HB.out.trans (bel.mono HB.out.size))
  replace Sb := Lib.hid (Sb.out.later bel (Nat.le_refl _))
  replace HG := Lib.hid (HG.out.later bel (Nat.le_refl _))
  clear bel
  go_wp2_with fail
  refine wp_region_last [is ?c0, is ?c1, is ?c2, is ?c3, is ?c4, is ?c5, is ?c6, is ?c7, is ?c8, is ?c9, is (.int .i64 3), is ?c11, is ?c12, is ?c13, is ?c14, is ?c15, is ?c16, SlRB (l ++ VM.enc v), is ?c18, is ?c19, is ?c20, SlRB (l ++ VM.enc v), is ?c22, is ?c23, is ?c24, is ?c25, is ?c26, is (.int .i64 (VM.size v : Nat)), is ?c28, SlRB (VM.enc v), is ?c30, is ?c31, is ?c32, is ?c33, is (.bool true), is ?c35, is ?c36]
    [⟨[], [5], none⟩, ⟨[], [8], none⟩, ⟨[(27, 0), (28, 1)], [], none⟩, ⟨[(29, 2)], [], none⟩, ⟨[(30, 3)], [6], some (30, true)⟩, ⟨[(30, 3)], [9], some (30, true)⟩, ⟨[(31, 4), (32, 5), (30, 3)], [], some (30, true)⟩, ⟨[(30, 3), (33, 6)], [], none⟩, ⟨[(34, 7)], [], none⟩, ⟨[(35, 8)], [7], some (35, true)⟩, ⟨[(36, 9), (35, 8)], [], some (35, true)⟩, ⟨[(35, 8)], [10], some (35, true)⟩, ⟨[(37, 10), (38, 11), (35, 8)], [], some (35, true)⟩, ⟨[(35, 8), (39, 12)], [], none⟩, ⟨[(40, 13)], [], none⟩, ⟨[(41, 14)], [0], some (41, true)⟩, ⟨[(41, 14)], [1], some (41, true)⟩, ⟨[(42, 15), (43, 16), (41, 14)], [], some (41, true)⟩, ⟨[(44, 17), (41, 14)], [], some (41, true)⟩, ⟨[(41, 14)], [0], some (41, true)⟩, ⟨[(41, 14)], [1], some (41, true)⟩, ⟨[(46, 19), (47, 20), (41, 14)], [], some (41, true)⟩, ⟨[(48, 21), (41, 14)], [], some (41, true)⟩, ⟨[(45, 18), (49, 22), (41, 14)], [], some (41, true)⟩, ⟨[(41, 14), (50, 23)], [], none⟩, ⟨[(51, 24)], [], none⟩, ⟨[(52, 25)], [1], some (52, true)⟩, ⟨[(53, 26), (52, 25)], [], some (52, true)⟩, ⟨[(52, 25)], [1], some (52, true)⟩, ⟨[(55, 28), (52, 25)], [], some (52, true)⟩, ⟨[(56, 29), (52, 25)], [], some (52, true)⟩, ⟨[(54, 27), (57, 30), (52, 25)], [], some (52, true)⟩, ⟨[(52, 25), (58, 31)], [], none⟩, ⟨[(59, 32)], [], none⟩, ⟨[(60, 33)], [], some (60, true)⟩, ⟨[(60, 33), (61, 34)], [], none⟩, ⟨[(62, 35)], [], none⟩] (by kernel_rfl) (by kernel_rfl) (by kernel_rfl) (by kernel_rfl) (by kernel_rfl) ?monoc ?stepsc ?finc
  case monoc => exact ⟨mono_eq _, mono_eq _, mono_eq _, mono_eq _, mono_eq _, mono_eq _, mono_eq _, mono_eq _, mono_eq _, mono_eq _, mono_eq _, mono_eq _, mono_eq _, mono_eq _, mono_eq _, mono_eq _, mono_eq _, mono_slb _, mono_eq _, mono_eq _, mono_eq _, mono_slb _, mono_eq _, mono_eq _, mono_eq _, mono_eq _, mono_eq _, mono_eq _, mono_eq _, mono_slb _, mono_eq _, mono_eq _, mono_eq _, mono_eq _, mono_eq _, mono_eq _, mono_eq _, trivial⟩
  case stepsc =>
    refine ⟨fun ρ W ⟨hcst, hglb, hfun⟩ hX hp ho => ?_, ?_⟩ -- 0: slot 27 := Op.move t5
    · obtain ⟨o5, -⟩ := ho
      change ρ (.tmp 5) = _ at o5
      refine turn_plain (ok_is ?_ rfl)
      simp only [execOp, o5]; go_simp; try exact rfl
    refine ⟨fun ρ W ⟨hcst, hglb, hfun⟩ hX hp ho => ?_, ?_⟩ -- 1: slot 28 := Op.move t8
    · obtain ⟨o8, -⟩ := ho
      change ρ (.tmp 8) = _ at o8
      refine turn_plain (ok_is ?_ rfl)
      simp only [execOp, o8]; go_simp; try exact rfl
    refine ⟨fun ρ W ⟨hcst, hglb, hfun⟩ hX hp ho => ?_, ?_⟩ -- 2: slot 29 := Op.binOp BinOp.eql 22 t27 t28 22
    · obtain ⟨p27, p28, -⟩ := hp
      change ρ (.tmp 27) = _ at p27
      change ρ (.tmp 28) = _ at p28
      refine turn_plain (ok_is ?_ rfl)
      simp only [execOp, p27, p28]; go_simp; try exact rfl
    refine ⟨fun ρ W ⟨hcst, hglb, hfun⟩ hX hp ho => ?_, ?_⟩ -- 3: slot 30 := Op.move t29
    · obtain ⟨p29, -⟩ := hp
      change ρ (.tmp 29) = _ at p29
      refine turn_plain (ok_is ?_ rfl)
      simp only [execOp, p29]; go_simp; try exact rfl
    refine ⟨fun ρ W ⟨hcst, hglb, hfun⟩ hX hp ho => ?_, ?_⟩ -- 4: slot 31 := Op.move t6   [guarded: some (3, true)]
    · obtain ⟨p30, -⟩ := hp
      change ρ (.tmp 30) = _ at p30
      obtain ⟨o6, -⟩ := ho
      change ρ (.tmp 6) = _ at o6
      refine turn_yes p30 (ok_is ?_ rfl)
      simp only [execOp, o6]; go_simp; try exact rfl
    refine ⟨fun ρ W ⟨hcst, hglb, hfun⟩ hX hp ho => ?_, ?_⟩ -- 5: slot 32 := Op.move t9   [guarded: some (3, true)]
    · obtain ⟨p30, -⟩ := hp
      change ρ (.tmp 30) = _ at p30
      obtain ⟨o9, -⟩ := ho
      change ρ (.tmp 9) = _ at o9
      refine turn_yes p30 (ok_is ?_ rfl)
      simp only [execOp, o9]; go_simp; try exact rfl
    refine ⟨fun ρ W ⟨hcst, hglb, hfun⟩ hX hp ho => ?_, ?_⟩ -- 6: slot 33 := Op.binOp BinOp.eql 3 t31 t32 3   [guarded: some (3, true)]
    · obtain ⟨p31, p32, p30, -⟩ := hp
      change ρ (.tmp 31) = _ at p31
      change ρ (.tmp 32) = _ at p32
      change ρ (.tmp 30) = _ at p30
      refine turn_yes p30 (ok_is ?_ rfl)
      simp only [execOp, p31, p32]; go_simp; try exact rfl
    refine ⟨fun ρ W ⟨hcst, hglb, hfun⟩ hX hp ho => ?_, ?_⟩ -- 7: slot 34 := Op.pick t30 t33 (const (Value.bool false))
    · obtain ⟨p30, p33, -⟩ := hp
      change ρ (.tmp 30) = _ at p30
      change ρ (.tmp 33) = _ at p33
      refine turn_plain (ok_is ?_ rfl)
      simp only [execOp, hcst, p30, p33]; go_simp; try exact rfl
    refine ⟨fun ρ W ⟨hcst, hglb, hfun⟩ hX hp ho => ?_, ?_⟩ -- 8: slot 35 := Op.move t34
    · obtain ⟨p34, -⟩ := hp
      change ρ (.tmp 34) = _ at p34
      refine turn_plain (ok_is ?_ rfl)
      simp only [execOp, p34]; go_simp; try exact rfl
    refine ⟨fun ρ W ⟨hcst, hglb, hfun⟩ hX hp ho => ?_, ?_⟩ -- 9: slot 36 := Op.move t7   [guarded: some (8, true)]
    · obtain ⟨p35, -⟩ := hp
      change ρ (.tmp 35) = _ at p35
      obtain ⟨o7, -⟩ := ho
      change ρ (.tmp 7) = _ at o7
      refine turn_yes p35 (ok_is ?_ rfl)
      simp only [execOp, o7]; go_simp; try exact rfl
    refine ⟨fun ρ W ⟨hcst, hglb, hfun⟩ hX hp ho => ?_, ?_⟩ -- 10: slot 37 := Op.call { value (Operand.func 32), args := #[t36], argTypes := #[24] }   [guarded: some (8
    · obtain ⟨p36, p35, -⟩ := hp
      change ρ (.tmp 36) = _ at p36
      change ρ (.tmp 35) = _ at p35
      have hW := (Below.refl _ _).drew.trans hX
      refine turn_yes p35 ?_
      have ce := @enter_of Tryd.prog 32 _ Tryd.func32 (by kernel_rfl) (by kernel_rfl)
      refine ok_call (op_call1 hfun ce (by exact rfl) p36) ?_
      refine (num11_err 3 W (HG.out.later hW (Nat.le_refl _))).mono ?_
      rintro e W' ⟨rfl, bel⟩
      exact ⟨_, rfl, bel, rfl⟩
    refine ⟨fun ρ W ⟨hcst, hglb, hfun⟩ hX hp ho => ?_, ?_⟩ -- 11: slot 38 := Op.move t10   [guarded: some (8, true)]
    · obtain ⟨p35, -⟩ := hp
      change ρ (.tmp 35) = _ at p35
      obtain ⟨o10, -⟩ := ho
      change ρ (.tmp 10) = _ at o10
      refine turn_yes p35 (ok_is ?_ rfl)
      simp only [execOp, o10]; go_simp; try exact rfl
    refine ⟨fun ρ W ⟨hcst, hglb, hfun⟩ hX hp ho => ?_, ?_⟩ -- 12: slot 39 := Op.binOp BinOp.eql 3 t37 t38 3   [guarded: some (8, true)]
    · obtain ⟨p37, p38, p35, -⟩ := hp
      change ρ (.tmp 37) = _ at p37
      change ρ (.tmp 38) = _ at p38
      change ρ (.tmp 35) = _ at p35
      refine turn_yes p35 (ok_is ?_ rfl)
      simp only [execOp, p37, p38]; go_simp; try exact rfl
    refine ⟨fun ρ W ⟨hcst, hglb, hfun⟩ hX hp ho => ?_, ?_⟩ -- 13: slot 40 := Op.pick t35 t39 (const (Value.bool false))
    · obtain ⟨p35, p39, -⟩ := hp
      change ρ (.tmp 35) = _ at p35
      change ρ (.tmp 39) = _ at p39
      refine turn_plain (ok_is ?_ rfl)
      simp only [execOp, hcst, p35, p39]; go_simp; try exact rfl
    refine ⟨fun ρ W ⟨hcst, hglb, hfun⟩ hX hp ho => ?_, ?_⟩ -- 14: slot 41 := Op.move t40
    · obtain ⟨p40, -⟩ := hp
      change ρ (.tmp 40) = _ at p40
      refine turn_plain (ok_is ?_ rfl)
      simp only [execOp, p40]; go_simp; try exact rfl
    refine ⟨fun ρ W ⟨hcst, hglb, hfun⟩ hX hp ho => ?_, ?_⟩ -- 15: slot 42 := Op.move t0   [guarded: some (14, true)]
    · obtain ⟨p41, -⟩ := hp
      change ρ (.tmp 41) = _ at p41
      obtain ⟨o0, -⟩ := ho
      change ρ (.tmp 0) = _ at o0
      refine turn_yes p41 (ok_is ?_ rfl)
      simp only [execOp, o0]; go_simp; try exact rfl
    refine ⟨fun ρ W ⟨hcst, hglb, hfun⟩ hX hp ho => ?_, ?_⟩ -- 16: slot 43 := Op.move t1   [guarded: some (14, true)]
    · obtain ⟨p41, -⟩ := hp
      change ρ (.tmp 41) = _ at p41
      obtain ⟨o1, -⟩ := ho
      change ρ (.tmp 1) = _ at o1
      refine turn_yes p41 (ok_is ?_ rfl)
      simp only [execOp, o1]; go_simp; try exact rfl
    refine ⟨fun ρ W ⟨hcst, hglb, hfun⟩ hX hp ho => ?_, ?_⟩ -- 17: slot 44 := Op.call { value (Operand.func 33), args := #[t42, t43], argTypes := #[36, 22] }   [guarded
    · obtain ⟨p42, p43, p41, -⟩ := hp
      change ρ (.tmp 42) = _ at p42
      change ρ (.tmp 43) = _ at p43
      change ρ (.tmp 41) = _ at p41
      have hW := (Below.refl _ _).drew.trans hX
      refine turn_yes p41 ?_
      have ce := @enter_of Tryd.prog 33 _ Tryd.func33 (by kernel_rfl) (by kernel_rfl)
      refine ok_call (op_call2 hfun ce (by exact rfl) p42 p43) ?_
      refine (vput_any A l.length c l v W rfl (by have := HLE.out; omega) (Sb.out.later hW (Nat.le_refl _)) HV.out).mono ?_
      rintro e W' ⟨A', c', rfl, hat, bel, -, -⟩
      exact ⟨_, rfl, bel, ⟨A', c', rfl, hat⟩⟩
    refine ⟨fun ρ W ⟨hcst, hglb, hfun⟩ hX hp ho => ?_, ?_⟩ -- 18: slot 45 := Op.convert 36 9 t44   [guarded: some (14, true)]
    · obtain ⟨p44, p41, -⟩ := hp
      obtain ⟨A44, c44, p44, hat44⟩ := p44
      change ρ (.tmp 44) = _ at p44
      change ρ (.tmp 41) = _ at p41
      have hW := (Below.refl _ _).drew.trans hX
      refine turn_yes p41 ?_
      refine ok_is (by simp only [execOp, p44]; rw [Sem.run_bind, run_str W elt_u8.ht (by kernel_rfl) (by kernel_rfl) rfl hat44]; rfl) rfl
    refine ⟨fun ρ W ⟨hcst, hglb, hfun⟩ hX hp ho => ?_, ?_⟩ -- 19: slot 46 := Op.move t0   [guarded: some (14, true)]
    · obtain ⟨p41, -⟩ := hp
      change ρ (.tmp 41) = _ at p41
      obtain ⟨o0, -⟩ := ho
      change ρ (.tmp 0) = _ at o0
      refine turn_yes p41 (ok_is ?_ rfl)
      simp only [execOp, o0]; go_simp; try exact rfl
    refine ⟨fun ρ W ⟨hcst, hglb, hfun⟩ hX hp ho => ?_, ?_⟩ -- 20: slot 47 := Op.move t1   [guarded: some (14, true)]
    · obtain ⟨p41, -⟩ := hp
      change ρ (.tmp 41) = _ at p41
      obtain ⟨o1, -⟩ := ho
      change ρ (.tmp 1) = _ at o1
      refine turn_yes p41 (ok_is ?_ rfl)
      simp only [execOp, o1]; go_simp; try exact rfl
    refine ⟨fun ρ W ⟨hcst, hglb, hfun⟩ hX hp ho => ?_, ?_⟩ -- 21: slot 48 := Op.call { value (Operand.func 34), args := #[t46, t47], argTypes := #[36, 22] }   [guarded
    · obtain ⟨p46, p47, p41, -⟩ := hp
      change ρ (.tmp 46) = _ at p46
      change ρ (.tmp 47) = _ at p47
      change ρ (.tmp 41) = _ at p41
      have hW := (Below.refl _ _).drew.trans hX
      refine turn_yes p41 ?_
      have ce := @enter_of Tryd.prog 34 _ Tryd.func34 (by kernel_rfl) (by kernel_rfl)
      refine ok_call (op_call2 hfun ce (by exact rfl) p46 p47) ?_
      refine (rput_any A l.length c l v W rfl (by have := HLE.out; omega) (Sb.out.later hW (Nat.le_refl _)) HV.out).mono ?_
      rintro e W' ⟨A', c', rfl, hat, bel, -, -⟩
      exact ⟨_, rfl, bel, ⟨A', c', rfl, hat⟩⟩
    refine ⟨fun ρ W ⟨hcst, hglb, hfun⟩ hX hp ho => ?_, ?_⟩ -- 22: slot 49 := Op.convert 36 9 t48   [guarded: some (14, true)]
    · obtain ⟨p48, p41, -⟩ := hp
      obtain ⟨A48, c48, p48, hat48⟩ := p48
      change ρ (.tmp 48) = _ at p48
      change ρ (.tmp 41) = _ at p41
      have hW := (Below.refl _ _).drew.trans hX
      refine turn_yes p41 ?_
      refine ok_is (by simp only [execOp, p48]; rw [Sem.run_bind, run_str W elt_u8.ht (by kernel_rfl) (by kernel_rfl) rfl hat48]; rfl) rfl
    refine ⟨fun ρ W ⟨hcst, hglb, hfun⟩ hX hp ho => ?_, ?_⟩ -- 23: slot 50 := Op.binOp BinOp.eql 9 t45 t49 9   [guarded: some (14, true)]
    · obtain ⟨p45, p49, p41, -⟩ := hp
      change ρ (.tmp 45) = _ at p45
      change ρ (.tmp 49) = _ at p49
      change ρ (.tmp 41) = _ at p41
      refine turn_yes p41 (ok_is ?_ rfl)
      simp only [execOp, p45, p49]; go_simp; try exact rfl
    refine ⟨fun ρ W ⟨hcst, hglb, hfun⟩ hX hp ho => ?_, ?_⟩ -- 24: slot 51 := Op.pick t41 t50 (const (Value.bool false))
    · obtain ⟨p41, p50, -⟩ := hp
      change ρ (.tmp 41) = _ at p41
      change ρ (.tmp 50) = _ at p50
      refine turn_plain (ok_is ?_ rfl)
      simp only [execOp, hcst, p41, p50]; go_simp; try exact rfl
    refine ⟨fun ρ W ⟨hcst, hglb, hfun⟩ hX hp ho => ?_, ?_⟩ -- 25: slot 52 := Op.move t51
    · obtain ⟨p51, -⟩ := hp
      change ρ (.tmp 51) = _ at p51
      refine turn_plain (ok_is ?_ rfl)
      simp only [execOp, p51]; go_simp; try exact rfl
    refine ⟨fun ρ W ⟨hcst, hglb, hfun⟩ hX hp ho => ?_, ?_⟩ -- 26: slot 53 := Op.move t1   [guarded: some (25, true)]
    · obtain ⟨p52, -⟩ := hp
      change ρ (.tmp 52) = _ at p52
      obtain ⟨o1, -⟩ := ho
      change ρ (.tmp 1) = _ at o1
      refine turn_yes p52 (ok_is ?_ rfl)
      simp only [execOp, o1]; go_simp; try exact rfl
    refine ⟨fun ρ W ⟨hcst, hglb, hfun⟩ hX hp ho => ?_, ?_⟩ -- 27: slot 54 := Op.call { value (Operand.func 35), args := #[t53], argTypes := #[22] }   [guarded: some (2
    · obtain ⟨p53, p52, -⟩ := hp
      change ρ (.tmp 53) = _ at p53
      change ρ (.tmp 52) = _ at p52
      have hW := (Below.refl _ _).drew.trans hX
      refine turn_yes p52 ?_
      have ce := @enter_of Tryd.prog 35 _ Tryd.func35 (by kernel_rfl) (by kernel_rfl)
      refine ok_call (op_call1 hfun ce (by exact rfl) p53) ?_
      refine (vsize_any v W HV.out).mono ?_
      rintro e W' ⟨rfl, rfl⟩
      exact ⟨_, rfl, Below.refl _ _, rfl⟩
    refine ⟨fun ρ W ⟨hcst, hglb, hfun⟩ hX hp ho => ?_, ?_⟩ -- 28: slot 55 := Op.move t1   [guarded: some (25, true)]
    · obtain ⟨p52, -⟩ := hp
      change ρ (.tmp 52) = _ at p52
      obtain ⟨o1, -⟩ := ho
      change ρ (.tmp 1) = _ at o1
      refine turn_yes p52 (ok_is ?_ rfl)
      simp only [execOp, o1]; go_simp; try exact rfl
    refine ⟨fun ρ W ⟨hcst, hglb, hfun⟩ hX hp ho => ?_, ?_⟩ -- 29: slot 56 := Op.call { value (Operand.func 34), args := #[const (Value.slice none 0 0), t55], argTypes 
    · obtain ⟨p55, p52, -⟩ := hp
      change ρ (.tmp 55) = _ at p55
      change ρ (.tmp 52) = _ at p52
      have hW := (Below.refl _ _).drew.trans hX
      refine turn_yes p52 ?_
      have ce := @enter_of Tryd.prog 34 _ Tryd.func34 (by kernel_rfl) (by kernel_rfl)
      refine ok_call (op_call2 hfun ce (by exact rfl) (hcst _) p55) ?_
      refine (rput_any none 0 0 [] v W rfl (by omega) (At.nil _ _) HV.out).mono ?_
      rintro e W' ⟨A', c', rfl, hat, bel, -, -⟩
      exact ⟨_, rfl, bel, ⟨A', c', rfl, hat⟩⟩
    refine ⟨fun ρ W ⟨hcst, hglb, hfun⟩ hX hp ho => ?_, ?_⟩ -- 30: slot 57 := Op.call { builtin len, args := #[t56], argTypes := #[36] }   [guarded: some (25, true)]
    · obtain ⟨p56, p52, -⟩ := hp
      obtain ⟨A56, c56, p56, hat56⟩ := p56
      change ρ (.tmp 56) = _ at p56
      change ρ (.tmp 52) = _ at p52
      refine turn_yes p52 (ok_is ?_ rfl)
      simp only [execOp, p56]; go_simp; try exact rfl
    refine ⟨fun ρ W ⟨hcst, hglb, hfun⟩ hX hp ho => ?_, ?_⟩ -- 31: slot 58 := Op.binOp BinOp.eql 3 t54 t57 3   [guarded: some (25, true)]
    · obtain ⟨p54, p57, p52, -⟩ := hp
      change ρ (.tmp 54) = _ at p54
      change ρ (.tmp 57) = _ at p57
      change ρ (.tmp 52) = _ at p52
      have hel := HEL.out
      refine turn_yes p52 (ok_is ?_ rfl)
      simp only [execOp, p54, p57]; go_simp; try exact rfl
    refine ⟨fun ρ W ⟨hcst, hglb, hfun⟩ hX hp ho => ?_, ?_⟩ -- 32: slot 59 := Op.pick t52 t58 (const (Value.bool false))
    · obtain ⟨p52, p58, -⟩ := hp
      change ρ (.tmp 52) = _ at p52
      change ρ (.tmp 58) = _ at p58
      refine turn_plain (ok_is ?_ rfl)
      simp only [execOp, hcst, p52, p58]; go_simp; try exact rfl
    refine ⟨fun ρ W ⟨hcst, hglb, hfun⟩ hX hp ho => ?_, ?_⟩ -- 33: slot 60 := Op.move t59
    · obtain ⟨p59, -⟩ := hp
      change ρ (.tmp 59) = _ at p59
      refine turn_plain (ok_is ?_ rfl)
      simp only [execOp, p59]; go_simp; try exact rfl
    refine ⟨fun ρ W ⟨hcst, hglb, hfun⟩ hX hp ho => ?_, ?_⟩ -- 34: slot 61 := Op.call { value (Operand.func 29), args := #[], argTypes := #[] }   [guarded: some (33, tr
    · obtain ⟨p60, -⟩ := hp
      change ρ (.tmp 60) = _ at p60
      have hW := (Below.refl _ _).drew.trans hX
      refine turn_yes p60 ?_
      have ce := @enter_of Tryd.prog 29 _ Tryd.func29 (by kernel_rfl) (by kernel_rfl)
      refine ok_call (op_call0 hfun ce (by exact rfl) ) ?_
      refine (sure11 W (HG.out.later hW (Nat.le_refl _))).mono ?_
      rintro e W' ⟨rfl, bel⟩
      exact ⟨_, rfl, bel, rfl⟩
    refine ⟨fun ρ W ⟨hcst, hglb, hfun⟩ hX hp ho => ?_, ?_⟩ -- 35: slot 62 := Op.pick t60 t61 (const (Value.bool false))
    · obtain ⟨p60, p61, -⟩ := hp
      change ρ (.tmp 60) = _ at p60
      change ρ (.tmp 61) = _ at p61
      refine turn_plain (ok_is ?_ rfl)
      simp only [execOp, hcst, p60, p61]; go_simp; try exact rfl
    refine ⟨fun ρ W ⟨hcst, hglb, hfun⟩ hX hp ho => ?_, ?_⟩ -- 36: slot 4 := Op.assign t62
    · obtain ⟨p62, -⟩ := hp
      change ρ (.tmp 62) = _ at p62
      refine turn_plain (ok_is ?_ rfl)
      simp only [execOp, p62]; go_simp; try exact rfl
    exact trivial
  case finc =>
    intro a W hX hsz hdf hold hR
    have hv := hR 36 4 rfl
    change a.tmps.getD 4 undef = _ at hv
    clear hold hR hsz
    go_wp2_with fail
    exact post_letter rfl hv hdf ⟨rfl, HB.out.trans (hX.mono HB.out.size)⟩
set_option maxRecDepth 100000 in
theorem vbytes_big (A : Option Addr) (n c : Nat) (v : Nat) (w : World) (hl : 300 < n) (hn : n ≤ 9223372036854775807) (hg : Glob w) :
    Calls Tryd.prog 6 #[.slice A n c, .int .u64 v] w fun e w' => e = .returned (.bool true) ∧ Below w.heap.size w w' := by
  have HG := Lib.hid hg
  clear hg
  go_enter Tryd.func6, Tryd.ntmps6
  go_wp2_with fail
  refine (sure11 _ HG.out).mono ?_
  rintro e w1 ⟨rfl, bel⟩
  go_wp2_with fail
  go_ret
  exact ⟨rfl, bel⟩
theorem vbytes_any (A : Option Addr) (c : Nat) (l : List Nat) (v : Nat) (w : World) (hnc : l.length ≤ c) (hc63 : c ≤ 9223372036854775807) (ha : At w A (nats .u8 l)) (hr : ∀ y ∈ l, y < 256) (hv : v < 18446744073709551616) (hg : Glob w) :
    Calls Tryd.prog 6 #[.slice A l.length c, .int .u64 v] w fun e w' => e = .returned (.bool true) ∧ Below w.heap.size w w' := by
  by_cases hl : l.length ≤ 300
  · cases hd : VM.dec l with
    | none => exact vbytes_none A c l v w hl hnc hc63 ha hr hv hg hd
    | some p => exact vbytes_some A c l v p.1 p.2 w hl hnc hc63 ha hr hv hg hd
  · exact vbytes_big A l.length c v w (by omega) (by omega) hg
end Go.Proofs.YtbgmbemaopnjfaaDoor
