/- The walks of the sums of 32 bits, second part: the document's tail and its test, and the statements. -/
import Derived.Test.YtlimabhojocimaaDoorCrc
import Derived.Test.YtlimabhojocimaaDoorRegion
import Derived.WalkSpells
import Derived.Deep.QuietTactic
import Derived.BigQuiet
namespace Go.Proofs.YtlimabhojocimaaDoor
open Go.RowKit

theorem refMore0 (A : Option Addr) (n c : Nat) (l : List Nat) (w : World) (hn : l.length = n) (hm : n ≤ 9223372036854775807) (hr : At w A (nats .u8 l)) (hb : Crc.Bytes l) :
    Calls Tryd.prog 22 #[.int .u32 0, .slice A n c] w fun e w' => e = .returned (.int .u32 (Crc.sum l).toNat) ∧ w = w' := refMore_any 0 A n c l w hn hm hr hb
theorem tail_any (v : BitVec 32) (w : World) :
    Calls Tryd.prog 21 #[.int .u32 v.toNat] w fun e w' => e = .returned (.slice (some ⟨w.heap.size, 0, none⟩) 4 4) ∧ w' = w.alloc (.cells #[.int .u8 ((v.toNat / 16777216 : Nat) : Int), .int .u8 ((v.toNat / 65536 % 256 : Nat) : Int), .int .u8 ((v.toNat / 256 % 256 : Nat) : Int), .int .u8 ((v.toNat % 256 : Nat) : Int)] 5) := by
  have := v.isLt
  generalize v.toNat = x at this
  go_enter Tryd.func21, Tryd.ntmps21
  go_wp2
  go_ret
  exact ⟨rfl, rfl⟩
/-- a sum as four bytes -/
def tl (v : BitVec 32) : List Nat := [v.toNat / 16777216, v.toNat / 65536 % 256, v.toNat / 256 % 256, v.toNat % 256]
set_option maxRecDepth 100000 in
theorem elt_c8 : Elt Tryd.prog 22 5 (.int .u8 0) 1 1 where
  ht := by kernel_rfl
  hi := ⟨_, rfl, by kernel_rfl, by kernel_rfl, by kernel_rfl⟩
  hzs := rfl
  hsz := by decide
theorem tail_own (v : BitVec 32) (w : World) :
    Calls Tryd.prog 21 #[.int .u32 v.toNat] w fun e w' => e = .returned (.slice (some ⟨w.heap.size, 0, none⟩) 4 4) ∧ Own w' w.heap.size 5 1 (some ⟨w.heap.size, 0, none⟩) 4 4 (nats .u8 (tl v)) ∧ Below w.heap.size w w' ∧ w.heap.size < w'.heap.size :=
  (tail_any v w).mono fun e w' ⟨he, hw⟩ => ⟨he, by subst hw; exact Own.lit _ 4 (Nat.le_refl _) (by unfold maxLen; omega) rfl, by subst hw; exact (Below.refl _ _).alloc (Nat.le_refl _) _, by subst hw; simp⟩
theorem tl_bytes (v : BitVec 32) : Crc.Bytes (tl v) := by
  have := v.isLt
  intro i
  unfold tl
  match i with
  | 0 => simp; omega
  | 1 => simp; omega
  | 2 => simp; omega
  | 3 => simp; omega
  | n + 4 => simp
theorem tl_pre (v : BitVec 32) : Crc.pre (tl v) = v := by
  have h := v.isLt
  unfold tl
  rw [Crc.pre4]
  apply BitVec.eq_of_toNat_eq
  rw [Crc.be_toNat _ _ _ _ (by omega) (by omega) (by omega) (by omega)]
  omega
theorem below_tail {w : World} {o : Obj} : Below w.heap.size w (w.alloc o) := (Below.refl _ _).alloc (Nat.le_refl _) _
theorem tl_eq (v : BitVec 32) (l : List Nat) (hl : l.length = 4) (hb : Crc.Bytes l) : ((strN (tl v)).toList == (strN l).toList) = (v == Crc.pre l) := by
  have e : (tl v = l) ↔ v = Crc.pre l := by
    constructor
    · rintro rfl; rw [tl_pre]
    · intro h
      match l, hl with
      | [a, b, c, d], _ =>
        have ha := hb 0; have hb' := hb 1; have hc := hb 2; have hd := hb 3
        simp at ha hb' hc hd
        rw [h, tl, Crc.pre4, Crc.be_toNat _ _ _ _ ha hb' hc hd]
        have e1 : (((a * 256 + b) * 256 + c) * 256 + d) / 16777216 = a := by omega
        have e2 : (((a * 256 + b) * 256 + c) * 256 + d) / 65536 % 256 = b := by omega
        have e3 : (((a * 256 + b) * 256 + c) * 256 + d) / 256 % 256 = c := by omega
        have e4 : (((a * 256 + b) * 256 + c) * 256 + d) % 256 = d := by omega
        rw [e1, e2, e3, e4]
  rw [strN_beq (tl_bytes v) hb, Bool.eq_iff_iff, beq_iff_eq, beq_iff_eq, e]
set_option maxRecDepth 100000 in
set_option maxHeartbeats 4000000 in
theorem refFits_any (A : Option Addr) (n c : Nat) (l : List Nat) (w : World) (hn : l.length = n) (hc : n ≤ c) (hm : c ≤ 9223372036854775807) (hr : At w A (nats .u8 l)) (hb : Crc.Bytes l) :
    Calls Tryd.prog 28 #[.slice A n c] w fun e w' => e = .returned (.bool (Crc.Fits l)) ∧ Below w.heap.size w w' := by
  by_cases h4 : 4 ≤ n
  · obtain ⟨m, rfl⟩ : ∃ m, n = m + 4 := ⟨n - 4, by omega⟩
    obtain ⟨b, o, rfl, -⟩ := hr.nat 0 (by omega)
    have hbd : Crc.Bytes (l.drop m) := by intro i; have := hb (m + i); simpa [List.getD_eq_getElem?_getD] using this
    have hdl : (l.drop m).length = 4 := by simp; omega
    have hf : Crc.Fits l = ((strN (tl (Crc.sum (l.take m)))).toList == (strN (l.drop m)).toList) := by rw [tl_eq _ _ hdl hbd, Crc.fits_pre m l hn, Bool.beq_comm]
    have HF := Lib.hid hf; clear hf
    have hbt : Crc.Bytes (l.take m) := by
      intro i
      have := hb i
      simp [List.getD_eq_getElem?_getD, List.getElem?_take] at this ⊢
      split <;> simp_all
    have hat : At w (some ⟨b, o, none⟩) (nats .u8 (l.take m)) := by rw [nats_take]; exact hr.take
    have had : At w (some ⟨b, o + m, none⟩) (nats .u8 (l.drop m)) := by rw [nats_drop]; exact hr.cut
    have htl := Lib.hid (show (l.take m).length = m by simp; omega)
    have HD := Lib.hid hdl
    clear hr hn hdl
    generalize l.drop m = d at *
    generalize l.take m = t at *
    have hs := Lib.hid (fun (W : World) c (h : At W (some ⟨b, o, none⟩) (nats .u8 t)) => refMore0 (some ⟨b, o, none⟩) m c t W htl.out (by omega) h hbt)
    have b0 : ¬ c = m := by omega
    have b1 : (0 : Int) ≤ (m : Int) := by omega
    have b2 : (m : Int) ≤ (c : Int) := by omega
    have b3 : (m : Int) ≤ (m : Int) + 4 := by omega
    go_enter Tryd.func28, Tryd.ntmps28
    go_wp2
    refine wp_region_below [is ?c0, is ?c1, is ?c2, is ?c3, is ?c4, is ?c5, is (.int .u32 ((Crc.sum t).toNat : Int)), fun v W => ∃ A, v = .slice A 4 4 ∧ At W A (nats .u8 (tl (Crc.sum t))), is (.string (strN (tl (Crc.sum t)))), is ?c9, is ?c10, is ?c11, is (.string (strN d)), is ?c13, is ?c14, is ?c15]
      [⟨[], [3], none⟩, ⟨[(7, 0)], [], none⟩, ⟨[(8, 1)], [], none⟩, ⟨[(9, 2)], [0], some (9, true)⟩, ⟨[(9, 2)], [3], some (9, true)⟩, ⟨[(10, 3), (11, 4), (9, 2)], [], some (9, true)⟩, ⟨[(12, 5), (9, 2)], [], some (9, true)⟩, ⟨[(13, 6), (9, 2)], [], some (9, true)⟩, ⟨[(14, 7), (9, 2)], [], some (9, true)⟩, ⟨[(9, 2)], [0], some (9, true)⟩, ⟨[(9, 2)], [3], some (9, true)⟩, ⟨[(16, 9), (17, 10), (9, 2)], [], some (9, true)⟩, ⟨[(18, 11), (9, 2)], [], some (9, true)⟩, ⟨[(15, 8), (19, 12), (9, 2)], [], some (9, true)⟩, ⟨[(9, 2), (20, 13)], [], none⟩, ⟨[(21, 14)], [], none⟩] (by kernel_rfl) (by kernel_rfl) (by kernel_rfl) (by kernel_rfl) (by kernel_rfl) ?mono ?steps ?fin
    case mono => exact ⟨mono_eq _, mono_eq _, mono_eq _, mono_eq _, mono_eq _, mono_eq _, mono_eq _, (fun v W W' h hX => by obtain ⟨A, h1, h2⟩ := h; exact ⟨A, h1, h2.later hX (Nat.le_refl _)⟩), mono_eq _, mono_eq _, mono_eq _, mono_eq _, mono_eq _, mono_eq _, mono_eq _, mono_eq _, trivial⟩
    case steps =>
      refine ⟨fun ρ W ⟨hcst, hglb, hfun⟩ hX hp ho => ?_, ?_⟩ -- 0: slot 7 := Op.move t3
      · obtain ⟨o3, -⟩ := ho
        change ρ (.tmp 3) = _ at o3
        refine turn_plain (ok_is ?_ rfl)
        simp only [execOp, hcst, hfun, hglb, o3]; go_simp; try exact rfl
      refine ⟨fun ρ W ⟨hcst, hglb, hfun⟩ hX hp ho => ?_, ?_⟩ -- 1: slot 8 := Op.binOp BinOp.geq 3 t7 (const (0:i64)) 3
      · obtain ⟨p7, -⟩ := hp
        change ρ (.tmp 7) = _ at p7
        refine turn_plain (ok_is ?_ rfl)
        simp only [execOp, hcst, hfun, hglb, p7]; go_simp; try exact rfl
      refine ⟨fun ρ W ⟨hcst, hglb, hfun⟩ hX hp ho => ?_, ?_⟩ -- 2: slot 9 := Op.move t8
      · obtain ⟨p8, -⟩ := hp
        change ρ (.tmp 8) = _ at p8
        refine turn_plain (ok_is ?_ rfl)
        simp only [execOp, hcst, hfun, hglb, p8]; go_simp; try exact rfl
      refine ⟨fun ρ W ⟨hcst, hglb, hfun⟩ hX hp ho => ?_, ?_⟩ -- 3: slot 10 := Op.move t0   [guarded: some (2, true)]
      · obtain ⟨p9, -⟩ := hp
        change ρ (.tmp 9) = _ at p9
        obtain ⟨o0, -⟩ := ho
        change ρ (.tmp 0) = _ at o0
        refine turn_yes p9 (ok_is ?_ rfl)
        simp only [execOp, hcst, hfun, hglb, p9, o0]; go_simp; try exact rfl
      refine ⟨fun ρ W ⟨hcst, hglb, hfun⟩ hX hp ho => ?_, ?_⟩ -- 4: slot 11 := Op.move t3   [guarded: some (2, true)]
      · obtain ⟨p9, -⟩ := hp
        change ρ (.tmp 9) = _ at p9
        obtain ⟨o3, -⟩ := ho
        change ρ (.tmp 3) = _ at o3
        refine turn_yes p9 (ok_is ?_ rfl)
        simp only [execOp, hcst, hfun, hglb, p9, o3]; go_simp; try exact rfl
      refine ⟨fun ρ W ⟨hcst, hglb, hfun⟩ hX hp ho => ?_, ?_⟩ -- 5: slot 12 := Op.slice 22 t10 none (some t11) none   [guarded: some (2, true)]
      · obtain ⟨p10, p11, p9, -⟩ := hp
        change ρ (.tmp 10) = _ at p10
        change ρ (.tmp 11) = _ at p11
        change ρ (.tmp 9) = _ at p9
        refine turn_yes p9 (ok_is ?_ rfl)
        simp only [execOp, hcst, hfun, hglb, p10, p11, p9]; go_simp; try exact rfl
      refine ⟨fun ρ W ⟨hcst, hglb, hfun⟩ hX hp ho => ?_, ?_⟩ -- 6: slot 13 := Op.call { value (Operand.func 8), args := #[const (0:u32), t12], argTypes := #[24, 22] }   [guarded: some (2, 
      · obtain ⟨p12, p9, -⟩ := hp
        change ρ (.tmp 12) = _ at p12
        change ρ (.tmp 9) = _ at p9
        refine turn_yes p9 ?_
        refine ok_call (by simp only [execOp, hcst, hfun, hglb, p12, p9]; go_simp; exact ⟨rfl, rfl⟩) ?_
        refine (hs.out W _ (hat.later ((Below.refl _ _).drew.trans hX) (Nat.le_refl _))).mono ?_
        rintro e W' ⟨rfl, rfl⟩
        exact ⟨_, rfl, Below.refl _ _, rfl⟩
      refine ⟨fun ρ W ⟨hcst, hglb, hfun⟩ hX hp ho => ?_, ?_⟩ -- 7: slot 14 := Op.call { value (Operand.func 13), args := #[t13], argTypes := #[24] }   [guarded: some (2, true)]
      · obtain ⟨p13, p9, -⟩ := hp
        change ρ (.tmp 13) = _ at p13
        change ρ (.tmp 9) = _ at p9
        refine turn_yes p9 ?_
        refine ok_call (by simp only [execOp, hcst, hfun, hglb, p13, p9]; go_simp; exact ⟨rfl, rfl⟩) ?_
        refine (tail_own _ W).mono ?_
        rintro e W' ⟨rfl, h2, h3, h4⟩
        exact ⟨_, rfl, h3, ⟨_, rfl, h2.at_⟩⟩
      refine ⟨fun ρ W ⟨hcst, hglb, hfun⟩ hX hp ho => ?_, ?_⟩ -- 8: slot 15 := Op.convert 22 9 t14   [guarded: some (2, true)]
      · obtain ⟨p14, p9, -⟩ := hp
        change ρ (.tmp 9) = _ at p9
        refine turn_yes p9 ?_
        obtain ⟨A, h1, h2⟩ := p14
        refine ok_is (by simp only [execOp, hcst, hfun, hglb, h1, p9]; rw [Sem.run_bind, run_str W elt_c8.ht (by kernel_rfl) (by kernel_rfl) (n := 4) rfl h2]; rfl) rfl
      refine ⟨fun ρ W ⟨hcst, hglb, hfun⟩ hX hp ho => ?_, ?_⟩ -- 9: slot 16 := Op.move t0   [guarded: some (2, true)]
      · obtain ⟨p9, -⟩ := hp
        change ρ (.tmp 9) = _ at p9
        obtain ⟨o0, -⟩ := ho
        change ρ (.tmp 0) = _ at o0
        refine turn_yes p9 (ok_is ?_ rfl)
        simp only [execOp, hcst, hfun, hglb, p9, o0]; go_simp; try exact rfl
      refine ⟨fun ρ W ⟨hcst, hglb, hfun⟩ hX hp ho => ?_, ?_⟩ -- 10: slot 17 := Op.move t3   [guarded: some (2, true)]
      · obtain ⟨p9, -⟩ := hp
        change ρ (.tmp 9) = _ at p9
        obtain ⟨o3, -⟩ := ho
        change ρ (.tmp 3) = _ at o3
        refine turn_yes p9 (ok_is ?_ rfl)
        simp only [execOp, hcst, hfun, hglb, p9, o3]; go_simp; try exact rfl
      refine ⟨fun ρ W ⟨hcst, hglb, hfun⟩ hX hp ho => ?_, ?_⟩ -- 11: slot 18 := Op.slice 22 t16 (some t17) none none   [guarded: some (2, true)]
      · obtain ⟨p16, p17, p9, -⟩ := hp
        change ρ (.tmp 16) = _ at p16
        change ρ (.tmp 17) = _ at p17
        change ρ (.tmp 9) = _ at p9
        refine turn_yes p9 (ok_is ?_ rfl)
        simp only [execOp, hcst, hfun, hglb, p16, p17, p9]; go_simp; try exact rfl
      refine ⟨fun ρ W ⟨hcst, hglb, hfun⟩ hX hp ho => ?_, ?_⟩ -- 12: slot 19 := Op.convert 22 9 t18   [guarded: some (2, true)]
      · obtain ⟨p18, p9, -⟩ := hp
        change ρ (.tmp 18) = _ at p18
        change ρ (.tmp 9) = _ at p9
        refine turn_yes p9 ?_
        refine ok_is (by simp only [execOp, hcst, hfun, hglb, p18, p9]; rw [Sem.run_bind, run_str W elt_c8.ht (by kernel_rfl) (by kernel_rfl) (n := 4) HD.out (had.later ((Below.refl _ _).drew.trans hX) (Nat.le_refl _))]; rfl) rfl
      refine ⟨fun ρ W ⟨hcst, hglb, hfun⟩ hX hp ho => ?_, ?_⟩ -- 13: slot 20 := Op.binOp BinOp.eql 9 t15 t19 9   [guarded: some (2, true)]
      · obtain ⟨p15, p19, p9, -⟩ := hp
        change ρ (.tmp 15) = _ at p15
        change ρ (.tmp 19) = _ at p19
        change ρ (.tmp 9) = _ at p9
        refine turn_yes p9 (ok_is ?_ rfl)
        simp only [execOp, hcst, hfun, hglb, p15, p19, p9]; go_simp; try exact rfl
      refine ⟨fun ρ W ⟨hcst, hglb, hfun⟩ hX hp ho => ?_, ?_⟩ -- 14: slot 21 := Op.pick t9 t20 (const (Value.bool false))
      · obtain ⟨p9, p20, -⟩ := hp
        change ρ (.tmp 9) = _ at p9
        change ρ (.tmp 20) = _ at p20
        refine turn_plain (ok_is ?_ rfl)
        simp only [execOp, hcst, hfun, hglb, p9, p20]; go_simp; try exact rfl
      refine ⟨fun ρ W ⟨hcst, hglb, hfun⟩ hX hp ho => ?_, ?_⟩ -- 15: slot 2 := Op.assign t21
      · obtain ⟨p21, -⟩ := hp
        change ρ (.tmp 21) = _ at p21
        refine turn_plain (ok_is ?_ rfl)
        simp only [execOp, hcst, hfun, hglb, p21]; go_simp; try exact rfl
      exact trivial
    case fin =>
      rintro v W hX ⟨f0, f1, f2, f3, f4, f5, f6, f7, f8, f9, f10, f11, f12, f13, f14, f15, -⟩
      -- relations: f7
      obtain ⟨A7, f7, -⟩ := f7
      simp only [is] at f0 f1 f2 f3 f4 f5 f6 f8 f9 f10 f11 f12 f13 f14 f15
      simp only [putAll, Act.put, List.setIfInBounds_toArray, List.set_cons_succ, List.set_cons_zero, f0, f1, f2, f3, f4, f5, f6, f7, f8, f9, f10, f11, f12, f13, f14, f15]
      clear f0 f1 f2 f3 f4 f5 f6 f7 f8 f9 f10 f11 f12 f13 f14 f15
      go_wp2
      go_ret
      exact ⟨ret_bool HF.out.symm, hX⟩
  · have h0 : Crc.Fits l = false := Crc.fits_short l (by omega)
    have HF := Lib.hid h0; clear h0
    have hd : decide ((4 : Int) ≤ (n : Int)) = false := by simp; omega
    go_enter Tryd.func28, Tryd.ntmps28
    go_wp2
    refine wp_region_below [is ?d0, is ?d1, is ?d2, is undef, is undef, is undef, is undef, is undef, is undef, is undef, is undef, is undef, is undef, is undef, is ?d14, is ?d15]
      [⟨[], [3], none⟩, ⟨[(7, 0)], [], none⟩, ⟨[(8, 1)], [], none⟩, ⟨[(9, 2)], [0], some (9, true)⟩, ⟨[(9, 2)], [3], some (9, true)⟩, ⟨[(10, 3), (11, 4), (9, 2)], [], some (9, true)⟩, ⟨[(12, 5), (9, 2)], [], some (9, true)⟩, ⟨[(13, 6), (9, 2)], [], some (9, true)⟩, ⟨[(14, 7), (9, 2)], [], some (9, true)⟩, ⟨[(9, 2)], [0], some (9, true)⟩, ⟨[(9, 2)], [3], some (9, true)⟩, ⟨[(16, 9), (17, 10), (9, 2)], [], some (9, true)⟩, ⟨[(18, 11), (9, 2)], [], some (9, true)⟩, ⟨[(15, 8), (19, 12), (9, 2)], [], some (9, true)⟩, ⟨[(9, 2), (20, 13)], [], none⟩, ⟨[(21, 14)], [], none⟩] (by kernel_rfl) (by kernel_rfl) (by kernel_rfl) (by kernel_rfl) (by kernel_rfl) ?mono ?steps ?fin
    case mono => exact ⟨mono_eq _, mono_eq _, mono_eq _, mono_eq _, mono_eq _, mono_eq _, mono_eq _, mono_eq _, mono_eq _, mono_eq _, mono_eq _, mono_eq _, mono_eq _, mono_eq _, mono_eq _, mono_eq _, trivial⟩
    case steps =>
      refine ⟨fun ρ W ⟨hcst, hglb, hfun⟩ hX hp ho => ?_, ?_⟩ -- 0: slot 7 := Op.move t3
      · obtain ⟨o3, -⟩ := ho
        change ρ (.tmp 3) = _ at o3
        refine turn_plain (ok_is ?_ rfl)
        simp only [execOp, hcst, hfun, hglb, o3]; go_simp; try exact rfl
      refine ⟨fun ρ W ⟨hcst, hglb, hfun⟩ hX hp ho => ?_, ?_⟩ -- 1: slot 8 := Op.binOp BinOp.geq 3 t7 (const (0:i64)) 3
      · obtain ⟨p7, -⟩ := hp
        change ρ (.tmp 7) = _ at p7
        refine turn_plain (ok_is ?_ rfl)
        simp only [execOp, hcst, hfun, hglb, p7]; go_simp; try exact rfl
      refine ⟨fun ρ W ⟨hcst, hglb, hfun⟩ hX hp ho => ?_, ?_⟩ -- 2: slot 9 := Op.move t8
      · obtain ⟨p8, -⟩ := hp
        change ρ (.tmp 8) = _ at p8
        refine turn_plain (ok_is ?_ rfl)
        simp only [execOp, hcst, hfun, hglb, p8]; go_simp; try exact rfl
      refine ⟨fun ρ W ⟨hcst, hglb, hfun⟩ hX hp ho => ?_, ?_⟩ -- 3: slot 10 := Op.move t0   [guarded: some (2, true)]
      · obtain ⟨p9, -⟩ := hp
        change ρ (.tmp 9) = _ at p9
        obtain ⟨o0, -⟩ := ho
        change ρ (.tmp 0) = _ at o0
        exact turn_skip p9 (by decide) rfl
      refine ⟨fun ρ W ⟨hcst, hglb, hfun⟩ hX hp ho => ?_, ?_⟩ -- 4: slot 11 := Op.move t3   [guarded: some (2, true)]
      · obtain ⟨p9, -⟩ := hp
        change ρ (.tmp 9) = _ at p9
        obtain ⟨o3, -⟩ := ho
        change ρ (.tmp 3) = _ at o3
        exact turn_skip p9 (by decide) rfl
      refine ⟨fun ρ W ⟨hcst, hglb, hfun⟩ hX hp ho => ?_, ?_⟩ -- 5: slot 12 := Op.slice 22 t10 none (some t11) none   [guarded: some (2, true)]
      · obtain ⟨p10, p11, p9, -⟩ := hp
        change ρ (.tmp 10) = _ at p10
        change ρ (.tmp 11) = _ at p11
        change ρ (.tmp 9) = _ at p9
        exact turn_skip p9 (by decide) rfl
      refine ⟨fun ρ W ⟨hcst, hglb, hfun⟩ hX hp ho => ?_, ?_⟩ -- 6: slot 13 := Op.call { value (Operand.func 8), args := #[const (0:u32), t12], argTypes := #[24, 22] }   [guarded: some (2, 
      · obtain ⟨p12, p9, -⟩ := hp
        change ρ (.tmp 12) = _ at p12
        change ρ (.tmp 9) = _ at p9
        exact turn_skip p9 (by decide) rfl
      refine ⟨fun ρ W ⟨hcst, hglb, hfun⟩ hX hp ho => ?_, ?_⟩ -- 7: slot 14 := Op.call { value (Operand.func 13), args := #[t13], argTypes := #[24] }   [guarded: some (2, true)]
      · obtain ⟨p13, p9, -⟩ := hp
        change ρ (.tmp 13) = _ at p13
        change ρ (.tmp 9) = _ at p9
        exact turn_skip p9 (by decide) rfl
      refine ⟨fun ρ W ⟨hcst, hglb, hfun⟩ hX hp ho => ?_, ?_⟩ -- 8: slot 15 := Op.convert 22 9 t14   [guarded: some (2, true)]
      · obtain ⟨p14, p9, -⟩ := hp
        change ρ (.tmp 14) = _ at p14
        change ρ (.tmp 9) = _ at p9
        exact turn_skip p9 (by decide) rfl
      refine ⟨fun ρ W ⟨hcst, hglb, hfun⟩ hX hp ho => ?_, ?_⟩ -- 9: slot 16 := Op.move t0   [guarded: some (2, true)]
      · obtain ⟨p9, -⟩ := hp
        change ρ (.tmp 9) = _ at p9
        obtain ⟨o0, -⟩ := ho
        change ρ (.tmp 0) = _ at o0
        exact turn_skip p9 (by decide) rfl
      refine ⟨fun ρ W ⟨hcst, hglb, hfun⟩ hX hp ho => ?_, ?_⟩ -- 10: slot 17 := Op.move t3   [guarded: some (2, true)]
      · obtain ⟨p9, -⟩ := hp
        change ρ (.tmp 9) = _ at p9
        obtain ⟨o3, -⟩ := ho
        change ρ (.tmp 3) = _ at o3
        exact turn_skip p9 (by decide) rfl
      refine ⟨fun ρ W ⟨hcst, hglb, hfun⟩ hX hp ho => ?_, ?_⟩ -- 11: slot 18 := Op.slice 22 t16 (some t17) none none   [guarded: some (2, true)]
      · obtain ⟨p16, p17, p9, -⟩ := hp
        change ρ (.tmp 16) = _ at p16
        change ρ (.tmp 17) = _ at p17
        change ρ (.tmp 9) = _ at p9
        exact turn_skip p9 (by decide) rfl
      refine ⟨fun ρ W ⟨hcst, hglb, hfun⟩ hX hp ho => ?_, ?_⟩ -- 12: slot 19 := Op.convert 22 9 t18   [guarded: some (2, true)]
      · obtain ⟨p18, p9, -⟩ := hp
        change ρ (.tmp 18) = _ at p18
        change ρ (.tmp 9) = _ at p9
        exact turn_skip p9 (by decide) rfl
      refine ⟨fun ρ W ⟨hcst, hglb, hfun⟩ hX hp ho => ?_, ?_⟩ -- 13: slot 20 := Op.binOp BinOp.eql 9 t15 t19 9   [guarded: some (2, true)]
      · obtain ⟨p15, p19, p9, -⟩ := hp
        change ρ (.tmp 15) = _ at p15
        change ρ (.tmp 19) = _ at p19
        change ρ (.tmp 9) = _ at p9
        exact turn_skip p9 (by decide) rfl
      refine ⟨fun ρ W ⟨hcst, hglb, hfun⟩ hX hp ho => ?_, ?_⟩ -- 14: slot 21 := Op.pick t9 t20 (const (Value.bool false))
      · obtain ⟨p9, p20, -⟩ := hp
        change ρ (.tmp 9) = _ at p9
        change ρ (.tmp 20) = _ at p20
        refine turn_plain (ok_is ?_ rfl)
        simp only [execOp, hcst, hfun, hglb, p9, p20]; go_simp; try exact rfl
      refine ⟨fun ρ W ⟨hcst, hglb, hfun⟩ hX hp ho => ?_, ?_⟩ -- 15: slot 2 := Op.assign t21
      · obtain ⟨p21, -⟩ := hp
        change ρ (.tmp 21) = _ at p21
        refine turn_plain (ok_is ?_ rfl)
        simp only [execOp, hcst, hfun, hglb, p21]; go_simp; try exact rfl
      exact trivial
    case fin =>
      rintro v W hX ⟨f0, f1, f2, f3, f4, f5, f6, f7, f8, f9, f10, f11, f12, f13, f14, f15, -⟩
      -- relations: 
      simp only [is] at f0 f1 f2 f3 f4 f5 f6 f7 f8 f9 f10 f11 f12 f13 f14 f15
      simp only [putAll, Act.put, List.setIfInBounds_toArray, List.set_cons_succ, List.set_cons_zero, f0, f1, f2, f3, f4, f5, f6, f7, f8, f9, f10, f11, f12, f13, f14, f15]
      clear f0 f1 f2 f3 f4 f5 f6 f7 f8 f9 f10 f11 f12 f13 f14 f15
      go_wp2
      go_ret
      exact ⟨ret_bool HF.out.symm, hX⟩
end Go.Proofs.YtlimabhojocimaaDoor
