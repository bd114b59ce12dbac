/- Layer 19: an end of a way: Out, where both a word and a body are to be sent. Printed by lke.py. -/
import Derived.Test.YtodimanghmepoaaDoorLkF
namespace Go.Proofs.YtodimanghmepoaaDoor
open Go.RowKit
section
variable {F : Nat → Prop} {p : Nat} {s : LSt}
set_option maxRecDepth 100000 in
set_option maxHeartbeats 2000000 in
theorem lout_ws (w : World) (h : LkS w F p s) (hgv : s.gv = true)
    {L1 : List Nat} {m1 : Nat} (hm1 : m1 = L1.length) (QE : ∀ W : World, Calls Tryd.prog 23 #[.agg #[.int .i64 s.me, .int .i64 s.ot, .bool true, .int .i64 s.ep, .int .i64 s.sq, .slice none 0 0]] W (EncR W L1 .nilIface))
    {b : List Nat} {rest : List (List Nat)} (hl : s.l = b :: rest) (k : Nat) (hk : k ≤ 3) (hst : s.st = k) (hlf : s.lf = 0) {L2 : List Nat} {m2 : Nat} (hm2 : m2 = L2.length)
    (QF : ∀ (W : World) (A : Option Addr) (c : Nat), At W A (nats .u8 b) → Calls Tryd.prog 23 #[.agg #[.int .i64 s.me, .int .i64 s.ot, .bool false, .int .i64 s.E, .int .i64 s.S, .slice A b.length c]] W (EncR W L2 .nilIface)) :
    Calls Tryd.prog 9 #[.pointer (some ⟨p, 0, none⟩)] w (OutE w F p { s with gv := false, st := (min (k + 1) 3 : Nat), lf := (3 * 2 ^ k : Nat) } [L1, L2]) := by
  obtain ⟨sp, rp, base, A, n, c, vs, h, hF, hlt⟩ := h
  have hpF := hF p (.inl rfl)
  obtain ⟨me, ot, E, S, l, st, lf, RE, RL, gv, ep, sq⟩ := s
  simp only at hgv
  subst hgv
  simp only at hl hst hlf
  subst hl hst hlf
  have HFl := Lib.hid hlt
  have HF := Lib.hid hF
  clear hlt hF
  have QF := Lib.hid QF
  have HM2 := Lib.hid hm2
  clear hm2
  have p4 : w.cell? ⟨p, 4, none⟩ = some (.bool true) := h.hd.cell 4
  have z4 := h.hd.frozen 4
  have QE := Lib.hid QE
  have HM1 := Lib.hid hm1
  have HL0 := Lib.hid h.given.1
  have HG0 := Lib.hid h.given.2
  clear h hm1
  go_enter Tryd.func9, Tryd.ntmps9
  go_upto_region 6 with fail
  clear p4 z4
  change Code.wp _ _ _ _ (w.setCell ⟨p, 4, none⟩ (.bool false))
  have HG := Lib.hid (Chg.of_grown HG0.out hpF)
  have HSZ := Lib.hid HG0.out.size
  clear HG0
  generalize w.setCell ⟨p, 4, none⟩ (.bool false) = w0 at *
  have HD := Lib.hid HL0.out.hd
  refine wp_region_below (is ?a0 :: is ?a1 :: is ?a2 :: is ?a3 :: is ?a4 :: is ?a5 :: is ?a6 :: is ?a7 :: is ?a8 :: is ?a9 :: is ?a10 :: is ?a11 :: is ?a12 :: is ?a13 :: is ?a14 :: is ?a15 :: is ?a16 :: EnT w0.heap.size L1 m1 :: EnT w0.heap.size L1 m1 :: EnS w0.heap.size L1 m1 :: is (.nilIface) :: EnS w0.heap.size L1 m1 :: is ?a22 :: [])
    [⟨[], [0], none⟩, ⟨[(21, 0)], [], none⟩, ⟨[(22, 1)], [], none⟩, ⟨[(23, 2)], [], none⟩, ⟨[], [0], none⟩, ⟨[(25, 4)], [], none⟩, ⟨[(26, 5)], [], none⟩, ⟨[(27, 6)], [], none⟩, ⟨[], [0], none⟩, ⟨[(29, 8)], [], none⟩, ⟨[(30, 9)], [], none⟩, ⟨[(31, 10)], [], none⟩, ⟨[], [0], none⟩, ⟨[(33, 12)], [], none⟩, ⟨[(34, 13)], [], none⟩, ⟨[(35, 14)], [], none⟩, ⟨[(24, 3), (28, 7), (32, 11), (36, 15)], [], none⟩, ⟨[(37, 16)], [], none⟩, ⟨[(38, 17)], [], none⟩, ⟨[(20, 18)], [], none⟩, ⟨[(20, 18)], [], none⟩, ⟨[(39, 19)], [], none⟩, ⟨[(40, 20)], [], none⟩] (by kernel_rfl) (by kernel_rfl) (by kernel_rfl) (by kernel_rfl) (by kernel_rfl) ?monoa ?stepsa ?fina
  case monoa => exact ⟨mono_eq _, mono_eq _, mono_eq _, mono_eq _, mono_eq _, mono_eq _, mono_eq _, mono_eq _, mono_eq _, mono_eq _, mono_eq _, mono_eq _, mono_eq _, mono_eq _, mono_eq _, mono_eq _, mono_eq _, mono_ent _ _ _, mono_ent _ _ _, mono_ens _ _ _, mono_eq _, mono_ens _ _ _, mono_eq _, trivial⟩
  case stepsa =>
    refine ⟨fun ρ W ⟨hcst, hglb, hfun⟩ hX hp ho => ?_, ?_⟩ -- 0: slot 21 := Op.move t0
    · obtain ⟨o0, -⟩ := ho
      change ρ (.tmp 0) = _ at o0
      refine turn_plain (ok_is ?_ rfl)
      simp only [execOp, o0]; go_simp; try exact rfl
    refine ⟨fun ρ W ⟨hcst, hglb, hfun⟩ hX hp ho => ?_, ?_⟩ -- 1: slot 22 := Op.nilCheck t21
    · obtain ⟨p21, -⟩ := hp
      change ρ (.tmp 21) = _ at p21
      refine turn_plain (ok_is ?_ rfl)
      simp only [execOp, p21]; go_simp; try exact rfl
    refine ⟨fun ρ W ⟨hcst, hglb, hfun⟩ hX hp ho => ?_, ?_⟩ -- 2: slot 23 := Op.fieldAddr 77 t22 0
    · obtain ⟨p22, -⟩ := hp
      change ρ (.tmp 22) = _ at p22
      refine turn_plain (ok_is ?_ rfl)
      simp only [execOp, p22]; go_simp; try exact rfl
    refine ⟨fun ρ W ⟨hcst, hglb, hfun⟩ hX hp ho => ?_, ?_⟩ -- 3: slot 24 := Op.load 3 t23
    · obtain ⟨p23, -⟩ := hp
      change ρ (.tmp 23) = _ at p23
      have q := (HD.out.later ((Below.refl _ _).drew.trans hX) (Nat.le_refl _)).cell 0
      simp at q
      refine turn_plain (ok_is ?_ rfl)
      simp only [execOp, p23]; go_simp; try exact rfl
    refine ⟨fun ρ W ⟨hcst, hglb, hfun⟩ hX hp ho => ?_, ?_⟩ -- 4: slot 25 := Op.move t0
    · obtain ⟨o0, -⟩ := ho
      change ρ (.tmp 0) = _ at o0
      refine turn_plain (ok_is ?_ rfl)
      simp only [execOp, o0]; go_simp; try exact rfl
    refine ⟨fun ρ W ⟨hcst, hglb, hfun⟩ hX hp ho => ?_, ?_⟩ -- 5: slot 26 := Op.nilCheck t25
    · obtain ⟨p25, -⟩ := hp
      change ρ (.tmp 25) = _ at p25
      refine turn_plain (ok_is ?_ rfl)
      simp only [execOp, p25]; go_simp; try exact rfl
    refine ⟨fun ρ W ⟨hcst, hglb, hfun⟩ hX hp ho => ?_, ?_⟩ -- 6: slot 27 := Op.fieldAddr 77 t26 1
    · obtain ⟨p26, -⟩ := hp
      change ρ (.tmp 26) = _ at p26
      refine turn_plain (ok_is ?_ rfl)
      simp only [execOp, p26]; go_simp; try exact rfl
    refine ⟨fun ρ W ⟨hcst, hglb, hfun⟩ hX hp ho => ?_, ?_⟩ -- 7: slot 28 := Op.load 3 t27
    · obtain ⟨p27, -⟩ := hp
      change ρ (.tmp 27) = _ at p27
      have q := (HD.out.later ((Below.refl _ _).drew.trans hX) (Nat.le_refl _)).cell 1
      simp at q
      refine turn_plain (ok_is ?_ rfl)
      simp only [execOp, p27]; go_simp; try exact rfl
    refine ⟨fun ρ W ⟨hcst, hglb, hfun⟩ hX hp ho => ?_, ?_⟩ -- 8: slot 29 := Op.move t0
    · obtain ⟨o0, -⟩ := ho
      change ρ (.tmp 0) = _ at o0
      refine turn_plain (ok_is ?_ rfl)
      simp only [execOp, o0]; go_simp; try exact rfl
    refine ⟨fun ρ W ⟨hcst, hglb, hfun⟩ hX hp ho => ?_, ?_⟩ -- 9: slot 30 := Op.nilCheck t29
    · obtain ⟨p29, -⟩ := hp
      change ρ (.tmp 29) = _ at p29
      refine turn_plain (ok_is ?_ rfl)
      simp only [execOp, p29]; go_simp; try exact rfl
    refine ⟨fun ρ W ⟨hcst, hglb, hfun⟩ hX hp ho => ?_, ?_⟩ -- 10: slot 31 := Op.fieldAddr 77 t30 5
    · obtain ⟨p30, -⟩ := hp
      change ρ (.tmp 30) = _ at p30
      refine turn_plain (ok_is ?_ rfl)
      simp only [execOp, p30]; go_simp; try exact rfl
    refine ⟨fun ρ W ⟨hcst, hglb, hfun⟩ hX hp ho => ?_, ?_⟩ -- 11: slot 32 := Op.load 3 t31
    · obtain ⟨p31, -⟩ := hp
      change ρ (.tmp 31) = _ at p31
      have q := (HD.out.later ((Below.refl _ _).drew.trans hX) (Nat.le_refl _)).cell 5
      simp at q
      refine turn_plain (ok_is ?_ rfl)
      simp only [execOp, p31]; go_simp; try exact rfl
    refine ⟨fun ρ W ⟨hcst, hglb, hfun⟩ hX hp ho => ?_, ?_⟩ -- 12: slot 33 := Op.move t0
    · obtain ⟨o0, -⟩ := ho
      change ρ (.tmp 0) = _ at o0
      refine turn_plain (ok_is ?_ rfl)
      simp only [execOp, o0]; go_simp; try exact rfl
    refine ⟨fun ρ W ⟨hcst, hglb, hfun⟩ hX hp ho => ?_, ?_⟩ -- 13: slot 34 := Op.nilCheck t33
    · obtain ⟨p33, -⟩ := hp
      change ρ (.tmp 33) = _ at p33
      refine turn_plain (ok_is ?_ rfl)
      simp only [execOp, p33]; go_simp; try exact rfl
    refine ⟨fun ρ W ⟨hcst, hglb, hfun⟩ hX hp ho => ?_, ?_⟩ -- 14: slot 35 := Op.fieldAddr 77 t34 6
    · obtain ⟨p34, -⟩ := hp
      change ρ (.tmp 34) = _ at p34
      refine turn_plain (ok_is ?_ rfl)
      simp only [execOp, p34]; go_simp; try exact rfl
    refine ⟨fun ρ W ⟨hcst, hglb, hfun⟩ hX hp ho => ?_, ?_⟩ -- 15: slot 36 := Op.load 3 t35
    · obtain ⟨p35, -⟩ := hp
      change ρ (.tmp 35) = _ at p35
      have q := (HD.out.later ((Below.refl _ _).drew.trans hX) (Nat.le_refl _)).cell 6
      simp at q
      refine turn_plain (ok_is ?_ rfl)
      simp only [execOp, p35]; go_simp; try exact rfl
    refine ⟨fun ρ W ⟨hcst, hglb, hfun⟩ hX hp ho => ?_, ?_⟩ -- 16: slot 37 := Op.build 80 #[(0, t24), (1, t28), (2, const (Value.bool true)), (3, t32), (4, t36)]
    · obtain ⟨p24, p28, p32, p36, -⟩ := hp
      change ρ (.tmp 24) = _ at p24
      change ρ (.tmp 28) = _ at p28
      change ρ (.tmp 32) = _ at p32
      change ρ (.tmp 36) = _ at p36
      refine turn_plain (ok_is ?_ rfl)
      simp only [execOp, hcst, p24, p28, p32, p36]; go_simp; try exact rfl
    refine ⟨fun ρ W ⟨hcst, hglb, hfun⟩ hX hp ho => ?_, ?_⟩ -- 17: slot 38 := Op.call { value (Operand.func 23), args := #[t37], argTypes := #[80] }
    · obtain ⟨p37, -⟩ := hp
      change ρ (.tmp 37) = _ at p37
      have hW := (Below.refl _ _).drew.trans hX
      refine turn_plain ?_
      have ce := @enter_of Tryd.prog 23 _ Tryd.func23 (by kernel_rfl) (by kernel_rfl)
      refine ok_call (op_call1 hfun ce (by exact rfl) p37) ?_
      refine (QE.out W).mono ?_
      rintro e W' ⟨A_, c_, rfl, ho, bel⟩
      exact ⟨_, rfl, bel, A_, c_, by rw [HM1.out], (by rw [← HM1.out] at ho; exact ownsRow_le_ ho hW.size)⟩
    refine ⟨fun ρ W ⟨hcst, hglb, hfun⟩ hX hp ho => ?_, ?_⟩ -- 18: slot 20 := Op.move t38
    · obtain ⟨p38, -⟩ := hp
      obtain ⟨A38, c38, p38, hat38⟩ := p38
      change ρ (.tmp 38) = _ at p38
      have hW := (Below.refl _ _).drew.trans hX
      refine turn_plain ?_
      refine ok_val (v := .tuple #[.slice A38 m1 c38, .nilIface]) (W' := W) (by simp only [execOp, p38]; go_simp) (Below.refl _ _) ⟨A38, c38, rfl, hat38⟩
    refine ⟨fun ρ W ⟨hcst, hglb, hfun⟩ hX hp ho => ?_, ?_⟩ -- 19: slot 39 := Op.extract t20 0
    · obtain ⟨p20, -⟩ := hp
      obtain ⟨A20, c20, p20, hat20⟩ := p20
      change ρ (.tmp 20) = _ at p20
      have hW := (Below.refl _ _).drew.trans hX
      refine turn_plain ?_
      refine ok_val (v := .slice A20 m1 c20) (W' := W) (by simp only [execOp, p20]; go_simp) (Below.refl _ _) ⟨A20, c20, rfl, hat20⟩
    refine ⟨fun ρ W ⟨hcst, hglb, hfun⟩ hX hp ho => ?_, ?_⟩ -- 20: slot 40 := Op.extract t20 1
    · obtain ⟨p20, -⟩ := hp
      obtain ⟨A20, c20, p20, hat20⟩ := p20
      change ρ (.tmp 20) = _ at p20
      have hW := (Below.refl _ _).drew.trans hX
      refine turn_plain ?_
      refine ok_val (v := .nilIface) (W' := W) (by simp only [execOp, p20]; go_simp) (Below.refl _ _) rfl
    refine ⟨fun ρ W ⟨hcst, hglb, hfun⟩ hX hp ho => ?_, ?_⟩ -- 21: slot 4 := Op.assign t39
    · obtain ⟨p39, -⟩ := hp
      obtain ⟨A39, c39, p39, hat39⟩ := p39
      change ρ (.tmp 39) = _ at p39
      have hW := (Below.refl _ _).drew.trans hX
      refine turn_plain ?_
      refine ok_val (v := .slice A39 m1 c39) (W' := W) (by simp only [execOp, p39]; go_simp) (Below.refl _ _) ⟨A39, c39, rfl, hat39⟩
    refine ⟨fun ρ W ⟨hcst, hglb, hfun⟩ hX hp ho => ?_, ?_⟩ -- 22: slot 5 := Op.assign t40
    · obtain ⟨p40, -⟩ := hp
      change ρ (.tmp 40) = _ at p40
      refine turn_plain (ok_is ?_ rfl)
      simp only [execOp, p40]; go_simp; try exact rfl
    exact trivial
  case fina =>
    rintro v w1 hX ⟨f0, f1, f2, f3, f4, f5, f6, f7, f8, f9, f10, f11, f12, f13, f14, f15, f16, f17, f18, f19, f20, f21, f22, -⟩
    obtain ⟨A_17, c_17, f17, hat_17⟩ := f17
    obtain ⟨A_18, c_18, f18, hat_18⟩ := f18
    obtain ⟨A_19, c_19, f19, hat_19⟩ := f19
    obtain ⟨A_21, c_21, f21, hat_21⟩ := f21
    simp only [is] at f0 f1 f2 f3 f4 f5 f6 f7 f8 f9 f10 f11 f12 f13 f14 f15 f16 f20 f22
    simp only [putAll, Act.put, List.setIfInBounds_toArray, List.set_cons_succ, List.set_cons_zero, f0, f1, f2, f3, f4, f5, f6, f7, f8, f9, f10, f11, f12, f13, f14, f15, f16, f17, f18, f19, f20, f21, f22]
    clear f0 f1 f2 f3 f4 f5 f6 f7 f8 f9 f10 f11 f12 f13 f14 f15 f16 f17 f18 f19 f20 f21 f22
    have HE := Lib.hid hat_21
    clear hat_17 hat_18 hat_19 hat_21
    have HL1 := Lib.hid (HL0.out.same hX.size fun k hl hf => hX.block k hl)
    clear HL0 HD
    have HX1 := Lib.hid (fun k (e : blk A_21 = some k) => (HE.out.lt k e).1)
    have HC1 := Lib.hid (HG.out.trans (Chg.of_below hX) (G := fun _ => False) (fun _ h => h.elim))
    have HE1 := Lib.hid (ownsRow_le_ HE.out HG.out.size)
    clear hX HE
    have hsz1 := HC1.out.size
    go_wp2_with (at_builtin; go_loud (refine wpList_app rfl elt_sl w.heap.size (.tmp 43) (.tmp 45) rfl [] rfl (Own.none_ _ _ _ _) [.slice A_21 m1 c_21] rfl (At.lit _ _ _ _ _ rfl) rfl (by intro u hu; simp at hu; subst hu; rfl) (by unfold maxLen; omega) (by omega) (by simp; omega) ?_); intro A3 c3 w3 own3 g3 hA3; have O3 := Lib.hid own3; have G3 := Lib.hid g3; have HA3 := Lib.hid hA3; clear own3 g3 hA3; have BX := Lib.hid (((Below.refl w1.heap.size w1).alloc (Nat.le_refl _) (.cells #[.slice A_21 m1 c_21] 22)).grown G3.out (by simp) (fun k hk => by cases hk)); have HL := Lib.hid (HL1.out.same BX.out.size fun k hl hf => BX.out.block k hl); have p2 : w3.cell? ⟨p, 2, none⟩ = some (.pointer (some ⟨sp, 0, none⟩)) := HL.out.hd.cell 2)
    have OD := Lib.hid (((OutD.nil w w1 F).later ((Below.refl w1.heap.size w1).alloc (Nat.le_refl _) (.cells #[.slice A_21 m1 c_21] 22))).push HM1.out (HE1.out.alloc _) (fun k e h => by have h5 := HX1.out k e; have h6 := HFl.out k h; have h7 := HSZ.out; omega) (fun k h => by have h6 := HFl.out k h; simp; omega) O3.out G3.out HA3.out)
    have HC := Lib.hid (HC1.out.trans (Chg.of_below BX.out) (G := fun _ => False) (fun _ h => h.elim))
    have hszw := HC.out.size
    clear HL1 HC1 HE1 BX O3 G3 HA3 HX1
    have CO := Lib.hid (out_k w3 k hk HL.out.snd HL.out.base)
    go_wp2_with fail
    refine CO.out.mono ?_
    rintro e w5 ⟨A5, c5, rfl, hat5, hfr5, hk5⟩
    have HT5 := Lib.hid hat5
    have HFR := Lib.hid hfr5
    obtain ⟨A6, n6, c6, vs6, hl6, hc6, hx6⟩ := HL.out.snd_lk HF.out hk5
    clear hat5 hfr5 hk5
    have HL6 := Lib.hid hl6
    have HC6 := Lib.hid hc6
    have HX6 := Lib.hid hx6
    clear hl6 hc6 hx6
    have HS6 := Lib.hid (show Snd w5 sp base [] E S A6 n6 c6 vs6 (b :: rest) (min (k + 1) 3 : Nat) (3 * 2 ^ k : Nat) from HL6.out.snd)
    have HD := Lib.hid (show Holds w5 p 77 (lkOf me ot sp rp false ep sq) from HL6.out.hd)
    have OD5 := Lib.hid (OD.out.turn HC6.out HFl.out HX6.out)
    have HC5 := Lib.hid (HC.out.trans HC6.out (fun _ h => .inl h))
    have hft := Lib.hid (fun k (h : FLk p sp rp A6 vs6 k) => HL6.out.foot h)
    have HX9 := Lib.hid (fun k (h : FLk p sp rp A6 vs6 k) => (HX6.out k h).imp (fun h => h) (fun h => Nat.le_trans HC.out.size h))
    clear OD HC HC6 HX6 HL
    go_upto_region 11 with fail
    clear p2
    refine wp_region_below (is ?b0 :: is ?b1 :: is ?b2 :: is ?b3 :: is ?b4 :: is ?b5 :: is ?b6 :: is ?b7 :: is ?b8 :: is ?b9 :: is ?b10 :: is ?b11 :: is (.int .i64 E) :: is ?b13 :: is ?b14 :: is ?b15 :: EnT w5.heap.size L2 m2 :: EnT w5.heap.size L2 m2 :: EnS w5.heap.size L2 m2 :: is (.nilIface) :: EnS w5.heap.size L2 m2 :: is ?b21 :: [])
      [⟨[], [0], none⟩, ⟨[(58, 0)], [], none⟩, ⟨[(59, 1)], [], none⟩, ⟨[(60, 2)], [], none⟩, ⟨[], [0], none⟩, ⟨[(62, 4)], [], none⟩, ⟨[(63, 5)], [], none⟩, ⟨[(64, 6)], [], none⟩, ⟨[], [0], none⟩, ⟨[(66, 8)], [], none⟩, ⟨[(67, 9)], [], none⟩, ⟨[(68, 10)], [], none⟩, ⟨[(69, 11)], [], none⟩, ⟨[], [6], none⟩, ⟨[], [7], none⟩, ⟨[(61, 3), (65, 7), (70, 12), (71, 13), (72, 14)], [], none⟩, ⟨[(73, 15)], [], none⟩, ⟨[(74, 16)], [], none⟩, ⟨[(57, 17)], [], none⟩, ⟨[(57, 17)], [], none⟩, ⟨[(75, 18)], [], none⟩, ⟨[(76, 19)], [], none⟩] (by kernel_rfl) (by kernel_rfl) (by kernel_rfl) (by kernel_rfl) (by kernel_rfl) ?monob ?stepsb ?finb
    case monob => exact ⟨mono_eq _, mono_eq _, mono_eq _, mono_eq _, mono_eq _, mono_eq _, mono_eq _, mono_eq _, mono_eq _, mono_eq _, mono_eq _, mono_eq _, mono_eq _, mono_eq _, mono_eq _, mono_eq _, mono_ent _ _ _, mono_ent _ _ _, mono_ens _ _ _, mono_eq _, mono_ens _ _ _, mono_eq _, trivial⟩
    case stepsb =>
      refine ⟨fun ρ W ⟨hcst, hglb, hfun⟩ hX hp ho => ?_, ?_⟩ -- 0: slot 58 := Op.move t0
      · obtain ⟨o0, -⟩ := ho
        change ρ (.tmp 0) = _ at o0
        refine turn_plain (ok_is ?_ rfl)
        simp only [execOp, o0]; go_simp; try exact rfl
      refine ⟨fun ρ W ⟨hcst, hglb, hfun⟩ hX hp ho => ?_, ?_⟩ -- 1: slot 59 := Op.nilCheck t58
      · obtain ⟨p58, -⟩ := hp
        change ρ (.tmp 58) = _ at p58
        refine turn_plain (ok_is ?_ rfl)
        simp only [execOp, p58]; go_simp; try exact rfl
      refine ⟨fun ρ W ⟨hcst, hglb, hfun⟩ hX hp ho => ?_, ?_⟩ -- 2: slot 60 := Op.fieldAddr 77 t59 0
      · obtain ⟨p59, -⟩ := hp
        change ρ (.tmp 59) = _ at p59
        refine turn_plain (ok_is ?_ rfl)
        simp only [execOp, p59]; go_simp; try exact rfl
      refine ⟨fun ρ W ⟨hcst, hglb, hfun⟩ hX hp ho => ?_, ?_⟩ -- 3: slot 61 := Op.load 3 t60
      · obtain ⟨p60, -⟩ := hp
        change ρ (.tmp 60) = _ at p60
        have q : W.cell? ⟨p, 0, none⟩ = some (.int .i64 me) := (HD.out.later ((Below.refl _ _).drew.trans hX) (Nat.le_refl _)).cell 0
        refine turn_plain (ok_is ?_ rfl)
        simp only [execOp, p60]; go_simp; try exact rfl
      refine ⟨fun ρ W ⟨hcst, hglb, hfun⟩ hX hp ho => ?_, ?_⟩ -- 4: slot 62 := Op.move t0
      · obtain ⟨o0, -⟩ := ho
        change ρ (.tmp 0) = _ at o0
        refine turn_plain (ok_is ?_ rfl)
        simp only [execOp, o0]; go_simp; try exact rfl
      refine ⟨fun ρ W ⟨hcst, hglb, hfun⟩ hX hp ho => ?_, ?_⟩ -- 5: slot 63 := Op.nilCheck t62
      · obtain ⟨p62, -⟩ := hp
        change ρ (.tmp 62) = _ at p62
        refine turn_plain (ok_is ?_ rfl)
        simp only [execOp, p62]; go_simp; try exact rfl
      refine ⟨fun ρ W ⟨hcst, hglb, hfun⟩ hX hp ho => ?_, ?_⟩ -- 6: slot 64 := Op.fieldAddr 77 t63 1
      · obtain ⟨p63, -⟩ := hp
        change ρ (.tmp 63) = _ at p63
        refine turn_plain (ok_is ?_ rfl)
        simp only [execOp, p63]; go_simp; try exact rfl
      refine ⟨fun ρ W ⟨hcst, hglb, hfun⟩ hX hp ho => ?_, ?_⟩ -- 7: slot 65 := Op.load 3 t64
      · obtain ⟨p64, -⟩ := hp
        change ρ (.tmp 64) = _ at p64
        have q : W.cell? ⟨p, 1, none⟩ = some (.int .i64 ot) := (HD.out.later ((Below.refl _ _).drew.trans hX) (Nat.le_refl _)).cell 1
        refine turn_plain (ok_is ?_ rfl)
        simp only [execOp, p64]; go_simp; try exact rfl
      refine ⟨fun ρ W ⟨hcst, hglb, hfun⟩ hX hp ho => ?_, ?_⟩ -- 8: slot 66 := Op.move t0
      · obtain ⟨o0, -⟩ := ho
        change ρ (.tmp 0) = _ at o0
        refine turn_plain (ok_is ?_ rfl)
        simp only [execOp, o0]; go_simp; try exact rfl
      refine ⟨fun ρ W ⟨hcst, hglb, hfun⟩ hX hp ho => ?_, ?_⟩ -- 9: slot 67 := Op.nilCheck t66
      · obtain ⟨p66, -⟩ := hp
        change ρ (.tmp 66) = _ at p66
        refine turn_plain (ok_is ?_ rfl)
        simp only [execOp, p66]; go_simp; try exact rfl
      refine ⟨fun ρ W ⟨hcst, hglb, hfun⟩ hX hp ho => ?_, ?_⟩ -- 10: slot 68 := Op.fieldAddr 77 t67 2
      · obtain ⟨p67, -⟩ := hp
        change ρ (.tmp 67) = _ at p67
        refine turn_plain (ok_is ?_ rfl)
        simp only [execOp, p67]; go_simp; try exact rfl
      refine ⟨fun ρ W ⟨hcst, hglb, hfun⟩ hX hp ho => ?_, ?_⟩ -- 11: slot 69 := Op.load 71 t68
      · obtain ⟨p68, -⟩ := hp
        change ρ (.tmp 68) = _ at p68
        have q : W.cell? ⟨p, 2, none⟩ = some (.pointer (some ⟨sp, 0, none⟩)) := (HD.out.later ((Below.refl _ _).drew.trans hX) (Nat.le_refl _)).cell 2
        refine turn_plain (ok_is ?_ rfl)
        simp only [execOp, p68]; go_simp; try exact rfl
      refine ⟨fun ρ W ⟨hcst, hglb, hfun⟩ hX hp ho => ?_, ?_⟩ -- 12: slot 70 := Op.call { value (Operand.func 25), args := #[t69], argTypes := #[71] }
      · obtain ⟨p69, -⟩ := hp
        change ρ (.tmp 69) = _ at p69
        have hW := (Below.refl _ _).drew.trans hX
        refine turn_plain ?_
        have ce := @enter_of Tryd.prog 25 _ Tryd.func25 (by kernel_rfl) (by kernel_rfl)
        refine ok_call (op_call1 hfun ce (by exact rfl) p69) ?_
        refine (sepoch_any W (HS6.out.below hW (Nat.le_refl _))).mono ?_
        rintro e W' ⟨rfl, rfl⟩
        exact ⟨_, rfl, Below.refl _ _, rfl⟩
      refine ⟨fun ρ W ⟨hcst, hglb, hfun⟩ hX hp ho => ?_, ?_⟩ -- 13: slot 71 := Op.move t6
      · obtain ⟨o6, -⟩ := ho
        change ρ (.tmp 6) = _ at o6
        refine turn_plain (ok_is ?_ rfl)
        simp only [execOp, o6]; go_simp; try exact rfl
      refine ⟨fun ρ W ⟨hcst, hglb, hfun⟩ hX hp ho => ?_, ?_⟩ -- 14: slot 72 := Op.move t7
      · obtain ⟨o7, -⟩ := ho
        change ρ (.tmp 7) = _ at o7
        refine turn_plain (ok_is ?_ rfl)
        simp only [execOp, o7]; go_simp; try exact rfl
      refine ⟨fun ρ W ⟨hcst, hglb, hfun⟩ hX hp ho => ?_, ?_⟩ -- 15: slot 73 := Op.build 80 #[(0, t61), (1, t65), (3, t70), (4, t71), (5, t72)]
      · obtain ⟨p61, p65, p70, p71, p72, -⟩ := hp
        change ρ (.tmp 61) = _ at p61
        change ρ (.tmp 65) = _ at p65
        change ρ (.tmp 70) = _ at p70
        change ρ (.tmp 71) = _ at p71
        change ρ (.tmp 72) = _ at p72
        refine turn_plain (ok_is ?_ rfl)
        simp only [execOp, p61, p65, p70, p71, p72]; go_simp; try exact rfl
      refine ⟨fun ρ W ⟨hcst, hglb, hfun⟩ hX hp ho => ?_, ?_⟩ -- 16: slot 74 := Op.call { value (Operand.func 23), args := #[t73], argTypes := #[80] }
      · obtain ⟨p73, -⟩ := hp
        change ρ (.tmp 73) = _ at p73
        have hW := (Below.refl _ _).drew.trans hX
        refine turn_plain ?_
        have ce := @enter_of Tryd.prog 23 _ Tryd.func23 (by kernel_rfl) (by kernel_rfl)
        refine ok_call (op_call1 hfun ce (by exact rfl) p73) ?_
        refine (QF.out W A5 c5 (HT5.out.later hW (Nat.le_refl _))).mono ?_
        rintro e W' ⟨A_, c_, rfl, ho, bel⟩
        exact ⟨_, rfl, bel, A_, c_, by rw [HM2.out], (by rw [← HM2.out] at ho; exact ownsRow_le_ ho hW.size)⟩
      refine ⟨fun ρ W ⟨hcst, hglb, hfun⟩ hX hp ho => ?_, ?_⟩ -- 17: slot 57 := Op.move t74
      · obtain ⟨p74, -⟩ := hp
        obtain ⟨A74, c74, p74, hat74⟩ := p74
        change ρ (.tmp 74) = _ at p74
        have hW := (Below.refl _ _).drew.trans hX
        refine turn_plain ?_
        refine ok_val (v := .tuple #[.slice A74 m2 c74, .nilIface]) (W' := W) (by simp only [execOp, p74]; go_simp) (Below.refl _ _) ⟨A74, c74, rfl, hat74⟩
      refine ⟨fun ρ W ⟨hcst, hglb, hfun⟩ hX hp ho => ?_, ?_⟩ -- 18: slot 75 := Op.extract t57 0
      · obtain ⟨p57, -⟩ := hp
        obtain ⟨A57, c57, p57, hat57⟩ := p57
        change ρ (.tmp 57) = _ at p57
        have hW := (Below.refl _ _).drew.trans hX
        refine turn_plain ?_
        refine ok_val (v := .slice A57 m2 c57) (W' := W) (by simp only [execOp, p57]; go_simp) (Below.refl _ _) ⟨A57, c57, rfl, hat57⟩
      refine ⟨fun ρ W ⟨hcst, hglb, hfun⟩ hX hp ho => ?_, ?_⟩ -- 19: slot 76 := Op.extract t57 1
      · obtain ⟨p57, -⟩ := hp
        obtain ⟨A57, c57, p57, hat57⟩ := p57
        change ρ (.tmp 57) = _ at p57
        have hW := (Below.refl _ _).drew.trans hX
        refine turn_plain ?_
        refine ok_val (v := .nilIface) (W' := W) (by simp only [execOp, p57]; go_simp) (Below.refl _ _) rfl
      refine ⟨fun ρ W ⟨hcst, hglb, hfun⟩ hX hp ho => ?_, ?_⟩ -- 20: slot 9 := Op.assign t75
      · obtain ⟨p75, -⟩ := hp
        obtain ⟨A75, c75, p75, hat75⟩ := p75
        change ρ (.tmp 75) = _ at p75
        have hW := (Below.refl _ _).drew.trans hX
        refine turn_plain ?_
        refine ok_val (v := .slice A75 m2 c75) (W' := W) (by simp only [execOp, p75]; go_simp) (Below.refl _ _) ⟨A75, c75, rfl, hat75⟩
      refine ⟨fun ρ W ⟨hcst, hglb, hfun⟩ hX hp ho => ?_, ?_⟩ -- 21: slot 10 := Op.assign t76
      · obtain ⟨p76, -⟩ := hp
        change ρ (.tmp 76) = _ at p76
        refine turn_plain (ok_is ?_ rfl)
        simp only [execOp, p76]; go_simp; try exact rfl
      exact trivial
    case finb =>
      rintro v w7 hX ⟨f0, f1, f2, f3, f4, f5, f6, f7, f8, f9, f10, f11, f12, f13, f14, f15, f16, f17, f18, f19, f20, f21, -⟩
      obtain ⟨A_16, c_16, f16, hat_16⟩ := f16
      obtain ⟨A_17, c_17, f17, hat_17⟩ := f17
      obtain ⟨A_18, c_18, f18, hat_18⟩ := f18
      obtain ⟨A_20, c_20, f20, hat_20⟩ := f20
      simp only [is] at f0 f1 f2 f3 f4 f5 f6 f7 f8 f9 f10 f11 f12 f13 f14 f15 f19 f21
      simp only [putAll, Act.put, List.setIfInBounds_toArray, List.set_cons_succ, List.set_cons_zero, f0, f1, f2, f3, f4, f5, f6, f7, f8, f9, f10, f11, f12, f13, f14, f15, f16, f17, f18, f19, f20, f21]
      clear f0 f1 f2 f3 f4 f5 f6 f7 f8 f9 f10 f11 f12 f13 f14 f15 f16 f17 f18 f19 f20 f21
      have HE := Lib.hid hat_20
      clear hat_16 hat_17 hat_18 hat_20
      have HL7 := Lib.hid (HL6.out.same hX.size fun k hl hf => hX.block k hl)
      have OD7 := Lib.hid (OD5.out.later hX)
      have HC7 := Lib.hid (HC5.out.trans (Chg.of_below hX) (G := fun _ => False) (fun _ h => h.elim))
      have HX7 := Lib.hid (fun k (e : blk A_20 = some k) => (HE.out.lt k e).1)
      have HE1 := Lib.hid (ownsRow_le_ HE.out HC5.out.size)
      have hsz5 := hX.size
      have hsz7 := HC7.out.size
      clear hX HE HD HS6 HL6 OD5 HC5
      go_wp2_with (at_builtin; go_loud (refine wpList_app rfl elt_sl w.heap.size (.tmp 79) (.tmp 81) rfl _ rfl (OD7.out.1.alloc _) [.slice A_20 m2 c_20] rfl (At.lit _ _ _ _ _ rfl) rfl (by intro u hu; simp at hu; subst hu; rfl) (by unfold maxLen; omega) (by omega) (by simp; omega) ?_); intro A8 c8 w8 own8 g8 hA8; have O8 := Lib.hid own8; have G8 := Lib.hid g8; have HA8 := Lib.hid hA8; clear own8 g8 hA8)
      go_ret
      have B8 : Below w.heap.size w7 w8 := ((Below.refl w.heap.size w7).alloc hsz7 (.cells #[.slice A_20 m2 c_20] 22)).grown G8.out (by simp; omega) (fun k hk => (OD7.out.1.lt k hk).1)
      have HL8 := HL7.out.same B8.size fun k hl hf => (G8.out.block k (by simp; omega) (fun e => OD7.out.2.2.2.1 k e.symm hf)).trans (Below.heap_alloc w7 _ k hl)
      have OD8 := (OD7.out.later ((Below.refl w7.heap.size w7).alloc (Nat.le_refl _) (.cells #[.slice A_20 m2 c_20] 22))).push HM2.out (HE1.out.alloc _) (fun k e h => by have h5 := HX7.out k e; have h6 := hft.out k h; omega) (fun k h => by have h6 := hft.out k h; simp; omega) O8.out G8.out HA8.out
      exact ⟨_, _, _, _, FLk p sp rp A6 vs6, rfl, OD8, HC7.out.later B8, ⟨sp, rp, base, A6, n6, c6, vs6, HL8, fun _ h => h, fun k hk => HL8.foot hk⟩, HX9.out⟩
end
end Go.Proofs.YtodimanghmepoaaDoor
