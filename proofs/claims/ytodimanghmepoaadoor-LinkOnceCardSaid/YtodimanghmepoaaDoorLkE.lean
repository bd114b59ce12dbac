/- Layer 19: an end of a way: Out. Printed by lke.py. -/
import Derived.Test.YtodimanghmepoaaDoorLkD
namespace Go.Proofs.YtodimanghmepoaaDoor
open Go.RowKit
theorem Lk.lks {F : Nat → Prop} {p sp rp base : Nat} {A : Option Addr} {n c : Nat} {vs : List Value} {s : LSt} {w w' : World} (h : Lk w' p sp rp base A n c vs s) (hF : ∀ k, FLk p sp rp A vs k → F k) (hlt : ∀ k, F k → k < w.heap.size) (hs : w.heap.size ≤ w'.heap.size) : LkS w' F p s :=
  ⟨sp, rp, base, A, n, c, vs, h, hF, fun k hk => Nat.lt_of_lt_of_le (hlt k hk) hs⟩
/-- what Out hands back: datagrams, apart from where the end lies -/
def OutE (w : World) (F : Nat → Prop) (p : Nat) (s' : LSt) (L : List (List Nat)) (e : Ending) (w' : World) : Prop :=
  ∃ A n c vs F', e = .returned (.slice A n c) ∧ OutD w w' A n c vs L F' ∧ Chg F w w' ∧ LkS w' F' p s' ∧ ∀ k, F' k → F k ∨ w.heap.size ≤ k
section
variable {F : Nat → Prop} {p : Nat} {s : LSt}
set_option maxRecDepth 100000 in
set_option maxHeartbeats 2000000 in
theorem lout_nn (w : World) (h : LkS w F p s) (hgv : s.gv = false)
    (h0 : s.l.length = 0 ∨ 0 < s.lf) :
    Calls Tryd.prog 9 #[.pointer (some ⟨p, 0, none⟩)] w (OutE w F p { s with gv := false } []) := by
  obtain ⟨sp, rp, base, A, n, c, vs, h, hF, hlt⟩ := h
  have hpF := hF p (.inl rfl)
  obtain ⟨me, ot, E, S, l, st, lf, RE, RL, gv, ep, sq⟩ := s
  simp only at hgv
  subst hgv
  simp only at h0
  have HFl := Lib.hid hlt
  have HF := Lib.hid hF
  clear hlt hF
  have p4 : w.cell? ⟨p, 4, none⟩ = some (.bool false) := h.hd.cell 4
  have p2 : w.cell? ⟨p, 2, none⟩ = some (.pointer (some ⟨sp, 0, none⟩)) := h.hd.cell 2
  have HL := Lib.hid h
  have OD := Lib.hid (OutD.nil w w F)
  have HC := Lib.hid (show Chg F w w from ⟨rfl, rfl, rfl, Nat.le_refl _, fun _ _ _ => rfl⟩)
  clear h
  go_enter Tryd.func9, Tryd.ntmps9
  have CO := Lib.hid (out_none w HL.out.snd (h0.imp (fun h => by have h5 : l.length = n := HL.out.snd.len; omega) (fun h => h)))
  go_wp2_with fail
  refine CO.out.mono ?_
  rintro e w5 ⟨rfl, rfl⟩
  go_wp2_with fail
  go_ret
  exact ⟨_, _, _, _, F, rfl, OD.out, HC.out, HL.out.lks HF.out HFl.out HC.out.size, fun _ h => .inl h⟩
set_option maxRecDepth 100000 in
set_option maxHeartbeats 2000000 in
theorem lout_wn (w : World) (h : LkS w F p s) (hgv : s.gv = true)
    {L1 : List Nat} {m1 : Nat} (hm1 : m1 = L1.length) (QE : ∀ W : World, Calls Tryd.prog 23 #[.agg #[.int .i64 s.me, .int .i64 s.ot, .bool true, .int .i64 s.ep, .int .i64 s.sq, .slice none 0 0]] W (EncR W L1 .nilIface))
    (h0 : s.l.length = 0 ∨ 0 < s.lf) :
    Calls Tryd.prog 9 #[.pointer (some ⟨p, 0, none⟩)] w (OutE w F p { s with gv := false } [L1]) := by
  obtain ⟨sp, rp, base, A, n, c, vs, h, hF, hlt⟩ := h
  have hpF := hF p (.inl rfl)
  obtain ⟨me, ot, E, S, l, st, lf, RE, RL, gv, ep, sq⟩ := s
  simp only at hgv
  subst hgv
  simp only at h0
  have HFl := Lib.hid hlt
  have HF := Lib.hid hF
  clear hlt hF
  have p4 : w.cell? ⟨p, 4, none⟩ = some (.bool true) := h.hd.cell 4
  have z4 := h.hd.frozen 4
  have QE := Lib.hid QE
  have HM1 := Lib.hid hm1
  have HL0 := Lib.hid h.given.1
  have HG0 := Lib.hid h.given.2
  clear h hm1
  go_enter Tryd.func9, Tryd.ntmps9
  go_upto_region 6 with fail
  clear p4 z4
  change Code.wp _ _ _ _ (w.setCell ⟨p, 4, none⟩ (.bool false))
  have HG := Lib.hid (Chg.of_grown HG0.out hpF)
  have HSZ := Lib.hid HG0.out.size
  clear HG0
  generalize w.setCell ⟨p, 4, none⟩ (.bool false) = w0 at *
  have HD := Lib.hid HL0.out.hd
  refine wp_region_below (is ?a0 :: is ?a1 :: is ?a2 :: is ?a3 :: is ?a4 :: is ?a5 :: is ?a6 :: is ?a7 :: is ?a8 :: is ?a9 :: is ?a10 :: is ?a11 :: is ?a12 :: is ?a13 :: is ?a14 :: is ?a15 :: is ?a16 :: EnT w0.heap.size L1 m1 :: EnT w0.heap.size L1 m1 :: EnS w0.heap.size L1 m1 :: is (.nilIface) :: EnS w0.heap.size L1 m1 :: is ?a22 :: [])
    [⟨[], [0], none⟩, ⟨[(21, 0)], [], none⟩, ⟨[(22, 1)], [], none⟩, ⟨[(23, 2)], [], none⟩, ⟨[], [0], none⟩, ⟨[(25, 4)], [], none⟩, ⟨[(26, 5)], [], none⟩, ⟨[(27, 6)], [], none⟩, ⟨[], [0], none⟩, ⟨[(29, 8)], [], none⟩, ⟨[(30, 9)], [], none⟩, ⟨[(31, 10)], [], none⟩, ⟨[], [0], none⟩, ⟨[(33, 12)], [], none⟩, ⟨[(34, 13)], [], none⟩, ⟨[(35, 14)], [], none⟩, ⟨[(24, 3), (28, 7), (32, 11), (36, 15)], [], none⟩, ⟨[(37, 16)], [], none⟩, ⟨[(38, 17)], [], none⟩, ⟨[(20, 18)], [], none⟩, ⟨[(20, 18)], [], none⟩, ⟨[(39, 19)], [], none⟩, ⟨[(40, 20)], [], none⟩] (by kernel_rfl) (by kernel_rfl) (by kernel_rfl) (by kernel_rfl) (by kernel_rfl) ?monoa ?stepsa ?fina
  case monoa => exact ⟨mono_eq _, mono_eq _, mono_eq _, mono_eq _, mono_eq _, mono_eq _, mono_eq _, mono_eq _, mono_eq _, mono_eq _, mono_eq _, mono_eq _, mono_eq _, mono_eq _, mono_eq _, mono_eq _, mono_eq _, mono_ent _ _ _, mono_ent _ _ _, mono_ens _ _ _, mono_eq _, mono_ens _ _ _, mono_eq _, trivial⟩
  case stepsa =>
    refine ⟨fun ρ W ⟨hcst, hglb, hfun⟩ hX hp ho => ?_, ?_⟩ -- 0: slot 21 := Op.move t0
    · obtain ⟨o0, -⟩ := ho
      change ρ (.tmp 0) = _ at o0
      refine turn_plain (ok_is ?_ rfl)
      simp only [execOp, o0]; go_simp; try exact rfl
    refine ⟨fun ρ W ⟨hcst, hglb, hfun⟩ hX hp ho => ?_, ?_⟩ -- 1: slot 22 := Op.nilCheck t21
    · obtain ⟨p21, -⟩ := hp
      change ρ (.tmp 21) = _ at p21
      refine turn_plain (ok_is ?_ rfl)
      simp only [execOp, p21]; go_simp; try exact rfl
    refine ⟨fun ρ W ⟨hcst, hglb, hfun⟩ hX hp ho => ?_, ?_⟩ -- 2: slot 23 := Op.fieldAddr 77 t22 0
    · obtain ⟨p22, -⟩ := hp
      change ρ (.tmp 22) = _ at p22
      refine turn_plain (ok_is ?_ rfl)
      simp only [execOp, p22]; go_simp; try exact rfl
    refine ⟨fun ρ W ⟨hcst, hglb, hfun⟩ hX hp ho => ?_, ?_⟩ -- 3: slot 24 := Op.load 3 t23
    · obtain ⟨p23, -⟩ := hp
      change ρ (.tmp 23) = _ at p23
      have q := (HD.out.later ((Below.refl _ _).drew.trans hX) (Nat.le_refl _)).cell 0
      simp at q
      refine turn_plain (ok_is ?_ rfl)
      simp only [execOp, p23]; go_simp; try exact rfl
    refine ⟨fun ρ W ⟨hcst, hglb, hfun⟩ hX hp ho => ?_, ?_⟩ -- 4: slot 25 := Op.move t0
    · obtain ⟨o0, -⟩ := ho
      change ρ (.tmp 0) = _ at o0
      refine turn_plain (ok_is ?_ rfl)
      simp only [execOp, o0]; go_simp; try exact rfl
    refine ⟨fun ρ W ⟨hcst, hglb, hfun⟩ hX hp ho => ?_, ?_⟩ -- 5: slot 26 := Op.nilCheck t25
    · obtain ⟨p25, -⟩ := hp
      change ρ (.tmp 25) = _ at p25
      refine turn_plain (ok_is ?_ rfl)
      simp only [execOp, p25]; go_simp; try exact rfl
    refine ⟨fun ρ W ⟨hcst, hglb, hfun⟩ hX hp ho => ?_, ?_⟩ -- 6: slot 27 := Op.fieldAddr 77 t26 1
    · obtain ⟨p26, -⟩ := hp
      change ρ (.tmp 26) = _ at p26
      refine turn_plain (ok_is ?_ rfl)
      simp only [execOp, p26]; go_simp; try exact rfl
    refine ⟨fun ρ W ⟨hcst, hglb, hfun⟩ hX hp ho => ?_, ?_⟩ -- 7: slot 28 := Op.load 3 t27
    · obtain ⟨p27, -⟩ := hp
      change ρ (.tmp 27) = _ at p27
      have q := (HD.out.later ((Below.refl _ _).drew.trans hX) (Nat.le_refl _)).cell 1
      simp at q
      refine turn_plain (ok_is ?_ rfl)
      simp only [execOp, p27]; go_simp; try exact rfl
    refine ⟨fun ρ W ⟨hcst, hglb, hfun⟩ hX hp ho => ?_, ?_⟩ -- 8: slot 29 := Op.move t0
    · obtain ⟨o0, -⟩ := ho
      change ρ (.tmp 0) = _ at o0
      refine turn_plain (ok_is ?_ rfl)
      simp only [execOp, o0]; go_simp; try exact rfl
    refine ⟨fun ρ W ⟨hcst, hglb, hfun⟩ hX hp ho => ?_, ?_⟩ -- 9: slot 30 := Op.nilCheck t29
    · obtain ⟨p29, -⟩ := hp
      change ρ (.tmp 29) = _ at p29
      refine turn_plain (ok_is ?_ rfl)
      simp only [execOp, p29]; go_simp; try exact rfl
    refine ⟨fun ρ W ⟨hcst, hglb, hfun⟩ hX hp ho => ?_, ?_⟩ -- 10: slot 31 := Op.fieldAddr 77 t30 5
    · obtain ⟨p30, -⟩ := hp
      change ρ (.tmp 30) = _ at p30
      refine turn_plain (ok_is ?_ rfl)
      simp only [execOp, p30]; go_simp; try exact rfl
    refine ⟨fun ρ W ⟨hcst, hglb, hfun⟩ hX hp ho => ?_, ?_⟩ -- 11: slot 32 := Op.load 3 t31
    · obtain ⟨p31, -⟩ := hp
      change ρ (.tmp 31) = _ at p31
      have q := (HD.out.later ((Below.refl _ _).drew.trans hX) (Nat.le_refl _)).cell 5
      simp at q
      refine turn_plain (ok_is ?_ rfl)
      simp only [execOp, p31]; go_simp; try exact rfl
    refine ⟨fun ρ W ⟨hcst, hglb, hfun⟩ hX hp ho => ?_, ?_⟩ -- 12: slot 33 := Op.move t0
    · obtain ⟨o0, -⟩ := ho
      change ρ (.tmp 0) = _ at o0
      refine turn_plain (ok_is ?_ rfl)
      simp only [execOp, o0]; go_simp; try exact rfl
    refine ⟨fun ρ W ⟨hcst, hglb, hfun⟩ hX hp ho => ?_, ?_⟩ -- 13: slot 34 := Op.nilCheck t33
    · obtain ⟨p33, -⟩ := hp
      change ρ (.tmp 33) = _ at p33
      refine turn_plain (ok_is ?_ rfl)
      simp only [execOp, p33]; go_simp; try exact rfl
    refine ⟨fun ρ W ⟨hcst, hglb, hfun⟩ hX hp ho => ?_, ?_⟩ -- 14: slot 35 := Op.fieldAddr 77 t34 6
    · obtain ⟨p34, -⟩ := hp
      change ρ (.tmp 34) = _ at p34
      refine turn_plain (ok_is ?_ rfl)
      simp only [execOp, p34]; go_simp; try exact rfl
    refine ⟨fun ρ W ⟨hcst, hglb, hfun⟩ hX hp ho => ?_, ?_⟩ -- 15: slot 36 := Op.load 3 t35
    · obtain ⟨p35, -⟩ := hp
      change ρ (.tmp 35) = _ at p35
      have q := (HD.out.later ((Below.refl _ _).drew.trans hX) (Nat.le_refl _)).cell 6
      simp at q
      refine turn_plain (ok_is ?_ rfl)
      simp only [execOp, p35]; go_simp; try exact rfl
    refine ⟨fun ρ W ⟨hcst, hglb, hfun⟩ hX hp ho => ?_, ?_⟩ -- 16: slot 37 := Op.build 80 #[(0, t24), (1, t28), (2, const (Value.bool true)), (3, t32), (4, t36)]
    · obtain ⟨p24, p28, p32, p36, -⟩ := hp
      change ρ (.tmp 24) = _ at p24
      change ρ (.tmp 28) = _ at p28
      change ρ (.tmp 32) = _ at p32
      change ρ (.tmp 36) = _ at p36
      refine turn_plain (ok_is ?_ rfl)
      simp only [execOp, hcst, p24, p28, p32, p36]; go_simp; try exact rfl
    refine ⟨fun ρ W ⟨hcst, hglb, hfun⟩ hX hp ho => ?_, ?_⟩ -- 17: slot 38 := Op.call { value (Operand.func 23), args := #[t37], argTypes := #[80] }
    · obtain ⟨p37, -⟩ := hp
      change ρ (.tmp 37) = _ at p37
      have hW := (Below.refl _ _).drew.trans hX
      refine turn_plain ?_
      have ce := @enter_of Tryd.prog 23 _ Tryd.func23 (by kernel_rfl) (by kernel_rfl)
      refine ok_call (op_call1 hfun ce (by exact rfl) p37) ?_
      refine (QE.out W).mono ?_
      rintro e W' ⟨A_, c_, rfl, ho, bel⟩
      exact ⟨_, rfl, bel, A_, c_, by rw [HM1.out], (by rw [← HM1.out] at ho; exact ownsRow_le_ ho hW.size)⟩
    refine ⟨fun ρ W ⟨hcst, hglb, hfun⟩ hX hp ho => ?_, ?_⟩ -- 18: slot 20 := Op.move t38
    · obtain ⟨p38, -⟩ := hp
      obtain ⟨A38, c38, p38, hat38⟩ := p38
      change ρ (.tmp 38) = _ at p38
      have hW := (Below.refl _ _).drew.trans hX
      refine turn_plain ?_
      refine ok_val (v := .tuple #[.slice A38 m1 c38, .nilIface]) (W' := W) (by simp only [execOp, p38]; go_simp) (Below.refl _ _) ⟨A38, c38, rfl, hat38⟩
    refine ⟨fun ρ W ⟨hcst, hglb, hfun⟩ hX hp ho => ?_, ?_⟩ -- 19: slot 39 := Op.extract t20 0
    · obtain ⟨p20, -⟩ := hp
      obtain ⟨A20, c20, p20, hat20⟩ := p20
      change ρ (.tmp 20) = _ at p20
      have hW := (Below.refl _ _).drew.trans hX
      refine turn_plain ?_
      refine ok_val (v := .slice A20 m1 c20) (W' := W) (by simp only [execOp, p20]; go_simp) (Below.refl _ _) ⟨A20, c20, rfl, hat20⟩
    refine ⟨fun ρ W ⟨hcst, hglb, hfun⟩ hX hp ho => ?_, ?_⟩ -- 20: slot 40 := Op.extract t20 1
    · obtain ⟨p20, -⟩ := hp
      obtain ⟨A20, c20, p20, hat20⟩ := p20
      change ρ (.tmp 20) = _ at p20
      have hW := (Below.refl _ _).drew.trans hX
      refine turn_plain ?_
      refine ok_val (v := .nilIface) (W' := W) (by simp only [execOp, p20]; go_simp) (Below.refl _ _) rfl
    refine ⟨fun ρ W ⟨hcst, hglb, hfun⟩ hX hp ho => ?_, ?_⟩ -- 21: slot 4 := Op.assign t39
    · obtain ⟨p39, -⟩ := hp
      obtain ⟨A39, c39, p39, hat39⟩ := p39
      change ρ (.tmp 39) = _ at p39
      have hW := (Below.refl _ _).drew.trans hX
      refine turn_plain ?_
      refine ok_val (v := .slice A39 m1 c39) (W' := W) (by simp only [execOp, p39]; go_simp) (Below.refl _ _) ⟨A39, c39, rfl, hat39⟩
    refine ⟨fun ρ W ⟨hcst, hglb, hfun⟩ hX hp ho => ?_, ?_⟩ -- 22: slot 5 := Op.assign t40
    · obtain ⟨p40, -⟩ := hp
      change ρ (.tmp 40) = _ at p40
      refine turn_plain (ok_is ?_ rfl)
      simp only [execOp, p40]; go_simp; try exact rfl
    exact trivial
  case fina =>
    rintro v w1 hX ⟨f0, f1, f2, f3, f4, f5, f6, f7, f8, f9, f10, f11, f12, f13, f14, f15, f16, f17, f18, f19, f20, f21, f22, -⟩
    obtain ⟨A_17, c_17, f17, hat_17⟩ := f17
    obtain ⟨A_18, c_18, f18, hat_18⟩ := f18
    obtain ⟨A_19, c_19, f19, hat_19⟩ := f19
    obtain ⟨A_21, c_21, f21, hat_21⟩ := f21
    simp only [is] at f0 f1 f2 f3 f4 f5 f6 f7 f8 f9 f10 f11 f12 f13 f14 f15 f16 f20 f22
    simp only [putAll, Act.put, List.setIfInBounds_toArray, List.set_cons_succ, List.set_cons_zero, f0, f1, f2, f3, f4, f5, f6, f7, f8, f9, f10, f11, f12, f13, f14, f15, f16, f17, f18, f19, f20, f21, f22]
    clear f0 f1 f2 f3 f4 f5 f6 f7 f8 f9 f10 f11 f12 f13 f14 f15 f16 f17 f18 f19 f20 f21 f22
    have HE := Lib.hid hat_21
    clear hat_17 hat_18 hat_19 hat_21
    have HL1 := Lib.hid (HL0.out.same hX.size fun k hl hf => hX.block k hl)
    clear HL0 HD
    have HX1 := Lib.hid (fun k (e : blk A_21 = some k) => (HE.out.lt k e).1)
    have HC1 := Lib.hid (HG.out.trans (Chg.of_below hX) (G := fun _ => False) (fun _ h => h.elim))
    have HE1 := Lib.hid (ownsRow_le_ HE.out HG.out.size)
    clear hX HE
    have hsz1 := HC1.out.size
    go_wp2_with (at_builtin; go_loud (refine wpList_app rfl elt_sl w.heap.size (.tmp 43) (.tmp 45) rfl [] rfl (Own.none_ _ _ _ _) [.slice A_21 m1 c_21] rfl (At.lit _ _ _ _ _ rfl) rfl (by intro u hu; simp at hu; subst hu; rfl) (by unfold maxLen; omega) (by omega) (by simp; omega) ?_); intro A3 c3 w3 own3 g3 hA3; have O3 := Lib.hid own3; have G3 := Lib.hid g3; have HA3 := Lib.hid hA3; clear own3 g3 hA3; have BX := Lib.hid (((Below.refl w1.heap.size w1).alloc (Nat.le_refl _) (.cells #[.slice A_21 m1 c_21] 22)).grown G3.out (by simp) (fun k hk => by cases hk)); have HL := Lib.hid (HL1.out.same BX.out.size fun k hl hf => BX.out.block k hl); have p2 : w3.cell? ⟨p, 2, none⟩ = some (.pointer (some ⟨sp, 0, none⟩)) := HL.out.hd.cell 2)
    have OD := Lib.hid (((OutD.nil w w1 F).later ((Below.refl w1.heap.size w1).alloc (Nat.le_refl _) (.cells #[.slice A_21 m1 c_21] 22))).push HM1.out (HE1.out.alloc _) (fun k e h => by have h5 := HX1.out k e; have h6 := HFl.out k h; have h7 := HSZ.out; omega) (fun k h => by have h6 := HFl.out k h; simp; omega) O3.out G3.out HA3.out)
    have HC := Lib.hid (HC1.out.trans (Chg.of_below BX.out) (G := fun _ => False) (fun _ h => h.elim))
    have hszw := HC.out.size
    clear HL1 HC1 HE1 BX O3 G3 HA3 HX1
    have CO := Lib.hid (out_none w3 HL.out.snd (h0.imp (fun h => by have h5 : l.length = n := HL.out.snd.len; omega) (fun h => h)))
    go_wp2_with fail
    refine CO.out.mono ?_
    rintro e w5 ⟨rfl, rfl⟩
    go_wp2_with fail
    go_ret
    exact ⟨_, _, _, _, F, rfl, OD.out, HC.out, HL.out.lks HF.out HFl.out HC.out.size, fun _ h => .inl h⟩
end
end Go.Proofs.YtodimanghmepoaaDoor
