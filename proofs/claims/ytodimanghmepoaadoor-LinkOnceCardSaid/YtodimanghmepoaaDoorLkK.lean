/- Layer 19: an end of a way: Hear, where what is heard is word of a body. Printed by lkk.py. -/
import Derived.Test.YtodimanghmepoaaDoorLkJ
import Derived.Test.YtodimanghmepoaaDoorRegionE
namespace Go.Proofs.YtodimanghmepoaaDoor
open Go.RowKit
theorem below_drN (B : Nat) (w : World) (j : Nat) : Below B w (w.drewN j) := ⟨rfl, rfl, rfl, Nat.le_refl _, fun _ _ => rfl⟩
theorem Holds.chg {w w' : World} {g : Nat} {t : TypeId} {cs : Array Value} {G : Nat → Prop} (h : Holds w g t cs) (c : Chg G w w') (hn : ¬ G g) : Holds w' g t cs := h.same (c.block g h.lt hn)
theorem LkN.later {w w1 w2 : World} {F : Nat → Prop} {p : Nat} {s : LSt} (h : LkN w F p s w1) (b : Below w1.heap.size w1 w2) : LkN w F p s w2 := by
  obtain ⟨c, F', l, f⟩ := h
  exact ⟨c.trans (Chg.of_below b) (G := fun _ => False) (fun _ h => h.elim), F', l.later b, f⟩
section
variable {F : Nat → Prop} {p : Nat} {s : LSt}
set_option maxRecDepth 100000 in
set_option maxHeartbeats 2000000 in
theorem lhear_word_no (w : World) (h : LkS w F p s) (ok : LOk s) (A : Option Addr) (n c : Nat) (l : List Nat) (hl : l.length = n) (hnc : n ≤ c) (hc2 : c ≤ 9223372036854775807) (hat : At w A (nats .u8 l)) (hb : ∀ y ∈ l, y < 256)
    {fr dt : Nat} {ep sq : Nat} {bd : List Nat} (hg : Good l fr dt true ep sq bd) (hf : (fr : Int) = s.ot) (ht : (dt : Int) = s.me) (h0 : (ep : Int) ≠ s.E ∨ (sq : Int) ≠ s.S ∨ s.l.length = 0) :
    Calls Tryd.prog 10 #[.pointer (some ⟨p, 0, none⟩), .slice A n c] w (HearE w F p s [] false 0) := by
  have CD := Lib.hid (dec_any A n c l w hl hnc hc2 hat hb)
  have HG := Lib.hid hg
  clear hat hb hl hnc hc2 hg
  obtain ⟨sp, rp, base, A0, n0, c0, vs, h, hF, hlt⟩ := h
  have HF := Lib.hid hF
  have HLT := Lib.hid hlt
  have HL := Lib.hid h
  clear h hF hlt
  obtain ⟨me, ot, E, S, ll, st, lf, RE, RL, gv, ep0, sq0⟩ := s
  have H0 := Lib.hid h0
  clear h0
  simp only at hf ht
  have OK := Lib.hid ok
  clear ok
  go_enter Tryd.func10, Tryd.ntmps10
  go_wp2_with fail
  refine CD.out.mono ?_
  clear CD
  rintro e w1 ⟨fr', dt', k', ep', sq', bd', x, A1, c1, rfl, hat1, b1, hres, hf1⟩
  obtain ⟨rfl, rfl, rfl, rfl, rfl, rfl, rfl⟩ := hres.uniq (.inl ⟨rfl, HG.out⟩)
  rw [erV_zero]
  simp only [pkF]
  have B1 := Lib.hid b1
  have HT1 := Lib.hid hat1
  have HL1 := Lib.hid (HL.out.same b1.size fun k hl hf => b1.block k hl)
  have q0 : w1.cell? ⟨p, 0, none⟩ = some (.int .i64 me) := HL1.out.hd.cell 0
  have q1 : w1.cell? ⟨p, 1, none⟩ = some (.int .i64 ot) := HL1.out.hd.cell 1
  have hp1 : p < w1.heap.size := HL1.out.hd.lt
  have HF1 := Lib.hid hf1
  clear hat1 b1 hres hf1
  go_upto_region 6 with fail
  have d1 : decide ((fr' : Int) = ot) = true := decide_eq_true hf
  have d2 : decide ((dt' : Int) = me) = true := decide_eq_true ht
  go_quiet (fail)
  go_upto_region 9 with fail
  have BA := (Below.refl w1.heap.size w1).alloc (Nat.le_refl _) (.cells #[.int .i64 ot, .int .i64 me, .bool true, .int .i64 (ep' : Int), .int .i64 (sq' : Int), .slice A1 bd'.length c1] 80)
  have HP := Lib.hid ((Holds.new w1 80 #[.int .i64 ot, .int .i64 me, .bool true, .int .i64 (ep' : Int), .int .i64 (sq' : Int), .slice A1 bd'.length c1] w1.heap.size rfl).drewN nq)
  have BW := Lib.hid (BA.trans (below_drN w1.heap.size _ nq))
  clear BA
  generalize (w1.alloc (.cells #[.int .i64 ot, .int .i64 me, .bool true, .int .i64 (ep' : Int), .int .i64 (sq' : Int), .slice A1 bd'.length c1] 80)).drewN nq = w2 at *
  have HL2 := Lib.hid (HL1.out.same BW.out.size fun k hl hf => BW.out.block k hl)
  have HT2 := Lib.hid (HT1.out.later BW.out (Nat.le_refl _))
  have B2 := Lib.hid (B1.out.trans (BW.out.mono B1.out.size))
  have HGF := Lib.hid (show ¬ Fsnd sp A0 vs w1.heap.size from fun hk => absurd (HL1.out.snd.foot hk) (Nat.lt_irrefl _))
  obtain ⟨g, hgq⟩ : ∃ g, w1.heap.size = g := ⟨_, rfl⟩
  have HBZ := Lib.hid BW.out.size
  clear q0 q1 hp1 d1 d2 HL1 HT1 BW
  rw [hgq] at HP HGF ⊢
  clear hgq
  have CH := Lib.hid (fun W (hW : Below w2.heap.size w2 W) => heard_no W ep' sq' (HL2.out.snd.below hW (Nat.le_refl _)) (by rcases H0.out with h | h | h; exact .inl h; exact .inr (.inl h); exact .inr (.inr (by have h5 : ll.length = n0 := HL2.out.snd.len; have h6 : ll.length = 0 := h; omega))))
  refine wp_region_below (is ?a0 :: is ?a1 :: is ?a2 :: is ?a3 :: is ?a4 :: is ?a5 :: is ?a6 :: is ?a7 :: is (.bool false) :: [])
    [⟨[], [0], none⟩, ⟨[(41, 0)], [], none⟩, ⟨[(42, 1)], [], none⟩, ⟨[(43, 2)], [], none⟩, ⟨[], [7], none⟩, ⟨[(45, 4)], [], none⟩, ⟨[], [7], none⟩, ⟨[(47, 6)], [], none⟩, ⟨[(44, 3), (46, 5), (48, 7)], [], none⟩] (by kernel_rfl) (by kernel_rfl) (by kernel_rfl) (by kernel_rfl) (by kernel_rfl) ?monoa ?stepsa ?fina
  case monoa => exact ⟨mono_eq _, mono_eq _, mono_eq _, mono_eq _, mono_eq _, mono_eq _, mono_eq _, mono_eq _, mono_eq _, trivial⟩
  case stepsa =>
    refine ⟨fun ρ W ⟨hcst, hglb, hfun⟩ hX hp ho => ?_, ?_⟩ -- 0: slot 41 := Op.move t0
    · obtain ⟨o0, -⟩ := ho
      change ρ (.tmp 0) = _ at o0
      refine turn_plain (ok_is ?_ rfl)
      simp only [execOp, o0]; go_simp; try exact rfl
    refine ⟨fun ρ W ⟨hcst, hglb, hfun⟩ hX hp ho => ?_, ?_⟩ -- 1: slot 42 := Op.nilCheck t41
    · obtain ⟨p41, -⟩ := hp
      change ρ (.tmp 41) = _ at p41
      refine turn_plain (ok_is ?_ rfl)
      simp only [execOp, p41]; go_simp; try exact rfl
    refine ⟨fun ρ W ⟨hcst, hglb, hfun⟩ hX hp ho => ?_, ?_⟩ -- 2: slot 43 := Op.fieldAddr 77 t42 2
    · obtain ⟨p42, -⟩ := hp
      change ρ (.tmp 42) = _ at p42
      refine turn_plain (ok_is ?_ rfl)
      simp only [execOp, p42]; go_simp; try exact rfl
    refine ⟨fun ρ W ⟨hcst, hglb, hfun⟩ hX hp ho => ?_, ?_⟩ -- 3: slot 44 := Op.load 71 t43
    · obtain ⟨p43, -⟩ := hp
      change ρ (.tmp 43) = _ at p43
      have q : W.cell? ⟨p, 2, none⟩ = some (.pointer (some ⟨sp, 0, none⟩)) := (HL2.out.hd.later ((Below.refl _ _).drew.trans hX) (Nat.le_refl _)).cell 2
      refine turn_plain (ok_is ?_ rfl)
      simp only [execOp, p43]; go_simp; try exact rfl
    refine ⟨fun ρ W ⟨hcst, hglb, hfun⟩ hX hp ho => ?_, ?_⟩ -- 4: slot 45 := Op.fieldAddr 80 t7 3
    · obtain ⟨o7, -⟩ := ho
      change ρ (.tmp 7) = _ at o7
      refine turn_plain (ok_is ?_ rfl)
      simp only [execOp, o7]; go_simp; try exact rfl
    refine ⟨fun ρ W ⟨hcst, hglb, hfun⟩ hX hp ho => ?_, ?_⟩ -- 5: slot 46 := Op.load 3 t45
    · obtain ⟨p45, -⟩ := hp
      change ρ (.tmp 45) = _ at p45
      have q : W.cell? ⟨g, 3, none⟩ = some (.int .i64 (ep' : Int)) := (HP.out.later ((Below.refl _ _).drew.trans hX) (Nat.le_refl _)).cell 3
      refine turn_plain (ok_is ?_ rfl)
      simp only [execOp, p45]; go_simp; try exact rfl
    refine ⟨fun ρ W ⟨hcst, hglb, hfun⟩ hX hp ho => ?_, ?_⟩ -- 6: slot 47 := Op.fieldAddr 80 t7 4
    · obtain ⟨o7, -⟩ := ho
      change ρ (.tmp 7) = _ at o7
      refine turn_plain (ok_is ?_ rfl)
      simp only [execOp, o7]; go_simp; try exact rfl
    refine ⟨fun ρ W ⟨hcst, hglb, hfun⟩ hX hp ho => ?_, ?_⟩ -- 7: slot 48 := Op.load 3 t47
    · obtain ⟨p47, -⟩ := hp
      change ρ (.tmp 47) = _ at p47
      have q : W.cell? ⟨g, 4, none⟩ = some (.int .i64 (sq' : Int)) := (HP.out.later ((Below.refl _ _).drew.trans hX) (Nat.le_refl _)).cell 4
      refine turn_plain (ok_is ?_ rfl)
      simp only [execOp, p47]; go_simp; try exact rfl
    refine ⟨fun ρ W ⟨hcst, hglb, hfun⟩ hX hp ho => ?_, ?_⟩ -- 8: slot 49 := Op.call { value (Operand.func 27), args := #[t44, t46, t48], argTypes := #[71, 3, 3] }
    · obtain ⟨p44, p46, p48, -⟩ := hp
      change ρ (.tmp 44) = _ at p44
      change ρ (.tmp 46) = _ at p46
      change ρ (.tmp 48) = _ at p48
      have hW := (Below.refl _ _).drew.trans hX
      refine turn_plain ?_
      have ce := @enter_of Tryd.prog 27 _ Tryd.func27 (by kernel_rfl) (by kernel_rfl)
      refine ok_call (op_call3 hfun ce (by exact rfl) p44 p46 p48) ?_
      refine (CH.out W hW).mono ?_
      rintro e W' ⟨rfl, rfl⟩
      exact ⟨_, rfl, Below.refl _ _, rfl⟩
    exact trivial
  case fina =>
    rintro v w3 hX ⟨f0, f1, f2, f3, f4, f5, f6, f7, f8, -⟩
    simp only [is] at f0 f1 f2 f3 f4 f5 f6 f7 f8
    simp only [putAll, Act.put, List.setIfInBounds_toArray, List.set_cons_succ, List.set_cons_zero, f0, f1, f2, f3, f4, f5, f6, f7, f8]
    clear f0 f1 f2 f3 f4 f5 f6 f7 f8
    have B3 := B2.out.trans (hX.mono B2.out.size)
    clear hX
    go_wp2_with fail
    exact bodyPost_ret (v := .tuple #[.slice none 0 0, .bool false, .nilIface]) (by simp [results, Tryd.results10, go_sem]) rfl (hearE_no ⟨Chg.of_below B3, F, ⟨sp, rp, base, A0, n0, c0, vs, HL.out.same B3.size fun k hl hf => B3.block k hl, HF.out, fun k hk => Nat.lt_of_lt_of_le (HLT.out k hk) B3.size⟩, fun _ h => .inl h⟩ rfl)
set_option maxRecDepth 100000 in
set_option maxHeartbeats 2000000 in
theorem lhear_word_yes (w : World) (h : LkS w F p s) (ok : LOk s) (A : Option Addr) (n c : Nat) (l : List Nat) (hl : l.length = n) (hnc : n ≤ c) (hc2 : c ≤ 9223372036854775807) (hat : At w A (nats .u8 l)) (hb : ∀ y ∈ l, y < 256)
    {fr dt : Nat} {ep sq : Nat} {bd : List Nat} (hg : Good l fr dt true ep sq bd) (hf : (fr : Int) = s.ot) (ht : (dt : Int) = s.me) {b : List Nat} {rest : List (List Nat)} (hll : s.l = b :: rest) (he : (ep : Int) = s.E) (hq : (sq : Int) = s.S) :
    Calls Tryd.prog 10 #[.pointer (some ⟨p, 0, none⟩), .slice A n c] w (HearE w F p { s with S := s.S + 1, l := rest, st := 0, lf := 0 } [] false 0) := by
  have CD := Lib.hid (dec_any A n c l w hl hnc hc2 hat hb)
  have HG := Lib.hid hg
  clear hat hb hl hnc hc2 hg
  obtain ⟨sp, rp, base, A0, n0, c0, vs, h, hF, hlt⟩ := h
  have HF := Lib.hid hF
  have HLT := Lib.hid hlt
  have HL := Lib.hid h
  clear h hF hlt
  obtain ⟨me, ot, E, S, ll, st, lf, RE, RL, gv, ep0, sq0⟩ := s
  simp only at hll he hq
  subst hll he hq
  simp only at hf ht
  have OK := Lib.hid ok
  clear ok
  go_enter Tryd.func10, Tryd.ntmps10
  go_wp2_with fail
  refine CD.out.mono ?_
  clear CD
  rintro e w1 ⟨fr', dt', k', ep', sq', bd', x, A1, c1, rfl, hat1, b1, hres, hf1⟩
  obtain ⟨rfl, rfl, rfl, rfl, rfl, rfl, rfl⟩ := hres.uniq (.inl ⟨rfl, HG.out⟩)
  rw [erV_zero]
  simp only [pkF]
  have B1 := Lib.hid b1
  have HT1 := Lib.hid hat1
  have HL1 := Lib.hid (HL.out.same b1.size fun k hl hf => b1.block k hl)
  have q0 : w1.cell? ⟨p, 0, none⟩ = some (.int .i64 me) := HL1.out.hd.cell 0
  have q1 : w1.cell? ⟨p, 1, none⟩ = some (.int .i64 ot) := HL1.out.hd.cell 1
  have hp1 : p < w1.heap.size := HL1.out.hd.lt
  have HF1 := Lib.hid hf1
  clear hat1 b1 hres hf1
  go_upto_region 6 with fail
  have d1 : decide ((fr' : Int) = ot) = true := decide_eq_true hf
  have d2 : decide ((dt' : Int) = me) = true := decide_eq_true ht
  go_quiet (fail)
  go_upto_region 9 with fail
  have BA := (Below.refl w1.heap.size w1).alloc (Nat.le_refl _) (.cells #[.int .i64 ot, .int .i64 me, .bool true, .int .i64 (ep' : Int), .int .i64 (sq' : Int), .slice A1 bd'.length c1] 80)
  have HP := Lib.hid ((Holds.new w1 80 #[.int .i64 ot, .int .i64 me, .bool true, .int .i64 (ep' : Int), .int .i64 (sq' : Int), .slice A1 bd'.length c1] w1.heap.size rfl).drewN nq)
  have BW := Lib.hid (BA.trans (below_drN w1.heap.size _ nq))
  clear BA
  generalize (w1.alloc (.cells #[.int .i64 ot, .int .i64 me, .bool true, .int .i64 (ep' : Int), .int .i64 (sq' : Int), .slice A1 bd'.length c1] 80)).drewN nq = w2 at *
  have HL2 := Lib.hid (HL1.out.same BW.out.size fun k hl hf => BW.out.block k hl)
  have HT2 := Lib.hid (HT1.out.later BW.out (Nat.le_refl _))
  have B2 := Lib.hid (B1.out.trans (BW.out.mono B1.out.size))
  have HGF := Lib.hid (show ¬ Fsnd sp A0 vs w1.heap.size from fun hk => absurd (HL1.out.snd.foot hk) (Nat.lt_irrefl _))
  obtain ⟨g, hgq⟩ : ∃ g, w1.heap.size = g := ⟨_, rfl⟩
  have HBZ := Lib.hid BW.out.size
  clear q0 q1 hp1 d1 d2 HL1 HT1 BW
  rw [hgq] at HP HGF ⊢
  clear hgq
  have HS := Lib.hid (show 1 ≤ (sq' : Int) ∧ (sq' : Int) ≤ 1073741824 from by have := OK.out.S; simp only [List.length_cons] at this; omega)
  refine wp_region_act 8 (Chg (Fsnd sp A0 vs)) (is ?b0 :: is ?b1 :: is ?b2 :: is ?b3 :: is ?b4 :: is ?b5 :: is ?b6 :: is ?b7 :: (fun v W => v = .bool true ∧ LkN w F p ⟨me, ot, (ep' : Int), (sq' : Int) + 1, rest, 0, 0, RE, RL, gv, ep0, sq0⟩ W) :: [])
    [⟨[], [0], none⟩, ⟨[(41, 0)], [], none⟩, ⟨[(42, 1)], [], none⟩, ⟨[(43, 2)], [], none⟩, ⟨[], [7], none⟩, ⟨[(45, 4)], [], none⟩, ⟨[], [7], none⟩, ⟨[(47, 6)], [], none⟩, ⟨[(44, 3), (46, 5), (48, 7)], [], none⟩] (by kernel_rfl) (by kernel_rfl) (by kernel_rfl) (by kernel_rfl) (by kernel_rfl) (by kernel_rfl) (fun _ _ => Chg.of_below) (fun _ _ _ h k => h.trans k (fun _ h => .inl h)) ?monob ?stepsb ?finb
  case monob => exact ⟨(if_neg (by decide)).mpr (mono_eqX _), (if_neg (by decide)).mpr (mono_eqX _), (if_neg (by decide)).mpr (mono_eqX _), (if_neg (by decide)).mpr (mono_eqX _), (if_neg (by decide)).mpr (mono_eqX _), (if_neg (by decide)).mpr (mono_eqX _), (if_neg (by decide)).mpr (mono_eqX _), (if_neg (by decide)).mpr (mono_eqX _), (if_pos rfl).mpr (fun _ _ _ h b => ⟨h.1, h.2.later b⟩), trivial⟩
  case stepsb =>
    refine ⟨(if_neg (by decide)).mpr fun ρ W ⟨hcst, hglb, hfun⟩ hX hp ho => ?_, ?_⟩ -- 0: slot 41 := Op.move t0
    · obtain ⟨o0, -⟩ := ho
      change ρ (.tmp 0) = _ at o0
      refine turn_plain (ok_is ?_ rfl)
      simp only [execOp, o0]; go_simp; try exact rfl
    refine ⟨(if_neg (by decide)).mpr fun ρ W ⟨hcst, hglb, hfun⟩ hX hp ho => ?_, ?_⟩ -- 1: slot 42 := Op.nilCheck t41
    · obtain ⟨p41, -⟩ := hp
      change ρ (.tmp 41) = _ at p41
      refine turn_plain (ok_is ?_ rfl)
      simp only [execOp, p41]; go_simp; try exact rfl
    refine ⟨(if_neg (by decide)).mpr fun ρ W ⟨hcst, hglb, hfun⟩ hX hp ho => ?_, ?_⟩ -- 2: slot 43 := Op.fieldAddr 77 t42 2
    · obtain ⟨p42, -⟩ := hp
      change ρ (.tmp 42) = _ at p42
      refine turn_plain (ok_is ?_ rfl)
      simp only [execOp, p42]; go_simp; try exact rfl
    refine ⟨(if_neg (by decide)).mpr fun ρ W ⟨hcst, hglb, hfun⟩ hX hp ho => ?_, ?_⟩ -- 3: slot 44 := Op.load 71 t43
    · obtain ⟨p43, -⟩ := hp
      change ρ (.tmp 43) = _ at p43
      have q : W.cell? ⟨p, 2, none⟩ = some (.pointer (some ⟨sp, 0, none⟩)) := (HL2.out.hd.chg (Chg.trans (Chg.of_below (Below.refl _ _).drew) hX (fun _ h => .inl h)) (fun h => (HL2.out.far p h).1 rfl)).cell 2
      refine turn_plain (ok_is ?_ rfl)
      simp only [execOp, p43]; go_simp; try exact rfl
    refine ⟨(if_neg (by decide)).mpr fun ρ W ⟨hcst, hglb, hfun⟩ hX hp ho => ?_, ?_⟩ -- 4: slot 45 := Op.fieldAddr 80 t7 3
    · obtain ⟨o7, -⟩ := ho
      change ρ (.tmp 7) = _ at o7
      refine turn_plain (ok_is ?_ rfl)
      simp only [execOp, o7]; go_simp; try exact rfl
    refine ⟨(if_neg (by decide)).mpr fun ρ W ⟨hcst, hglb, hfun⟩ hX hp ho => ?_, ?_⟩ -- 5: slot 46 := Op.load 3 t45
    · obtain ⟨p45, -⟩ := hp
      change ρ (.tmp 45) = _ at p45
      have q : W.cell? ⟨g, 3, none⟩ = some (.int .i64 (ep' : Int)) := (HP.out.chg (Chg.trans (Chg.of_below (Below.refl _ _).drew) hX (fun _ h => .inl h)) HGF.out).cell 3
      refine turn_plain (ok_is ?_ rfl)
      simp only [execOp, p45]; go_simp; try exact rfl
    refine ⟨(if_neg (by decide)).mpr fun ρ W ⟨hcst, hglb, hfun⟩ hX hp ho => ?_, ?_⟩ -- 6: slot 47 := Op.fieldAddr 80 t7 4
    · obtain ⟨o7, -⟩ := ho
      change ρ (.tmp 7) = _ at o7
      refine turn_plain (ok_is ?_ rfl)
      simp only [execOp, o7]; go_simp; try exact rfl
    refine ⟨(if_neg (by decide)).mpr fun ρ W ⟨hcst, hglb, hfun⟩ hX hp ho => ?_, ?_⟩ -- 7: slot 48 := Op.load 3 t47
    · obtain ⟨p47, -⟩ := hp
      change ρ (.tmp 47) = _ at p47
      have q : W.cell? ⟨g, 4, none⟩ = some (.int .i64 (sq' : Int)) := (HP.out.chg (Chg.trans (Chg.of_below (Below.refl _ _).drew) hX (fun _ h => .inl h)) HGF.out).cell 4
      refine turn_plain (ok_is ?_ rfl)
      simp only [execOp, p47]; go_simp; try exact rfl
    refine ⟨(if_pos rfl).mpr fun ρ W ⟨hcst, hglb, hfun⟩ hX hp ho => ?_, ?_⟩ -- 8: slot 49 := Op.call { value (Operand.func 27), args := #[t44, t46, t48], argTypes := #[71, 3, 3] }
    · obtain ⟨p44, p46, p48, -⟩ := hp
      change ρ (.tmp 44) = _ at p44
      change ρ (.tmp 46) = _ at p46
      change ρ (.tmp 48) = _ at p48
      have hW := (Below.refl _ _).drew.trans hX
      have ce := @enter_of Tryd.prog 27 _ Tryd.func27 (by kernel_rfl) (by kernel_rfl)
      refine act_call (op_call3 hfun ce (by exact rfl) p44 p46 p48) ?_
      refine (heard_k W (HL2.out.snd.below hW (Nat.le_refl _)) HS.out (Nat.le_trans HL2.out.base hW.size)).mono ?_
      rintro e W' ⟨rfl, hk⟩
      have HLW := HL2.out.same hW.size fun k hl hf => hW.block k hl
      have hN := HLW.snd_turn HF.out hk
      obtain ⟨A', n', c', vs', -, kept, -, -⟩ := hk
      exact ⟨_, rfl, ⟨kept.os, kept.tape, kept.output, kept.size, fun k hk hn => kept.block k hk (fun e => hn (.inl e)) (fun e => hn (.inr (.inl e)))⟩, rfl, LkN.trans (Chg.of_below (B2.out.trans (hW.mono B2.out.size))) (fun _ h => .inl h) hN⟩
    exact trivial
  case finb =>
    rintro v w3 hX ⟨f0, f1, f2, f3, f4, f5, f6, f7, f8, -⟩
    obtain ⟨f8, hN⟩ := f8
    simp only [is] at f0 f1 f2 f3 f4 f5 f6 f7
    simp only [putAll, Act.put, List.setIfInBounds_toArray, List.set_cons_succ, List.set_cons_zero, f0, f1, f2, f3, f4, f5, f6, f7, f8]
    clear f0 f1 f2 f3 f4 f5 f6 f7 f8
    have HN := Lib.hid hN
    clear hN hX
    go_wp2_with fail
    exact bodyPost_ret (v := .tuple #[.slice none 0 0, .bool false, .nilIface]) (by simp [results, Tryd.results10, go_sem]) rfl (hearE_no HN.out rfl)
end
end Go.Proofs.YtodimanghmepoaaDoor
