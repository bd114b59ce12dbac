/- Layer 19: an end of a way: Hear, where what is heard is a body. Printed by lkk.py. -/
import Derived.Test.YtodimanghmepoaaDoorLkK
namespace Go.Proofs.YtodimanghmepoaaDoor
open Go.RowKit
theorem At.apart {w w' : World} {A : Option Addr} {l : List Nat} {g : Nat} {t : TypeId} {cs : Array Value} (ha : At w A (nats .u8 l)) (hl : Holds w g t cs) (hno : ∀ (i : Nat) (x : Int), cs[i]? ≠ some (Value.int .u8 x)) (hc : Chg (fun k => k = g) w w') : At w' A (nats .u8 l) := by
  by_cases h0 : l = []
  · subst h0; exact At.nil _ _
  · refine ha.same fun k hk hlt => hc.block k hlt fun e => ?_
    subst e
    obtain ⟨b', o', rfl, h1⟩ := ha.nat 0 (by cases l with | nil => exact absurd rfl h0 | cons _ _ => simp)
    simp [blk] at hk
    subst hk
    have hx := hl.cell (o' + 0)
    rw [h1] at hx
    exact hno _ _ hx.symm
theorem recv_no (E L : Int) : ∀ (i : Nat) (x : Int), (recvOf E L)[i]? ≠ some (Value.int .u8 x)
  | 0, x => by simp [recvOf]
  | 1, x => by simp [recvOf]
  | i + 2, x => by simp [recvOf]
theorem lk_no (me ot : Int) (sp rp : Nat) (gv : Bool) (ep sq : Int) : ∀ (i : Nat) (x : Int), (lkOf me ot sp rp gv ep sq)[i]? ≠ some (Value.int .u8 x)
  | 0, x => by simp [lkOf]
  | 1, x => by simp [lkOf]
  | 2, x => by simp [lkOf]
  | 3, x => by simp [lkOf]
  | 4, x => by simp [lkOf]
  | 5, x => by simp [lkOf]
  | 6, x => by simp [lkOf]
  | i + 7, x => by simp [lkOf]
theorem Lk.gave {p sp rp base : Nat} {A : Option Addr} {n c : Nat} {vs : List Value} {s : LSt} {w : World} (h : Lk w p sp rp base A n c vs s) (ep sq : Int) :
    Lk (((w.setCell ⟨p, 4, none⟩ (.bool true)).setCell ⟨p, 5, none⟩ (.int .i64 ep)).setCell ⟨p, 6, none⟩ (.int .i64 sq)) p sp rp base A n c vs { s with gv := true, ep := ep, sq := sq } ∧
    w.grownBy (((w.setCell ⟨p, 4, none⟩ (.bool true)).setCell ⟨p, 5, none⟩ (.int .i64 ep)).setCell ⟨p, 6, none⟩ (.int .i64 sq)) (some p) := by
  have g := grown_set (grown_set (grown_set (grown_refl w (some p)) 4 (.bool true)) 5 (.int .i64 ep)) 6 (.int .i64 sq)
  have hb : ∀ k, k < w.heap.size → k ≠ p → (((w.setCell ⟨p, 4, none⟩ (.bool true)).setCell ⟨p, 5, none⟩ (.int .i64 ep)).setCell ⟨p, 6, none⟩ (.int .i64 sq)).heap[k]? = w.heap[k]? := fun k hk hn => g.block k hk (fun e => by injection e with e; exact hn e)
  exact ⟨⟨((h.hd.set 4 (.bool true)).set 5 (.int .i64 ep)).set 6 (.int .i64 sq), h.snd.same g.size (fun k hl hf => hb k hl (h.far k hf).1), h.rcv.same (hb rp h.rcv.lt (fun e => h.pr e.symm)), h.pr, h.far, Nat.le_trans h.base g.size⟩, g⟩
theorem hearE_yes {w w1 w' : World} {F : Nat → Prop} {p : Nat} {s0 s' : LSt} {bd : List Nat} {A : Option Addr} {c : Nat} {e : Ending} (he : e = .returned (.tuple #[.slice A bd.length c, .bool true, .nilIface])) (ha : At w' A (nats .u8 bd)) (hs : s0 = s') (hc : Chg F w w') (hl : LkS w' F p s')
    (hlt : ∀ k, F k → k < w.heap.size) (hf : ∀ k, blk A = some k → w.heap.size ≤ k ∧ k < w1.heap.size) (h1 : w1.heap.size ≤ w'.heap.size) : HearE w F p s0 bd true 0 e w' :=
  ⟨A, c, he, ha, hc, F, hs ▸ hl, fun _ h => .inl h, fun k hk => ⟨(hf k hk).1, Nat.lt_of_lt_of_le (hf k hk).2 h1, fun h => by have := hlt k h; have := (hf k hk).1; omega⟩⟩
theorem Lk.rcvd {p sp rp base : Nat} {A : Option Addr} {n c : Nat} {vs : List Value} {s : LSt} {w w' : World} (h : Lk w p sp rp base A n c vs s) (hc : Chg (fun k => k = rp) w w') {E2 L2 : Int} (hr : Holds w' rp 113 (recvOf E2 L2)) :
    Lk w' p sp rp base A n c vs { s with RE := E2, RL := L2 } :=
  ⟨h.hd.chg hc h.pr, h.snd.same hc.size (fun k hl hf => hc.block k hl (h.far k hf).2), hr, h.pr, h.far, Nat.le_trans h.base hc.size⟩
section
variable {F : Nat → Prop} {p : Nat} {s : LSt}
set_option maxRecDepth 100000 in
set_option maxHeartbeats 2000000 in
theorem lhear_data_n (w : World) (h : LkS w F p s) (ok : LOk s) (A : Option Addr) (n c : Nat) (l : List Nat) (hl : l.length = n) (hnc : n ≤ c) (hc2 : c ≤ 9223372036854775807) (hat : At w A (nats .u8 l)) (hb : ∀ y ∈ l, y < 256)
    {fr dt : Nat} {ep sq : Nat} {bd : List Nat} (hg : Good l fr dt false ep sq bd) (hf : (fr : Int) = s.ot) (ht : (dt : Int) = s.me) {tk : Bool} {la RE2 RL2 : Int} (hrc : rc s.RE s.RL ep sq = ((RE2, RL2), tk, la)) (htk : tk = false) (hla : la < 0) :
    Calls Tryd.prog 10 #[.pointer (some ⟨p, 0, none⟩), .slice A n c] w (HearE w F p (takeS s ep sq) [] false 0) := by
  have CD := Lib.hid (dec_any A n c l w hl hnc hc2 hat hb)
  have HG := Lib.hid hg
  clear hat hb hl hnc hc2 hg
  obtain ⟨sp, rp, base, A0, n0, c0, vs, h, hF, hlt⟩ := h
  have HF := Lib.hid hF
  have HLT := Lib.hid hlt
  have HL := Lib.hid h
  clear h hF hlt
  obtain ⟨me, ot, E, S, ll, st, lf, RE, RL, gv, ep0, sq0⟩ := s
  simp only at hrc
  simp only at hf ht
  have OK := Lib.hid ok
  clear ok
  go_enter Tryd.func10, Tryd.ntmps10
  go_wp2_with fail
  refine CD.out.mono ?_
  clear CD
  rintro e w1 ⟨fr', dt', k', ep', sq', bd', x, A1, c1, rfl, hat1, b1, hres, hf1⟩
  obtain ⟨rfl, rfl, rfl, rfl, rfl, rfl, rfl⟩ := hres.uniq (.inl ⟨rfl, HG.out⟩)
  rw [erV_zero]
  simp only [pkF]
  have B1 := Lib.hid b1
  have HT1 := Lib.hid hat1
  have HL1 := Lib.hid (HL.out.same b1.size fun k hl hf => b1.block k hl)
  have q0 : w1.cell? ⟨p, 0, none⟩ = some (.int .i64 me) := HL1.out.hd.cell 0
  have q1 : w1.cell? ⟨p, 1, none⟩ = some (.int .i64 ot) := HL1.out.hd.cell 1
  have hp1 : p < w1.heap.size := HL1.out.hd.lt
  have HF1 := Lib.hid hf1
  clear hat1 b1 hres hf1
  go_upto_region 6 with fail
  have d1 : decide ((fr' : Int) = ot) = true := decide_eq_true hf
  have d2 : decide ((dt' : Int) = me) = true := decide_eq_true ht
  go_quiet (fail)
  go_upto_region 11 with fail
  have BA := (Below.refl w1.heap.size w1).alloc (Nat.le_refl _) (.cells #[.int .i64 ot, .int .i64 me, .bool false, .int .i64 (ep' : Int), .int .i64 (sq' : Int), .slice A1 bd'.length c1] 80)
  have HP := Lib.hid ((Holds.new w1 80 #[.int .i64 ot, .int .i64 me, .bool false, .int .i64 (ep' : Int), .int .i64 (sq' : Int), .slice A1 bd'.length c1] w1.heap.size rfl).drewN nq)
  have BW := Lib.hid (BA.trans (below_drN w1.heap.size _ nq))
  clear BA
  generalize (w1.alloc (.cells #[.int .i64 ot, .int .i64 me, .bool false, .int .i64 (ep' : Int), .int .i64 (sq' : Int), .slice A1 bd'.length c1] 80)).drewN nq = w2 at *
  have HL2 := Lib.hid (HL1.out.same BW.out.size fun k hl hf => BW.out.block k hl)
  have HT2 := Lib.hid (HT1.out.later BW.out (Nat.le_refl _))
  have B2 := Lib.hid (B1.out.trans (BW.out.mono B1.out.size))
  have HGR := Lib.hid (show ¬ w1.heap.size = rp from fun hk => absurd HL1.out.rcv.lt (by omega))
  have HGP := Lib.hid (show w1.heap.size ≠ p from fun hk => absurd HL1.out.hd.lt (by omega))
  obtain ⟨g, hgq⟩ : ∃ g, w1.heap.size = g := ⟨_, rfl⟩
  have HBZ := Lib.hid BW.out.size
  clear q0 q1 hp1 d1 d2 HL1 HT1 BW
  rw [hgq] at HP HGR HGP ⊢
  clear hgq
  have hrc := Lib.hid hrc
  refine wp_region_act 8 (Chg (fun k => k = rp)) (is ?cn0 :: is ?cn1 :: is ?cn2 :: is ?cn3 :: is ?cn4 :: is ?cn5 :: is ?cn6 :: is ?cn7 :: (fun v W => v = .tuple #[.bool tk, .int .i64 la] ∧ Holds W rp 113 (recvOf RE2 RL2)) :: is ?cn9 :: is ?cn10 :: is ?cn11 :: is ?cn12 :: is ?cn13 :: [])
    [⟨[], [0], none⟩, ⟨[(51, 0)], [], none⟩, ⟨[(52, 1)], [], none⟩, ⟨[(53, 2)], [], none⟩, ⟨[], [7], none⟩, ⟨[(55, 4)], [], none⟩, ⟨[], [7], none⟩, ⟨[(57, 6)], [], none⟩, ⟨[(54, 3), (56, 5), (58, 7)], [], none⟩, ⟨[(59, 8)], [], none⟩, ⟨[(50, 9)], [], none⟩, ⟨[(50, 9)], [], none⟩, ⟨[(60, 10)], [], none⟩, ⟨[(61, 11)], [], none⟩] (by kernel_rfl) (by kernel_rfl) (by kernel_rfl) (by kernel_rfl) (by kernel_rfl) (by kernel_rfl) (fun _ _ => Chg.of_below) (fun _ _ _ h k => h.trans k (fun _ h => .inl h)) ?monocn ?stepscn ?fincn
  case monocn => exact ⟨(if_neg (by decide)).mpr (mono_eqX _), (if_neg (by decide)).mpr (mono_eqX _), (if_neg (by decide)).mpr (mono_eqX _), (if_neg (by decide)).mpr (mono_eqX _), (if_neg (by decide)).mpr (mono_eqX _), (if_neg (by decide)).mpr (mono_eqX _), (if_neg (by decide)).mpr (mono_eqX _), (if_neg (by decide)).mpr (mono_eqX _), (if_pos rfl).mpr (fun _ _ _ h b => ⟨h.1, h.2.later b (Nat.le_refl _)⟩), (if_neg (by decide)).mpr (mono_eqX _), (if_neg (by decide)).mpr (mono_eqX _), (if_neg (by decide)).mpr (mono_eqX _), (if_neg (by decide)).mpr (mono_eqX _), (if_neg (by decide)).mpr (mono_eqX _), trivial⟩
  case stepscn =>
    refine ⟨(if_neg (by decide)).mpr fun ρ W ⟨hcst, hglb, hfun⟩ hX hp ho => ?_, ?_⟩ -- 0: slot 51 := Op.move t0
    · obtain ⟨o0, -⟩ := ho
      change ρ (.tmp 0) = _ at o0
      refine turn_plain (ok_is ?_ rfl)
      simp only [execOp, o0]; go_simp; try exact rfl
    refine ⟨(if_neg (by decide)).mpr fun ρ W ⟨hcst, hglb, hfun⟩ hX hp ho => ?_, ?_⟩ -- 1: slot 52 := Op.nilCheck t51
    · obtain ⟨p51, -⟩ := hp
      change ρ (.tmp 51) = _ at p51
      refine turn_plain (ok_is ?_ rfl)
      simp only [execOp, p51]; go_simp; try exact rfl
    refine ⟨(if_neg (by decide)).mpr fun ρ W ⟨hcst, hglb, hfun⟩ hX hp ho => ?_, ?_⟩ -- 2: slot 53 := Op.fieldAddr 77 t52 3
    · obtain ⟨p52, -⟩ := hp
      change ρ (.tmp 52) = _ at p52
      refine turn_plain (ok_is ?_ rfl)
      simp only [execOp, p52]; go_simp; try exact rfl
    refine ⟨(if_neg (by decide)).mpr fun ρ W ⟨hcst, hglb, hfun⟩ hX hp ho => ?_, ?_⟩ -- 3: slot 54 := Op.load 74 t53
    · obtain ⟨p53, -⟩ := hp
      change ρ (.tmp 53) = _ at p53
      have q : W.cell? ⟨p, 3, none⟩ = some (.pointer (some ⟨rp, 0, none⟩)) := (HL2.out.hd.chg (Chg.trans (Chg.of_below (Below.refl _ _).drew) hX (fun _ h => .inl h)) HL2.out.pr).cell 3
      refine turn_plain (ok_is ?_ rfl)
      simp only [execOp, p53]; go_simp; try exact rfl
    refine ⟨(if_neg (by decide)).mpr fun ρ W ⟨hcst, hglb, hfun⟩ hX hp ho => ?_, ?_⟩ -- 4: slot 55 := Op.fieldAddr 80 t7 3
    · obtain ⟨o7, -⟩ := ho
      change ρ (.tmp 7) = _ at o7
      refine turn_plain (ok_is ?_ rfl)
      simp only [execOp, o7]; go_simp; try exact rfl
    refine ⟨(if_neg (by decide)).mpr fun ρ W ⟨hcst, hglb, hfun⟩ hX hp ho => ?_, ?_⟩ -- 5: slot 56 := Op.load 3 t55
    · obtain ⟨p55, -⟩ := hp
      change ρ (.tmp 55) = _ at p55
      have q : W.cell? ⟨g, 3, none⟩ = some (.int .i64 (ep' : Int)) := (HP.out.chg (Chg.trans (Chg.of_below (Below.refl _ _).drew) hX (fun _ h => .inl h)) HGR.out).cell 3
      refine turn_plain (ok_is ?_ rfl)
      simp only [execOp, p55]; go_simp; try exact rfl
    refine ⟨(if_neg (by decide)).mpr fun ρ W ⟨hcst, hglb, hfun⟩ hX hp ho => ?_, ?_⟩ -- 6: slot 57 := Op.fieldAddr 80 t7 4
    · obtain ⟨o7, -⟩ := ho
      change ρ (.tmp 7) = _ at o7
      refine turn_plain (ok_is ?_ rfl)
      simp only [execOp, o7]; go_simp; try exact rfl
    refine ⟨(if_neg (by decide)).mpr fun ρ W ⟨hcst, hglb, hfun⟩ hX hp ho => ?_, ?_⟩ -- 7: slot 58 := Op.load 3 t57
    · obtain ⟨p57, -⟩ := hp
      change ρ (.tmp 57) = _ at p57
      have q : W.cell? ⟨g, 4, none⟩ = some (.int .i64 (sq' : Int)) := (HP.out.chg (Chg.trans (Chg.of_below (Below.refl _ _).drew) hX (fun _ h => .inl h)) HGR.out).cell 4
      refine turn_plain (ok_is ?_ rfl)
      simp only [execOp, p57]; go_simp; try exact rfl
    refine ⟨(if_pos rfl).mpr fun ρ W ⟨hcst, hglb, hfun⟩ hX hp ho => ?_, ?_⟩ -- 8: slot 59 := Op.call { value (Operand.func 28), args := #[t54, t56, t58], argTypes := #[74, 3, 3] }
    · obtain ⟨p54, p56, p58, -⟩ := hp
      change ρ (.tmp 54) = _ at p54
      change ρ (.tmp 56) = _ at p56
      change ρ (.tmp 58) = _ at p58
      have hW := (Below.refl _ _).drew.trans hX
      have ce := @enter_of Tryd.prog 28 _ Tryd.func28 (by kernel_rfl) (by kernel_rfl)
      refine act_call (op_call3 hfun ce (by exact rfl) p54 p56 p58) ?_
      refine (take_any rp RE RL ep' sq' W OK.out.RE OK.out.RL (HL2.out.rcv.later hW (Nat.le_refl _))).mono ?_
      rintro e W' ⟨rfl, hk, hg⟩
      rw [hrc.out] at hk ⊢
      exact ⟨_, rfl, Chg.of_grown hg rfl, rfl, hk⟩
    refine ⟨(if_neg (by decide)).mpr fun ρ W ⟨hcst, hglb, hfun⟩ hX hp ho => ?_, ?_⟩ -- 9: slot 50 := Op.move t59
    · obtain ⟨p59, -⟩ := hp
      obtain ⟨p59, hN59⟩ := p59
      change ρ (.tmp 59) = _ at p59
      refine turn_plain (ok_is ?_ rfl)
      simp only [execOp, p59]; go_simp; try exact rfl
    refine ⟨(if_neg (by decide)).mpr fun ρ W ⟨hcst, hglb, hfun⟩ hX hp ho => ?_, ?_⟩ -- 10: slot 60 := Op.extract t50 0
    · obtain ⟨p50, -⟩ := hp
      change ρ (.tmp 50) = _ at p50
      refine turn_plain (ok_is ?_ rfl)
      simp only [execOp, p50]; go_simp; try exact rfl
    refine ⟨(if_neg (by decide)).mpr fun ρ W ⟨hcst, hglb, hfun⟩ hX hp ho => ?_, ?_⟩ -- 11: slot 61 := Op.extract t50 1
    · obtain ⟨p50, -⟩ := hp
      change ρ (.tmp 50) = _ at p50
      refine turn_plain (ok_is ?_ rfl)
      simp only [execOp, p50]; go_simp; try exact rfl
    refine ⟨(if_neg (by decide)).mpr fun ρ W ⟨hcst, hglb, hfun⟩ hX hp ho => ?_, ?_⟩ -- 12: slot 9 := Op.assign t60
    · obtain ⟨p60, -⟩ := hp
      change ρ (.tmp 60) = _ at p60
      refine turn_plain (ok_is ?_ rfl)
      simp only [execOp, p60]; go_simp; try exact rfl
    refine ⟨(if_neg (by decide)).mpr fun ρ W ⟨hcst, hglb, hfun⟩ hX hp ho => ?_, ?_⟩ -- 13: slot 10 := Op.assign t61
    · obtain ⟨p61, -⟩ := hp
      change ρ (.tmp 61) = _ at p61
      refine turn_plain (ok_is ?_ rfl)
      simp only [execOp, p61]; go_simp; try exact rfl
    exact trivial
  case fincn =>
    rintro v w3 hX ⟨f0, f1, f2, f3, f4, f5, f6, f7, f8, f9, f10, f11, f12, f13, -⟩
    obtain ⟨f8, hN⟩ := f8
    simp only [is] at f0 f1 f2 f3 f4 f5 f6 f7 f9 f10 f11 f12 f13
    simp only [putAll, Act.put, List.setIfInBounds_toArray, List.set_cons_succ, List.set_cons_zero, f0, f1, f2, f3, f4, f5, f6, f7, f8, f9, f10, f11, f12, f13]
    clear f0 f1 f2 f3 f4 f5 f6 f7 f8 f9 f10 f11 f12 f13
    have HN := Lib.hid hN
    have HX := Lib.hid hX
    have HSZ3 := Lib.hid (Nat.le_trans HBZ.out hX.size)
    have HP3 := Lib.hid (HP.out.chg hX HGR.out)
    have HL3 := Lib.hid (HL2.out.rcvd hX hN)
    have HC3 := Lib.hid ((Chg.of_below (F := F) B2.out).trans hX (fun _ h => .inl (h ▸ HF.out _ (.inr (.inl rfl)))))
    have HT3 := Lib.hid (HT2.out.apart HL2.out.rcv (recv_no _ _) hX)
    clear hN hX HL2 HP HN HX HT2 OK
    have y3 : w3.cell? ⟨g, 3, none⟩ = some (.int .i64 (ep' : Int)) := HP3.out.cell 3
    have y5 : w3.cell? ⟨g, 5, none⟩ = some (.slice A1 bd'.length c1) := HP3.out.cell 5
    have d0 : decide (0 ≤ la) = false := decide_eq_false (by omega)
    have HTS := Lib.hid (show takeS ⟨me, ot, E, S, ll, st, lf, RE, RL, gv, ep0, sq0⟩ (ep' : Int) (sq' : Int) = ⟨me, ot, E, S, ll, st, lf, RE2, RL2, gv, ep0, sq0⟩ from by simp only [takeS]; rw [hrc.out]; simp only; rw [if_neg (by omega)])
    have HE := Lib.hid (show LkN w F p ⟨me, ot, E, S, ll, st, lf, RE2, RL2, gv, ep0, sq0⟩ w3 from ⟨HC3.out, F, ⟨sp, rp, base, A0, n0, c0, vs, HL3.out, HF.out, fun k hk => Nat.lt_of_lt_of_le (HLT.out k hk) HC3.out.size⟩, fun _ h => .inl h⟩)
    subst htk
    go_wp2_with fail
    exact bodyPost_ret (v := .tuple #[.slice none 0 0, .bool false, .nilIface]) (by simp [results, Tryd.results10, go_sem]) rfl (hearE_no (by rw [HTS.out]; exact HE.out) rfl)
set_option maxRecDepth 100000 in
set_option maxHeartbeats 2000000 in
theorem lhear_data_g (w : World) (h : LkS w F p s) (ok : LOk s) (A : Option Addr) (n c : Nat) (l : List Nat) (hl : l.length = n) (hnc : n ≤ c) (hc2 : c ≤ 9223372036854775807) (hat : At w A (nats .u8 l)) (hb : ∀ y ∈ l, y < 256)
    {fr dt : Nat} {ep sq : Nat} {bd : List Nat} (hg : Good l fr dt false ep sq bd) (hf : (fr : Int) = s.ot) (ht : (dt : Int) = s.me) {tk : Bool} {la RE2 RL2 : Int} (hrc : rc s.RE s.RL ep sq = ((RE2, RL2), tk, la)) (htk : tk = false) (hla : 0 ≤ la) :
    Calls Tryd.prog 10 #[.pointer (some ⟨p, 0, none⟩), .slice A n c] w (HearE w F p (takeS s ep sq) [] false 0) := by
  have CD := Lib.hid (dec_any A n c l w hl hnc hc2 hat hb)
  have HG := Lib.hid hg
  clear hat hb hl hnc hc2 hg
  obtain ⟨sp, rp, base, A0, n0, c0, vs, h, hF, hlt⟩ := h
  have HF := Lib.hid hF
  have HLT := Lib.hid hlt
  have HL := Lib.hid h
  clear h hF hlt
  obtain ⟨me, ot, E, S, ll, st, lf, RE, RL, gv, ep0, sq0⟩ := s
  simp only at hrc
  simp only at hf ht
  have OK := Lib.hid ok
  clear ok
  go_enter Tryd.func10, Tryd.ntmps10
  go_wp2_with fail
  refine CD.out.mono ?_
  clear CD
  rintro e w1 ⟨fr', dt', k', ep', sq', bd', x, A1, c1, rfl, hat1, b1, hres, hf1⟩
  obtain ⟨rfl, rfl, rfl, rfl, rfl, rfl, rfl⟩ := hres.uniq (.inl ⟨rfl, HG.out⟩)
  rw [erV_zero]
  simp only [pkF]
  have B1 := Lib.hid b1
  have HT1 := Lib.hid hat1
  have HL1 := Lib.hid (HL.out.same b1.size fun k hl hf => b1.block k hl)
  have q0 : w1.cell? ⟨p, 0, none⟩ = some (.int .i64 me) := HL1.out.hd.cell 0
  have q1 : w1.cell? ⟨p, 1, none⟩ = some (.int .i64 ot) := HL1.out.hd.cell 1
  have hp1 : p < w1.heap.size := HL1.out.hd.lt
  have HF1 := Lib.hid hf1
  clear hat1 b1 hres hf1
  go_upto_region 6 with fail
  have d1 : decide ((fr' : Int) = ot) = true := decide_eq_true hf
  have d2 : decide ((dt' : Int) = me) = true := decide_eq_true ht
  go_quiet (fail)
  go_upto_region 11 with fail
  have BA := (Below.refl w1.heap.size w1).alloc (Nat.le_refl _) (.cells #[.int .i64 ot, .int .i64 me, .bool false, .int .i64 (ep' : Int), .int .i64 (sq' : Int), .slice A1 bd'.length c1] 80)
  have HP := Lib.hid ((Holds.new w1 80 #[.int .i64 ot, .int .i64 me, .bool false, .int .i64 (ep' : Int), .int .i64 (sq' : Int), .slice A1 bd'.length c1] w1.heap.size rfl).drewN nq)
  have BW := Lib.hid (BA.trans (below_drN w1.heap.size _ nq))
  clear BA
  generalize (w1.alloc (.cells #[.int .i64 ot, .int .i64 me, .bool false, .int .i64 (ep' : Int), .int .i64 (sq' : Int), .slice A1 bd'.length c1] 80)).drewN nq = w2 at *
  have HL2 := Lib.hid (HL1.out.same BW.out.size fun k hl hf => BW.out.block k hl)
  have HT2 := Lib.hid (HT1.out.later BW.out (Nat.le_refl _))
  have B2 := Lib.hid (B1.out.trans (BW.out.mono B1.out.size))
  have HGR := Lib.hid (show ¬ w1.heap.size = rp from fun hk => absurd HL1.out.rcv.lt (by omega))
  have HGP := Lib.hid (show w1.heap.size ≠ p from fun hk => absurd HL1.out.hd.lt (by omega))
  obtain ⟨g, hgq⟩ : ∃ g, w1.heap.size = g := ⟨_, rfl⟩
  have HBZ := Lib.hid BW.out.size
  clear q0 q1 hp1 d1 d2 HL1 HT1 BW
  rw [hgq] at HP HGR HGP ⊢
  clear hgq
  have hrc := Lib.hid hrc
  refine wp_region_act 8 (Chg (fun k => k = rp)) (is ?cg0 :: is ?cg1 :: is ?cg2 :: is ?cg3 :: is ?cg4 :: is ?cg5 :: is ?cg6 :: is ?cg7 :: (fun v W => v = .tuple #[.bool tk, .int .i64 la] ∧ Holds W rp 113 (recvOf RE2 RL2)) :: is ?cg9 :: is ?cg10 :: is ?cg11 :: is ?cg12 :: is ?cg13 :: [])
    [⟨[], [0], none⟩, ⟨[(51, 0)], [], none⟩, ⟨[(52, 1)], [], none⟩, ⟨[(53, 2)], [], none⟩, ⟨[], [7], none⟩, ⟨[(55, 4)], [], none⟩, ⟨[], [7], none⟩, ⟨[(57, 6)], [], none⟩, ⟨[(54, 3), (56, 5), (58, 7)], [], none⟩, ⟨[(59, 8)], [], none⟩, ⟨[(50, 9)], [], none⟩, ⟨[(50, 9)], [], none⟩, ⟨[(60, 10)], [], none⟩, ⟨[(61, 11)], [], none⟩] (by kernel_rfl) (by kernel_rfl) (by kernel_rfl) (by kernel_rfl) (by kernel_rfl) (by kernel_rfl) (fun _ _ => Chg.of_below) (fun _ _ _ h k => h.trans k (fun _ h => .inl h)) ?monocg ?stepscg ?fincg
  case monocg => exact ⟨(if_neg (by decide)).mpr (mono_eqX _), (if_neg (by decide)).mpr (mono_eqX _), (if_neg (by decide)).mpr (mono_eqX _), (if_neg (by decide)).mpr (mono_eqX _), (if_neg (by decide)).mpr (mono_eqX _), (if_neg (by decide)).mpr (mono_eqX _), (if_neg (by decide)).mpr (mono_eqX _), (if_neg (by decide)).mpr (mono_eqX _), (if_pos rfl).mpr (fun _ _ _ h b => ⟨h.1, h.2.later b (Nat.le_refl _)⟩), (if_neg (by decide)).mpr (mono_eqX _), (if_neg (by decide)).mpr (mono_eqX _), (if_neg (by decide)).mpr (mono_eqX _), (if_neg (by decide)).mpr (mono_eqX _), (if_neg (by decide)).mpr (mono_eqX _), trivial⟩
  case stepscg =>
    refine ⟨(if_neg (by decide)).mpr fun ρ W ⟨hcst, hglb, hfun⟩ hX hp ho => ?_, ?_⟩ -- 0: slot 51 := Op.move t0
    · obtain ⟨o0, -⟩ := ho
      change ρ (.tmp 0) = _ at o0
      refine turn_plain (ok_is ?_ rfl)
      simp only [execOp, o0]; go_simp; try exact rfl
    refine ⟨(if_neg (by decide)).mpr fun ρ W ⟨hcst, hglb, hfun⟩ hX hp ho => ?_, ?_⟩ -- 1: slot 52 := Op.nilCheck t51
    · obtain ⟨p51, -⟩ := hp
      change ρ (.tmp 51) = _ at p51
      refine turn_plain (ok_is ?_ rfl)
      simp only [execOp, p51]; go_simp; try exact rfl
    refine ⟨(if_neg (by decide)).mpr fun ρ W ⟨hcst, hglb, hfun⟩ hX hp ho => ?_, ?_⟩ -- 2: slot 53 := Op.fieldAddr 77 t52 3
    · obtain ⟨p52, -⟩ := hp
      change ρ (.tmp 52) = _ at p52
      refine turn_plain (ok_is ?_ rfl)
      simp only [execOp, p52]; go_simp; try exact rfl
    refine ⟨(if_neg (by decide)).mpr fun ρ W ⟨hcst, hglb, hfun⟩ hX hp ho => ?_, ?_⟩ -- 3: slot 54 := Op.load 74 t53
    · obtain ⟨p53, -⟩ := hp
      change ρ (.tmp 53) = _ at p53
      have q : W.cell? ⟨p, 3, none⟩ = some (.pointer (some ⟨rp, 0, none⟩)) := (HL2.out.hd.chg (Chg.trans (Chg.of_below (Below.refl _ _).drew) hX (fun _ h => .inl h)) HL2.out.pr).cell 3
      refine turn_plain (ok_is ?_ rfl)
      simp only [execOp, p53]; go_simp; try exact rfl
    refine ⟨(if_neg (by decide)).mpr fun ρ W ⟨hcst, hglb, hfun⟩ hX hp ho => ?_, ?_⟩ -- 4: slot 55 := Op.fieldAddr 80 t7 3
    · obtain ⟨o7, -⟩ := ho
      change ρ (.tmp 7) = _ at o7
      refine turn_plain (ok_is ?_ rfl)
      simp only [execOp, o7]; go_simp; try exact rfl
    refine ⟨(if_neg (by decide)).mpr fun ρ W ⟨hcst, hglb, hfun⟩ hX hp ho => ?_, ?_⟩ -- 5: slot 56 := Op.load 3 t55
    · obtain ⟨p55, -⟩ := hp
      change ρ (.tmp 55) = _ at p55
      have q : W.cell? ⟨g, 3, none⟩ = some (.int .i64 (ep' : Int)) := (HP.out.chg (Chg.trans (Chg.of_below (Below.refl _ _).drew) hX (fun _ h => .inl h)) HGR.out).cell 3
      refine turn_plain (ok_is ?_ rfl)
      simp only [execOp, p55]; go_simp; try exact rfl
    refine ⟨(if_neg (by decide)).mpr fun ρ W ⟨hcst, hglb, hfun⟩ hX hp ho => ?_, ?_⟩ -- 6: slot 57 := Op.fieldAddr 80 t7 4
    · obtain ⟨o7, -⟩ := ho
      change ρ (.tmp 7) = _ at o7
      refine turn_plain (ok_is ?_ rfl)
      simp only [execOp, o7]; go_simp; try exact rfl
    refine ⟨(if_neg (by decide)).mpr fun ρ W ⟨hcst, hglb, hfun⟩ hX hp ho => ?_, ?_⟩ -- 7: slot 58 := Op.load 3 t57
    · obtain ⟨p57, -⟩ := hp
      change ρ (.tmp 57) = _ at p57
      have q : W.cell? ⟨g, 4, none⟩ = some (.int .i64 (sq' : Int)) := (HP.out.chg (Chg.trans (Chg.of_below (Below.refl _ _).drew) hX (fun _ h => .inl h)) HGR.out).cell 4
      refine turn_plain (ok_is ?_ rfl)
      simp only [execOp, p57]; go_simp; try exact rfl
    refine ⟨(if_pos rfl).mpr fun ρ W ⟨hcst, hglb, hfun⟩ hX hp ho => ?_, ?_⟩ -- 8: slot 59 := Op.call { value (Operand.func 28), args := #[t54, t56, t58], argTypes := #[74, 3, 3] }
    · obtain ⟨p54, p56, p58, -⟩ := hp
      change ρ (.tmp 54) = _ at p54
      change ρ (.tmp 56) = _ at p56
      change ρ (.tmp 58) = _ at p58
      have hW := (Below.refl _ _).drew.trans hX
      have ce := @enter_of Tryd.prog 28 _ Tryd.func28 (by kernel_rfl) (by kernel_rfl)
      refine act_call (op_call3 hfun ce (by exact rfl) p54 p56 p58) ?_
      refine (take_any rp RE RL ep' sq' W OK.out.RE OK.out.RL (HL2.out.rcv.later hW (Nat.le_refl _))).mono ?_
      rintro e W' ⟨rfl, hk, hg⟩
      rw [hrc.out] at hk ⊢
      exact ⟨_, rfl, Chg.of_grown hg rfl, rfl, hk⟩
    refine ⟨(if_neg (by decide)).mpr fun ρ W ⟨hcst, hglb, hfun⟩ hX hp ho => ?_, ?_⟩ -- 9: slot 50 := Op.move t59
    · obtain ⟨p59, -⟩ := hp
      obtain ⟨p59, hN59⟩ := p59
      change ρ (.tmp 59) = _ at p59
      refine turn_plain (ok_is ?_ rfl)
      simp only [execOp, p59]; go_simp; try exact rfl
    refine ⟨(if_neg (by decide)).mpr fun ρ W ⟨hcst, hglb, hfun⟩ hX hp ho => ?_, ?_⟩ -- 10: slot 60 := Op.extract t50 0
    · obtain ⟨p50, -⟩ := hp
      change ρ (.tmp 50) = _ at p50
      refine turn_plain (ok_is ?_ rfl)
      simp only [execOp, p50]; go_simp; try exact rfl
    refine ⟨(if_neg (by decide)).mpr fun ρ W ⟨hcst, hglb, hfun⟩ hX hp ho => ?_, ?_⟩ -- 11: slot 61 := Op.extract t50 1
    · obtain ⟨p50, -⟩ := hp
      change ρ (.tmp 50) = _ at p50
      refine turn_plain (ok_is ?_ rfl)
      simp only [execOp, p50]; go_simp; try exact rfl
    refine ⟨(if_neg (by decide)).mpr fun ρ W ⟨hcst, hglb, hfun⟩ hX hp ho => ?_, ?_⟩ -- 12: slot 9 := Op.assign t60
    · obtain ⟨p60, -⟩ := hp
      change ρ (.tmp 60) = _ at p60
      refine turn_plain (ok_is ?_ rfl)
      simp only [execOp, p60]; go_simp; try exact rfl
    refine ⟨(if_neg (by decide)).mpr fun ρ W ⟨hcst, hglb, hfun⟩ hX hp ho => ?_, ?_⟩ -- 13: slot 10 := Op.assign t61
    · obtain ⟨p61, -⟩ := hp
      change ρ (.tmp 61) = _ at p61
      refine turn_plain (ok_is ?_ rfl)
      simp only [execOp, p61]; go_simp; try exact rfl
    exact trivial
  case fincg =>
    rintro v w3 hX ⟨f0, f1, f2, f3, f4, f5, f6, f7, f8, f9, f10, f11, f12, f13, -⟩
    obtain ⟨f8, hN⟩ := f8
    simp only [is] at f0 f1 f2 f3 f4 f5 f6 f7 f9 f10 f11 f12 f13
    simp only [putAll, Act.put, List.setIfInBounds_toArray, List.set_cons_succ, List.set_cons_zero, f0, f1, f2, f3, f4, f5, f6, f7, f8, f9, f10, f11, f12, f13]
    clear f0 f1 f2 f3 f4 f5 f6 f7 f8 f9 f10 f11 f12 f13
    have HN := Lib.hid hN
    have HX := Lib.hid hX
    have HSZ3 := Lib.hid (Nat.le_trans HBZ.out hX.size)
    have HP3 := Lib.hid (HP.out.chg hX HGR.out)
    have HL3 := Lib.hid (HL2.out.rcvd hX hN)
    have HC3 := Lib.hid ((Chg.of_below (F := F) B2.out).trans hX (fun _ h => .inl (h ▸ HF.out _ (.inr (.inl rfl)))))
    have HT3 := Lib.hid (HT2.out.apart HL2.out.rcv (recv_no _ _) hX)
    clear hN hX HL2 HP HN HX HT2 OK
    have y3 : w3.cell? ⟨g, 3, none⟩ = some (.int .i64 (ep' : Int)) := HP3.out.cell 3
    have y5 : w3.cell? ⟨g, 5, none⟩ = some (.slice A1 bd'.length c1) := HP3.out.cell 5
    have p4 : w3.cell? ⟨p, 4, none⟩ = some (.bool gv) := HL3.out.hd.cell 4
    have p5 : w3.cell? ⟨p, 5, none⟩ = some (.int .i64 ep0) := HL3.out.hd.cell 5
    have p6 : w3.cell? ⟨p, 6, none⟩ = some (.int .i64 sq0) := HL3.out.hd.cell 6
    have z4 := HL3.out.hd.frozen 4
    have z5 := HL3.out.hd.frozen 5
    have z6 := HL3.out.hd.frozen 6
    have d0 : decide (0 ≤ la) = true := decide_eq_true hla
    go_upto_region 13 with fail
    go_region
    have HTS := Lib.hid (show takeS ⟨me, ot, E, S, ll, st, lf, RE, RL, gv, ep0, sq0⟩ (ep' : Int) (sq' : Int) = ⟨me, ot, E, S, ll, st, lf, RE2, RL2, true, (ep' : Int), la⟩ from by simp only [takeS]; rw [hrc.out]; simp only; rw [if_pos hla])
    have HW := Lib.hid (HL3.out.gave (ep' : Int) la)
    have HP4 := Lib.hid (HP3.out.grown HW.out.2 (fun e => HGP.out (by injection e with e; exact e.symm)))
    have HT4 := Lib.hid (HT3.out.apart HL3.out.hd (lk_no _ _ _ _ _ _ _) (Chg.of_grown HW.out.2 rfl))
    have HL4 := Lib.hid HW.out.1
    have HW4s := Lib.hid HW.out.2.size
    have HC4 := Lib.hid (HC3.out.trans (Chg.of_grown (F := F) HW.out.2 (HF.out _ (.inl rfl))) (fun _ h => .inl h))
    clear y3 y5 p4 p5 p6 z4 z5 z6 HW HL3 HP3 HT3 HC3
    generalize ((w3.setCell ⟨p, 4, none⟩ (.bool true)).setCell ⟨p, 5, none⟩ (.int .i64 (ep' : Int))).setCell ⟨p, 6, none⟩ (.int .i64 la) = w4 at *
    have y5 : w4.cell? ⟨g, 5, none⟩ = some (.slice A1 bd'.length c1) := HP4.out.cell 5
    have HE := Lib.hid (show LkN w F p ⟨me, ot, E, S, ll, st, lf, RE2, RL2, true, (ep' : Int), la⟩ w4 from ⟨HC4.out, F, ⟨sp, rp, base, A0, n0, c0, vs, HL4.out, HF.out, fun k hk => Nat.lt_of_lt_of_le (HLT.out k hk) HC4.out.size⟩, fun _ h => .inl h⟩)
    have HTE := Lib.hid HT4.out
    have HS4 := Lib.hid (show LkS w4 F p ⟨me, ot, E, S, ll, st, lf, RE2, RL2, true, (ep' : Int), la⟩ from ⟨sp, rp, base, A0, n0, c0, vs, HL4.out, HF.out, fun k hk => Nat.lt_of_lt_of_le (HLT.out k hk) HC4.out.size⟩)
    have HSZ := Lib.hid (Nat.le_trans HSZ3.out HW4s.out)
    subst htk
    go_wp2_with fail
    exact bodyPost_ret (v := .tuple #[.slice none 0 0, .bool false, .nilIface]) (by simp [results, Tryd.results10, go_sem]) rfl (hearE_no (by rw [HTS.out]; exact HE.out.later (Below.refl _ _).drew) rfl)
set_option maxRecDepth 100000 in
set_option maxHeartbeats 2000000 in
theorem lhear_data_t (w : World) (h : LkS w F p s) (ok : LOk s) (A : Option Addr) (n c : Nat) (l : List Nat) (hl : l.length = n) (hnc : n ≤ c) (hc2 : c ≤ 9223372036854775807) (hat : At w A (nats .u8 l)) (hb : ∀ y ∈ l, y < 256)
    {fr dt : Nat} {ep sq : Nat} {bd : List Nat} (hg : Good l fr dt false ep sq bd) (hf : (fr : Int) = s.ot) (ht : (dt : Int) = s.me) {tk : Bool} {la RE2 RL2 : Int} (hrc : rc s.RE s.RL ep sq = ((RE2, RL2), tk, la)) (htk : tk = true) (hla : 0 ≤ la) :
    Calls Tryd.prog 10 #[.pointer (some ⟨p, 0, none⟩), .slice A n c] w (HearE w F p (takeS s ep sq) bd true 0) := by
  have CD := Lib.hid (dec_any A n c l w hl hnc hc2 hat hb)
  have HG := Lib.hid hg
  clear hat hb hl hnc hc2 hg
  obtain ⟨sp, rp, base, A0, n0, c0, vs, h, hF, hlt⟩ := h
  have HF := Lib.hid hF
  have HLT := Lib.hid hlt
  have HL := Lib.hid h
  clear h hF hlt
  obtain ⟨me, ot, E, S, ll, st, lf, RE, RL, gv, ep0, sq0⟩ := s
  simp only at hrc
  simp only at hf ht
  have OK := Lib.hid ok
  clear ok
  go_enter Tryd.func10, Tryd.ntmps10
  go_wp2_with fail
  refine CD.out.mono ?_
  clear CD
  rintro e w1 ⟨fr', dt', k', ep', sq', bd', x, A1, c1, rfl, hat1, b1, hres, hf1⟩
  obtain ⟨rfl, rfl, rfl, rfl, rfl, rfl, rfl⟩ := hres.uniq (.inl ⟨rfl, HG.out⟩)
  rw [erV_zero]
  simp only [pkF]
  have B1 := Lib.hid b1
  have HT1 := Lib.hid hat1
  have HL1 := Lib.hid (HL.out.same b1.size fun k hl hf => b1.block k hl)
  have q0 : w1.cell? ⟨p, 0, none⟩ = some (.int .i64 me) := HL1.out.hd.cell 0
  have q1 : w1.cell? ⟨p, 1, none⟩ = some (.int .i64 ot) := HL1.out.hd.cell 1
  have hp1 : p < w1.heap.size := HL1.out.hd.lt
  have HF1 := Lib.hid hf1
  clear hat1 b1 hres hf1
  go_upto_region 6 with fail
  have d1 : decide ((fr' : Int) = ot) = true := decide_eq_true hf
  have d2 : decide ((dt' : Int) = me) = true := decide_eq_true ht
  go_quiet (fail)
  go_upto_region 11 with fail
  have BA := (Below.refl w1.heap.size w1).alloc (Nat.le_refl _) (.cells #[.int .i64 ot, .int .i64 me, .bool false, .int .i64 (ep' : Int), .int .i64 (sq' : Int), .slice A1 bd'.length c1] 80)
  have HP := Lib.hid ((Holds.new w1 80 #[.int .i64 ot, .int .i64 me, .bool false, .int .i64 (ep' : Int), .int .i64 (sq' : Int), .slice A1 bd'.length c1] w1.heap.size rfl).drewN nq)
  have BW := Lib.hid (BA.trans (below_drN w1.heap.size _ nq))
  clear BA
  generalize (w1.alloc (.cells #[.int .i64 ot, .int .i64 me, .bool false, .int .i64 (ep' : Int), .int .i64 (sq' : Int), .slice A1 bd'.length c1] 80)).drewN nq = w2 at *
  have HL2 := Lib.hid (HL1.out.same BW.out.size fun k hl hf => BW.out.block k hl)
  have HT2 := Lib.hid (HT1.out.later BW.out (Nat.le_refl _))
  have B2 := Lib.hid (B1.out.trans (BW.out.mono B1.out.size))
  have HGR := Lib.hid (show ¬ w1.heap.size = rp from fun hk => absurd HL1.out.rcv.lt (by omega))
  have HGP := Lib.hid (show w1.heap.size ≠ p from fun hk => absurd HL1.out.hd.lt (by omega))
  obtain ⟨g, hgq⟩ : ∃ g, w1.heap.size = g := ⟨_, rfl⟩
  have HBZ := Lib.hid BW.out.size
  clear q0 q1 hp1 d1 d2 HL1 HT1 BW
  rw [hgq] at HP HGR HGP ⊢
  clear hgq
  have hrc := Lib.hid hrc
  refine wp_region_act 8 (Chg (fun k => k = rp)) (is ?ct0 :: is ?ct1 :: is ?ct2 :: is ?ct3 :: is ?ct4 :: is ?ct5 :: is ?ct6 :: is ?ct7 :: (fun v W => v = .tuple #[.bool tk, .int .i64 la] ∧ Holds W rp 113 (recvOf RE2 RL2)) :: is ?ct9 :: is ?ct10 :: is ?ct11 :: is ?ct12 :: is ?ct13 :: [])
    [⟨[], [0], none⟩, ⟨[(51, 0)], [], none⟩, ⟨[(52, 1)], [], none⟩, ⟨[(53, 2)], [], none⟩, ⟨[], [7], none⟩, ⟨[(55, 4)], [], none⟩, ⟨[], [7], none⟩, ⟨[(57, 6)], [], none⟩, ⟨[(54, 3), (56, 5), (58, 7)], [], none⟩, ⟨[(59, 8)], [], none⟩, ⟨[(50, 9)], [], none⟩, ⟨[(50, 9)], [], none⟩, ⟨[(60, 10)], [], none⟩, ⟨[(61, 11)], [], none⟩] (by kernel_rfl) (by kernel_rfl) (by kernel_rfl) (by kernel_rfl) (by kernel_rfl) (by kernel_rfl) (fun _ _ => Chg.of_below) (fun _ _ _ h k => h.trans k (fun _ h => .inl h)) ?monoct ?stepsct ?finct
  case monoct => exact ⟨(if_neg (by decide)).mpr (mono_eqX _), (if_neg (by decide)).mpr (mono_eqX _), (if_neg (by decide)).mpr (mono_eqX _), (if_neg (by decide)).mpr (mono_eqX _), (if_neg (by decide)).mpr (mono_eqX _), (if_neg (by decide)).mpr (mono_eqX _), (if_neg (by decide)).mpr (mono_eqX _), (if_neg (by decide)).mpr (mono_eqX _), (if_pos rfl).mpr (fun _ _ _ h b => ⟨h.1, h.2.later b (Nat.le_refl _)⟩), (if_neg (by decide)).mpr (mono_eqX _), (if_neg (by decide)).mpr (mono_eqX _), (if_neg (by decide)).mpr (mono_eqX _), (if_neg (by decide)).mpr (mono_eqX _), (if_neg (by decide)).mpr (mono_eqX _), trivial⟩
  case stepsct =>
    refine ⟨(if_neg (by decide)).mpr fun ρ W ⟨hcst, hglb, hfun⟩ hX hp ho => ?_, ?_⟩ -- 0: slot 51 := Op.move t0
    · obtain ⟨o0, -⟩ := ho
      change ρ (.tmp 0) = _ at o0
      refine turn_plain (ok_is ?_ rfl)
      simp only [execOp, o0]; go_simp; try exact rfl
    refine ⟨(if_neg (by decide)).mpr fun ρ W ⟨hcst, hglb, hfun⟩ hX hp ho => ?_, ?_⟩ -- 1: slot 52 := Op.nilCheck t51
    · obtain ⟨p51, -⟩ := hp
      change ρ (.tmp 51) = _ at p51
      refine turn_plain (ok_is ?_ rfl)
      simp only [execOp, p51]; go_simp; try exact rfl
    refine ⟨(if_neg (by decide)).mpr fun ρ W ⟨hcst, hglb, hfun⟩ hX hp ho => ?_, ?_⟩ -- 2: slot 53 := Op.fieldAddr 77 t52 3
    · obtain ⟨p52, -⟩ := hp
      change ρ (.tmp 52) = _ at p52
      refine turn_plain (ok_is ?_ rfl)
      simp only [execOp, p52]; go_simp; try exact rfl
    refine ⟨(if_neg (by decide)).mpr fun ρ W ⟨hcst, hglb, hfun⟩ hX hp ho => ?_, ?_⟩ -- 3: slot 54 := Op.load 74 t53
    · obtain ⟨p53, -⟩ := hp
      change ρ (.tmp 53) = _ at p53
      have q : W.cell? ⟨p, 3, none⟩ = some (.pointer (some ⟨rp, 0, none⟩)) := (HL2.out.hd.chg (Chg.trans (Chg.of_below (Below.refl _ _).drew) hX (fun _ h => .inl h)) HL2.out.pr).cell 3
      refine turn_plain (ok_is ?_ rfl)
      simp only [execOp, p53]; go_simp; try exact rfl
    refine ⟨(if_neg (by decide)).mpr fun ρ W ⟨hcst, hglb, hfun⟩ hX hp ho => ?_, ?_⟩ -- 4: slot 55 := Op.fieldAddr 80 t7 3
    · obtain ⟨o7, -⟩ := ho
      change ρ (.tmp 7) = _ at o7
      refine turn_plain (ok_is ?_ rfl)
      simp only [execOp, o7]; go_simp; try exact rfl
    refine ⟨(if_neg (by decide)).mpr fun ρ W ⟨hcst, hglb, hfun⟩ hX hp ho => ?_, ?_⟩ -- 5: slot 56 := Op.load 3 t55
    · obtain ⟨p55, -⟩ := hp
      change ρ (.tmp 55) = _ at p55
      have q : W.cell? ⟨g, 3, none⟩ = some (.int .i64 (ep' : Int)) := (HP.out.chg (Chg.trans (Chg.of_below (Below.refl _ _).drew) hX (fun _ h => .inl h)) HGR.out).cell 3
      refine turn_plain (ok_is ?_ rfl)
      simp only [execOp, p55]; go_simp; try exact rfl
    refine ⟨(if_neg (by decide)).mpr fun ρ W ⟨hcst, hglb, hfun⟩ hX hp ho => ?_, ?_⟩ -- 6: slot 57 := Op.fieldAddr 80 t7 4
    · obtain ⟨o7, -⟩ := ho
      change ρ (.tmp 7) = _ at o7
      refine turn_plain (ok_is ?_ rfl)
      simp only [execOp, o7]; go_simp; try exact rfl
    refine ⟨(if_neg (by decide)).mpr fun ρ W ⟨hcst, hglb, hfun⟩ hX hp ho => ?_, ?_⟩ -- 7: slot 58 := Op.load 3 t57
    · obtain ⟨p57, -⟩ := hp
      change ρ (.tmp 57) = _ at p57
      have q : W.cell? ⟨g, 4, none⟩ = some (.int .i64 (sq' : Int)) := (HP.out.chg (Chg.trans (Chg.of_below (Below.refl _ _).drew) hX (fun _ h => .inl h)) HGR.out).cell 4
      refine turn_plain (ok_is ?_ rfl)
      simp only [execOp, p57]; go_simp; try exact rfl
    refine ⟨(if_pos rfl).mpr fun ρ W ⟨hcst, hglb, hfun⟩ hX hp ho => ?_, ?_⟩ -- 8: slot 59 := Op.call { value (Operand.func 28), args := #[t54, t56, t58], argTypes := #[74, 3, 3] }
    · obtain ⟨p54, p56, p58, -⟩ := hp
      change ρ (.tmp 54) = _ at p54
      change ρ (.tmp 56) = _ at p56
      change ρ (.tmp 58) = _ at p58
      have hW := (Below.refl _ _).drew.trans hX
      have ce := @enter_of Tryd.prog 28 _ Tryd.func28 (by kernel_rfl) (by kernel_rfl)
      refine act_call (op_call3 hfun ce (by exact rfl) p54 p56 p58) ?_
      refine (take_any rp RE RL ep' sq' W OK.out.RE OK.out.RL (HL2.out.rcv.later hW (Nat.le_refl _))).mono ?_
      rintro e W' ⟨rfl, hk, hg⟩
      rw [hrc.out] at hk ⊢
      exact ⟨_, rfl, Chg.of_grown hg rfl, rfl, hk⟩
    refine ⟨(if_neg (by decide)).mpr fun ρ W ⟨hcst, hglb, hfun⟩ hX hp ho => ?_, ?_⟩ -- 9: slot 50 := Op.move t59
    · obtain ⟨p59, -⟩ := hp
      obtain ⟨p59, hN59⟩ := p59
      change ρ (.tmp 59) = _ at p59
      refine turn_plain (ok_is ?_ rfl)
      simp only [execOp, p59]; go_simp; try exact rfl
    refine ⟨(if_neg (by decide)).mpr fun ρ W ⟨hcst, hglb, hfun⟩ hX hp ho => ?_, ?_⟩ -- 10: slot 60 := Op.extract t50 0
    · obtain ⟨p50, -⟩ := hp
      change ρ (.tmp 50) = _ at p50
      refine turn_plain (ok_is ?_ rfl)
      simp only [execOp, p50]; go_simp; try exact rfl
    refine ⟨(if_neg (by decide)).mpr fun ρ W ⟨hcst, hglb, hfun⟩ hX hp ho => ?_, ?_⟩ -- 11: slot 61 := Op.extract t50 1
    · obtain ⟨p50, -⟩ := hp
      change ρ (.tmp 50) = _ at p50
      refine turn_plain (ok_is ?_ rfl)
      simp only [execOp, p50]; go_simp; try exact rfl
    refine ⟨(if_neg (by decide)).mpr fun ρ W ⟨hcst, hglb, hfun⟩ hX hp ho => ?_, ?_⟩ -- 12: slot 9 := Op.assign t60
    · obtain ⟨p60, -⟩ := hp
      change ρ (.tmp 60) = _ at p60
      refine turn_plain (ok_is ?_ rfl)
      simp only [execOp, p60]; go_simp; try exact rfl
    refine ⟨(if_neg (by decide)).mpr fun ρ W ⟨hcst, hglb, hfun⟩ hX hp ho => ?_, ?_⟩ -- 13: slot 10 := Op.assign t61
    · obtain ⟨p61, -⟩ := hp
      change ρ (.tmp 61) = _ at p61
      refine turn_plain (ok_is ?_ rfl)
      simp only [execOp, p61]; go_simp; try exact rfl
    exact trivial
  case finct =>
    rintro v w3 hX ⟨f0, f1, f2, f3, f4, f5, f6, f7, f8, f9, f10, f11, f12, f13, -⟩
    obtain ⟨f8, hN⟩ := f8
    simp only [is] at f0 f1 f2 f3 f4 f5 f6 f7 f9 f10 f11 f12 f13
    simp only [putAll, Act.put, List.setIfInBounds_toArray, List.set_cons_succ, List.set_cons_zero, f0, f1, f2, f3, f4, f5, f6, f7, f8, f9, f10, f11, f12, f13]
    clear f0 f1 f2 f3 f4 f5 f6 f7 f8 f9 f10 f11 f12 f13
    have HN := Lib.hid hN
    have HX := Lib.hid hX
    have HSZ3 := Lib.hid (Nat.le_trans HBZ.out hX.size)
    have HP3 := Lib.hid (HP.out.chg hX HGR.out)
    have HL3 := Lib.hid (HL2.out.rcvd hX hN)
    have HC3 := Lib.hid ((Chg.of_below (F := F) B2.out).trans hX (fun _ h => .inl (h ▸ HF.out _ (.inr (.inl rfl)))))
    have HT3 := Lib.hid (HT2.out.apart HL2.out.rcv (recv_no _ _) hX)
    clear hN hX HL2 HP HN HX HT2 OK
    have y3 : w3.cell? ⟨g, 3, none⟩ = some (.int .i64 (ep' : Int)) := HP3.out.cell 3
    have y5 : w3.cell? ⟨g, 5, none⟩ = some (.slice A1 bd'.length c1) := HP3.out.cell 5
    have p4 : w3.cell? ⟨p, 4, none⟩ = some (.bool gv) := HL3.out.hd.cell 4
    have p5 : w3.cell? ⟨p, 5, none⟩ = some (.int .i64 ep0) := HL3.out.hd.cell 5
    have p6 : w3.cell? ⟨p, 6, none⟩ = some (.int .i64 sq0) := HL3.out.hd.cell 6
    have z4 := HL3.out.hd.frozen 4
    have z5 := HL3.out.hd.frozen 5
    have z6 := HL3.out.hd.frozen 6
    have d0 : decide (0 ≤ la) = true := decide_eq_true hla
    go_upto_region 13 with fail
    go_region
    have HTS := Lib.hid (show takeS ⟨me, ot, E, S, ll, st, lf, RE, RL, gv, ep0, sq0⟩ (ep' : Int) (sq' : Int) = ⟨me, ot, E, S, ll, st, lf, RE2, RL2, true, (ep' : Int), la⟩ from by simp only [takeS]; rw [hrc.out]; simp only; rw [if_pos hla])
    have HW := Lib.hid (HL3.out.gave (ep' : Int) la)
    have HP4 := Lib.hid (HP3.out.grown HW.out.2 (fun e => HGP.out (by injection e with e; exact e.symm)))
    have HT4 := Lib.hid (HT3.out.apart HL3.out.hd (lk_no _ _ _ _ _ _ _) (Chg.of_grown HW.out.2 rfl))
    have HL4 := Lib.hid HW.out.1
    have HW4s := Lib.hid HW.out.2.size
    have HC4 := Lib.hid (HC3.out.trans (Chg.of_grown (F := F) HW.out.2 (HF.out _ (.inl rfl))) (fun _ h => .inl h))
    clear y3 y5 p4 p5 p6 z4 z5 z6 HW HL3 HP3 HT3 HC3
    generalize ((w3.setCell ⟨p, 4, none⟩ (.bool true)).setCell ⟨p, 5, none⟩ (.int .i64 (ep' : Int))).setCell ⟨p, 6, none⟩ (.int .i64 la) = w4 at *
    have y5 : w4.cell? ⟨g, 5, none⟩ = some (.slice A1 bd'.length c1) := HP4.out.cell 5
    have HE := Lib.hid (show LkN w F p ⟨me, ot, E, S, ll, st, lf, RE2, RL2, true, (ep' : Int), la⟩ w4 from ⟨HC4.out, F, ⟨sp, rp, base, A0, n0, c0, vs, HL4.out, HF.out, fun k hk => Nat.lt_of_lt_of_le (HLT.out k hk) HC4.out.size⟩, fun _ h => .inl h⟩)
    have HTE := Lib.hid HT4.out
    have HS4 := Lib.hid (show LkS w4 F p ⟨me, ot, E, S, ll, st, lf, RE2, RL2, true, (ep' : Int), la⟩ from ⟨sp, rp, base, A0, n0, c0, vs, HL4.out, HF.out, fun k hk => Nat.lt_of_lt_of_le (HLT.out k hk) HC4.out.size⟩)
    have HSZ := Lib.hid (Nat.le_trans HSZ3.out HW4s.out)
    subst htk
    go_wp2_with fail
    exact bodyPost_ret (v := .tuple #[.slice A1 bd'.length c1, .bool true, .nilIface]) (by simp [results, Tryd.results10, go_sem]) rfl (hearE_yes rfl HTE.out HTS.out (HC4.out.later (Below.refl _ _).drew) (HS4.out.later (Below.refl _ _).drew) HLT.out (fun k e => ⟨Nat.le_trans (Nat.le_refl _) (HF1.out k e).1, (HF1.out k e).2⟩) HSZ.out)
end
end Go.Proofs.YtodimanghmepoaaDoor
