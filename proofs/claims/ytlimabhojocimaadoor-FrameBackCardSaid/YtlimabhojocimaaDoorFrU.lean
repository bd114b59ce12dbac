/- Layer 14's law: a packet given. Printed by fru.py. -/
import Derived.Test.YtlimabhojocimaaDoorFrT
import Derived.Test.YtlimabhojocimaaDoorRegionC
import Derived.ArgAppend
namespace Go.Proofs.YtlimabhojocimaaDoor
open Go.RowKit
/-- the packet as the program's: its body copied -/
def GivE (w : World) (f d : Int) (k : Bool) (e s : Int) (n : Nat) (l : List Nat) (e' : Ending) (w' : World) : Prop :=
  ∃ A' c', e' = .returned (.agg #[.int .i64 f, .int .i64 d, .bool k, .int .i64 e, .int .i64 s, .slice A' n c']) ∧ At w' A' (nats .u8 l) ∧ Below w.heap.size w w'
set_option maxRecDepth 100000 in
theorem pk_size : (Tryd.prog.info? 30).map (·.size) = some (6 : Nat) := by kernel_rfl
theorem pk_under : Tryd.prog.underlying 30 = some (match Tryd.prog.underlying 30 with | some d => d | none => default) := by kernel_rfl
theorem pk_one (f d : Int) (k : Bool) (e s : Int) (A : Option Addr) (n c : Nat) : (#[.int .i64 f, .int .i64 d, .bool k, .int .i64 e, .int .i64 s, .slice A n c] : Array Value).all (·.oneCell') = true := by simp [Value.oneCell']
set_option maxRecDepth 100000 in
/-- append behind an empty slice without room -/
theorem run_app0 {t : TypeId} (w : World) (b : Nat) (A2 : Option Addr) (m c2 : Nat) (l : List Nat) (hl : l.length = m) (hm : m ≤ 140737488351232) (hat : At w A2 (nats .u8 l)) (ty : TypeId) (ht : Tryd.prog.underlying t = some (.slice 5) := by kernel_rfl) :
    ∃ A' c' w', (Builtin.append_ #[t, t] ty #[.slice (some ⟨b, 0, none⟩) 0 0, .slice A2 m c2]).run Tryd.prog w = .ok (.slice A' m c') w' ∧ At w' A' (nats .u8 l) ∧ Below w.heap.size w w' := by
  obtain ⟨i, hi, hz, hsize, hby⟩ := elt_u8.hi
  rcases Nat.eq_zero_or_pos m with h0 | h0
  · subst h0
    have : l = [] := List.eq_nil_of_length_eq_zero hl
    subst this
    refine ⟨some ⟨b, 0, none⟩, 0, w, ?_, At.nil _ _, Below.refl _ _⟩
    cases A2 <;> simp [Builtin.append_, run_underlying ht, sizeOf, typeInfo, hi, Builtin.lenOf, Builtin.firstCells, storeCells, loadCells, loadCellsFrom]
  · obtain ⟨b2, o2, rfl, _⟩ := hat.nat 0 (by omega)
    obtain ⟨v', w', hr, h1, h2⟩ := run_append_arg_grows (P := Tryd.prog) w t ty 5 i _ 1 1 ht hi hz hsize hby rfl (by decide) ⟨b, 0, none⟩ 0 0 [] rfl (by simp) ⟨b2, o2, none⟩ m c2 (nats .u8 l) (by rw [nats_length, Nat.mul_one]; exact hl)
      (fun j u hu => by obtain ⟨b', o', e', hc⟩ := hat j u hu; injection e' with e'; rw [e', addr_add]; exact hc) (by omega) (by unfold maxLen; omega) (by omega)
    rw [Nat.zero_add, List.nil_append] at h1
    have hf : ∃ A' c', v' = .slice A' m c' := by
      rcases h1.2 with ⟨h, h0⟩ | ⟨g, cap, cur, h, _⟩
      · exact ⟨none, 0, by rw [h, h0]⟩
      · exact ⟨_, _, h⟩
    obtain ⟨A', c', rfl⟩ := hf
    have ho : Own w' w.heap.size 5 1 A' m c' (nats .u8 l) := h1
    exact ⟨A', c', w', hr, ho.at_, (Below.refl _ _).grown h2 (Nat.le_refl _) (fun k hk => by cases hk)⟩
set_option maxRecDepth 100000 in
set_option maxHeartbeats 2000000 in
theorem give_any (f d : Int) (k : Bool) (e s : Int) (A : Option Addr) (n c : Nat) (l : List Nat) (w : World) (hl : l.length = n) (hm : n ≤ 140737488351232) (hat : At w A (nats .u8 l)) :
    Calls Tryd.prog 7 #[.agg #[.int .i64 f, .int .i64 d, .bool k, .int .i64 e, .int .i64 s, .slice A n c]] w (GivE w f d k e s n l) := by
  have HB0 := ((Below.refl w.heap.size w).alloc (Nat.le_refl _) (.cells #[.int .i64 f, .int .i64 d, .bool k, .int .i64 e, .int .i64 s, .slice A n c] 24)).alloc (by simp) (.cells (pkF 0 0 false 0 0 none 0 0) 30)
  have HP := Lib.hid ((Holds.new w 24 #[.int .i64 f, .int .i64 d, .bool k, .int .i64 e, .int .i64 s, .slice A n c] w.heap.size rfl).alloc (.cells (pkF 0 0 false 0 0 none 0 0) 30))
  have HR := Lib.hid (Holds.new (w.alloc (.cells #[.int .i64 f, .int .i64 d, .bool k, .int .i64 e, .int .i64 s, .slice A n c] 24)) 30 (pkF 0 0 false 0 0 none 0 0) (w.heap.size + 1) (by simp))
  have HB := Lib.hid HB0
  have HL := Lib.hid hl
  have HA := Lib.hid (hat.later HB0 (Nat.le_refl _))
  clear hat hl HB0
  go_enter Tryd.func7, Tryd.ntmps7
  go_upto_region 1 with fail
  change Code.wp _ _ _ _ ((w.alloc (.cells #[.int .i64 f, .int .i64 d, .bool k, .int .i64 e, .int .i64 s, .slice A n c] 24)).alloc (.cells (pkF 0 0 false 0 0 none 0 0) 30))
  generalize (w.alloc (.cells #[.int .i64 f, .int .i64 d, .bool k, .int .i64 e, .int .i64 s, .slice A n c] 24)).alloc (.cells (pkF 0 0 false 0 0 none 0 0) 30) = w0 at *
  refine wp_region_tailN 15 _ rfl (by kernel_rfl) [is ?c0, is ?c1, is ?c2, is ?c3, is ?c4, is ?c5, is ?c6, is ?c7, is ?c8, is ?c9, (fun v _ => ∃ b, v = .slice (some ⟨b, 0, none⟩) 0 0), is ?c11, is ?c12, (fun v W => ∃ A3 c3, v = .slice A3 n c3 ∧ At W A3 (nats .u8 l)), (fun v W => ∃ A3 c3, v = .agg #[.int .i64 f, .int .i64 d, .bool k, .int .i64 e, .int .i64 s, .slice A3 n c3] ∧ At W A3 (nats .u8 l))]
    [⟨[], [1], none⟩, ⟨[(3, 0)], [], none⟩, ⟨[], [1], none⟩, ⟨[(5, 2)], [], none⟩, ⟨[], [1], none⟩, ⟨[(7, 4)], [], none⟩, ⟨[], [1], none⟩, ⟨[(9, 6)], [], none⟩, ⟨[], [1], none⟩, ⟨[(11, 8)], [], none⟩, ⟨[], [], none⟩, ⟨[], [1], none⟩, ⟨[(14, 11)], [], none⟩, ⟨[(13, 10), (15, 12)], [], none⟩, ⟨[(4, 1), (6, 3), (8, 5), (10, 7), (12, 9), (16, 13)], [], none⟩] (by kernel_rfl) (by kernel_rfl) (by kernel_rfl) rfl rfl (by kernel_rfl) (by kernel_rfl) (by kernel_rfl) ?monoc ?stepsc ?finc
  case monoc => exact ⟨mono_eq _, mono_eq _, mono_eq _, mono_eq _, mono_eq _, mono_eq _, mono_eq _, mono_eq _, mono_eq _, mono_eq _, (fun _ _ _ h _ => h), mono_eq _, mono_eq _, (fun _ _ _ ⟨A3, c3, h1, h2⟩ hb => ⟨A3, c3, h1, h2.later hb (Nat.le_refl _)⟩), (fun _ _ _ ⟨A3, c3, h1, h2⟩ hb => ⟨A3, c3, h1, h2.later hb (Nat.le_refl _)⟩), trivial⟩
  case stepsc =>
    refine ⟨fun ρ W ⟨hcst, hglb, hfun⟩ hX hp ho => ?_, ?_⟩ -- 0: slot 3 := Op.fieldAddr 24 t1 0
    · obtain ⟨o1, -⟩ := ho
      change ρ (.tmp 1) = _ at o1
      refine turn_plain (ok_is ?_ rfl)
      simp only [execOp, o1]; go_simp; try exact rfl
    refine ⟨fun ρ W ⟨hcst, hglb, hfun⟩ hX hp ho => ?_, ?_⟩ -- 1: slot 4 := Op.load 3 t3
    · obtain ⟨p3, -⟩ := hp
      change ρ (.tmp 3) = _ at p3
      have q := (HP.out.later ((Below.refl _ _).drew.trans hX) (Nat.le_refl _)).cell 0
      simp at q
      refine turn_plain (ok_is ?_ rfl)
      simp only [execOp, p3]; go_simp; try exact rfl
    refine ⟨fun ρ W ⟨hcst, hglb, hfun⟩ hX hp ho => ?_, ?_⟩ -- 2: slot 5 := Op.fieldAddr 24 t1 1
    · obtain ⟨o1, -⟩ := ho
      change ρ (.tmp 1) = _ at o1
      refine turn_plain (ok_is ?_ rfl)
      simp only [execOp, o1]; go_simp; try exact rfl
    refine ⟨fun ρ W ⟨hcst, hglb, hfun⟩ hX hp ho => ?_, ?_⟩ -- 3: slot 6 := Op.load 3 t5
    · obtain ⟨p5, -⟩ := hp
      change ρ (.tmp 5) = _ at p5
      have q := (HP.out.later ((Below.refl _ _).drew.trans hX) (Nat.le_refl _)).cell 1
      simp at q
      refine turn_plain (ok_is ?_ rfl)
      simp only [execOp, p5]; go_simp; try exact rfl
    refine ⟨fun ρ W ⟨hcst, hglb, hfun⟩ hX hp ho => ?_, ?_⟩ -- 4: slot 7 := Op.fieldAddr 24 t1 2
    · obtain ⟨o1, -⟩ := ho
      change ρ (.tmp 1) = _ at o1
      refine turn_plain (ok_is ?_ rfl)
      simp only [execOp, o1]; go_simp; try exact rfl
    refine ⟨fun ρ W ⟨hcst, hglb, hfun⟩ hX hp ho => ?_, ?_⟩ -- 5: slot 8 := Op.load 4 t7
    · obtain ⟨p7, -⟩ := hp
      change ρ (.tmp 7) = _ at p7
      have q := (HP.out.later ((Below.refl _ _).drew.trans hX) (Nat.le_refl _)).cell 2
      simp at q
      refine turn_plain (ok_is ?_ rfl)
      simp only [execOp, p7]; go_simp; try exact rfl
    refine ⟨fun ρ W ⟨hcst, hglb, hfun⟩ hX hp ho => ?_, ?_⟩ -- 6: slot 9 := Op.fieldAddr 24 t1 3
    · obtain ⟨o1, -⟩ := ho
      change ρ (.tmp 1) = _ at o1
      refine turn_plain (ok_is ?_ rfl)
      simp only [execOp, o1]; go_simp; try exact rfl
    refine ⟨fun ρ W ⟨hcst, hglb, hfun⟩ hX hp ho => ?_, ?_⟩ -- 7: slot 10 := Op.load 3 t9
    · obtain ⟨p9, -⟩ := hp
      change ρ (.tmp 9) = _ at p9
      have q := (HP.out.later ((Below.refl _ _).drew.trans hX) (Nat.le_refl _)).cell 3
      simp at q
      refine turn_plain (ok_is ?_ rfl)
      simp only [execOp, p9]; go_simp; try exact rfl
    refine ⟨fun ρ W ⟨hcst, hglb, hfun⟩ hX hp ho => ?_, ?_⟩ -- 8: slot 11 := Op.fieldAddr 24 t1 4
    · obtain ⟨o1, -⟩ := ho
      change ρ (.tmp 1) = _ at o1
      refine turn_plain (ok_is ?_ rfl)
      simp only [execOp, o1]; go_simp; try exact rfl
    refine ⟨fun ρ W ⟨hcst, hglb, hfun⟩ hX hp ho => ?_, ?_⟩ -- 9: slot 12 := Op.load 3 t11
    · obtain ⟨p11, -⟩ := hp
      change ρ (.tmp 11) = _ at p11
      have q := (HP.out.later ((Below.refl _ _).drew.trans hX) (Nat.le_refl _)).cell 4
      simp at q
      refine turn_plain (ok_is ?_ rfl)
      simp only [execOp, p11]; go_simp; try exact rfl
    refine ⟨fun ρ W ⟨hcst, hglb, hfun⟩ hX hp ho => ?_, ?_⟩ -- 10: slot 13 := Op.buildSlice 22 0 #[]
    · have hW := (Below.refl _ _).drew.trans hX
      refine turn_plain ?_
      exact ok_val (v := .slice (some ⟨W.heap.size, 0, none⟩) 0 0) (W' := W.alloc (.cells #[] 5)) (by simp only [execOp]; go_simp) ((Below.refl _ _).alloc (Nat.le_refl _) _) ⟨_, rfl⟩
    refine ⟨fun ρ W ⟨hcst, hglb, hfun⟩ hX hp ho => ?_, ?_⟩ -- 11: slot 14 := Op.fieldAddr 24 t1 5
    · obtain ⟨o1, -⟩ := ho
      change ρ (.tmp 1) = _ at o1
      refine turn_plain (ok_is ?_ rfl)
      simp only [execOp, o1]; go_simp; try exact rfl
    refine ⟨fun ρ W ⟨hcst, hglb, hfun⟩ hX hp ho => ?_, ?_⟩ -- 12: slot 15 := Op.load 22 t14
    · obtain ⟨p14, -⟩ := hp
      change ρ (.tmp 14) = _ at p14
      have q := (HP.out.later ((Below.refl _ _).drew.trans hX) (Nat.le_refl _)).cell 5
      simp at q
      refine turn_plain (ok_is ?_ rfl)
      simp only [execOp, p14]; go_simp; try exact rfl
    refine ⟨fun ρ W ⟨hcst, hglb, hfun⟩ hX hp ho => ?_, ?_⟩ -- 13: slot 16 := Op.call { builtin append, args := #[t13, t15], argTypes := #[22, 22] }
    · obtain ⟨p13, p15, -⟩ := hp
      obtain ⟨b13, p13⟩ := p13
      change ρ (.tmp 13) = _ at p13
      change ρ (.tmp 15) = _ at p15
      have hW := (Below.refl _ _).drew.trans hX
      refine turn_plain ?_
      obtain ⟨A3, c3, w3, hr, h1, h2⟩ := run_app0 (t := 22) W b13 A n c l HL.out hm (HA.out.later hW (Nat.le_refl _)) 22
      exact ok_val (by unfold execOp; simp only [resolve, invoke, builtin, Sem.run_bind, Sem.run_pure, Result.andThen_ok, List.map_toArray, List.map_cons, List.map_nil, p13, p15, hr]) h2 ⟨A3, c3, rfl, h1⟩
    refine ⟨fun ρ W ⟨hcst, hglb, hfun⟩ hX hp ho => ?_, ?_⟩ -- 14: slot 17 := Op.build 30 #[(0, t4), (1, t6), (2, t8), (3, t10), (4, t12), (5, t16)]
    · obtain ⟨p4, p6, p8, p10, p12, p16, -⟩ := hp
      change ρ (.tmp 4) = _ at p4
      change ρ (.tmp 6) = _ at p6
      change ρ (.tmp 8) = _ at p8
      change ρ (.tmp 10) = _ at p10
      change ρ (.tmp 12) = _ at p12
      obtain ⟨A16, c16, p16, hat16⟩ := p16
      change ρ (.tmp 16) = _ at p16
      have hW := (Below.refl _ _).drew.trans hX
      refine turn_plain ?_
      exact ok_val (v := .agg #[.int .i64 f, .int .i64 d, .bool k, .int .i64 e, .int .i64 s, .slice A16 n c16]) (W' := W) (by simp only [execOp, p4, p6, p8, p10, p12, p16]; go_simp) (Below.refl _ _) ⟨A16, c16, rfl, hat16⟩
    exact trivial
  case finc =>
    intro a W hX hsz hdf hold hR
    have h17 := hR 14 17 rfl
    change ∃ A3 c3, a.tmps.getD 17 undef = .agg #[.int .i64 f, .int .i64 d, .bool k, .int .i64 e, .int .i64 s, .slice A3 n c3] ∧ At W A3 (nats .u8 l) at h17
    obtain ⟨A3, c3, h17, hat⟩ := h17
    have h2 := hold 2 (by kernel_rfl)
    change a.tmps.getD 2 undef = .pointer (some ⟨w.heap.size + 1, 0, none⟩) at h2
    have H3 := HR.out.later hX (Nat.le_refl _)
    have BF := below_setRow (HB.out.trans (hX.mono HB.out.size)) (g := w.heap.size + 1) (by omega) #[.int .i64 f, .int .i64 d, .bool k, .int .i64 e, .int .i64 s, .slice A3 n c3]
    refine ⟨_, exec_store_row 30 (.tmp 2) (.tmp 17) rfl (w.heap.size + 1) #[.int .i64 f, .int .i64 d, .bool k, .int .i64 e, .int .i64 s, .slice A3 n c3] h2 h17 _ _ H3 pk_size rfl (pk_one _ _ _ _ _ _ _ _), ?_⟩
    clear hold hR
    go_wp2_with fail
    refine bodyPost_ret (v := .agg #[.int .i64 f, .int .i64 d, .bool k, .int .i64 e, .int .i64 s, .slice A3 n c3]) (results_cell_row Tryd.results7 _ _ (w.heap.size + 1) 30 #[.int .i64 f, .int .i64 d, .bool k, .int .i64 e, .int .i64 s, .slice A3 n c3] _ _ h2 (H3.row _) pk_under rfl pk_size) hdf ⟨A3, c3, rfl, ?_, BF⟩
    by_cases h0 : l = []
    · rw [h0]; exact At.nil _ _
    · refine hat.grown (row := some (w.heap.size + 1)) ⟨rfl, rfl, rfl, by simp [World.setRow], fun j hj hne => setRow_other W _ j _ (fun e => hne (by rw [e]))⟩ (.inr (far_pk2 H3 hat h0))
end Go.Proofs.YtlimabhojocimaaDoor
