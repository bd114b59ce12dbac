/- Layer 14: FrameForms. Printed by fry.py. -/
import Derived.Test.YtlimabhojocimaaDoorFrX
namespace Go.Proofs.YtlimabhojocimaaDoor
open Go.RowKit
set_option maxRecDepth 100000 in
theorem rk_size : (Tryd.prog.info? 24).map (·.size) = some (6 : Nat) := by kernel_rfl
theorem rk_under : Tryd.prog.underlying 24 = some (match Tryd.prog.underlying 24 with | some d => d | none => default) := by kernel_rfl
theorem exec_load_row {P : Program} {ρ : Operand → Value} {o : Oper} {w : World} (ty : TypeId) (x : Operand) (ho : o.op = .load ty x)
    (g : Nat) (hx : ρ x = .pointer (some ⟨g, 0, none⟩)) (t : TypeId) (cs : Array Value) (fr : Nat × Nat) (d : TypeDesc) (hg : w.heap[g]? = some (.cells cs t fr))
    (hu : P.underlying ty = some d) (hd : (match d with | .struct _ | .array _ _ => true | _ => false) = true) (hi : (P.info? ty).map (·.size) = some cs.size) : (execOp ρ o).run P w = .ok (.value (.agg cs)) w := by
  unfold execOp
  simp only [ho, hx, Instr.loadAt, Instr.sureAddr, Sem.run_bind, Sem.run_pure, Result.andThen_ok, run_loadVar_row w g t ty cs fr d hg hu hd hi]
theorem Dres.byte {l : List Nat} {fr dt : Nat} {k : Bool} {ep sq : Nat} {bd : List Nat} {x : Int} (h : Dres l fr dt k ep sq bd x) (hb : ∀ y ∈ l, y < 256) : ∀ y ∈ bd, y < 256 := by
  rcases h with ⟨_, _, h⟩ | ⟨_, _, _, _, _, _, _, rfl⟩
  · intro y hy
    refine hb y ?_
    rw [h]
    unfold fdat fhead
    simp [hy]
  · simp
theorem pkEq_self (f d : Int) (k : Bool) (e s : Int) (l : List Nat) : pkEq f d k e s l f d k e s l = true := by unfold pkEq; simp
section
variable (f1 d1 : Int) (k1 : Bool) (e1 s1 : Int) (A1 : Option Addr) (n1 c1 : Nat) (l1 : List Nat) (f2 d2 : Int) (k2 : Bool) (e2 s2 : Int) (A2 : Option Addr) (n2 c2 : Nat) (l2 : List Nat) (A3 : Option Addr) (n3 c3 : Nat) (l3 : List Nat) (w : World)
set_option maxRecDepth 100000 in
set_option maxHeartbeats 4000000 in
theorem forms_any (hl1 : l1.length = n1) (hn1 : n1 ≤ 140737488351232) (ha1 : At w A1 (nats .u8 l1)) (hy1 : ∀ i, l1.getD i 0 < 256)
    (hl2 : l2.length = n2) (hn2 : n2 ≤ 140737488351232) (ha2 : At w A2 (nats .u8 l2)) (hy2 : ∀ i, l2.getD i 0 < 256)
    (hl3 : l3.length = n3) (hnc3 : n3 ≤ c3) (hc3 : c3 ≤ 9223372036854775807) (ha3 : At w A3 (nats .u8 l3)) (hy3 : ∀ i, l3.getD i 0 < 256) (hg : Glob w) :
    Calls Tryd.prog 3 #[.agg #[.int .i64 f1, .int .i64 d1, .bool k1, .int .i64 e1, .int .i64 s1, .slice A1 n1 c1], .agg #[.int .i64 f2, .int .i64 d2, .bool k2, .int .i64 e2, .int .i64 s2, .slice A2 n2 c2], .slice A3 n3 c3] w fun e w' => e = .returned (.bool true) ∧ Below w.heap.size w w' := by
  have HL1 := Lib.hid hl1
  have HL2 := Lib.hid hl2
  have HL3 := Lib.hid hl3
  have HA1 := Lib.hid ha1
  have HA2 := Lib.hid ha2
  have HA3 := Lib.hid ha3
  have HY1 := Lib.hid hy1
  have HY2 := Lib.hid hy2
  have HY3 := Lib.hid hy3
  have HG := Lib.hid hg
  have HN3 := Lib.hid hnc3
  have HC3 := Lib.hid hc3
  clear hl1 hl2 hl3 ha1 ha2 ha3 hy1 hy2 hy3 hg hnc3 hc3
  have hsure : ∀ W : World, Below w.heap.size w W → Calls Tryd.prog 5 #[] W fun e w' => e = .returned (.bool true) ∧ Below W.heap.size W w' := fun W hW => sure14 W (HG.out.later hW (Nat.le_refl _))
  have HS := Lib.hid hsure
  clear hsure
  by_cases h1 : 900 < n1 ∧ n1 ≤ 8192
  · have hq := h1.1
    have hq2 := h1.2
    have z1 : decide ((900 : Int) < n1) = true := decide_eq_true (by omega)
    have z2 : decide ((n1 : Int) ≤ 8192) = true := decide_eq_true (by omega)
    go_enter Tryd.func3, Tryd.ntmps3
    go_wp2_with fail
    have HB := ((Below.refl w.heap.size w).alloc (Nat.le_refl _) (.cells #[.int .i64 f1, .int .i64 d1, .bool k1, .int .i64 e1, .int .i64 s1, .slice A1 n1 c1] 24)).alloc (by simp) (.cells #[.int .i64 f2, .int .i64 d2, .bool k2, .int .i64 e2, .int .i64 s2, .slice A2 n2 c2] 24)
    refine (HS.out _ HB).mono ?_
    rintro e w1 ⟨rfl, b1⟩
    have B1 := Lib.hid (HB.trans (b1.mono HB.size))
    clear HB b1
    go_wp2_with fail
    go_ret
    exact ⟨rfl, B1.out⟩
  by_cases h3 : 900 < n2
  · by_cases h2 : 900 < n1
    · have hq : ¬ n1 ≤ 8192 := fun h => h1 ⟨h2, h⟩
      have z1 : decide ((900 : Int) < n1) = true := decide_eq_true (by omega)
      have z2 : decide ((n1 : Int) ≤ 8192) = false := decide_eq_false (by omega)
      have z3 : decide ((900 : Int) < n2) = true := decide_eq_true (by omega)
      go_enter Tryd.func3, Tryd.ntmps3
      go_wp2_with fail
      have HB := ((Below.refl w.heap.size w).alloc (Nat.le_refl _) (.cells #[.int .i64 f1, .int .i64 d1, .bool k1, .int .i64 e1, .int .i64 s1, .slice A1 n1 c1] 24)).alloc (by simp) (.cells #[.int .i64 f2, .int .i64 d2, .bool k2, .int .i64 e2, .int .i64 s2, .slice A2 n2 c2] 24)
      refine (HS.out _ HB).mono ?_
      rintro e w1 ⟨rfl, b1⟩
      have B1 := Lib.hid (HB.trans (b1.mono HB.size))
      clear HB b1
      go_wp2_with fail
      go_ret
      exact ⟨rfl, B1.out⟩
    · skip
      have z1 : decide ((900 : Int) < n1) = false := decide_eq_false (by omega)
      have z3 : decide ((900 : Int) < n2) = true := decide_eq_true (by omega)
      go_enter Tryd.func3, Tryd.ntmps3
      go_wp2_with fail
      have HB := ((Below.refl w.heap.size w).alloc (Nat.le_refl _) (.cells #[.int .i64 f1, .int .i64 d1, .bool k1, .int .i64 e1, .int .i64 s1, .slice A1 n1 c1] 24)).alloc (by simp) (.cells #[.int .i64 f2, .int .i64 d2, .bool k2, .int .i64 e2, .int .i64 s2, .slice A2 n2 c2] 24)
      refine (HS.out _ HB).mono ?_
      rintro e w1 ⟨rfl, b1⟩
      have B1 := Lib.hid (HB.trans (b1.mono HB.size))
      clear HB b1
      go_wp2_with fail
      go_ret
      exact ⟨rfl, B1.out⟩
  by_cases h4 : 900 < n3 ∧ n3 ≤ 8300
  · have hq3 := h4.1
    have hq4 := h4.2
    by_cases h2 : 900 < n1
    · have hq : ¬ n1 ≤ 8192 := fun h => h1 ⟨h2, h⟩
      have z1 : decide ((900 : Int) < n1) = true := decide_eq_true (by omega)
      have z2 : decide ((n1 : Int) ≤ 8192) = false := decide_eq_false (by omega)
      have z3 : decide ((900 : Int) < n2) = false := decide_eq_false (by omega)
      have z4 : decide ((900 : Int) < n3) = true := decide_eq_true (by omega)
      have z5 : decide ((n3 : Int) ≤ 8300) = true := decide_eq_true (by omega)
      go_enter Tryd.func3, Tryd.ntmps3
      go_wp2_with fail
      have HB := ((Below.refl w.heap.size w).alloc (Nat.le_refl _) (.cells #[.int .i64 f1, .int .i64 d1, .bool k1, .int .i64 e1, .int .i64 s1, .slice A1 n1 c1] 24)).alloc (by simp) (.cells #[.int .i64 f2, .int .i64 d2, .bool k2, .int .i64 e2, .int .i64 s2, .slice A2 n2 c2] 24)
      refine (HS.out _ HB).mono ?_
      rintro e w1 ⟨rfl, b1⟩
      have B1 := Lib.hid (HB.trans (b1.mono HB.size))
      clear HB b1
      go_wp2_with fail
      go_ret
      exact ⟨rfl, B1.out⟩
    · skip
      have z1 : decide ((900 : Int) < n1) = false := decide_eq_false (by omega)
      have z3 : decide ((900 : Int) < n2) = false := decide_eq_false (by omega)
      have z4 : decide ((900 : Int) < n3) = true := decide_eq_true (by omega)
      have z5 : decide ((n3 : Int) ≤ 8300) = true := decide_eq_true (by omega)
      go_enter Tryd.func3, Tryd.ntmps3
      go_wp2_with fail
      have HB := ((Below.refl w.heap.size w).alloc (Nat.le_refl _) (.cells #[.int .i64 f1, .int .i64 d1, .bool k1, .int .i64 e1, .int .i64 s1, .slice A1 n1 c1] 24)).alloc (by simp) (.cells #[.int .i64 f2, .int .i64 d2, .bool k2, .int .i64 e2, .int .i64 s2, .slice A2 n2 c2] 24)
      refine (HS.out _ HB).mono ?_
      rintro e w1 ⟨rfl, b1⟩
      have B1 := Lib.hid (HB.trans (b1.mono HB.size))
      clear HB b1
      go_wp2_with fail
      go_ret
      exact ⟨rfl, B1.out⟩
  have HN9 := Lib.hid (show n1 ≤ 900 ∨ 8192 < n1 from by omega)
  have HM9 := Lib.hid (show n3 ≤ 900 ∨ 8300 < n3 from by omega)
  by_cases hh2 : 900 < n1
  · have hq : ¬ n1 ≤ 8192 := fun h => h1 ⟨hh2, h⟩
    by_cases hh5 : 900 < n3
    · have hq5 : ¬ n3 ≤ 8300 := fun h => h4 ⟨hh5, h⟩
      have z1 : decide ((900 : Int) < n1) = true := decide_eq_true (by omega)
      have z2 : decide ((n1 : Int) ≤ 8192) = false := decide_eq_false (by omega)
      have z3 : decide ((900 : Int) < n2) = false := decide_eq_false (by omega)
      have z4 : decide ((900 : Int) < n3) = true := decide_eq_true (by omega)
      have z5 : decide ((n3 : Int) ≤ 8300) = false := decide_eq_false (by omega)
      clear h1 h3 h4 hh2 hh5
      go_enter Tryd.func3, Tryd.ntmps3
      go_upto_region 3 with fail
      have HP := Lib.hid ((Holds.new w 24 #[.int .i64 f1, .int .i64 d1, .bool k1, .int .i64 e1, .int .i64 s1, .slice A1 n1 c1] w.heap.size rfl).alloc (.cells #[.int .i64 f2, .int .i64 d2, .bool k2, .int .i64 e2, .int .i64 s2, .slice A2 n2 c2] 24))
      have HQ := Lib.hid (Holds.new (w.alloc (.cells #[.int .i64 f1, .int .i64 d1, .bool k1, .int .i64 e1, .int .i64 s1, .slice A1 n1 c1] 24)) 24 #[.int .i64 f2, .int .i64 d2, .bool k2, .int .i64 e2, .int .i64 s2, .slice A2 n2 c2] (w.heap.size + 1) (by simp))
      have HB := Lib.hid (((Below.refl w.heap.size w).alloc (Nat.le_refl _) (.cells #[.int .i64 f1, .int .i64 d1, .bool k1, .int .i64 e1, .int .i64 s1, .slice A1 n1 c1] 24)).alloc (by simp) (.cells #[.int .i64 f2, .int .i64 d2, .bool k2, .int .i64 e2, .int .i64 s2, .slice A2 n2 c2] 24))
      change Code.wp _ _ _ _ ((w.alloc (.cells #[.int .i64 f1, .int .i64 d1, .bool k1, .int .i64 e1, .int .i64 s1, .slice A1 n1 c1] 24)).alloc (.cells #[.int .i64 f2, .int .i64 d2, .bool k2, .int .i64 e2, .int .i64 s2, .slice A2 n2 c2] 24))
      generalize (w.alloc (.cells #[.int .i64 f1, .int .i64 d1, .bool k1, .int .i64 e1, .int .i64 s1, .slice A1 n1 c1] 24)).alloc (.cells #[.int .i64 f2, .int .i64 d2, .bool k2, .int .i64 e2, .int .i64 s2, .slice A2 n2 c2] 24) = w0 at *
      obtain ⟨g2, hg2⟩ : ∃ g2, w.heap.size + 1 = g2 := ⟨_, rfl⟩
      rw [hg2] at HQ ⊢
      clear hg2
      obtain ⟨g1, hg1⟩ : ∃ g1, w.heap.size = g1 := ⟨_, rfl⟩
      rw [hg1] at HP ⊢
      clear hg1
      go_upto_region 4 with (first
        | (refine wpList_load_row rfl 24 (.tmp 3) rfl g1 rfl _ #[.int .i64 f1, .int .i64 d1, .bool k1, .int .i64 e1, .int .i64 s1, .slice A1 n1 c1] _ _ HP.out rk_under rfl rk_size ?_)
        | (go_at_call 7; refine (give_any f1 d1 k1 e1 s1 A1 n1 c1 l1 w0 HL1.out hn1 (HA1.out.later HB.out (Nat.le_refl _))).mono ?_; rintro e w1 ⟨A9, c9, rfl, t9, b9⟩; have T9 := Lib.hid t9; have HP := Lib.hid (HP.out.later b9 (Nat.le_refl _)); have HQ := Lib.hid (HQ.out.later b9 (Nat.le_refl _)); have HB := Lib.hid (HB.out.trans (b9.mono HB.out.size)); clear t9 b9)
        | (go_at_call 6; have Q := enc_any f1 d1 k1 e1 s1 A9 n1 c9 l1 w1 HL1.out T9.out; obtain ⟨L, hL⟩ : ∃ L, encL f1 d1 k1 e1 s1 l1 = L := ⟨_, rfl⟩; obtain ⟨x, hx⟩ : ∃ x, encX f1 d1 k1 e1 s1 l1.length = x := ⟨_, rfl⟩; rw [hL, hx] at Q; obtain ⟨nl, hnl⟩ : ∃ nl, L.length = nl := ⟨_, rfl⟩; unfold EncR at Q; rw [hnl] at Q; have EL := Lib.hid hL; have EX := Lib.hid hx; have HLX := Lib.hid hnl; clear hL hx hnl; refine Q.mono ?_; clear Q; rintro e w2 ⟨Ax, cx, rfl, ox, bx⟩; have TX := Lib.hid ox.at_; have HP := Lib.hid (HP.out.later bx (Nat.le_refl _)); have HQ := Lib.hid (HQ.out.later bx (Nat.le_refl _)); have HB := Lib.hid (HB.out.trans (bx.mono HB.out.size)); clear ox bx T9))
      go_upto_region 5 with (first
        | (refine wpList_load_row rfl 24 (.tmp 3) rfl g1 rfl _ #[.int .i64 f1, .int .i64 d1, .bool k1, .int .i64 e1, .int .i64 s1, .slice A1 n1 c1] _ _ HP.out rk_under rfl rk_size ?_)
        | (go_at_call 8; have Q := enck_any f1 d1 k1 e1 s1 A1 n1 c1 l1 w2 HL1.out (HA1.out.later HB.out (Nat.le_refl _)) (all_of_getD HY1.out) HN9.out; rw [EL.out, EX.out] at Q; unfold EncR at Q; rw [HLX.out] at Q; refine Q.mono ?_; clear Q; rintro e w3 ⟨Ay, cy, rfl, oy, bx⟩; have TY := Lib.hid oy.at_; have TX := Lib.hid (TX.out.later bx (Nat.le_refl _)); have HP := Lib.hid (HP.out.later bx (Nat.le_refl _)); have HQ := Lib.hid (HQ.out.later bx (Nat.le_refl _)); have HB := Lib.hid (HB.out.trans (bx.mono HB.out.size)); clear oy bx))
      go_wp2_with fail
      have hb3 := all_of_getD HY3.out
      with_reducible refine (dec_any A3 n3 c3 l3 w3 HL3.out HN3.out HC3.out (HA3.out.later HB.out (Nat.le_refl _)) hb3).mono ?_
      rintro e w4 ⟨fr, dt, k, ep, sq, bd, y, A4, c4, he, t4, b4, hd⟩
      obtain ⟨m4, hm4⟩ : ∃ m4, bd.length = m4 := ⟨_, rfl⟩
      rw [hm4] at he
      subst he
      have HBD := Lib.hid hm4
      have HBB := Lib.hid (fun i => getD_of_all (m := 255) (hd.byte hb3) i)
      have HD := Lib.hid hd
      have TU := Lib.hid t4
      have TX := Lib.hid (TX.out.later b4 (Nat.le_refl _))
      have TY := Lib.hid (TY.out.later b4 (Nat.le_refl _))
      have HP := Lib.hid (HP.out.later b4 (Nat.le_refl _))
      have HQ := Lib.hid (HQ.out.later b4 (Nat.le_refl _))
      have HB := Lib.hid (HB.out.trans (b4.mono HB.out.size))
      clear t4 b4 hd hm4
      unfold pkF
      go_upto_region 6 with fail
      have NP := (Below.refl w4.heap.size w4).alloc (Nat.le_refl _) (.cells #[.int .i64 (fr : Nat), .int .i64 (dt : Nat), .bool k, .int .i64 (ep : Nat), .int .i64 (sq : Nat), .slice A4 m4 c4] 30)
      have HU := Lib.hid (show Holds (w4.alloc (.cells #[.int .i64 (fr : Nat), .int .i64 (dt : Nat), .bool k, .int .i64 (ep : Nat), .int .i64 (sq : Nat), .slice A4 m4 c4] 30)) w4.heap.size 30 (pkF fr dt k ep sq A4 m4 c4) from Holds.new w4 30 _ w4.heap.size rfl)
      have TU := Lib.hid (TU.out.later NP (Nat.le_refl _))
      have TX := Lib.hid (TX.out.later NP (Nat.le_refl _))
      have TY := Lib.hid (TY.out.later NP (Nat.le_refl _))
      have HP := Lib.hid (HP.out.later NP (Nat.le_refl _))
      have HQ := Lib.hid (HQ.out.later NP (Nat.le_refl _))
      have HB := Lib.hid (HB.out.trans (NP.mono HB.out.size))
      clear NP
      generalize w4.heap.size = g11 at *
      generalize w4.alloc (.cells #[.int .i64 (fr : Nat), .int .i64 (dt : Nat), .bool k, .int .i64 (ep : Nat), .int .i64 (sq : Nat), .slice A4 m4 c4] 30) = w5 at *
      go_wp2_with fail
      with_reducible refine (deck_any A3 n3 c3 l3 w5 HL3.out HN3.out HC3.out (HA3.out.later HB.out (Nat.le_refl _)) hb3 HM9.out).mono ?_
      rintro e w6 ⟨fr2, dt2, j2, ep2, sq2, bd2, y2, A5, c5, he, t4, b4, hd⟩
      obtain ⟨rfl, rfl, rfl, rfl, rfl, rfl, rfl⟩ := HD.out.uniq hd
      rw [HBD.out] at he
      subst he
      have TV := Lib.hid t4
      have TU := Lib.hid (TU.out.later b4 (Nat.le_refl _))
      have TX := Lib.hid (TX.out.later b4 (Nat.le_refl _))
      have TY := Lib.hid (TY.out.later b4 (Nat.le_refl _))
      have HU := Lib.hid (HU.out.later b4 (Nat.le_refl _))
      have HP := Lib.hid (HP.out.later b4 (Nat.le_refl _))
      have HQ := Lib.hid (HQ.out.later b4 (Nat.le_refl _))
      have HB := Lib.hid (HB.out.trans (b4.mono HB.out.size))
      clear t4 b4 hd hb3
      unfold pkF
      go_upto_region 7 with fail
      have NP := (Below.refl w6.heap.size w6).alloc (Nat.le_refl _) (.cells #[.int .i64 (fr : Nat), .int .i64 (dt : Nat), .bool k, .int .i64 (ep : Nat), .int .i64 (sq : Nat), .slice A5 m4 c5] 24)
      have HV := Lib.hid (show Holds (w6.alloc (.cells #[.int .i64 (fr : Nat), .int .i64 (dt : Nat), .bool k, .int .i64 (ep : Nat), .int .i64 (sq : Nat), .slice A5 m4 c5] 24)) w6.heap.size 24 (pkF fr dt k ep sq A5 m4 c5) from Holds.new w6 24 _ w6.heap.size rfl)
      have TV := Lib.hid (TV.out.later NP (Nat.le_refl _))
      have TU := Lib.hid (TU.out.later NP (Nat.le_refl _))
      have TX := Lib.hid (TX.out.later NP (Nat.le_refl _))
      have TY := Lib.hid (TY.out.later NP (Nat.le_refl _))
      have HU := Lib.hid (HU.out.later NP (Nat.le_refl _))
      have HP := Lib.hid (HP.out.later NP (Nat.le_refl _))
      have HQ := Lib.hid (HQ.out.later NP (Nat.le_refl _))
      have HB := Lib.hid (HB.out.trans (NP.mono HB.out.size))
      clear NP
      generalize w6.heap.size = g13 at *
      generalize w6.alloc (.cells #[.int .i64 (fr : Nat), .int .i64 (dt : Nat), .bool k, .int .i64 (ep : Nat), .int .i64 (sq : Nat), .slice A5 m4 c5] 24) = w7 at *
      go_upto_region 8 with (first
        | (refine wpList_load_row rfl 24 (.tmp 3) rfl g1 rfl _ #[.int .i64 f1, .int .i64 d1, .bool k1, .int .i64 e1, .int .i64 s1, .slice A1 n1 c1] _ _ HP.out rk_under rfl rk_size ?_)
        | (go_at_call 7; refine (give_any f1 d1 k1 e1 s1 A1 n1 c1 l1 w7 HL1.out hn1 (HA1.out.later HB.out (Nat.le_refl _))).mono ?_; rintro e w8 ⟨A9, c9, rfl, t9, b9⟩)
        | (go_at_call 11; have Q := chk_any f1 d1 k1 e1 s1 A9 n1 c9 w8; rw [← HL1.out, EX.out] at Q; rw [HL1.out] at Q; refine Q.mono ?_; clear Q; rintro e w9 ⟨rfl, b10⟩))
      have b11 := b9.trans (b10.mono b9.size)
      have TV := Lib.hid (TV.out.later b11 (Nat.le_refl _))
      have TU := Lib.hid (TU.out.later b11 (Nat.le_refl _))
      have TX := Lib.hid (TX.out.later b11 (Nat.le_refl _))
      have TY := Lib.hid (TY.out.later b11 (Nat.le_refl _))
      have HU := Lib.hid (HU.out.later b11 (Nat.le_refl _))
      have HV := Lib.hid (HV.out.later b11 (Nat.le_refl _))
      have HP := Lib.hid (HP.out.later b11 (Nat.le_refl _))
      have HQ := Lib.hid (HQ.out.later b11 (Nat.le_refl _))
      have HB := Lib.hid (HB.out.trans (b11.mono HB.out.size))
      clear t9 b9 b10 b11
      refine wp_region_last (is ?c0 :: is (.string (strN L)) :: is ?c2 :: is (.string (strN L)) :: is ?c4 :: is ?c5 :: is ?c6 :: is (.int .i64 x) :: is ?c8 :: is ?c9 :: is ?c10 :: is ?c11 :: is (.agg (pkF fr dt k ep sq A4 m4 c4)) :: is (.agg (pkF fr dt k ep sq A5 m4 c5)) :: is (.bool true) :: is ?c15 :: is ?c16 :: is ?c17 :: is (.int .i64 y) :: is ?c19 :: is ?c20 :: is ?c21 :: is ?c22 :: is ?c23 :: is (.int .i64 x) :: is ?c25 :: is ?c26 :: is ?c27 :: is ?c28 :: is (.agg #[.int .i64 f1, .int .i64 d1, .bool k1, .int .i64 e1, .int .i64 s1, .slice A1 n1 c1]) :: (fun v W => ∃ A9 c9, v = .agg #[.int .i64 f1, .int .i64 d1, .bool k1, .int .i64 e1, .int .i64 s1, .slice A9 n1 c9] ∧ At W A9 (nats .u8 l1)) :: is (.agg #[.int .i64 f2, .int .i64 d2, .bool k2, .int .i64 e2, .int .i64 s2, .slice A2 n2 c2]) :: (fun v W => ∃ A9 c9, v = .agg #[.int .i64 f2, .int .i64 d2, .bool k2, .int .i64 e2, .int .i64 s2, .slice A9 n2 c9] ∧ At W A9 (nats .u8 l2)) :: is (.bool (pkEq f1 d1 k1 e1 s1 l1 f2 d2 k2 e2 s2 l2)) :: is (.agg #[.int .i64 f1, .int .i64 d1, .bool k1, .int .i64 e1, .int .i64 s1, .slice A1 n1 c1]) :: (fun v W => ∃ A9 c9, v = .agg #[.int .i64 f1, .int .i64 d1, .bool k1, .int .i64 e1, .int .i64 s1, .slice A9 n1 c9] ∧ At W A9 (nats .u8 l1)) :: is (.agg #[.int .i64 f2, .int .i64 d2, .bool k2, .int .i64 e2, .int .i64 s2, .slice A2 n2 c2]) :: is (.bool (pkEq f1 d1 k1 e1 s1 l1 f2 d2 k2 e2 s2 l2)) :: is ?c38 :: is ?c39 :: is ?c40 :: is (.bool true) :: is ?c42 :: is ?c43 :: [])
        [⟨[], [7], none⟩, ⟨[(67, 0)], [], none⟩, ⟨[], [9], none⟩, ⟨[(69, 2)], [], none⟩, ⟨[(68, 1), (70, 3)], [], none⟩, ⟨[(71, 4)], [], none⟩, ⟨[(72, 5)], [8], some (72, true)⟩, ⟨[(73, 6), (72, 5)], [], some (72, true)⟩, ⟨[(72, 5)], [10], some (72, true)⟩, ⟨[(74, 7), (75, 8), (72, 5)], [], some (72, true)⟩, ⟨[(72, 5), (76, 9)], [], none⟩, ⟨[(77, 10)], [], none⟩, ⟨[(78, 11)], [11], some (78, true)⟩, ⟨[(78, 11)], [13], some (78, true)⟩, ⟨[(79, 12), (80, 13), (78, 11)], [], some (78, true)⟩, ⟨[(78, 11), (81, 14)], [], none⟩, ⟨[(82, 15)], [], none⟩, ⟨[(83, 16)], [12], some (83, true)⟩, ⟨[(84, 17), (83, 16)], [], some (83, true)⟩, ⟨[(83, 16)], [14], some (83, true)⟩, ⟨[(85, 18), (86, 19), (83, 16)], [], some (83, true)⟩, ⟨[(83, 16), (87, 20)], [], none⟩, ⟨[(88, 21)], [], none⟩, ⟨[(89, 22)], [15], some (89, true)⟩, ⟨[(90, 23), (89, 22)], [], some (89, true)⟩, ⟨[(89, 22)], [10], some (89, true)⟩, ⟨[(91, 24), (92, 25), (89, 22)], [], some (89, true)⟩, ⟨[(89, 22), (93, 26)], [], none⟩, ⟨[(94, 27)], [], none⟩, ⟨[(95, 28)], [3], some (95, true)⟩, ⟨[(96, 29), (95, 28)], [], some (95, true)⟩, ⟨[(95, 28)], [4], some (95, true)⟩, ⟨[(98, 31), (95, 28)], [], some (95, true)⟩, ⟨[(97, 30), (99, 32), (95, 28)], [], some (95, true)⟩, ⟨[(95, 28)], [3], some (95, true)⟩, ⟨[(101, 34), (95, 28)], [], some (95, true)⟩, ⟨[(95, 28)], [4], some (95, true)⟩, ⟨[(102, 35), (103, 36), (95, 28)], [], some (95, true)⟩, ⟨[(100, 33), (104, 37), (95, 28)], [], some (95, true)⟩, ⟨[(95, 28), (105, 38)], [], none⟩, ⟨[(106, 39)], [], none⟩, ⟨[(107, 40)], [], some (107, true)⟩, ⟨[(107, 40), (108, 41)], [], none⟩, ⟨[(109, 42)], [], none⟩] (by kernel_rfl) (by kernel_rfl) (by kernel_rfl) (by kernel_rfl) (by kernel_rfl) ?monoc ?stepsc ?finc
      case monoc => exact ⟨mono_eq _, mono_eq _, mono_eq _, mono_eq _, mono_eq _, mono_eq _, mono_eq _, mono_eq _, mono_eq _, mono_eq _, mono_eq _, mono_eq _, mono_eq _, mono_eq _, mono_eq _, mono_eq _, mono_eq _, mono_eq _, mono_eq _, mono_eq _, mono_eq _, mono_eq _, mono_eq _, mono_eq _, mono_eq _, mono_eq _, mono_eq _, mono_eq _, mono_eq _, mono_eq _, (fun _ _ _ ⟨A3, c3, h1, h2⟩ hb => ⟨A3, c3, h1, h2.later hb (Nat.le_refl _)⟩), mono_eq _, (fun _ _ _ ⟨A3, c3, h1, h2⟩ hb => ⟨A3, c3, h1, h2.later hb (Nat.le_refl _)⟩), mono_eq _, mono_eq _, (fun _ _ _ ⟨A3, c3, h1, h2⟩ hb => ⟨A3, c3, h1, h2.later hb (Nat.le_refl _)⟩), mono_eq _, mono_eq _, mono_eq _, mono_eq _, mono_eq _, mono_eq _, mono_eq _, mono_eq _, trivial⟩
      case stepsc =>
        refine ⟨fun ρ W ⟨hcst, hglb, hfun⟩ hX hp ho => ?_, ?_⟩ -- 0: slot 67 := Op.move t7
        · obtain ⟨o7, -⟩ := ho
          change ρ (.tmp 7) = _ at o7
          refine turn_plain (ok_is ?_ rfl)
          simp only [execOp, o7]; go_simp; try exact rfl
        refine ⟨fun ρ W ⟨hcst, hglb, hfun⟩ hX hp ho => ?_, ?_⟩ -- 1: slot 68 := Op.convert 22 9 t67
        · obtain ⟨p67, -⟩ := hp
          change ρ (.tmp 67) = _ at p67
          have hW := (Below.refl _ _).drew.trans hX
          refine turn_plain ?_
          refine ok_is (by simp only [execOp, p67]; rw [Sem.run_bind, run_str W elt_u8.ht (by kernel_rfl) (by kernel_rfl) HLX.out (TX.out.later hW (Nat.le_refl _))]; rfl) rfl
        refine ⟨fun ρ W ⟨hcst, hglb, hfun⟩ hX hp ho => ?_, ?_⟩ -- 2: slot 69 := Op.move t9
        · obtain ⟨o9, -⟩ := ho
          change ρ (.tmp 9) = _ at o9
          refine turn_plain (ok_is ?_ rfl)
          simp only [execOp, o9]; go_simp; try exact rfl
        refine ⟨fun ρ W ⟨hcst, hglb, hfun⟩ hX hp ho => ?_, ?_⟩ -- 3: slot 70 := Op.convert 22 9 t69
        · obtain ⟨p69, -⟩ := hp
          change ρ (.tmp 69) = _ at p69
          have hW := (Below.refl _ _).drew.trans hX
          refine turn_plain ?_
          refine ok_is (by simp only [execOp, p69]; rw [Sem.run_bind, run_str W elt_u8.ht (by kernel_rfl) (by kernel_rfl) HLX.out (TY.out.later hW (Nat.le_refl _))]; rfl) rfl
        refine ⟨fun ρ W ⟨hcst, hglb, hfun⟩ hX hp ho => ?_, ?_⟩ -- 4: slot 71 := Op.binOp BinOp.eql 9 t68 t70 9
        · obtain ⟨p68, p70, -⟩ := hp
          change ρ (.tmp 68) = _ at p68
          change ρ (.tmp 70) = _ at p70
          refine turn_plain (ok_is ?_ rfl)
          simp only [execOp, p68, p70]; go_simp; try exact rfl
        refine ⟨fun ρ W ⟨hcst, hglb, hfun⟩ hX hp ho => ?_, ?_⟩ -- 5: slot 72 := Op.move t71
        · obtain ⟨p71, -⟩ := hp
          change ρ (.tmp 71) = _ at p71
          refine turn_plain (ok_is ?_ rfl)
          simp only [execOp, p71]; go_simp; try exact rfl
        refine ⟨fun ρ W ⟨hcst, hglb, hfun⟩ hX hp ho => ?_, ?_⟩ -- 6: slot 73 := Op.move t8   [guarded: some (5, true)]
        · obtain ⟨p72, -⟩ := hp
          change ρ (.tmp 72) = _ at p72
          obtain ⟨o8, -⟩ := ho
          change ρ (.tmp 8) = _ at o8
          refine turn_yes p72 (ok_is ?_ rfl)
          simp only [execOp, o8]; go_simp; try exact rfl
        refine ⟨fun ρ W ⟨hcst, hglb, hfun⟩ hX hp ho => ?_, ?_⟩ -- 7: slot 74 := Op.call { value (Operand.func 12), args := #[t73], argTypes := #[27] }   [guarded: some (5
        · obtain ⟨p73, p72, -⟩ := hp
          change ρ (.tmp 73) = _ at p73
          change ρ (.tmp 72) = _ at p72
          have hW := (Below.refl _ _).drew.trans hX
          refine turn_yes p72 ?_
          have ce := @enter_of Tryd.prog 12 _ Tryd.func12 (by kernel_rfl) (by kernel_rfl)
          refine ok_call (op_call1 hfun ce (by exact rfl) p73) ?_
          refine (num_er x W (HG.out.later (HB.out.trans (hW.mono HB.out.size)) (Nat.le_refl _))).mono ?_
          rintro e W' ⟨rfl, bel⟩
          exact ⟨_, rfl, bel, rfl⟩
        refine ⟨fun ρ W ⟨hcst, hglb, hfun⟩ hX hp ho => ?_, ?_⟩ -- 8: slot 75 := Op.move t10   [guarded: some (5, true)]
        · obtain ⟨p72, -⟩ := hp
          change ρ (.tmp 72) = _ at p72
          obtain ⟨o10, -⟩ := ho
          change ρ (.tmp 10) = _ at o10
          refine turn_yes p72 (ok_is ?_ rfl)
          simp only [execOp, o10]; go_simp; try exact rfl
        refine ⟨fun ρ W ⟨hcst, hglb, hfun⟩ hX hp ho => ?_, ?_⟩ -- 9: slot 76 := Op.binOp BinOp.eql 3 t74 t75 3   [guarded: some (5, true)]
        · obtain ⟨p74, p75, p72, -⟩ := hp
          change ρ (.tmp 74) = _ at p74
          change ρ (.tmp 75) = _ at p75
          change ρ (.tmp 72) = _ at p72
          refine turn_yes p72 (ok_is ?_ rfl)
          simp only [execOp, p74, p75]; go_simp; try exact rfl
        refine ⟨fun ρ W ⟨hcst, hglb, hfun⟩ hX hp ho => ?_, ?_⟩ -- 10: slot 77 := Op.pick t72 t76 (const (Value.bool false))
        · obtain ⟨p72, p76, -⟩ := hp
          change ρ (.tmp 72) = _ at p72
          change ρ (.tmp 76) = _ at p76
          refine turn_plain (ok_is ?_ rfl)
          simp only [execOp, hcst, p72, p76]; go_simp; try exact rfl
        refine ⟨fun ρ W ⟨hcst, hglb, hfun⟩ hX hp ho => ?_, ?_⟩ -- 11: slot 78 := Op.move t77
        · obtain ⟨p77, -⟩ := hp
          change ρ (.tmp 77) = _ at p77
          refine turn_plain (ok_is ?_ rfl)
          simp only [execOp, p77]; go_simp; try exact rfl
        refine ⟨fun ρ W ⟨hcst, hglb, hfun⟩ hX hp ho => ?_, ?_⟩ -- 12: slot 79 := Op.load 30 t11   [guarded: some (11, true)]
        · obtain ⟨p78, -⟩ := hp
          change ρ (.tmp 78) = _ at p78
          obtain ⟨o11, -⟩ := ho
          change ρ (.tmp 11) = _ at o11
          have hW := (Below.refl _ _).drew.trans hX
          refine turn_yes p78 ?_
          exact ok_is (exec_load_row 30 (.tmp 11) rfl g11 o11 30 (pkF fr dt k ep sq A4 m4 c4) _ _ (HU.out.later hW (Nat.le_refl _)) pk_under rfl pk_size) rfl
        refine ⟨fun ρ W ⟨hcst, hglb, hfun⟩ hX hp ho => ?_, ?_⟩ -- 13: slot 80 := Op.load 24 t13   [guarded: some (11, true)]
        · obtain ⟨p78, -⟩ := hp
          change ρ (.tmp 78) = _ at p78
          obtain ⟨o13, -⟩ := ho
          change ρ (.tmp 13) = _ at o13
          have hW := (Below.refl _ _).drew.trans hX
          refine turn_yes p78 ?_
          exact ok_is (exec_load_row 24 (.tmp 13) rfl g13 o13 24 (pkF fr dt k ep sq A5 m4 c5) _ _ (HV.out.later hW (Nat.le_refl _)) rk_under rfl rk_size) rfl
        refine ⟨fun ρ W ⟨hcst, hglb, hfun⟩ hX hp ho => ?_, ?_⟩ -- 14: slot 81 := Op.call { value (Operand.func 13), args := #[t79, t80], argTypes := #[30, 24] }   [guarded
        · obtain ⟨p79, p80, p78, -⟩ := hp
          change ρ (.tmp 79) = _ at p79
          change ρ (.tmp 80) = _ at p80
          change ρ (.tmp 78) = _ at p78
          have hW := (Below.refl _ _).drew.trans hX
          refine turn_yes p78 ?_
          have ce := @enter_of Tryd.prog 13 _ Tryd.func13 (by kernel_rfl) (by kernel_rfl)
          refine ok_call (op_call2 hfun ce (by exact rfl) p79 p80) ?_
          refine ((isp_any fr dt k ep sq A4 m4 c4 bd fr dt k ep sq A5 m4 c5 bd W HBD.out HBD.out (TU.out.later hW (Nat.le_refl _)) (TV.out.later hW (Nat.le_refl _)) HBB.out HBB.out)).mono ?_
          rintro e W' ⟨rfl, bel⟩
          exact ⟨_, rfl, bel, by rw [pkEq_self]; rfl⟩
        refine ⟨fun ρ W ⟨hcst, hglb, hfun⟩ hX hp ho => ?_, ?_⟩ -- 15: slot 82 := Op.pick t78 t81 (const (Value.bool false))
        · obtain ⟨p78, p81, -⟩ := hp
          change ρ (.tmp 78) = _ at p78
          change ρ (.tmp 81) = _ at p81
          refine turn_plain (ok_is ?_ rfl)
          simp only [execOp, hcst, p78, p81]; go_simp; try exact rfl
        refine ⟨fun ρ W ⟨hcst, hglb, hfun⟩ hX hp ho => ?_, ?_⟩ -- 16: slot 83 := Op.move t82
        · obtain ⟨p82, -⟩ := hp
          change ρ (.tmp 82) = _ at p82
          refine turn_plain (ok_is ?_ rfl)
          simp only [execOp, p82]; go_simp; try exact rfl
        refine ⟨fun ρ W ⟨hcst, hglb, hfun⟩ hX hp ho => ?_, ?_⟩ -- 17: slot 84 := Op.move t12   [guarded: some (16, true)]
        · obtain ⟨p83, -⟩ := hp
          change ρ (.tmp 83) = _ at p83
          obtain ⟨o12, -⟩ := ho
          change ρ (.tmp 12) = _ at o12
          refine turn_yes p83 (ok_is ?_ rfl)
          simp only [execOp, o12]; go_simp; try exact rfl
        refine ⟨fun ρ W ⟨hcst, hglb, hfun⟩ hX hp ho => ?_, ?_⟩ -- 18: slot 85 := Op.call { value (Operand.func 12), args := #[t84], argTypes := #[27] }   [guarded: some (1
        · obtain ⟨p84, p83, -⟩ := hp
          change ρ (.tmp 84) = _ at p84
          change ρ (.tmp 83) = _ at p83
          have hW := (Below.refl _ _).drew.trans hX
          refine turn_yes p83 ?_
          have ce := @enter_of Tryd.prog 12 _ Tryd.func12 (by kernel_rfl) (by kernel_rfl)
          refine ok_call (op_call1 hfun ce (by exact rfl) p84) ?_
          refine (num_er y W (HG.out.later (HB.out.trans (hW.mono HB.out.size)) (Nat.le_refl _))).mono ?_
          rintro e W' ⟨rfl, bel⟩
          exact ⟨_, rfl, bel, rfl⟩
        refine ⟨fun ρ W ⟨hcst, hglb, hfun⟩ hX hp ho => ?_, ?_⟩ -- 19: slot 86 := Op.move t14   [guarded: some (16, true)]
        · obtain ⟨p83, -⟩ := hp
          change ρ (.tmp 83) = _ at p83
          obtain ⟨o14, -⟩ := ho
          change ρ (.tmp 14) = _ at o14
          refine turn_yes p83 (ok_is ?_ rfl)
          simp only [execOp, o14]; go_simp; try exact rfl
        refine ⟨fun ρ W ⟨hcst, hglb, hfun⟩ hX hp ho => ?_, ?_⟩ -- 20: slot 87 := Op.binOp BinOp.eql 3 t85 t86 3   [guarded: some (16, true)]
        · obtain ⟨p85, p86, p83, -⟩ := hp
          change ρ (.tmp 85) = _ at p85
          change ρ (.tmp 86) = _ at p86
          change ρ (.tmp 83) = _ at p83
          refine turn_yes p83 (ok_is ?_ rfl)
          simp only [execOp, p85, p86]; go_simp; try exact rfl
        refine ⟨fun ρ W ⟨hcst, hglb, hfun⟩ hX hp ho => ?_, ?_⟩ -- 21: slot 88 := Op.pick t83 t87 (const (Value.bool false))
        · obtain ⟨p83, p87, -⟩ := hp
          change ρ (.tmp 83) = _ at p83
          change ρ (.tmp 87) = _ at p87
          refine turn_plain (ok_is ?_ rfl)
          simp only [execOp, hcst, p83, p87]; go_simp; try exact rfl
        refine ⟨fun ρ W ⟨hcst, hglb, hfun⟩ hX hp ho => ?_, ?_⟩ -- 22: slot 89 := Op.move t88
        · obtain ⟨p88, -⟩ := hp
          change ρ (.tmp 88) = _ at p88
          refine turn_plain (ok_is ?_ rfl)
          simp only [execOp, p88]; go_simp; try exact rfl
        refine ⟨fun ρ W ⟨hcst, hglb, hfun⟩ hX hp ho => ?_, ?_⟩ -- 23: slot 90 := Op.move t15   [guarded: some (22, true)]
        · obtain ⟨p89, -⟩ := hp
          change ρ (.tmp 89) = _ at p89
          obtain ⟨o15, -⟩ := ho
          change ρ (.tmp 15) = _ at o15
          refine turn_yes p89 (ok_is ?_ rfl)
          simp only [execOp, o15]; go_simp; try exact rfl
        refine ⟨fun ρ W ⟨hcst, hglb, hfun⟩ hX hp ho => ?_, ?_⟩ -- 24: slot 91 := Op.call { value (Operand.func 12), args := #[t90], argTypes := #[27] }   [guarded: some (2
        · obtain ⟨p90, p89, -⟩ := hp
          change ρ (.tmp 90) = _ at p90
          change ρ (.tmp 89) = _ at p89
          have hW := (Below.refl _ _).drew.trans hX
          refine turn_yes p89 ?_
          have ce := @enter_of Tryd.prog 12 _ Tryd.func12 (by kernel_rfl) (by kernel_rfl)
          refine ok_call (op_call1 hfun ce (by exact rfl) p90) ?_
          refine (num_er x W (HG.out.later (HB.out.trans (hW.mono HB.out.size)) (Nat.le_refl _))).mono ?_
          rintro e W' ⟨rfl, bel⟩
          exact ⟨_, rfl, bel, rfl⟩
        refine ⟨fun ρ W ⟨hcst, hglb, hfun⟩ hX hp ho => ?_, ?_⟩ -- 25: slot 92 := Op.move t10   [guarded: some (22, true)]
        · obtain ⟨p89, -⟩ := hp
          change ρ (.tmp 89) = _ at p89
          obtain ⟨o10, -⟩ := ho
          change ρ (.tmp 10) = _ at o10
          refine turn_yes p89 (ok_is ?_ rfl)
          simp only [execOp, o10]; go_simp; try exact rfl
        refine ⟨fun ρ W ⟨hcst, hglb, hfun⟩ hX hp ho => ?_, ?_⟩ -- 26: slot 93 := Op.binOp BinOp.eql 3 t91 t92 3   [guarded: some (22, true)]
        · obtain ⟨p91, p92, p89, -⟩ := hp
          change ρ (.tmp 91) = _ at p91
          change ρ (.tmp 92) = _ at p92
          change ρ (.tmp 89) = _ at p89
          refine turn_yes p89 (ok_is ?_ rfl)
          simp only [execOp, p91, p92]; go_simp; try exact rfl
        refine ⟨fun ρ W ⟨hcst, hglb, hfun⟩ hX hp ho => ?_, ?_⟩ -- 27: slot 94 := Op.pick t89 t93 (const (Value.bool false))
        · obtain ⟨p89, p93, -⟩ := hp
          change ρ (.tmp 89) = _ at p89
          change ρ (.tmp 93) = _ at p93
          refine turn_plain (ok_is ?_ rfl)
          simp only [execOp, hcst, p89, p93]; go_simp; try exact rfl
        refine ⟨fun ρ W ⟨hcst, hglb, hfun⟩ hX hp ho => ?_, ?_⟩ -- 28: slot 95 := Op.move t94
        · obtain ⟨p94, -⟩ := hp
          change ρ (.tmp 94) = _ at p94
          refine turn_plain (ok_is ?_ rfl)
          simp only [execOp, p94]; go_simp; try exact rfl
        refine ⟨fun ρ W ⟨hcst, hglb, hfun⟩ hX hp ho => ?_, ?_⟩ -- 29: slot 96 := Op.load 24 t3   [guarded: some (28, true)]
        · obtain ⟨p95, -⟩ := hp
          change ρ (.tmp 95) = _ at p95
          obtain ⟨o3, -⟩ := ho
          change ρ (.tmp 3) = _ at o3
          have hW := (Below.refl _ _).drew.trans hX
          refine turn_yes p95 ?_
          exact ok_is (exec_load_row 24 (.tmp 3) rfl g1 o3 24 #[.int .i64 f1, .int .i64 d1, .bool k1, .int .i64 e1, .int .i64 s1, .slice A1 n1 c1] _ _ (HP.out.later hW (Nat.le_refl _)) rk_under rfl rk_size) rfl
        refine ⟨fun ρ W ⟨hcst, hglb, hfun⟩ hX hp ho => ?_, ?_⟩ -- 30: slot 97 := Op.call { value (Operand.func 7), args := #[t96], argTypes := #[24] }   [guarded: some (28
        · obtain ⟨p96, p95, -⟩ := hp
          change ρ (.tmp 96) = _ at p96
          change ρ (.tmp 95) = _ at p95
          have hW := (Below.refl _ _).drew.trans hX
          refine turn_yes p95 ?_
          have ce := @enter_of Tryd.prog 7 _ Tryd.func7 (by kernel_rfl) (by kernel_rfl)
          refine ok_call (op_call1 hfun ce (by exact rfl) p96) ?_
          refine (give_any f1 d1 k1 e1 s1 A1 n1 c1 l1 W HL1.out hn1 (HA1.out.later (HB.out.trans (hW.mono HB.out.size)) (Nat.le_refl _))).mono ?_
          rintro e W' ⟨A9, c9, rfl, hat, bel⟩
          exact ⟨_, rfl, bel, A9, c9, rfl, hat⟩
        refine ⟨fun ρ W ⟨hcst, hglb, hfun⟩ hX hp ho => ?_, ?_⟩ -- 31: slot 98 := Op.load 24 t4   [guarded: some (28, true)]
        · obtain ⟨p95, -⟩ := hp
          change ρ (.tmp 95) = _ at p95
          obtain ⟨o4, -⟩ := ho
          change ρ (.tmp 4) = _ at o4
          have hW := (Below.refl _ _).drew.trans hX
          refine turn_yes p95 ?_
          exact ok_is (exec_load_row 24 (.tmp 4) rfl g2 o4 24 #[.int .i64 f2, .int .i64 d2, .bool k2, .int .i64 e2, .int .i64 s2, .slice A2 n2 c2] _ _ (HQ.out.later hW (Nat.le_refl _)) rk_under rfl rk_size) rfl
        refine ⟨fun ρ W ⟨hcst, hglb, hfun⟩ hX hp ho => ?_, ?_⟩ -- 32: slot 99 := Op.call { value (Operand.func 7), args := #[t98], argTypes := #[24] }   [guarded: some (28
        · obtain ⟨p98, p95, -⟩ := hp
          change ρ (.tmp 98) = _ at p98
          change ρ (.tmp 95) = _ at p95
          have hW := (Below.refl _ _).drew.trans hX
          refine turn_yes p95 ?_
          have ce := @enter_of Tryd.prog 7 _ Tryd.func7 (by kernel_rfl) (by kernel_rfl)
          refine ok_call (op_call1 hfun ce (by exact rfl) p98) ?_
          refine (give_any f2 d2 k2 e2 s2 A2 n2 c2 l2 W HL2.out hn2 (HA2.out.later (HB.out.trans (hW.mono HB.out.size)) (Nat.le_refl _))).mono ?_
          rintro e W' ⟨A9, c9, rfl, hat, bel⟩
          exact ⟨_, rfl, bel, A9, c9, rfl, hat⟩
        refine ⟨fun ρ W ⟨hcst, hglb, hfun⟩ hX hp ho => ?_, ?_⟩ -- 33: slot 100 := Op.call { value (Operand.func 14), args := #[t97, t99], argTypes := #[30, 30] }   [guarded
        · obtain ⟨p97, p99, p95, -⟩ := hp
          obtain ⟨A97, c97, p97, hat97⟩ := p97
          change ρ (.tmp 97) = _ at p97
          obtain ⟨A99, c99, p99, hat99⟩ := p99
          change ρ (.tmp 99) = _ at p99
          change ρ (.tmp 95) = _ at p95
          have hW := (Below.refl _ _).drew.trans hX
          refine turn_yes p95 ?_
          have ce := @enter_of Tryd.prog 14 _ Tryd.func14 (by kernel_rfl) (by kernel_rfl)
          refine ok_call (op_call2 hfun ce (by exact rfl) p97 p99) ?_
          refine (same_any f1 d1 k1 e1 s1 A97 n1 c97 l1 f2 d2 k2 e2 s2 A99 n2 c99 l2 W HL1.out HL2.out hat97 hat99 HY1.out HY2.out).mono ?_
          rintro e W' ⟨rfl, bel⟩
          exact ⟨_, rfl, bel, rfl⟩
        refine ⟨fun ρ W ⟨hcst, hglb, hfun⟩ hX hp ho => ?_, ?_⟩ -- 34: slot 101 := Op.load 24 t3   [guarded: some (28, true)]
        · obtain ⟨p95, -⟩ := hp
          change ρ (.tmp 95) = _ at p95
          obtain ⟨o3, -⟩ := ho
          change ρ (.tmp 3) = _ at o3
          have hW := (Below.refl _ _).drew.trans hX
          refine turn_yes p95 ?_
          exact ok_is (exec_load_row 24 (.tmp 3) rfl g1 o3 24 #[.int .i64 f1, .int .i64 d1, .bool k1, .int .i64 e1, .int .i64 s1, .slice A1 n1 c1] _ _ (HP.out.later hW (Nat.le_refl _)) rk_under rfl rk_size) rfl
        refine ⟨fun ρ W ⟨hcst, hglb, hfun⟩ hX hp ho => ?_, ?_⟩ -- 35: slot 102 := Op.call { value (Operand.func 7), args := #[t101], argTypes := #[24] }   [guarded: some (2
        · obtain ⟨p101, p95, -⟩ := hp
          change ρ (.tmp 101) = _ at p101
          change ρ (.tmp 95) = _ at p95
          have hW := (Below.refl _ _).drew.trans hX
          refine turn_yes p95 ?_
          have ce := @enter_of Tryd.prog 7 _ Tryd.func7 (by kernel_rfl) (by kernel_rfl)
          refine ok_call (op_call1 hfun ce (by exact rfl) p101) ?_
          refine (give_any f1 d1 k1 e1 s1 A1 n1 c1 l1 W HL1.out hn1 (HA1.out.later (HB.out.trans (hW.mono HB.out.size)) (Nat.le_refl _))).mono ?_
          rintro e W' ⟨A9, c9, rfl, hat, bel⟩
          exact ⟨_, rfl, bel, A9, c9, rfl, hat⟩
        refine ⟨fun ρ W ⟨hcst, hglb, hfun⟩ hX hp ho => ?_, ?_⟩ -- 36: slot 103 := Op.load 24 t4   [guarded: some (28, true)]
        · obtain ⟨p95, -⟩ := hp
          change ρ (.tmp 95) = _ at p95
          obtain ⟨o4, -⟩ := ho
          change ρ (.tmp 4) = _ at o4
          have hW := (Below.refl _ _).drew.trans hX
          refine turn_yes p95 ?_
          exact ok_is (exec_load_row 24 (.tmp 4) rfl g2 o4 24 #[.int .i64 f2, .int .i64 d2, .bool k2, .int .i64 e2, .int .i64 s2, .slice A2 n2 c2] _ _ (HQ.out.later hW (Nat.le_refl _)) rk_under rfl rk_size) rfl
        refine ⟨fun ρ W ⟨hcst, hglb, hfun⟩ hX hp ho => ?_, ?_⟩ -- 37: slot 104 := Op.call { value (Operand.func 13), args := #[t102, t103], argTypes := #[30, 24] }   [guard
        · obtain ⟨p102, p103, p95, -⟩ := hp
          obtain ⟨A102, c102, p102, hat102⟩ := p102
          change ρ (.tmp 102) = _ at p102
          change ρ (.tmp 103) = _ at p103
          change ρ (.tmp 95) = _ at p95
          have hW := (Below.refl _ _).drew.trans hX
          refine turn_yes p95 ?_
          have ce := @enter_of Tryd.prog 13 _ Tryd.func13 (by kernel_rfl) (by kernel_rfl)
          refine ok_call (op_call2 hfun ce (by exact rfl) p102 p103) ?_
          refine (isp_any f1 d1 k1 e1 s1 A102 n1 c102 l1 f2 d2 k2 e2 s2 A2 n2 c2 l2 W HL1.out HL2.out hat102 (HA2.out.later (HB.out.trans (hW.mono HB.out.size)) (Nat.le_refl _)) HY1.out HY2.out).mono ?_
          rintro e W' ⟨rfl, bel⟩
          exact ⟨_, rfl, bel, rfl⟩
        refine ⟨fun ρ W ⟨hcst, hglb, hfun⟩ hX hp ho => ?_, ?_⟩ -- 38: slot 105 := Op.binOp BinOp.eql 4 t100 t104 4   [guarded: some (28, true)]
        · obtain ⟨p100, p104, p95, -⟩ := hp
          change ρ (.tmp 100) = _ at p100
          change ρ (.tmp 104) = _ at p104
          change ρ (.tmp 95) = _ at p95
          refine turn_yes p95 (ok_is ?_ rfl)
          simp only [execOp, p100, p104]; go_simp; try exact rfl
        refine ⟨fun ρ W ⟨hcst, hglb, hfun⟩ hX hp ho => ?_, ?_⟩ -- 39: slot 106 := Op.pick t95 t105 (const (Value.bool false))
        · obtain ⟨p95, p105, -⟩ := hp
          change ρ (.tmp 95) = _ at p95
          change ρ (.tmp 105) = _ at p105
          refine turn_plain (ok_is ?_ rfl)
          simp only [execOp, hcst, p95, p105]; go_simp; try exact rfl
        refine ⟨fun ρ W ⟨hcst, hglb, hfun⟩ hX hp ho => ?_, ?_⟩ -- 40: slot 107 := Op.move t106
        · obtain ⟨p106, -⟩ := hp
          change ρ (.tmp 106) = _ at p106
          refine turn_plain (ok_is ?_ rfl)
          simp only [execOp, p106]; go_simp; try exact rfl
        refine ⟨fun ρ W ⟨hcst, hglb, hfun⟩ hX hp ho => ?_, ?_⟩ -- 41: slot 108 := Op.call { value (Operand.func 5), args := #[], argTypes := #[] }   [guarded: some (40, tru
        · obtain ⟨p107, -⟩ := hp
          change ρ (.tmp 107) = _ at p107
          have hW := (Below.refl _ _).drew.trans hX
          refine turn_yes p107 ?_
          have ce := @enter_of Tryd.prog 5 _ Tryd.func5 (by kernel_rfl) (by kernel_rfl)
          refine ok_call (op_call0 hfun ce (by exact rfl) ) ?_
          refine (sure14 W (HG.out.later (HB.out.trans (hW.mono HB.out.size)) (Nat.le_refl _))).mono ?_
          rintro e W' ⟨rfl, bel⟩
          exact ⟨_, rfl, bel, rfl⟩
        refine ⟨fun ρ W ⟨hcst, hglb, hfun⟩ hX hp ho => ?_, ?_⟩ -- 42: slot 109 := Op.pick t107 t108 (const (Value.bool false))
        · obtain ⟨p107, p108, -⟩ := hp
          change ρ (.tmp 107) = _ at p107
          change ρ (.tmp 108) = _ at p108
          refine turn_plain (ok_is ?_ rfl)
          simp only [execOp, hcst, p107, p108]; go_simp; try exact rfl
        refine ⟨fun ρ W ⟨hcst, hglb, hfun⟩ hX hp ho => ?_, ?_⟩ -- 43: slot 6 := Op.assign t109
        · obtain ⟨p109, -⟩ := hp
          change ρ (.tmp 109) = _ at p109
          refine turn_plain (ok_is ?_ rfl)
          simp only [execOp, p109]; go_simp; try exact rfl
        exact trivial
      case finc =>
        intro a W hX hsz hdf hold hR
        have hv := hR 43 6 rfl
        change a.tmps.getD 6 undef = _ at hv
        clear hold hR hsz
        go_wp2_with fail
        exact post_letter rfl hv hdf ⟨rfl, HB.out.trans (hX.mono HB.out.size)⟩
    · skip
      have z1 : decide ((900 : Int) < n1) = true := decide_eq_true (by omega)
      have z2 : decide ((n1 : Int) ≤ 8192) = false := decide_eq_false (by omega)
      have z3 : decide ((900 : Int) < n2) = false := decide_eq_false (by omega)
      have z4 : decide ((900 : Int) < n3) = false := decide_eq_false (by omega)
      clear h1 h3 h4 hh2 hh5
      go_enter Tryd.func3, Tryd.ntmps3
      go_upto_region 3 with fail
      have HP := Lib.hid ((Holds.new w 24 #[.int .i64 f1, .int .i64 d1, .bool k1, .int .i64 e1, .int .i64 s1, .slice A1 n1 c1] w.heap.size rfl).alloc (.cells #[.int .i64 f2, .int .i64 d2, .bool k2, .int .i64 e2, .int .i64 s2, .slice A2 n2 c2] 24))
      have HQ := Lib.hid (Holds.new (w.alloc (.cells #[.int .i64 f1, .int .i64 d1, .bool k1, .int .i64 e1, .int .i64 s1, .slice A1 n1 c1] 24)) 24 #[.int .i64 f2, .int .i64 d2, .bool k2, .int .i64 e2, .int .i64 s2, .slice A2 n2 c2] (w.heap.size + 1) (by simp))
      have HB := Lib.hid (((Below.refl w.heap.size w).alloc (Nat.le_refl _) (.cells #[.int .i64 f1, .int .i64 d1, .bool k1, .int .i64 e1, .int .i64 s1, .slice A1 n1 c1] 24)).alloc (by simp) (.cells #[.int .i64 f2, .int .i64 d2, .bool k2, .int .i64 e2, .int .i64 s2, .slice A2 n2 c2] 24))
      change Code.wp _ _ _ _ ((w.alloc (.cells #[.int .i64 f1, .int .i64 d1, .bool k1, .int .i64 e1, .int .i64 s1, .slice A1 n1 c1] 24)).alloc (.cells #[.int .i64 f2, .int .i64 d2, .bool k2, .int .i64 e2, .int .i64 s2, .slice A2 n2 c2] 24))
      generalize (w.alloc (.cells #[.int .i64 f1, .int .i64 d1, .bool k1, .int .i64 e1, .int .i64 s1, .slice A1 n1 c1] 24)).alloc (.cells #[.int .i64 f2, .int .i64 d2, .bool k2, .int .i64 e2, .int .i64 s2, .slice A2 n2 c2] 24) = w0 at *
      obtain ⟨g2, hg2⟩ : ∃ g2, w.heap.size + 1 = g2 := ⟨_, rfl⟩
      rw [hg2] at HQ ⊢
      clear hg2
      obtain ⟨g1, hg1⟩ : ∃ g1, w.heap.size = g1 := ⟨_, rfl⟩
      rw [hg1] at HP ⊢
      clear hg1
      go_upto_region 4 with (first
        | (refine wpList_load_row rfl 24 (.tmp 3) rfl g1 rfl _ #[.int .i64 f1, .int .i64 d1, .bool k1, .int .i64 e1, .int .i64 s1, .slice A1 n1 c1] _ _ HP.out rk_under rfl rk_size ?_)
        | (go_at_call 7; refine (give_any f1 d1 k1 e1 s1 A1 n1 c1 l1 w0 HL1.out hn1 (HA1.out.later HB.out (Nat.le_refl _))).mono ?_; rintro e w1 ⟨A9, c9, rfl, t9, b9⟩; have T9 := Lib.hid t9; have HP := Lib.hid (HP.out.later b9 (Nat.le_refl _)); have HQ := Lib.hid (HQ.out.later b9 (Nat.le_refl _)); have HB := Lib.hid (HB.out.trans (b9.mono HB.out.size)); clear t9 b9)
        | (go_at_call 6; have Q := enc_any f1 d1 k1 e1 s1 A9 n1 c9 l1 w1 HL1.out T9.out; obtain ⟨L, hL⟩ : ∃ L, encL f1 d1 k1 e1 s1 l1 = L := ⟨_, rfl⟩; obtain ⟨x, hx⟩ : ∃ x, encX f1 d1 k1 e1 s1 l1.length = x := ⟨_, rfl⟩; rw [hL, hx] at Q; obtain ⟨nl, hnl⟩ : ∃ nl, L.length = nl := ⟨_, rfl⟩; unfold EncR at Q; rw [hnl] at Q; have EL := Lib.hid hL; have EX := Lib.hid hx; have HLX := Lib.hid hnl; clear hL hx hnl; refine Q.mono ?_; clear Q; rintro e w2 ⟨Ax, cx, rfl, ox, bx⟩; have TX := Lib.hid ox.at_; have HP := Lib.hid (HP.out.later bx (Nat.le_refl _)); have HQ := Lib.hid (HQ.out.later bx (Nat.le_refl _)); have HB := Lib.hid (HB.out.trans (bx.mono HB.out.size)); clear ox bx T9))
      go_upto_region 5 with (first
        | (refine wpList_load_row rfl 24 (.tmp 3) rfl g1 rfl _ #[.int .i64 f1, .int .i64 d1, .bool k1, .int .i64 e1, .int .i64 s1, .slice A1 n1 c1] _ _ HP.out rk_under rfl rk_size ?_)
        | (go_at_call 8; have Q := enck_any f1 d1 k1 e1 s1 A1 n1 c1 l1 w2 HL1.out (HA1.out.later HB.out (Nat.le_refl _)) (all_of_getD HY1.out) HN9.out; rw [EL.out, EX.out] at Q; unfold EncR at Q; rw [HLX.out] at Q; refine Q.mono ?_; clear Q; rintro e w3 ⟨Ay, cy, rfl, oy, bx⟩; have TY := Lib.hid oy.at_; have TX := Lib.hid (TX.out.later bx (Nat.le_refl _)); have HP := Lib.hid (HP.out.later bx (Nat.le_refl _)); have HQ := Lib.hid (HQ.out.later bx (Nat.le_refl _)); have HB := Lib.hid (HB.out.trans (bx.mono HB.out.size)); clear oy bx))
      go_wp2_with fail
      have hb3 := all_of_getD HY3.out
      with_reducible refine (dec_any A3 n3 c3 l3 w3 HL3.out HN3.out HC3.out (HA3.out.later HB.out (Nat.le_refl _)) hb3).mono ?_
      rintro e w4 ⟨fr, dt, k, ep, sq, bd, y, A4, c4, he, t4, b4, hd⟩
      obtain ⟨m4, hm4⟩ : ∃ m4, bd.length = m4 := ⟨_, rfl⟩
      rw [hm4] at he
      subst he
      have HBD := Lib.hid hm4
      have HBB := Lib.hid (fun i => getD_of_all (m := 255) (hd.byte hb3) i)
      have HD := Lib.hid hd
      have TU := Lib.hid t4
      have TX := Lib.hid (TX.out.later b4 (Nat.le_refl _))
      have TY := Lib.hid (TY.out.later b4 (Nat.le_refl _))
      have HP := Lib.hid (HP.out.later b4 (Nat.le_refl _))
      have HQ := Lib.hid (HQ.out.later b4 (Nat.le_refl _))
      have HB := Lib.hid (HB.out.trans (b4.mono HB.out.size))
      clear t4 b4 hd hm4
      unfold pkF
      go_upto_region 6 with fail
      have NP := (Below.refl w4.heap.size w4).alloc (Nat.le_refl _) (.cells #[.int .i64 (fr : Nat), .int .i64 (dt : Nat), .bool k, .int .i64 (ep : Nat), .int .i64 (sq : Nat), .slice A4 m4 c4] 30)
      have HU := Lib.hid (show Holds (w4.alloc (.cells #[.int .i64 (fr : Nat), .int .i64 (dt : Nat), .bool k, .int .i64 (ep : Nat), .int .i64 (sq : Nat), .slice A4 m4 c4] 30)) w4.heap.size 30 (pkF fr dt k ep sq A4 m4 c4) from Holds.new w4 30 _ w4.heap.size rfl)
      have TU := Lib.hid (TU.out.later NP (Nat.le_refl _))
      have TX := Lib.hid (TX.out.later NP (Nat.le_refl _))
      have TY := Lib.hid (TY.out.later NP (Nat.le_refl _))
      have HP := Lib.hid (HP.out.later NP (Nat.le_refl _))
      have HQ := Lib.hid (HQ.out.later NP (Nat.le_refl _))
      have HB := Lib.hid (HB.out.trans (NP.mono HB.out.size))
      clear NP
      generalize w4.heap.size = g11 at *
      generalize w4.alloc (.cells #[.int .i64 (fr : Nat), .int .i64 (dt : Nat), .bool k, .int .i64 (ep : Nat), .int .i64 (sq : Nat), .slice A4 m4 c4] 30) = w5 at *
      go_wp2_with fail
      with_reducible refine (deck_any A3 n3 c3 l3 w5 HL3.out HN3.out HC3.out (HA3.out.later HB.out (Nat.le_refl _)) hb3 HM9.out).mono ?_
      rintro e w6 ⟨fr2, dt2, j2, ep2, sq2, bd2, y2, A5, c5, he, t4, b4, hd⟩
      obtain ⟨rfl, rfl, rfl, rfl, rfl, rfl, rfl⟩ := HD.out.uniq hd
      rw [HBD.out] at he
      subst he
      have TV := Lib.hid t4
      have TU := Lib.hid (TU.out.later b4 (Nat.le_refl _))
      have TX := Lib.hid (TX.out.later b4 (Nat.le_refl _))
      have TY := Lib.hid (TY.out.later b4 (Nat.le_refl _))
      have HU := Lib.hid (HU.out.later b4 (Nat.le_refl _))
      have HP := Lib.hid (HP.out.later b4 (Nat.le_refl _))
      have HQ := Lib.hid (HQ.out.later b4 (Nat.le_refl _))
      have HB := Lib.hid (HB.out.trans (b4.mono HB.out.size))
      clear t4 b4 hd hb3
      unfold pkF
      go_upto_region 7 with fail
      have NP := (Below.refl w6.heap.size w6).alloc (Nat.le_refl _) (.cells #[.int .i64 (fr : Nat), .int .i64 (dt : Nat), .bool k, .int .i64 (ep : Nat), .int .i64 (sq : Nat), .slice A5 m4 c5] 24)
      have HV := Lib.hid (show Holds (w6.alloc (.cells #[.int .i64 (fr : Nat), .int .i64 (dt : Nat), .bool k, .int .i64 (ep : Nat), .int .i64 (sq : Nat), .slice A5 m4 c5] 24)) w6.heap.size 24 (pkF fr dt k ep sq A5 m4 c5) from Holds.new w6 24 _ w6.heap.size rfl)
      have TV := Lib.hid (TV.out.later NP (Nat.le_refl _))
      have TU := Lib.hid (TU.out.later NP (Nat.le_refl _))
      have TX := Lib.hid (TX.out.later NP (Nat.le_refl _))
      have TY := Lib.hid (TY.out.later NP (Nat.le_refl _))
      have HU := Lib.hid (HU.out.later NP (Nat.le_refl _))
      have HP := Lib.hid (HP.out.later NP (Nat.le_refl _))
      have HQ := Lib.hid (HQ.out.later NP (Nat.le_refl _))
      have HB := Lib.hid (HB.out.trans (NP.mono HB.out.size))
      clear NP
      generalize w6.heap.size = g13 at *
      generalize w6.alloc (.cells #[.int .i64 (fr : Nat), .int .i64 (dt : Nat), .bool k, .int .i64 (ep : Nat), .int .i64 (sq : Nat), .slice A5 m4 c5] 24) = w7 at *
      go_upto_region 8 with (first
        | (refine wpList_load_row rfl 24 (.tmp 3) rfl g1 rfl _ #[.int .i64 f1, .int .i64 d1, .bool k1, .int .i64 e1, .int .i64 s1, .slice A1 n1 c1] _ _ HP.out rk_under rfl rk_size ?_)
        | (go_at_call 7; refine (give_any f1 d1 k1 e1 s1 A1 n1 c1 l1 w7 HL1.out hn1 (HA1.out.later HB.out (Nat.le_refl _))).mono ?_; rintro e w8 ⟨A9, c9, rfl, t9, b9⟩)
        | (go_at_call 11; have Q := chk_any f1 d1 k1 e1 s1 A9 n1 c9 w8; rw [← HL1.out, EX.out] at Q; rw [HL1.out] at Q; refine Q.mono ?_; clear Q; rintro e w9 ⟨rfl, b10⟩))
      have b11 := b9.trans (b10.mono b9.size)
      have TV := Lib.hid (TV.out.later b11 (Nat.le_refl _))
      have TU := Lib.hid (TU.out.later b11 (Nat.le_refl _))
      have TX := Lib.hid (TX.out.later b11 (Nat.le_refl _))
      have TY := Lib.hid (TY.out.later b11 (Nat.le_refl _))
      have HU := Lib.hid (HU.out.later b11 (Nat.le_refl _))
      have HV := Lib.hid (HV.out.later b11 (Nat.le_refl _))
      have HP := Lib.hid (HP.out.later b11 (Nat.le_refl _))
      have HQ := Lib.hid (HQ.out.later b11 (Nat.le_refl _))
      have HB := Lib.hid (HB.out.trans (b11.mono HB.out.size))
      clear t9 b9 b10 b11
      refine wp_region_last (is ?b0 :: is (.string (strN L)) :: is ?b2 :: is (.string (strN L)) :: is ?b4 :: is ?b5 :: is ?b6 :: is (.int .i64 x) :: is ?b8 :: is ?b9 :: is ?b10 :: is ?b11 :: is (.agg (pkF fr dt k ep sq A4 m4 c4)) :: is (.agg (pkF fr dt k ep sq A5 m4 c5)) :: is (.bool true) :: is ?b15 :: is ?b16 :: is ?b17 :: is (.int .i64 y) :: is ?b19 :: is ?b20 :: is ?b21 :: is ?b22 :: is ?b23 :: is (.int .i64 x) :: is ?b25 :: is ?b26 :: is ?b27 :: is ?b28 :: is (.agg #[.int .i64 f1, .int .i64 d1, .bool k1, .int .i64 e1, .int .i64 s1, .slice A1 n1 c1]) :: (fun v W => ∃ A9 c9, v = .agg #[.int .i64 f1, .int .i64 d1, .bool k1, .int .i64 e1, .int .i64 s1, .slice A9 n1 c9] ∧ At W A9 (nats .u8 l1)) :: is (.agg #[.int .i64 f2, .int .i64 d2, .bool k2, .int .i64 e2, .int .i64 s2, .slice A2 n2 c2]) :: (fun v W => ∃ A9 c9, v = .agg #[.int .i64 f2, .int .i64 d2, .bool k2, .int .i64 e2, .int .i64 s2, .slice A9 n2 c9] ∧ At W A9 (nats .u8 l2)) :: is (.bool (pkEq f1 d1 k1 e1 s1 l1 f2 d2 k2 e2 s2 l2)) :: is (.agg #[.int .i64 f1, .int .i64 d1, .bool k1, .int .i64 e1, .int .i64 s1, .slice A1 n1 c1]) :: (fun v W => ∃ A9 c9, v = .agg #[.int .i64 f1, .int .i64 d1, .bool k1, .int .i64 e1, .int .i64 s1, .slice A9 n1 c9] ∧ At W A9 (nats .u8 l1)) :: is (.agg #[.int .i64 f2, .int .i64 d2, .bool k2, .int .i64 e2, .int .i64 s2, .slice A2 n2 c2]) :: is (.bool (pkEq f1 d1 k1 e1 s1 l1 f2 d2 k2 e2 s2 l2)) :: is ?b38 :: is ?b39 :: is ?b40 :: is (.bool true) :: is ?b42 :: is ?b43 :: [])
        [⟨[], [7], none⟩, ⟨[(67, 0)], [], none⟩, ⟨[], [9], none⟩, ⟨[(69, 2)], [], none⟩, ⟨[(68, 1), (70, 3)], [], none⟩, ⟨[(71, 4)], [], none⟩, ⟨[(72, 5)], [8], some (72, true)⟩, ⟨[(73, 6), (72, 5)], [], some (72, true)⟩, ⟨[(72, 5)], [10], some (72, true)⟩, ⟨[(74, 7), (75, 8), (72, 5)], [], some (72, true)⟩, ⟨[(72, 5), (76, 9)], [], none⟩, ⟨[(77, 10)], [], none⟩, ⟨[(78, 11)], [11], some (78, true)⟩, ⟨[(78, 11)], [13], some (78, true)⟩, ⟨[(79, 12), (80, 13), (78, 11)], [], some (78, true)⟩, ⟨[(78, 11), (81, 14)], [], none⟩, ⟨[(82, 15)], [], none⟩, ⟨[(83, 16)], [12], some (83, true)⟩, ⟨[(84, 17), (83, 16)], [], some (83, true)⟩, ⟨[(83, 16)], [14], some (83, true)⟩, ⟨[(85, 18), (86, 19), (83, 16)], [], some (83, true)⟩, ⟨[(83, 16), (87, 20)], [], none⟩, ⟨[(88, 21)], [], none⟩, ⟨[(89, 22)], [15], some (89, true)⟩, ⟨[(90, 23), (89, 22)], [], some (89, true)⟩, ⟨[(89, 22)], [10], some (89, true)⟩, ⟨[(91, 24), (92, 25), (89, 22)], [], some (89, true)⟩, ⟨[(89, 22), (93, 26)], [], none⟩, ⟨[(94, 27)], [], none⟩, ⟨[(95, 28)], [3], some (95, true)⟩, ⟨[(96, 29), (95, 28)], [], some (95, true)⟩, ⟨[(95, 28)], [4], some (95, true)⟩, ⟨[(98, 31), (95, 28)], [], some (95, true)⟩, ⟨[(97, 30), (99, 32), (95, 28)], [], some (95, true)⟩, ⟨[(95, 28)], [3], some (95, true)⟩, ⟨[(101, 34), (95, 28)], [], some (95, true)⟩, ⟨[(95, 28)], [4], some (95, true)⟩, ⟨[(102, 35), (103, 36), (95, 28)], [], some (95, true)⟩, ⟨[(100, 33), (104, 37), (95, 28)], [], some (95, true)⟩, ⟨[(95, 28), (105, 38)], [], none⟩, ⟨[(106, 39)], [], none⟩, ⟨[(107, 40)], [], some (107, true)⟩, ⟨[(107, 40), (108, 41)], [], none⟩, ⟨[(109, 42)], [], none⟩] (by kernel_rfl) (by kernel_rfl) (by kernel_rfl) (by kernel_rfl) (by kernel_rfl) ?monob ?stepsb ?finb
      case monob => exact ⟨mono_eq _, mono_eq _, mono_eq _, mono_eq _, mono_eq _, mono_eq _, mono_eq _, mono_eq _, mono_eq _, mono_eq _, mono_eq _, mono_eq _, mono_eq _, mono_eq _, mono_eq _, mono_eq _, mono_eq _, mono_eq _, mono_eq _, mono_eq _, mono_eq _, mono_eq _, mono_eq _, mono_eq _, mono_eq _, mono_eq _, mono_eq _, mono_eq _, mono_eq _, mono_eq _, (fun _ _ _ ⟨A3, c3, h1, h2⟩ hb => ⟨A3, c3, h1, h2.later hb (Nat.le_refl _)⟩), mono_eq _, (fun _ _ _ ⟨A3, c3, h1, h2⟩ hb => ⟨A3, c3, h1, h2.later hb (Nat.le_refl _)⟩), mono_eq _, mono_eq _, (fun _ _ _ ⟨A3, c3, h1, h2⟩ hb => ⟨A3, c3, h1, h2.later hb (Nat.le_refl _)⟩), mono_eq _, mono_eq _, mono_eq _, mono_eq _, mono_eq _, mono_eq _, mono_eq _, mono_eq _, trivial⟩
      case stepsb =>
        refine ⟨fun ρ W ⟨hcst, hglb, hfun⟩ hX hp ho => ?_, ?_⟩ -- 0: slot 67 := Op.move t7
        · obtain ⟨o7, -⟩ := ho
          change ρ (.tmp 7) = _ at o7
          refine turn_plain (ok_is ?_ rfl)
          simp only [execOp, o7]; go_simp; try exact rfl
        refine ⟨fun ρ W ⟨hcst, hglb, hfun⟩ hX hp ho => ?_, ?_⟩ -- 1: slot 68 := Op.convert 22 9 t67
        · obtain ⟨p67, -⟩ := hp
          change ρ (.tmp 67) = _ at p67
          have hW := (Below.refl _ _).drew.trans hX
          refine turn_plain ?_
          refine ok_is (by simp only [execOp, p67]; rw [Sem.run_bind, run_str W elt_u8.ht (by kernel_rfl) (by kernel_rfl) HLX.out (TX.out.later hW (Nat.le_refl _))]; rfl) rfl
        refine ⟨fun ρ W ⟨hcst, hglb, hfun⟩ hX hp ho => ?_, ?_⟩ -- 2: slot 69 := Op.move t9
        · obtain ⟨o9, -⟩ := ho
          change ρ (.tmp 9) = _ at o9
          refine turn_plain (ok_is ?_ rfl)
          simp only [execOp, o9]; go_simp; try exact rfl
        refine ⟨fun ρ W ⟨hcst, hglb, hfun⟩ hX hp ho => ?_, ?_⟩ -- 3: slot 70 := Op.convert 22 9 t69
        · obtain ⟨p69, -⟩ := hp
          change ρ (.tmp 69) = _ at p69
          have hW := (Below.refl _ _).drew.trans hX
          refine turn_plain ?_
          refine ok_is (by simp only [execOp, p69]; rw [Sem.run_bind, run_str W elt_u8.ht (by kernel_rfl) (by kernel_rfl) HLX.out (TY.out.later hW (Nat.le_refl _))]; rfl) rfl
        refine ⟨fun ρ W ⟨hcst, hglb, hfun⟩ hX hp ho => ?_, ?_⟩ -- 4: slot 71 := Op.binOp BinOp.eql 9 t68 t70 9
        · obtain ⟨p68, p70, -⟩ := hp
          change ρ (.tmp 68) = _ at p68
          change ρ (.tmp 70) = _ at p70
          refine turn_plain (ok_is ?_ rfl)
          simp only [execOp, p68, p70]; go_simp; try exact rfl
        refine ⟨fun ρ W ⟨hcst, hglb, hfun⟩ hX hp ho => ?_, ?_⟩ -- 5: slot 72 := Op.move t71
        · obtain ⟨p71, -⟩ := hp
          change ρ (.tmp 71) = _ at p71
          refine turn_plain (ok_is ?_ rfl)
          simp only [execOp, p71]; go_simp; try exact rfl
        refine ⟨fun ρ W ⟨hcst, hglb, hfun⟩ hX hp ho => ?_, ?_⟩ -- 6: slot 73 := Op.move t8   [guarded: some (5, true)]
        · obtain ⟨p72, -⟩ := hp
          change ρ (.tmp 72) = _ at p72
          obtain ⟨o8, -⟩ := ho
          change ρ (.tmp 8) = _ at o8
          refine turn_yes p72 (ok_is ?_ rfl)
          simp only [execOp, o8]; go_simp; try exact rfl
        refine ⟨fun ρ W ⟨hcst, hglb, hfun⟩ hX hp ho => ?_, ?_⟩ -- 7: slot 74 := Op.call { value (Operand.func 12), args := #[t73], argTypes := #[27] }   [guarded: some (5
        · obtain ⟨p73, p72, -⟩ := hp
          change ρ (.tmp 73) = _ at p73
          change ρ (.tmp 72) = _ at p72
          have hW := (Below.refl _ _).drew.trans hX
          refine turn_yes p72 ?_
          have ce := @enter_of Tryd.prog 12 _ Tryd.func12 (by kernel_rfl) (by kernel_rfl)
          refine ok_call (op_call1 hfun ce (by exact rfl) p73) ?_
          refine (num_er x W (HG.out.later (HB.out.trans (hW.mono HB.out.size)) (Nat.le_refl _))).mono ?_
          rintro e W' ⟨rfl, bel⟩
          exact ⟨_, rfl, bel, rfl⟩
        refine ⟨fun ρ W ⟨hcst, hglb, hfun⟩ hX hp ho => ?_, ?_⟩ -- 8: slot 75 := Op.move t10   [guarded: some (5, true)]
        · obtain ⟨p72, -⟩ := hp
          change ρ (.tmp 72) = _ at p72
          obtain ⟨o10, -⟩ := ho
          change ρ (.tmp 10) = _ at o10
          refine turn_yes p72 (ok_is ?_ rfl)
          simp only [execOp, o10]; go_simp; try exact rfl
        refine ⟨fun ρ W ⟨hcst, hglb, hfun⟩ hX hp ho => ?_, ?_⟩ -- 9: slot 76 := Op.binOp BinOp.eql 3 t74 t75 3   [guarded: some (5, true)]
        · obtain ⟨p74, p75, p72, -⟩ := hp
          change ρ (.tmp 74) = _ at p74
          change ρ (.tmp 75) = _ at p75
          change ρ (.tmp 72) = _ at p72
          refine turn_yes p72 (ok_is ?_ rfl)
          simp only [execOp, p74, p75]; go_simp; try exact rfl
        refine ⟨fun ρ W ⟨hcst, hglb, hfun⟩ hX hp ho => ?_, ?_⟩ -- 10: slot 77 := Op.pick t72 t76 (const (Value.bool false))
        · obtain ⟨p72, p76, -⟩ := hp
          change ρ (.tmp 72) = _ at p72
          change ρ (.tmp 76) = _ at p76
          refine turn_plain (ok_is ?_ rfl)
          simp only [execOp, hcst, p72, p76]; go_simp; try exact rfl
        refine ⟨fun ρ W ⟨hcst, hglb, hfun⟩ hX hp ho => ?_, ?_⟩ -- 11: slot 78 := Op.move t77
        · obtain ⟨p77, -⟩ := hp
          change ρ (.tmp 77) = _ at p77
          refine turn_plain (ok_is ?_ rfl)
          simp only [execOp, p77]; go_simp; try exact rfl
        refine ⟨fun ρ W ⟨hcst, hglb, hfun⟩ hX hp ho => ?_, ?_⟩ -- 12: slot 79 := Op.load 30 t11   [guarded: some (11, true)]
        · obtain ⟨p78, -⟩ := hp
          change ρ (.tmp 78) = _ at p78
          obtain ⟨o11, -⟩ := ho
          change ρ (.tmp 11) = _ at o11
          have hW := (Below.refl _ _).drew.trans hX
          refine turn_yes p78 ?_
          exact ok_is (exec_load_row 30 (.tmp 11) rfl g11 o11 30 (pkF fr dt k ep sq A4 m4 c4) _ _ (HU.out.later hW (Nat.le_refl _)) pk_under rfl pk_size) rfl
        refine ⟨fun ρ W ⟨hcst, hglb, hfun⟩ hX hp ho => ?_, ?_⟩ -- 13: slot 80 := Op.load 24 t13   [guarded: some (11, true)]
        · obtain ⟨p78, -⟩ := hp
          change ρ (.tmp 78) = _ at p78
          obtain ⟨o13, -⟩ := ho
          change ρ (.tmp 13) = _ at o13
          have hW := (Below.refl _ _).drew.trans hX
          refine turn_yes p78 ?_
          exact ok_is (exec_load_row 24 (.tmp 13) rfl g13 o13 24 (pkF fr dt k ep sq A5 m4 c5) _ _ (HV.out.later hW (Nat.le_refl _)) rk_under rfl rk_size) rfl
        refine ⟨fun ρ W ⟨hcst, hglb, hfun⟩ hX hp ho => ?_, ?_⟩ -- 14: slot 81 := Op.call { value (Operand.func 13), args := #[t79, t80], argTypes := #[30, 24] }   [guarded
        · obtain ⟨p79, p80, p78, -⟩ := hp
          change ρ (.tmp 79) = _ at p79
          change ρ (.tmp 80) = _ at p80
          change ρ (.tmp 78) = _ at p78
          have hW := (Below.refl _ _).drew.trans hX
          refine turn_yes p78 ?_
          have ce := @enter_of Tryd.prog 13 _ Tryd.func13 (by kernel_rfl) (by kernel_rfl)
          refine ok_call (op_call2 hfun ce (by exact rfl) p79 p80) ?_
          refine ((isp_any fr dt k ep sq A4 m4 c4 bd fr dt k ep sq A5 m4 c5 bd W HBD.out HBD.out (TU.out.later hW (Nat.le_refl _)) (TV.out.later hW (Nat.le_refl _)) HBB.out HBB.out)).mono ?_
          rintro e W' ⟨rfl, bel⟩
          exact ⟨_, rfl, bel, by rw [pkEq_self]; rfl⟩
        refine ⟨fun ρ W ⟨hcst, hglb, hfun⟩ hX hp ho => ?_, ?_⟩ -- 15: slot 82 := Op.pick t78 t81 (const (Value.bool false))
        · obtain ⟨p78, p81, -⟩ := hp
          change ρ (.tmp 78) = _ at p78
          change ρ (.tmp 81) = _ at p81
          refine turn_plain (ok_is ?_ rfl)
          simp only [execOp, hcst, p78, p81]; go_simp; try exact rfl
        refine ⟨fun ρ W ⟨hcst, hglb, hfun⟩ hX hp ho => ?_, ?_⟩ -- 16: slot 83 := Op.move t82
        · obtain ⟨p82, -⟩ := hp
          change ρ (.tmp 82) = _ at p82
          refine turn_plain (ok_is ?_ rfl)
          simp only [execOp, p82]; go_simp; try exact rfl
        refine ⟨fun ρ W ⟨hcst, hglb, hfun⟩ hX hp ho => ?_, ?_⟩ -- 17: slot 84 := Op.move t12   [guarded: some (16, true)]
        · obtain ⟨p83, -⟩ := hp
          change ρ (.tmp 83) = _ at p83
          obtain ⟨o12, -⟩ := ho
          change ρ (.tmp 12) = _ at o12
          refine turn_yes p83 (ok_is ?_ rfl)
          simp only [execOp, o12]; go_simp; try exact rfl
        refine ⟨fun ρ W ⟨hcst, hglb, hfun⟩ hX hp ho => ?_, ?_⟩ -- 18: slot 85 := Op.call { value (Operand.func 12), args := #[t84], argTypes := #[27] }   [guarded: some (1
        · obtain ⟨p84, p83, -⟩ := hp
          change ρ (.tmp 84) = _ at p84
          change ρ (.tmp 83) = _ at p83
          have hW := (Below.refl _ _).drew.trans hX
          refine turn_yes p83 ?_
          have ce := @enter_of Tryd.prog 12 _ Tryd.func12 (by kernel_rfl) (by kernel_rfl)
          refine ok_call (op_call1 hfun ce (by exact rfl) p84) ?_
          refine (num_er y W (HG.out.later (HB.out.trans (hW.mono HB.out.size)) (Nat.le_refl _))).mono ?_
          rintro e W' ⟨rfl, bel⟩
          exact ⟨_, rfl, bel, rfl⟩
        refine ⟨fun ρ W ⟨hcst, hglb, hfun⟩ hX hp ho => ?_, ?_⟩ -- 19: slot 86 := Op.move t14   [guarded: some (16, true)]
        · obtain ⟨p83, -⟩ := hp
          change ρ (.tmp 83) = _ at p83
          obtain ⟨o14, -⟩ := ho
          change ρ (.tmp 14) = _ at o14
          refine turn_yes p83 (ok_is ?_ rfl)
          simp only [execOp, o14]; go_simp; try exact rfl
        refine ⟨fun ρ W ⟨hcst, hglb, hfun⟩ hX hp ho => ?_, ?_⟩ -- 20: slot 87 := Op.binOp BinOp.eql 3 t85 t86 3   [guarded: some (16, true)]
        · obtain ⟨p85, p86, p83, -⟩ := hp
          change ρ (.tmp 85) = _ at p85
          change ρ (.tmp 86) = _ at p86
          change ρ (.tmp 83) = _ at p83
          refine turn_yes p83 (ok_is ?_ rfl)
          simp only [execOp, p85, p86]; go_simp; try exact rfl
        refine ⟨fun ρ W ⟨hcst, hglb, hfun⟩ hX hp ho => ?_, ?_⟩ -- 21: slot 88 := Op.pick t83 t87 (const (Value.bool false))
        · obtain ⟨p83, p87, -⟩ := hp
          change ρ (.tmp 83) = _ at p83
          change ρ (.tmp 87) = _ at p87
          refine turn_plain (ok_is ?_ rfl)
          simp only [execOp, hcst, p83, p87]; go_simp; try exact rfl
        refine ⟨fun ρ W ⟨hcst, hglb, hfun⟩ hX hp ho => ?_, ?_⟩ -- 22: slot 89 := Op.move t88
        · obtain ⟨p88, -⟩ := hp
          change ρ (.tmp 88) = _ at p88
          refine turn_plain (ok_is ?_ rfl)
          simp only [execOp, p88]; go_simp; try exact rfl
        refine ⟨fun ρ W ⟨hcst, hglb, hfun⟩ hX hp ho => ?_, ?_⟩ -- 23: slot 90 := Op.move t15   [guarded: some (22, true)]
        · obtain ⟨p89, -⟩ := hp
          change ρ (.tmp 89) = _ at p89
          obtain ⟨o15, -⟩ := ho
          change ρ (.tmp 15) = _ at o15
          refine turn_yes p89 (ok_is ?_ rfl)
          simp only [execOp, o15]; go_simp; try exact rfl
        refine ⟨fun ρ W ⟨hcst, hglb, hfun⟩ hX hp ho => ?_, ?_⟩ -- 24: slot 91 := Op.call { value (Operand.func 12), args := #[t90], argTypes := #[27] }   [guarded: some (2
        · obtain ⟨p90, p89, -⟩ := hp
          change ρ (.tmp 90) = _ at p90
          change ρ (.tmp 89) = _ at p89
          have hW := (Below.refl _ _).drew.trans hX
          refine turn_yes p89 ?_
          have ce := @enter_of Tryd.prog 12 _ Tryd.func12 (by kernel_rfl) (by kernel_rfl)
          refine ok_call (op_call1 hfun ce (by exact rfl) p90) ?_
          refine (num_er x W (HG.out.later (HB.out.trans (hW.mono HB.out.size)) (Nat.le_refl _))).mono ?_
          rintro e W' ⟨rfl, bel⟩
          exact ⟨_, rfl, bel, rfl⟩
        refine ⟨fun ρ W ⟨hcst, hglb, hfun⟩ hX hp ho => ?_, ?_⟩ -- 25: slot 92 := Op.move t10   [guarded: some (22, true)]
        · obtain ⟨p89, -⟩ := hp
          change ρ (.tmp 89) = _ at p89
          obtain ⟨o10, -⟩ := ho
          change ρ (.tmp 10) = _ at o10
          refine turn_yes p89 (ok_is ?_ rfl)
          simp only [execOp, o10]; go_simp; try exact rfl
        refine ⟨fun ρ W ⟨hcst, hglb, hfun⟩ hX hp ho => ?_, ?_⟩ -- 26: slot 93 := Op.binOp BinOp.eql 3 t91 t92 3   [guarded: some (22, true)]
        · obtain ⟨p91, p92, p89, -⟩ := hp
          change ρ (.tmp 91) = _ at p91
          change ρ (.tmp 92) = _ at p92
          change ρ (.tmp 89) = _ at p89
          refine turn_yes p89 (ok_is ?_ rfl)
          simp only [execOp, p91, p92]; go_simp; try exact rfl
        refine ⟨fun ρ W ⟨hcst, hglb, hfun⟩ hX hp ho => ?_, ?_⟩ -- 27: slot 94 := Op.pick t89 t93 (const (Value.bool false))
        · obtain ⟨p89, p93, -⟩ := hp
          change ρ (.tmp 89) = _ at p89
          change ρ (.tmp 93) = _ at p93
          refine turn_plain (ok_is ?_ rfl)
          simp only [execOp, hcst, p89, p93]; go_simp; try exact rfl
        refine ⟨fun ρ W ⟨hcst, hglb, hfun⟩ hX hp ho => ?_, ?_⟩ -- 28: slot 95 := Op.move t94
        · obtain ⟨p94, -⟩ := hp
          change ρ (.tmp 94) = _ at p94
          refine turn_plain (ok_is ?_ rfl)
          simp only [execOp, p94]; go_simp; try exact rfl
        refine ⟨fun ρ W ⟨hcst, hglb, hfun⟩ hX hp ho => ?_, ?_⟩ -- 29: slot 96 := Op.load 24 t3   [guarded: some (28, true)]
        · obtain ⟨p95, -⟩ := hp
          change ρ (.tmp 95) = _ at p95
          obtain ⟨o3, -⟩ := ho
          change ρ (.tmp 3) = _ at o3
          have hW := (Below.refl _ _).drew.trans hX
          refine turn_yes p95 ?_
          exact ok_is (exec_load_row 24 (.tmp 3) rfl g1 o3 24 #[.int .i64 f1, .int .i64 d1, .bool k1, .int .i64 e1, .int .i64 s1, .slice A1 n1 c1] _ _ (HP.out.later hW (Nat.le_refl _)) rk_under rfl rk_size) rfl
        refine ⟨fun ρ W ⟨hcst, hglb, hfun⟩ hX hp ho => ?_, ?_⟩ -- 30: slot 97 := Op.call { value (Operand.func 7), args := #[t96], argTypes := #[24] }   [guarded: some (28
        · obtain ⟨p96, p95, -⟩ := hp
          change ρ (.tmp 96) = _ at p96
          change ρ (.tmp 95) = _ at p95
          have hW := (Below.refl _ _).drew.trans hX
          refine turn_yes p95 ?_
          have ce := @enter_of Tryd.prog 7 _ Tryd.func7 (by kernel_rfl) (by kernel_rfl)
          refine ok_call (op_call1 hfun ce (by exact rfl) p96) ?_
          refine (give_any f1 d1 k1 e1 s1 A1 n1 c1 l1 W HL1.out hn1 (HA1.out.later (HB.out.trans (hW.mono HB.out.size)) (Nat.le_refl _))).mono ?_
          rintro e W' ⟨A9, c9, rfl, hat, bel⟩
          exact ⟨_, rfl, bel, A9, c9, rfl, hat⟩
        refine ⟨fun ρ W ⟨hcst, hglb, hfun⟩ hX hp ho => ?_, ?_⟩ -- 31: slot 98 := Op.load 24 t4   [guarded: some (28, true)]
        · obtain ⟨p95, -⟩ := hp
          change ρ (.tmp 95) = _ at p95
          obtain ⟨o4, -⟩ := ho
          change ρ (.tmp 4) = _ at o4
          have hW := (Below.refl _ _).drew.trans hX
          refine turn_yes p95 ?_
          exact ok_is (exec_load_row 24 (.tmp 4) rfl g2 o4 24 #[.int .i64 f2, .int .i64 d2, .bool k2, .int .i64 e2, .int .i64 s2, .slice A2 n2 c2] _ _ (HQ.out.later hW (Nat.le_refl _)) rk_under rfl rk_size) rfl
        refine ⟨fun ρ W ⟨hcst, hglb, hfun⟩ hX hp ho => ?_, ?_⟩ -- 32: slot 99 := Op.call { value (Operand.func 7), args := #[t98], argTypes := #[24] }   [guarded: some (28
        · obtain ⟨p98, p95, -⟩ := hp
          change ρ (.tmp 98) = _ at p98
          change ρ (.tmp 95) = _ at p95
          have hW := (Below.refl _ _).drew.trans hX
          refine turn_yes p95 ?_
          have ce := @enter_of Tryd.prog 7 _ Tryd.func7 (by kernel_rfl) (by kernel_rfl)
          refine ok_call (op_call1 hfun ce (by exact rfl) p98) ?_
          refine (give_any f2 d2 k2 e2 s2 A2 n2 c2 l2 W HL2.out hn2 (HA2.out.later (HB.out.trans (hW.mono HB.out.size)) (Nat.le_refl _))).mono ?_
          rintro e W' ⟨A9, c9, rfl, hat, bel⟩
          exact ⟨_, rfl, bel, A9, c9, rfl, hat⟩
        refine ⟨fun ρ W ⟨hcst, hglb, hfun⟩ hX hp ho => ?_, ?_⟩ -- 33: slot 100 := Op.call { value (Operand.func 14), args := #[t97, t99], argTypes := #[30, 30] }   [guarded
        · obtain ⟨p97, p99, p95, -⟩ := hp
          obtain ⟨A97, c97, p97, hat97⟩ := p97
          change ρ (.tmp 97) = _ at p97
          obtain ⟨A99, c99, p99, hat99⟩ := p99
          change ρ (.tmp 99) = _ at p99
          change ρ (.tmp 95) = _ at p95
          have hW := (Below.refl _ _).drew.trans hX
          refine turn_yes p95 ?_
          have ce := @enter_of Tryd.prog 14 _ Tryd.func14 (by kernel_rfl) (by kernel_rfl)
          refine ok_call (op_call2 hfun ce (by exact rfl) p97 p99) ?_
          refine (same_any f1 d1 k1 e1 s1 A97 n1 c97 l1 f2 d2 k2 e2 s2 A99 n2 c99 l2 W HL1.out HL2.out hat97 hat99 HY1.out HY2.out).mono ?_
          rintro e W' ⟨rfl, bel⟩
          exact ⟨_, rfl, bel, rfl⟩
        refine ⟨fun ρ W ⟨hcst, hglb, hfun⟩ hX hp ho => ?_, ?_⟩ -- 34: slot 101 := Op.load 24 t3   [guarded: some (28, true)]
        · obtain ⟨p95, -⟩ := hp
          change ρ (.tmp 95) = _ at p95
          obtain ⟨o3, -⟩ := ho
          change ρ (.tmp 3) = _ at o3
          have hW := (Below.refl _ _).drew.trans hX
          refine turn_yes p95 ?_
          exact ok_is (exec_load_row 24 (.tmp 3) rfl g1 o3 24 #[.int .i64 f1, .int .i64 d1, .bool k1, .int .i64 e1, .int .i64 s1, .slice A1 n1 c1] _ _ (HP.out.later hW (Nat.le_refl _)) rk_under rfl rk_size) rfl
        refine ⟨fun ρ W ⟨hcst, hglb, hfun⟩ hX hp ho => ?_, ?_⟩ -- 35: slot 102 := Op.call { value (Operand.func 7), args := #[t101], argTypes := #[24] }   [guarded: some (2
        · obtain ⟨p101, p95, -⟩ := hp
          change ρ (.tmp 101) = _ at p101
          change ρ (.tmp 95) = _ at p95
          have hW := (Below.refl _ _).drew.trans hX
          refine turn_yes p95 ?_
          have ce := @enter_of Tryd.prog 7 _ Tryd.func7 (by kernel_rfl) (by kernel_rfl)
          refine ok_call (op_call1 hfun ce (by exact rfl) p101) ?_
          refine (give_any f1 d1 k1 e1 s1 A1 n1 c1 l1 W HL1.out hn1 (HA1.out.later (HB.out.trans (hW.mono HB.out.size)) (Nat.le_refl _))).mono ?_
          rintro e W' ⟨A9, c9, rfl, hat, bel⟩
          exact ⟨_, rfl, bel, A9, c9, rfl, hat⟩
        refine ⟨fun ρ W ⟨hcst, hglb, hfun⟩ hX hp ho => ?_, ?_⟩ -- 36: slot 103 := Op.load 24 t4   [guarded: some (28, true)]
        · obtain ⟨p95, -⟩ := hp
          change ρ (.tmp 95) = _ at p95
          obtain ⟨o4, -⟩ := ho
          change ρ (.tmp 4) = _ at o4
          have hW := (Below.refl _ _).drew.trans hX
          refine turn_yes p95 ?_
          exact ok_is (exec_load_row 24 (.tmp 4) rfl g2 o4 24 #[.int .i64 f2, .int .i64 d2, .bool k2, .int .i64 e2, .int .i64 s2, .slice A2 n2 c2] _ _ (HQ.out.later hW (Nat.le_refl _)) rk_under rfl rk_size) rfl
        refine ⟨fun ρ W ⟨hcst, hglb, hfun⟩ hX hp ho => ?_, ?_⟩ -- 37: slot 104 := Op.call { value (Operand.func 13), args := #[t102, t103], argTypes := #[30, 24] }   [guard
        · obtain ⟨p102, p103, p95, -⟩ := hp
          obtain ⟨A102, c102, p102, hat102⟩ := p102
          change ρ (.tmp 102) = _ at p102
          change ρ (.tmp 103) = _ at p103
          change ρ (.tmp 95) = _ at p95
          have hW := (Below.refl _ _).drew.trans hX
          refine turn_yes p95 ?_
          have ce := @enter_of Tryd.prog 13 _ Tryd.func13 (by kernel_rfl) (by kernel_rfl)
          refine ok_call (op_call2 hfun ce (by exact rfl) p102 p103) ?_
          refine (isp_any f1 d1 k1 e1 s1 A102 n1 c102 l1 f2 d2 k2 e2 s2 A2 n2 c2 l2 W HL1.out HL2.out hat102 (HA2.out.later (HB.out.trans (hW.mono HB.out.size)) (Nat.le_refl _)) HY1.out HY2.out).mono ?_
          rintro e W' ⟨rfl, bel⟩
          exact ⟨_, rfl, bel, rfl⟩
        refine ⟨fun ρ W ⟨hcst, hglb, hfun⟩ hX hp ho => ?_, ?_⟩ -- 38: slot 105 := Op.binOp BinOp.eql 4 t100 t104 4   [guarded: some (28, true)]
        · obtain ⟨p100, p104, p95, -⟩ := hp
          change ρ (.tmp 100) = _ at p100
          change ρ (.tmp 104) = _ at p104
          change ρ (.tmp 95) = _ at p95
          refine turn_yes p95 (ok_is ?_ rfl)
          simp only [execOp, p100, p104]; go_simp; try exact rfl
        refine ⟨fun ρ W ⟨hcst, hglb, hfun⟩ hX hp ho => ?_, ?_⟩ -- 39: slot 106 := Op.pick t95 t105 (const (Value.bool false))
        · obtain ⟨p95, p105, -⟩ := hp
          change ρ (.tmp 95) = _ at p95
          change ρ (.tmp 105) = _ at p105
          refine turn_plain (ok_is ?_ rfl)
          simp only [execOp, hcst, p95, p105]; go_simp; try exact rfl
        refine ⟨fun ρ W ⟨hcst, hglb, hfun⟩ hX hp ho => ?_, ?_⟩ -- 40: slot 107 := Op.move t106
        · obtain ⟨p106, -⟩ := hp
          change ρ (.tmp 106) = _ at p106
          refine turn_plain (ok_is ?_ rfl)
          simp only [execOp, p106]; go_simp; try exact rfl
        refine ⟨fun ρ W ⟨hcst, hglb, hfun⟩ hX hp ho => ?_, ?_⟩ -- 41: slot 108 := Op.call { value (Operand.func 5), args := #[], argTypes := #[] }   [guarded: some (40, tru
        · obtain ⟨p107, -⟩ := hp
          change ρ (.tmp 107) = _ at p107
          have hW := (Below.refl _ _).drew.trans hX
          refine turn_yes p107 ?_
          have ce := @enter_of Tryd.prog 5 _ Tryd.func5 (by kernel_rfl) (by kernel_rfl)
          refine ok_call (op_call0 hfun ce (by exact rfl) ) ?_
          refine (sure14 W (HG.out.later (HB.out.trans (hW.mono HB.out.size)) (Nat.le_refl _))).mono ?_
          rintro e W' ⟨rfl, bel⟩
          exact ⟨_, rfl, bel, rfl⟩
        refine ⟨fun ρ W ⟨hcst, hglb, hfun⟩ hX hp ho => ?_, ?_⟩ -- 42: slot 109 := Op.pick t107 t108 (const (Value.bool false))
        · obtain ⟨p107, p108, -⟩ := hp
          change ρ (.tmp 107) = _ at p107
          change ρ (.tmp 108) = _ at p108
          refine turn_plain (ok_is ?_ rfl)
          simp only [execOp, hcst, p107, p108]; go_simp; try exact rfl
        refine ⟨fun ρ W ⟨hcst, hglb, hfun⟩ hX hp ho => ?_, ?_⟩ -- 43: slot 6 := Op.assign t109
        · obtain ⟨p109, -⟩ := hp
          change ρ (.tmp 109) = _ at p109
          refine turn_plain (ok_is ?_ rfl)
          simp only [execOp, p109]; go_simp; try exact rfl
        exact trivial
      case finb =>
        intro a W hX hsz hdf hold hR
        have hv := hR 43 6 rfl
        change a.tmps.getD 6 undef = _ at hv
        clear hold hR hsz
        go_wp2_with fail
        exact post_letter rfl hv hdf ⟨rfl, HB.out.trans (hX.mono HB.out.size)⟩
  · by_cases hh5 : 900 < n3
    · have hq5 : ¬ n3 ≤ 8300 := fun h => h4 ⟨hh5, h⟩
      have z1 : decide ((900 : Int) < n1) = false := decide_eq_false (by omega)
      have z3 : decide ((900 : Int) < n2) = false := decide_eq_false (by omega)
      have z4 : decide ((900 : Int) < n3) = true := decide_eq_true (by omega)
      have z5 : decide ((n3 : Int) ≤ 8300) = false := decide_eq_false (by omega)
      clear h1 h3 h4 hh2 hh5
      go_enter Tryd.func3, Tryd.ntmps3
      go_upto_region 3 with fail
      have HP := Lib.hid ((Holds.new w 24 #[.int .i64 f1, .int .i64 d1, .bool k1, .int .i64 e1, .int .i64 s1, .slice A1 n1 c1] w.heap.size rfl).alloc (.cells #[.int .i64 f2, .int .i64 d2, .bool k2, .int .i64 e2, .int .i64 s2, .slice A2 n2 c2] 24))
      have HQ := Lib.hid (Holds.new (w.alloc (.cells #[.int .i64 f1, .int .i64 d1, .bool k1, .int .i64 e1, .int .i64 s1, .slice A1 n1 c1] 24)) 24 #[.int .i64 f2, .int .i64 d2, .bool k2, .int .i64 e2, .int .i64 s2, .slice A2 n2 c2] (w.heap.size + 1) (by simp))
      have HB := Lib.hid (((Below.refl w.heap.size w).alloc (Nat.le_refl _) (.cells #[.int .i64 f1, .int .i64 d1, .bool k1, .int .i64 e1, .int .i64 s1, .slice A1 n1 c1] 24)).alloc (by simp) (.cells #[.int .i64 f2, .int .i64 d2, .bool k2, .int .i64 e2, .int .i64 s2, .slice A2 n2 c2] 24))
      change Code.wp _ _ _ _ ((w.alloc (.cells #[.int .i64 f1, .int .i64 d1, .bool k1, .int .i64 e1, .int .i64 s1, .slice A1 n1 c1] 24)).alloc (.cells #[.int .i64 f2, .int .i64 d2, .bool k2, .int .i64 e2, .int .i64 s2, .slice A2 n2 c2] 24))
      generalize (w.alloc (.cells #[.int .i64 f1, .int .i64 d1, .bool k1, .int .i64 e1, .int .i64 s1, .slice A1 n1 c1] 24)).alloc (.cells #[.int .i64 f2, .int .i64 d2, .bool k2, .int .i64 e2, .int .i64 s2, .slice A2 n2 c2] 24) = w0 at *
      obtain ⟨g2, hg2⟩ : ∃ g2, w.heap.size + 1 = g2 := ⟨_, rfl⟩
      rw [hg2] at HQ ⊢
      clear hg2
      obtain ⟨g1, hg1⟩ : ∃ g1, w.heap.size = g1 := ⟨_, rfl⟩
      rw [hg1] at HP ⊢
      clear hg1
      go_upto_region 4 with (first
        | (refine wpList_load_row rfl 24 (.tmp 3) rfl g1 rfl _ #[.int .i64 f1, .int .i64 d1, .bool k1, .int .i64 e1, .int .i64 s1, .slice A1 n1 c1] _ _ HP.out rk_under rfl rk_size ?_)
        | (go_at_call 7; refine (give_any f1 d1 k1 e1 s1 A1 n1 c1 l1 w0 HL1.out hn1 (HA1.out.later HB.out (Nat.le_refl _))).mono ?_; rintro e w1 ⟨A9, c9, rfl, t9, b9⟩; have T9 := Lib.hid t9; have HP := Lib.hid (HP.out.later b9 (Nat.le_refl _)); have HQ := Lib.hid (HQ.out.later b9 (Nat.le_refl _)); have HB := Lib.hid (HB.out.trans (b9.mono HB.out.size)); clear t9 b9)
        | (go_at_call 6; have Q := enc_any f1 d1 k1 e1 s1 A9 n1 c9 l1 w1 HL1.out T9.out; obtain ⟨L, hL⟩ : ∃ L, encL f1 d1 k1 e1 s1 l1 = L := ⟨_, rfl⟩; obtain ⟨x, hx⟩ : ∃ x, encX f1 d1 k1 e1 s1 l1.length = x := ⟨_, rfl⟩; rw [hL, hx] at Q; obtain ⟨nl, hnl⟩ : ∃ nl, L.length = nl := ⟨_, rfl⟩; unfold EncR at Q; rw [hnl] at Q; have EL := Lib.hid hL; have EX := Lib.hid hx; have HLX := Lib.hid hnl; clear hL hx hnl; refine Q.mono ?_; clear Q; rintro e w2 ⟨Ax, cx, rfl, ox, bx⟩; have TX := Lib.hid ox.at_; have HP := Lib.hid (HP.out.later bx (Nat.le_refl _)); have HQ := Lib.hid (HQ.out.later bx (Nat.le_refl _)); have HB := Lib.hid (HB.out.trans (bx.mono HB.out.size)); clear ox bx T9))
      go_upto_region 5 with (first
        | (refine wpList_load_row rfl 24 (.tmp 3) rfl g1 rfl _ #[.int .i64 f1, .int .i64 d1, .bool k1, .int .i64 e1, .int .i64 s1, .slice A1 n1 c1] _ _ HP.out rk_under rfl rk_size ?_)
        | (go_at_call 8; have Q := enck_any f1 d1 k1 e1 s1 A1 n1 c1 l1 w2 HL1.out (HA1.out.later HB.out (Nat.le_refl _)) (all_of_getD HY1.out) HN9.out; rw [EL.out, EX.out] at Q; unfold EncR at Q; rw [HLX.out] at Q; refine Q.mono ?_; clear Q; rintro e w3 ⟨Ay, cy, rfl, oy, bx⟩; have TY := Lib.hid oy.at_; have TX := Lib.hid (TX.out.later bx (Nat.le_refl _)); have HP := Lib.hid (HP.out.later bx (Nat.le_refl _)); have HQ := Lib.hid (HQ.out.later bx (Nat.le_refl _)); have HB := Lib.hid (HB.out.trans (bx.mono HB.out.size)); clear oy bx))
      go_wp2_with fail
      have hb3 := all_of_getD HY3.out
      with_reducible refine (dec_any A3 n3 c3 l3 w3 HL3.out HN3.out HC3.out (HA3.out.later HB.out (Nat.le_refl _)) hb3).mono ?_
      rintro e w4 ⟨fr, dt, k, ep, sq, bd, y, A4, c4, he, t4, b4, hd⟩
      obtain ⟨m4, hm4⟩ : ∃ m4, bd.length = m4 := ⟨_, rfl⟩
      rw [hm4] at he
      subst he
      have HBD := Lib.hid hm4
      have HBB := Lib.hid (fun i => getD_of_all (m := 255) (hd.byte hb3) i)
      have HD := Lib.hid hd
      have TU := Lib.hid t4
      have TX := Lib.hid (TX.out.later b4 (Nat.le_refl _))
      have TY := Lib.hid (TY.out.later b4 (Nat.le_refl _))
      have HP := Lib.hid (HP.out.later b4 (Nat.le_refl _))
      have HQ := Lib.hid (HQ.out.later b4 (Nat.le_refl _))
      have HB := Lib.hid (HB.out.trans (b4.mono HB.out.size))
      clear t4 b4 hd hm4
      unfold pkF
      go_upto_region 6 with fail
      have NP := (Below.refl w4.heap.size w4).alloc (Nat.le_refl _) (.cells #[.int .i64 (fr : Nat), .int .i64 (dt : Nat), .bool k, .int .i64 (ep : Nat), .int .i64 (sq : Nat), .slice A4 m4 c4] 30)
      have HU := Lib.hid (show Holds (w4.alloc (.cells #[.int .i64 (fr : Nat), .int .i64 (dt : Nat), .bool k, .int .i64 (ep : Nat), .int .i64 (sq : Nat), .slice A4 m4 c4] 30)) w4.heap.size 30 (pkF fr dt k ep sq A4 m4 c4) from Holds.new w4 30 _ w4.heap.size rfl)
      have TU := Lib.hid (TU.out.later NP (Nat.le_refl _))
      have TX := Lib.hid (TX.out.later NP (Nat.le_refl _))
      have TY := Lib.hid (TY.out.later NP (Nat.le_refl _))
      have HP := Lib.hid (HP.out.later NP (Nat.le_refl _))
      have HQ := Lib.hid (HQ.out.later NP (Nat.le_refl _))
      have HB := Lib.hid (HB.out.trans (NP.mono HB.out.size))
      clear NP
      generalize w4.heap.size = g11 at *
      generalize w4.alloc (.cells #[.int .i64 (fr : Nat), .int .i64 (dt : Nat), .bool k, .int .i64 (ep : Nat), .int .i64 (sq : Nat), .slice A4 m4 c4] 30) = w5 at *
      go_wp2_with fail
      with_reducible refine (deck_any A3 n3 c3 l3 w5 HL3.out HN3.out HC3.out (HA3.out.later HB.out (Nat.le_refl _)) hb3 HM9.out).mono ?_
      rintro e w6 ⟨fr2, dt2, j2, ep2, sq2, bd2, y2, A5, c5, he, t4, b4, hd⟩
      obtain ⟨rfl, rfl, rfl, rfl, rfl, rfl, rfl⟩ := HD.out.uniq hd
      rw [HBD.out] at he
      subst he
      have TV := Lib.hid t4
      have TU := Lib.hid (TU.out.later b4 (Nat.le_refl _))
      have TX := Lib.hid (TX.out.later b4 (Nat.le_refl _))
      have TY := Lib.hid (TY.out.later b4 (Nat.le_refl _))
      have HU := Lib.hid (HU.out.later b4 (Nat.le_refl _))
      have HP := Lib.hid (HP.out.later b4 (Nat.le_refl _))
      have HQ := Lib.hid (HQ.out.later b4 (Nat.le_refl _))
      have HB := Lib.hid (HB.out.trans (b4.mono HB.out.size))
      clear t4 b4 hd hb3
      unfold pkF
      go_upto_region 7 with fail
      have NP := (Below.refl w6.heap.size w6).alloc (Nat.le_refl _) (.cells #[.int .i64 (fr : Nat), .int .i64 (dt : Nat), .bool k, .int .i64 (ep : Nat), .int .i64 (sq : Nat), .slice A5 m4 c5] 24)
      have HV := Lib.hid (show Holds (w6.alloc (.cells #[.int .i64 (fr : Nat), .int .i64 (dt : Nat), .bool k, .int .i64 (ep : Nat), .int .i64 (sq : Nat), .slice A5 m4 c5] 24)) w6.heap.size 24 (pkF fr dt k ep sq A5 m4 c5) from Holds.new w6 24 _ w6.heap.size rfl)
      have TV := Lib.hid (TV.out.later NP (Nat.le_refl _))
      have TU := Lib.hid (TU.out.later NP (Nat.le_refl _))
      have TX := Lib.hid (TX.out.later NP (Nat.le_refl _))
      have TY := Lib.hid (TY.out.later NP (Nat.le_refl _))
      have HU := Lib.hid (HU.out.later NP (Nat.le_refl _))
      have HP := Lib.hid (HP.out.later NP (Nat.le_refl _))
      have HQ := Lib.hid (HQ.out.later NP (Nat.le_refl _))
      have HB := Lib.hid (HB.out.trans (NP.mono HB.out.size))
      clear NP
      generalize w6.heap.size = g13 at *
      generalize w6.alloc (.cells #[.int .i64 (fr : Nat), .int .i64 (dt : Nat), .bool k, .int .i64 (ep : Nat), .int .i64 (sq : Nat), .slice A5 m4 c5] 24) = w7 at *
      go_upto_region 8 with (first
        | (refine wpList_load_row rfl 24 (.tmp 3) rfl g1 rfl _ #[.int .i64 f1, .int .i64 d1, .bool k1, .int .i64 e1, .int .i64 s1, .slice A1 n1 c1] _ _ HP.out rk_under rfl rk_size ?_)
        | (go_at_call 7; refine (give_any f1 d1 k1 e1 s1 A1 n1 c1 l1 w7 HL1.out hn1 (HA1.out.later HB.out (Nat.le_refl _))).mono ?_; rintro e w8 ⟨A9, c9, rfl, t9, b9⟩)
        | (go_at_call 11; have Q := chk_any f1 d1 k1 e1 s1 A9 n1 c9 w8; rw [← HL1.out, EX.out] at Q; rw [HL1.out] at Q; refine Q.mono ?_; clear Q; rintro e w9 ⟨rfl, b10⟩))
      have b11 := b9.trans (b10.mono b9.size)
      have TV := Lib.hid (TV.out.later b11 (Nat.le_refl _))
      have TU := Lib.hid (TU.out.later b11 (Nat.le_refl _))
      have TX := Lib.hid (TX.out.later b11 (Nat.le_refl _))
      have TY := Lib.hid (TY.out.later b11 (Nat.le_refl _))
      have HU := Lib.hid (HU.out.later b11 (Nat.le_refl _))
      have HV := Lib.hid (HV.out.later b11 (Nat.le_refl _))
      have HP := Lib.hid (HP.out.later b11 (Nat.le_refl _))
      have HQ := Lib.hid (HQ.out.later b11 (Nat.le_refl _))
      have HB := Lib.hid (HB.out.trans (b11.mono HB.out.size))
      clear t9 b9 b10 b11
      refine wp_region_last (is ?h0 :: is (.string (strN L)) :: is ?h2 :: is (.string (strN L)) :: is ?h4 :: is ?h5 :: is ?h6 :: is (.int .i64 x) :: is ?h8 :: is ?h9 :: is ?h10 :: is ?h11 :: is (.agg (pkF fr dt k ep sq A4 m4 c4)) :: is (.agg (pkF fr dt k ep sq A5 m4 c5)) :: is (.bool true) :: is ?h15 :: is ?h16 :: is ?h17 :: is (.int .i64 y) :: is ?h19 :: is ?h20 :: is ?h21 :: is ?h22 :: is ?h23 :: is (.int .i64 x) :: is ?h25 :: is ?h26 :: is ?h27 :: is ?h28 :: is (.agg #[.int .i64 f1, .int .i64 d1, .bool k1, .int .i64 e1, .int .i64 s1, .slice A1 n1 c1]) :: (fun v W => ∃ A9 c9, v = .agg #[.int .i64 f1, .int .i64 d1, .bool k1, .int .i64 e1, .int .i64 s1, .slice A9 n1 c9] ∧ At W A9 (nats .u8 l1)) :: is (.agg #[.int .i64 f2, .int .i64 d2, .bool k2, .int .i64 e2, .int .i64 s2, .slice A2 n2 c2]) :: (fun v W => ∃ A9 c9, v = .agg #[.int .i64 f2, .int .i64 d2, .bool k2, .int .i64 e2, .int .i64 s2, .slice A9 n2 c9] ∧ At W A9 (nats .u8 l2)) :: is (.bool (pkEq f1 d1 k1 e1 s1 l1 f2 d2 k2 e2 s2 l2)) :: is (.agg #[.int .i64 f1, .int .i64 d1, .bool k1, .int .i64 e1, .int .i64 s1, .slice A1 n1 c1]) :: (fun v W => ∃ A9 c9, v = .agg #[.int .i64 f1, .int .i64 d1, .bool k1, .int .i64 e1, .int .i64 s1, .slice A9 n1 c9] ∧ At W A9 (nats .u8 l1)) :: is (.agg #[.int .i64 f2, .int .i64 d2, .bool k2, .int .i64 e2, .int .i64 s2, .slice A2 n2 c2]) :: is (.bool (pkEq f1 d1 k1 e1 s1 l1 f2 d2 k2 e2 s2 l2)) :: is ?h38 :: is ?h39 :: is ?h40 :: is (.bool true) :: is ?h42 :: is ?h43 :: [])
        [⟨[], [7], none⟩, ⟨[(67, 0)], [], none⟩, ⟨[], [9], none⟩, ⟨[(69, 2)], [], none⟩, ⟨[(68, 1), (70, 3)], [], none⟩, ⟨[(71, 4)], [], none⟩, ⟨[(72, 5)], [8], some (72, true)⟩, ⟨[(73, 6), (72, 5)], [], some (72, true)⟩, ⟨[(72, 5)], [10], some (72, true)⟩, ⟨[(74, 7), (75, 8), (72, 5)], [], some (72, true)⟩, ⟨[(72, 5), (76, 9)], [], none⟩, ⟨[(77, 10)], [], none⟩, ⟨[(78, 11)], [11], some (78, true)⟩, ⟨[(78, 11)], [13], some (78, true)⟩, ⟨[(79, 12), (80, 13), (78, 11)], [], some (78, true)⟩, ⟨[(78, 11), (81, 14)], [], none⟩, ⟨[(82, 15)], [], none⟩, ⟨[(83, 16)], [12], some (83, true)⟩, ⟨[(84, 17), (83, 16)], [], some (83, true)⟩, ⟨[(83, 16)], [14], some (83, true)⟩, ⟨[(85, 18), (86, 19), (83, 16)], [], some (83, true)⟩, ⟨[(83, 16), (87, 20)], [], none⟩, ⟨[(88, 21)], [], none⟩, ⟨[(89, 22)], [15], some (89, true)⟩, ⟨[(90, 23), (89, 22)], [], some (89, true)⟩, ⟨[(89, 22)], [10], some (89, true)⟩, ⟨[(91, 24), (92, 25), (89, 22)], [], some (89, true)⟩, ⟨[(89, 22), (93, 26)], [], none⟩, ⟨[(94, 27)], [], none⟩, ⟨[(95, 28)], [3], some (95, true)⟩, ⟨[(96, 29), (95, 28)], [], some (95, true)⟩, ⟨[(95, 28)], [4], some (95, true)⟩, ⟨[(98, 31), (95, 28)], [], some (95, true)⟩, ⟨[(97, 30), (99, 32), (95, 28)], [], some (95, true)⟩, ⟨[(95, 28)], [3], some (95, true)⟩, ⟨[(101, 34), (95, 28)], [], some (95, true)⟩, ⟨[(95, 28)], [4], some (95, true)⟩, ⟨[(102, 35), (103, 36), (95, 28)], [], some (95, true)⟩, ⟨[(100, 33), (104, 37), (95, 28)], [], some (95, true)⟩, ⟨[(95, 28), (105, 38)], [], none⟩, ⟨[(106, 39)], [], none⟩, ⟨[(107, 40)], [], some (107, true)⟩, ⟨[(107, 40), (108, 41)], [], none⟩, ⟨[(109, 42)], [], none⟩] (by kernel_rfl) (by kernel_rfl) (by kernel_rfl) (by kernel_rfl) (by kernel_rfl) ?monoh ?stepsh ?finh
      case monoh => exact ⟨mono_eq _, mono_eq _, mono_eq _, mono_eq _, mono_eq _, mono_eq _, mono_eq _, mono_eq _, mono_eq _, mono_eq _, mono_eq _, mono_eq _, mono_eq _, mono_eq _, mono_eq _, mono_eq _, mono_eq _, mono_eq _, mono_eq _, mono_eq _, mono_eq _, mono_eq _, mono_eq _, mono_eq _, mono_eq _, mono_eq _, mono_eq _, mono_eq _, mono_eq _, mono_eq _, (fun _ _ _ ⟨A3, c3, h1, h2⟩ hb => ⟨A3, c3, h1, h2.later hb (Nat.le_refl _)⟩), mono_eq _, (fun _ _ _ ⟨A3, c3, h1, h2⟩ hb => ⟨A3, c3, h1, h2.later hb (Nat.le_refl _)⟩), mono_eq _, mono_eq _, (fun _ _ _ ⟨A3, c3, h1, h2⟩ hb => ⟨A3, c3, h1, h2.later hb (Nat.le_refl _)⟩), mono_eq _, mono_eq _, mono_eq _, mono_eq _, mono_eq _, mono_eq _, mono_eq _, mono_eq _, trivial⟩
      case stepsh =>
        refine ⟨fun ρ W ⟨hcst, hglb, hfun⟩ hX hp ho => ?_, ?_⟩ -- 0: slot 67 := Op.move t7
        · obtain ⟨o7, -⟩ := ho
          change ρ (.tmp 7) = _ at o7
          refine turn_plain (ok_is ?_ rfl)
          simp only [execOp, o7]; go_simp; try exact rfl
        refine ⟨fun ρ W ⟨hcst, hglb, hfun⟩ hX hp ho => ?_, ?_⟩ -- 1: slot 68 := Op.convert 22 9 t67
        · obtain ⟨p67, -⟩ := hp
          change ρ (.tmp 67) = _ at p67
          have hW := (Below.refl _ _).drew.trans hX
          refine turn_plain ?_
          refine ok_is (by simp only [execOp, p67]; rw [Sem.run_bind, run_str W elt_u8.ht (by kernel_rfl) (by kernel_rfl) HLX.out (TX.out.later hW (Nat.le_refl _))]; rfl) rfl
        refine ⟨fun ρ W ⟨hcst, hglb, hfun⟩ hX hp ho => ?_, ?_⟩ -- 2: slot 69 := Op.move t9
        · obtain ⟨o9, -⟩ := ho
          change ρ (.tmp 9) = _ at o9
          refine turn_plain (ok_is ?_ rfl)
          simp only [execOp, o9]; go_simp; try exact rfl
        refine ⟨fun ρ W ⟨hcst, hglb, hfun⟩ hX hp ho => ?_, ?_⟩ -- 3: slot 70 := Op.convert 22 9 t69
        · obtain ⟨p69, -⟩ := hp
          change ρ (.tmp 69) = _ at p69
          have hW := (Below.refl _ _).drew.trans hX
          refine turn_plain ?_
          refine ok_is (by simp only [execOp, p69]; rw [Sem.run_bind, run_str W elt_u8.ht (by kernel_rfl) (by kernel_rfl) HLX.out (TY.out.later hW (Nat.le_refl _))]; rfl) rfl
        refine ⟨fun ρ W ⟨hcst, hglb, hfun⟩ hX hp ho => ?_, ?_⟩ -- 4: slot 71 := Op.binOp BinOp.eql 9 t68 t70 9
        · obtain ⟨p68, p70, -⟩ := hp
          change ρ (.tmp 68) = _ at p68
          change ρ (.tmp 70) = _ at p70
          refine turn_plain (ok_is ?_ rfl)
          simp only [execOp, p68, p70]; go_simp; try exact rfl
        refine ⟨fun ρ W ⟨hcst, hglb, hfun⟩ hX hp ho => ?_, ?_⟩ -- 5: slot 72 := Op.move t71
        · obtain ⟨p71, -⟩ := hp
          change ρ (.tmp 71) = _ at p71
          refine turn_plain (ok_is ?_ rfl)
          simp only [execOp, p71]; go_simp; try exact rfl
        refine ⟨fun ρ W ⟨hcst, hglb, hfun⟩ hX hp ho => ?_, ?_⟩ -- 6: slot 73 := Op.move t8   [guarded: some (5, true)]
        · obtain ⟨p72, -⟩ := hp
          change ρ (.tmp 72) = _ at p72
          obtain ⟨o8, -⟩ := ho
          change ρ (.tmp 8) = _ at o8
          refine turn_yes p72 (ok_is ?_ rfl)
          simp only [execOp, o8]; go_simp; try exact rfl
        refine ⟨fun ρ W ⟨hcst, hglb, hfun⟩ hX hp ho => ?_, ?_⟩ -- 7: slot 74 := Op.call { value (Operand.func 12), args := #[t73], argTypes := #[27] }   [guarded: some (5
        · obtain ⟨p73, p72, -⟩ := hp
          change ρ (.tmp 73) = _ at p73
          change ρ (.tmp 72) = _ at p72
          have hW := (Below.refl _ _).drew.trans hX
          refine turn_yes p72 ?_
          have ce := @enter_of Tryd.prog 12 _ Tryd.func12 (by kernel_rfl) (by kernel_rfl)
          refine ok_call (op_call1 hfun ce (by exact rfl) p73) ?_
          refine (num_er x W (HG.out.later (HB.out.trans (hW.mono HB.out.size)) (Nat.le_refl _))).mono ?_
          rintro e W' ⟨rfl, bel⟩
          exact ⟨_, rfl, bel, rfl⟩
        refine ⟨fun ρ W ⟨hcst, hglb, hfun⟩ hX hp ho => ?_, ?_⟩ -- 8: slot 75 := Op.move t10   [guarded: some (5, true)]
        · obtain ⟨p72, -⟩ := hp
          change ρ (.tmp 72) = _ at p72
          obtain ⟨o10, -⟩ := ho
          change ρ (.tmp 10) = _ at o10
          refine turn_yes p72 (ok_is ?_ rfl)
          simp only [execOp, o10]; go_simp; try exact rfl
        refine ⟨fun ρ W ⟨hcst, hglb, hfun⟩ hX hp ho => ?_, ?_⟩ -- 9: slot 76 := Op.binOp BinOp.eql 3 t74 t75 3   [guarded: some (5, true)]
        · obtain ⟨p74, p75, p72, -⟩ := hp
          change ρ (.tmp 74) = _ at p74
          change ρ (.tmp 75) = _ at p75
          change ρ (.tmp 72) = _ at p72
          refine turn_yes p72 (ok_is ?_ rfl)
          simp only [execOp, p74, p75]; go_simp; try exact rfl
        refine ⟨fun ρ W ⟨hcst, hglb, hfun⟩ hX hp ho => ?_, ?_⟩ -- 10: slot 77 := Op.pick t72 t76 (const (Value.bool false))
        · obtain ⟨p72, p76, -⟩ := hp
          change ρ (.tmp 72) = _ at p72
          change ρ (.tmp 76) = _ at p76
          refine turn_plain (ok_is ?_ rfl)
          simp only [execOp, hcst, p72, p76]; go_simp; try exact rfl
        refine ⟨fun ρ W ⟨hcst, hglb, hfun⟩ hX hp ho => ?_, ?_⟩ -- 11: slot 78 := Op.move t77
        · obtain ⟨p77, -⟩ := hp
          change ρ (.tmp 77) = _ at p77
          refine turn_plain (ok_is ?_ rfl)
          simp only [execOp, p77]; go_simp; try exact rfl
        refine ⟨fun ρ W ⟨hcst, hglb, hfun⟩ hX hp ho => ?_, ?_⟩ -- 12: slot 79 := Op.load 30 t11   [guarded: some (11, true)]
        · obtain ⟨p78, -⟩ := hp
          change ρ (.tmp 78) = _ at p78
          obtain ⟨o11, -⟩ := ho
          change ρ (.tmp 11) = _ at o11
          have hW := (Below.refl _ _).drew.trans hX
          refine turn_yes p78 ?_
          exact ok_is (exec_load_row 30 (.tmp 11) rfl g11 o11 30 (pkF fr dt k ep sq A4 m4 c4) _ _ (HU.out.later hW (Nat.le_refl _)) pk_under rfl pk_size) rfl
        refine ⟨fun ρ W ⟨hcst, hglb, hfun⟩ hX hp ho => ?_, ?_⟩ -- 13: slot 80 := Op.load 24 t13   [guarded: some (11, true)]
        · obtain ⟨p78, -⟩ := hp
          change ρ (.tmp 78) = _ at p78
          obtain ⟨o13, -⟩ := ho
          change ρ (.tmp 13) = _ at o13
          have hW := (Below.refl _ _).drew.trans hX
          refine turn_yes p78 ?_
          exact ok_is (exec_load_row 24 (.tmp 13) rfl g13 o13 24 (pkF fr dt k ep sq A5 m4 c5) _ _ (HV.out.later hW (Nat.le_refl _)) rk_under rfl rk_size) rfl
        refine ⟨fun ρ W ⟨hcst, hglb, hfun⟩ hX hp ho => ?_, ?_⟩ -- 14: slot 81 := Op.call { value (Operand.func 13), args := #[t79, t80], argTypes := #[30, 24] }   [guarded
        · obtain ⟨p79, p80, p78, -⟩ := hp
          change ρ (.tmp 79) = _ at p79
          change ρ (.tmp 80) = _ at p80
          change ρ (.tmp 78) = _ at p78
          have hW := (Below.refl _ _).drew.trans hX
          refine turn_yes p78 ?_
          have ce := @enter_of Tryd.prog 13 _ Tryd.func13 (by kernel_rfl) (by kernel_rfl)
          refine ok_call (op_call2 hfun ce (by exact rfl) p79 p80) ?_
          refine ((isp_any fr dt k ep sq A4 m4 c4 bd fr dt k ep sq A5 m4 c5 bd W HBD.out HBD.out (TU.out.later hW (Nat.le_refl _)) (TV.out.later hW (Nat.le_refl _)) HBB.out HBB.out)).mono ?_
          rintro e W' ⟨rfl, bel⟩
          exact ⟨_, rfl, bel, by rw [pkEq_self]; rfl⟩
        refine ⟨fun ρ W ⟨hcst, hglb, hfun⟩ hX hp ho => ?_, ?_⟩ -- 15: slot 82 := Op.pick t78 t81 (const (Value.bool false))
        · obtain ⟨p78, p81, -⟩ := hp
          change ρ (.tmp 78) = _ at p78
          change ρ (.tmp 81) = _ at p81
          refine turn_plain (ok_is ?_ rfl)
          simp only [execOp, hcst, p78, p81]; go_simp; try exact rfl
        refine ⟨fun ρ W ⟨hcst, hglb, hfun⟩ hX hp ho => ?_, ?_⟩ -- 16: slot 83 := Op.move t82
        · obtain ⟨p82, -⟩ := hp
          change ρ (.tmp 82) = _ at p82
          refine turn_plain (ok_is ?_ rfl)
          simp only [execOp, p82]; go_simp; try exact rfl
        refine ⟨fun ρ W ⟨hcst, hglb, hfun⟩ hX hp ho => ?_, ?_⟩ -- 17: slot 84 := Op.move t12   [guarded: some (16, true)]
        · obtain ⟨p83, -⟩ := hp
          change ρ (.tmp 83) = _ at p83
          obtain ⟨o12, -⟩ := ho
          change ρ (.tmp 12) = _ at o12
          refine turn_yes p83 (ok_is ?_ rfl)
          simp only [execOp, o12]; go_simp; try exact rfl
        refine ⟨fun ρ W ⟨hcst, hglb, hfun⟩ hX hp ho => ?_, ?_⟩ -- 18: slot 85 := Op.call { value (Operand.func 12), args := #[t84], argTypes := #[27] }   [guarded: some (1
        · obtain ⟨p84, p83, -⟩ := hp
          change ρ (.tmp 84) = _ at p84
          change ρ (.tmp 83) = _ at p83
          have hW := (Below.refl _ _).drew.trans hX
          refine turn_yes p83 ?_
          have ce := @enter_of Tryd.prog 12 _ Tryd.func12 (by kernel_rfl) (by kernel_rfl)
          refine ok_call (op_call1 hfun ce (by exact rfl) p84) ?_
          refine (num_er y W (HG.out.later (HB.out.trans (hW.mono HB.out.size)) (Nat.le_refl _))).mono ?_
          rintro e W' ⟨rfl, bel⟩
          exact ⟨_, rfl, bel, rfl⟩
        refine ⟨fun ρ W ⟨hcst, hglb, hfun⟩ hX hp ho => ?_, ?_⟩ -- 19: slot 86 := Op.move t14   [guarded: some (16, true)]
        · obtain ⟨p83, -⟩ := hp
          change ρ (.tmp 83) = _ at p83
          obtain ⟨o14, -⟩ := ho
          change ρ (.tmp 14) = _ at o14
          refine turn_yes p83 (ok_is ?_ rfl)
          simp only [execOp, o14]; go_simp; try exact rfl
        refine ⟨fun ρ W ⟨hcst, hglb, hfun⟩ hX hp ho => ?_, ?_⟩ -- 20: slot 87 := Op.binOp BinOp.eql 3 t85 t86 3   [guarded: some (16, true)]
        · obtain ⟨p85, p86, p83, -⟩ := hp
          change ρ (.tmp 85) = _ at p85
          change ρ (.tmp 86) = _ at p86
          change ρ (.tmp 83) = _ at p83
          refine turn_yes p83 (ok_is ?_ rfl)
          simp only [execOp, p85, p86]; go_simp; try exact rfl
        refine ⟨fun ρ W ⟨hcst, hglb, hfun⟩ hX hp ho => ?_, ?_⟩ -- 21: slot 88 := Op.pick t83 t87 (const (Value.bool false))
        · obtain ⟨p83, p87, -⟩ := hp
          change ρ (.tmp 83) = _ at p83
          change ρ (.tmp 87) = _ at p87
          refine turn_plain (ok_is ?_ rfl)
          simp only [execOp, hcst, p83, p87]; go_simp; try exact rfl
        refine ⟨fun ρ W ⟨hcst, hglb, hfun⟩ hX hp ho => ?_, ?_⟩ -- 22: slot 89 := Op.move t88
        · obtain ⟨p88, -⟩ := hp
          change ρ (.tmp 88) = _ at p88
          refine turn_plain (ok_is ?_ rfl)
          simp only [execOp, p88]; go_simp; try exact rfl
        refine ⟨fun ρ W ⟨hcst, hglb, hfun⟩ hX hp ho => ?_, ?_⟩ -- 23: slot 90 := Op.move t15   [guarded: some (22, true)]
        · obtain ⟨p89, -⟩ := hp
          change ρ (.tmp 89) = _ at p89
          obtain ⟨o15, -⟩ := ho
          change ρ (.tmp 15) = _ at o15
          refine turn_yes p89 (ok_is ?_ rfl)
          simp only [execOp, o15]; go_simp; try exact rfl
        refine ⟨fun ρ W ⟨hcst, hglb, hfun⟩ hX hp ho => ?_, ?_⟩ -- 24: slot 91 := Op.call { value (Operand.func 12), args := #[t90], argTypes := #[27] }   [guarded: some (2
        · obtain ⟨p90, p89, -⟩ := hp
          change ρ (.tmp 90) = _ at p90
          change ρ (.tmp 89) = _ at p89
          have hW := (Below.refl _ _).drew.trans hX
          refine turn_yes p89 ?_
          have ce := @enter_of Tryd.prog 12 _ Tryd.func12 (by kernel_rfl) (by kernel_rfl)
          refine ok_call (op_call1 hfun ce (by exact rfl) p90) ?_
          refine (num_er x W (HG.out.later (HB.out.trans (hW.mono HB.out.size)) (Nat.le_refl _))).mono ?_
          rintro e W' ⟨rfl, bel⟩
          exact ⟨_, rfl, bel, rfl⟩
        refine ⟨fun ρ W ⟨hcst, hglb, hfun⟩ hX hp ho => ?_, ?_⟩ -- 25: slot 92 := Op.move t10   [guarded: some (22, true)]
        · obtain ⟨p89, -⟩ := hp
          change ρ (.tmp 89) = _ at p89
          obtain ⟨o10, -⟩ := ho
          change ρ (.tmp 10) = _ at o10
          refine turn_yes p89 (ok_is ?_ rfl)
          simp only [execOp, o10]; go_simp; try exact rfl
        refine ⟨fun ρ W ⟨hcst, hglb, hfun⟩ hX hp ho => ?_, ?_⟩ -- 26: slot 93 := Op.binOp BinOp.eql 3 t91 t92 3   [guarded: some (22, true)]
        · obtain ⟨p91, p92, p89, -⟩ := hp
          change ρ (.tmp 91) = _ at p91
          change ρ (.tmp 92) = _ at p92
          change ρ (.tmp 89) = _ at p89
          refine turn_yes p89 (ok_is ?_ rfl)
          simp only [execOp, p91, p92]; go_simp; try exact rfl
        refine ⟨fun ρ W ⟨hcst, hglb, hfun⟩ hX hp ho => ?_, ?_⟩ -- 27: slot 94 := Op.pick t89 t93 (const (Value.bool false))
        · obtain ⟨p89, p93, -⟩ := hp
          change ρ (.tmp 89) = _ at p89
          change ρ (.tmp 93) = _ at p93
          refine turn_plain (ok_is ?_ rfl)
          simp only [execOp, hcst, p89, p93]; go_simp; try exact rfl
        refine ⟨fun ρ W ⟨hcst, hglb, hfun⟩ hX hp ho => ?_, ?_⟩ -- 28: slot 95 := Op.move t94
        · obtain ⟨p94, -⟩ := hp
          change ρ (.tmp 94) = _ at p94
          refine turn_plain (ok_is ?_ rfl)
          simp only [execOp, p94]; go_simp; try exact rfl
        refine ⟨fun ρ W ⟨hcst, hglb, hfun⟩ hX hp ho => ?_, ?_⟩ -- 29: slot 96 := Op.load 24 t3   [guarded: some (28, true)]
        · obtain ⟨p95, -⟩ := hp
          change ρ (.tmp 95) = _ at p95
          obtain ⟨o3, -⟩ := ho
          change ρ (.tmp 3) = _ at o3
          have hW := (Below.refl _ _).drew.trans hX
          refine turn_yes p95 ?_
          exact ok_is (exec_load_row 24 (.tmp 3) rfl g1 o3 24 #[.int .i64 f1, .int .i64 d1, .bool k1, .int .i64 e1, .int .i64 s1, .slice A1 n1 c1] _ _ (HP.out.later hW (Nat.le_refl _)) rk_under rfl rk_size) rfl
        refine ⟨fun ρ W ⟨hcst, hglb, hfun⟩ hX hp ho => ?_, ?_⟩ -- 30: slot 97 := Op.call { value (Operand.func 7), args := #[t96], argTypes := #[24] }   [guarded: some (28
        · obtain ⟨p96, p95, -⟩ := hp
          change ρ (.tmp 96) = _ at p96
          change ρ (.tmp 95) = _ at p95
          have hW := (Below.refl _ _).drew.trans hX
          refine turn_yes p95 ?_
          have ce := @enter_of Tryd.prog 7 _ Tryd.func7 (by kernel_rfl) (by kernel_rfl)
          refine ok_call (op_call1 hfun ce (by exact rfl) p96) ?_
          refine (give_any f1 d1 k1 e1 s1 A1 n1 c1 l1 W HL1.out hn1 (HA1.out.later (HB.out.trans (hW.mono HB.out.size)) (Nat.le_refl _))).mono ?_
          rintro e W' ⟨A9, c9, rfl, hat, bel⟩
          exact ⟨_, rfl, bel, A9, c9, rfl, hat⟩
        refine ⟨fun ρ W ⟨hcst, hglb, hfun⟩ hX hp ho => ?_, ?_⟩ -- 31: slot 98 := Op.load 24 t4   [guarded: some (28, true)]
        · obtain ⟨p95, -⟩ := hp
          change ρ (.tmp 95) = _ at p95
          obtain ⟨o4, -⟩ := ho
          change ρ (.tmp 4) = _ at o4
          have hW := (Below.refl _ _).drew.trans hX
          refine turn_yes p95 ?_
          exact ok_is (exec_load_row 24 (.tmp 4) rfl g2 o4 24 #[.int .i64 f2, .int .i64 d2, .bool k2, .int .i64 e2, .int .i64 s2, .slice A2 n2 c2] _ _ (HQ.out.later hW (Nat.le_refl _)) rk_under rfl rk_size) rfl
        refine ⟨fun ρ W ⟨hcst, hglb, hfun⟩ hX hp ho => ?_, ?_⟩ -- 32: slot 99 := Op.call { value (Operand.func 7), args := #[t98], argTypes := #[24] }   [guarded: some (28
        · obtain ⟨p98, p95, -⟩ := hp
          change ρ (.tmp 98) = _ at p98
          change ρ (.tmp 95) = _ at p95
          have hW := (Below.refl _ _).drew.trans hX
          refine turn_yes p95 ?_
          have ce := @enter_of Tryd.prog 7 _ Tryd.func7 (by kernel_rfl) (by kernel_rfl)
          refine ok_call (op_call1 hfun ce (by exact rfl) p98) ?_
          refine (give_any f2 d2 k2 e2 s2 A2 n2 c2 l2 W HL2.out hn2 (HA2.out.later (HB.out.trans (hW.mono HB.out.size)) (Nat.le_refl _))).mono ?_
          rintro e W' ⟨A9, c9, rfl, hat, bel⟩
          exact ⟨_, rfl, bel, A9, c9, rfl, hat⟩
        refine ⟨fun ρ W ⟨hcst, hglb, hfun⟩ hX hp ho => ?_, ?_⟩ -- 33: slot 100 := Op.call { value (Operand.func 14), args := #[t97, t99], argTypes := #[30, 30] }   [guarded
        · obtain ⟨p97, p99, p95, -⟩ := hp
          obtain ⟨A97, c97, p97, hat97⟩ := p97
          change ρ (.tmp 97) = _ at p97
          obtain ⟨A99, c99, p99, hat99⟩ := p99
          change ρ (.tmp 99) = _ at p99
          change ρ (.tmp 95) = _ at p95
          have hW := (Below.refl _ _).drew.trans hX
          refine turn_yes p95 ?_
          have ce := @enter_of Tryd.prog 14 _ Tryd.func14 (by kernel_rfl) (by kernel_rfl)
          refine ok_call (op_call2 hfun ce (by exact rfl) p97 p99) ?_
          refine (same_any f1 d1 k1 e1 s1 A97 n1 c97 l1 f2 d2 k2 e2 s2 A99 n2 c99 l2 W HL1.out HL2.out hat97 hat99 HY1.out HY2.out).mono ?_
          rintro e W' ⟨rfl, bel⟩
          exact ⟨_, rfl, bel, rfl⟩
        refine ⟨fun ρ W ⟨hcst, hglb, hfun⟩ hX hp ho => ?_, ?_⟩ -- 34: slot 101 := Op.load 24 t3   [guarded: some (28, true)]
        · obtain ⟨p95, -⟩ := hp
          change ρ (.tmp 95) = _ at p95
          obtain ⟨o3, -⟩ := ho
          change ρ (.tmp 3) = _ at o3
          have hW := (Below.refl _ _).drew.trans hX
          refine turn_yes p95 ?_
          exact ok_is (exec_load_row 24 (.tmp 3) rfl g1 o3 24 #[.int .i64 f1, .int .i64 d1, .bool k1, .int .i64 e1, .int .i64 s1, .slice A1 n1 c1] _ _ (HP.out.later hW (Nat.le_refl _)) rk_under rfl rk_size) rfl
        refine ⟨fun ρ W ⟨hcst, hglb, hfun⟩ hX hp ho => ?_, ?_⟩ -- 35: slot 102 := Op.call { value (Operand.func 7), args := #[t101], argTypes := #[24] }   [guarded: some (2
        · obtain ⟨p101, p95, -⟩ := hp
          change ρ (.tmp 101) = _ at p101
          change ρ (.tmp 95) = _ at p95
          have hW := (Below.refl _ _).drew.trans hX
          refine turn_yes p95 ?_
          have ce := @enter_of Tryd.prog 7 _ Tryd.func7 (by kernel_rfl) (by kernel_rfl)
          refine ok_call (op_call1 hfun ce (by exact rfl) p101) ?_
          refine (give_any f1 d1 k1 e1 s1 A1 n1 c1 l1 W HL1.out hn1 (HA1.out.later (HB.out.trans (hW.mono HB.out.size)) (Nat.le_refl _))).mono ?_
          rintro e W' ⟨A9, c9, rfl, hat, bel⟩
          exact ⟨_, rfl, bel, A9, c9, rfl, hat⟩
        refine ⟨fun ρ W ⟨hcst, hglb, hfun⟩ hX hp ho => ?_, ?_⟩ -- 36: slot 103 := Op.load 24 t4   [guarded: some (28, true)]
        · obtain ⟨p95, -⟩ := hp
          change ρ (.tmp 95) = _ at p95
          obtain ⟨o4, -⟩ := ho
          change ρ (.tmp 4) = _ at o4
          have hW := (Below.refl _ _).drew.trans hX
          refine turn_yes p95 ?_
          exact ok_is (exec_load_row 24 (.tmp 4) rfl g2 o4 24 #[.int .i64 f2, .int .i64 d2, .bool k2, .int .i64 e2, .int .i64 s2, .slice A2 n2 c2] _ _ (HQ.out.later hW (Nat.le_refl _)) rk_under rfl rk_size) rfl
        refine ⟨fun ρ W ⟨hcst, hglb, hfun⟩ hX hp ho => ?_, ?_⟩ -- 37: slot 104 := Op.call { value (Operand.func 13), args := #[t102, t103], argTypes := #[30, 24] }   [guard
        · obtain ⟨p102, p103, p95, -⟩ := hp
          obtain ⟨A102, c102, p102, hat102⟩ := p102
          change ρ (.tmp 102) = _ at p102
          change ρ (.tmp 103) = _ at p103
          change ρ (.tmp 95) = _ at p95
          have hW := (Below.refl _ _).drew.trans hX
          refine turn_yes p95 ?_
          have ce := @enter_of Tryd.prog 13 _ Tryd.func13 (by kernel_rfl) (by kernel_rfl)
          refine ok_call (op_call2 hfun ce (by exact rfl) p102 p103) ?_
          refine (isp_any f1 d1 k1 e1 s1 A102 n1 c102 l1 f2 d2 k2 e2 s2 A2 n2 c2 l2 W HL1.out HL2.out hat102 (HA2.out.later (HB.out.trans (hW.mono HB.out.size)) (Nat.le_refl _)) HY1.out HY2.out).mono ?_
          rintro e W' ⟨rfl, bel⟩
          exact ⟨_, rfl, bel, rfl⟩
        refine ⟨fun ρ W ⟨hcst, hglb, hfun⟩ hX hp ho => ?_, ?_⟩ -- 38: slot 105 := Op.binOp BinOp.eql 4 t100 t104 4   [guarded: some (28, true)]
        · obtain ⟨p100, p104, p95, -⟩ := hp
          change ρ (.tmp 100) = _ at p100
          change ρ (.tmp 104) = _ at p104
          change ρ (.tmp 95) = _ at p95
          refine turn_yes p95 (ok_is ?_ rfl)
          simp only [execOp, p100, p104]; go_simp; try exact rfl
        refine ⟨fun ρ W ⟨hcst, hglb, hfun⟩ hX hp ho => ?_, ?_⟩ -- 39: slot 106 := Op.pick t95 t105 (const (Value.bool false))
        · obtain ⟨p95, p105, -⟩ := hp
          change ρ (.tmp 95) = _ at p95
          change ρ (.tmp 105) = _ at p105
          refine turn_plain (ok_is ?_ rfl)
          simp only [execOp, hcst, p95, p105]; go_simp; try exact rfl
        refine ⟨fun ρ W ⟨hcst, hglb, hfun⟩ hX hp ho => ?_, ?_⟩ -- 40: slot 107 := Op.move t106
        · obtain ⟨p106, -⟩ := hp
          change ρ (.tmp 106) = _ at p106
          refine turn_plain (ok_is ?_ rfl)
          simp only [execOp, p106]; go_simp; try exact rfl
        refine ⟨fun ρ W ⟨hcst, hglb, hfun⟩ hX hp ho => ?_, ?_⟩ -- 41: slot 108 := Op.call { value (Operand.func 5), args := #[], argTypes := #[] }   [guarded: some (40, tru
        · obtain ⟨p107, -⟩ := hp
          change ρ (.tmp 107) = _ at p107
          have hW := (Below.refl _ _).drew.trans hX
          refine turn_yes p107 ?_
          have ce := @enter_of Tryd.prog 5 _ Tryd.func5 (by kernel_rfl) (by kernel_rfl)
          refine ok_call (op_call0 hfun ce (by exact rfl) ) ?_
          refine (sure14 W (HG.out.later (HB.out.trans (hW.mono HB.out.size)) (Nat.le_refl _))).mono ?_
          rintro e W' ⟨rfl, bel⟩
          exact ⟨_, rfl, bel, rfl⟩
        refine ⟨fun ρ W ⟨hcst, hglb, hfun⟩ hX hp ho => ?_, ?_⟩ -- 42: slot 109 := Op.pick t107 t108 (const (Value.bool false))
        · obtain ⟨p107, p108, -⟩ := hp
          change ρ (.tmp 107) = _ at p107
          change ρ (.tmp 108) = _ at p108
          refine turn_plain (ok_is ?_ rfl)
          simp only [execOp, hcst, p107, p108]; go_simp; try exact rfl
        refine ⟨fun ρ W ⟨hcst, hglb, hfun⟩ hX hp ho => ?_, ?_⟩ -- 43: slot 6 := Op.assign t109
        · obtain ⟨p109, -⟩ := hp
          change ρ (.tmp 109) = _ at p109
          refine turn_plain (ok_is ?_ rfl)
          simp only [execOp, p109]; go_simp; try exact rfl
        exact trivial
      case finh =>
        intro a W hX hsz hdf hold hR
        have hv := hR 43 6 rfl
        change a.tmps.getD 6 undef = _ at hv
        clear hold hR hsz
        go_wp2_with fail
        exact post_letter rfl hv hdf ⟨rfl, HB.out.trans (hX.mono HB.out.size)⟩
    · skip
      have z1 : decide ((900 : Int) < n1) = false := decide_eq_false (by omega)
      have z3 : decide ((900 : Int) < n2) = false := decide_eq_false (by omega)
      have z4 : decide ((900 : Int) < n3) = false := decide_eq_false (by omega)
      clear h1 h3 h4 hh2 hh5
      go_enter Tryd.func3, Tryd.ntmps3
      go_upto_region 3 with fail
      have HP := Lib.hid ((Holds.new w 24 #[.int .i64 f1, .int .i64 d1, .bool k1, .int .i64 e1, .int .i64 s1, .slice A1 n1 c1] w.heap.size rfl).alloc (.cells #[.int .i64 f2, .int .i64 d2, .bool k2, .int .i64 e2, .int .i64 s2, .slice A2 n2 c2] 24))
      have HQ := Lib.hid (Holds.new (w.alloc (.cells #[.int .i64 f1, .int .i64 d1, .bool k1, .int .i64 e1, .int .i64 s1, .slice A1 n1 c1] 24)) 24 #[.int .i64 f2, .int .i64 d2, .bool k2, .int .i64 e2, .int .i64 s2, .slice A2 n2 c2] (w.heap.size + 1) (by simp))
      have HB := Lib.hid (((Below.refl w.heap.size w).alloc (Nat.le_refl _) (.cells #[.int .i64 f1, .int .i64 d1, .bool k1, .int .i64 e1, .int .i64 s1, .slice A1 n1 c1] 24)).alloc (by simp) (.cells #[.int .i64 f2, .int .i64 d2, .bool k2, .int .i64 e2, .int .i64 s2, .slice A2 n2 c2] 24))
      change Code.wp _ _ _ _ ((w.alloc (.cells #[.int .i64 f1, .int .i64 d1, .bool k1, .int .i64 e1, .int .i64 s1, .slice A1 n1 c1] 24)).alloc (.cells #[.int .i64 f2, .int .i64 d2, .bool k2, .int .i64 e2, .int .i64 s2, .slice A2 n2 c2] 24))
      generalize (w.alloc (.cells #[.int .i64 f1, .int .i64 d1, .bool k1, .int .i64 e1, .int .i64 s1, .slice A1 n1 c1] 24)).alloc (.cells #[.int .i64 f2, .int .i64 d2, .bool k2, .int .i64 e2, .int .i64 s2, .slice A2 n2 c2] 24) = w0 at *
      obtain ⟨g2, hg2⟩ : ∃ g2, w.heap.size + 1 = g2 := ⟨_, rfl⟩
      rw [hg2] at HQ ⊢
      clear hg2
      obtain ⟨g1, hg1⟩ : ∃ g1, w.heap.size = g1 := ⟨_, rfl⟩
      rw [hg1] at HP ⊢
      clear hg1
      go_upto_region 4 with (first
        | (refine wpList_load_row rfl 24 (.tmp 3) rfl g1 rfl _ #[.int .i64 f1, .int .i64 d1, .bool k1, .int .i64 e1, .int .i64 s1, .slice A1 n1 c1] _ _ HP.out rk_under rfl rk_size ?_)
        | (go_at_call 7; refine (give_any f1 d1 k1 e1 s1 A1 n1 c1 l1 w0 HL1.out hn1 (HA1.out.later HB.out (Nat.le_refl _))).mono ?_; rintro e w1 ⟨A9, c9, rfl, t9, b9⟩; have T9 := Lib.hid t9; have HP := Lib.hid (HP.out.later b9 (Nat.le_refl _)); have HQ := Lib.hid (HQ.out.later b9 (Nat.le_refl _)); have HB := Lib.hid (HB.out.trans (b9.mono HB.out.size)); clear t9 b9)
        | (go_at_call 6; have Q := enc_any f1 d1 k1 e1 s1 A9 n1 c9 l1 w1 HL1.out T9.out; obtain ⟨L, hL⟩ : ∃ L, encL f1 d1 k1 e1 s1 l1 = L := ⟨_, rfl⟩; obtain ⟨x, hx⟩ : ∃ x, encX f1 d1 k1 e1 s1 l1.length = x := ⟨_, rfl⟩; rw [hL, hx] at Q; obtain ⟨nl, hnl⟩ : ∃ nl, L.length = nl := ⟨_, rfl⟩; unfold EncR at Q; rw [hnl] at Q; have EL := Lib.hid hL; have EX := Lib.hid hx; have HLX := Lib.hid hnl; clear hL hx hnl; refine Q.mono ?_; clear Q; rintro e w2 ⟨Ax, cx, rfl, ox, bx⟩; have TX := Lib.hid ox.at_; have HP := Lib.hid (HP.out.later bx (Nat.le_refl _)); have HQ := Lib.hid (HQ.out.later bx (Nat.le_refl _)); have HB := Lib.hid (HB.out.trans (bx.mono HB.out.size)); clear ox bx T9))
      go_upto_region 5 with (first
        | (refine wpList_load_row rfl 24 (.tmp 3) rfl g1 rfl _ #[.int .i64 f1, .int .i64 d1, .bool k1, .int .i64 e1, .int .i64 s1, .slice A1 n1 c1] _ _ HP.out rk_under rfl rk_size ?_)
        | (go_at_call 8; have Q := enck_any f1 d1 k1 e1 s1 A1 n1 c1 l1 w2 HL1.out (HA1.out.later HB.out (Nat.le_refl _)) (all_of_getD HY1.out) HN9.out; rw [EL.out, EX.out] at Q; unfold EncR at Q; rw [HLX.out] at Q; refine Q.mono ?_; clear Q; rintro e w3 ⟨Ay, cy, rfl, oy, bx⟩; have TY := Lib.hid oy.at_; have TX := Lib.hid (TX.out.later bx (Nat.le_refl _)); have HP := Lib.hid (HP.out.later bx (Nat.le_refl _)); have HQ := Lib.hid (HQ.out.later bx (Nat.le_refl _)); have HB := Lib.hid (HB.out.trans (bx.mono HB.out.size)); clear oy bx))
      go_wp2_with fail
      have hb3 := all_of_getD HY3.out
      with_reducible refine (dec_any A3 n3 c3 l3 w3 HL3.out HN3.out HC3.out (HA3.out.later HB.out (Nat.le_refl _)) hb3).mono ?_
      rintro e w4 ⟨fr, dt, k, ep, sq, bd, y, A4, c4, he, t4, b4, hd⟩
      obtain ⟨m4, hm4⟩ : ∃ m4, bd.length = m4 := ⟨_, rfl⟩
      rw [hm4] at he
      subst he
      have HBD := Lib.hid hm4
      have HBB := Lib.hid (fun i => getD_of_all (m := 255) (hd.byte hb3) i)
      have HD := Lib.hid hd
      have TU := Lib.hid t4
      have TX := Lib.hid (TX.out.later b4 (Nat.le_refl _))
      have TY := Lib.hid (TY.out.later b4 (Nat.le_refl _))
      have HP := Lib.hid (HP.out.later b4 (Nat.le_refl _))
      have HQ := Lib.hid (HQ.out.later b4 (Nat.le_refl _))
      have HB := Lib.hid (HB.out.trans (b4.mono HB.out.size))
      clear t4 b4 hd hm4
      unfold pkF
      go_upto_region 6 with fail
      have NP := (Below.refl w4.heap.size w4).alloc (Nat.le_refl _) (.cells #[.int .i64 (fr : Nat), .int .i64 (dt : Nat), .bool k, .int .i64 (ep : Nat), .int .i64 (sq : Nat), .slice A4 m4 c4] 30)
      have HU := Lib.hid (show Holds (w4.alloc (.cells #[.int .i64 (fr : Nat), .int .i64 (dt : Nat), .bool k, .int .i64 (ep : Nat), .int .i64 (sq : Nat), .slice A4 m4 c4] 30)) w4.heap.size 30 (pkF fr dt k ep sq A4 m4 c4) from Holds.new w4 30 _ w4.heap.size rfl)
      have TU := Lib.hid (TU.out.later NP (Nat.le_refl _))
      have TX := Lib.hid (TX.out.later NP (Nat.le_refl _))
      have TY := Lib.hid (TY.out.later NP (Nat.le_refl _))
      have HP := Lib.hid (HP.out.later NP (Nat.le_refl _))
      have HQ := Lib.hid (HQ.out.later NP (Nat.le_refl _))
      have HB := Lib.hid (HB.out.trans (NP.mono HB.out.size))
      clear NP
      generalize w4.heap.size = g11 at *
      generalize w4.alloc (.cells #[.int .i64 (fr : Nat), .int .i64 (dt : Nat), .bool k, .int .i64 (ep : Nat), .int .i64 (sq : Nat), .slice A4 m4 c4] 30) = w5 at *
      go_wp2_with fail
      with_reducible refine (deck_any A3 n3 c3 l3 w5 HL3.out HN3.out HC3.out (HA3.out.later HB.out (Nat.le_refl _)) hb3 HM9.out).mono ?_
      rintro e w6 ⟨fr2, dt2, j2, ep2, sq2, bd2, y2, A5, c5, he, t4, b4, hd⟩
      obtain ⟨rfl, rfl, rfl, rfl, rfl, rfl, rfl⟩ := HD.out.uniq hd
      rw [HBD.out] at he
      subst he
      have TV := Lib.hid t4
      have TU := Lib.hid (TU.out.later b4 (Nat.le_refl _))
      have TX := Lib.hid (TX.out.later b4 (Nat.le_refl _))
      have TY := Lib.hid (TY.out.later b4 (Nat.le_refl _))
      have HU := Lib.hid (HU.out.later b4 (Nat.le_refl _))
      have HP := Lib.hid (HP.out.later b4 (Nat.le_refl _))
      have HQ := Lib.hid (HQ.out.later b4 (Nat.le_refl _))
      have HB := Lib.hid (HB.out.trans (b4.mono HB.out.size))
      clear t4 b4 hd hb3
      unfold pkF
      go_upto_region 7 with fail
      have NP := (Below.refl w6.heap.size w6).alloc (Nat.le_refl _) (.cells #[.int .i64 (fr : Nat), .int .i64 (dt : Nat), .bool k, .int .i64 (ep : Nat), .int .i64 (sq : Nat), .slice A5 m4 c5] 24)
      have HV := Lib.hid (show Holds (w6.alloc (.cells #[.int .i64 (fr : Nat), .int .i64 (dt : Nat), .bool k, .int .i64 (ep : Nat), .int .i64 (sq : Nat), .slice A5 m4 c5] 24)) w6.heap.size 24 (pkF fr dt k ep sq A5 m4 c5) from Holds.new w6 24 _ w6.heap.size rfl)
      have TV := Lib.hid (TV.out.later NP (Nat.le_refl _))
      have TU := Lib.hid (TU.out.later NP (Nat.le_refl _))
      have TX := Lib.hid (TX.out.later NP (Nat.le_refl _))
      have TY := Lib.hid (TY.out.later NP (Nat.le_refl _))
      have HU := Lib.hid (HU.out.later NP (Nat.le_refl _))
      have HP := Lib.hid (HP.out.later NP (Nat.le_refl _))
      have HQ := Lib.hid (HQ.out.later NP (Nat.le_refl _))
      have HB := Lib.hid (HB.out.trans (NP.mono HB.out.size))
      clear NP
      generalize w6.heap.size = g13 at *
      generalize w6.alloc (.cells #[.int .i64 (fr : Nat), .int .i64 (dt : Nat), .bool k, .int .i64 (ep : Nat), .int .i64 (sq : Nat), .slice A5 m4 c5] 24) = w7 at *
      go_upto_region 8 with (first
        | (refine wpList_load_row rfl 24 (.tmp 3) rfl g1 rfl _ #[.int .i64 f1, .int .i64 d1, .bool k1, .int .i64 e1, .int .i64 s1, .slice A1 n1 c1] _ _ HP.out rk_under rfl rk_size ?_)
        | (go_at_call 7; refine (give_any f1 d1 k1 e1 s1 A1 n1 c1 l1 w7 HL1.out hn1 (HA1.out.later HB.out (Nat.le_refl _))).mono ?_; rintro e w8 ⟨A9, c9, rfl, t9, b9⟩)
        | (go_at_call 11; have Q := chk_any f1 d1 k1 e1 s1 A9 n1 c9 w8; rw [← HL1.out, EX.out] at Q; rw [HL1.out] at Q; refine Q.mono ?_; clear Q; rintro e w9 ⟨rfl, b10⟩))
      have b11 := b9.trans (b10.mono b9.size)
      have TV := Lib.hid (TV.out.later b11 (Nat.le_refl _))
      have TU := Lib.hid (TU.out.later b11 (Nat.le_refl _))
      have TX := Lib.hid (TX.out.later b11 (Nat.le_refl _))
      have TY := Lib.hid (TY.out.later b11 (Nat.le_refl _))
      have HU := Lib.hid (HU.out.later b11 (Nat.le_refl _))
      have HV := Lib.hid (HV.out.later b11 (Nat.le_refl _))
      have HP := Lib.hid (HP.out.later b11 (Nat.le_refl _))
      have HQ := Lib.hid (HQ.out.later b11 (Nat.le_refl _))
      have HB := Lib.hid (HB.out.trans (b11.mono HB.out.size))
      clear t9 b9 b10 b11
      refine wp_region_last (is ?g0 :: is (.string (strN L)) :: is ?g2 :: is (.string (strN L)) :: is ?g4 :: is ?g5 :: is ?g6 :: is (.int .i64 x) :: is ?g8 :: is ?g9 :: is ?g10 :: is ?g11 :: is (.agg (pkF fr dt k ep sq A4 m4 c4)) :: is (.agg (pkF fr dt k ep sq A5 m4 c5)) :: is (.bool true) :: is ?g15 :: is ?g16 :: is ?g17 :: is (.int .i64 y) :: is ?g19 :: is ?g20 :: is ?g21 :: is ?g22 :: is ?g23 :: is (.int .i64 x) :: is ?g25 :: is ?g26 :: is ?g27 :: is ?g28 :: is (.agg #[.int .i64 f1, .int .i64 d1, .bool k1, .int .i64 e1, .int .i64 s1, .slice A1 n1 c1]) :: (fun v W => ∃ A9 c9, v = .agg #[.int .i64 f1, .int .i64 d1, .bool k1, .int .i64 e1, .int .i64 s1, .slice A9 n1 c9] ∧ At W A9 (nats .u8 l1)) :: is (.agg #[.int .i64 f2, .int .i64 d2, .bool k2, .int .i64 e2, .int .i64 s2, .slice A2 n2 c2]) :: (fun v W => ∃ A9 c9, v = .agg #[.int .i64 f2, .int .i64 d2, .bool k2, .int .i64 e2, .int .i64 s2, .slice A9 n2 c9] ∧ At W A9 (nats .u8 l2)) :: is (.bool (pkEq f1 d1 k1 e1 s1 l1 f2 d2 k2 e2 s2 l2)) :: is (.agg #[.int .i64 f1, .int .i64 d1, .bool k1, .int .i64 e1, .int .i64 s1, .slice A1 n1 c1]) :: (fun v W => ∃ A9 c9, v = .agg #[.int .i64 f1, .int .i64 d1, .bool k1, .int .i64 e1, .int .i64 s1, .slice A9 n1 c9] ∧ At W A9 (nats .u8 l1)) :: is (.agg #[.int .i64 f2, .int .i64 d2, .bool k2, .int .i64 e2, .int .i64 s2, .slice A2 n2 c2]) :: is (.bool (pkEq f1 d1 k1 e1 s1 l1 f2 d2 k2 e2 s2 l2)) :: is ?g38 :: is ?g39 :: is ?g40 :: is (.bool true) :: is ?g42 :: is ?g43 :: [])
        [⟨[], [7], none⟩, ⟨[(67, 0)], [], none⟩, ⟨[], [9], none⟩, ⟨[(69, 2)], [], none⟩, ⟨[(68, 1), (70, 3)], [], none⟩, ⟨[(71, 4)], [], none⟩, ⟨[(72, 5)], [8], some (72, true)⟩, ⟨[(73, 6), (72, 5)], [], some (72, true)⟩, ⟨[(72, 5)], [10], some (72, true)⟩, ⟨[(74, 7), (75, 8), (72, 5)], [], some (72, true)⟩, ⟨[(72, 5), (76, 9)], [], none⟩, ⟨[(77, 10)], [], none⟩, ⟨[(78, 11)], [11], some (78, true)⟩, ⟨[(78, 11)], [13], some (78, true)⟩, ⟨[(79, 12), (80, 13), (78, 11)], [], some (78, true)⟩, ⟨[(78, 11), (81, 14)], [], none⟩, ⟨[(82, 15)], [], none⟩, ⟨[(83, 16)], [12], some (83, true)⟩, ⟨[(84, 17), (83, 16)], [], some (83, true)⟩, ⟨[(83, 16)], [14], some (83, true)⟩, ⟨[(85, 18), (86, 19), (83, 16)], [], some (83, true)⟩, ⟨[(83, 16), (87, 20)], [], none⟩, ⟨[(88, 21)], [], none⟩, ⟨[(89, 22)], [15], some (89, true)⟩, ⟨[(90, 23), (89, 22)], [], some (89, true)⟩, ⟨[(89, 22)], [10], some (89, true)⟩, ⟨[(91, 24), (92, 25), (89, 22)], [], some (89, true)⟩, ⟨[(89, 22), (93, 26)], [], none⟩, ⟨[(94, 27)], [], none⟩, ⟨[(95, 28)], [3], some (95, true)⟩, ⟨[(96, 29), (95, 28)], [], some (95, true)⟩, ⟨[(95, 28)], [4], some (95, true)⟩, ⟨[(98, 31), (95, 28)], [], some (95, true)⟩, ⟨[(97, 30), (99, 32), (95, 28)], [], some (95, true)⟩, ⟨[(95, 28)], [3], some (95, true)⟩, ⟨[(101, 34), (95, 28)], [], some (95, true)⟩, ⟨[(95, 28)], [4], some (95, true)⟩, ⟨[(102, 35), (103, 36), (95, 28)], [], some (95, true)⟩, ⟨[(100, 33), (104, 37), (95, 28)], [], some (95, true)⟩, ⟨[(95, 28), (105, 38)], [], none⟩, ⟨[(106, 39)], [], none⟩, ⟨[(107, 40)], [], some (107, true)⟩, ⟨[(107, 40), (108, 41)], [], none⟩, ⟨[(109, 42)], [], none⟩] (by kernel_rfl) (by kernel_rfl) (by kernel_rfl) (by kernel_rfl) (by kernel_rfl) ?monog ?stepsg ?fing
      case monog => exact ⟨mono_eq _, mono_eq _, mono_eq _, mono_eq _, mono_eq _, mono_eq _, mono_eq _, mono_eq _, mono_eq _, mono_eq _, mono_eq _, mono_eq _, mono_eq _, mono_eq _, mono_eq _, mono_eq _, mono_eq _, mono_eq _, mono_eq _, mono_eq _, mono_eq _, mono_eq _, mono_eq _, mono_eq _, mono_eq _, mono_eq _, mono_eq _, mono_eq _, mono_eq _, mono_eq _, (fun _ _ _ ⟨A3, c3, h1, h2⟩ hb => ⟨A3, c3, h1, h2.later hb (Nat.le_refl _)⟩), mono_eq _, (fun _ _ _ ⟨A3, c3, h1, h2⟩ hb => ⟨A3, c3, h1, h2.later hb (Nat.le_refl _)⟩), mono_eq _, mono_eq _, (fun _ _ _ ⟨A3, c3, h1, h2⟩ hb => ⟨A3, c3, h1, h2.later hb (Nat.le_refl _)⟩), mono_eq _, mono_eq _, mono_eq _, mono_eq _, mono_eq _, mono_eq _, mono_eq _, mono_eq _, trivial⟩
      case stepsg =>
        refine ⟨fun ρ W ⟨hcst, hglb, hfun⟩ hX hp ho => ?_, ?_⟩ -- 0: slot 67 := Op.move t7
        · obtain ⟨o7, -⟩ := ho
          change ρ (.tmp 7) = _ at o7
          refine turn_plain (ok_is ?_ rfl)
          simp only [execOp, o7]; go_simp; try exact rfl
        refine ⟨fun ρ W ⟨hcst, hglb, hfun⟩ hX hp ho => ?_, ?_⟩ -- 1: slot 68 := Op.convert 22 9 t67
        · obtain ⟨p67, -⟩ := hp
          change ρ (.tmp 67) = _ at p67
          have hW := (Below.refl _ _).drew.trans hX
          refine turn_plain ?_
          refine ok_is (by simp only [execOp, p67]; rw [Sem.run_bind, run_str W elt_u8.ht (by kernel_rfl) (by kernel_rfl) HLX.out (TX.out.later hW (Nat.le_refl _))]; rfl) rfl
        refine ⟨fun ρ W ⟨hcst, hglb, hfun⟩ hX hp ho => ?_, ?_⟩ -- 2: slot 69 := Op.move t9
        · obtain ⟨o9, -⟩ := ho
          change ρ (.tmp 9) = _ at o9
          refine turn_plain (ok_is ?_ rfl)
          simp only [execOp, o9]; go_simp; try exact rfl
        refine ⟨fun ρ W ⟨hcst, hglb, hfun⟩ hX hp ho => ?_, ?_⟩ -- 3: slot 70 := Op.convert 22 9 t69
        · obtain ⟨p69, -⟩ := hp
          change ρ (.tmp 69) = _ at p69
          have hW := (Below.refl _ _).drew.trans hX
          refine turn_plain ?_
          refine ok_is (by simp only [execOp, p69]; rw [Sem.run_bind, run_str W elt_u8.ht (by kernel_rfl) (by kernel_rfl) HLX.out (TY.out.later hW (Nat.le_refl _))]; rfl) rfl
        refine ⟨fun ρ W ⟨hcst, hglb, hfun⟩ hX hp ho => ?_, ?_⟩ -- 4: slot 71 := Op.binOp BinOp.eql 9 t68 t70 9
        · obtain ⟨p68, p70, -⟩ := hp
          change ρ (.tmp 68) = _ at p68
          change ρ (.tmp 70) = _ at p70
          refine turn_plain (ok_is ?_ rfl)
          simp only [execOp, p68, p70]; go_simp; try exact rfl
        refine ⟨fun ρ W ⟨hcst, hglb, hfun⟩ hX hp ho => ?_, ?_⟩ -- 5: slot 72 := Op.move t71
        · obtain ⟨p71, -⟩ := hp
          change ρ (.tmp 71) = _ at p71
          refine turn_plain (ok_is ?_ rfl)
          simp only [execOp, p71]; go_simp; try exact rfl
        refine ⟨fun ρ W ⟨hcst, hglb, hfun⟩ hX hp ho => ?_, ?_⟩ -- 6: slot 73 := Op.move t8   [guarded: some (5, true)]
        · obtain ⟨p72, -⟩ := hp
          change ρ (.tmp 72) = _ at p72
          obtain ⟨o8, -⟩ := ho
          change ρ (.tmp 8) = _ at o8
          refine turn_yes p72 (ok_is ?_ rfl)
          simp only [execOp, o8]; go_simp; try exact rfl
        refine ⟨fun ρ W ⟨hcst, hglb, hfun⟩ hX hp ho => ?_, ?_⟩ -- 7: slot 74 := Op.call { value (Operand.func 12), args := #[t73], argTypes := #[27] }   [guarded: some (5
        · obtain ⟨p73, p72, -⟩ := hp
          change ρ (.tmp 73) = _ at p73
          change ρ (.tmp 72) = _ at p72
          have hW := (Below.refl _ _).drew.trans hX
          refine turn_yes p72 ?_
          have ce := @enter_of Tryd.prog 12 _ Tryd.func12 (by kernel_rfl) (by kernel_rfl)
          refine ok_call (op_call1 hfun ce (by exact rfl) p73) ?_
          refine (num_er x W (HG.out.later (HB.out.trans (hW.mono HB.out.size)) (Nat.le_refl _))).mono ?_
          rintro e W' ⟨rfl, bel⟩
          exact ⟨_, rfl, bel, rfl⟩
        refine ⟨fun ρ W ⟨hcst, hglb, hfun⟩ hX hp ho => ?_, ?_⟩ -- 8: slot 75 := Op.move t10   [guarded: some (5, true)]
        · obtain ⟨p72, -⟩ := hp
          change ρ (.tmp 72) = _ at p72
          obtain ⟨o10, -⟩ := ho
          change ρ (.tmp 10) = _ at o10
          refine turn_yes p72 (ok_is ?_ rfl)
          simp only [execOp, o10]; go_simp; try exact rfl
        refine ⟨fun ρ W ⟨hcst, hglb, hfun⟩ hX hp ho => ?_, ?_⟩ -- 9: slot 76 := Op.binOp BinOp.eql 3 t74 t75 3   [guarded: some (5, true)]
        · obtain ⟨p74, p75, p72, -⟩ := hp
          change ρ (.tmp 74) = _ at p74
          change ρ (.tmp 75) = _ at p75
          change ρ (.tmp 72) = _ at p72
          refine turn_yes p72 (ok_is ?_ rfl)
          simp only [execOp, p74, p75]; go_simp; try exact rfl
        refine ⟨fun ρ W ⟨hcst, hglb, hfun⟩ hX hp ho => ?_, ?_⟩ -- 10: slot 77 := Op.pick t72 t76 (const (Value.bool false))
        · obtain ⟨p72, p76, -⟩ := hp
          change ρ (.tmp 72) = _ at p72
          change ρ (.tmp 76) = _ at p76
          refine turn_plain (ok_is ?_ rfl)
          simp only [execOp, hcst, p72, p76]; go_simp; try exact rfl
        refine ⟨fun ρ W ⟨hcst, hglb, hfun⟩ hX hp ho => ?_, ?_⟩ -- 11: slot 78 := Op.move t77
        · obtain ⟨p77, -⟩ := hp
          change ρ (.tmp 77) = _ at p77
          refine turn_plain (ok_is ?_ rfl)
          simp only [execOp, p77]; go_simp; try exact rfl
        refine ⟨fun ρ W ⟨hcst, hglb, hfun⟩ hX hp ho => ?_, ?_⟩ -- 12: slot 79 := Op.load 30 t11   [guarded: some (11, true)]
        · obtain ⟨p78, -⟩ := hp
          change ρ (.tmp 78) = _ at p78
          obtain ⟨o11, -⟩ := ho
          change ρ (.tmp 11) = _ at o11
          have hW := (Below.refl _ _).drew.trans hX
          refine turn_yes p78 ?_
          exact ok_is (exec_load_row 30 (.tmp 11) rfl g11 o11 30 (pkF fr dt k ep sq A4 m4 c4) _ _ (HU.out.later hW (Nat.le_refl _)) pk_under rfl pk_size) rfl
        refine ⟨fun ρ W ⟨hcst, hglb, hfun⟩ hX hp ho => ?_, ?_⟩ -- 13: slot 80 := Op.load 24 t13   [guarded: some (11, true)]
        · obtain ⟨p78, -⟩ := hp
          change ρ (.tmp 78) = _ at p78
          obtain ⟨o13, -⟩ := ho
          change ρ (.tmp 13) = _ at o13
          have hW := (Below.refl _ _).drew.trans hX
          refine turn_yes p78 ?_
          exact ok_is (exec_load_row 24 (.tmp 13) rfl g13 o13 24 (pkF fr dt k ep sq A5 m4 c5) _ _ (HV.out.later hW (Nat.le_refl _)) rk_under rfl rk_size) rfl
        refine ⟨fun ρ W ⟨hcst, hglb, hfun⟩ hX hp ho => ?_, ?_⟩ -- 14: slot 81 := Op.call { value (Operand.func 13), args := #[t79, t80], argTypes := #[30, 24] }   [guarded
        · obtain ⟨p79, p80, p78, -⟩ := hp
          change ρ (.tmp 79) = _ at p79
          change ρ (.tmp 80) = _ at p80
          change ρ (.tmp 78) = _ at p78
          have hW := (Below.refl _ _).drew.trans hX
          refine turn_yes p78 ?_
          have ce := @enter_of Tryd.prog 13 _ Tryd.func13 (by kernel_rfl) (by kernel_rfl)
          refine ok_call (op_call2 hfun ce (by exact rfl) p79 p80) ?_
          refine ((isp_any fr dt k ep sq A4 m4 c4 bd fr dt k ep sq A5 m4 c5 bd W HBD.out HBD.out (TU.out.later hW (Nat.le_refl _)) (TV.out.later hW (Nat.le_refl _)) HBB.out HBB.out)).mono ?_
          rintro e W' ⟨rfl, bel⟩
          exact ⟨_, rfl, bel, by rw [pkEq_self]; rfl⟩
        refine ⟨fun ρ W ⟨hcst, hglb, hfun⟩ hX hp ho => ?_, ?_⟩ -- 15: slot 82 := Op.pick t78 t81 (const (Value.bool false))
        · obtain ⟨p78, p81, -⟩ := hp
          change ρ (.tmp 78) = _ at p78
          change ρ (.tmp 81) = _ at p81
          refine turn_plain (ok_is ?_ rfl)
          simp only [execOp, hcst, p78, p81]; go_simp; try exact rfl
        refine ⟨fun ρ W ⟨hcst, hglb, hfun⟩ hX hp ho => ?_, ?_⟩ -- 16: slot 83 := Op.move t82
        · obtain ⟨p82, -⟩ := hp
          change ρ (.tmp 82) = _ at p82
          refine turn_plain (ok_is ?_ rfl)
          simp only [execOp, p82]; go_simp; try exact rfl
        refine ⟨fun ρ W ⟨hcst, hglb, hfun⟩ hX hp ho => ?_, ?_⟩ -- 17: slot 84 := Op.move t12   [guarded: some (16, true)]
        · obtain ⟨p83, -⟩ := hp
          change ρ (.tmp 83) = _ at p83
          obtain ⟨o12, -⟩ := ho
          change ρ (.tmp 12) = _ at o12
          refine turn_yes p83 (ok_is ?_ rfl)
          simp only [execOp, o12]; go_simp; try exact rfl
        refine ⟨fun ρ W ⟨hcst, hglb, hfun⟩ hX hp ho => ?_, ?_⟩ -- 18: slot 85 := Op.call { value (Operand.func 12), args := #[t84], argTypes := #[27] }   [guarded: some (1
        · obtain ⟨p84, p83, -⟩ := hp
          change ρ (.tmp 84) = _ at p84
          change ρ (.tmp 83) = _ at p83
          have hW := (Below.refl _ _).drew.trans hX
          refine turn_yes p83 ?_
          have ce := @enter_of Tryd.prog 12 _ Tryd.func12 (by kernel_rfl) (by kernel_rfl)
          refine ok_call (op_call1 hfun ce (by exact rfl) p84) ?_
          refine (num_er y W (HG.out.later (HB.out.trans (hW.mono HB.out.size)) (Nat.le_refl _))).mono ?_
          rintro e W' ⟨rfl, bel⟩
          exact ⟨_, rfl, bel, rfl⟩
        refine ⟨fun ρ W ⟨hcst, hglb, hfun⟩ hX hp ho => ?_, ?_⟩ -- 19: slot 86 := Op.move t14   [guarded: some (16, true)]
        · obtain ⟨p83, -⟩ := hp
          change ρ (.tmp 83) = _ at p83
          obtain ⟨o14, -⟩ := ho
          change ρ (.tmp 14) = _ at o14
          refine turn_yes p83 (ok_is ?_ rfl)
          simp only [execOp, o14]; go_simp; try exact rfl
        refine ⟨fun ρ W ⟨hcst, hglb, hfun⟩ hX hp ho => ?_, ?_⟩ -- 20: slot 87 := Op.binOp BinOp.eql 3 t85 t86 3   [guarded: some (16, true)]
        · obtain ⟨p85, p86, p83, -⟩ := hp
          change ρ (.tmp 85) = _ at p85
          change ρ (.tmp 86) = _ at p86
          change ρ (.tmp 83) = _ at p83
          refine turn_yes p83 (ok_is ?_ rfl)
          simp only [execOp, p85, p86]; go_simp; try exact rfl
        refine ⟨fun ρ W ⟨hcst, hglb, hfun⟩ hX hp ho => ?_, ?_⟩ -- 21: slot 88 := Op.pick t83 t87 (const (Value.bool false))
        · obtain ⟨p83, p87, -⟩ := hp
          change ρ (.tmp 83) = _ at p83
          change ρ (.tmp 87) = _ at p87
          refine turn_plain (ok_is ?_ rfl)
          simp only [execOp, hcst, p83, p87]; go_simp; try exact rfl
        refine ⟨fun ρ W ⟨hcst, hglb, hfun⟩ hX hp ho => ?_, ?_⟩ -- 22: slot 89 := Op.move t88
        · obtain ⟨p88, -⟩ := hp
          change ρ (.tmp 88) = _ at p88
          refine turn_plain (ok_is ?_ rfl)
          simp only [execOp, p88]; go_simp; try exact rfl
        refine ⟨fun ρ W ⟨hcst, hglb, hfun⟩ hX hp ho => ?_, ?_⟩ -- 23: slot 90 := Op.move t15   [guarded: some (22, true)]
        · obtain ⟨p89, -⟩ := hp
          change ρ (.tmp 89) = _ at p89
          obtain ⟨o15, -⟩ := ho
          change ρ (.tmp 15) = _ at o15
          refine turn_yes p89 (ok_is ?_ rfl)
          simp only [execOp, o15]; go_simp; try exact rfl
        refine ⟨fun ρ W ⟨hcst, hglb, hfun⟩ hX hp ho => ?_, ?_⟩ -- 24: slot 91 := Op.call { value (Operand.func 12), args := #[t90], argTypes := #[27] }   [guarded: some (2
        · obtain ⟨p90, p89, -⟩ := hp
          change ρ (.tmp 90) = _ at p90
          change ρ (.tmp 89) = _ at p89
          have hW := (Below.refl _ _).drew.trans hX
          refine turn_yes p89 ?_
          have ce := @enter_of Tryd.prog 12 _ Tryd.func12 (by kernel_rfl) (by kernel_rfl)
          refine ok_call (op_call1 hfun ce (by exact rfl) p90) ?_
          refine (num_er x W (HG.out.later (HB.out.trans (hW.mono HB.out.size)) (Nat.le_refl _))).mono ?_
          rintro e W' ⟨rfl, bel⟩
          exact ⟨_, rfl, bel, rfl⟩
        refine ⟨fun ρ W ⟨hcst, hglb, hfun⟩ hX hp ho => ?_, ?_⟩ -- 25: slot 92 := Op.move t10   [guarded: some (22, true)]
        · obtain ⟨p89, -⟩ := hp
          change ρ (.tmp 89) = _ at p89
          obtain ⟨o10, -⟩ := ho
          change ρ (.tmp 10) = _ at o10
          refine turn_yes p89 (ok_is ?_ rfl)
          simp only [execOp, o10]; go_simp; try exact rfl
        refine ⟨fun ρ W ⟨hcst, hglb, hfun⟩ hX hp ho => ?_, ?_⟩ -- 26: slot 93 := Op.binOp BinOp.eql 3 t91 t92 3   [guarded: some (22, true)]
        · obtain ⟨p91, p92, p89, -⟩ := hp
          change ρ (.tmp 91) = _ at p91
          change ρ (.tmp 92) = _ at p92
          change ρ (.tmp 89) = _ at p89
          refine turn_yes p89 (ok_is ?_ rfl)
          simp only [execOp, p91, p92]; go_simp; try exact rfl
        refine ⟨fun ρ W ⟨hcst, hglb, hfun⟩ hX hp ho => ?_, ?_⟩ -- 27: slot 94 := Op.pick t89 t93 (const (Value.bool false))
        · obtain ⟨p89, p93, -⟩ := hp
          change ρ (.tmp 89) = _ at p89
          change ρ (.tmp 93) = _ at p93
          refine turn_plain (ok_is ?_ rfl)
          simp only [execOp, hcst, p89, p93]; go_simp; try exact rfl
        refine ⟨fun ρ W ⟨hcst, hglb, hfun⟩ hX hp ho => ?_, ?_⟩ -- 28: slot 95 := Op.move t94
        · obtain ⟨p94, -⟩ := hp
          change ρ (.tmp 94) = _ at p94
          refine turn_plain (ok_is ?_ rfl)
          simp only [execOp, p94]; go_simp; try exact rfl
        refine ⟨fun ρ W ⟨hcst, hglb, hfun⟩ hX hp ho => ?_, ?_⟩ -- 29: slot 96 := Op.load 24 t3   [guarded: some (28, true)]
        · obtain ⟨p95, -⟩ := hp
          change ρ (.tmp 95) = _ at p95
          obtain ⟨o3, -⟩ := ho
          change ρ (.tmp 3) = _ at o3
          have hW := (Below.refl _ _).drew.trans hX
          refine turn_yes p95 ?_
          exact ok_is (exec_load_row 24 (.tmp 3) rfl g1 o3 24 #[.int .i64 f1, .int .i64 d1, .bool k1, .int .i64 e1, .int .i64 s1, .slice A1 n1 c1] _ _ (HP.out.later hW (Nat.le_refl _)) rk_under rfl rk_size) rfl
        refine ⟨fun ρ W ⟨hcst, hglb, hfun⟩ hX hp ho => ?_, ?_⟩ -- 30: slot 97 := Op.call { value (Operand.func 7), args := #[t96], argTypes := #[24] }   [guarded: some (28
        · obtain ⟨p96, p95, -⟩ := hp
          change ρ (.tmp 96) = _ at p96
          change ρ (.tmp 95) = _ at p95
          have hW := (Below.refl _ _).drew.trans hX
          refine turn_yes p95 ?_
          have ce := @enter_of Tryd.prog 7 _ Tryd.func7 (by kernel_rfl) (by kernel_rfl)
          refine ok_call (op_call1 hfun ce (by exact rfl) p96) ?_
          refine (give_any f1 d1 k1 e1 s1 A1 n1 c1 l1 W HL1.out hn1 (HA1.out.later (HB.out.trans (hW.mono HB.out.size)) (Nat.le_refl _))).mono ?_
          rintro e W' ⟨A9, c9, rfl, hat, bel⟩
          exact ⟨_, rfl, bel, A9, c9, rfl, hat⟩
        refine ⟨fun ρ W ⟨hcst, hglb, hfun⟩ hX hp ho => ?_, ?_⟩ -- 31: slot 98 := Op.load 24 t4   [guarded: some (28, true)]
        · obtain ⟨p95, -⟩ := hp
          change ρ (.tmp 95) = _ at p95
          obtain ⟨o4, -⟩ := ho
          change ρ (.tmp 4) = _ at o4
          have hW := (Below.refl _ _).drew.trans hX
          refine turn_yes p95 ?_
          exact ok_is (exec_load_row 24 (.tmp 4) rfl g2 o4 24 #[.int .i64 f2, .int .i64 d2, .bool k2, .int .i64 e2, .int .i64 s2, .slice A2 n2 c2] _ _ (HQ.out.later hW (Nat.le_refl _)) rk_under rfl rk_size) rfl
        refine ⟨fun ρ W ⟨hcst, hglb, hfun⟩ hX hp ho => ?_, ?_⟩ -- 32: slot 99 := Op.call { value (Operand.func 7), args := #[t98], argTypes := #[24] }   [guarded: some (28
        · obtain ⟨p98, p95, -⟩ := hp
          change ρ (.tmp 98) = _ at p98
          change ρ (.tmp 95) = _ at p95
          have hW := (Below.refl _ _).drew.trans hX
          refine turn_yes p95 ?_
          have ce := @enter_of Tryd.prog 7 _ Tryd.func7 (by kernel_rfl) (by kernel_rfl)
          refine ok_call (op_call1 hfun ce (by exact rfl) p98) ?_
          refine (give_any f2 d2 k2 e2 s2 A2 n2 c2 l2 W HL2.out hn2 (HA2.out.later (HB.out.trans (hW.mono HB.out.size)) (Nat.le_refl _))).mono ?_
          rintro e W' ⟨A9, c9, rfl, hat, bel⟩
          exact ⟨_, rfl, bel, A9, c9, rfl, hat⟩
        refine ⟨fun ρ W ⟨hcst, hglb, hfun⟩ hX hp ho => ?_, ?_⟩ -- 33: slot 100 := Op.call { value (Operand.func 14), args := #[t97, t99], argTypes := #[30, 30] }   [guarded
        · obtain ⟨p97, p99, p95, -⟩ := hp
          obtain ⟨A97, c97, p97, hat97⟩ := p97
          change ρ (.tmp 97) = _ at p97
          obtain ⟨A99, c99, p99, hat99⟩ := p99
          change ρ (.tmp 99) = _ at p99
          change ρ (.tmp 95) = _ at p95
          have hW := (Below.refl _ _).drew.trans hX
          refine turn_yes p95 ?_
          have ce := @enter_of Tryd.prog 14 _ Tryd.func14 (by kernel_rfl) (by kernel_rfl)
          refine ok_call (op_call2 hfun ce (by exact rfl) p97 p99) ?_
          refine (same_any f1 d1 k1 e1 s1 A97 n1 c97 l1 f2 d2 k2 e2 s2 A99 n2 c99 l2 W HL1.out HL2.out hat97 hat99 HY1.out HY2.out).mono ?_
          rintro e W' ⟨rfl, bel⟩
          exact ⟨_, rfl, bel, rfl⟩
        refine ⟨fun ρ W ⟨hcst, hglb, hfun⟩ hX hp ho => ?_, ?_⟩ -- 34: slot 101 := Op.load 24 t3   [guarded: some (28, true)]
        · obtain ⟨p95, -⟩ := hp
          change ρ (.tmp 95) = _ at p95
          obtain ⟨o3, -⟩ := ho
          change ρ (.tmp 3) = _ at o3
          have hW := (Below.refl _ _).drew.trans hX
          refine turn_yes p95 ?_
          exact ok_is (exec_load_row 24 (.tmp 3) rfl g1 o3 24 #[.int .i64 f1, .int .i64 d1, .bool k1, .int .i64 e1, .int .i64 s1, .slice A1 n1 c1] _ _ (HP.out.later hW (Nat.le_refl _)) rk_under rfl rk_size) rfl
        refine ⟨fun ρ W ⟨hcst, hglb, hfun⟩ hX hp ho => ?_, ?_⟩ -- 35: slot 102 := Op.call { value (Operand.func 7), args := #[t101], argTypes := #[24] }   [guarded: some (2
        · obtain ⟨p101, p95, -⟩ := hp
          change ρ (.tmp 101) = _ at p101
          change ρ (.tmp 95) = _ at p95
          have hW := (Below.refl _ _).drew.trans hX
          refine turn_yes p95 ?_
          have ce := @enter_of Tryd.prog 7 _ Tryd.func7 (by kernel_rfl) (by kernel_rfl)
          refine ok_call (op_call1 hfun ce (by exact rfl) p101) ?_
          refine (give_any f1 d1 k1 e1 s1 A1 n1 c1 l1 W HL1.out hn1 (HA1.out.later (HB.out.trans (hW.mono HB.out.size)) (Nat.le_refl _))).mono ?_
          rintro e W' ⟨A9, c9, rfl, hat, bel⟩
          exact ⟨_, rfl, bel, A9, c9, rfl, hat⟩
        refine ⟨fun ρ W ⟨hcst, hglb, hfun⟩ hX hp ho => ?_, ?_⟩ -- 36: slot 103 := Op.load 24 t4   [guarded: some (28, true)]
        · obtain ⟨p95, -⟩ := hp
          change ρ (.tmp 95) = _ at p95
          obtain ⟨o4, -⟩ := ho
          change ρ (.tmp 4) = _ at o4
          have hW := (Below.refl _ _).drew.trans hX
          refine turn_yes p95 ?_
          exact ok_is (exec_load_row 24 (.tmp 4) rfl g2 o4 24 #[.int .i64 f2, .int .i64 d2, .bool k2, .int .i64 e2, .int .i64 s2, .slice A2 n2 c2] _ _ (HQ.out.later hW (Nat.le_refl _)) rk_under rfl rk_size) rfl
        refine ⟨fun ρ W ⟨hcst, hglb, hfun⟩ hX hp ho => ?_, ?_⟩ -- 37: slot 104 := Op.call { value (Operand.func 13), args := #[t102, t103], argTypes := #[30, 24] }   [guard
        · obtain ⟨p102, p103, p95, -⟩ := hp
          obtain ⟨A102, c102, p102, hat102⟩ := p102
          change ρ (.tmp 102) = _ at p102
          change ρ (.tmp 103) = _ at p103
          change ρ (.tmp 95) = _ at p95
          have hW := (Below.refl _ _).drew.trans hX
          refine turn_yes p95 ?_
          have ce := @enter_of Tryd.prog 13 _ Tryd.func13 (by kernel_rfl) (by kernel_rfl)
          refine ok_call (op_call2 hfun ce (by exact rfl) p102 p103) ?_
          refine (isp_any f1 d1 k1 e1 s1 A102 n1 c102 l1 f2 d2 k2 e2 s2 A2 n2 c2 l2 W HL1.out HL2.out hat102 (HA2.out.later (HB.out.trans (hW.mono HB.out.size)) (Nat.le_refl _)) HY1.out HY2.out).mono ?_
          rintro e W' ⟨rfl, bel⟩
          exact ⟨_, rfl, bel, rfl⟩
        refine ⟨fun ρ W ⟨hcst, hglb, hfun⟩ hX hp ho => ?_, ?_⟩ -- 38: slot 105 := Op.binOp BinOp.eql 4 t100 t104 4   [guarded: some (28, true)]
        · obtain ⟨p100, p104, p95, -⟩ := hp
          change ρ (.tmp 100) = _ at p100
          change ρ (.tmp 104) = _ at p104
          change ρ (.tmp 95) = _ at p95
          refine turn_yes p95 (ok_is ?_ rfl)
          simp only [execOp, p100, p104]; go_simp; try exact rfl
        refine ⟨fun ρ W ⟨hcst, hglb, hfun⟩ hX hp ho => ?_, ?_⟩ -- 39: slot 106 := Op.pick t95 t105 (const (Value.bool false))
        · obtain ⟨p95, p105, -⟩ := hp
          change ρ (.tmp 95) = _ at p95
          change ρ (.tmp 105) = _ at p105
          refine turn_plain (ok_is ?_ rfl)
          simp only [execOp, hcst, p95, p105]; go_simp; try exact rfl
        refine ⟨fun ρ W ⟨hcst, hglb, hfun⟩ hX hp ho => ?_, ?_⟩ -- 40: slot 107 := Op.move t106
        · obtain ⟨p106, -⟩ := hp
          change ρ (.tmp 106) = _ at p106
          refine turn_plain (ok_is ?_ rfl)
          simp only [execOp, p106]; go_simp; try exact rfl
        refine ⟨fun ρ W ⟨hcst, hglb, hfun⟩ hX hp ho => ?_, ?_⟩ -- 41: slot 108 := Op.call { value (Operand.func 5), args := #[], argTypes := #[] }   [guarded: some (40, tru
        · obtain ⟨p107, -⟩ := hp
          change ρ (.tmp 107) = _ at p107
          have hW := (Below.refl _ _).drew.trans hX
          refine turn_yes p107 ?_
          have ce := @enter_of Tryd.prog 5 _ Tryd.func5 (by kernel_rfl) (by kernel_rfl)
          refine ok_call (op_call0 hfun ce (by exact rfl) ) ?_
          refine (sure14 W (HG.out.later (HB.out.trans (hW.mono HB.out.size)) (Nat.le_refl _))).mono ?_
          rintro e W' ⟨rfl, bel⟩
          exact ⟨_, rfl, bel, rfl⟩
        refine ⟨fun ρ W ⟨hcst, hglb, hfun⟩ hX hp ho => ?_, ?_⟩ -- 42: slot 109 := Op.pick t107 t108 (const (Value.bool false))
        · obtain ⟨p107, p108, -⟩ := hp
          change ρ (.tmp 107) = _ at p107
          change ρ (.tmp 108) = _ at p108
          refine turn_plain (ok_is ?_ rfl)
          simp only [execOp, hcst, p107, p108]; go_simp; try exact rfl
        refine ⟨fun ρ W ⟨hcst, hglb, hfun⟩ hX hp ho => ?_, ?_⟩ -- 43: slot 6 := Op.assign t109
        · obtain ⟨p109, -⟩ := hp
          change ρ (.tmp 109) = _ at p109
          refine turn_plain (ok_is ?_ rfl)
          simp only [execOp, p109]; go_simp; try exact rfl
        exact trivial
      case fing =>
        intro a W hX hsz hdf hold hR
        have hv := hR 43 6 rfl
        change a.tmps.getD 6 undef = _ at hv
        clear hold hR hsz
        go_wp2_with fail
        exact post_letter rfl hv hdf ⟨rfl, HB.out.trans (hX.mono HB.out.size)⟩
end
end Go.Proofs.YtlimabhojocimaaDoor
