/- Layer 23: QuorumRuns, too many, and where there may be none. -/
import Derived.Test.YtkpangeeldhjfaaDoorQuN
namespace Go.Proofs.YtkpangeeldhjfaaDoor
open Go.RowKit
set_option maxRecDepth 100000 in
set_option maxHeartbeats 1000000 in
theorem qruns_long (A0 : Option Addr) (n0 c0 : Nat) (l0 : List Int) (N T : Int) (A2 : Option Addr) (n2 c2 : Nat) (w : World) (e0 : l0.length = n0) (a0 : At w A0 (ints .i64 l0)) (y0 : A0 = none → n0 = 0) (m2 : n2 ≤ 9223372036854775807) (a2 : ∀ i, i < n2 → Act2 w A2 i) (hg : Glob w) (h : 100 < n0) :
    Calls Tryd.prog 3 #[.slice A0 n0 c0, .agg #[.int .i64 N, .int .i64 T], .slice A2 n2 c2] w fun e w' => e = .returned (.bool true) ∧ Below w.heap.size w w' := by
  have HG := Lib.hid hg
  have d1 : decide (100 < n0) = true := decide_eq_true h
  clear hg a0 a2 y0
  have P0 := Lib.hid (Holds.new w 23 #[.int .i64 N, .int .i64 T] w.heap.size rfl)
  have BA := Lib.hid ((Below.refl w.heap.size w).alloc (Nat.le_refl _) (.cells #[.int .i64 N, .int .i64 T] 23))
  go_enter Tryd.func3, Tryd.ntmps3
  go_wp2_with fail
  generalize (w.alloc (.cells #[.int .i64 N, .int .i64 T] 23)) = u0 at *
  have GA := Lib.hid (HG.out.later BA.out (Nat.le_refl _))
  refine (qtick_nil _).mono ?_
  rintro e w1 ⟨rfl, rfl⟩
  go_wp2_with fail
  refine (qcame_nil _ _).mono ?_
  rintro e w1 ⟨rfl, rfl⟩
  go_wp2_with fail
  refine (num23_err 1 _ GA.out).mono ?_
  rintro e u1 ⟨rfl, b1⟩
  have B1 := Lib.hid (BA.out.trans (b1.mono BA.out.size))
  have G1 := Lib.hid (GA.out.later b1 (Nat.le_refl _))
  have P1 := Lib.hid (P0.out.later b1 (Nat.le_refl _))
  clear b1 BA GA P0
  go_wp2_with fail
  refine (qgone_nil _ _).mono ?_
  rintro e w1 ⟨rfl, rfl⟩
  go_wp2_with fail
  refine (num23_err 1 _ G1.out).mono ?_
  rintro e u2 ⟨rfl, b2⟩
  have B2 := Lib.hid (B1.out.trans (b2.mono B1.out.size))
  have G2 := Lib.hid (G1.out.later b2 (Nat.le_refl _))
  have P2 := Lib.hid (P1.out.later b2 (Nat.le_refl _))
  clear b2 B1 G1 P1
  go_wp2_with fail
  refine (qstate_nil _).mono ?_
  rintro e w1 ⟨rfl, rfl⟩
  go_wp2_with fail
  refine (qin_nil _).mono ?_
  rintro e w1 ⟨rfl, rfl⟩
  go_wp2_with fail
  refine (qlacks_nil _).mono ?_
  rintro e w1 ⟨rfl, rfl⟩
  have p0 := P2.out.cell 0
  have p1 := P2.out.cell 1
  simp only [List.getElem?_toArray, List.getElem?_cons_zero, List.getElem?_cons_succ] at p0 p1
  go_wp2_with fail
  refine (sure23 _ G2.out).mono ?_
  rintro e w' ⟨rfl, bb⟩
  have BB := Lib.hid (B2.out.trans (bb.mono B2.out.size))
  clear bb
  go_wp2_with fail
  go_ret
  exact ⟨rfl, BB.out⟩
set_option maxRecDepth 100000 in
set_option maxHeartbeats 1000000 in
theorem qruns_bad (A0 : Option Addr) (n0 c0 : Nat) (l0 : List Int) (N T : Int) (A2 : Option Addr) (n2 c2 : Nat) (w : World) (e0 : l0.length = n0) (a0 : At w A0 (ints .i64 l0)) (y0 : A0 = none → n0 = 0) (m2 : n2 ≤ 9223372036854775807) (a2 : ∀ i, i < n2 → Act2 w A2 i) (hg : Glob w) (h2 : n0 ≤ 100) (h : mayT l0 N T = false) :
    Calls Tryd.prog 3 #[.slice A0 n0 c0, .agg #[.int .i64 N, .int .i64 T], .slice A2 n2 c2] w fun e w' => e = .returned (.bool true) ∧ Below w.heap.size w w' := by
  have HG := Lib.hid hg
  have E0 := Lib.hid e0
  have T0 := Lib.hid a0
  have HH := Lib.hid h
  have d1 : decide (100 < n0) = false := decide_eq_false (by omega)
  clear hg a0 a2 y0 e0 h
  have P0 := Lib.hid (Holds.new w 23 #[.int .i64 N, .int .i64 T] w.heap.size rfl)
  have BA := Lib.hid ((Below.refl w.heap.size w).alloc (Nat.le_refl _) (.cells #[.int .i64 N, .int .i64 T] 23))
  go_enter Tryd.func3, Tryd.ntmps3
  go_wp2_with fail
  generalize (w.alloc (.cells #[.int .i64 N, .int .i64 T] 23)) = u0 at *
  have GA := Lib.hid (HG.out.later BA.out (Nat.le_refl _))
  refine (qtick_nil _).mono ?_
  rintro e w1 ⟨rfl, rfl⟩
  go_wp2_with fail
  refine (qcame_nil _ _).mono ?_
  rintro e w1 ⟨rfl, rfl⟩
  go_wp2_with fail
  refine (num23_err 1 _ GA.out).mono ?_
  rintro e u1 ⟨rfl, b1⟩
  have B1 := Lib.hid (BA.out.trans (b1.mono BA.out.size))
  have G1 := Lib.hid (GA.out.later b1 (Nat.le_refl _))
  have P1 := Lib.hid (P0.out.later b1 (Nat.le_refl _))
  clear b1 BA GA P0
  go_wp2_with fail
  refine (qgone_nil _ _).mono ?_
  rintro e w1 ⟨rfl, rfl⟩
  go_wp2_with fail
  refine (num23_err 1 _ G1.out).mono ?_
  rintro e u2 ⟨rfl, b2⟩
  have B2 := Lib.hid (B1.out.trans (b2.mono B1.out.size))
  have G2 := Lib.hid (G1.out.later b2 (Nat.le_refl _))
  have P2 := Lib.hid (P1.out.later b2 (Nat.le_refl _))
  clear b2 B1 G1 P1
  go_wp2_with fail
  refine (qstate_nil _).mono ?_
  rintro e w1 ⟨rfl, rfl⟩
  go_wp2_with fail
  refine (qin_nil _).mono ?_
  rintro e w1 ⟨rfl, rfl⟩
  go_wp2_with fail
  refine (qlacks_nil _).mono ?_
  rintro e w1 ⟨rfl, rfl⟩
  have p0 := P2.out.cell 0
  have p1 := P2.out.cell 1
  simp only [List.getElem?_toArray, List.getElem?_cons_zero, List.getElem?_cons_succ] at p0 p1
  go_wp2_with fail
  refine (qnew_no A0 n0 c0 l0 N T _ E0.out (by omega) (T0.out.later B2.out (Nat.le_refl _)) HH.out).mono ?_
  rintro e w2 ⟨rfl, rfl⟩
  go_wp2_with fail
  refine (rmay_any A0 n0 c0 l0 N T _ E0.out (by omega) (T0.out.later B2.out (Nat.le_refl _))).mono ?_
  rintro e w3 ⟨rfl, b3⟩
  rw [HH.out]
  have B3 := Lib.hid (B2.out.trans (b3.mono B2.out.size))
  have G3 := Lib.hid (G2.out.later b3 (Nat.le_refl _))
  clear b3 p0 p1 P2
  go_wp2_with fail
  refine (num23_err 1 _ G3.out).mono ?_
  rintro e w4 ⟨rfl, b4⟩
  have B4 := Lib.hid (B3.out.trans (b4.mono B3.out.size))
  have G4 := Lib.hid (G3.out.later b4 (Nat.le_refl _))
  clear b4
  go_wp2_with fail
  refine (sure23 _ G4.out).mono ?_
  rintro e w' ⟨rfl, bb⟩
  have BB := Lib.hid (B4.out.trans (bb.mono B4.out.size))
  clear bb
  go_wp2_with fail
  go_ret
  exact ⟨rfl, BB.out⟩
end Go.Proofs.YtkpangeeldhjfaaDoor
