/- Layer 14: Same, and the law's own isPacket. Printed by frt.py. -/
import Derived.Test.YtlimabhojocimaaDoorFrS
namespace Go.Proofs.YtlimabhojocimaaDoor
open Go.RowKit
/-- whether two packets are the same -/
def pkEq (f d : Int) (k : Bool) (e s : Int) (l : List Nat) (f2 d2 : Int) (k2 : Bool) (e2 s2 : Int) (l2 : List Nat) : Bool := decide (f = f2 ∧ d = d2 ∧ k = k2 ∧ e = e2 ∧ s = s2 ∧ l = l2)
set_option maxRecDepth 100000 in
set_option maxHeartbeats 2000000 in
theorem same_any (f d : Int) (k : Bool) (e s : Int) (A : Option Addr) (n c : Nat) (l : List Nat) (f2 d2 : Int) (k2 : Bool) (e2 s2 : Int) (A2 : Option Addr) (n2 c2 : Nat) (l2 : List Nat) (w : World) (hl : l.length = n) (hl2 : l2.length = n2) (ha : At w A (nats .u8 l)) (ha2 : At w A2 (nats .u8 l2)) (hb : ∀ i, l.getD i 0 < 256) (hb2 : ∀ i, l2.getD i 0 < 256) :
    Calls Tryd.prog 14 #[.agg #[.int .i64 f, .int .i64 d, .bool k, .int .i64 e, .int .i64 s, .slice A n c], .agg #[.int .i64 f2, .int .i64 d2, .bool k2, .int .i64 e2, .int .i64 s2, .slice A2 n2 c2]] w fun e' w' => e' = .returned (.bool (pkEq f d k e s l f2 d2 k2 e2 s2 l2)) ∧ Below w.heap.size w w' := by
  have HA := Lib.hid ha
  have HA2 := Lib.hid ha2
  have HB := Lib.hid (((Below.refl w.heap.size w).alloc (Nat.le_refl _) (.cells #[.int .i64 f, .int .i64 d, .bool k, .int .i64 e, .int .i64 s, .slice A n c] 30)).alloc (by simp) (.cells #[.int .i64 f2, .int .i64 d2, .bool k2, .int .i64 e2, .int .i64 s2, .slice A2 n2 c2] 30))
  have HL := Lib.hid hl
  have HL2 := Lib.hid hl2
  have HBY := Lib.hid hb
  have HBY2 := Lib.hid hb2
  clear ha ha2 hl hl2 hb hb2
  by_cases h0 : f = f2
  rotate_left
  · have hr : pkEq f d k e s l f2 d2 k2 e2 s2 l2 = false := by unfold pkEq; simp [h0]
    have x0 : (f == f2) = false := by simpa using h0
    have y0 : decide (f = f2) = false := by simpa using h0
    rw [hr]
    have HR := Lib.hid hr
    clear hr
    go_enter Tryd.func14, Tryd.ntmps14
    go_wp2_with fail
    go_ret
    exact ⟨rfl, HB.out⟩
  subst h0
  by_cases h1 : d = d2
  rotate_left
  · have hr : pkEq f d k e s l f d2 k2 e2 s2 l2 = false := by unfold pkEq; simp [h1]
    have x1 : (d == d2) = false := by simpa using h1
    have y1 : decide (d = d2) = false := by simpa using h1
    rw [hr]
    have HR := Lib.hid hr
    clear hr
    go_enter Tryd.func14, Tryd.ntmps14
    go_wp2_with fail
    go_ret
    exact ⟨rfl, HB.out⟩
  subst h1
  by_cases h2 : k = k2
  rotate_left
  · have hr : pkEq f d k e s l f d k2 e2 s2 l2 = false := by unfold pkEq; simp [h2]
    have x2 : (k == k2) = false := by simpa using h2
    have y2 : decide (k = k2) = false := by simpa using h2
    rw [hr]
    have HR := Lib.hid hr
    clear hr
    go_enter Tryd.func14, Tryd.ntmps14
    go_wp2_with fail
    go_ret
    exact ⟨rfl, HB.out⟩
  subst h2
  by_cases h3 : e = e2
  rotate_left
  · have hr : pkEq f d k e s l f d k e2 s2 l2 = false := by unfold pkEq; simp [h3]
    have x3 : (e == e2) = false := by simpa using h3
    have y3 : decide (e = e2) = false := by simpa using h3
    rw [hr]
    have HR := Lib.hid hr
    clear hr
    go_enter Tryd.func14, Tryd.ntmps14
    go_wp2_with fail
    go_ret
    exact ⟨rfl, HB.out⟩
  subst h3
  by_cases h4 : s = s2
  rotate_left
  · have hr : pkEq f d k e s l f d k e s2 l2 = false := by unfold pkEq; simp [h4]
    have x4 : (s == s2) = false := by simpa using h4
    have y4 : decide (s = s2) = false := by simpa using h4
    rw [hr]
    have HR := Lib.hid hr
    clear hr
    go_enter Tryd.func14, Tryd.ntmps14
    go_wp2_with fail
    go_ret
    exact ⟨rfl, HB.out⟩
  subst h4
  have hr : pkEq f d k e s l f d k e s l2 = (l == l2) := by unfold pkEq; rw [Bool.eq_iff_iff]; simp
  rw [hr]
  have Q := Lib.hid (equal_any A n c l A2 n2 c2 l2 ((w.alloc (.cells #[.int .i64 f, .int .i64 d, .bool k, .int .i64 e, .int .i64 s, .slice A n c] 30)).alloc (.cells #[.int .i64 f, .int .i64 d, .bool k, .int .i64 e, .int .i64 s, .slice A2 n2 c2] 30)) HL.out HL2.out (HA.out.later HB.out (Nat.le_refl _)) (HA2.out.later HB.out (Nat.le_refl _)) HBY.out HBY2.out)
  clear hr
  go_enter Tryd.func14, Tryd.ntmps14
  go_wp2_with fail
  with_reducible refine Q.out.mono ?_
  rintro e' w' ⟨rfl, rfl⟩
  go_wp2_with fail
  go_ret
  exact ⟨rfl, HB.out⟩
set_option maxRecDepth 100000 in
set_option maxHeartbeats 2000000 in
theorem isp_any (f d : Int) (k : Bool) (e s : Int) (A : Option Addr) (n c : Nat) (l : List Nat) (f2 d2 : Int) (k2 : Bool) (e2 s2 : Int) (A2 : Option Addr) (n2 c2 : Nat) (l2 : List Nat) (w : World) (hl : l.length = n) (hl2 : l2.length = n2) (ha : At w A (nats .u8 l)) (ha2 : At w A2 (nats .u8 l2)) (hb : ∀ i, l.getD i 0 < 256) (hb2 : ∀ i, l2.getD i 0 < 256) :
    Calls Tryd.prog 13 #[.agg #[.int .i64 f, .int .i64 d, .bool k, .int .i64 e, .int .i64 s, .slice A n c], .agg #[.int .i64 f2, .int .i64 d2, .bool k2, .int .i64 e2, .int .i64 s2, .slice A2 n2 c2]] w fun e' w' => e' = .returned (.bool (pkEq f d k e s l f2 d2 k2 e2 s2 l2)) ∧ Below w.heap.size w w' := by
  have HA := Lib.hid ha
  have HA2 := Lib.hid ha2
  have HB := Lib.hid (((Below.refl w.heap.size w).alloc (Nat.le_refl _) (.cells #[.int .i64 f, .int .i64 d, .bool k, .int .i64 e, .int .i64 s, .slice A n c] 30)).alloc (by simp) (.cells #[.int .i64 f2, .int .i64 d2, .bool k2, .int .i64 e2, .int .i64 s2, .slice A2 n2 c2] 24))
  have HL := Lib.hid hl
  have HL2 := Lib.hid hl2
  have HBY := Lib.hid hb
  have HBY2 := Lib.hid hb2
  clear ha ha2 hl hl2 hb hb2
  by_cases h0 : f = f2
  rotate_left
  · have hr : pkEq f d k e s l f2 d2 k2 e2 s2 l2 = false := by unfold pkEq; simp [h0]
    have x0 : (f == f2) = false := by simpa using h0
    have y0 : decide (f = f2) = false := by simpa using h0
    rw [hr]
    have HR := Lib.hid hr
    clear hr
    go_enter Tryd.func13, Tryd.ntmps13
    go_wp2_with fail
    go_ret
    exact ⟨rfl, HB.out⟩
  subst h0
  by_cases h1 : d = d2
  rotate_left
  · have hr : pkEq f d k e s l f d2 k2 e2 s2 l2 = false := by unfold pkEq; simp [h1]
    have x1 : (d == d2) = false := by simpa using h1
    have y1 : decide (d = d2) = false := by simpa using h1
    rw [hr]
    have HR := Lib.hid hr
    clear hr
    go_enter Tryd.func13, Tryd.ntmps13
    go_wp2_with fail
    go_ret
    exact ⟨rfl, HB.out⟩
  subst h1
  by_cases h2 : k = k2
  rotate_left
  · have hr : pkEq f d k e s l f d k2 e2 s2 l2 = false := by unfold pkEq; simp [h2]
    have x2 : (k == k2) = false := by simpa using h2
    have y2 : decide (k = k2) = false := by simpa using h2
    rw [hr]
    have HR := Lib.hid hr
    clear hr
    go_enter Tryd.func13, Tryd.ntmps13
    go_wp2_with fail
    go_ret
    exact ⟨rfl, HB.out⟩
  subst h2
  by_cases h3 : e = e2
  rotate_left
  · have hr : pkEq f d k e s l f d k e2 s2 l2 = false := by unfold pkEq; simp [h3]
    have x3 : (e == e2) = false := by simpa using h3
    have y3 : decide (e = e2) = false := by simpa using h3
    rw [hr]
    have HR := Lib.hid hr
    clear hr
    go_enter Tryd.func13, Tryd.ntmps13
    go_wp2_with fail
    go_ret
    exact ⟨rfl, HB.out⟩
  subst h3
  by_cases h4 : s = s2
  rotate_left
  · have hr : pkEq f d k e s l f d k e s2 l2 = false := by unfold pkEq; simp [h4]
    have x4 : (s == s2) = false := by simpa using h4
    have y4 : decide (s = s2) = false := by simpa using h4
    rw [hr]
    have HR := Lib.hid hr
    clear hr
    go_enter Tryd.func13, Tryd.ntmps13
    go_wp2_with fail
    go_ret
    exact ⟨rfl, HB.out⟩
  subst h4
  have hr : pkEq f d k e s l f d k e s l2 = (l == l2) := by unfold pkEq; rw [Bool.eq_iff_iff]; simp
  rw [hr, ← strN_beq HBY.out HBY2.out]
  have q1 := run_str (P := Tryd.prog) (src := 22) (dst := 9) ((w.alloc (.cells #[.int .i64 f, .int .i64 d, .bool k, .int .i64 e, .int .i64 s, .slice A n c] 30)).alloc (.cells #[.int .i64 f, .int .i64 d, .bool k, .int .i64 e, .int .i64 s, .slice A2 n2 c2] 24)) elt_u8.ht (by kernel_rfl) (by kernel_rfl) (c := c) HL.out (HA.out.later HB.out (Nat.le_refl _))
  have q2 := run_str (P := Tryd.prog) (src := 22) (dst := 9) ((w.alloc (.cells #[.int .i64 f, .int .i64 d, .bool k, .int .i64 e, .int .i64 s, .slice A n c] 30)).alloc (.cells #[.int .i64 f, .int .i64 d, .bool k, .int .i64 e, .int .i64 s, .slice A2 n2 c2] 24)) elt_u8.ht (by kernel_rfl) (by kernel_rfl) (c := c2) HL2.out (HA2.out.later HB.out (Nat.le_refl _))
  clear hr
  generalize strN l = s1 at *
  generalize strN l2 = s2 at *
  go_enter Tryd.func13, Tryd.ntmps13
  go_wp2_with fail
  go_ret
  exact ⟨rfl, HB.out⟩
end Go.Proofs.YtlimabhojocimaaDoor
