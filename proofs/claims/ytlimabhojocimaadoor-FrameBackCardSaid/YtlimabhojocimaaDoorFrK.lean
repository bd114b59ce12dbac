/- Layer 14: Decode's short ends. -/
import Derived.Test.YtlimabhojocimaaDoorFrJ
namespace Go.Proofs.YtlimabhojocimaaDoor
open Go.RowKit
def DecNo (w : World) (x : Int) (e : Ending) (w' : World) : Prop := e = .returned (.tuple #[.agg (pkF 0 0 false 0 0 none 0 0), .iface 65 (.int .i64 x)]) ∧ Below w.heap.size w w'
set_option maxRecDepth 100000 in
set_option maxHeartbeats 1000000 in
theorem fdec_long (A : Option Addr) (n c : Nat) (w : World) (h : 8300 < n) : Calls Tryd.prog 9 #[.slice A n c] w (DecNo w 5) := by
  have d1 : decide ((8300 : Int) < n) = true := decide_eq_true (by omega)
  have HB := Lib.hid ((Below.refl w.heap.size w).alloc (Nat.le_refl _) (.cells #[.int .i64 0, .int .i64 0, .bool false, .int .i64 0, .int .i64 0, .slice none 0 0] 30))
  have HH := Holds.new w 30 #[.int .i64 0, .int .i64 0, .bool false, .int .i64 0, .int .i64 0, .slice none 0 0] w.heap.size rfl
  go_enter Tryd.func9, Tryd.ntmps9
  go_wp2_with fail
  refine bodyPost_ret (v := .tuple #[.agg (pkF 0 0 false 0 0 none 0 0), .iface 65 (.int .i64 5)]) (by simp [pkF, results, Tryd.results9, go_sem]) rfl ⟨rfl, ?_⟩
  first
    | exact HB.out
    | exact (Below.refl _ _).alloc (Nat.le_refl _) _
set_option maxRecDepth 100000 in
set_option maxHeartbeats 1000000 in
theorem fdec_short (A : Option Addr) (n c : Nat) (w : World) (h : n < 6) : Calls Tryd.prog 9 #[.slice A n c] w (DecNo w 3) := by
  have d1 : decide ((8300 : Int) < n) = false := decide_eq_false (by omega)
  have d2 : ¬ 8300 < n := by omega
  have d3 : decide ((n : Int) < 6) = true := decide_eq_true (by omega)
  have HB := Lib.hid ((Below.refl w.heap.size w).alloc (Nat.le_refl _) (.cells #[.int .i64 0, .int .i64 0, .bool false, .int .i64 0, .int .i64 0, .slice none 0 0] 30))
  go_enter Tryd.func9, Tryd.ntmps9
  go_wp2_with fail
  refine bodyPost_ret (v := .tuple #[.agg (pkF 0 0 false 0 0 none 0 0), .iface 65 (.int .i64 3)]) (by simp [pkF, results, Tryd.results9, go_sem]) rfl ⟨rfl, ?_⟩
  first
    | exact HB.out
    | exact (Below.refl _ _).alloc (Nat.le_refl _) _
set_option maxRecDepth 100000 in
set_option maxHeartbeats 1000000 in
theorem fdec_head0 (b o n c : Nat) (l : List Nat) (w : World) (hl : l.length = n) (h6 : 6 ≤ n) (hn : n ≤ 8300) (hnc : n ≤ c) (hc2 : c ≤ 9223372036854775807) (hat : At w (some ⟨b, o, none⟩) (nats .u8 l)) (h0 : l.getD 0 0 ≠ 67) : Calls Tryd.prog 9 #[.slice (some ⟨b, o, none⟩) n c] w (DecNo w 3) := by
  have HB := Lib.hid ((Below.refl w.heap.size w).alloc (Nat.le_refl _) (.cells #[.int .i64 0, .int .i64 0, .bool false, .int .i64 0, .int .i64 0, .slice none 0 0] 30))
  have A0 := hat.later HB.out (Nat.le_refl _)
  have c0 : (w.alloc (.cells #[.int .i64 0, .int .i64 0, .bool false, .int .i64 0, .int .i64 0, .slice none 0 0] 30)).cell? ⟨b, o, none⟩ = some (.int .u8 (l.getD 0 0 : Nat)) := by
    obtain ⟨b', o', e, h⟩ := A0.nat 0 (by omega)
    injection e with e; injection e with e1 e2; subst e1; subst e2
    exact h
  have c1 : (w.alloc (.cells #[.int .i64 0, .int .i64 0, .bool false, .int .i64 0, .int .i64 0, .slice none 0 0] 30)).cell? ⟨b, o + 1, none⟩ = some (.int .u8 (l.getD 1 0 : Nat)) := by
    obtain ⟨b', o', e, h⟩ := A0.nat 1 (by omega)
    injection e with e; injection e with e1 e2; subst e1; subst e2
    exact h
  have d1 : decide ((8300 : Int) < n) = false := decide_eq_false (by omega)
  have d2 : ¬ 8300 < n := by omega
  have d3 : decide ((n : Int) < 6) = false := decide_eq_false (by omega)
  have d4 : ¬ n < 6 := by omega
  have d7 : 0 < n := by omega
  have d8 : 1 < n := by omega
  clear hl hat A0
  generalize l.getD 0 0 = y0 at *
  generalize l.getD 1 0 = y1 at *
  have hx : ¬ (y0 : Int) = 67 := by omega
  clear h0 hn h6 hnc hc2 c1
  go_enter Tryd.func9, Tryd.ntmps9
  go_wp2_with fail
  refine bodyPost_ret (v := .tuple #[.agg (pkF 0 0 false 0 0 none 0 0), .iface 65 (.int .i64 3)]) (by simp [pkF, results, Tryd.results9, go_sem]) rfl ⟨rfl, ?_⟩
  first
    | exact HB.out
    | exact (Below.refl _ _).alloc (Nat.le_refl _) _
set_option maxRecDepth 100000 in
set_option maxHeartbeats 1000000 in
theorem fdec_head1 (b o n c : Nat) (l : List Nat) (w : World) (hl : l.length = n) (h6 : 6 ≤ n) (hn : n ≤ 8300) (hnc : n ≤ c) (hc2 : c ≤ 9223372036854775807) (hat : At w (some ⟨b, o, none⟩) (nats .u8 l)) (h0 : l.getD 0 0 = 67) (h1 : l.getD 1 0 ≠ 85) : Calls Tryd.prog 9 #[.slice (some ⟨b, o, none⟩) n c] w (DecNo w 3) := by
  have HB := Lib.hid ((Below.refl w.heap.size w).alloc (Nat.le_refl _) (.cells #[.int .i64 0, .int .i64 0, .bool false, .int .i64 0, .int .i64 0, .slice none 0 0] 30))
  have A0 := hat.later HB.out (Nat.le_refl _)
  have c0 : (w.alloc (.cells #[.int .i64 0, .int .i64 0, .bool false, .int .i64 0, .int .i64 0, .slice none 0 0] 30)).cell? ⟨b, o, none⟩ = some (.int .u8 (l.getD 0 0 : Nat)) := by
    obtain ⟨b', o', e, h⟩ := A0.nat 0 (by omega)
    injection e with e; injection e with e1 e2; subst e1; subst e2
    exact h
  have c1 : (w.alloc (.cells #[.int .i64 0, .int .i64 0, .bool false, .int .i64 0, .int .i64 0, .slice none 0 0] 30)).cell? ⟨b, o + 1, none⟩ = some (.int .u8 (l.getD 1 0 : Nat)) := by
    obtain ⟨b', o', e, h⟩ := A0.nat 1 (by omega)
    injection e with e; injection e with e1 e2; subst e1; subst e2
    exact h
  have d1 : decide ((8300 : Int) < n) = false := decide_eq_false (by omega)
  have d2 : ¬ 8300 < n := by omega
  have d3 : decide ((n : Int) < 6) = false := decide_eq_false (by omega)
  have d4 : ¬ n < 6 := by omega
  have d7 : 0 < n := by omega
  have d8 : 1 < n := by omega
  rw [h0] at c0
  clear hl hat A0 h0
  generalize l.getD 1 0 = y1 at *
  have hx : ¬ (y1 : Int) = 85 := by omega
  clear h1 hn h6 hnc hc2
  go_enter Tryd.func9, Tryd.ntmps9
  go_wp2_with fail
  refine bodyPost_ret (v := .tuple #[.agg (pkF 0 0 false 0 0 none 0 0), .iface 65 (.int .i64 3)]) (by simp [pkF, results, Tryd.results9, go_sem]) rfl ⟨rfl, ?_⟩
  first
    | exact HB.out
    | exact (Below.refl _ _).alloc (Nat.le_refl _) _
set_option maxRecDepth 100000 in
set_option maxHeartbeats 1000000 in
theorem fdec_sum (b o n c : Nat) (l : List Nat) (w : World) (hl : l.length = n) (h6 : 6 ≤ n) (hn : n ≤ 8300) (hnc : n ≤ c) (hc2 : c ≤ 9223372036854775807) (hat : At w (some ⟨b, o, none⟩) (nats .u8 l)) (h0 : l.getD 0 0 = 67) (h1 : l.getD 1 0 = 85) (hf : Crc.Fits l = false) : Calls Tryd.prog 9 #[.slice (some ⟨b, o, none⟩) n c] w (DecNo w 4) := by
  have HB := Lib.hid ((Below.refl w.heap.size w).alloc (Nat.le_refl _) (.cells #[.int .i64 0, .int .i64 0, .bool false, .int .i64 0, .int .i64 0, .slice none 0 0] 30))
  have A0 := hat.later HB.out (Nat.le_refl _)
  have c0 : (w.alloc (.cells #[.int .i64 0, .int .i64 0, .bool false, .int .i64 0, .int .i64 0, .slice none 0 0] 30)).cell? ⟨b, o, none⟩ = some (.int .u8 (l.getD 0 0 : Nat)) := by
    obtain ⟨b', o', e, h⟩ := A0.nat 0 (by omega)
    injection e with e; injection e with e1 e2; subst e1; subst e2
    exact h
  have c1 : (w.alloc (.cells #[.int .i64 0, .int .i64 0, .bool false, .int .i64 0, .int .i64 0, .slice none 0 0] 30)).cell? ⟨b, o + 1, none⟩ = some (.int .u8 (l.getD 1 0 : Nat)) := by
    obtain ⟨b', o', e, h⟩ := A0.nat 1 (by omega)
    injection e with e; injection e with e1 e2; subst e1; subst e2
    exact h
  have d1 : decide ((8300 : Int) < n) = false := decide_eq_false (by omega)
  have d2 : ¬ 8300 < n := by omega
  have d3 : decide ((n : Int) < 6) = false := decide_eq_false (by omega)
  have d4 : ¬ n < 6 := by omega
  have d7 : 0 < n := by omega
  have d8 : 1 < n := by omega
  rw [h0] at c0
  rw [h1] at c1
  have FT := Lib.hid (fits_any (some ⟨b, o, none⟩) n c l _ hl hnc hc2 A0)
  rw [hf] at FT
  clear hl hat A0 h0 h1 hf hn h6 hnc hc2
  go_enter Tryd.func9, Tryd.ntmps9
  go_wp2_with fail
  with_reducible refine FT.out.mono ?_
  rintro e w' ⟨rfl, rfl⟩
  go_wp2_with fail
  refine bodyPost_ret (v := .tuple #[.agg (pkF 0 0 false 0 0 none 0 0), .iface 65 (.int .i64 4)]) (by simp [pkF, results, Tryd.results9, go_sem]) rfl ⟨rfl, ?_⟩
  first
    | exact HB.out
    | exact (Below.refl _ _).alloc (Nat.le_refl _) _
end Go.Proofs.YtlimabhojocimaaDoor
