/- The library's bytes.Equal. -/
import Derived.Test.YtlimabhojocimaaDoorFrK
namespace Go.Proofs.YtlimabhojocimaaDoor
open Go.RowKit
set_option maxRecDepth 100000 in
set_option maxHeartbeats 400000 in
theorem equal_any (A : Option Addr) (n c : Nat) (l : List Nat) (B : Option Addr) (m d : Nat) (r : List Nat) (w : World) (hl : l.length = n) (hr : r.length = m) (ha : At w A (nats .u8 l)) (hb : At w B (nats .u8 r)) (bl : ∀ i, l.getD i 0 < 256) (br : ∀ i, r.getD i 0 < 256) :
    Calls Tryd.prog 31 #[.slice A n c, .slice B m d] w fun e w' => e = .returned (.bool (l == r)) ∧ w = w' := by
  have r1 := run_str (P := Tryd.prog) (src := 22) (dst := 9) w elt_u8.ht (by kernel_rfl) (by kernel_rfl) (c := c) hl ha
  have r2 := run_str (P := Tryd.prog) (src := 22) (dst := 9) w elt_u8.ht (by kernel_rfl) (by kernel_rfl) (c := d) hr hb
  have HE := Lib.hid (strN_beq bl br)
  clear ha hb bl br hl hr
  generalize strN l = s1 at *
  generalize strN r = s2 at *
  go_enter Tryd.func31, Tryd.ntmps31
  go_wp2_with fail
  go_ret
  refine ⟨?_, rfl⟩
  rw [← HE.out]
  rfl
end Go.Proofs.YtlimabhojocimaaDoor
