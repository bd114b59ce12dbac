/- Layer 19: an end of a way: Waits, Tick, Put. -/
import Derived.Test.YtodimanghmepoaaDoorLkA
namespace Go.Proofs.YtodimanghmepoaaDoor
open Go.RowKit
section
variable {F : Nat → Prop} {p : Nat} {s : LSt}
set_option maxRecDepth 100000 in
theorem lwaits_any (w : World) (h : LkS w F p s) : Calls Tryd.prog 11 #[.pointer (some ⟨p, 0, none⟩)] w fun e w' => e = .returned (.int .i64 s.l.length) ∧ w = w' := by
  obtain ⟨sp, rp, base, A, n, c, vs, h, -, -⟩ := h
  have p2 : w.cell? ⟨p, 2, none⟩ = some (.pointer (some ⟨sp, 0, none⟩)) := h.hd.cell 2
  have hl := h.snd.len
  have HS := Lib.hid h.snd
  clear h
  go_enter Tryd.func11, Tryd.ntmps11
  go_wp2_with fail
  refine (waits_any _ HS.out).mono ?_
  rintro e w' ⟨rfl, rfl⟩
  go_wp2_with fail
  go_ret
  exact ⟨by rw [hl]; rfl, rfl⟩
set_option maxRecDepth 100000 in
theorem lwaits_nil (w : World) : Calls Tryd.prog 11 #[.pointer none] w fun e w' => e = .returned (.int .i64 0) ∧ w = w' := by
  go_enter Tryd.func11, Tryd.ntmps11
  go_wp2_with fail
  go_ret
  exact ⟨rfl, rfl⟩
set_option maxRecDepth 100000 in
theorem lput_nil (v : Value) (w : World) : Calls Tryd.prog 8 #[.pointer none, v] w fun e w' => e = .returned (.iface 70 (.int .i64 1)) ∧ w = w' := by
  go_enter Tryd.func8, Tryd.ntmps8
  go_wp2_with fail
  go_ret
  exact ⟨rfl, rfl⟩
set_option maxRecDepth 100000 in
theorem lout_nil (w : World) : Calls Tryd.prog 9 #[.pointer none] w fun e w' => e = .returned (.slice none 0 0) ∧ w = w' := by
  go_enter Tryd.func9, Tryd.ntmps9
  go_wp2_with fail
  go_ret
  exact ⟨rfl, rfl⟩
set_option maxRecDepth 100000 in
theorem lhear_nil (v : Value) (w : World) : Calls Tryd.prog 10 #[.pointer none, v] w fun e w' => e = .returned (.tuple #[.slice none 0 0, .bool false, .iface 70 (.int .i64 1)]) ∧ w = w' := by
  go_enter Tryd.func10, Tryd.ntmps10
  go_wp2_with fail
  exact bodyPost_ret (v := .tuple #[.slice none 0 0, .bool false, .iface 70 (.int .i64 1)]) (by simp [results, Tryd.results10, go_sem]) rfl ⟨rfl, rfl⟩
set_option maxRecDepth 100000 in
theorem ltick_nil (w : World) : Calls Tryd.prog 12 #[.pointer none] w fun e w' => e = .returned (.tuple #[]) ∧ w = w' := by
  go_enter Tryd.func12, Tryd.ntmps12
  go_wp2_with fail
  exact bodyPost_end (v := .tuple #[]) (by simp [results, Tryd.results12, go_sem]) rfl ⟨rfl, rfl⟩
end
end Go.Proofs.YtodimanghmepoaaDoor
