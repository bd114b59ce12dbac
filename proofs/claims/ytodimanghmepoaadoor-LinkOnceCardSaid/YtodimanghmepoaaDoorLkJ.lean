/- Layer 19: an end of a way: Hear, where what is heard is another way's. -/
import Derived.Test.YtodimanghmepoaaDoorLkI
namespace Go.Proofs.YtodimanghmepoaaDoor
open Go.RowKit
section
variable {F : Nat → Prop} {p : Nat} {s : LSt}
set_option maxRecDepth 100000 in
set_option maxHeartbeats 2000000 in
theorem lhear_wrong (w : World) (h : LkS w F p s) (A : Option Addr) (n c : Nat) (l : List Nat) (hl : l.length = n) (hnc : n ≤ c) (hc2 : c ≤ 9223372036854775807) (hat : At w A (nats .u8 l)) (hb : ∀ y ∈ l, y < 256)
    {fr dt : Nat} {k : Bool} {ep sq : Nat} {bd : List Nat} (hg : Good l fr dt k ep sq bd) (hw : (fr : Int) ≠ s.ot ∨ (dt : Int) ≠ s.me) :
    Calls Tryd.prog 10 #[.pointer (some ⟨p, 0, none⟩), .slice A n c] w (HearE w F p s [] false 1) := by
  have CD := Lib.hid (dec_any A n c l w hl hnc hc2 hat hb)
  have H := Lib.hid h
  have HG := Lib.hid hg
  clear hat hb hl hnc hc2 hg
  obtain ⟨sp, rp, base, A0, n0, c0, vs, h, -, -⟩ := h
  have HD := Lib.hid h.hd
  clear h
  obtain ⟨me, ot, E, S, ll, st, lf, RE, RL, gv, ep0, sq0⟩ := s
  simp only at hw
  go_enter Tryd.func10, Tryd.ntmps10
  go_wp2_with fail
  refine CD.out.mono ?_
  rintro e w1 ⟨fr', dt', k', ep', sq', bd', x, A1, c1, rfl, hat1, b1, hres, -⟩
  obtain ⟨rfl, rfl, rfl, rfl, rfl, rfl, rfl⟩ := hres.uniq (.inl ⟨rfl, HG.out⟩)
  rw [erV_zero]
  simp only [pkF]
  have B1 := Lib.hid b1
  have q0 : w1.cell? ⟨p, 0, none⟩ = some (.int .i64 me) := (HD.out.later b1 (Nat.le_refl _)).cell 0
  have q1 : w1.cell? ⟨p, 1, none⟩ = some (.int .i64 ot) := (HD.out.later b1 (Nat.le_refl _)).cell 1
  have hp1 : p < w1.heap.size := Nat.lt_of_lt_of_le HD.out.lt b1.size
  clear hat1 b1 hres
  go_upto_region 6 with fail
  by_cases h1 : (fr' : Int) = ot
  · have d1 : decide ((fr' : Int) = ot) = true := decide_eq_true h1
    have d2 : decide ((dt' : Int) = me) = false := decide_eq_false (by rcases hw with h | h; exact absurd h1 h; exact h)
    go_quiet (fail)
    go_wp2_with fail
    exact bodyPost_ret (v := .tuple #[.slice none 0 0, .bool false, .iface 70 (.int .i64 1)]) (by simp [results, Tryd.results10, go_sem]) rfl (hearE_no (LkN.below H.out ((B1.out.alloc B1.out.size _).trans ⟨rfl, rfl, rfl, Nat.le_refl _, fun _ _ => rfl⟩)) rfl)
  · have d1 : decide ((fr' : Int) = ot) = false := decide_eq_false h1
    go_quiet (fail)
    go_wp2_with fail
    exact bodyPost_ret (v := .tuple #[.slice none 0 0, .bool false, .iface 70 (.int .i64 1)]) (by simp [results, Tryd.results10, go_sem]) rfl (hearE_no (LkN.below H.out ((B1.out.alloc B1.out.size _).trans ⟨rfl, rfl, rfl, Nat.le_refl _, fun _ _ => rfl⟩)) rfl)
end
end Go.Proofs.YtodimanghmepoaaDoor
