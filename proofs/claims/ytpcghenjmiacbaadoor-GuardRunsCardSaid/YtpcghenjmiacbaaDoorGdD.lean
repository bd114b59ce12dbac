/- Layer 26: an asking by its code; sure. -/
import Derived.Test.YtpcghenjmiacbaaDoorGdC
import Derived.Test.YtpcghenjmiacbaaDoorNum26
namespace Go.Proofs.YtpcghenjmiacbaaDoor
open Go.RowKit
section
variable {w : World} {g : Nat} {who cur : List Int} {need : Int} {asked : Bool} {Aw Ac : Option Addr} {cw cc : Nat}
theorem gask_0 (A : Option Addr) (n c : Nat) (l : List Int) (h : Gd w g who need cur asked Aw cw Ac cc) (hl : l.length = n) (hn : n ≤ 100) (ha : At w A (ints .i64 l)) (hz : A = none → n = 0) (hk : SetM.askCode who need cur asked l = 0) :
    Calls Tryd.prog 8 #[.pointer (some ⟨g, 0, none⟩), .slice A n c] w fun e w' => e = .returned .nilIface ∧ ∃ Ac' cc', Gd w' g who need l true Aw cw Ac' cc' ∧ w.grownBy w' (some g) :=
  (gask_any A n c l h hl hn ha hz).mono fun e w' ⟨cur', asked', Ac', cc', he, hg, hx, hgr, _⟩ => by
    rw [hk, if_pos rfl] at hx
    injection hx with h1 h2
    subst h1; subst h2
    rw [hk] at he
    exact ⟨he, Ac', cc', hg, hgr⟩
theorem gask_0f (A : Option Addr) (n c : Nat) (l : List Int) (h : Gd w g who need cur asked Aw cw Ac cc) (hl : l.length = n) (hn : n ≤ 100) (ha : At w A (ints .i64 l)) (hz : A = none → n = 0) (hk : SetM.askCode who need cur asked l = 0) :
    Calls Tryd.prog 8 #[.pointer (some ⟨g, 0, none⟩), .slice A n c] w fun e w' => e = .returned .nilIface ∧ ∃ Ac' cc', Gd w' g who need l true Aw cw Ac' cc' ∧ w.grownBy w' (some g) ∧ ∀ k, blk Ac' = some k → blk Ac = some k ∨ w.heap.size ≤ k :=
  (gask_any A n c l h hl hn ha hz).mono fun e w' ⟨cur', asked', Ac', cc', he, hg, hx, hgr, hf⟩ => by
    rw [hk, if_pos rfl] at hx
    injection hx with h1 h2
    subst h1; subst h2
    rw [hk] at he
    exact ⟨he, Ac', cc', hg, hgr, hf⟩
theorem gask_k (A : Option Addr) (n c : Nat) (l : List Int) (h : Gd w g who need cur asked Aw cw Ac cc) (hl : l.length = n) (hn : n ≤ 100) (ha : At w A (ints .i64 l)) (hz : A = none → n = 0) (k : Int) (hk : SetM.askCode who need cur asked l = k) (h0 : k ≠ 0) :
    Calls Tryd.prog 8 #[.pointer (some ⟨g, 0, none⟩), .slice A n c] w fun e w' => e = .returned (.iface 48 (.int .i64 k)) ∧ ∃ Ac' cc', Gd w' g who need cur asked Aw cw Ac' cc' ∧ w.grownBy w' (some g) :=
  (gask_any A n c l h hl hn ha hz).mono fun e w' ⟨cur', asked', Ac', cc', he, hg, hx, hgr, _⟩ => by
    rw [hk, if_neg h0] at hx
    injection hx with h1 h2
    subst h1; subst h2
    rw [hk] at he
    refine ⟨?_, Ac', cc', hg, hgr⟩
    rw [he]
    simp [errK, h0]
theorem gask_kf (A : Option Addr) (n c : Nat) (l : List Int) (h : Gd w g who need cur asked Aw cw Ac cc) (hl : l.length = n) (hn : n ≤ 100) (ha : At w A (ints .i64 l)) (hz : A = none → n = 0) (k : Int) (hk : SetM.askCode who need cur asked l = k) (h0 : k ≠ 0) :
    Calls Tryd.prog 8 #[.pointer (some ⟨g, 0, none⟩), .slice A n c] w fun e w' => e = .returned (.iface 48 (.int .i64 k)) ∧ ∃ Ac' cc', Gd w' g who need cur asked Aw cw Ac' cc' ∧ w.grownBy w' (some g) ∧ ∀ k, blk Ac' = some k → blk Ac = some k ∨ w.heap.size ≤ k :=
  (gask_any A n c l h hl hn ha hz).mono fun e w' ⟨cur', asked', Ac', cc', he, hg, hx, hgr, hf⟩ => by
    rw [hk, if_neg h0] at hx
    injection hx with h1 h2
    subst h1; subst h2
    rw [hk] at he
    refine ⟨?_, Ac', cc', hg, hgr, hf⟩
    rw [he]
    simp [errK, h0]
end
theorem At.litI (w : World) (l : List Int) (e : TypeId) (b : Nat) (hb : w.heap.size = b) : At (w.alloc (.cells (ints .i64 l).toArray e)) (some ⟨b, 0, none⟩) (ints .i64 l) := by
  have := At.lit w (ints .i64 l).toArray e (0, 0) b hb
  simpa using this
theorem below_grown {w w1 w2 : World} {g : Nat} (h : Below w.heap.size w w1) (hg : w1.grownBy w2 (some g)) (hgs : w.heap.size ≤ g) : Below w.heap.size w w2 := h.grown hg h.size (fun k hk => by injection hk with hk; omega)
set_option maxRecDepth 100000 in
set_option maxHeartbeats 2000000 in
theorem sure26 (w : World) (hg : Glob w) : Calls Tryd.prog 6 #[] w fun e w' => e = .returned (.bool true) ∧ Below w.heap.size w w' := by
  have HG := Lib.hid hg
  clear hg
  go_enter Tryd.func6, Tryd.ntmps6
  go_wp2_with fail
  have LT0 := Lib.hid (At.litI w [1, 2, 5] 3 w.heap.size rfl)
  have B0 := Lib.hid ((Below.refl w.heap.size w).alloc (Nat.le_refl _) (.cells #[.int .i64 1, .int .i64 2, .int .i64 5] 3))
  refine (gnew_ok (some ⟨w.heap.size, 0, none⟩) 3 3 [1, 2, 5] 2 _ rfl (by decide) LT0.out (by simp) (by decide) (by decide) (by decide)).mono ?_
  rintro e w1 ⟨g, Aw, cw, rfl, gd, b1, hgs⟩
  have GS := Lib.hid (show w.heap.size ≤ g from Nat.le_trans B0.out.size hgs)
  have B1 := Lib.hid (B0.out.trans (b1.mono B0.out.size))
  have D1 := Lib.hid gd
  clear gd b1 hgs LT0 B0
  go_wp2_with fail
  have LT := Lib.hid (At.litI w1 [1] 3 w1.heap.size rfl)
  have BL := Lib.hid ((Below.refl w1.heap.size w1).alloc (Nat.le_refl _) (.cells #[.int .i64 1] 3))
  refine (gask_k (some ⟨w1.heap.size, 0, none⟩) 1 1 [1] (D1.out.later BL.out) rfl (by decide) LT.out (by simp) 7 (by decide) (by decide)).mono ?_
  rintro e w2 ⟨rfl, Ac', cc', gd, gr⟩
  have B2 := Lib.hid (below_grown (B1.out.trans (BL.out.mono B1.out.size)) gr GS.out)
  have D2 := Lib.hid gd
  clear gd gr LT BL B1 D1
  go_wp2_with fail
  have LT := Lib.hid (At.litI w2 [1, 5] 3 w2.heap.size rfl)
  have BL := Lib.hid ((Below.refl w2.heap.size w2).alloc (Nat.le_refl _) (.cells #[.int .i64 1, .int .i64 5] 3))
  refine (gask_0 (some ⟨w2.heap.size, 0, none⟩) 2 2 [1, 5] (D2.out.later BL.out) rfl (by decide) LT.out (by simp) (by decide)).mono ?_
  rintro e w3 ⟨rfl, Ac', cc', gd, gr⟩
  have B3 := Lib.hid (below_grown (B2.out.trans (BL.out.mono B2.out.size)) gr GS.out)
  have D3 := Lib.hid gd
  clear gd gr LT BL B2 D2
  go_wp2_with fail
  have LT := Lib.hid (At.litI w3 [1, 2] 3 w3.heap.size rfl)
  have BL := Lib.hid ((Below.refl w3.heap.size w3).alloc (Nat.le_refl _) (.cells #[.int .i64 1, .int .i64 2] 3))
  refine (gask_k (some ⟨w3.heap.size, 0, none⟩) 2 2 [1, 2] (D3.out.later BL.out) rfl (by decide) LT.out (by simp) 12 (by decide) (by decide)).mono ?_
  rintro e w4 ⟨rfl, Ac', cc', gd, gr⟩
  have B4 := Lib.hid (below_grown (B3.out.trans (BL.out.mono B3.out.size)) gr GS.out)
  have D4 := Lib.hid gd
  clear gd gr LT BL B3 D3
  go_wp2_with fail
  have LT := Lib.hid (At.litI w4 [1, 5] 3 w4.heap.size rfl)
  have BL := Lib.hid ((Below.refl w4.heap.size w4).alloc (Nat.le_refl _) (.cells #[.int .i64 1, .int .i64 5] 3))
  refine (gask_0 (some ⟨w4.heap.size, 0, none⟩) 2 2 [1, 5] (D4.out.later BL.out) rfl (by decide) LT.out (by simp) (by decide)).mono ?_
  rintro e w5 ⟨rfl, Ac', cc', gd, gr⟩
  have B5 := Lib.hid (below_grown (B4.out.trans (BL.out.mono B4.out.size)) gr GS.out)
  have D5 := Lib.hid gd
  clear gd gr LT BL B4 D4
  go_wp2_with fail
  have LT := Lib.hid (At.litI w5 [1, 9] 3 w5.heap.size rfl)
  have BL := Lib.hid ((Below.refl w5.heap.size w5).alloc (Nat.le_refl _) (.cells #[.int .i64 1, .int .i64 9] 3))
  refine (gask_k (some ⟨w5.heap.size, 0, none⟩) 2 2 [1, 9] (D5.out.later BL.out) rfl (by decide) LT.out (by simp) 1 (by decide) (by decide)).mono ?_
  rintro e w6 ⟨rfl, Ac', cc', gd, gr⟩
  have B6 := Lib.hid (below_grown (B5.out.trans (BL.out.mono B5.out.size)) gr GS.out)
  have D6 := Lib.hid gd
  clear gd gr LT BL B5 D5
  go_wp2_with fail
  refine (num26_err 7 _ (HG.out.later B6.out (Nat.le_refl _))).mono ?_
  rintro e w7 ⟨rfl, bb⟩
  have D7 := Lib.hid (D6.out.later bb)
  have B7 := Lib.hid (B6.out.trans (bb.mono B6.out.size))
  clear bb B6 D6
  go_wp2_with fail
  refine (num26_err 12 _ (HG.out.later B7.out (Nat.le_refl _))).mono ?_
  rintro e w8 ⟨rfl, bb⟩
  have D8 := Lib.hid (D7.out.later bb)
  have B8 := Lib.hid (B7.out.trans (bb.mono B7.out.size))
  clear bb B7 D7
  go_wp2_with fail
  refine (num26_err 1 _ (HG.out.later B8.out (Nat.le_refl _))).mono ?_
  rintro e w9 ⟨rfl, bb⟩
  have D9 := Lib.hid (D8.out.later bb)
  have B9 := Lib.hid (B8.out.trans (bb.mono B8.out.size))
  clear bb B8 D8
  go_wp2_with fail
  refine (gout_any 1 D9.out).mono ?_
  rintro e w10 ⟨rfl, rfl⟩
  rw [show SetM.outOf [1, 2, 5] [1, 5] true 1 = 1 by decide]
  go_wp2_with fail
  refine (gout_any 2 D9.out).mono ?_
  rintro e w10 ⟨rfl, rfl⟩
  rw [show SetM.outOf [1, 2, 5] [1, 5] true 2 = 2 by decide]
  go_wp2_with fail
  refine (gout_any 9 D9.out).mono ?_
  rintro e w10 ⟨rfl, rfl⟩
  rw [show SetM.outOf [1, 2, 5] [1, 5] true 9 = 0 by decide]
  go_wp2_with fail
  go_ret
  exact ⟨rfl, B9.out⟩
end Go.Proofs.YtpcghenjmiacbaaDoor
