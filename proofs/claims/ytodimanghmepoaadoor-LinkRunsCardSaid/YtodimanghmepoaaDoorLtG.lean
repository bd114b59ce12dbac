/- Layer 19: the walk of LinkRuns. Printed by lte.py. -/
import Derived.Test.YtodimanghmepoaaDoorLtF
import Derived.Test.YtodimanghmepoaaDoorLkP
import Derived.Test.YtodimanghmepoaaDoorRegion
import Derived.Deep.CutRange
import Derived.Deep.CutBlock
namespace Go.Proofs.YtodimanghmepoaaDoor
open Go.RowKit
/-- what is done, of those that came in -/
structure ActC (w : World) (b q : Nat) (K fr dt : Int) (kk : Bool) (ep sq : Int) (A2 : Option Addr) (c2 : Nat) (d : List Nat) (A3 : Option Addr) (c3 : Nat) (bd : List Nat) : Prop where
  c0 : w.cell? ⟨b, q, none⟩ = some (.int .i64 K)
  c1 : w.cell? ⟨b, q + 1, none⟩ = some (.slice A2 d.length c2)
  c2_ : w.cell? ⟨b, q + 2, none⟩ = some (.int .i64 fr)
  c3_ : w.cell? ⟨b, q + 3, none⟩ = some (.int .i64 dt)
  c4 : w.cell? ⟨b, q + 4, none⟩ = some (.bool kk)
  c5 : w.cell? ⟨b, q + 5, none⟩ = some (.int .i64 ep)
  c6 : w.cell? ⟨b, q + 6, none⟩ = some (.int .i64 sq)
  c7 : w.cell? ⟨b, q + 7, none⟩ = some (.slice A3 bd.length c3)
  a2 : At w A2 (nats .u8 d)
  z2 : A2 = none → d.length = 0
  l2 : d.length ≤ c2 ∧ c2 ≤ maxLen
  b2 : ∀ y ∈ d, y < 256
  a3 : At w A3 (nats .u8 bd)
  b3 : ∀ y ∈ bd, y < 256
def ActL (w : World) (A1 : Option Addr) (i : Nat) : Prop :=
  ∃ b o K fr dt kk ep sq A2 c2 d A3 c3 bd, A1 = some ⟨b, o, none⟩ ∧ ActC w b (o + i * 8) K fr dt kk ep sq A2 c2 d A3 c3 bd
theorem num19_er (x : Int) (w : World) (h : Glob w) : Calls Tryd.prog 13 #[erV x] w fun e w' => e = .returned (.int .i64 x) ∧ Below w.heap.size w w' := by
  by_cases hx : x = 0
  · subst hx; rw [erV_zero]; exact num19_nil w
  · rw [erV_ne hx]; exact num19_err x w h
theorem rtick_any {w : World} {A : Option Addr} {n c : Nat} (s : LSt) (h24 : 0 ≤ s.lf ∧ s.lf ≤ 24) : Calls Tryd.prog 19 #[.agg #[.int .i64 s.E, .int .i64 s.S, .slice A n c, .int .i64 s.st, .int .i64 s.lf]] w fun e w' => e = .returned (.agg #[.int .i64 s.E, .int .i64 s.S, .slice A n c, .int .i64 s.st, .int .i64 (tickS s).lf]) ∧ Below w.heap.size w w' := by
  by_cases h : 0 < s.lf
  · have e1 : (tickS s).lf = s.lf - 1 := if_pos h
    rw [e1]; exact rtick_pos h h24.2
  · have e1 : (tickS s).lf = s.lf := if_neg h
    rw [e1]; exact rtick_zero h
/-- the act's box, apart from the ends -/
structure AX (w : World) (F : Nat → Nat → Prop) (px pa : Nat) (cs : Array Value) : Prop where
  h : Holds w pa 52 cs
  F : ∀ i, ¬ F i pa
  ne : pa ≠ px
theorem AX.keep {w w' : World} {F F' : Nat → Nat → Prop} {px pa : Nat} {cs : Array Value} (h : AX w F px pa cs) (k : Keep w F w' F') : AX w' F' px pa cs := ⟨h.h.same (k.block pa h.h.lt h.F).1, (k.block pa h.h.lt h.F).2, h.ne⟩
theorem AX.later {w w' : World} {F : Nat → Nat → Prop} {px pa : Nat} {cs : Array Value} (h : AX w F px pa cs) (b : Below w.heap.size w w') : AX w' F px pa cs := ⟨h.h.later b (Nat.le_refl _), h.F, h.ne⟩
theorem AX.grown {w w' : World} {F : Nat → Nat → Prop} {px pa : Nat} {cs : Array Value} (h : AX w F px pa cs) (b : w.grownBy w' (some px)) : AX w' F px pa cs := ⟨h.h.grown b (fun e => h.ne (by injection e with e; exact e.symm)), h.F, h.ne⟩
theorem hear_bound (s : LSt) (l : List Nat) : (hearR s l).1.S + (hearR s l).1.l.length ≤ s.S + s.l.length ∧ (hearR s l).1.l.length ≤ s.l.length := by
  by_cases hg : ∃ fr dt k ep sq bd, Good l fr dt k ep sq bd
  · obtain ⟨fr, dt, k, ep, sq, bd, hg⟩ := hg
    rw [hearR_good hg]
    unfold hearG
    split
    · exact ⟨Int.le_refl _, Nat.le_refl _⟩
    split
    · show (heardS s ep sq).S + (heardS s ep sq).l.length ≤ _ ∧ (heardS s ep sq).l.length ≤ _
      unfold heardS
      cases hl : s.l with
      | nil => simp [hl]
      | cons b r =>
        simp only
        split
        · exact ⟨by show s.S + 1 + (r.length : Nat) ≤ s.S + ((b :: r).length : Nat); simp; omega, by simp⟩
        · exact ⟨by rw [hl]; exact Int.le_refl _, by rw [hl]; exact Nat.le_refl _⟩
    split
    · show (takeS s ep sq).S + (takeS s ep sq).l.length ≤ _ ∧ (takeS s ep sq).l.length ≤ _
      unfold takeS; simp only; split <;> exact ⟨Int.le_refl _, Nat.le_refl _⟩
    · show (takeS s ep sq).S + (takeS s ep sq).l.length ≤ _ ∧ (takeS s ep sq).l.length ≤ _
      unfold takeS; simp only; split <;> exact ⟨Int.le_refl _, Nat.le_refl _⟩
  · rw [hearR_bad fun a b c d e f h => hg ⟨a, b, c, d, e, f, h⟩]; exact ⟨Int.le_refl _, Nat.le_refl _⟩
theorem enc_900 {fr dt : Int} {k : Bool} {ep sq : Int} {b : List Nat} (hb : b.length ≤ 300) : (encL fr dt k ep sq b).length ≤ 900 := by
  unfold encL
  split
  · rename_i hm
    obtain ⟨x1, x2, x3, x4, rfl, rfl, rfl, rfl⟩ := fmay_nat hm
    have hl := fmay_le hm
    simp only [Int.toNat_natCast]
    have hk : (if k = true then 1 else 0 : Nat) < 18446744073709551616 := by split <;> omega
    have h1 := enc_le (v := x1) (by omega)
    have h2 := enc_le (v := x2) (by omega)
    have h3 := enc_le hk
    have h4 := enc_le (v := x3) (by omega)
    have h5 := enc_le (v := x4) (by omega)
    have h6 := enc_le (v := b.length) (by omega)
    rw [fdat_len, fhead_len]
    simp only [List.length_append]
    omega
  · simp
theorem outAB_len (s : LSt) : (outA s ++ outB s).length ≤ 2 := by
  have h1 : (outA s).length ≤ 1 := by unfold outA; split <;> simp
  have h2 : (outB s).length ≤ 1 := by unfold outB; split <;> (try split) <;> simp
  rw [List.length_append]; omega
theorem outS_S (s : LSt) : (outS s).S = s.S := by unfold outS; split <;> (try split) <;> simp_all
theorem outS_l (s : LSt) : (outS s).l = s.l := by unfold outS; split <;> (try split) <;> simp_all
/-- datagrams, while the block px, which holds the document's end, is written -/
theorem RDg.off {w w' : World} {A : Option Addr} {vs : List Value} {L : List (List Nat)} {px : Nat} {s : LSt} {Ar : Option Addr} {m cr : Nat} (h : RDg w A vs L) (hA : ∀ k, blk A = some k → k ≠ px) (hx : Holds w px 46 (endX s Ar m cr)) (hg : w.grownBy w' (some px)) : RDg w' A vs L :=
  ⟨h.at_.grown hg (by
    cases e : blk A with
    | none => exact .inl rfl
    | some k => exact .inr fun e2 => hA k e (by injection e2)), h.len, fun i v d h1 h2 => by
    obtain ⟨A1, c1, e, h3⟩ := h.dg i v d h1 h2
    exact ⟨A1, c1, e, h3.apart hx (endX_no _ _ _ _) (Chg.of_grown hg rfl)⟩⟩
theorem wt_outF {w0 w : World} {F : Nat → Nat → Prop} {p : Nat} {s : LSt} (h : Ways w0 w 1 F (tri p 0 0) (tri s z19 z19)) {L : List (List Nat)} {n : Nat} (hL : outA s ++ outB s = L) (hn : L.length = n) :
    Calls Tryd.prog 9 #[.pointer (some ⟨p, 0, none⟩)] w fun e w' => ∃ A c vs F', e = .returned (.slice A n c) ∧ Ways w0 w' 1 F' (tri p 0 0) (tri (outS s) z19 z19) ∧ Keep w F w' F' ∧ RDg w' A vs L ∧ ∀ k, blk A = some k → w.heap.size ≤ k := by
  subst hn hL
  have ok := h.ok 0 (by decide)
  refine (lout_any w (h.lk 0 (by decide)) ok.1 ok.2).mono ?_
  rintro e w' ⟨A, n, c, vs, F1, rfl, od, hc, hl, hF⟩
  obtain ⟨ho, hnn, hd, hx, hy⟩ := id od
  obtain ⟨a, b⟩ := h.act 0 hc hl hF ⟨ok.1.out, by rw [(outS_me _).1, (outS_me _).2]; exact ok.2⟩
  have a' : Ways w0 w' 1 (upd F 0 F1) (tri p 0 0) (tri (outS s) z19 z19) := by
    have h5 := a
    rw [upd_tri0] at h5
    exact h5
  refine ⟨A, c, vs, _, by rw [show (outA s ++ outB s).length = n from hnn], a', b, ⟨ho.at_, by have h1 := ho.len; have h2 : (outA s ++ outB s).length = n := hnn; omega, fun i v d h1 h2 => ?_⟩, fun k e => (ho.lt k e).1⟩
  obtain ⟨A1, c1, e, h3⟩ := hd i v d h1 h2
  exact ⟨A1, c1, e, h3.at_⟩
theorem RDg.keep {w w' : World} {F F' : Nat → Nat → Prop} {A : Option Addr} {vs : List Value} {L : List (List Nat)} (h : RDg w A vs L) (b : Below w.heap.size w w') : RDg w' A vs L := h.later b
theorem wt_newB {w0 w : World} (hB : Below w0.heap.size w0 w) (me ot E : Int) (h1 : 0 ≤ me ∧ me ≤ 255) (h2 : 0 ≤ ot ∧ ot ≤ 255) (h3 : me ≠ ot) (hE : 1 ≤ E ∧ E ≤ 1073741824) :
    Calls Tryd.prog 6 #[.int .i64 me, .int .i64 ot, .int .i64 E] w fun e w' => ∃ q F', e = .returned (.tuple #[.pointer (some ⟨q, 0, none⟩), .nilIface]) ∧ Ways w0 w' 1 F' (tri q 0 0) (tri (newS me ot E) z19 z19) ∧ Keep w (fun _ _ => False) w' F' := by
  have h0 : Ways w0 w 0 (fun _ _ => False) (tri 0 0 0) (tri z19 z19 z19) := ⟨hB, fun _ h => by omega, fun _ h => by omega, fun _ _ h => h.elim, fun _ _ _ _ h => h.elim⟩
  refine (w_new h0 (fun _ _ h => h.elim) me ot E h1 h2 h3 hE).mono ?_
  rintro e w' ⟨q, F', rfl, hw, hI, hk⟩
  rw [upd_tri0, upd_tri0] at hw
  exact ⟨q, F', rfl, hw, hk⟩
theorem LX.new {w0 w W : World} {F : Nat → Nat → Prop} {p px : Nat} {s : LSt} (h : Ways w0 w 1 F (tri p 0 0) (tri s z19 z19)) (hb : Below w.heap.size w W) (hx : Holds W px 46 (endX s none 0 0)) (hp : w.heap.size ≤ px) (hl : s.l = []) : LX w0 W F p px s s none 0 0 [] :=
  ⟨h.later hb, hx, At.nil _ _, rfl, by rw [hl]; rfl, fun i u b h1 => by simp at h1, Nat.le_trans h.bel.size hp, (fun i hi => by have := (h.ge i px hi).2; omega), (fun k e => by cases e), (fun e => by cases e), Nat.le_refl _⟩
set_option maxRecDepth 100000 in
set_option maxHeartbeats 2000000 in
theorem lruns_no (x y z : Int) (A1 : Option Addr) (n1 c1 : Nat) (w : World) (m1 : n1 ≤ 9223372036854775807) (a1 : ∀ i, i < n1 → ActL w A1 i) (hg : Glob w) (hno : ¬ LMay x y z) :
    Calls Tryd.prog 4 #[.agg #[.int .i64 x, .int .i64 y, .int .i64 z], .slice A1 n1 c1] w fun e w' => e = .returned (.bool true) ∧ Below w.heap.size w w' := by
  have HG := Lib.hid hg
  have HC := Lib.hid a1
  clear hg a1
  have HO := Lib.hid (Holds.new w 38 #[.int .i64 x, .int .i64 y, .int .i64 z] w.heap.size rfl)
  have HB := Lib.hid ((Below.refl w.heap.size w).alloc (Nat.le_refl _) (.cells #[.int .i64 x, .int .i64 y, .int .i64 z] 38))
  go_enter Tryd.func4, Tryd.ntmps4
  go_upto_region 1 with fail
  generalize w.alloc (.cells #[.int .i64 x, .int .i64 y, .int .i64 z] 38) = w0 at *
  obtain ⟨go, hgo⟩ : ∃ g, w.heap.size = g := ⟨_, rfl⟩
  rw [hgo] at HO ⊢
  clear hgo
  go_wp2_with fail
  refine (ltick_nil _).mono ?_
  rintro e wa ⟨rfl, rfl⟩
  go_wp2_with fail
  refine (lhear_nil _ _).mono ?_
  rintro e wa ⟨rfl, rfl⟩
  go_wp2_with fail
  refine (lput_nil _ _).mono ?_
  rintro e wa ⟨rfl, rfl⟩
  go_wp2_with fail
  refine (num19_err 1 _ (HG.out.later HB.out (Nat.le_refl _))).mono ?_
  rintro e u1 ⟨rfl, b1⟩
  replace HO := Lib.hid (HO.out.later b1 (Nat.le_refl _))
  replace HB := Lib.hid (HB.out.trans (b1.mono HB.out.size))
  clear b1
  go_wp2_with fail
  refine (lout_nil _).mono ?_
  rintro e wa ⟨rfl, rfl⟩
  go_wp2_with fail
  refine (num19_err 1 _ (HG.out.later HB.out (Nat.le_refl _))).mono ?_
  rintro e u2 ⟨rfl, b1⟩
  replace HO := Lib.hid (HO.out.later b1 (Nat.le_refl _))
  replace HB := Lib.hid (HB.out.trans (b1.mono HB.out.size))
  clear b1
  go_wp2_with fail
  refine (lwaits_nil _).mono ?_
  rintro e wa ⟨rfl, rfl⟩
  have o0 : u2.cell? ⟨go, 0, none⟩ = some (.int .i64 x) := HO.out.cell 0
  have o1 : u2.cell? ⟨go, 1, none⟩ = some (.int .i64 y) := HO.out.cell 1
  have o2 : u2.cell? ⟨go, 2, none⟩ = some (.int .i64 z) := HO.out.cell 2
  go_wp2_with fail
  refine (lnew_no _ x y z hno).mono ?_
  rintro e u3 ⟨rfl, rfl⟩
  go_wp2_with fail
  refine (xnew_no _ x y z hno).mono ?_
  rintro e u4 ⟨rfl, b1⟩
  replace HB := Lib.hid (HB.out.trans (b1.mono HB.out.size))
  clear b1
  go_upto_region 8 with (first
    | (refine Great.wpList_allocTo rfl (some 11) rfl _ (.cells (endX z19 none 0 0) 46) (run_allocE _ _ _ rfl) ?_)
    | (refine wpList_store_rowTo rfl 46 (.tmp 11) (.tmp 78) rfl rfl u4.heap.size (endX z19 none 0 0) rfl rfl 46 (endX z19 none 0 0) (Holds.new u4 46 (endX z19 none 0 0) u4.heap.size rfl) end_size rfl (endX_one _ _ _ _) ?_))
  have hn := below_setRow ((Below.refl u4.heap.size u4).alloc (Nat.le_refl _) (.cells (endX z19 none 0 0) 46)) (g := u4.heap.size) (Nat.le_refl _) (endX z19 none 0 0)
  replace HB := Lib.hid (HB.out.trans (hn.mono HB.out.size))
  clear hn
  generalize (u4.alloc (.cells (endX z19 none 0 0) 46)).setRow u4.heap.size (endX z19 none 0 0) = u5 at *
  go_wp2_with fail
  refine (num19_err 1 _ (HG.out.later HB.out (Nat.le_refl _))).mono ?_
  rintro e u6 ⟨rfl, b1⟩
  replace HB := Lib.hid (HB.out.trans (b1.mono HB.out.size))
  clear b1
  go_wp2_with fail
  refine (sure19 _ (HG.out.later HB.out (Nat.le_refl _))).mono ?_
  rintro e w' ⟨rfl, bb⟩
  have BB := Lib.hid (HB.out.trans (bb.mono HB.out.size))
  clear bb
  go_wp2_with fail
  go_ret
  exact ⟨rfl, BB.out⟩
set_option maxRecDepth 100000 in
set_option maxHeartbeats 8000000 in
theorem lruns_in (x y z : Int) (A1 : Option Addr) (n1 c1 : Nat) (w : World) (m1 : n1 ≤ 9223372036854775807) (a1 : ∀ i, i < n1 → ActL w A1 i) (hg : Glob w) (hm : LMay x y z) :
    Calls Tryd.prog 4 #[.agg #[.int .i64 x, .int .i64 y, .int .i64 z], .slice A1 n1 c1] w fun e w' => e = .returned (.bool true) ∧ Below w.heap.size w w' := by
  have HG := Lib.hid hg
  have HC := Lib.hid a1
  clear hg a1
  have HO := Lib.hid (Holds.new w 38 #[.int .i64 x, .int .i64 y, .int .i64 z] w.heap.size rfl)
  have HB := Lib.hid ((Below.refl w.heap.size w).alloc (Nat.le_refl _) (.cells #[.int .i64 x, .int .i64 y, .int .i64 z] 38))
  go_enter Tryd.func4, Tryd.ntmps4
  go_upto_region 1 with fail
  generalize w.alloc (.cells #[.int .i64 x, .int .i64 y, .int .i64 z] 38) = w0 at *
  obtain ⟨go, hgo⟩ : ∃ g, w.heap.size = g := ⟨_, rfl⟩
  rw [hgo] at HO ⊢
  clear hgo
  go_wp2_with fail
  refine (ltick_nil _).mono ?_
  rintro e wa ⟨rfl, rfl⟩
  go_wp2_with fail
  refine (lhear_nil _ _).mono ?_
  rintro e wa ⟨rfl, rfl⟩
  go_wp2_with fail
  refine (lput_nil _ _).mono ?_
  rintro e wa ⟨rfl, rfl⟩
  go_wp2_with fail
  refine (num19_err 1 _ (HG.out.later HB.out (Nat.le_refl _))).mono ?_
  rintro e u1 ⟨rfl, b1⟩
  replace HO := Lib.hid (HO.out.later b1 (Nat.le_refl _))
  replace HB := Lib.hid (HB.out.trans (b1.mono HB.out.size))
  clear b1
  go_wp2_with fail
  refine (lout_nil _).mono ?_
  rintro e wa ⟨rfl, rfl⟩
  go_wp2_with fail
  refine (num19_err 1 _ (HG.out.later HB.out (Nat.le_refl _))).mono ?_
  rintro e u2 ⟨rfl, b1⟩
  replace HO := Lib.hid (HO.out.later b1 (Nat.le_refl _))
  replace HB := Lib.hid (HB.out.trans (b1.mono HB.out.size))
  clear b1
  go_wp2_with fail
  refine (lwaits_nil _).mono ?_
  rintro e wa ⟨rfl, rfl⟩
  have o0 : u2.cell? ⟨go, 0, none⟩ = some (.int .i64 x) := HO.out.cell 0
  have o1 : u2.cell? ⟨go, 1, none⟩ = some (.int .i64 y) := HO.out.cell 1
  have o2 : u2.cell? ⟨go, 2, none⟩ = some (.int .i64 z) := HO.out.cell 2
  go_wp2_with fail
  have hmm := hm
  obtain ⟨h1, h2, h3, h4, h5, h6, h7⟩ := hmm
  refine (wt_newB HB.out x y z ⟨h1, h2⟩ ⟨h3, h4⟩ h5 ⟨h6, h7⟩).mono ?_
  rintro e u3 ⟨p, F0, rfl, hw, hk⟩
  clear h1 h2 h3 h4 h5 h6 h7
  have HW := Lib.hid hw
  have HO3 := Lib.hid (HO.out.same (hk.block go HO.out.lt (fun _ h => h)).1)
  clear hw hk o0 o1 o2 HO
  have o0 : u3.cell? ⟨go, 0, none⟩ = some (.int .i64 x) := HO3.out.cell 0
  have o1 : u3.cell? ⟨go, 1, none⟩ = some (.int .i64 y) := HO3.out.cell 1
  have o2 : u3.cell? ⟨go, 2, none⟩ = some (.int .i64 z) := HO3.out.cell 2
  go_wp2_with fail
  refine (xnew_any _ x y z hm).mono ?_
  rintro e u4 ⟨rfl, b1⟩
  replace HW := Lib.hid (HW.out.later b1)
  clear b1 o0 o1 o2 HO3
  go_upto_region 8 with (first
    | (refine Great.wpList_allocTo rfl (some 11) rfl _ (.cells (endX z19 none 0 0) 46) (run_allocE _ _ _ rfl) ?_)
    | (refine wpList_store_rowTo rfl 46 (.tmp 11) (.tmp 78) rfl rfl u4.heap.size (endX (newS x y z) none 0 0) rfl rfl 46 (endX z19 none 0 0) (Holds.new u4 46 (endX z19 none 0 0) u4.heap.size rfl) end_size rfl (endX_one _ _ _ _) ?_))
  have hn := below_setRow ((Below.refl u4.heap.size u4).alloc (Nat.le_refl _) (.cells (endX z19 none 0 0) 46)) (g := u4.heap.size) (Nat.le_refl _) (endX (newS x y z) none 0 0)
  have HX := Lib.hid (LX.new HW.out hn ((Holds.new u4 46 (endX z19 none 0 0) u4.heap.size rfl).rowE (endX (newS x y z) none 0 0)) (Nat.le_refl _) rfl)
  generalize (u4.alloc (.cells (endX z19 none 0 0) 46)).setRow u4.heap.size (endX (newS x y z) none 0 0) = u5 at *
  obtain ⟨px, hpx⟩ : ∃ g, u4.heap.size = g := ⟨_, rfl⟩
  rw [hpx] at HX ⊢
  clear hn hpx HW HB
  go_wp2_with fail
  go_loopw [13] (fun i wr => ∃ (k : Nat) (s : LSt) (F : Nat → Nat → Prop) (Ar : Option Addr) (m cr : Nat) (us : List Value), k ≤ n1 ∧ k ≤ 60 ∧ i = .int .i64 (k : Int) ∧ (s.S + m ≤ (k : Int) + 1 ∧ m ≤ k) ∧ LX w wr F p px s s Ar m cr us) (fun i _ => n1 - (intOf i).toNat)
  case atStart => exact ⟨0, newS x y z, F0, none, 0, 0, [], by omega, by omega, rfl, ⟨by show (1 : Int) + (0 : Nat) ≤ _; omega, by omega⟩, HX.out⟩
  case round =>
    clear hm HX
    obtain ⟨k, s, F, Ar, m, cr, us, hk1, hk2, rfl, hbd, hr⟩ := hrel
    have RR := Lib.hid hr
    have BD := Lib.hid hbd
    clear hr hbd
    by_cases hlt : k < n1
    · by_cases h60 : k < 60
      · obtain ⟨b, q, K, fr, dt, kk, ep, sq, A2, c2, d, A3, c3, bd, rfl, hac⟩ := HC.out k hlt
        have HAC := Lib.hid hac
        have hb := lt_of_cell hac.c0
        have r0 := (RR.out.ways.bel.cell (p := ⟨b, q + k * 8, none⟩) hb).trans hac.c0
        have r1 := (RR.out.ways.bel.cell (p := ⟨b, q + k * 8 + 1, none⟩) hb).trans hac.c1
        have r2 := (RR.out.ways.bel.cell (p := ⟨b, q + k * 8 + 2, none⟩) hb).trans hac.c2_
        have r3 := (RR.out.ways.bel.cell (p := ⟨b, q + k * 8 + 3, none⟩) hb).trans hac.c3_
        have r4 := (RR.out.ways.bel.cell (p := ⟨b, q + k * 8 + 4, none⟩) hb).trans hac.c4
        have r5 := (RR.out.ways.bel.cell (p := ⟨b, q + k * 8 + 5, none⟩) hb).trans hac.c5
        have r6 := (RR.out.ways.bel.cell (p := ⟨b, q + k * 8 + 6, none⟩) hb).trans hac.c6
        have r7 := (RR.out.ways.bel.cell (p := ⟨b, q + k * 8 + 7, none⟩) hb).trans hac.c7
        have k0 : (0 : Int) ≤ (k : Int) := by omega
        have dk : decide ((k : Int) < 60) = true := decide_eq_true (by omega)
        have dn : decide ((k : Int) < n1) = true := decide_eq_true (by omega)
        clear hac
        have HPA := Lib.hid (show AX (wr.alloc (.cells #[.int .i64 K, .slice A2 d.length c2, .int .i64 fr, .int .i64 dt, .bool kk, .int .i64 ep, .int .i64 sq, .slice A3 bd.length c3] 52)) F px wr.heap.size #[.int .i64 K, .slice A2 d.length c2, .int .i64 fr, .int .i64 dt, .bool kk, .int .i64 ep, .int .i64 sq, .slice A3 bd.length c3] from ⟨Holds.new wr 52 #[.int .i64 K, .slice A2 d.length c2, .int .i64 fr, .int .i64 dt, .bool kk, .int .i64 ep, .int .i64 sq, .slice A3 bd.length c3] wr.heap.size rfl, fun i hi => by have := (RR.out.ways.ge i _ hi).2; omega, Nat.ne_of_gt RR.out.x.lt⟩)
        have R5 := Lib.hid (RR.out.later ((Below.refl _ _).alloc (Nat.le_refl _) (.cells #[.int .i64 K, .slice A2 d.length c2, .int .i64 fr, .int .i64 dt, .bool kk, .int .i64 ep, .int .i64 sq, .slice A3 bd.length c3] 52)))
        go_upto_region 16 with fail
        clear r0 r1 r2 r3 r4 r5 r6 r7 RR
        generalize wr.alloc (.cells #[.int .i64 K, .slice A2 d.length c2, .int .i64 fr, .int .i64 dt, .bool kk, .int .i64 ep, .int .i64 sq, .slice A3 bd.length c3] 52) = w5 at *
        generalize wr.heap.size = pa at HPA ⊢
        have pa0 : w5.cell? ⟨pa, 0, none⟩ = some (.int .i64 K) := HPA.out.h.cell 0
        have pa1 : w5.cell? ⟨pa, 1, none⟩ = some (.slice A2 d.length c2) := HPA.out.h.cell 1
        have pa2 : w5.cell? ⟨pa, 2, none⟩ = some (.int .i64 fr) := HPA.out.h.cell 2
        have pa3 : w5.cell? ⟨pa, 3, none⟩ = some (.int .i64 dt) := HPA.out.h.cell 3
        have pa4 : w5.cell? ⟨pa, 4, none⟩ = some (.bool kk) := HPA.out.h.cell 4
        have pa5 : w5.cell? ⟨pa, 5, none⟩ = some (.int .i64 ep) := HPA.out.h.cell 5
        have pa6 : w5.cell? ⟨pa, 6, none⟩ = some (.int .i64 sq) := HPA.out.h.cell 6
        have pa7 : w5.cell? ⟨pa, 7, none⟩ = some (.slice A3 bd.length c3) := HPA.out.h.cell 7
        by_cases hs : 900 < d.length
        · have d1 : decide ((900 : Int) < d.length) = true := decide_eq_true (by omega)
          go_wp2_with fail
          go_round
          case rel => exact ⟨k + 1, s, F, Ar, m, cr, us, by omega, by omega, by go_num, (by have := BD.out; omega), R5.out⟩
          case measure => simp [intOf]; omega
        have d1 : decide ((900 : Int) < d.length) = false := decide_eq_false (by omega)
        by_cases hs2 : 300 < bd.length
        · have d2 : decide ((300 : Int) < bd.length) = true := decide_eq_true (by omega)
          go_wp2_with fail
          go_round
          case rel => exact ⟨k + 1, s, F, Ar, m, cr, us, by omega, by omega, by go_num, (by have := BD.out; omega), R5.out⟩
          case measure => simp [intOf]; omega
        have d2 : decide ((300 : Int) < bd.length) = false := decide_eq_false (by omega)
        go_upto_block 2 with fail
        go_cut [15, 16, 17, 18, 19, 20, 21, 22, 23, 24, 25, 26, 27, 28] from 123 to 227 (fun _ _ _ _ _ _ _ _ _ _ _ _ _ _ wx => ∃ (s : LSt) (F : Nat → Nat → Prop) (Ar : Option Addr) (m cr : Nat) (us : List Value),  (s.S + m ≤ (k : Int) + 2 ∧ m ≤ k + 1) ∧ LX w wx F p px s s Ar m cr us)
        case first =>
          by_cases K0 : K = 0
          · subst K0
            have hm64 : m ≤ 63 := by have := BD.out; omega
            have RZ := R5
            clear R5
            have q2 : w5.cell? ⟨px, 2, none⟩ = some (.int .i64 s.E) := RZ.out.x.cell 2
            have z2 := RZ.out.x.frozen 2
            have q3 : w5.cell? ⟨px, 3, none⟩ = some (.int .i64 s.S) := RZ.out.x.cell 3
            have z3 := RZ.out.x.frozen 3
            have q4 : w5.cell? ⟨px, 4, none⟩ = some (.slice Ar m cr) := RZ.out.x.cell 4
            have z4 := RZ.out.x.frozen 4
            have q5 : w5.cell? ⟨px, 5, none⟩ = some (.int .i64 s.st) := RZ.out.x.cell 5
            have z5 := RZ.out.x.frozen 5
            have q6 : w5.cell? ⟨px, 6, none⟩ = some (.int .i64 s.lf) := RZ.out.x.cell 6
            have z6 := RZ.out.x.frozen 6
            have OKS := Lib.hid (show LOk s from (RZ.out.ways.ok 0 (by decide)).1)
            have CO := Lib.hid (rput_ok (w := w5) (A := Ar) (n := m) (c := cr) (E := s.E) (S := s.S) (st := s.st) (lf := s.lf) A2 d.length c2 us (by omega) hm64 (by have := BD.out; omega) (by have := OKS.out.S; omega) RZ.out.ul RZ.out.one RZ.out.at_)
            go_wp2_with fail
            with_reducible refine CO.out.mono ?_
            rintro e w6 ⟨A7, c7, rfl, hc7, hat7, hf7, b7⟩
            clear CO
            have HC7 := Lib.hid hc7
            have T7 := Lib.hid hat7
            have F7 := Lib.hid (show ∀ k, blk A7 = some k → (k < w6.heap.size ∧ ∀ i, ¬ F i k) ∧ k ≠ px from fun k e => ⟨⟨hat7.lt (by simp) k e, fun i hi => by have := hf7 k e; have := (RZ.out.ways.ge i k hi).2; omega⟩, fun e2 => by have := hf7 k e; have := RZ.out.x.lt; omega⟩)
            replace RZ := Lib.hid (RZ.out.later b7)
            replace HPA := Lib.hid (HPA.out.later b7)
            clear hc7 hat7 hf7 b7 q2 z2 q3 z3 q4 z4 q5 z5 q6 z6 pa0 pa1 pa2 pa3 pa4 pa5 pa6 pa7
            go_upto_region 22 with (first
              | (refine Great.wpList_allocTo rfl (some 15) rfl _ (.cells (sndC 0 0 none 0 0 0 0) 42) (run_allocS _ _ _ rfl) ?_)
              | (refine wpList_store_rowTo rfl 42 (.tmp 15) (.tmp 139) rfl rfl w6.heap.size (sndC s.E s.S A7 (m + 1) c7 s.st s.lf) rfl rfl 42 (sndC 0 0 none 0 0 0 0) (Holds.new w6 42 (sndC 0 0 none 0 0 0 0) w6.heap.size rfl) snd_size rfl (sndC_one _ _ _ _ _ _ _) ?_))
            have H3 := Lib.hid ((Holds.new w6 42 (sndC 0 0 none 0 0 0 0) w6.heap.size rfl).rowE (sndC s.E s.S A7 (m + 1) c7 s.st s.lf))
            have b7 := below_setRow ((Below.refl w6.heap.size w6).alloc (Nat.le_refl _) (.cells (sndC 0 0 none 0 0 0 0) 42)) (g := w6.heap.size) (Nat.le_refl _) (sndC s.E s.S A7 (m + 1) c7 s.st s.lf)
            replace RZ := Lib.hid (RZ.out.later b7)
            replace HPA := Lib.hid (HPA.out.later b7)
            replace T7 := Lib.hid (T7.out.later b7 (Nat.le_refl _))
            replace F7 := Lib.hid (fun k e => (⟨⟨Nat.lt_of_lt_of_le (F7.out k e).1.1 b7.size, (F7.out k e).1.2⟩, (F7.out k e).2⟩ : (k < _ ∧ ∀ i, ¬ F i k) ∧ k ≠ px))
            generalize (w6.alloc (.cells (sndC 0 0 none 0 0 0 0) 42)).setRow w6.heap.size (sndC s.E s.S A7 (m + 1) c7 s.st s.lf) = w7 at *
            generalize w6.heap.size = g3 at H3 ⊢
            clear b7
            have q2 : w7.cell? ⟨px, 2, none⟩ = some (.int .i64 s.E) := RZ.out.x.cell 2
            have z2 := RZ.out.x.frozen 2
            have q3 : w7.cell? ⟨px, 3, none⟩ = some (.int .i64 s.S) := RZ.out.x.cell 3
            have z3 := RZ.out.x.frozen 3
            have q4 : w7.cell? ⟨px, 4, none⟩ = some (.slice Ar m cr) := RZ.out.x.cell 4
            have z4 := RZ.out.x.frozen 4
            have q5 : w7.cell? ⟨px, 5, none⟩ = some (.int .i64 s.st) := RZ.out.x.cell 5
            have z5 := RZ.out.x.frozen 5
            have q6 : w7.cell? ⟨px, 6, none⟩ = some (.int .i64 s.lf) := RZ.out.x.cell 6
            have z6 := RZ.out.x.frozen 6
            go_upto_region 23 with (refine wpList_load_row rfl 42 (.tmp 15) rfl g3 rfl _ #[.int .i64 s.E, .int .i64 s.S, .slice A7 (m + 1) c7, .int .i64 s.st, .int .i64 s.lf] _ _ H3.out snd_under rfl snd_size ?_)
            have hgs := (grown_set (grown_set (grown_set (grown_set (grown_set (grown_refl w7 (some px)) 2 (.int .i64 s.E)) 3 (.int .i64 s.S)) 4 (.slice A7 (m + 1) c7)) 5 (.int .i64 s.st)) 6 (.int .i64 s.lf))
            replace HPA := Lib.hid (HPA.out.grown hgs)
            replace RZ := Lib.hid (RZ.out.store hgs (show Holds (((((w7.setCell ⟨px, 2, none⟩ (.int .i64 s.E)).setCell ⟨px, 3, none⟩ (.int .i64 s.S)).setCell ⟨px, 4, none⟩ (.slice A7 (m + 1) c7)).setCell ⟨px, 5, none⟩ (.int .i64 s.st)).setCell ⟨px, 6, none⟩ (.int .i64 s.lf)) px 46 (endX (putS s d) A7 (m + 1) c7) from (((((RZ.out.x.set 2 (.int .i64 s.E)).set 3 (.int .i64 s.S)).set 4 (.slice A7 (m + 1) c7)).set 5 (.int .i64 s.st)).set 6 (.int .i64 s.lf))) T7.out (by have := RZ.out.ul; simp; omega) (by have := RZ.out.ll; show (s.l ++ [d]).length = _; simp; omega) (each_snoc (by have h1 := RZ.out.ul; have h2 := RZ.out.ll; omega) RZ.out.each HAC.out.a2 (by omega) HAC.out.b2) (fun k e => (F7.out k e).1) (fun e => (F7.out px e).2 rfl) HC7.out)
            clear hgs q2 z2 q3 z3 q4 z4 q5 z5 q6 z6 H3
            generalize (((((w7.setCell ⟨px, 2, none⟩ (.int .i64 s.E)).setCell ⟨px, 3, none⟩ (.int .i64 s.S)).setCell ⟨px, 4, none⟩ (.slice A7 (m + 1) c7)).setCell ⟨px, 5, none⟩ (.int .i64 s.st)).setCell ⟨px, 6, none⟩ (.int .i64 s.lf)) = w8 at *
            have pa1 : w8.cell? ⟨pa, 1, none⟩ = some (.slice A2 d.length c2) := HPA.out.h.cell 1
            have h2 : (putS s d).l.length = s.l.length + 1 := by show (s.l ++ [d]).length = _; simp
            have h1 : (putS s d).l.length = m + 1 := RZ.out.ll
            go_wp2_with fail
            with_reducible refine (wt_put0 RZ.out.ways (by decide) (by omega) (by have := BD.out; omega) A2 c2 d (by omega) HAC.out.b2 (HAC.out.a2.later RZ.out.ways.bel (Nat.le_refl _)) HAC.out.z2 rfl (s' := putS s d) rfl).mono ?_
            rintro e w9 ⟨F9, rfl, hw, hk⟩
            replace RZ := Lib.hid (RZ.out.prog hw hk)
            clear hw hk pa1
            go_wp2_with fail
            with_reducible refine (num19_nil _).mono ?_
            rintro e w10 ⟨rfl, b9⟩
            replace RZ := Lib.hid (RZ.out.later b9)
            clear b9
            go_wp2_with fail
            go_meet
            exact ⟨putS s d, F9, A7, m + 1, c7, _, (by have := BD.out; (try have h3 : (putS s d).S = s.S := rfl); (try rw [h3]); omega), RZ.out⟩
          by_cases K1 : K = 1
          · subst K1
            have OKS := Lib.hid (show LOk s from (R5.out.ways.ok 0 (by decide)).1)
            obtain ⟨L, hL⟩ : ∃ L, outA s ++ outB s = L := ⟨_, rfl⟩
            have HLL := Lib.hid hL
            obtain ⟨nL, hnL⟩ : ∃ n, L.length = n := ⟨_, rfl⟩
            have HNL := Lib.hid hnL
            have hL2 : nL ≤ 2 := by have := outAB_len s; rw [hL] at this; omega
            clear hL hnL
            go_wp2_with fail
            with_reducible refine (wt_outF R5.out.ways HLL.out HNL.out).mono ?_
            rintro e w6 ⟨A6, c6, vs6, F6, rfl, hw, hk, hd6, hf6⟩
            have RZ := Lib.hid (R5.out.prog hw hk)
            replace HPA := Lib.hid (HPA.out.keep hk)
            have HD6 := Lib.hid hd6
            have HA6 := Lib.hid (show ∀ k, blk A6 = some k → k ≠ px from fun k e e2 => by have := hf6 k e; have := R5.out.x.lt; omega)
            clear hw hk hd6 hf6 R5 pa0 pa1 pa2 pa3 pa4 pa5 pa6 pa7
            have CO := xout_any RZ.out.xl RZ.out.ways.bel OKS.out
            rw [HLL.out] at CO
            replace CO := Lib.hid CO
            go_wp2_with (refine wpList_load_row rfl 46 (.tmp 11) rfl px rfl _ (endX s Ar m cr) _ _ RZ.out.x end_under rfl end_size ?_)
            with_reducible refine CO.out.mono ?_
            rintro e w7 ⟨A7, n7, c7, vs7, rfl, hn7, hd7, b7, hf7⟩
            rw [HNL.out] at hn7
            obtain rfl : nL = n7 := hn7.symm
            have HD7 := Lib.hid hd7
            have HA7 := Lib.hid (show ∀ k, blk A7 = some k → k ≠ px from fun k e e2 => by have := hf7 k e; have := RZ.out.x.lt; omega)
            replace RZ := Lib.hid (RZ.out.later b7)
            replace HPA := Lib.hid (HPA.out.later b7)
            replace HD6 := Lib.hid (HD6.out.later b7)
            clear hd7 b7 hf7 CO
            go_upto_region 28 with (first
              | (refine Great.wpList_allocTo rfl (some 18) rfl _ (.cells (endX z19 none 0 0) 46) (run_allocE _ _ _ rfl) ?_)
              | (refine wpList_store_rowTo rfl 46 (.tmp 18) (.tmp 157) rfl rfl w7.heap.size (endX (outS s) Ar m cr) rfl rfl 46 (endX z19 none 0 0) (Holds.new w7 46 (endX z19 none 0 0) w7.heap.size rfl) end_size rfl (endX_one _ _ _ _) ?_))
            have H4 := Lib.hid ((Holds.new w7 46 (endX z19 none 0 0) w7.heap.size rfl).rowE (endX (outS s) Ar m cr))
            have b8 := below_setRow ((Below.refl w7.heap.size w7).alloc (Nat.le_refl _) (.cells (endX z19 none 0 0) 46)) (g := w7.heap.size) (Nat.le_refl _) (endX (outS s) Ar m cr)
            replace RZ := Lib.hid (RZ.out.later b8)
            replace HPA := Lib.hid (HPA.out.later b8)
            replace HD6 := Lib.hid (HD6.out.later b8)
            replace HD7 := Lib.hid (HD7.out.later b8)
            generalize (w7.alloc (.cells (endX z19 none 0 0) 46)).setRow w7.heap.size (endX (outS s) Ar m cr) = w8 at *
            generalize w7.heap.size = g4 at H4 ⊢
            clear b8
            go_upto_region 29 with (first
              | (refine wpList_load_row rfl 46 (.tmp 18) rfl g4 rfl _ (endX (outS s) Ar m cr) _ _ H4.out end_under rfl end_size ?_)
              | (refine wpList_store_rowTo rfl 46 (.tmp 11) (.tmp 159) rfl rfl px (endX (outS s) Ar m cr) rfl rfl 46 (endX s Ar m cr) RZ.out.x end_size rfl (endX_one _ _ _ _) ?_))
            have hgr := grown_row (w := w8) (g := px) (endX (outS s) Ar m cr)
            replace HPA := Lib.hid (HPA.out.grown hgr)
            replace HD6 := Lib.hid (HD6.out.off HA6.out RZ.out.x hgr)
            replace HD7 := Lib.hid (HD7.out.off HA7.out RZ.out.x hgr)
            replace RZ := Lib.hid (RZ.out.store hgr (RZ.out.x.rowE (endX (outS s) Ar m cr)) RZ.out.at_ RZ.out.ul (by rw [outS_l]; exact RZ.out.ll) (by rw [outS_l]; exact RZ.out.each) RZ.out.rF RZ.out.rp RZ.out.cap)
            clear hgr H4
            generalize w8.setRow px (endX (outS s) Ar m cr) = w9 at *
            go_wp2_with fail
            go_loopw [20] (fun i wl => ∃ j : Nat, j ≤ nL ∧ i = .int .i64 (j : Int) ∧ Below w9.heap.size w9 wl) (fun i _ => nL - (intOf i).toNat)
            case atStart => exact ⟨0, by omega, rfl, Below.refl _ _⟩
            case round =>
              obtain ⟨j, hj, rfl, hbj⟩ := hrel
              by_cases hjn : j < nL
              · have hv6 := HD6.out.len
                have hv7 := HD7.out.len
                have hl := HNL.out
                obtain ⟨D, hD⟩ : ∃ D, L[j]? = some D := ⟨_, List.getElem?_eq_getElem (by omega)⟩
                obtain ⟨A8, c8, hv8, h8⟩ := HD6.out.dg j _ D (List.getElem?_eq_getElem (show j < vs6.length by omega)) hD
                obtain ⟨A9, c9, hv9, h9⟩ := HD7.out.dg j _ D (List.getElem?_eq_getElem (show j < vs7.length by omega)) hD
                obtain ⟨b6, o6, rfl, hc6⟩ := HD6.out.at_ j _ (List.getElem?_eq_getElem (show j < vs6.length by omega))
                obtain ⟨b7, o7, rfl, hc7⟩ := HD7.out.at_ j _ (List.getElem?_eq_getElem (show j < vs7.length by omega))
                rw [hv8] at hc6
                rw [hv9] at hc7
                have hc6 := (hbj.cell (p := ⟨b6, o6 + j, none⟩) (lt_of_cell hc6)).trans hc6
                have hc7 := (hbj.cell (p := ⟨b7, o7 + j, none⟩) (lt_of_cell hc7)).trans hc7
                have h8 := h8.later hbj (Nat.le_refl _)
                have h9 := h9.later hbj (Nat.le_refl _)
                have hjn' : (j : Int) < nL := by omega
                have hj0 : (0 : Int) ≤ (j : Int) := by omega
                clear hv6 hv7 hv8 hv9 hl hD
                go_upto_region 34 with fail
                refine wp_region_below (is ?x0 :: is ?x1 :: is ?x2 :: is ?x3 :: is ?x4 :: is ?x5 :: is ?x6 :: is ?x7 :: is ?x8 :: is ?x9 :: is ?x10 :: [])
                  [⟨[], [17], none⟩, ⟨[], [20], none⟩, ⟨[(171, 0), (172, 1)], [], none⟩, ⟨[(173, 2)], [], none⟩, ⟨[(174, 3)], [], none⟩, ⟨[], [19], none⟩, ⟨[], [20], none⟩, ⟨[(176, 5), (177, 6)], [], none⟩, ⟨[(178, 7)], [], none⟩, ⟨[(179, 8)], [], none⟩, ⟨[(175, 4), (180, 9)], [], none⟩] (by kernel_rfl) (by kernel_rfl) (by kernel_rfl) (by kernel_rfl) (by kernel_rfl) ?monox ?stepsx ?finx
                case monox => exact ⟨mono_eq _, mono_eq _, mono_eq _, mono_eq _, mono_eq _, mono_eq _, mono_eq _, mono_eq _, mono_eq _, mono_eq _, mono_eq _, trivial⟩
                case stepsx =>
                  refine ⟨fun ρ W ⟨hcst, hglb, hfun⟩ hX hp ho => ?_, ?_⟩ -- 0: slot 171 := Op.move t17
                  · obtain ⟨o17, -⟩ := ho
                    change ρ (.tmp 17) = _ at o17
                    refine turn_plain (ok_is ?_ rfl)
                    simp only [execOp, o17]; go_simp; try exact rfl
                  refine ⟨fun ρ W ⟨hcst, hglb, hfun⟩ hX hp ho => ?_, ?_⟩ -- 1: slot 172 := Op.move t20
                  · obtain ⟨o20, -⟩ := ho
                    change ρ (.tmp 20) = _ at o20
                    refine turn_plain (ok_is ?_ rfl)
                    simp only [execOp, o20]; go_simp; try exact rfl
                  refine ⟨fun ρ W ⟨hcst, hglb, hfun⟩ hX hp ho => ?_, ?_⟩ -- 2: slot 173 := Op.indexAddr 31 t171 t172
                  · obtain ⟨p171, p172, -⟩ := hp
                    change ρ (.tmp 171) = _ at p171
                    change ρ (.tmp 172) = _ at p172
                    refine turn_plain (ok_is ?_ rfl)
                    simp only [execOp, p171, p172]; go_simp; try exact rfl
                  refine ⟨fun ρ W ⟨hcst, hglb, hfun⟩ hX hp ho => ?_, ?_⟩ -- 3: slot 174 := Op.load 22 t173
                  · obtain ⟨p173, -⟩ := hp
                    change ρ (.tmp 173) = _ at p173
                    have q : W.cell? ⟨b6, o6 + j, none⟩ = some (.slice A8 D.length c8) := ((Below.refl _ _).drew.trans hX).cell (p := ⟨b6, o6 + j, none⟩) (lt_of_cell hc6) |>.trans hc6
                    refine turn_plain (ok_is ?_ rfl)
                    simp only [execOp, p173]; go_simp; try exact rfl
                  refine ⟨fun ρ W ⟨hcst, hglb, hfun⟩ hX hp ho => ?_, ?_⟩ -- 4: slot 175 := Op.convert 22 9 t174
                  · obtain ⟨p174, -⟩ := hp
                    change ρ (.tmp 174) = _ at p174
                    have hW := (Below.refl _ _).drew.trans hX
                    refine turn_plain ?_
                    refine ok_is (by simp only [execOp, p174]; rw [Sem.run_bind, run_str W elt_u8.ht (by kernel_rfl) (by kernel_rfl) rfl (h8.later ((Below.refl _ _).drew.trans hX) (Nat.le_refl _))]; rfl) rfl
                  refine ⟨fun ρ W ⟨hcst, hglb, hfun⟩ hX hp ho => ?_, ?_⟩ -- 5: slot 176 := Op.move t19
                  · obtain ⟨o19, -⟩ := ho
                    change ρ (.tmp 19) = _ at o19
                    refine turn_plain (ok_is ?_ rfl)
                    simp only [execOp, o19]; go_simp; try exact rfl
                  refine ⟨fun ρ W ⟨hcst, hglb, hfun⟩ hX hp ho => ?_, ?_⟩ -- 6: slot 177 := Op.move t20
                  · obtain ⟨o20, -⟩ := ho
                    change ρ (.tmp 20) = _ at o20
                    refine turn_plain (ok_is ?_ rfl)
                    simp only [execOp, o20]; go_simp; try exact rfl
                  refine ⟨fun ρ W ⟨hcst, hglb, hfun⟩ hX hp ho => ?_, ?_⟩ -- 7: slot 178 := Op.indexAddr 31 t176 t177
                  · obtain ⟨p176, p177, -⟩ := hp
                    change ρ (.tmp 176) = _ at p176
                    change ρ (.tmp 177) = _ at p177
                    refine turn_plain (ok_is ?_ rfl)
                    simp only [execOp, p176, p177]; go_simp; try exact rfl
                  refine ⟨fun ρ W ⟨hcst, hglb, hfun⟩ hX hp ho => ?_, ?_⟩ -- 8: slot 179 := Op.load 22 t178
                  · obtain ⟨p178, -⟩ := hp
                    change ρ (.tmp 178) = _ at p178
                    have q : W.cell? ⟨b7, o7 + j, none⟩ = some (.slice A9 D.length c9) := ((Below.refl _ _).drew.trans hX).cell (p := ⟨b7, o7 + j, none⟩) (lt_of_cell hc7) |>.trans hc7
                    refine turn_plain (ok_is ?_ rfl)
                    simp only [execOp, p178]; go_simp; try exact rfl
                  refine ⟨fun ρ W ⟨hcst, hglb, hfun⟩ hX hp ho => ?_, ?_⟩ -- 9: slot 180 := Op.convert 22 9 t179
                  · obtain ⟨p179, -⟩ := hp
                    change ρ (.tmp 179) = _ at p179
                    have hW := (Below.refl _ _).drew.trans hX
                    refine turn_plain ?_
                    refine ok_is (by simp only [execOp, p179]; rw [Sem.run_bind, run_str W elt_u8.ht (by kernel_rfl) (by kernel_rfl) rfl (h9.later ((Below.refl _ _).drew.trans hX) (Nat.le_refl _))]; rfl) rfl
                  refine ⟨fun ρ W ⟨hcst, hglb, hfun⟩ hX hp ho => ?_, ?_⟩ -- 10: slot 181 := Op.binOp BinOp.neq 9 t175 t180 9
                  · obtain ⟨p175, p180, -⟩ := hp
                    change ρ (.tmp 175) = _ at p175
                    change ρ (.tmp 180) = _ at p180
                    refine turn_plain (ok_is ?_ rfl)
                    simp only [execOp, p175, p180]; go_simp; try exact rfl
                  exact trivial
                case finx =>
                  rintro v wm hX ⟨f0, f1, f2, f3, f4, f5, f6, f7, f8, f9, f10, -⟩
                  simp only [is] at f0 f1 f2 f3 f4 f5 f6 f7 f8 f9 f10
                  simp only [putAll, Act.put, List.setIfInBounds_toArray, List.set_cons_succ, List.set_cons_zero, f0, f1, f2, f3, f4, f5, f6, f7, f8, f9, f10]
                  clear f0 f1 f2 f3 f4 f5 f6 f7 f8 f9 f10
                  have hbm := hbj.trans (hX.mono hbj.size)
                  clear hX hc6 hc7 h8 h9
                  go_wp2_with fail
                  go_round
                  case rel => exact ⟨j + 1, by omega, by go_num, hbm⟩
                  case measure => simp [intOf]; omega
              · obtain rfl : j = nL := by omega
                replace RZ := Lib.hid (RZ.out.later hbj)
                go_wp2_with fail
                go_meet
                exact ⟨outS s, F6, Ar, m, cr, us, (by have := BD.out; rw [outS_S]; omega), RZ.out⟩
          by_cases K3 : K = 3
          · subst K3
            have HLM := Lib.hid R5.out.ll
            have CE := Lib.hid (fun (W : World) (hW : Below w.heap.size w W) => enck_any fr dt kk ep sq A3 bd.length c3 bd W rfl (HAC.out.a3.later hW (Nat.le_refl _)) HAC.out.b3 (.inl (by omega)))
            have H9 := Lib.hid (enc_900 (fr := fr) (dt := dt) (k := kk) (ep := ep) (sq := sq) (b := bd) (by omega))
            have HLY := Lib.hid (encL_byte (fr := fr) (dt := dt) (k := kk) (ep := ep) (sq := sq) (b := bd) HAC.out.b3)
            obtain ⟨l, hl⟩ : ∃ l, encL fr dt kk ep sq bd = l := ⟨_, rfl⟩
            rw [hl] at CE H9 HLY
            clear hl
            obtain ⟨nl, hnl⟩ : ∃ n, l.length = n := ⟨_, rfl⟩
            have HNL := Lib.hid hnl
            clear hnl
            go_wp2_with fail
            with_reducible refine (CE.out _ R5.out.ways.bel).mono ?_
            rintro e w51 ⟨AL, cL, rfl, oL, bL⟩
            clear CE
            have HDL := Lib.hid (show Dat w51 F AL l from ⟨oL.at_, fun k e => ⟨(oL.lt k e).2, fun i hi => by have := (oL.lt k e).1; have := (R5.out.ways.ge i k hi).2; omega⟩⟩)
            have HLC := Lib.hid (show l.length ≤ cL ∧ cL ≤ maxLen from oL.cap)
            have R51 := Lib.hid (R5.out.later bL)
            replace HPA := Lib.hid (HPA.out.later bL)
            clear bL oL R5 pa0 pa1 pa2 pa3 pa4 pa5 pa6 pa7
            rw [HNL.out]
            have OKS := Lib.hid (show LOk s from (R51.out.ways.ok 0 (by decide)).1)
            have HBD := Lib.hid (hear_bound s l)
            obtain ⟨hr4, hh⟩ : ∃ r, hearR s l = r := ⟨_, rfl⟩
            obtain ⟨s', bh, ih, xh⟩ := hr4
            rw [hh] at HBD
            have HR := Lib.hid hh
            clear hh
            obtain ⟨nb, hnb⟩ : ∃ n, bh.length = n := ⟨_, rfl⟩
            have HNB := Lib.hid hnb
            clear hnb
            go_wp2_with fail
            with_reducible refine (wt_hear0 R51.out.ways (by decide) AL cL l HLC.out HDL.out.at_ HLY.out HNL.out HR.out HNB.out (v := erV xh) rfl).mono ?_
            rintro e w6 ⟨A6, c6, F6, rfl, hw, hk, hd⟩
            have RZ := Lib.hid (R51.out.prog hw hk)
            replace HPA := Lib.hid (HPA.out.keep hk)
            have HT6 := Lib.hid hd.at_
            have HAT2 := Lib.hid ((HDL.out.keep hk).at_)
            clear hw hk hd R51
            have CO := xhear_any RZ.out.xl OKS.out AL nl cL l HNL.out (by have := HLC.out; have h5 := HNL.out; omega) HLC.out.2 HAT2.out HLY.out (.inl (by have := H9.out; have := HNL.out; omega))
            rw [HR.out] at CO
            replace CO := Lib.hid CO
            go_wp2_with (refine wpList_load_row rfl 46 (.tmp 11) rfl px rfl _ (endX s Ar m cr) _ _ RZ.out.x end_under rfl end_size ?_)
            with_reducible refine CO.out.mono ?_
            rintro e w7 ⟨Ar', m', cr', us', ⟨A7, c7, rfl, hat7, b7⟩, hxl, hbk⟩
            rw [HNB.out]
            have HT7 := Lib.hid hat7
            have XLL := Lib.hid hxl
            have HBK := Lib.hid hbk
            replace RZ := Lib.hid (RZ.out.later b7)
            replace HPA := Lib.hid (HPA.out.later b7)
            replace HT6 := Lib.hid (HT6.out.later b7 (Nat.le_refl _))
            clear hat7 hxl hbk b7 CO HAT2
            go_upto_region 43 with (first
              | (refine Great.wpList_allocTo rfl (some 25) rfl _ (.cells (endX z19 none 0 0) 46) (run_allocE _ _ _ rfl) ?_)
              | (refine wpList_store_rowTo rfl 46 (.tmp 25) (.tmp 207) rfl rfl w7.heap.size (endX s' Ar' m' cr') rfl rfl 46 (endX z19 none 0 0) (Holds.new w7 46 (endX z19 none 0 0) w7.heap.size rfl) end_size rfl (endX_one _ _ _ _) ?_))
            have H4 := Lib.hid ((Holds.new w7 46 (endX z19 none 0 0) w7.heap.size rfl).rowE (endX s' Ar' m' cr'))
            have b8 := below_setRow ((Below.refl w7.heap.size w7).alloc (Nat.le_refl _) (.cells (endX z19 none 0 0) 46)) (g := w7.heap.size) (Nat.le_refl _) (endX s' Ar' m' cr')
            replace RZ := Lib.hid (RZ.out.later b8)
            replace HPA := Lib.hid (HPA.out.later b8)
            replace HT6 := Lib.hid (HT6.out.later b8 (Nat.le_refl _))
            replace HT7 := Lib.hid (HT7.out.later b8 (Nat.le_refl _))
            replace XLL := Lib.hid (XLL.out.later b8)
            generalize (w7.alloc (.cells (endX z19 none 0 0) 46)).setRow w7.heap.size (endX s' Ar' m' cr') = w8 at *
            generalize w7.heap.size = g4 at H4 ⊢
            clear b8
            go_upto_region 44 with (first
              | (refine wpList_load_row rfl 46 (.tmp 25) rfl g4 rfl _ (endX s' Ar' m' cr') _ _ H4.out end_under rfl end_size ?_)
              | (refine wpList_store_rowTo rfl 46 (.tmp 11) (.tmp 211) rfl rfl px (endX s' Ar' m' cr') rfl rfl 46 (endX s Ar m cr) RZ.out.x end_size rfl (endX_one _ _ _ _) ?_))
            have hgr := grown_row (w := w8) (g := px) (endX s' Ar' m' cr')
            replace HPA := Lib.hid (HPA.out.grown hgr)
            replace HT6 := Lib.hid (HT6.out.apart RZ.out.x (endX_no _ _ _ _) (Chg.of_grown hgr rfl))
            replace HT7 := Lib.hid (HT7.out.apart RZ.out.x (endX_no _ _ _ _) (Chg.of_grown hgr rfl))
            replace RZ := Lib.hid (RZ.out.store hgr (RZ.out.x.rowE (endX s' Ar' m' cr')) XLL.out.at_ XLL.out.ul XLL.out.ll XLL.out.each (fun k e => RZ.out.rF k (HBK.out ▸ e)) (fun e => RZ.out.rp (HBK.out ▸ e)) XLL.out.cap)
            clear hgr H4
            generalize w8.setRow px (endX s' Ar' m' cr') = w9 at *
            have k1 := run_str (P := Tryd.prog) (src := 22) (dst := 9) (e := 5) w9 (by kernel_rfl) (by kernel_rfl) (by kernel_rfl) (c := c6) HNB.out HT6.out
            have k2 := run_str (P := Tryd.prog) (src := 22) (dst := 9) (e := 5) w9 (by kernel_rfl) (by kernel_rfl) (by kernel_rfl) (c := c7) HNB.out HT7.out
            have NN := Lib.hid (num19_er xh w9 (HG.out.later RZ.out.ways.bel (Nat.le_refl _)))
            cases ih
            all_goals
              go_wp2_with fail
              with_reducible refine NN.out.mono ?_
              rintro e w10 ⟨rfl, b9⟩
              replace RZ := Lib.hid (RZ.out.later b9)
              clear b9
              go_wp2_with fail
              go_meet
              exact ⟨s', F6, Ar', m', cr', us', (by have h1 := BD.out; have h2 : s'.S + s'.l.length ≤ s.S + s.l.length ∧ s'.l.length ≤ s.l.length := HBD.out; have h3 := HLM.out; have h4 := XLL.out.ll; omega), RZ.out⟩
          by_cases K4 : K = 4
          · subst K4
            have HLM := Lib.hid R5.out.ll
            have OKS := Lib.hid (show LOk s from (R5.out.ways.ok 0 (by decide)).1)
            have HBD := Lib.hid (hear_bound s d)
            obtain ⟨hr4, hh⟩ : ∃ r, hearR s d = r := ⟨_, rfl⟩
            obtain ⟨s', bh, ih, xh⟩ := hr4
            rw [hh] at HBD
            have HR := Lib.hid hh
            clear hh
            obtain ⟨nb, hnb⟩ : ∃ n, bh.length = n := ⟨_, rfl⟩
            have HNB := Lib.hid hnb
            clear hnb
            go_wp2_with fail
            with_reducible refine (wt_hear0 R5.out.ways (by decide) A2 c2 d HAC.out.l2 (HAC.out.a2.later R5.out.ways.bel (Nat.le_refl _)) HAC.out.b2 (Eq.refl d.length) HR.out HNB.out (v := erV xh) rfl).mono ?_
            rintro e w6 ⟨A6, c6, F6, rfl, hw, hk, hd⟩
            have RZ := Lib.hid (R5.out.prog hw hk)
            replace HPA := Lib.hid (HPA.out.keep hk)
            have HT6 := Lib.hid hd.at_
            have HAT2 := Lib.hid (HAC.out.a2.later RZ.out.ways.bel (Nat.le_refl _))
            clear hw hk hd R5
            have CO := xhear_any RZ.out.xl OKS.out A2 d.length c2 d (Eq.refl d.length) (by have := HAC.out.l2; have h5 := (Eq.refl d.length); omega) HAC.out.l2.2 HAT2.out HAC.out.b2 (.inl (by omega))
            rw [HR.out] at CO
            replace CO := Lib.hid CO
            go_wp2_with (refine wpList_load_row rfl 46 (.tmp 11) rfl px rfl _ (endX s Ar m cr) _ _ RZ.out.x end_under rfl end_size ?_)
            with_reducible refine CO.out.mono ?_
            rintro e w7 ⟨Ar', m', cr', us', ⟨A7, c7, rfl, hat7, b7⟩, hxl, hbk⟩
            rw [HNB.out]
            have HT7 := Lib.hid hat7
            have XLL := Lib.hid hxl
            have HBK := Lib.hid hbk
            replace RZ := Lib.hid (RZ.out.later b7)
            replace HPA := Lib.hid (HPA.out.later b7)
            replace HT6 := Lib.hid (HT6.out.later b7 (Nat.le_refl _))
            clear hat7 hxl hbk b7 CO HAT2
            go_upto_region 43 with (first
              | (refine Great.wpList_allocTo rfl (some 25) rfl _ (.cells (endX z19 none 0 0) 46) (run_allocE _ _ _ rfl) ?_)
              | (refine wpList_store_rowTo rfl 46 (.tmp 25) (.tmp 207) rfl rfl w7.heap.size (endX s' Ar' m' cr') rfl rfl 46 (endX z19 none 0 0) (Holds.new w7 46 (endX z19 none 0 0) w7.heap.size rfl) end_size rfl (endX_one _ _ _ _) ?_))
            have H4 := Lib.hid ((Holds.new w7 46 (endX z19 none 0 0) w7.heap.size rfl).rowE (endX s' Ar' m' cr'))
            have b8 := below_setRow ((Below.refl w7.heap.size w7).alloc (Nat.le_refl _) (.cells (endX z19 none 0 0) 46)) (g := w7.heap.size) (Nat.le_refl _) (endX s' Ar' m' cr')
            replace RZ := Lib.hid (RZ.out.later b8)
            replace HPA := Lib.hid (HPA.out.later b8)
            replace HT6 := Lib.hid (HT6.out.later b8 (Nat.le_refl _))
            replace HT7 := Lib.hid (HT7.out.later b8 (Nat.le_refl _))
            replace XLL := Lib.hid (XLL.out.later b8)
            generalize (w7.alloc (.cells (endX z19 none 0 0) 46)).setRow w7.heap.size (endX s' Ar' m' cr') = w8 at *
            generalize w7.heap.size = g4 at H4 ⊢
            clear b8
            go_upto_region 44 with (first
              | (refine wpList_load_row rfl 46 (.tmp 25) rfl g4 rfl _ (endX s' Ar' m' cr') _ _ H4.out end_under rfl end_size ?_)
              | (refine wpList_store_rowTo rfl 46 (.tmp 11) (.tmp 211) rfl rfl px (endX s' Ar' m' cr') rfl rfl 46 (endX s Ar m cr) RZ.out.x end_size rfl (endX_one _ _ _ _) ?_))
            have hgr := grown_row (w := w8) (g := px) (endX s' Ar' m' cr')
            replace HPA := Lib.hid (HPA.out.grown hgr)
            replace HT6 := Lib.hid (HT6.out.apart RZ.out.x (endX_no _ _ _ _) (Chg.of_grown hgr rfl))
            replace HT7 := Lib.hid (HT7.out.apart RZ.out.x (endX_no _ _ _ _) (Chg.of_grown hgr rfl))
            replace RZ := Lib.hid (RZ.out.store hgr (RZ.out.x.rowE (endX s' Ar' m' cr')) XLL.out.at_ XLL.out.ul XLL.out.ll XLL.out.each (fun k e => RZ.out.rF k (HBK.out ▸ e)) (fun e => RZ.out.rp (HBK.out ▸ e)) XLL.out.cap)
            clear hgr H4
            generalize w8.setRow px (endX s' Ar' m' cr') = w9 at *
            have k1 := run_str (P := Tryd.prog) (src := 22) (dst := 9) (e := 5) w9 (by kernel_rfl) (by kernel_rfl) (by kernel_rfl) (c := c6) HNB.out HT6.out
            have k2 := run_str (P := Tryd.prog) (src := 22) (dst := 9) (e := 5) w9 (by kernel_rfl) (by kernel_rfl) (by kernel_rfl) (c := c7) HNB.out HT7.out
            have NN := Lib.hid (num19_er xh w9 (HG.out.later RZ.out.ways.bel (Nat.le_refl _)))
            cases ih
            all_goals
              go_wp2_with fail
              with_reducible refine NN.out.mono ?_
              rintro e w10 ⟨rfl, b9⟩
              replace RZ := Lib.hid (RZ.out.later b9)
              clear b9
              go_wp2_with fail
              go_meet
              exact ⟨s', F6, Ar', m', cr', us', (by have h1 := BD.out; have h2 : s'.S + s'.l.length ≤ s.S + s.l.length ∧ s'.l.length ≤ s.l.length := HBD.out; have h3 := HLM.out; have h4 := XLL.out.ll; omega), RZ.out⟩
          have e0 : (K == 0) = false := beq_eq_false_iff_ne.2 K0
          have e1 : (K == 1) = false := beq_eq_false_iff_ne.2 K1
          have e3 : (K == 3) = false := beq_eq_false_iff_ne.2 K3
          have e4 : (K == 4) = false := beq_eq_false_iff_ne.2 K4
          have OKS := Lib.hid (show LOk s from (R5.out.ways.ok 0 (by decide)).1)
          go_wp2_with fail
          with_reducible refine (wt_tick0 R5.out.ways (by decide) (s' := tickS s) rfl).mono ?_
          rintro e w6 ⟨F6, rfl, hw, hk⟩
          have RZ := Lib.hid (R5.out.prog hw hk)
          replace HPA := Lib.hid (HPA.out.keep hk)
          clear hw hk R5 pa0 pa1 pa2 pa3 pa4 pa5 pa6 pa7
          have q2 : w6.cell? ⟨px, 2, none⟩ = some (.int .i64 s.E) := RZ.out.x.cell 2
          have z2 := RZ.out.x.frozen 2
          have q3 : w6.cell? ⟨px, 3, none⟩ = some (.int .i64 s.S) := RZ.out.x.cell 3
          have z3 := RZ.out.x.frozen 3
          have q4 : w6.cell? ⟨px, 4, none⟩ = some (.slice Ar m cr) := RZ.out.x.cell 4
          have z4 := RZ.out.x.frozen 4
          have q5 : w6.cell? ⟨px, 5, none⟩ = some (.int .i64 s.st) := RZ.out.x.cell 5
          have z5 := RZ.out.x.frozen 5
          have q6 : w6.cell? ⟨px, 6, none⟩ = some (.int .i64 s.lf) := RZ.out.x.cell 6
          have z6 := RZ.out.x.frozen 6
          go_wp2_with fail
          with_reducible refine (rtick_any s OKS.out.lf).mono ?_
          rintro e w7 ⟨rfl, b7⟩
          replace RZ := Lib.hid (RZ.out.later b7)
          clear b7 q2 z2 q3 z3 q4 z4 q5 z5 q6 z6
          have q2 : w7.cell? ⟨px, 2, none⟩ = some (.int .i64 s.E) := RZ.out.x.cell 2
          have z2 := RZ.out.x.frozen 2
          have q3 : w7.cell? ⟨px, 3, none⟩ = some (.int .i64 s.S) := RZ.out.x.cell 3
          have z3 := RZ.out.x.frozen 3
          have q4 : w7.cell? ⟨px, 4, none⟩ = some (.slice Ar m cr) := RZ.out.x.cell 4
          have z4 := RZ.out.x.frozen 4
          have q5 : w7.cell? ⟨px, 5, none⟩ = some (.int .i64 s.st) := RZ.out.x.cell 5
          have z5 := RZ.out.x.frozen 5
          have q6 : w7.cell? ⟨px, 6, none⟩ = some (.int .i64 s.lf) := RZ.out.x.cell 6
          have z6 := RZ.out.x.frozen 6
          go_wp2_with fail
          have hgs := (grown_set (grown_set (grown_set (grown_set (grown_set (grown_refl w7 (some px)) 2 (.int .i64 s.E)) 3 (.int .i64 s.S)) 4 (.slice Ar m cr)) 5 (.int .i64 s.st)) 6 (.int .i64 (tickS s).lf))
          replace RZ := Lib.hid (RZ.out.store hgs (show Holds (((((w7.setCell ⟨px, 2, none⟩ (.int .i64 s.E)).setCell ⟨px, 3, none⟩ (.int .i64 s.S)).setCell ⟨px, 4, none⟩ (.slice Ar m cr)).setCell ⟨px, 5, none⟩ (.int .i64 s.st)).setCell ⟨px, 6, none⟩ (.int .i64 (tickS s).lf)) px 46 (endX (tickS s) Ar m cr) from (((((RZ.out.x.set 2 (.int .i64 s.E)).set 3 (.int .i64 s.S)).set 4 (.slice Ar m cr)).set 5 (.int .i64 s.st)).set 6 (.int .i64 (tickS s).lf))) RZ.out.at_ RZ.out.ul RZ.out.ll RZ.out.each RZ.out.rF RZ.out.rp RZ.out.cap)
          go_meet
          exact ⟨tickS s, F6, Ar, m, cr, us, (by have := BD.out; show s.S + (m : Int) ≤ _ ∧ _; omega), RZ.out⟩
        case rest =>
          obtain ⟨s, F, Ar, m, cr, us, hbd, hr⟩ := hcut
          have QQ := Lib.hid hr
          clear hr
          go_upto_region 46 with fail
          have WW := Lib.hid (fun W (hW : Below wc.heap.size wc W) => (wt_waits0 (QQ.out.ways.later hW) (by decide) (n := m) QQ.out.ll))
          refine wp_region_below (is ?y0 :: is (.int .i64 (m : Int)) :: is ?y2 :: is ?y3 :: is ?y4 :: is ?y5 :: is ?y6 :: [])
            [⟨[], [9], none⟩, ⟨[(228, 0)], [], none⟩, ⟨[], [11], none⟩, ⟨[(230, 2)], [], none⟩, ⟨[(231, 3)], [], none⟩, ⟨[(232, 4)], [], none⟩, ⟨[(229, 1), (233, 5)], [], none⟩] (by kernel_rfl) (by kernel_rfl) (by kernel_rfl) (by kernel_rfl) (by kernel_rfl) ?monoy ?stepsy ?finy
          case monoy => exact ⟨mono_eq _, mono_eq _, mono_eq _, mono_eq _, mono_eq _, mono_eq _, mono_eq _, trivial⟩
          case stepsy =>
            refine ⟨fun ρ W ⟨hcst, hglb, hfun⟩ hX hp ho => ?_, ?_⟩ -- 0: slot 228 := Op.move t9
            · obtain ⟨o9, -⟩ := ho
              change ρ (.tmp 9) = _ at o9
              refine turn_plain (ok_is ?_ rfl)
              simp only [execOp, o9]; go_simp; try exact rfl
            refine ⟨fun ρ W ⟨hcst, hglb, hfun⟩ hX hp ho => ?_, ?_⟩ -- 1: slot 229 := Op.call { value (Operand.func 11), args := #[t228], argTypes := #[24] }
            · obtain ⟨p228, -⟩ := hp
              change ρ (.tmp 228) = _ at p228
              have hW := (Below.refl _ _).drew.trans hX
              refine turn_plain ?_
              have ce := @enter_of Tryd.prog 11 _ Tryd.func11 (by kernel_rfl) (by kernel_rfl)
              refine ok_call (op_call1 hfun ce (by exact rfl) p228) ?_
              refine (WW.out W hW).mono ?_
              rintro e W' ⟨rfl, rfl⟩
              exact ⟨_, rfl, Below.refl _ _, rfl⟩
            refine ⟨fun ρ W ⟨hcst, hglb, hfun⟩ hX hp ho => ?_, ?_⟩ -- 2: slot 230 := Op.fieldAddr 46 t11 2
            · obtain ⟨o11, -⟩ := ho
              change ρ (.tmp 11) = _ at o11
              refine turn_plain (ok_is ?_ rfl)
              simp only [execOp, o11]; go_simp; try exact rfl
            refine ⟨fun ρ W ⟨hcst, hglb, hfun⟩ hX hp ho => ?_, ?_⟩ -- 3: slot 231 := Op.fieldAddr 42 t230 2
            · obtain ⟨p230, -⟩ := hp
              change ρ (.tmp 230) = _ at p230
              refine turn_plain (ok_is ?_ rfl)
              simp only [execOp, p230]; go_simp; try exact rfl
            refine ⟨fun ρ W ⟨hcst, hglb, hfun⟩ hX hp ho => ?_, ?_⟩ -- 4: slot 232 := Op.load 31 t231
            · obtain ⟨p231, -⟩ := hp
              change ρ (.tmp 231) = _ at p231
              have q : W.cell? ⟨px, 4, none⟩ = some (.slice Ar m cr) := (QQ.out.x.later ((Below.refl _ _).drew.trans hX) (Nat.le_refl _)).cell 4
              refine turn_plain (ok_is ?_ rfl)
              simp only [execOp, p231]; go_simp; try exact rfl
            refine ⟨fun ρ W ⟨hcst, hglb, hfun⟩ hX hp ho => ?_, ?_⟩ -- 5: slot 233 := Op.call { builtin len, args := #[t232], argTypes := #[31] }
            · obtain ⟨p232, -⟩ := hp
              change ρ (.tmp 232) = _ at p232
              refine turn_plain (ok_is ?_ rfl)
              simp only [execOp, p232]; go_simp; try exact rfl
            refine ⟨fun ρ W ⟨hcst, hglb, hfun⟩ hX hp ho => ?_, ?_⟩ -- 6: slot 234 := Op.binOp BinOp.neq 3 t229 t233 3
            · obtain ⟨p229, p233, -⟩ := hp
              change ρ (.tmp 229) = _ at p229
              change ρ (.tmp 233) = _ at p233
              refine turn_plain (ok_is ?_ rfl)
              simp only [execOp, p229, p233]; go_simp; try exact rfl
            exact trivial
          case finy =>
            rintro v wy hX ⟨f0, f1, f2, f3, f4, f5, f6, -⟩
            simp only [is] at f0 f1 f2 f3 f4 f5 f6
            simp only [putAll, Act.put, List.setIfInBounds_toArray, List.set_cons_succ, List.set_cons_zero, f0, f1, f2, f3, f4, f5, f6]
            clear f0 f1 f2 f3 f4 f5 f6
            have RY := Lib.hid (QQ.out.later hX)
            clear hX QQ
            go_wp2_with fail
            go_round
            case rel => exact ⟨k + 1, s, F, Ar, m, cr, us, by omega, by omega, by go_num, (by omega), RY.out⟩
            case measure => simp [intOf]; omega
      · obtain rfl : k = 60 := by omega
        go_wp2_with fail
        refine (sure19 _ (HG.out.later RR.out.ways.bel (Nat.le_refl _))).mono ?_
        rintro e w' ⟨rfl, bb⟩
        have BB := Lib.hid (RR.out.ways.bel.trans (bb.mono RR.out.ways.bel.size))
        clear bb
        go_wp2_with fail
        go_ret
        exact ⟨rfl, BB.out⟩
    · obtain rfl : k = n1 := by omega
      go_wp2_with fail
      refine (sure19 _ (HG.out.later RR.out.ways.bel (Nat.le_refl _))).mono ?_
      rintro e w' ⟨rfl, bb⟩
      have BB := Lib.hid (RR.out.ways.bel.trans (bb.mono RR.out.ways.bel.size))
      clear bb
      go_wp2_with fail
      go_ret
      exact ⟨rfl, BB.out⟩
theorem lruns_any (x y z : Int) (A1 : Option Addr) (n1 c1 : Nat) (w : World) (m1 : n1 ≤ 9223372036854775807) (a1 : ∀ i, i < n1 → ActL w A1 i) (hg : Glob w) :
    Calls Tryd.prog 4 #[.agg #[.int .i64 x, .int .i64 y, .int .i64 z], .slice A1 n1 c1] w fun e w' => e = .returned (.bool true) ∧ Below w.heap.size w w' := by
  by_cases h : LMay x y z
  · exact lruns_in x y z A1 n1 c1 w m1 a1 hg h
  · exact lruns_no x y z A1 n1 c1 w m1 a1 hg h
end Go.Proofs.YtodimanghmepoaaDoor
