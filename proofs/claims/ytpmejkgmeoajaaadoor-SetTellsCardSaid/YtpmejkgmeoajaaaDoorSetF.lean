/- Layer 15: what must come whatever the input is; the laws' walks. -/
import Derived.Test.YtpmejkgmeoajaaaDoorSetE
namespace Go.Proofs.YtpmejkgmeoajaaaDoor
open Go.RowKit
theorem sl_eq {w : World} {l : List Int} (l' : List Int) (n : Nat) (h : l = l') (hn : l'.length = n) {P : Ending → World → Prop} {f : FuncId} {args : Array Value} {Q : Program} (hc : Calls Q f args w (SlOf w l)) :
    Calls Q f args w fun e w' => ∃ A c, e = .returned (.slice A n c) ∧ At w' A (ints .i64 l') ∧ Below w.heap.size w w' := by
  subst h; subst hn; exact hc
theorem of_good {w : World} {l : List Int} (l' : List Int) (n : Nat) (hk : SetM.ok l = true) (h : SetM.elems (SetM.bitsOf l) = l') (hn : l'.length = n) {f : FuncId} {args : Array Value} {Q : Program} (hc : Calls Q f args w (OfP w l)) :
    Calls Q f args w fun e w' => ∃ A c, e = .returned (.tuple #[.slice A n c, .nilIface]) ∧ At w' A (ints .i64 l') ∧ Below w.heap.size w w' := by
  subst h; subst hn
  refine hc.mono fun e w' h => ?_
  unfold OfP errIf at h
  rw [hk, if_pos rfl, if_pos rfl] at h
  exact h
theorem of_bad {w : World} {l : List Int} (hk : SetM.ok l = false) {f : FuncId} {args : Array Value} {Q : Program} (hc : Calls Q f args w (OfP w l)) :
    Calls Q f args w fun e w' => ∃ A c, e = .returned (.tuple #[.slice A 0 c, .iface 48 (.int .i64 1)]) ∧ Below w.heap.size w w' := by
  refine hc.mono fun e w' h => ?_
  unfold OfP errIf at h
  rw [hk, if_neg (by decide), if_neg (by decide)] at h
  obtain ⟨A, c, h1, _, h3⟩ := h
  exact ⟨A, c, h1, h3⟩
theorem val_eq {w : World} {v : Value} (v' : Value) (h : v = v') {f : FuncId} {args : Array Value} {Q : Program} (hc : Calls Q f args w fun e w' => e = .returned v ∧ w = w') : Calls Q f args w fun e w' => e = .returned v' ∧ w = w' := by
  subst h; exact hc
theorem valB_eq {w : World} {v : Value} (v' : Value) (h : v = v') {f : FuncId} {args : Array Value} {Q : Program} (hc : Calls Q f args w fun e w' => e = .returned v ∧ Below w.heap.size w w') : Calls Q f args w fun e w' => e = .returned v' ∧ Below w.heap.size w w' := by
  subst h; exact hc
set_option maxRecDepth 100000 in
set_option maxHeartbeats 4000000 in
theorem sure15 (w : World) (hg : Glob w) : Calls Tryd.prog 13 #[] w fun e w' => e = .returned (.bool true) ∧ Below w.heap.size w w' := by
  have HG := Lib.hid hg
  clear hg
  go_enter Tryd.func13, Tryd.ntmps13
  have HB := Lib.hid (Below.refl w.heap.size w)
  go_wp2_with fail
  have bel := (Below.refl w.heap.size w).alloc (Nat.le_refl _) (.cells #[.int .i64 3, .int .i64 1] 3)
  have Sa := Lib.hid (show At (w.alloc (.cells #[.int .i64 3, .int .i64 1] 3)) (some ⟨w.heap.size, 0, none⟩) (ints .i64 [3, 1]) from At.lit _ _ _ _ _ rfl)
  generalize (w.alloc (.cells #[.int .i64 3, .int .i64 1] 3)) = w1 at bel Sa ⊢
  replace HB := Lib.hid (HB.out.trans (bel.mono HB.out.size))
  replace HG := Lib.hid (HG.out.later bel (Nat.le_refl _))
  have Na := Lib.hid (show (2 : Nat) ≤ 9223372036854775807 by decide)
  clear bel
  go_wp2_with fail
  refine (of_good [1, 3] 2 (by decide) (by decide) rfl (setOf_any (some ⟨w.heap.size, 0, none⟩) 2 2 [3, 1] _ rfl Na.out Sa.out)).mono ?_
  rintro e w2 ⟨A_l, c_l, rfl, hat, bel⟩
  replace HB := Lib.hid (HB.out.trans (bel.mono HB.out.size))
  replace Sa := Lib.hid (Sa.out.later bel (Nat.le_refl _))
  replace HG := Lib.hid (HG.out.later bel (Nat.le_refl _))
  have Sl := Lib.hid hat
  clear hat
  clear bel
  have Nl := Lib.hid (show (2 : Nat) ≤ 9223372036854775807 by decide)
  clear Sa Na
  go_wp2_with fail
  have bel := (Below.refl w2.heap.size w2).alloc (Nat.le_refl _) (.cells #[.int .i64 3, .int .i64 3] 3)
  have Sb := Lib.hid (show At (w2.alloc (.cells #[.int .i64 3, .int .i64 3] 3)) (some ⟨w2.heap.size, 0, none⟩) (ints .i64 [3, 3]) from At.lit _ _ _ _ _ rfl)
  generalize (w2.alloc (.cells #[.int .i64 3, .int .i64 3] 3)) = w3 at bel Sb ⊢
  replace HB := Lib.hid (HB.out.trans (bel.mono HB.out.size))
  replace Sl := Lib.hid (Sl.out.later bel (Nat.le_refl _))
  replace HG := Lib.hid (HG.out.later bel (Nat.le_refl _))
  have Nb := Lib.hid (show (2 : Nat) ≤ 9223372036854775807 by decide)
  clear bel
  go_wp2_with fail
  refine (of_bad (by decide) (setOf_any (some ⟨w2.heap.size, 0, none⟩) 2 2 [3, 3] _ rfl Nb.out Sb.out)).mono ?_
  rintro e w4 ⟨A_x, c_x, rfl, bel⟩
  replace HB := Lib.hid (HB.out.trans (bel.mono HB.out.size))
  replace Sl := Lib.hid (Sl.out.later bel (Nat.le_refl _))
  replace Sb := Lib.hid (Sb.out.later bel (Nat.le_refl _))
  replace HG := Lib.hid (HG.out.later bel (Nat.le_refl _))
  clear bel
  clear Sb Nb
  go_wp2_with fail
  have bel := (Below.refl w4.heap.size w4).alloc (Nat.le_refl _) (.cells #[.int .i64 1, .int .i64 3] 3)
  have Sc := Lib.hid (show At (w4.alloc (.cells #[.int .i64 1, .int .i64 3] 3)) (some ⟨w4.heap.size, 0, none⟩) (ints .i64 [1, 3]) from At.lit _ _ _ _ _ rfl)
  generalize (w4.alloc (.cells #[.int .i64 1, .int .i64 3] 3)) = w5 at bel Sc ⊢
  replace HB := Lib.hid (HB.out.trans (bel.mono HB.out.size))
  replace Sl := Lib.hid (Sl.out.later bel (Nat.le_refl _))
  replace HG := Lib.hid (HG.out.later bel (Nat.le_refl _))
  have Nc := Lib.hid (show (2 : Nat) ≤ 9223372036854775807 by decide)
  clear bel
  go_wp2_with fail
  refine (valB_eq (.bool true) (by rfl) (ints15_any A_l 2 c_l [1, 3] (some ⟨w4.heap.size, 0, none⟩) 2 2 [1, 3] _ rfl Nl.out Sl.out rfl Nc.out Sc.out)).mono ?_
  rintro e w6 ⟨rfl, bel⟩
  replace HB := Lib.hid (HB.out.trans (bel.mono HB.out.size))
  replace Sl := Lib.hid (Sl.out.later bel (Nat.le_refl _))
  replace Sc := Lib.hid (Sc.out.later bel (Nat.le_refl _))
  replace HG := Lib.hid (HG.out.later bel (Nat.le_refl _))
  clear bel
  clear Sc Nc
  go_wp2_with fail
  refine (num15_err 1 _ HG.out).mono ?_
  rintro e w7 ⟨rfl, bel⟩
  replace HB := Lib.hid (HB.out.trans (bel.mono HB.out.size))
  replace Sl := Lib.hid (Sl.out.later bel (Nat.le_refl _))
  replace HG := Lib.hid (HG.out.later bel (Nat.le_refl _))
  clear bel
  go_wp2_with fail
  refine (val_eq (.int .u64 10) (by rfl) (setBits_any A_l 2 c_l [1, 3] _ rfl Nl.out Sl.out)).mono ?_
  rintro e w' ⟨rfl, rfl⟩
  go_wp2_with fail
  refine (sl_eq (P := fun _ _ => True) [1, 3] 2 (by decide) rfl (setFrom_any 10 _ (by decide))).mono ?_
  rintro e w8 ⟨A_f, c_f, rfl, hat, bel⟩
  replace HB := Lib.hid (HB.out.trans (bel.mono HB.out.size))
  replace Sl := Lib.hid (Sl.out.later bel (Nat.le_refl _))
  replace HG := Lib.hid (HG.out.later bel (Nat.le_refl _))
  have Sf := Lib.hid hat
  clear hat
  clear bel
  have Nf := Lib.hid (show (2 : Nat) ≤ 9223372036854775807 by decide)
  go_wp2_with fail
  refine (valB_eq (.bool true) (by rfl) (ints15_any A_f 2 c_f [1, 3] A_l 2 c_l [1, 3] _ rfl Nf.out Sf.out rfl Nl.out Sl.out)).mono ?_
  rintro e w9 ⟨rfl, bel⟩
  replace HB := Lib.hid (HB.out.trans (bel.mono HB.out.size))
  replace Sl := Lib.hid (Sl.out.later bel (Nat.le_refl _))
  replace Sf := Lib.hid (Sf.out.later bel (Nat.le_refl _))
  replace HG := Lib.hid (HG.out.later bel (Nat.le_refl _))
  clear bel
  clear Sf Nf
  go_wp2_with fail
  refine (val_eq (.bool true) (by rfl) (setHas_any A_l 2 c_l [1, 3] 3 _ rfl Nl.out Sl.out)).mono ?_
  rintro e w' ⟨rfl, rfl⟩
  go_wp2_with fail
  refine (val_eq (.bool false) (by rfl) (setHas_any A_l 2 c_l [1, 3] 2 _ rfl Nl.out Sl.out)).mono ?_
  rintro e w' ⟨rfl, rfl⟩
  go_wp2_with fail
  have bel := (Below.refl w9.heap.size w9).alloc (Nat.le_refl _) (.cells #[.int .i64 2] 3)
  have Sd := Lib.hid (show At (w9.alloc (.cells #[.int .i64 2] 3)) (some ⟨w9.heap.size, 0, none⟩) (ints .i64 [2]) from At.lit _ _ _ _ _ rfl)
  generalize (w9.alloc (.cells #[.int .i64 2] 3)) = w10 at bel Sd ⊢
  replace HB := Lib.hid (HB.out.trans (bel.mono HB.out.size))
  replace Sl := Lib.hid (Sl.out.later bel (Nat.le_refl _))
  replace HG := Lib.hid (HG.out.later bel (Nat.le_refl _))
  have Nd := Lib.hid (show (1 : Nat) ≤ 9223372036854775807 by decide)
  clear bel
  go_wp2_with fail
  refine (sl_eq (P := fun _ _ => True) [1, 2, 3] 3 (by decide) rfl (setEither_any A_l 2 c_l [1, 3] (some ⟨w9.heap.size, 0, none⟩) 1 1 [2] _ rfl Nl.out Sl.out rfl Nd.out Sd.out)).mono ?_
  rintro e w11 ⟨A_e, c_e, rfl, hat, bel⟩
  replace HB := Lib.hid (HB.out.trans (bel.mono HB.out.size))
  replace Sl := Lib.hid (Sl.out.later bel (Nat.le_refl _))
  replace Sd := Lib.hid (Sd.out.later bel (Nat.le_refl _))
  replace HG := Lib.hid (HG.out.later bel (Nat.le_refl _))
  have Se := Lib.hid hat
  clear hat
  clear bel
  have Ne := Lib.hid (show (3 : Nat) ≤ 9223372036854775807 by decide)
  clear Sd Nd
  go_wp2_with fail
  have bel := (Below.refl w11.heap.size w11).alloc (Nat.le_refl _) (.cells #[.int .i64 1, .int .i64 2, .int .i64 3] 3)
  have Sg := Lib.hid (show At (w11.alloc (.cells #[.int .i64 1, .int .i64 2, .int .i64 3] 3)) (some ⟨w11.heap.size, 0, none⟩) (ints .i64 [1, 2, 3]) from At.lit _ _ _ _ _ rfl)
  generalize (w11.alloc (.cells #[.int .i64 1, .int .i64 2, .int .i64 3] 3)) = w12 at bel Sg ⊢
  replace HB := Lib.hid (HB.out.trans (bel.mono HB.out.size))
  replace Sl := Lib.hid (Sl.out.later bel (Nat.le_refl _))
  replace Se := Lib.hid (Se.out.later bel (Nat.le_refl _))
  replace HG := Lib.hid (HG.out.later bel (Nat.le_refl _))
  have Ng := Lib.hid (show (3 : Nat) ≤ 9223372036854775807 by decide)
  clear bel
  go_wp2_with fail
  refine (valB_eq (.bool true) (by rfl) (ints15_any A_e 3 c_e [1, 2, 3] (some ⟨w11.heap.size, 0, none⟩) 3 3 [1, 2, 3] _ rfl Ne.out Se.out rfl Ng.out Sg.out)).mono ?_
  rintro e w13 ⟨rfl, bel⟩
  replace HB := Lib.hid (HB.out.trans (bel.mono HB.out.size))
  replace Sl := Lib.hid (Sl.out.later bel (Nat.le_refl _))
  replace Se := Lib.hid (Se.out.later bel (Nat.le_refl _))
  replace Sg := Lib.hid (Sg.out.later bel (Nat.le_refl _))
  replace HG := Lib.hid (HG.out.later bel (Nat.le_refl _))
  clear bel
  clear Se Ne
  clear Sg Ng
  go_wp2_with fail
  have bel := (Below.refl w13.heap.size w13).alloc (Nat.le_refl _) (.cells #[.int .i64 3, .int .i64 5] 3)
  have Sd := Lib.hid (show At (w13.alloc (.cells #[.int .i64 3, .int .i64 5] 3)) (some ⟨w13.heap.size, 0, none⟩) (ints .i64 [3, 5]) from At.lit _ _ _ _ _ rfl)
  generalize (w13.alloc (.cells #[.int .i64 3, .int .i64 5] 3)) = w14 at bel Sd ⊢
  replace HB := Lib.hid (HB.out.trans (bel.mono HB.out.size))
  replace Sl := Lib.hid (Sl.out.later bel (Nat.le_refl _))
  replace HG := Lib.hid (HG.out.later bel (Nat.le_refl _))
  have Nd := Lib.hid (show (2 : Nat) ≤ 9223372036854775807 by decide)
  clear bel
  go_wp2_with fail
  refine (sl_eq (P := fun _ _ => True) [3] 1 (by decide) rfl (setBoth_any A_l 2 c_l [1, 3] (some ⟨w13.heap.size, 0, none⟩) 2 2 [3, 5] _ rfl Nl.out Sl.out rfl Nd.out Sd.out)).mono ?_
  rintro e w15 ⟨A_e, c_e, rfl, hat, bel⟩
  replace HB := Lib.hid (HB.out.trans (bel.mono HB.out.size))
  replace Sl := Lib.hid (Sl.out.later bel (Nat.le_refl _))
  replace Sd := Lib.hid (Sd.out.later bel (Nat.le_refl _))
  replace HG := Lib.hid (HG.out.later bel (Nat.le_refl _))
  have Se := Lib.hid hat
  clear hat
  clear bel
  have Ne := Lib.hid (show (1 : Nat) ≤ 9223372036854775807 by decide)
  clear Sd Nd
  go_wp2_with fail
  have bel := (Below.refl w15.heap.size w15).alloc (Nat.le_refl _) (.cells #[.int .i64 3] 3)
  have Sg := Lib.hid (show At (w15.alloc (.cells #[.int .i64 3] 3)) (some ⟨w15.heap.size, 0, none⟩) (ints .i64 [3]) from At.lit _ _ _ _ _ rfl)
  generalize (w15.alloc (.cells #[.int .i64 3] 3)) = w16 at bel Sg ⊢
  replace HB := Lib.hid (HB.out.trans (bel.mono HB.out.size))
  replace Sl := Lib.hid (Sl.out.later bel (Nat.le_refl _))
  replace Se := Lib.hid (Se.out.later bel (Nat.le_refl _))
  replace HG := Lib.hid (HG.out.later bel (Nat.le_refl _))
  have Ng := Lib.hid (show (1 : Nat) ≤ 9223372036854775807 by decide)
  clear bel
  go_wp2_with fail
  refine (valB_eq (.bool true) (by rfl) (ints15_any A_e 1 c_e [3] (some ⟨w15.heap.size, 0, none⟩) 1 1 [3] _ rfl Ne.out Se.out rfl Ng.out Sg.out)).mono ?_
  rintro e w17 ⟨rfl, bel⟩
  replace HB := Lib.hid (HB.out.trans (bel.mono HB.out.size))
  replace Sl := Lib.hid (Sl.out.later bel (Nat.le_refl _))
  replace Se := Lib.hid (Se.out.later bel (Nat.le_refl _))
  replace Sg := Lib.hid (Sg.out.later bel (Nat.le_refl _))
  replace HG := Lib.hid (HG.out.later bel (Nat.le_refl _))
  clear bel
  clear Se Ne
  clear Sg Ng
  go_wp2_with fail
  have bel := (Below.refl w17.heap.size w17).alloc (Nat.le_refl _) (.cells #[.int .i64 3] 3)
  have Sd := Lib.hid (show At (w17.alloc (.cells #[.int .i64 3] 3)) (some ⟨w17.heap.size, 0, none⟩) (ints .i64 [3]) from At.lit _ _ _ _ _ rfl)
  generalize (w17.alloc (.cells #[.int .i64 3] 3)) = w18 at bel Sd ⊢
  replace HB := Lib.hid (HB.out.trans (bel.mono HB.out.size))
  replace Sl := Lib.hid (Sl.out.later bel (Nat.le_refl _))
  replace HG := Lib.hid (HG.out.later bel (Nat.le_refl _))
  have Nd := Lib.hid (show (1 : Nat) ≤ 9223372036854775807 by decide)
  clear bel
  go_wp2_with fail
  refine (sl_eq (P := fun _ _ => True) [1] 1 (by decide) rfl (setLess_any A_l 2 c_l [1, 3] (some ⟨w17.heap.size, 0, none⟩) 1 1 [3] _ rfl Nl.out Sl.out rfl Nd.out Sd.out)).mono ?_
  rintro e w19 ⟨A_e, c_e, rfl, hat, bel⟩
  replace HB := Lib.hid (HB.out.trans (bel.mono HB.out.size))
  replace Sl := Lib.hid (Sl.out.later bel (Nat.le_refl _))
  replace Sd := Lib.hid (Sd.out.later bel (Nat.le_refl _))
  replace HG := Lib.hid (HG.out.later bel (Nat.le_refl _))
  have Se := Lib.hid hat
  clear hat
  clear bel
  have Ne := Lib.hid (show (1 : Nat) ≤ 9223372036854775807 by decide)
  clear Sd Nd
  go_wp2_with fail
  have bel := (Below.refl w19.heap.size w19).alloc (Nat.le_refl _) (.cells #[.int .i64 1] 3)
  have Sg := Lib.hid (show At (w19.alloc (.cells #[.int .i64 1] 3)) (some ⟨w19.heap.size, 0, none⟩) (ints .i64 [1]) from At.lit _ _ _ _ _ rfl)
  generalize (w19.alloc (.cells #[.int .i64 1] 3)) = w20 at bel Sg ⊢
  replace HB := Lib.hid (HB.out.trans (bel.mono HB.out.size))
  replace Sl := Lib.hid (Sl.out.later bel (Nat.le_refl _))
  replace Se := Lib.hid (Se.out.later bel (Nat.le_refl _))
  replace HG := Lib.hid (HG.out.later bel (Nat.le_refl _))
  have Ng := Lib.hid (show (1 : Nat) ≤ 9223372036854775807 by decide)
  clear bel
  go_wp2_with fail
  refine (valB_eq (.bool true) (by rfl) (ints15_any A_e 1 c_e [1] (some ⟨w19.heap.size, 0, none⟩) 1 1 [1] _ rfl Ne.out Se.out rfl Ng.out Sg.out)).mono ?_
  rintro e w21 ⟨rfl, bel⟩
  replace HB := Lib.hid (HB.out.trans (bel.mono HB.out.size))
  replace Sl := Lib.hid (Sl.out.later bel (Nat.le_refl _))
  replace Se := Lib.hid (Se.out.later bel (Nat.le_refl _))
  replace Sg := Lib.hid (Sg.out.later bel (Nat.le_refl _))
  replace HG := Lib.hid (HG.out.later bel (Nat.le_refl _))
  clear bel
  clear Se Ne
  clear Sg Ng
  go_wp2_with fail
  have bel := (Below.refl w21.heap.size w21).alloc (Nat.le_refl _) (.cells #[.int .i64 3, .int .i64 1] 3)
  have Sd := Lib.hid (show At (w21.alloc (.cells #[.int .i64 3, .int .i64 1] 3)) (some ⟨w21.heap.size, 0, none⟩) (ints .i64 [3, 1]) from At.lit _ _ _ _ _ rfl)
  generalize (w21.alloc (.cells #[.int .i64 3, .int .i64 1] 3)) = w22 at bel Sd ⊢
  replace HB := Lib.hid (HB.out.trans (bel.mono HB.out.size))
  replace Sl := Lib.hid (Sl.out.later bel (Nat.le_refl _))
  replace HG := Lib.hid (HG.out.later bel (Nat.le_refl _))
  have Nd := Lib.hid (show (2 : Nat) ≤ 9223372036854775807 by decide)
  clear bel
  go_wp2_with fail
  refine (val_eq (.iface 48 (.int .i64 1)) (by rfl) (setCheck_any (some ⟨w21.heap.size, 0, none⟩) 2 2 [3, 1] _ rfl Nd.out Sd.out)).mono ?_
  rintro e w' ⟨rfl, rfl⟩
  clear Sd Nd
  go_wp2_with fail
  refine (num15_err 1 _ HG.out).mono ?_
  rintro e w23 ⟨rfl, bel⟩
  replace HB := Lib.hid (HB.out.trans (bel.mono HB.out.size))
  replace Sl := Lib.hid (Sl.out.later bel (Nat.le_refl _))
  replace HG := Lib.hid (HG.out.later bel (Nat.le_refl _))
  clear bel
  go_wp2_with fail
  refine (val_eq .nilIface (by rfl) (setCheck_any A_l 2 c_l [1, 3] _ rfl Nl.out Sl.out)).mono ?_
  rintro e w' ⟨rfl, rfl⟩
  go_wp2_with fail
  go_ret
  exact ⟨rfl, HB.out⟩
end Go.Proofs.YtpmejkgmeoajaaaDoor
