/- Layer 2: what must come whatever the input is. -/
import Derived.Test.YtbgmbemaopnjfaaDoorVecD
import Derived.Test.YtbgmbemaopnjfaaDoorNum02
namespace Go.Proofs.YtbgmbemaopnjfaaDoor
open Go.RowKit
theorem val_eq {w : World} {v : Value} (v' : Value) (h : v = v') {f : FuncId} {args : Array Value} {Q : Program} (hc : Calls Q f args w fun e w' => e = .returned v ∧ w = w') : Calls Q f args w fun e w' => e = .returned v' ∧ w = w' := by
  subst h; exact hc
theorem rowe_eq {w : World} {l : List Nat} (l' : List Nat) (n : Nat) (h : l = l') (hn : l'.length = n) {f : FuncId} {args : Array Value} {Q : Program} (hc : Calls Q f args w (RowE w l)) :
    Calls Q f args w fun e w' => ∃ A c, e = .returned (.tuple #[.slice A n c, .nilIface]) ∧ At w' A (nats .u32 l') ∧ Below w.heap.size w w' := by
  subst h; subst hn; exact hc
theorem rowt_eq {w : World} {l : List Nat} (l' : List Nat) (n : Nat) (h : l = l') (hn : l'.length = n) {f : FuncId} {args : Array Value} {Q : Program} (hc : Calls Q f args w (RowT w l)) :
    Calls Q f args w fun e w' => ∃ A c, e = .returned (.tuple #[.slice A n c, .bool true]) ∧ At w' A (nats .u32 l') ∧ Below w.heap.size w w' := by
  subst h; subst hn; exact hc
theorem ends_some {w : World} {o : Option (List Nat)} (l' : List Nat) (n : Nat) (h : o = some l') (hn : l'.length = n) {f : FuncId} {args : Array Value} {Q : Program} (hc : Calls Q f args w (EndS w o)) :
    Calls Q f args w fun e w' => ∃ A c, e = .returned (.tuple #[.slice A n c, .nilIface]) ∧ At w' A (nats .u32 l') ∧ Below w.heap.size w w' := by
  subst h; subst hn; exact hc
theorem ends_none {w : World} {o : Option (List Nat)} (h : o = none) {f : FuncId} {args : Array Value} {Q : Program} (hc : Calls Q f args w (EndS w o)) :
    Calls Q f args w fun e w' => e = .returned (.tuple #[.slice none 0 0, .iface 87 (.int .i64 1)]) ∧ Below w.heap.size w w' := by
  subst h; exact hc
theorem endb_some {w : World} {o : Option (List Nat)} (l' : List Nat) (n : Nat) (h : o = some l') (hn : l'.length = n) {f : FuncId} {args : Array Value} {Q : Program} (hc : Calls Q f args w (EndB w o)) :
    Calls Q f args w fun e w' => ∃ A c, e = .returned (.tuple #[.slice A n c, .bool true]) ∧ At w' A (nats .u32 l') ∧ Below w.heap.size w w' := by
  subst h; subst hn; exact hc
theorem endb_none {w : World} {o : Option (List Nat)} (h : o = none) {f : FuncId} {args : Array Value} {Q : Program} (hc : Calls Q f args w (EndB w o)) :
    Calls Q f args w fun e w' => e = .returned (.tuple #[.slice none 0 0, .bool false]) ∧ Below w.heap.size w w' := by
  subst h; exact hc
theorem rows_two {w : World} {e : TypeId} {A1 A2 : Option Addr} {l1 l2 : List Nat} (b0 : Nat) (hb0 : w.heap.size = b0) (h1 : At w A1 (nats .u32 l1)) (h2 : At w A2 (nats .u32 l2)) (n1 : 1 ≤ l1.length ∧ l1.length ≤ 9223372036854775807) (n2 : 1 ≤ l2.length ∧ l2.length ≤ 9223372036854775807) :
    Rows_ (w.alloc (.cells #[.slice A1 l1.length l1.length, .slice A2 l2.length l2.length] e)) .u32 (some ⟨b0, 0, none⟩) [.slice A1 l1.length l1.length, .slice A2 l2.length l2.length] [l1, l2] where
  at_ := At.lit _ _ _ _ _ hb0
  len := rfl
  each := by
    have b := (Below.refl w.heap.size w).alloc (Nat.le_refl _) (.cells #[.slice A1 l1.length l1.length, .slice A2 l2.length l2.length] e)
    have none_no : ∀ (A : Option Addr) (l : List Nat), At w A (nats .u32 l) → A = none → l.length = 0 := by
      intro A l h e
      rcases Nat.eq_zero_or_pos l.length with h0 | h0
      · exact h0
      · obtain ⟨b, o, e2, _⟩ := h.nat 0 h0
        rw [e] at e2; cases e2
    intro i v l hv hl
    match i, hv, hl with
    | 0, hv, hl =>
      simp at hv hl; subst hv; subst hl
      exact ⟨A1, _, rfl, h1.later b (Nat.le_refl _), none_no _ _ h1, Nat.le_refl _, by unfold maxLen; omega⟩
    | 1, hv, hl =>
      simp at hv hl; subst hv; subst hl
      exact ⟨A2, _, rfl, h2.later b (Nat.le_refl _), none_no _ _ h2, Nat.le_refl _, by unfold maxLen; omega⟩
    | i + 2, hv, hl => simp at hv
set_option maxRecDepth 100000 in
set_option maxHeartbeats 2000000 in
theorem sure02 (w : World) (hg : Glob w) : Calls Tryd.prog 42 #[] w fun e w' => e = .returned (.bool true) ∧ Below w.heap.size w w' := by
  have HG := Lib.hid hg
  clear hg
  go_enter Tryd.func42, Tryd.ntmps42
  have HB := Lib.hid (Below.refl w.heap.size w)
  go_wp2_with fail
  have bel := (show Below w.heap.size w ((w.alloc (.cells #[.int .u32 4294967295, .int .u32 5] 34)).alloc (.cells #[.int .u32 1, .int .u32 2] 34)) from (((Below.refl _ _).alloc (by simp) _).alloc (by simp) _))
  have Sa := Lib.hid (show At ((w.alloc (.cells #[.int .u32 4294967295, .int .u32 5] 34)).alloc (.cells #[.int .u32 1, .int .u32 2] 34)) (some ⟨w.heap.size, 0, none⟩) (nats .u32 [4294967295, 5]) from ((show At (w.alloc (.cells #[.int .u32 4294967295, .int .u32 5] 34)) (some ⟨w.heap.size, 0, none⟩) (nats .u32 [4294967295, 5]) from At.lit _ _ _ _ _ rfl).later ((Below.refl _ _).alloc (Nat.le_refl _) (.cells #[.int .u32 1, .int .u32 2] 34)) (Nat.le_refl _)))
  have Sb := Lib.hid (show At ((w.alloc (.cells #[.int .u32 4294967295, .int .u32 5] 34)).alloc (.cells #[.int .u32 1, .int .u32 2] 34)) (some ⟨w.heap.size + 1, 0, none⟩) (nats .u32 [1, 2]) from (show At ((w.alloc (.cells #[.int .u32 4294967295, .int .u32 5] 34)).alloc (.cells #[.int .u32 1, .int .u32 2] 34)) (some ⟨w.heap.size + 1, 0, none⟩) (nats .u32 [1, 2]) from At.lit _ _ _ _ _ (by simp)))
  generalize ((w.alloc (.cells #[.int .u32 4294967295, .int .u32 5] 34)).alloc (.cells #[.int .u32 1, .int .u32 2] 34)) = w1 at bel Sa Sb ⊢
  replace HB := Lib.hid (HB.out.trans (bel.mono HB.out.size))
  replace HG := Lib.hid (HG.out.later bel (Nat.le_refl _))
  have Na := Lib.hid (show (2 : Nat) ≤ 9223372036854775807 by decide)
  have Nb := Lib.hid (show (2 : Nat) ≤ 9223372036854775807 by decide)
  clear bel
  go_wp2_with fail
  refine (rowe_eq [0, 7] 2 (by decide) rfl (vadd_ok (some ⟨w.heap.size, 0, none⟩) 2 2 [4294967295, 5] (some ⟨w.heap.size + 1, 0, none⟩) 2 2 [1, 2] _ rfl rfl Na.out Nb.out Sa.out Sb.out (by decide) (by decide) (by decide) rfl)).mono ?_
  rintro e w2 ⟨A_p, c_p, rfl, hat, bel⟩
  replace HB := Lib.hid (HB.out.trans (bel.mono HB.out.size))
  replace Sa := Lib.hid (Sa.out.later bel (Nat.le_refl _))
  replace Sb := Lib.hid (Sb.out.later bel (Nat.le_refl _))
  replace HG := Lib.hid (HG.out.later bel (Nat.le_refl _))
  have Sp := Lib.hid hat
  clear hat
  clear bel
  clear Sa Na
  clear Sb Nb
  go_wp2_with fail
  have bel := (show Below w2.heap.size w2 ((w2.alloc (.cells #[.int .u32 0] 34)).alloc (.cells #[.int .u32 1] 34)) from (((Below.refl _ _).alloc (by simp) _).alloc (by simp) _))
  have Sc := Lib.hid (show At ((w2.alloc (.cells #[.int .u32 0] 34)).alloc (.cells #[.int .u32 1] 34)) (some ⟨w2.heap.size, 0, none⟩) (nats .u32 [0]) from ((show At (w2.alloc (.cells #[.int .u32 0] 34)) (some ⟨w2.heap.size, 0, none⟩) (nats .u32 [0]) from At.lit _ _ _ _ _ rfl).later ((Below.refl _ _).alloc (Nat.le_refl _) (.cells #[.int .u32 1] 34)) (Nat.le_refl _)))
  have Sd := Lib.hid (show At ((w2.alloc (.cells #[.int .u32 0] 34)).alloc (.cells #[.int .u32 1] 34)) (some ⟨w2.heap.size + 1, 0, none⟩) (nats .u32 [1]) from (show At ((w2.alloc (.cells #[.int .u32 0] 34)).alloc (.cells #[.int .u32 1] 34)) (some ⟨w2.heap.size + 1, 0, none⟩) (nats .u32 [1]) from At.lit _ _ _ _ _ (by simp)))
  generalize ((w2.alloc (.cells #[.int .u32 0] 34)).alloc (.cells #[.int .u32 1] 34)) = w3 at bel Sc Sd ⊢
  replace HB := Lib.hid (HB.out.trans (bel.mono HB.out.size))
  replace Sp := Lib.hid (Sp.out.later bel (Nat.le_refl _))
  replace HG := Lib.hid (HG.out.later bel (Nat.le_refl _))
  have Nc := Lib.hid (show (1 : Nat) ≤ 9223372036854775807 by decide)
  have Nd := Lib.hid (show (1 : Nat) ≤ 9223372036854775807 by decide)
  clear bel
  go_wp2_with fail
  refine (rowe_eq [4294967295] 1 (by decide) rfl (vsub_ok (some ⟨w2.heap.size, 0, none⟩) 1 1 [0] (some ⟨w2.heap.size + 1, 0, none⟩) 1 1 [1] _ rfl rfl Nc.out Nd.out Sc.out Sd.out (by decide) (by decide) (by decide) rfl)).mono ?_
  rintro e w4 ⟨A_q, c_q, rfl, hat, bel⟩
  replace HB := Lib.hid (HB.out.trans (bel.mono HB.out.size))
  replace Sp := Lib.hid (Sp.out.later bel (Nat.le_refl _))
  replace Sc := Lib.hid (Sc.out.later bel (Nat.le_refl _))
  replace Sd := Lib.hid (Sd.out.later bel (Nat.le_refl _))
  replace HG := Lib.hid (HG.out.later bel (Nat.le_refl _))
  have Sq := Lib.hid hat
  clear hat
  clear bel
  clear Sc Nc
  clear Sd Nd
  go_wp2_with fail
  have bel := (Below.refl w4.heap.size w4).alloc (Nat.le_refl _) (.cells #[.int .u32 3] 34)
  have Se := Lib.hid (show At (w4.alloc (.cells #[.int .u32 3] 34)) (some ⟨w4.heap.size, 0, none⟩) (nats .u32 [3]) from At.lit _ _ _ _ _ rfl)
  generalize (w4.alloc (.cells #[.int .u32 3] 34)) = w5 at bel Se ⊢
  replace HB := Lib.hid (HB.out.trans (bel.mono HB.out.size))
  replace Sp := Lib.hid (Sp.out.later bel (Nat.le_refl _))
  replace Sq := Lib.hid (Sq.out.later bel (Nat.le_refl _))
  replace HG := Lib.hid (HG.out.later bel (Nat.le_refl _))
  have Ne := Lib.hid (show (1 : Nat) ≤ 9223372036854775807 by decide)
  clear bel
  go_wp2_with fail
  refine (rowe_eq [15] 1 (by decide) rfl (vtimes_ok (some ⟨w4.heap.size, 0, none⟩) 1 1 [3] 5 _ rfl (by decide) Se.out (by decide) (by decide))).mono ?_
  rintro e w6 ⟨A_r, c_r, rfl, hat, bel⟩
  replace HB := Lib.hid (HB.out.trans (bel.mono HB.out.size))
  replace Sp := Lib.hid (Sp.out.later bel (Nat.le_refl _))
  replace Sq := Lib.hid (Sq.out.later bel (Nat.le_refl _))
  replace Se := Lib.hid (Se.out.later bel (Nat.le_refl _))
  replace HG := Lib.hid (HG.out.later bel (Nat.le_refl _))
  have Sr := Lib.hid hat
  clear hat
  clear bel
  clear Se Ne
  go_wp2_with fail
  have bel := (show Below w6.heap.size w6 (((w6.alloc (.cells #[.int .u32 1] 34)).alloc (.cells #[.int .u32 2] 34)).alloc (.cells #[.slice (some ⟨w6.heap.size, 0, none⟩) 1 1, .slice (some ⟨w6.heap.size + 1, 0, none⟩) 1 1] 58)) from (((Below.refl _ _).alloc (by simp) _).alloc (by simp) _).alloc (by simp <;> omega) _)
  have RW := Lib.hid (rows_two (e := 58) (w := ((w6.alloc (.cells #[.int .u32 1] 34)).alloc (.cells #[.int .u32 2] 34))) (l1 := [1]) (l2 := [2]) (A1 := (some ⟨w6.heap.size, 0, none⟩)) (A2 := (some ⟨w6.heap.size + 1, 0, none⟩)) (w6.heap.size + 1 + 1) (by simp) ((show At (w6.alloc (.cells #[.int .u32 1] 34)) (some ⟨w6.heap.size, 0, none⟩) (nats .u32 [1]) from At.lit _ _ _ _ _ rfl).later ((Below.refl _ _).alloc (Nat.le_refl _) (.cells #[.int .u32 2] 34)) (Nat.le_refl _)) (At.lit _ _ _ _ _ (by simp)) (by decide) (by decide))
  generalize hgen : (((w6.alloc (.cells #[.int .u32 1] 34)).alloc (.cells #[.int .u32 2] 34)).alloc (.cells #[.slice (some ⟨w6.heap.size, 0, none⟩) 1 1, .slice (some ⟨w6.heap.size + 1, 0, none⟩) 1 1] 58)) = w7 at bel ⊢
  replace RW := Lib.hid (show Rows_ w7 .u32 (some ⟨w6.heap.size + 1 + 1, 0, none⟩) [.slice (some ⟨w6.heap.size, 0, none⟩) 1 1, .slice (some ⟨w6.heap.size + 1, 0, none⟩) 1 1] [[1], [2]] from hgen ▸ RW.out)
  clear hgen
  replace HB := Lib.hid (HB.out.trans (bel.mono HB.out.size))
  replace Sp := Lib.hid (Sp.out.later bel (Nat.le_refl _))
  replace Sq := Lib.hid (Sq.out.later bel (Nat.le_refl _))
  replace Sr := Lib.hid (Sr.out.later bel (Nat.le_refl _))
  replace HG := Lib.hid (HG.out.later bel (Nat.le_refl _))
  clear bel
  go_wp2_with fail
  refine (ends_some [3] 1 (VE.sums_ok (n := 1) (by decide) (by unfold VE.good; decide)) rfl (vsum_any (some ⟨w6.heap.size + 1 + 1, 0, none⟩) 2 2 _ [[1], [2]] 1 _ rfl (by decide) RW.out (by decide) (by decide))).mono ?_
  rintro e w8 ⟨A_s, c_s, rfl, hat, bel⟩
  replace HB := Lib.hid (HB.out.trans (bel.mono HB.out.size))
  replace Sp := Lib.hid (Sp.out.later bel (Nat.le_refl _))
  replace Sq := Lib.hid (Sq.out.later bel (Nat.le_refl _))
  replace Sr := Lib.hid (Sr.out.later bel (Nat.le_refl _))
  replace HG := Lib.hid (HG.out.later bel (Nat.le_refl _))
  have Ss := Lib.hid hat
  clear hat
  clear bel
  clear RW
  go_wp2_with fail
  have bel := (Below.refl w8.heap.size w8).alloc (Nat.le_refl _) (.cells #[.int .u32 1] 34)
  have Sh := Lib.hid (show At (w8.alloc (.cells #[.int .u32 1] 34)) (some ⟨w8.heap.size, 0, none⟩) (nats .u32 [1]) from At.lit _ _ _ _ _ rfl)
  generalize (w8.alloc (.cells #[.int .u32 1] 34)) = w9 at bel Sh ⊢
  replace HB := Lib.hid (HB.out.trans (bel.mono HB.out.size))
  replace Sp := Lib.hid (Sp.out.later bel (Nat.le_refl _))
  replace Sq := Lib.hid (Sq.out.later bel (Nat.le_refl _))
  replace Sr := Lib.hid (Sr.out.later bel (Nat.le_refl _))
  replace Ss := Lib.hid (Ss.out.later bel (Nat.le_refl _))
  replace HG := Lib.hid (HG.out.later bel (Nat.le_refl _))
  have Nh := Lib.hid (show (1 : Nat) ≤ 9223372036854775807 by decide)
  clear bel
  go_wp2_with fail
  refine (vadd_no (some ⟨w8.heap.size, 0, none⟩) 1 1 none 0 0 _ Nh.out (by decide) (.inr (by decide))).mono ?_
  rintro e w10 ⟨rfl, bel⟩
  replace HB := Lib.hid (HB.out.trans (bel.mono HB.out.size))
  replace Sp := Lib.hid (Sp.out.later bel (Nat.le_refl _))
  replace Sq := Lib.hid (Sq.out.later bel (Nat.le_refl _))
  replace Sr := Lib.hid (Sr.out.later bel (Nat.le_refl _))
  replace Ss := Lib.hid (Ss.out.later bel (Nat.le_refl _))
  replace Sh := Lib.hid (Sh.out.later bel (Nat.le_refl _))
  replace HG := Lib.hid (HG.out.later bel (Nat.le_refl _))
  clear bel
  clear Sh Nh
  go_wp2_with fail
  refine (vzero_ok 2 _ (by decide)).mono ?_
  rintro e w11 ⟨rfl, hn, bel, -⟩
  replace HB := Lib.hid (HB.out.trans (bel.mono HB.out.size))
  replace Sp := Lib.hid (Sp.out.later bel (Nat.le_refl _))
  replace Sq := Lib.hid (Sq.out.later bel (Nat.le_refl _))
  replace Sr := Lib.hid (Sr.out.later bel (Nat.le_refl _))
  replace Ss := Lib.hid (Ss.out.later bel (Nat.le_refl _))
  replace HG := Lib.hid (HG.out.later bel (Nat.le_refl _))
  have Sz := Lib.hid (show At w11 (some ⟨w10.heap.size, 0, none⟩) (nats .u32 [0, 0]) from hn.at_)
  clear hn bel
  go_wp2_with fail
  refine (vzero_no 33 _ (.inr (by decide)) (by decide)).mono ?_
  rintro e w' ⟨rfl, rfl⟩
  go_wp2_with fail
  have bel := (Below.refl w11.heap.size w11).alloc (Nat.le_refl _) (.cells #[.int .u32 0, .int .u32 7] 34)
  have St := Lib.hid (show At (w11.alloc (.cells #[.int .u32 0, .int .u32 7] 34)) (some ⟨w11.heap.size, 0, none⟩) (nats .u32 [0, 7]) from At.lit _ _ _ _ _ rfl)
  generalize (w11.alloc (.cells #[.int .u32 0, .int .u32 7] 34)) = w12 at bel St ⊢
  replace HB := Lib.hid (HB.out.trans (bel.mono HB.out.size))
  replace Sp := Lib.hid (Sp.out.later bel (Nat.le_refl _))
  replace Sq := Lib.hid (Sq.out.later bel (Nat.le_refl _))
  replace Sr := Lib.hid (Sr.out.later bel (Nat.le_refl _))
  replace Ss := Lib.hid (Ss.out.later bel (Nat.le_refl _))
  replace Sz := Lib.hid (Sz.out.later bel (Nat.le_refl _))
  replace HG := Lib.hid (HG.out.later bel (Nat.le_refl _))
  have Nt := Lib.hid (show (2 : Nat) ≤ 9223372036854775807 by decide)
  clear bel
  go_wp2_with fail
  refine (valB_eq (.bool true) (by simp) (vsame_any A_p 2 c_p [0, 7] (some ⟨w11.heap.size, 0, none⟩) 2 2 [0, 7] _ rfl (by decide) Sp.out rfl (by decide) St.out)).mono ?_
  rintro e w13 ⟨rfl, bel⟩
  replace HB := Lib.hid (HB.out.trans (bel.mono HB.out.size))
  replace Sp := Lib.hid (Sp.out.later bel (Nat.le_refl _))
  replace Sq := Lib.hid (Sq.out.later bel (Nat.le_refl _))
  replace Sr := Lib.hid (Sr.out.later bel (Nat.le_refl _))
  replace Ss := Lib.hid (Ss.out.later bel (Nat.le_refl _))
  replace Sz := Lib.hid (Sz.out.later bel (Nat.le_refl _))
  replace St := Lib.hid (St.out.later bel (Nat.le_refl _))
  replace HG := Lib.hid (HG.out.later bel (Nat.le_refl _))
  clear bel
  clear St Nt
  go_wp2_with fail
  have bel := (Below.refl w13.heap.size w13).alloc (Nat.le_refl _) (.cells #[.int .u32 4294967295] 34)
  have St := Lib.hid (show At (w13.alloc (.cells #[.int .u32 4294967295] 34)) (some ⟨w13.heap.size, 0, none⟩) (nats .u32 [4294967295]) from At.lit _ _ _ _ _ rfl)
  generalize (w13.alloc (.cells #[.int .u32 4294967295] 34)) = w14 at bel St ⊢
  replace HB := Lib.hid (HB.out.trans (bel.mono HB.out.size))
  replace Sp := Lib.hid (Sp.out.later bel (Nat.le_refl _))
  replace Sq := Lib.hid (Sq.out.later bel (Nat.le_refl _))
  replace Sr := Lib.hid (Sr.out.later bel (Nat.le_refl _))
  replace Ss := Lib.hid (Ss.out.later bel (Nat.le_refl _))
  replace Sz := Lib.hid (Sz.out.later bel (Nat.le_refl _))
  replace HG := Lib.hid (HG.out.later bel (Nat.le_refl _))
  have Nt := Lib.hid (show (1 : Nat) ≤ 9223372036854775807 by decide)
  clear bel
  go_wp2_with fail
  refine (valB_eq (.bool true) (by simp) (vsame_any A_q 1 c_q [4294967295] (some ⟨w13.heap.size, 0, none⟩) 1 1 [4294967295] _ rfl (by decide) Sq.out rfl (by decide) St.out)).mono ?_
  rintro e w15 ⟨rfl, bel⟩
  replace HB := Lib.hid (HB.out.trans (bel.mono HB.out.size))
  replace Sp := Lib.hid (Sp.out.later bel (Nat.le_refl _))
  replace Sq := Lib.hid (Sq.out.later bel (Nat.le_refl _))
  replace Sr := Lib.hid (Sr.out.later bel (Nat.le_refl _))
  replace Ss := Lib.hid (Ss.out.later bel (Nat.le_refl _))
  replace Sz := Lib.hid (Sz.out.later bel (Nat.le_refl _))
  replace St := Lib.hid (St.out.later bel (Nat.le_refl _))
  replace HG := Lib.hid (HG.out.later bel (Nat.le_refl _))
  clear bel
  clear St Nt
  go_wp2_with fail
  have bel := (Below.refl w15.heap.size w15).alloc (Nat.le_refl _) (.cells #[.int .u32 15] 34)
  have St := Lib.hid (show At (w15.alloc (.cells #[.int .u32 15] 34)) (some ⟨w15.heap.size, 0, none⟩) (nats .u32 [15]) from At.lit _ _ _ _ _ rfl)
  generalize (w15.alloc (.cells #[.int .u32 15] 34)) = w16 at bel St ⊢
  replace HB := Lib.hid (HB.out.trans (bel.mono HB.out.size))
  replace Sp := Lib.hid (Sp.out.later bel (Nat.le_refl _))
  replace Sq := Lib.hid (Sq.out.later bel (Nat.le_refl _))
  replace Sr := Lib.hid (Sr.out.later bel (Nat.le_refl _))
  replace Ss := Lib.hid (Ss.out.later bel (Nat.le_refl _))
  replace Sz := Lib.hid (Sz.out.later bel (Nat.le_refl _))
  replace HG := Lib.hid (HG.out.later bel (Nat.le_refl _))
  have Nt := Lib.hid (show (1 : Nat) ≤ 9223372036854775807 by decide)
  clear bel
  go_wp2_with fail
  refine (valB_eq (.bool true) (by simp) (vsame_any A_r 1 c_r [15] (some ⟨w15.heap.size, 0, none⟩) 1 1 [15] _ rfl (by decide) Sr.out rfl (by decide) St.out)).mono ?_
  rintro e w17 ⟨rfl, bel⟩
  replace HB := Lib.hid (HB.out.trans (bel.mono HB.out.size))
  replace Sp := Lib.hid (Sp.out.later bel (Nat.le_refl _))
  replace Sq := Lib.hid (Sq.out.later bel (Nat.le_refl _))
  replace Sr := Lib.hid (Sr.out.later bel (Nat.le_refl _))
  replace Ss := Lib.hid (Ss.out.later bel (Nat.le_refl _))
  replace Sz := Lib.hid (Sz.out.later bel (Nat.le_refl _))
  replace St := Lib.hid (St.out.later bel (Nat.le_refl _))
  replace HG := Lib.hid (HG.out.later bel (Nat.le_refl _))
  clear bel
  clear St Nt
  go_wp2_with fail
  have bel := (Below.refl w17.heap.size w17).alloc (Nat.le_refl _) (.cells #[.int .u32 3] 34)
  have St := Lib.hid (show At (w17.alloc (.cells #[.int .u32 3] 34)) (some ⟨w17.heap.size, 0, none⟩) (nats .u32 [3]) from At.lit _ _ _ _ _ rfl)
  generalize (w17.alloc (.cells #[.int .u32 3] 34)) = w18 at bel St ⊢
  replace HB := Lib.hid (HB.out.trans (bel.mono HB.out.size))
  replace Sp := Lib.hid (Sp.out.later bel (Nat.le_refl _))
  replace Sq := Lib.hid (Sq.out.later bel (Nat.le_refl _))
  replace Sr := Lib.hid (Sr.out.later bel (Nat.le_refl _))
  replace Ss := Lib.hid (Ss.out.later bel (Nat.le_refl _))
  replace Sz := Lib.hid (Sz.out.later bel (Nat.le_refl _))
  replace HG := Lib.hid (HG.out.later bel (Nat.le_refl _))
  have Nt := Lib.hid (show (1 : Nat) ≤ 9223372036854775807 by decide)
  clear bel
  go_wp2_with fail
  refine (valB_eq (.bool true) (by simp) (vsame_any A_s 1 c_s [3] (some ⟨w17.heap.size, 0, none⟩) 1 1 [3] _ rfl (by decide) Ss.out rfl (by decide) St.out)).mono ?_
  rintro e w19 ⟨rfl, bel⟩
  replace HB := Lib.hid (HB.out.trans (bel.mono HB.out.size))
  replace Sp := Lib.hid (Sp.out.later bel (Nat.le_refl _))
  replace Sq := Lib.hid (Sq.out.later bel (Nat.le_refl _))
  replace Sr := Lib.hid (Sr.out.later bel (Nat.le_refl _))
  replace Ss := Lib.hid (Ss.out.later bel (Nat.le_refl _))
  replace Sz := Lib.hid (Sz.out.later bel (Nat.le_refl _))
  replace St := Lib.hid (St.out.later bel (Nat.le_refl _))
  replace HG := Lib.hid (HG.out.later bel (Nat.le_refl _))
  clear bel
  clear St Nt
  go_wp2_with fail
  have bel := (Below.refl w19.heap.size w19).alloc (Nat.le_refl _) (.cells #[.int .u32 0, .int .u32 0] 34)
  have St := Lib.hid (show At (w19.alloc (.cells #[.int .u32 0, .int .u32 0] 34)) (some ⟨w19.heap.size, 0, none⟩) (nats .u32 [0, 0]) from At.lit _ _ _ _ _ rfl)
  generalize (w19.alloc (.cells #[.int .u32 0, .int .u32 0] 34)) = w20 at bel St ⊢
  replace HB := Lib.hid (HB.out.trans (bel.mono HB.out.size))
  replace Sp := Lib.hid (Sp.out.later bel (Nat.le_refl _))
  replace Sq := Lib.hid (Sq.out.later bel (Nat.le_refl _))
  replace Sr := Lib.hid (Sr.out.later bel (Nat.le_refl _))
  replace Ss := Lib.hid (Ss.out.later bel (Nat.le_refl _))
  replace Sz := Lib.hid (Sz.out.later bel (Nat.le_refl _))
  replace HG := Lib.hid (HG.out.later bel (Nat.le_refl _))
  have Nt := Lib.hid (show (2 : Nat) ≤ 9223372036854775807 by decide)
  clear bel
  go_wp2_with fail
  refine (valB_eq (.bool true) (by simp) (vsame_any (some ⟨w10.heap.size, 0, none⟩) 2 2 [0, 0] (some ⟨w19.heap.size, 0, none⟩) 2 2 [0, 0] _ rfl (by decide) Sz.out rfl (by decide) St.out)).mono ?_
  rintro e w21 ⟨rfl, bel⟩
  replace HB := Lib.hid (HB.out.trans (bel.mono HB.out.size))
  replace Sp := Lib.hid (Sp.out.later bel (Nat.le_refl _))
  replace Sq := Lib.hid (Sq.out.later bel (Nat.le_refl _))
  replace Sr := Lib.hid (Sr.out.later bel (Nat.le_refl _))
  replace Ss := Lib.hid (Ss.out.later bel (Nat.le_refl _))
  replace Sz := Lib.hid (Sz.out.later bel (Nat.le_refl _))
  replace St := Lib.hid (St.out.later bel (Nat.le_refl _))
  replace HG := Lib.hid (HG.out.later bel (Nat.le_refl _))
  clear bel
  clear St Nt
  go_wp2_with fail
  refine (num02_err 1 _ HG.out).mono ?_
  rintro e w22 ⟨rfl, bel⟩
  replace HB := Lib.hid (HB.out.trans (bel.mono HB.out.size))
  replace Sp := Lib.hid (Sp.out.later bel (Nat.le_refl _))
  replace Sq := Lib.hid (Sq.out.later bel (Nat.le_refl _))
  replace Sr := Lib.hid (Sr.out.later bel (Nat.le_refl _))
  replace Ss := Lib.hid (Ss.out.later bel (Nat.le_refl _))
  replace Sz := Lib.hid (Sz.out.later bel (Nat.le_refl _))
  replace HG := Lib.hid (HG.out.later bel (Nat.le_refl _))
  clear bel
  go_wp2_with fail
  refine (num02_err 1 _ HG.out).mono ?_
  rintro e w23 ⟨rfl, bel⟩
  replace HB := Lib.hid (HB.out.trans (bel.mono HB.out.size))
  replace Sp := Lib.hid (Sp.out.later bel (Nat.le_refl _))
  replace Sq := Lib.hid (Sq.out.later bel (Nat.le_refl _))
  replace Sr := Lib.hid (Sr.out.later bel (Nat.le_refl _))
  replace Ss := Lib.hid (Ss.out.later bel (Nat.le_refl _))
  replace Sz := Lib.hid (Sz.out.later bel (Nat.le_refl _))
  replace HG := Lib.hid (HG.out.later bel (Nat.le_refl _))
  clear bel
  go_wp2_with fail
  go_ret
  exact ⟨rfl, HB.out⟩
end Go.Proofs.YtbgmbemaopnjfaaDoor
