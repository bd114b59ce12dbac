/- Layer 37: IdealSums. Printed by idv.py. -/
import Derived.Test.YtmdilfgeogedpaaDoorIdU
namespace Go.Proofs.YtmdilfgeogedpaaDoor
open Go.RowKit
section
variable (A : Option Addr) (n c : Nat) (vs : List Value) (own : List (List Nat)) (A2 : Option Addr) (n2 c2 : Nat) (vs2 : List Value) (P : List (List (List Nat))) (A3 : Option Addr) (n3 c3 : Nat) (vs3 : List Value) (l : List (List Nat))
set_option maxRecDepth 100000 in
theorem rdim_any (w : World) (hl : own.length = n) (hn : n ≤ 9223372036854775807) (hr : Rows_ w .u32 A vs own) :
    Calls Tryd.prog 20 #[.slice A n c] w fun e w' => e = .returned (.int .i64 (dimOf own : Nat)) ∧ w = w' := by
  rcases Nat.eq_zero_or_pos n with h0 | h0
  · subst h0
    have HD := Lib.hid (dimOf_nil hl)
    go_enter Tryd.func20, Tryd.ntmps20
    go_wp2_with fail
    go_ret
    exact ⟨by rw [HD.out]; rfl, rfl⟩
  · obtain ⟨b, o, A1, c1, m, rfl, hc, _, hm, _⟩ := hr.getm 0 (by omega) (Below.refl _ _)
    have HD := Lib.hid (show dimOf own = m from hm)
    rw [Nat.add_zero] at hc
    have h1 : ((n : Int) == 0) = false := by simp; omega
    clear hr hl hm
    go_enter Tryd.func20, Tryd.ntmps20
    go_wp2_with fail
    go_ret
    exact ⟨by rw [HD.out]; rfl, rfl⟩
theorem rows3_1 {W : World} {A H : Option Addr} {v1 : List Value} {x : List (List Nat)} {m1 c1 : Nat} (h : At W H [.slice A m1 c1]) (h1 : Rows_ W .u32 A v1 x) (l1 : x.length = m1) (n1 : A = none → m1 = 0) (b1 : m1 ≤ c1) (b2 : c1 ≤ maxLen) : Rows3 W .u32 H [.slice A m1 c1] [x] := ⟨h, rfl, by
  intro i v b h3 h4
  match i with
  | 0 => simp at h3 h4; subst h3; subst h4; exact ⟨_, _, v1, by rw [l1], h1, (fun e => by rw [l1]; exact n1 e), by rw [l1]; exact b1, b2⟩
  | i + 1 => simp at h3⟩
theorem Rows_.none_len {w : World} {A : Option Addr} {vs : List Value} {l : List (List Nat)} (h : Rows_ w .u32 A vs l) (hA : A = none) : l.length = 0 := by
  rcases Nat.eq_zero_or_pos l.length with h0 | h0
  · exact h0
  · obtain ⟨b, o, _, _, e, _⟩ := h.get 0 h0
    rw [hA] at e; cases e
set_option maxRecDepth 100000 in
set_option maxHeartbeats 4000000 in
theorem isums_any (w : World) (hl : own.length = n) (hn : n ≤ 9223372036854775807) (hr : Rows_ w .u32 A vs own) (hl2 : P.length = n2) (hn2 : n2 ≤ 9223372036854775807) (hr2 : Rows3 w .u32 A2 vs2 P) (hl3 : l.length = n3) (hn3 : n3 ≤ 9223372036854775807) (hnc3 : n3 ≤ c3) (hc3 : c3 ≤ maxLen) (hr3 : Rows_ w .u32 A3 vs3 l)
    (u1 : U32 own) (u2 : ∀ r ∈ P, U32 r) (u3 : U32 l) (hg : Glob w) :
    Calls Tryd.prog 5 #[.agg #[.slice A n c, .slice A2 n2 c2], .slice A3 n3 c3] w fun e w' => e = .returned (.bool true) ∧ Below w.heap.size w w' := by
  have HG := Lib.hid hg
  have HB := Lib.hid ((Below.refl w.heap.size w).alloc (Nat.le_refl _) (.cells #[.slice A n c, .slice A2 n2 c2] 25))
  have H1 := Lib.hid (Holds.new w 25 #[.slice A n c, .slice A2 n2 c2] w.heap.size rfl)
  have HR := Lib.hid (hr.later HB.out (Nat.le_refl _))
  have HR2 := Lib.hid (hr2.later HB.out (Nat.le_refl _))
  have HR3 := Lib.hid (hr3.later HB.out (Nat.le_refl _))
  replace HG := Lib.hid (HG.out.later HB.out (Nat.le_refl _))
  have HL := Lib.hid hl
  have HL2 := Lib.hid hl2
  have HL3 := Lib.hid hl3
  have U1 := Lib.hid u1
  have U2 := Lib.hid u2
  have U3 := Lib.hid u3
  have NN := Lib.hid (fun e => by rw [← hl3]; exact hr3.none_len e : A3 = none → n3 = 0)
  clear hr hr2 hr3 hl hl2 hl3 hg u1 u2 u3
  go_enter Tryd.func5, Tryd.ntmps5
  go_upto_region 1 with fail
  generalize w.alloc (.cells #[.slice A n c, .slice A2 n2 c2] 25) = w1 at *
  have x0 : w1.cell? ⟨w.heap.size, 0, none⟩ = some (.slice A n c) := H1.out.cell 0
  have x1 : w1.cell? ⟨w.heap.size, 1, none⟩ = some (.slice A2 n2 c2) := H1.out.cell 1
  obtain ⟨g, hgg⟩ : ∃ g, w.heap.size = g := ⟨_, rfl⟩
  rw [hgg] at H1 x0 x1 HB ⊢
  have HGG := Lib.hid hgg
  clear hgg
  have bel := (Below.refl w1.heap.size w1).alloc (Nat.le_refl _) (.cells #[.slice A3 n3 c3] 22)
  have R3 := Lib.hid (rows3_1 (At.lit _ _ _ _ _ rfl : At (w1.alloc (.cells #[.slice A3 n3 c3] 22)) (some ⟨w1.heap.size, 0, none⟩) [.slice A3 n3 c3]) (HR3.out.later bel (Nat.le_refl _)) HL3.out NN.out hnc3 hc3)
  have QG := Lib.hid (great_any A n c vs own A2 n2 c2 vs2 P (some ⟨w1.heap.size, 0, none⟩) 1 1 _ [l] (w1.alloc (.cells #[.slice A3 n3 c3] 22)) HL.out hn (HR.out.later bel (Nat.le_refl _)) HL2.out hn2 (HR2.out.later bel (Nat.le_refl _)) rfl (by decide) R3.out)
  have BL := Lib.hid bel
  clear bel R3
  go_wp2_with fail
  with_reducible refine QG.out.mono ?_
  clear QG x0 x1
  rintro e w2 ⟨big, rfl, b2⟩
  have B2 := Lib.hid (BL.out.trans (b2.mono BL.out.size))
  clear b2 BL
  replace HR := Lib.hid (HR.out.later B2.out (Nat.le_refl _))
  replace HR2 := Lib.hid (HR2.out.later B2.out (Nat.le_refl _))
  replace HR3 := Lib.hid (HR3.out.later B2.out (Nat.le_refl _))
  replace HG := Lib.hid (HG.out.later B2.out (Nat.le_refl _))
  replace H1 := Lib.hid (H1.out.later B2.out (Nat.le_refl _))
  replace HB := Lib.hid (HB.out.trans (B2.out.mono (by rw [← HGG.out]; exact HB.out.size)))
  clear B2
  cases big with
  | true =>
    go_wp2_with fail
    with_reducible refine (sure37 w2 HG.out).mono ?_
    rintro e we ⟨rfl, bel⟩
    replace HB := Lib.hid (HB.out.trans (bel.mono (by rw [← HGG.out]; exact HB.out.size)))
    go_wp2_with fail
    go_ret
    exact ⟨rfl, by rw [HGG.out]; exact HB.out⟩
  | false =>
  have x0 : w2.cell? ⟨g, 0, none⟩ = some (.slice A n c) := H1.out.cell 0
  have x1 : w2.cell? ⟨g, 1, none⟩ = some (.slice A2 n2 c2) := H1.out.cell 1
  go_wp2_with fail
  with_reducible refine (give_any A n c A2 n2 c2 w2).mono ?_
  rintro e w3 ⟨rfl, bel⟩
  clear x0 x1
  replace HR := Lib.hid (HR.out.later bel (Nat.le_refl _))
  replace HR2 := Lib.hid (HR2.out.later bel (Nat.le_refl _))
  replace HR3 := Lib.hid (HR3.out.later bel (Nat.le_refl _))
  replace HG := Lib.hid (HG.out.later bel (Nat.le_refl _))
  replace H1 := Lib.hid (H1.out.later bel (Nat.le_refl _))
  replace HB := Lib.hid (HB.out.trans (bel.mono (by rw [← HGG.out]; exact HB.out.size)))
  clear bel
  by_cases hf : Fit own P l
  · have HF := Lib.hid hf
    have SH := Lib.hid hf.shape
    clear hf
    obtain ⟨d, hd⟩ : ∃ d, dimOf l = d := ⟨_, rfl⟩
    rw [hd] at SH
    have HDM := Lib.hid hd
    clear hd
    obtain rfl : n3 = n := by have h := SH.out.on; rw [HL.out, HL3.out] at h; omega
    obtain rfl : n3 = n2 := by have h := SH.out.pn; rw [HL2.out, HL3.out] at h; omega
    rw [HL3.out] at SH
    have D32 := SH.out.d32
    have QH := Lib.hid (hidden_yes A n3 c vs own A2 c2 vs2 P A3 c3 vs3 l d w3 HR.out HR2.out HR3.out SH.out HF.out U1.out U2.out U3.out)
    have GO := Lib.hid (show VE.good d own from fun r hr => by
      obtain ⟨i, hi, rfl⟩ := List.mem_iff_getElem.1 hr
      have := SH.out.od i (by rw [← HL.out]; exact hi)
      rw [List.getD_eq_getElem?_getD, List.getElem?_eq_getElem hi] at this
      exact this)
    have GL := Lib.hid (show VE.good d l from fun r hr => by
      obtain ⟨i, hi, rfl⟩ := List.mem_iff_getElem.1 hr
      have := SH.out.rd i (by rw [← HL3.out]; exact hi)
      rw [List.getD_eq_getElem?_getD, List.getElem?_eq_getElem hi] at this
      exact this)
    have GH := Lib.hid (show VE.good d (VE.hid own P l) from fun r hr => by
      obtain ⟨i, hi, rfl⟩ := List.mem_iff_getElem.1 hr
      have hi' : i < l.length := by rw [VE.hid_length] at hi; exact hi
      have h := VE.hid_getD (own := own) (P := P) hi'
      rw [List.getD_eq_getElem?_getD, List.getElem?_eq_getElem hi] at h
      show ((VE.hid own P l)[i]).length = d
      have h : (VE.hid own P l)[i] = VE.hidRow own P l i := h
      rw [h]
      exact VE.hidR_length (n := n3) SH.out.pd (by rw [← HL3.out]; exact hi') (by rw [VE.lin_length, SH.out.rd i (by rw [← HL3.out]; exact hi'), SH.out.od i (by rw [← HL3.out]; exact hi'), Nat.min_self]) _ (by rw [HL3.out]; exact Nat.le_refl _))
    have UH := Lib.hid (show U32 (VE.hid own P l) from fun r hr x hx => by
      obtain ⟨i, hi, rfl⟩ := List.mem_iff_getElem.1 hr
      have hi' : i < l.length := by rw [VE.hid_length] at hi; exact hi
      have h := VE.hid_getD (own := own) (P := P) hi'
      rw [List.getD_eq_getElem?_getD, List.getElem?_eq_getElem hi] at h
      have h : (VE.hid own P l)[i] = VE.hidRow own P l i := h
      rw [h] at hx
      exact VE.hidRow_lt own P l i x hx)
    have HS := Lib.hid (VE.hid_sum (d := d) (by rw [HL3.out]; exact SH.out.pd) (by rw [HL.out, HL3.out]) GO.out GL.out)
    have HLH := Lib.hid (show (VE.hid own P l).length = n3 from by rw [VE.hid_length, HL3.out])
    generalize VE.hid own P l = h at *
    have EH := Lib.hid (VE.sums_ok D32 GH.out)
    have EL := Lib.hid (VE.sums_ok D32 GL.out)
    have EO := Lib.hid (VE.sums_ok D32 GO.out)
    have NH := Lib.hid (VE.acc_length h GH.out)
    have NL := Lib.hid (VE.acc_length l GL.out)
    have NO := Lib.hid (VE.acc_length own GO.out)
    have TL := Lib.hid (VE.acc_lt (n := d) l)
    have TO := Lib.hid (VE.acc_lt (n := d) own)
    unfold HidE at QH
    rw [HLH.out] at QH
    go_wp2_with fail
    with_reducible refine QH.out.mono ?_
    clear QH
    rintro e w4 ⟨Ah, ch, vh, rfl, _, hrh, bel⟩
    replace HR := Lib.hid (HR.out.later bel (Nat.le_refl _))
    replace HR2 := Lib.hid (HR2.out.later bel (Nat.le_refl _))
    replace HR3 := Lib.hid (HR3.out.later bel (Nat.le_refl _))
    replace HG := Lib.hid (HG.out.later bel (Nat.le_refl _))
    replace H1 := Lib.hid (H1.out.later bel (Nat.le_refl _))
    replace HB := Lib.hid (HB.out.trans (bel.mono (by rw [← HGG.out]; exact HB.out.size)))
    clear bel
    have HRH := Lib.hid hrh
    clear hrh
    have QD := Lib.hid (rdim_any A3 n3 c3 vs3 l w4 HL3.out hn3 HR3.out)
    rw [HDM.out] at QD
    go_wp2_with fail
    with_reducible refine QD.out.mono ?_
    clear QD
    rintro e w5 ⟨rfl, rfl⟩
    have Q1 := Lib.hid (rsum_any Ah n3 ch vh h (d : Int) w4 HLH.out hn3 HRH.out UH.out (fun r hr => by rw [GH.out r hr]; omega) (by omega))
    rw [EH.out] at Q1
    have Q2 := Lib.hid (fun W (hW : Below w4.heap.size w4 W) => rsum_any A3 n3 c3 vs3 l (d : Int) W HL3.out hn3 (HR3.out.later hW (Nat.le_refl _)) U3.out (fun r hr => by rw [GL.out r hr]; omega) (by omega))
    rw [EL.out] at Q2
    have Q3 := Lib.hid (fun W (hW : Below w4.heap.size w4 W) => rsum_any A n3 c vs own (d : Int) W HL.out hn3 (HR.out.later hW (Nat.le_refl _)) U1.out (fun r hr => by rw [GO.out r hr]; omega) (by omega))
    rw [EO.out] at Q3
    generalize VE.acc d h = sh at *
    generalize VE.acc d l = sl at *
    generalize VE.acc d own = so at *
    unfold EndB RowT at Q1 Q2 Q3
    dsimp only at Q1 Q2 Q3
    rw [NH.out] at Q1
    rw [NL.out] at Q2
    rw [NO.out] at Q3
    go_wp2_with fail
    with_reducible refine Q1.out.mono ?_
    clear Q1
    rintro e w5 ⟨As, cs, rfl, hs, b5⟩
    have S5 := Lib.hid hs
    have B5 := Lib.hid b5
    have Q2 := Lib.hid (Q2.out w5 b5)
    clear hs b5
    go_wp2_with fail
    with_reducible refine Q2.out.mono ?_
    clear Q2
    rintro e w6 ⟨Al, cl, rfl, hs, b6⟩
    have B6 := Lib.hid (B5.out.trans (b6.mono B5.out.size))
    replace S5 := Lib.hid (S5.out.later b6 (Nat.le_refl _))
    have S6 := Lib.hid hs
    have Q3 := Lib.hid (Q3.out w6 B6.out)
    clear hs b6
    have y0 : w6.cell? ⟨g, 0, none⟩ = some (.slice A n3 c) := (B6.out.cell (p := ⟨g, 0, none⟩) H1.out.lt).trans (H1.out.cell 0)
    go_wp2_with fail
    with_reducible refine Q3.out.mono ?_
    clear Q3 y0
    rintro e w7 ⟨Ao, co, rfl, hs, b7⟩
    have B7 := Lib.hid (B6.out.trans (b7.mono B6.out.size))
    replace S5 := Lib.hid (S5.out.later b7 (Nat.le_refl _))
    replace S6 := Lib.hid (S6.out.later b7 (Nat.le_refl _))
    have QA := Lib.hid (radd_ok Al d cl sl Ao d co so 1 w7 NL.out NO.out D32 S6.out hs TL.out TO.out rfl (by decide))
    have NS := Lib.hid (show (VE.lin 1 sl so).length = d from by rw [VE.lin_length, NL.out, NO.out, Nat.min_self])
    rw [← HS.out] at QA
    unfold RowT at QA
    rw [NH.out] at QA
    clear hs b7
    replace HB := Lib.hid (HB.out.trans (B7.out.mono (by rw [← HGG.out]; exact HB.out.size)))
    replace HG := Lib.hid (HG.out.later B7.out (Nat.le_refl _))
    rw [show (((1 : Nat) : Int)) = 1 from rfl] at QA
    go_wp2_with fail
    with_reducible refine QA.out.mono ?_
    clear QA
    rintro e w8 ⟨Aa, ca, rfl, hs, bel⟩
    replace S5 := Lib.hid (S5.out.later bel (Nat.le_refl _))
    replace HB := Lib.hid (HB.out.trans (bel.mono (by rw [← HGG.out]; exact HB.out.size)))
    replace HG := Lib.hid (HG.out.later bel (Nat.le_refl _))
    have QS := Lib.hid (rsame_any As d cs sh Aa d ca sh w8 NH.out (by omega) S5.out NH.out (by omega) hs)
    rw [decide_eq_true rfl] at QS
    clear hs bel
    go_wp2_with fail
    with_reducible refine QS.out.mono ?_
    clear QS
    rintro e w9 ⟨rfl, bel⟩
    replace HB := Lib.hid (HB.out.trans (bel.mono (by rw [← HGG.out]; exact HB.out.size)))
    replace HG := Lib.hid (HG.out.later bel (Nat.le_refl _))
    clear bel
    go_wp2_with fail
    with_reducible refine (sure37 w9 HG.out).mono ?_
    rintro e we ⟨rfl, bel⟩
    replace HB := Lib.hid (HB.out.trans (bel.mono (by rw [← HGG.out]; exact HB.out.size)))
    go_wp2_with fail
    go_ret
    exact ⟨rfl, by rw [HGG.out]; exact HB.out⟩
  · have HF := Lib.hid hf
    clear hf
    have QH := Lib.hid (hidden_no A n c vs own A2 n2 c2 vs2 P A3 n3 c3 vs3 l w3 HL.out hn HR.out HL2.out hn2 HR2.out HL3.out hn3 HR3.out HF.out)
    go_wp2_with fail
    with_reducible refine QH.out.mono ?_
    clear QH
    rintro e w4 ⟨rfl, bel⟩
    replace HB := Lib.hid (HB.out.trans (bel.mono (by rw [← HGG.out]; exact HB.out.size)))
    replace HG := Lib.hid (HG.out.later bel (Nat.le_refl _))
    clear bel
    go_wp2_with fail
    with_reducible refine (sure37 w4 HG.out).mono ?_
    rintro e we ⟨rfl, bel⟩
    replace HB := Lib.hid (HB.out.trans (bel.mono (by rw [← HGG.out]; exact HB.out.size)))
    go_wp2_with fail
    go_ret
    exact ⟨rfl, by rw [HGG.out]; exact HB.out⟩
end
end Go.Proofs.YtmdilfgeogedpaaDoor
