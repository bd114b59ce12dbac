/- Layer 37: Hidden of package ideal. -/
import Derived.Test.YtmdilfgeogedpaaDoorIdC
namespace Go.Proofs.YtmdilfgeogedpaaDoor
open Go.RowKit
theorem allB_len {l : List (List Nat)} {many dim : Int} (h : allB l many dim = true) : (l.length : Int) = many ∧ ∀ i, i < l.length → ((l.getD i []).length : Int) = dim := by
  have h' := of_decide_eq_true h
  refine ⟨h'.2, fun i hi => h'.1 _ ?_⟩
  rw [List.getD_eq_getElem?_getD, List.getElem?_eq_getElem hi]
  exact List.getElem_mem _
/-- what a table and rows that fit are -/
structure Shape (own : List (List Nat)) (P : List (List (List Nat))) (rows : List (List Nat)) (n d : Nat) : Prop where
  n64 : n ≤ 64
  d32 : d ≤ 32
  rn : rows.length = n
  rd : ∀ i, i < n → (rows.getD i []).length = d
  on : own.length = n
  od : ∀ i, i < n → (own.getD i []).length = d
  pn : P.length = n
  pl : ∀ i, i < n → (P.getD i []).length = n - 1 - i
  pd : VE.PairsOk P n d
theorem Fit.shape {own : List (List Nat)} {P : List (List (List Nat))} {rows : List (List Nat)} (h : Fit own P rows) : Shape own P rows rows.length (dimOf rows) := by
  obtain ⟨h1, ⟨h2, h3, h4, h5⟩, h6, h7, h8⟩ := h
  have a := allB_len h1
  have b := allB_len h6
  have hp : P.length = rows.length := by omega
  have c : ∀ i, i < rows.length → (P.getD i []).length = rows.length - 1 - i ∧ ∀ j, j < (P.getD i []).length → (((P.getD i []).getD j []).length : Int) = dimOf rows := fun i hi => by
    have := allB_len (h8 i (by omega))
    exact ⟨by omega, this.2⟩
  refine ⟨by omega, by omega, rfl, fun i hi => by have := a.2 i hi; omega, by omega, fun i hi => by have := b.2 i (by omega); omega, hp, fun i hi => (c i hi).1, fun i j hij hj => ?_⟩
  have := (c i (by omega)).2 (j - i - 1) (by rw [(c i (by omega)).1]; omega)
  unfold VE.pairOf
  omega
/-- all numbers are of 32 bits -/
def U32 (l : List (List Nat)) : Prop := ∀ r ∈ l, ∀ x ∈ r, x < 4294967296
theorem U32.get {l : List (List Nat)} (h : U32 l) (i : Nat) : ∀ x ∈ l.getD i [], x < 4294967296 := by
  intro x hx
  rw [List.getD_eq_getElem?_getD] at hx
  by_cases hi : i < l.length
  · rw [List.getElem?_eq_getElem hi] at hx
    exact h _ (List.getElem_mem hi) x hx
  · rw [List.getElem?_eq_none (by omega)] at hx
    simp at hx
theorem u32_pair {P : List (List (List Nat))} (h : ∀ l ∈ P, U32 l) (i j : Nat) : ∀ x ∈ VE.pairOf P i j, x < 4294967296 := by
  unfold VE.pairOf
  by_cases hi : i < P.length
  · rw [List.getD_eq_getElem?_getD (l := P), List.getElem?_eq_getElem hi]
    exact U32.get (h _ (List.getElem_mem hi)) _
  · rw [List.getD_eq_getElem?_getD (l := P), List.getElem?_eq_none (by omega)]
    simp
theorem Out.push' {B : Nat} {w0 w w' : World} {A A' : Option Addr} {k c c' d : Nat} {vs : List Value} {l : List (List Nat)} (h : Out B w0 w A k c vs l) (hB : B ≤ w.heap.size) {Ar : Option Addr} {cr : Nat} {b : List Nat} (hd : b.length = d)
    (h2 : At w Ar (nats .u32 b)) (h3 : Ar = none → d = 0) (h4 : d ≤ cr) (h5 : cr ≤ maxLen) (h6 : b = [] ∨ blk Ar ≠ blk A)
    (ho : Own w' B 54 1 A' (k + 1) c' (vs ++ [.slice Ar d cr])) (hg : (w.alloc (.cells #[.slice Ar d cr] 54)).grownBy w' (blk A)) (hA : blk A' = blk A ∨ blk A' = some (w.alloc (.cells #[.slice Ar d cr] 54)).heap.size) :
    Out B w0 w' A' (k + 1) c' (vs ++ [.slice Ar d cr]) (l ++ [b]) := by
  subst hd
  exact h.push hB h2 h3 h4 h5 h6 ho hg hA
def HidE (w : World) (l : List (List Nat)) (e : Ending) (w' : World) : Prop :=
  ∃ A c vs, e = .returned (.tuple #[.slice A l.length c, .nilIface]) ∧ Own w' w.heap.size 54 1 A l.length c vs ∧ Rows_ w' .u32 A vs l ∧ Below w.heap.size w w'
section
variable (A : Option Addr) (n c : Nat) (vs : List Value) (own : List (List Nat)) (A2 : Option Addr) (n2 c2 : Nat) (vs2 : List Value) (P : List (List (List Nat))) (A3 : Option Addr) (n3 c3 : Nat) (vs3 : List Value) (rows : List (List Nat))
set_option maxRecDepth 100000 in
set_option maxHeartbeats 1000000 in
theorem hidden_no (w : World)
    (hl : own.length = n) (hn : n ≤ 9223372036854775807) (hr : Rows_ w .u32 A vs own) (hl2 : P.length = n2) (hn2 : n2 ≤ 9223372036854775807) (hr2 : Rows3 w .u32 A2 vs2 P) (hl3 : rows.length = n3) (hn3 : n3 ≤ 9223372036854775807) (hr3 : Rows_ w .u32 A3 vs3 rows) (hf : ¬ Fit own P rows) :
    Calls Tryd.prog 10 #[.agg #[.slice A n c, .slice A2 n2 c2], .slice A3 n3 c3] w fun e w' => e = .returned (.tuple #[.slice none 0 0, .iface 62 (.int .i64 1)]) ∧ Below w.heap.size w w' := by
  have HB0 := (Below.refl w.heap.size w).alloc (Nat.le_refl _) (.cells #[.slice A n c, .slice A2 n2 c2] 32)
  have Q := Lib.hid (fits_tab A n c vs own A2 n2 c2 vs2 P A3 n3 c3 vs3 rows _ hl hn (hr.later HB0 (Nat.le_refl _)) hl2 hn2 (hr2.later HB0 (Nat.le_refl _)) hl3 hn3 (hr3.later HB0 (Nat.le_refl _)))
  have HB := Lib.hid HB0
  have HF := Lib.hid hf
  clear hl hr hl2 hr2 hl3 hr3 HB0 hf
  go_enter Tryd.func10, Tryd.ntmps10
  go_wp2_with fail
  with_reducible refine Q.out.mono ?_
  rintro e w1 ⟨⟨rfl, hm⟩ | ⟨rfl, hm⟩, b1⟩
  · have B1 := Lib.hid (HB.out.trans (b1.mono HB.out.size))
    clear b1
    go_wp2_with fail
    exact bodyPost_ret (v := .tuple #[.slice none 0 0, .iface 62 (.int .i64 1)]) (by simp [results, Tryd.results10, go_sem]) rfl ⟨rfl, B1.out⟩
  · exact absurd hm HF.out
set_option maxRecDepth 100000 in
set_option maxHeartbeats 4000000 in
theorem hidden_yes (d : Nat) (w : World)
    (hr : Rows_ w .u32 A vs own) (hr2 : Rows3 w .u32 A2 vs2 P) (hr3 : Rows_ w .u32 A3 vs3 rows) (hs : Shape own P rows n d) (hf : Fit own P rows) (u1 : U32 own) (u2 : ∀ l ∈ P, U32 l) (u3 : U32 rows) :
    Calls Tryd.prog 10 #[.agg #[.slice A n c, .slice A2 n c2], .slice A3 n c3] w (HidE w (VE.hid own P rows)) := by
  have h64 := hs.n64
  have hd32 := hs.d32
  have HB0 := (Below.refl w.heap.size w).alloc (Nat.le_refl _) (.cells #[.slice A n c, .slice A2 n c2] 32)
  have Q := Lib.hid (fits_tab A n c vs own A2 n c2 vs2 P A3 n c3 vs3 rows _ hs.on (by omega) (hr.later HB0 (Nat.le_refl _)) hs.pn (by omega) (hr2.later HB0 (Nat.le_refl _)) hs.rn (by omega) (hr3.later HB0 (Nat.le_refl _)))
  have HB := Lib.hid HB0
  have HT := Lib.hid (Holds.new w 32 #[.slice A n c, .slice A2 n c2] w.heap.size rfl)
  have HF := Lib.hid hf
  have HS := Lib.hid hs
  have HR := Lib.hid hr
  have HR2 := Lib.hid hr2
  have HR3 := Lib.hid hr3
  have U1 := Lib.hid u1
  have U2 := Lib.hid u2
  have U3 := Lib.hid u3
  clear hr hr2 hr3 HB0 hf hs u1 u2 u3
  go_enter Tryd.func10, Tryd.ntmps10
  go_wp2_with fail
  with_reducible refine Q.out.mono ?_
  clear Q
  rintro e w1 ⟨⟨rfl, hm⟩ | ⟨rfl, hm⟩, b1⟩
  · exact absurd HF.out hm
  have HT := Lib.hid (HT.out.later b1 (Nat.le_refl _))
  have HB1 := Lib.hid (HB.out.trans (b1.mono HB.out.size))
  clear hm b1 HB
  obtain ⟨gt, hgt⟩ : ∃ gt, w.heap.size = gt := ⟨_, rfl⟩
  rw [hgt] at HT ⊢
  have HGT := Lib.hid hgt
  clear hgt
  go_wp2_with fail
  go_loopw [7, 21] (fun o i wr => ∃ (k : Nat) (Ao : Option Addr) (co : Nat) (vo : List Value), k ≤ n ∧ i = .int .i64 k ∧ o = .slice Ao k co ∧ Out w1.heap.size w1 wr Ao k co vo ((VE.hid own P rows).take k)) (fun _ i _ => (n - intOf i).toNat)
  case atStart => exact ⟨0, none, 0, [], by omega, rfl, rfl, Out.start w1⟩
  case round =>
    obtain ⟨k, Ao, co, vo, hk, rfl, rfl, hout⟩ := hrel
    have HO := Lib.hid hout
    have BW := Lib.hid (HB1.out.trans (hout.low.mono HB1.out.size))
    have HTr := Lib.hid (HT.out.later hout.low (Nat.le_refl _))
    clear hout
    by_cases hkn : k < n
    · obtain ⟨b3, o3, Ax, cx, hA3, hcx, hax, _, hlx, hmx, _⟩ := (HR3.out.later BW.out (Nat.le_refl _)).get k (by rw [HS.out.rn]; exact hkn)
      obtain ⟨b1, o1, Ay, cy, hA1, hcy, hay, _, hly, hmy, _⟩ := (HR.out.later BW.out (Nat.le_refl _)).get k (by rw [HS.out.on]; exact hkn)
      rw [HS.out.rd k hkn] at hcx hlx
      rw [HS.out.od k hkn] at hcy hly
      subst hA3; subst hA1
      have q0 : wr.cell? ⟨gt, 0, none⟩ = some (.slice (some ⟨b1, o1, none⟩) n c) := HTr.out.cell 0
      have QA := Lib.hid (vadd_own Ax d cx (rows.getD k []) Ay d cy (own.getD k []) wr (HS.out.rd k hkn) (HS.out.od k hkn) (by omega) (by omega) hax hay (U3.out.get k) (U1.out.get k) hd32 rfl)
      have HL0 := Lib.hid (show (VE.lin 1 (rows.getD k []) (own.getD k [])).length = d from by rw [VE.lin_length, HS.out.rd k hkn, HS.out.od k hkn]; exact Nat.min_self d)
      have HU0 := Lib.hid (VE.lin_lt 1 (rows.getD k []) (own.getD k []))
      have HHR := Lib.hid (show VE.hidRow own P rows k = VE.hidR P k n (VE.lin 1 (rows.getD k []) (own.getD k [])) from by unfold VE.hidRow; rw [HS.out.rn])
      generalize VE.lin 1 (rows.getD k []) (own.getD k []) = r0 at *
      unfold RowO at QA
      rw [HL0.out] at QA
      clear hax hay
      go_wp2_with fail
      with_reducible refine QA.out.mono ?_
      clear QA
      rintro e w2 ⟨Ar, cr, rfl, or, br⟩
      have OR := Lib.hid or
      have BR := Lib.hid br
      clear or br q0 hcx hcy hlx hly hmx hmy
      go_wp2_with fail
      go_loopw [10, 11, 41] (fun r e j wq => ∃ (m : Nat) (Ar : Option Addr) (cr : Nat), m ≤ n ∧ j = .int .i64 m ∧ e = .nilIface ∧ r = .slice Ar d cr ∧ Own wq wr.heap.size 61 1 Ar d cr (nats .u32 (VE.hidR P k m r0)) ∧ Below wr.heap.size wr wq) (fun _ _ j _ => (n - intOf j).toNat)
      case atStart => exact ⟨0, Ar, cr, by omega, rfl, rfl, rfl, OR.out, BR.out⟩
      case round =>
        obtain ⟨m, Ar, cr, hm, rfl, rfl, rfl, hor, hbr⟩ := hrel
        have OM := Lib.hid hor
        have BM := Lib.hid hbr
        have HTm := Lib.hid (HTr.out.later hbr (Nat.le_refl _))
        have R3m := Lib.hid ((HR2.out.later BW.out (Nat.le_refl _)).later hbr (Nat.le_refl _))
        have q1 : wr.cell? ⟨gt, 0, none⟩ = some (.slice (some ⟨b1, o1, none⟩) n c) := HTm.out.cell 0
        have q2 : wr.cell? ⟨gt, 1, none⟩ = some (.slice A2 n c2) := HTm.out.cell 1
        have lm := Lib.hid (VE.hidR_length HS.out.pd hkn HL0.out m hm)
        clear hor hbr
        by_cases hmn : m < n
        · have um := Lib.hid (VE.hidR_lt (P := P) (i := k) HU0.out m)
          have es := Lib.hid (VE.hidR_succ P k m r0)
          generalize VE.hidR P k m r0 = r1 at *
          rcases Nat.lt_trichotomy k m with hkm | hkm | hkm
          · have QP := Lib.hid (pair_any (some ⟨b1, o1, none⟩) n c A2 n c2 vs2 P k m wr HS.out.pn (by omega) R3m.out hkm hkn (by rw [HS.out.pl _ hkn]; omega) (by omega) (by rw [HS.out.pl _ hkn]; omega))
            have pm := Lib.hid (HS.out.pd k m hkm hmn)
            have um2 := Lib.hid (u32_pair U2.out k m)
            have e1 := Lib.hid (show VE.hidR P k (m + 1) r0 = VE.lin 1 r1 (VE.pairOf P k m) from by rw [es.out]; unfold VE.hid1; rw [if_pos hkm])
            unfold RowR at QP
            generalize VE.pairOf P k m = r2 at *
            rw [pm.out] at QP
            go_wp2_with fail
            with_reducible refine QP.out.mono ?_
            clear QP
            rintro e w3 ⟨Ap, cp, rfl, hap, hcp, hcm, bp⟩
            have QA := Lib.hid (vadd_own Ar d cr r1 Ap d cp r2 w3 lm.out pm.out (by omega) (by omega) (OM.out.at_.later bp (Nat.le_refl _)) hap um.out um2.out hd32 rfl)
            have B3 := Lib.hid (BM.out.trans (bp.mono BM.out.size))
            clear hap bp
            unfold RowO at QA
            have ll := Lib.hid (show (VE.lin 1 r1 r2).length = d from by rw [VE.lin_length, lm.out, pm.out]; exact Nat.min_self d)
            rw [ll.out] at QA
            go_wp2_with fail
            with_reducible refine QA.out.mono ?_
            clear QA
            rintro e w4 ⟨As, cs, rfl, os, bs⟩
            have OS := Lib.hid os
            have B4 := Lib.hid (B3.out.trans (bs.mono B3.out.size))
            clear os bs
            go_wp2_with fail
            refine ⟨⟨m + 1, As, cs, by omega, rfl, rfl, rfl, ?_, B4.out⟩, ?_⟩
            · rw [e1.out]; exact ownsRow_le_ OS.out B3.out.size
            · simp [intOf]; omega
          · have e1 := Lib.hid (show VE.hidR P k (m + 1) r0 = r1 from by rw [es.out]; unfold VE.hid1; rw [if_neg (by omega), if_neg (by omega)])
            go_wp2_with fail
            refine ⟨⟨m + 1, Ar, cr, by omega, rfl, rfl, rfl, ?_, BM.out⟩, ?_⟩
            · rw [e1.out]; exact OM.out
            · simp [intOf]; omega
          · have QP := Lib.hid (pair_any (some ⟨b1, o1, none⟩) n c A2 n c2 vs2 P m k wr HS.out.pn (by omega) R3m.out hkm hmn (by rw [HS.out.pl _ hmn]; omega) (by omega) (by rw [HS.out.pl _ hmn]; omega))
            have pm := Lib.hid (HS.out.pd m k hkm hkn)
            have um2 := Lib.hid (u32_pair U2.out m k)
            have e1 := Lib.hid (show VE.hidR P k (m + 1) r0 = VE.lin 4294967295 r1 (VE.pairOf P m k) from by rw [es.out]; unfold VE.hid1; rw [if_neg (by omega), if_pos hkm])
            unfold RowR at QP
            generalize VE.pairOf P m k = r2 at *
            rw [pm.out] at QP
            go_wp2_with fail
            with_reducible refine QP.out.mono ?_
            clear QP
            rintro e w3 ⟨Ap, cp, rfl, hap, hcp, hcm, bp⟩
            have QA := Lib.hid (vsub_own Ar d cr r1 Ap d cp r2 w3 lm.out pm.out (by omega) (by omega) (OM.out.at_.later bp (Nat.le_refl _)) hap um.out um2.out hd32 rfl)
            have B3 := Lib.hid (BM.out.trans (bp.mono BM.out.size))
            clear hap bp
            unfold RowO at QA
            have ll := Lib.hid (show (VE.lin 4294967295 r1 r2).length = d from by rw [VE.lin_length, lm.out, pm.out]; exact Nat.min_self d)
            rw [ll.out] at QA
            go_wp2_with fail
            with_reducible refine QA.out.mono ?_
            clear QA
            rintro e w4 ⟨As, cs, rfl, os, bs⟩
            have OS := Lib.hid os
            have B4 := Lib.hid (B3.out.trans (bs.mono B3.out.size))
            clear os bs
            go_wp2_with fail
            refine ⟨⟨m + 1, As, cs, by omega, rfl, rfl, rfl, ?_, B4.out⟩, ?_⟩
            · rw [e1.out]; exact ownsRow_le_ OS.out B3.out.size
            · simp [intOf]; omega
        · obtain rfl : n = m := by omega
          have HOm := Lib.hid (HO.out.later BM.out HO.out.low.size)
          have HT4 := Lib.hid (show (VE.hid own P rows).take (k + 1) = (VE.hid own P rows).take k ++ [VE.hidR P k n r0] from by rw [VE.hid_take (by rw [HS.out.rn]; exact hkn), HHR.out])
          have SZ := Lib.hid (Nat.le_trans HO.out.low.size BM.out.size)
          have N3 := Lib.hid (show Ar = none → d = 0 from fun e => by
            rcases OM.out.lies with ⟨_, h, _⟩ | ⟨g, e2, _⟩
            · exact h
            · rw [e] at e2; cases e2)
          have F := Lib.hid (show VE.hidR P k n r0 = [] ∨ blk Ar ≠ blk Ao from by
            rcases OM.out.lies with ⟨_, h, _⟩ | ⟨g, e, hg, _⟩
            · exact .inl (List.eq_nil_of_length_eq_zero (by rw [lm.out]; exact h))
            · refine .inr fun e2 => ?_
              have := (HO.out.own.lt g (by rw [← e2, e]; rfl)).2
              omega)
          go_wp2_with (at_builtin; refine wpList_app rfl elt_sl32 w1.heap.size (.tmp 74) (.tmp 76) rfl _ rfl (HOm.out.own.alloc _) [.slice Ar d cr] rfl (At.lit _ _ _ _ _ rfl) rfl (by intro u hu; simp at hu; subst hu; rfl) (by unfold maxLen; omega) (by omega) (by have := SZ.out; simp; omega) ?_; intro A' c' w' ow g k5; have N := Lib.hid (Out.push' HOm.out SZ.out lm.out OM.out.at_ N3.out OM.out.cap.1 OM.out.cap.2 F.out ow g k5); clear ow g k5)
          refine ⟨⟨k + 1, A', c', vo ++ [.slice Ar d cr], by omega, rfl, rfl, ?_⟩, ?_⟩
          · rw [HT4.out]; exact N.out
          · simp [intOf]; omega
    · obtain rfl : k = n := by omega
      have HH := Lib.hid (show (VE.hid own P rows).take k = VE.hid own P rows ∧ (VE.hid own P rows).length = k from by
        have h1 : (VE.hid own P rows).length = k := by rw [VE.hid_length]; exact HS.out.rn
        exact ⟨List.take_of_length_le (by omega), h1⟩)
      go_wp2_with fail
      refine bodyPost_ret (v := .tuple #[.slice Ao k co, .nilIface]) (by simp [results, Tryd.results10, go_sem]) rfl ⟨Ao, co, vo, by rw [HH.out.2], ?_, ?_, BW.out⟩
      · rw [HH.out.2]; exact ownsRow_le_ HO.out.own HB1.out.size
      · have := HO.out.rows.rows HO.out.own.at_
        rw [HH.out.1] at this
        exact this
end
end Go.Proofs.YtmdilfgeogedpaaDoor
