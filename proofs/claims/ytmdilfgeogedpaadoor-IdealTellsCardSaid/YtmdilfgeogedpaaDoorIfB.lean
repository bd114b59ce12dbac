/- Layer 37, the document's Shown. Printed by iee.py. Layer 37, the document's Moved. Printed by ief.py. -/
import Derived.Test.YtmdilfgeogedpaaDoorIfA
import Derived.Deep.CutRange
namespace Go.Proofs.YtmdilfgeogedpaaDoor
open Go.RowKit
theorem rtb_size : (Tryd.prog.info? 25).map (·.size) = some (2 : Nat) := by kernel_rfl
theorem rtb_under : Tryd.prog.underlying 25 = some (match Tryd.prog.underlying 25 with | some d => d | none => default) := by kernel_rfl
def RTabN (k : Int) (w : World) (e : Ending) (w' : World) : Prop := e = .returned (.tuple #[.agg #[.slice none 0 0, .slice none 0 0], .int .i64 k]) ∧ Below w.heap.size w w'
def RTabE (w : World) (own : List (List Nat)) (P : List (List (List Nat))) (n n2 : Nat) (e : Ending) (w' : World) : Prop :=
  ∃ A1 c1 v1 A2 c2 v2, e = .returned (.tuple #[.agg #[.slice A1 n c1, .slice A2 n2 c2], .int .i64 0]) ∧ Rows_ w' .u32 A1 v1 own ∧ Rows3 w' .u32 A2 v2 P ∧ Below w.heap.size w w'
section
variable (A : Option Addr) (n c : Nat) (vs : List Value) (own : List (List Nat)) (A2 : Option Addr) (n2 c2 : Nat) (vs2 : List Value) (P : List (List (List Nat))) (A3 : Option Addr) (n3 c3 : Nat) (came : List Int)
set_option maxRecDepth 100000 in
set_option maxHeartbeats 2000000 in
theorem rshown_no (dim : Int) (w : World) (hl : own.length = n) (hn : n ≤ 9223372036854775807) (hr : Rows_ w .u32 A vs own) (hl2 : P.length = n2) (hn2 : n2 ≤ 9223372036854775807) (hr2 : Rows3 w .u32 A2 vs2 P)
    (hl3 : came.length = n3) (h3 : n3 ≤ 9223372036854775807) (ha3 : At w A3 (ints .i64 came)) (hno : ¬ (TMay own P n dim ∧ PlB came n = true)) :
    Calls Tryd.prog 13 #[.agg #[.slice A n c, .slice A2 n2 c2], .slice A3 n3 c3, .int .i64 dim] w (RTabN 1 w) := by
  have HB0 := ((Below.refl w.heap.size w).alloc (Nat.le_refl _) (.cells #[.slice A n c, .slice A2 n2 c2] 25)).alloc (by simp) (.cells #[.slice none 0 0, .slice none 0 0] 25)
  have H1 := Lib.hid ((Holds.new w 25 #[.slice A n c, .slice A2 n2 c2] w.heap.size rfl).alloc (.cells #[.slice none 0 0, .slice none 0 0] 25))
  have H2 := Lib.hid (Holds.new (w.alloc (.cells #[.slice A n c, .slice A2 n2 c2] 25)) 25 #[.slice none 0 0, .slice none 0 0] (w.heap.size + 1) (by simp))
  obtain ⟨may, hmay⟩ : ∃ b : Bool, b = true ↔ TMay own P n dim := by
    by_cases h : TMay own P n dim
    · exact ⟨true, by simp [h]⟩
    · exact ⟨false, by simp [h]⟩
  have QC := Lib.hid (rmay_b A n c vs own A2 n2 c2 vs2 P (n : Int) dim _ may hmay hl hn (hr.later HB0 (Nat.le_refl _)) hl2 hn2 (hr2.later HB0 (Nat.le_refl _)))
  have HB := Lib.hid HB0
  have HM := Lib.hid hno
  have HMY := Lib.hid hmay
  have HA := Lib.hid ha3
  have HL3 := Lib.hid hl3
  clear HB0 hno hr hr2 ha3 hl hl2 hl3 hmay
  go_enter Tryd.func13, Tryd.ntmps13
  go_wp2_with fail
  with_reducible refine QC.out.mono ?_
  clear QC
  rintro e w1 ⟨rfl, b1⟩
  replace H2 := Lib.hid (H2.out.later b1 (Nat.le_refl _))
  replace HB := Lib.hid (HB.out.trans (b1.mono HB.out.size))
  clear b1
  have QP := Lib.hid (rplaced_any A3 n3 c3 came (n : Int) w1 HL3.out h3 (HA.out.later HB.out (Nat.le_refl _)))
  generalize hg : w.heap.size = g at *
  have HG := Lib.hid hg
  clear hg
  have r0 : w1.cell? ⟨g + 1, 0, none⟩ = some (.slice none 0 0) := H2.out.cell 0
  have r1 : w1.cell? ⟨g + 1, 1, none⟩ = some (.slice none 0 0) := H2.out.cell 1
  have z0 := H2.out.frozen 0
  have z1 := H2.out.frozen 1
  cases may with
  | false =>
    have V1 := (H2.out.set 0 (.slice none 0 0)).set 1 (.slice none 0 0)
    have VB := Lib.hid ((HB.out.setCell (p := ⟨g + 1, 0, none⟩) (by show g ≤ g + 1; omega) (.slice none 0 0)).setCell (p := ⟨g + 1, 1, none⟩) (by show g ≤ g + 1; omega) (.slice none 0 0))
    go_wp2_with fail
    refine bodyPost_ret (v := .tuple #[.agg #[.slice none 0 0, .slice none 0 0], .int .i64 1]) (results_cell_two Tryd.results13 _ _ (g + 1) 25 #[.slice none 0 0, .slice none 0 0] _ _ _ rfl rfl V1 rtb_under rfl rtb_size) rfl ⟨rfl, by rw [HG.out]; exact VB.out⟩
  | true =>
    have HP := Lib.hid (show PlB came n = false from by
      cases h : PlB came n with
      | false => rfl
      | true => exact absurd ⟨HMY.out.1 rfl, h⟩ HM.out)
    rw [HP.out] at QP
    go_wp2_with fail
    with_reducible refine QP.out.mono ?_
    clear QP r0 r1 z0 z1
    rintro e w2 ⟨rfl, b2⟩
    replace H2 := Lib.hid (H2.out.later b2 (Nat.le_refl _))
    replace HB := Lib.hid (HB.out.trans (b2.mono (by rw [← HG.out]; exact HB.out.size)))
    clear b2
    have r0 : w2.cell? ⟨g + 1, 0, none⟩ = some (.slice none 0 0) := H2.out.cell 0
    have r1 : w2.cell? ⟨g + 1, 1, none⟩ = some (.slice none 0 0) := H2.out.cell 1
    have z0 := H2.out.frozen 0
    have z1 := H2.out.frozen 1
    have V1 := (H2.out.set 0 (.slice none 0 0)).set 1 (.slice none 0 0)
    have VB := Lib.hid ((HB.out.setCell (p := ⟨g + 1, 0, none⟩) (by show g ≤ g + 1; omega) (.slice none 0 0)).setCell (p := ⟨g + 1, 1, none⟩) (by show g ≤ g + 1; omega) (.slice none 0 0))
    go_wp2_with fail
    refine bodyPost_ret (v := .tuple #[.agg #[.slice none 0 0, .slice none 0 0], .int .i64 1]) (results_cell_two Tryd.results13 _ _ (g + 1) 25 #[.slice none 0 0, .slice none 0 0] _ _ _ rfl rfl V1 rtb_under rfl rtb_size) rfl ⟨rfl, by rw [HG.out]; exact VB.out⟩
set_option maxRecDepth 100000 in
set_option maxHeartbeats 8000000 in
theorem rshown_yes (d : Nat) (w : World) (hl : own.length = n) (h64 : n ≤ 64) (hd32 : d ≤ 32) (hr : Rows_ w .u32 A vs own) (hl2 : P.length = n2) (hnn : n2 = n) (hr2 : Rows3 w .u32 A2 vs2 P) (hod : ∀ i, i < n → (own.getD i []).length = d) (hpl : ∀ i, i < n → (P.getD i []).length = n - 1 - i) (hpd : VE.PairsOk P n d)
    (hl3 : came.length = n3) (h3 : n3 ≤ 9223372036854775807) (ha3 : At w A3 (ints .i64 came)) (hmay : TMay own P n d) (hp : PlB came n = true) :
    Calls Tryd.prog 13 #[.agg #[.slice A n c, .slice A2 n2 c2], .slice A3 n3 c3, .int .i64 d] w (RTabE w (shO came own n) (shP came P n) n n) := by
  subst hnn
  have HB0 := ((Below.refl w.heap.size w).alloc (Nat.le_refl _) (.cells #[.slice A n2 c, .slice A2 n2 c2] 25)).alloc (by simp) (.cells #[.slice none 0 0, .slice none 0 0] 25)
  have H1 := Lib.hid ((Holds.new w 25 #[.slice A n2 c, .slice A2 n2 c2] w.heap.size rfl).alloc (.cells #[.slice none 0 0, .slice none 0 0] 25))
  have H2 := Lib.hid (Holds.new (w.alloc (.cells #[.slice A n2 c, .slice A2 n2 c2] 25)) 25 #[.slice none 0 0, .slice none 0 0] (w.heap.size + 1) (by simp))
  have QC := Lib.hid (rmay_b A n2 c vs own A2 n2 c2 vs2 P (n2 : Int) (d : Int) _ true ⟨fun _ => hmay, fun _ => rfl⟩ hl (by omega) (hr.later HB0 (Nat.le_refl _)) hl2 (by omega) (hr2.later HB0 (Nat.le_refl _)))
  have HB := Lib.hid HB0
  have HA := Lib.hid ha3
  have HL := Lib.hid hl
  have HL2 := Lib.hid hl2
  have HL3 := Lib.hid hl3
  have HR := Lib.hid hr
  have HR2 := Lib.hid hr2
  have HOD := Lib.hid hod
  have HPL := Lib.hid hpl
  have HPD := Lib.hid hpd
  have HP := Lib.hid hp
  clear HB0 hr hr2 ha3 hl hl2 hl3 hmay hod hpl hpd hp
  go_enter Tryd.func13, Tryd.ntmps13
  go_wp2_with fail
  with_reducible refine QC.out.mono ?_
  clear QC
  rintro e w1 ⟨rfl, b1⟩
  replace H1 := Lib.hid (H1.out.later b1 (Nat.le_refl _))
  replace H2 := Lib.hid (H2.out.later b1 (Nat.le_refl _))
  replace HB := Lib.hid (HB.out.trans (b1.mono HB.out.size))
  clear b1
  have QP := Lib.hid (rplaced_any A3 n3 c3 came (n2 : Int) w1 HL3.out h3 (HA.out.later HB.out (Nat.le_refl _)))
  rw [HP.out] at QP
  go_wp2_with fail
  with_reducible refine QP.out.mono ?_
  clear QP
  rintro e w2 ⟨rfl, b2⟩
  replace H1 := Lib.hid (H1.out.later b2 (Nat.le_refl _))
  replace H2 := Lib.hid (H2.out.later b2 (Nat.le_refl _))
  replace HB := Lib.hid (HB.out.trans (b2.mono HB.out.size))
  clear b2
  generalize hg : w.heap.size = g at *
  have HG := Lib.hid hg
  clear hg
  have GSZ := Lib.hid H2.out.lt
  go_upto_region 5 with fail
  have HX := Lib.hid (Holds.new w2 25 #[.slice none 0 0, .slice none 0 0] w2.heap.size rfl)
  have S0 := Lib.hid (ShS.start (w2.alloc (.cells #[.slice none 0 0, .slice none 0 0] 25)) (g + 1) w2.heap.size GSZ.out (by simp))
  have B2 := Lib.hid ((Below.refl w2.heap.size w2).alloc (Nat.le_refl _) (.cells #[.slice none 0 0, .slice none 0 0] 25))
  have Z2 := Lib.hid (show (w2.alloc (.cells #[.slice none 0 0, .slice none 0 0] 25)).heap.size = w2.heap.size + 1 from by simp)
  generalize w2.alloc (.cells #[.slice none 0 0, .slice none 0 0] 25) = w3 at *
  obtain ⟨q, hq⟩ : ∃ q, w2.heap.size = q := ⟨_, rfl⟩
  rw [hq] at HX S0 B2 Z2 ⊢
  have HQ := Lib.hid hq
  have GQ := Lib.hid (show g + 1 < q from by rw [← hq]; exact GSZ.out)
  clear hq
  have L1 := Lib.hid (shO_length came own n2)
  have L2 := Lib.hid (shP_length came P n2)
  rw [HL.out] at L1
  rw [HL2.out] at L2
  go_wp2_with fail
  go_loopw [10] (fun i wr => ∃ (k : Nat) (X : Nat → Prop) (B1 : Option Addr) (e1 : Nat) (y1 : List Value) (B2 : Option Addr) (e2 : Nat) (y2 : List Value), k ≤ n2 ∧ i = .int .i64 k ∧ ShS (g + 1) (q + 1) X wr B1 k e1 y1 ((shO came own n2).take k) B2 k e2 y2 ((shP came P n2).take k) ∧ (X q ∧ X (g + 1)) ∧ Holds wr q 25 #[.slice B1 k e1, .slice B2 k e2] ∧ Below q w2 wr ∧ q + 1 ≤ wr.heap.size) (fun i _ => (n2 - intOf i).toNat)
  case atStart => exact ⟨0, _, none, 0, [], none, 0, [], by omega, rfl, S0.out, ⟨.inl rfl, .inr rfl⟩, HX.out, B2.out, Nat.le_of_eq Z2.out.symm⟩
  case round =>
    clear HX S0 B2 Z2
    obtain ⟨k, X, B1, e1, y1, B2, e2, y2, hk, rfl, hs, hXq, hx, hb, hsz⟩ := hrel
    have SS := Lib.hid hs
    have XQ := Lib.hid hXq
    have HX := Lib.hid hx
    have BL := Lib.hid hb
    have SZ := Lib.hid hsz
    have BW := Lib.hid (HB.out.trans (hb.mono (by have := GQ.out; omega)))
    clear hs hXq hx hb hsz
    by_cases hkn : k < n2
    · have XLT := Lib.hid SS.out.lt
      go_wp2_with (at_make; refine wpList_mkn elt_u32 rfl rfl (.tmp 35) (.tmp 35) rfl .i64 .i64 _ d rfl rfl rfl (by omega) (by unfold maxLen; omega) ?_; intro w4 h4 b4 z4; have HZ := Lib.hid (mkn_nats h4); have B4 := Lib.hid b4; have Z4 := Lib.hid z4; clear h4 b4 z4)
      have BW4 := Lib.hid (BW.out.trans (B4.out.mono (by rw [← HG.out]; exact BW.out.size)))
      have QH := Lib.hid (refHas_any A3 n3 c3 came (k : Int) w4 HL3.out h3 (HA.out.later BW4.out (by rw [HG.out]; exact Nat.le_refl _)))
      obtain ⟨hx, hhx⟩ : ∃ b, SetM.has came (k : Int) = b := ⟨_, rfl⟩
      rw [hhx] at QH
      have HHX := Lib.hid hhx
      clear hhx
      with_reducible refine QH.out.mono ?_
      clear QH
      rintro e w5 ⟨rfl, rfl⟩
      go_upto_if 39 with fail
      go_cut [11] from 40 to 87 (fun v wx => wx = w4 ∧ ∃ A' c', v = .slice A' d c' ∧ AtX w4 X A' (nats .u32 ((shO came own n2).getD k [])) ∧ (A' = none → d = 0) ∧ d ≤ c' ∧ c' ≤ maxLen)
      case first =>
        cases hx with
        | true =>
          obtain ⟨b3, o3, Ax, cx, hA3, hcx, hax, hnx, hlx, hmx, _⟩ := HR.out.getw (w' := w4) k (by rw [HL.out]; exact hkn) (by rw [HG.out]; exact BW4.out)
          rw [HOD.out k hkn] at hcx hnx hlx
          have t0 : w4.cell? ⟨g, 0, none⟩ = some (.slice A n2 c) := (((BL.out.trans (B4.out.mono (by have := SZ.out; omega))).cell (p := ⟨g, 0, none⟩) (by show g < q; have := GQ.out; omega)).trans (H1.out.cell 0))
          have HAX := Lib.hid hax
          have HX3 := Lib.hid (And.intro hnx (And.intro hlx hmx))
          subst hA3
          clear hax hnx hlx hmx
          go_wp2_with fail
          go_meet
          refine ⟨rfl, Ax, cx, rfl, ?_, HX3.out.1, HX3.out.2.1, HX3.out.2.2⟩
          rw [shO_get, if_neg (fun h => by rw [HHX.out] at h; cases h.2)]
          refine AtX.of_low (B := g) (HAX.out.later BW4.out (by rw [HG.out]; exact Nat.le_refl _)) (fun j e h0 => by rw [← HG.out]; exact HAX.out.lt h0 j e) (fun j hj => by have := SS.out.ge j hj; have := GQ.out; omega)
        | false =>
          go_wp2_with fail
          go_meet
          refine ⟨rfl, _, _, rfl, ?_, (fun e => by cases e), Nat.le_refl _, by unfold maxLen; omega⟩
          rw [shO_get, if_pos ⟨hkn, HHX.out⟩]
          unfold clr
          rw [HOD.out k hkn]
          exact ⟨HZ.out.at_, .inr fun j e hj => by have e : wr.heap.size = j := Option.some.inj e; have := XLT.out j hj; omega⟩
      case rest =>
      obtain ⟨rfl, Ax, cx, rfl, hax, hnx, hlx, hmx⟩ := hcut
      have HAX := Lib.hid hax
      have NX := Lib.hid hnx
      have SL := Lib.hid (And.intro hlx hmx)
      clear hax hnx hlx hmx HZ
      replace SS := Lib.hid (SS.out.later B4.out)
      replace HX := Lib.hid (HX.out.later B4.out (Nat.le_refl _))
      replace BL := Lib.hid (BL.out.trans (B4.out.mono (by have := SZ.out; omega)))
      replace SZ := Lib.hid (Nat.le_trans SZ.out B4.out.size)
      have LR := Lib.hid (show ((shO came own n2).getD k []).length = d from by
        rw [shO_get]; split
        · unfold clr; rw [List.length_replicate]; exact HOD.out k hkn
        · exact HOD.out k hkn)
      have TK := Lib.hid (take_snocL (l := shO came own n2) (k := k) (by rw [L1.out]; exact hkn))
      have FAR := Lib.hid (show blk B1 ≠ some q from fun e => by have := (SS.out.o1.lt _ e).1; omega)
      have p0 : wc.cell? ⟨q, 0, none⟩ = some (.slice B1 k e1) := HX.out.cell 0
      clear BW B4 Z4 XLT
      go_upto_region 12 with (at_builtin; refine wpList_app rfl elt_sl32 (q + 1) (.tmp 46) (.tmp 48) rfl _ rfl (SS.out.o1.alloc _) [.slice Ax d cx] rfl (At.lit _ _ _ _ _ rfl) rfl (by intro u hu; simp at hu; subst hu; rfl) (by unfold maxLen; omega) (by omega) (by have h2 := SZ.out; simp; omega) ?_; intro A5 c5 w5 own5 g5 hA5; have H5 := (HX.out.alloc _).grown g5 FAR.out; have z1 : w5.cell? ⟨q, 0, none⟩ = some (.slice B1 k e1) := H5.cell 0; have z2 := H5.frozen 0; have HH5 := Lib.hid H5; have S5 := Lib.hid (SS.out.push1 SZ.out LR.out HAX.out NX.out SL.out.1 SL.out.2 own5 g5 hA5); have BL5 := Lib.hid ((BL.out.alloc (by have := SZ.out; omega) _).grown g5 (by have := SZ.out; simp; omega) (fun j hj => by have := (SS.out.o1.lt j hj).1; omega)); have SZ5 := Lib.hid (show q + 1 ≤ w5.heap.size from by have h1 := g5.size; have h2 := SZ.out; simp at h1; omega); clear H5 own5 g5 hA5)
      rw [← TK.out] at S5
      replace S5 := Lib.hid (S5.out.box (q := q) (.inl XQ.out.1) (by omega) 0 (.slice A5 (k + 1) c5))
      replace HH5 := Lib.hid (HH5.out.set 0 (.slice A5 (k + 1) c5))
      replace BL5 := Lib.hid (BL5.out.setCell (p := ⟨q, 0, none⟩) (Nat.le_refl _) (.slice A5 (k + 1) c5))
      replace SZ5 := Lib.hid (show q + 1 ≤ (w5.setCell ⟨q, 0, none⟩ (.slice A5 (k + 1) c5)).heap.size from by simp [World.setCell]; exact SZ5.out)
      clear z1 z2 p0 HAX NX SL FAR SS HX BL SZ BW4
      generalize w5.setCell ⟨q, 0, none⟩ (.slice A5 (k + 1) c5) = w6 at *
      obtain ⟨X6, hX6⟩ : ∃ X6, (fun j => X j ∨ blk A5 = some j) = X6 := ⟨_, rfl⟩
      have XQ6 := Lib.hid (show X6 q ∧ X6 (g + 1) from by rw [← hX6]; exact ⟨.inl XQ.out.1, .inl XQ.out.2⟩)
      rw [hX6] at S5
      clear hX6 XQ
      have XL6 := Lib.hid S5.out.lt
      have PL := Lib.hid (HPL.out k hkn)
      have LSR := Lib.hid (show (shR came k (P.getD k []) (P.getD k []).length).length = n2 - 1 - k from by rw [shR_length, PL.out])
      have BW6 := Lib.hid (HB.out.trans (BL5.out.mono (by have := GQ.out; omega)))
      go_wp2_with fail
      go_loopw [12, 13] (fun l j wq => ∃ (m : Nat) (Al : Option Addr) (cl : Nat) (vl : List Value), k + 1 + m ≤ n2 ∧ j = .int .i64 ((k + 1 + m : Nat) : Int) ∧ l = .slice Al m cl ∧ Inn w6.heap.size X6 w6 wq Al m cl vl ((shR came k (P.getD k []) (P.getD k []).length).take m)) (fun _ j _ => (n2 - intOf j).toNat)
      case atStart => exact ⟨0, none, 0, [], by omega, by simp, rfl, Inn.start w6 X6⟩
      case round =>
        obtain ⟨m, Al, cl, vl, hm, rfl, rfl, hin⟩ := hrel
        have II := Lib.hid hin
        have LW := Lib.hid hin.low
        have IZ := Lib.hid hin.low.size
        have BWr := Lib.hid (BW6.out.trans (hin.low.mono (by rw [← HG.out]; exact BW6.out.size)))
        clear hin
        by_cases hmn : k + 1 + m < n2
        · obtain ⟨J, hJ⟩ : ∃ J, k + 1 + m = J := ⟨_, rfl⟩
          rw [hJ]
          have JJ := Lib.hid hJ
          have hJn : (J : Int) < n2 := by omega
          clear hJ
          go_wp2_with (at_make; refine wpList_mkn elt_u32 rfl rfl (.tmp 58) (.tmp 58) rfl .i64 .i64 _ d rfl rfl rfl (by omega) (by unfold maxLen; omega) ?_; intro w4 h4 b4 z4; have HZ := Lib.hid (mkn_nats h4); have B4 := Lib.hid b4; have Z4 := Lib.hid z4; clear h4 b4 z4)
          have BW4 := Lib.hid (BWr.out.trans (B4.out.mono (by rw [← HG.out]; exact BWr.out.size)))
          have Q1 := Lib.hid (refHas_any A3 n3 c3 came (k : Int) w4 HL3.out h3 (HA.out.later BW4.out (by rw [HG.out]; exact Nat.le_refl _)))
          have Q2 := Lib.hid (refHas_any A3 n3 c3 came (J : Int) w4 HL3.out h3 (HA.out.later BW4.out (by rw [HG.out]; exact Nat.le_refl _)))
          rw [HHX.out] at Q1
          obtain ⟨hy, hhy⟩ : ∃ b, SetM.has came (J : Int) = b := ⟨_, rfl⟩
          rw [hhy] at Q2
          have HHY := Lib.hid hhy
          clear hhy
          with_reducible refine Q1.out.mono ?_
          clear Q1
          rintro e w8 ⟨rfl, rfl⟩
          go_wp2_with fail
          with_reducible refine Q2.out.mono ?_
          clear Q2
          rintro e w8 ⟨rfl, rfl⟩
          go_upto_if 66 with fail
          go_cut [14] from 67 to 81 (fun v wx => wx = w4 ∧ ∃ A' c', v = .slice A' d c' ∧ AtX w4 (fun j => X6 j ∨ blk Al = some j) A' (nats .u32 ((shR came k (P.getD k []) (P.getD k []).length).getD m [])) ∧ (A' = none → d = 0) ∧ d ≤ c' ∧ c' ≤ maxLen)
          case first =>
            have hdl := Lib.hid (show (VE.pairOf P k J).length = d from HPD.out k J (by have := JJ.out; omega) (by omega))
            have hgd := Lib.hid (show (P.getD k []).getD m [] = VE.pairOf P k J from by rw [pairOf_getD, JJ.out])
            by_cases hxy : hx = hy
            · subst hxy
              cases hx
              all_goals
                go_wp2_with fail
                go_meet
                refine ⟨rfl, _, _, rfl, ?_, (fun e => by cases e), Nat.le_refl _, by unfold maxLen; omega⟩
                rw [shR_get, if_pos ⟨by rw [PL.out]; have := JJ.out; omega, by rw [PL.out]; have := JJ.out; omega, by rw [HHX.out, show ((k + m + 1 : Nat) : Int) = (J : Int) from by have := JJ.out; omega, HHY.out]⟩]
                unfold clr
                rw [hgd.out, hdl.out]
                refine ⟨HZ.out.at_, .inr fun j e hj => ?_⟩
                have e : wr.heap.size = j := Option.some.inj e
                rcases hj with hj | hj
                · have := XL6.out j hj; have := IZ.out; omega
                · have := (II.out.own.lt j hj).2; omega
            · skip
              obtain ⟨b5, o5, Ah, ch, ws, mh, hA2, hch, hrh, hmh, _⟩ := HR2.out.getm (w' := w4) k (by rw [HL2.out]; exact hkn) (by rw [HG.out]; exact BW4.out)
              have hmh2 : mh = n2 - 1 - k := by rw [← hmh, PL.out]
              obtain ⟨b6, o6, Ap, cp, hAh, hcp, hap, hnp, hlp, hmp, _⟩ := hrh.getw (w' := w4) m (by rw [hmh]; have := JJ.out; omega) (by rw [HG.out]; exact BW4.out)
              rw [hgd.out, hdl.out] at hcp hnp hlp
              rw [hgd.out] at hap
              have HAP := Lib.hid hap
              have NP := Lib.hid (And.intro hnp (And.intro hlp hmp))
              subst hA2 hAh
              have t1 : w4.cell? ⟨g, 1, none⟩ = some (.slice (some ⟨b5, o5, none⟩) n2 c2) := (((BL5.out.trans ((LW.out.trans (B4.out.mono IZ.out)).mono (by have := SZ5.out; omega))).cell (p := ⟨g, 1, none⟩) (by show g < q; have := GQ.out; omega)).trans (H1.out.cell 1))
              have w1_ : IntKind.i64.wrap ((J : Int) - k) = ((m + 1 : Nat) : Int) := by have := JJ.out; rw [wrap_small' _ (by omega)]; omega
              have w2_ : IntKind.i64.wrap (((m + 1 : Nat) : Int) - 1) = (m : Int) := by rw [wrap_small' _ (by omega)]; omega
              have w3_ : IntKind.i64.wrap (m : Int) = (m : Int) := wrap_small' _ (by omega)
              have hmi : (m : Int) < mh := by have := JJ.out; omega
              clear hmh hmh2 hrh hap hnp hlp hmp
              cases hx <;> cases hy <;> first | exact absurd rfl hxy | skip
              all_goals
                go_wp2_with fail
                go_meet
                refine ⟨rfl, Ap, cp, rfl, ?_, NP.out.1, NP.out.2.1, NP.out.2.2⟩
                rw [shR_get, if_neg (fun h => hxy (by have h1 := h.2.2; rw [HHX.out, show ((k + m + 1 : Nat) : Int) = (J : Int) from by have := JJ.out; omega, HHY.out] at h1; exact h1)), hgd.out]
                refine AtX.of_low (B := g) (HAP.out.later BW4.out (by rw [HG.out]; exact Nat.le_refl _)) (fun j e h0 => by rw [← HG.out]; exact HAP.out.lt h0 j e) (fun j hj => ?_)
                rcases hj with hj | hj
                · have := S5.out.ge j hj; have := GQ.out; omega
                · have := (II.out.own.lt j hj).1; have h1 := BW6.out.size; rw [HG.out] at h1; omega
          case rest =>
          obtain ⟨rfl, Ax, cx, rfl, hax, hnx, hlx, hmx⟩ := hcut
          have HAX := Lib.hid hax
          have NX := Lib.hid hnx
          have SL := Lib.hid (And.intro hlx hmx)
          clear hax hnx hlx hmx HZ
          have I4 := Lib.hid (II.out.later B4.out IZ.out)
          have I4Z := Lib.hid (Nat.le_trans IZ.out B4.out.size)
          have SZ4 := Lib.hid (Nat.le_trans SZ5.out I4Z.out)
          have LR := Lib.hid (show ((shR came k (P.getD k []) (P.getD k []).length).getD m []).length = d from by
            have h1 : ((P.getD k []).getD m []).length = d := by rw [pairOf_getD]; exact HPD.out k _ (by omega) (by omega)
            rw [shR_get]; split
            · unfold clr; rw [List.length_replicate]; exact h1
            · exact h1)
          have TK2 := Lib.hid (take_snocL (l := shR came k (P.getD k []) (P.getD k []).length) (k := m) (by rw [LSR.out]; omega))
          have hm64 : m ≤ 64 := by omega
          go_wp2_with (at_builtin; refine wpList_app rfl elt_sl32 w6.heap.size (.tmp 78) (.tmp 80) rfl _ rfl (I4.out.own.alloc _) [.slice Ax d cx] rfl (At.lit _ _ _ _ _ rfl) rfl (by intro u hu; simp at hu; subst hu; rfl) (by unfold maxLen; omega) (by omega) (by have h2 := I4Z.out; simp; omega) ?_; intro A7 c7 w7 own7 g7 hA7; have N := Lib.hid (I4.out.push I4Z.out XL6.out LR.out HAX.out NX.out SL.out.1 SL.out.2 own7 g7 hA7); clear own7 g7 hA7)
          rw [← TK2.out] at N
          refine ⟨⟨m + 1, A7, c7, _, by have := JJ.out; omega, by have := JJ.out; simp; omega, rfl, N.out⟩, by simp [intOf]; omega⟩
        · have HE := Lib.hid (show m = n2 - 1 - k from by omega)
          have II2 := II.out
          rw [List.take_of_length_le (by rw [LSR.out, HE.out]; exact Nat.le_refl _)] at II2
          have DN := Lib.hid (II2.done XL6.out)
          have S7 := Lib.hid (S5.out.later (LW.out))
          have HX7 := Lib.hid (HH5.out.later LW.out (Nat.le_refl _))
          have BL7 := Lib.hid (BL5.out.trans (LW.out.mono (by have := SZ5.out; omega)))
          have SZ7 := Lib.hid (Nat.le_trans SZ5.out IZ.out)
          have TK := Lib.hid (show (shP came P n2).take (k + 1) = (shP came P n2).take k ++ [shR came k (P.getD k []) (P.getD k []).length] from by
            rw [take_snocL (by rw [L2.out]; exact hkn), shP_get, if_pos hkn])
          have FAR := Lib.hid (show blk B2 ≠ some q from fun e => by have := (S7.out.o2.own.lt _ e).1; omega)
          have p1 : wr.cell? ⟨q, 1, none⟩ = some (.slice B2 k e2) := HX7.out.cell 1
          clear II2
          go_upto_region 7 with (at_builtin; refine wpList_app rfl elt_sl3 (q + 1) (.tmp 83) (.tmp 85) rfl _ rfl (S7.out.o2.own.alloc _) [.slice Al m cl] rfl (At.lit _ _ _ _ _ rfl) rfl (by intro u hu; simp at hu; subst hu; rfl) (by unfold maxLen; omega) (by omega) (by have h2 := SZ7.out; simp; omega) ?_; intro A8 c8 w8 own8 g8 hA8; have H8 := (HX7.out.alloc _).grown g8 FAR.out; have z1 : w8.cell? ⟨q, 1, none⟩ = some (.slice B2 k e2) := H8.cell 1; have z2 := H8.frozen 1; have HH8 := Lib.hid H8; have S8 := Lib.hid (S7.out.push2 SZ7.out DN.out.2.2.2.2.2 DN.out.1 DN.out.2.1 DN.out.2.2.1 DN.out.2.2.2.1 DN.out.2.2.2.2.1 own8 g8 hA8); have BL8 := Lib.hid ((BL7.out.alloc (by have := SZ7.out; omega) _).grown g8 (by have := SZ7.out; simp; omega) (fun j hj => by have := (S7.out.o2.own.lt j hj).1; omega)); have SZ8 := Lib.hid (show q + 1 ≤ w8.heap.size from by have h1 := g8.size; have h2 := SZ7.out; simp at h1; omega); clear H8 own8 g8 hA8)
          rw [← TK.out] at S8
          go_wp2_with fail
          refine ⟨⟨k + 1, _, A5, c5, _, A8, c8, _, by omega, by simp, S8.out.box (q := q) (.inl XQ6.out.1) (by omega) 1 (.slice A8 (k + 1) c8), ⟨.inl XQ6.out.1, .inl XQ6.out.2⟩, HH8.out.set 1 (.slice A8 (k + 1) c8), BL8.out.setCell (p := ⟨q, 1, none⟩) (Nat.le_refl _) (.slice A8 (k + 1) c8), by simp [World.setCell]; exact SZ8.out⟩, by simp [intOf]; omega⟩
    · obtain rfl : n2 = k := by omega
      have S9 := SS.out
      rw [List.take_of_length_le (by rw [L1.out]; exact Nat.le_refl _), List.take_of_length_le (by rw [L2.out]; exact Nat.le_refl _)] at S9
      replace SS := Lib.hid S9
      have W2 := Lib.hid (H2.out.below BL.out (by have := GQ.out; omega))
      have r0 : wr.cell? ⟨g + 1, 0, none⟩ = some (.slice none 0 0) := W2.out.cell 0
      have r1 : wr.cell? ⟨g + 1, 1, none⟩ = some (.slice none 0 0) := W2.out.cell 1
      have z0 := W2.out.frozen 0
      have z1 := W2.out.frozen 1
      have p0 : wr.cell? ⟨q, 0, none⟩ = some (.slice B1 n2 e1) := HX.out.cell 0
      have p1 : wr.cell? ⟨q, 1, none⟩ = some (.slice B2 n2 e2) := HX.out.cell 1
      clear S9
      go_wp2_with fail
      have V1 := (W2.out.set 0 (.slice B1 n2 e1)).set 1 (.slice B2 n2 e2)
      have SF := Lib.hid (SS.out.two (q := g + 1) XQ.out.2 (by have := GQ.out; omega) (.slice B1 n2 e1) (.slice B2 n2 e2))
      refine bodyPost_ret (v := .tuple #[.agg #[.slice B1 n2 e1, .slice B2 n2 e2], .int .i64 0]) (results_cell_two Tryd.results13 _ _ (g + 1) 25 #[.slice B1 n2 e1, .slice B2 n2 e2] _ _ _ rfl rfl V1 rtb_under rfl rtb_size) rfl ⟨B1, e1, y1, B2, e2, y2, rfl, ?_, ?_, by rw [HG.out]; exact (BW.out.setCell (p := ⟨g + 1, 0, none⟩) (by show g ≤ g + 1; omega) _).setCell (p := ⟨g + 1, 1, none⟩) (by show g ≤ g + 1; omega) _⟩
      · exact SF.out.r1.rows SF.out.o1.at_
      · exact SF.out.o2.rows.rows3 SF.out.o2.own.at_
end
end Go.Proofs.YtmdilfgeogedpaaDoor
namespace Go.Proofs.YtmdilfgeogedpaaDoor
open Go.RowKit
def SliA (l : List Nat) (n : Nat) : Rel := fun v W => ∃ A c, v = .slice A n c ∧ At W A (nats .u32 l)
theorem mono_sla (l : List Nat) (n : Nat) : Mono (SliA l n) := fun _ _ _ ⟨A, c, h1, h2⟩ hb => ⟨A, c, h1, h2.later hb (Nat.le_refl _)⟩
theorem exec_mkn {P : Program} {ρ : Operand → Value} {o : Oper} {w : World} {t e : TypeId} {z : Value} {bytes : Nat} (E : Elt P t e z 1 bytes) (hz1 : z.cells = #[z]) (l c : Operand) (hop : o.op = Op.makeSlice t l c) (n : Nat) (hl : ρ l = .int .i64 n) (hc : ρ c = .int .i64 n) (b2 : bytes * n ≤ 281474976710656) (b3 : n ≤ maxLen) :
    ∃ w', (execOp ρ o).run P w = .ok (.value (.slice (some ⟨w.heap.size, 0, none⟩) n n)) w' ∧ Holds w' w.heap.size e (List.replicate n z).toArray ∧ Below w.heap.size w w' := by
  obtain ⟨i, hi, hz, hs, hb⟩ := E.hi
  have h63 : (n : Int) ≤ 9223372036854775807 := by unfold maxLen at b3; omega
  have hb' : (i.bytes : Int) * (n : Int) ≤ 281474976710656 := by
    have h : ((i.bytes * n : Nat) : Int) ≤ 281474976710656 := by rw [hb]; omega
    rwa [Int.natCast_mul] at h
  have hr := run_make (P := P) w t e i z E.ht hi hz .i64 .i64 n n (by omega) (Int.le_refl _) hb' h63
  simp only [Int.toNat_natCast, hs, Nat.mul_one, hz1] at hr
  have e1 : madeCells #[z] n = (List.replicate n z).toArray := by
    rw [← toList_madeCells_one, Array.toArray_toList]
  rw [e1] at hr
  refine ⟨_, ?_, Holds.new w e _ _ rfl, (Below.refl _ _).alloc (Nat.le_refl _) _⟩
  simp [execOp, hop, hl, hc, hr, Result.andThen]
theorem ok_mkn {P : Program} {ρ : Operand → Value} {o : Oper} {w : World} {Ri : Rel} {t e : TypeId} {z : Value} {bytes : Nat} (E : Elt P t e z 1 bytes) (hz1 : z.cells = #[z]) (l c : Operand) (hop : o.op = Op.makeSlice t l c) (n : Nat) (hl : ρ l = .int .i64 n) (hc : ρ c = .int .i64 n) (b2 : bytes * n ≤ 281474976710656) (b3 : n ≤ maxLen)
    (h : ∀ w', Holds w' w.heap.size e (List.replicate n z).toArray → Below w.heap.size w w' → Ri (.slice (some ⟨w.heap.size, 0, none⟩) n n) w') : OpOk P w Ri ((execOp ρ o).run P w) := by
  obtain ⟨w', h1, h2, h3⟩ := exec_mkn E hz1 l c hop n hl hc b2 b3
  exact ok_val h1 h3 (h w' h2 h3)
/-- the sum of those of the first k rows that came -/
def accK (came : List Int) (rows : List (List Nat)) (d : Nat) : Nat → List Nat
  | 0 => VE.zero d
  | k + 1 => if SetM.has came (k : Nat) then VE.lin 1 (accK came rows d k) (rows.getD k []) else accK came rows d k
theorem accK_length {came : List Int} {rows : List (List Nat)} {n d : Nat} (h : ∀ i, i < n → (rows.getD i []).length = d) : ∀ k, k ≤ n → (accK came rows d k).length = d
  | 0, _ => VE.zero_length d
  | k + 1, hk => by
    unfold accK
    split
    · rw [VE.lin_length, accK_length h k (by omega), h k (by omega), Nat.min_self]
    · exact accK_length h k (by omega)
theorem accK_lt {came : List Int} {rows : List (List Nat)} {d : Nat} : ∀ k, ∀ x ∈ accK came rows d k, x < 4294967296
  | 0 => VE.zero_lt d
  | k + 1 => by
    unfold accK
    split
    · exact VE.lin_lt _ _ _
    · exact accK_lt k
theorem accK_acc {cl : List Nat} {rows : List (List Nat)} {n d : Nat} (h64 : n ≤ 64) (h : ∀ i, i < n → (rows.getD i []).length = d) (hlt : ∀ x ∈ cl, x < n) (hasc : cl.Pairwise (· < ·)) :
    accK (cl.map fun (x : Nat) => (x : Int)) rows d n = VE.acc d (picked (cl.map fun (x : Nat) => (x : Int)) rows) := by
  have hg : VE.good d (cl.map fun x => rows.getD x []) := fun r hr => by
    obtain ⟨x, hx, rfl⟩ := List.mem_map.1 hr
    exact h x (hlt x hx)
  rw [picked_cast]
  refine VE.ext (accK_length h n (Nat.le_refl _)) (VE.acc_length _ hg) fun c hc => ?_
  have key : ∀ k, k ≤ n → (((accK (cl.map fun (x : Nat) => (x : Int)) rows d k).getD c 0 : Nat) : Int) % 4294967296 = VE.sI k (fun i => if i ∈ cl then (((rows.getD i []).getD c 0 : Nat) : Int) else 0) % 4294967296 := by
    intro k
    induction k with
    | zero => intro _; rw [VE.sI_zero]; show (((VE.zero d).getD c 0 : Nat) : Int) % _ = _; simp [VE.zero, List.getD_eq_getElem?_getD, List.getElem?_replicate, hc]
    | succ k ih =>
      intro hk
      have ih := ih (by omega)
      rw [VE.sI_succ]
      unfold accK
      rw [has_cl (by omega)]
      by_cases e : k ∈ cl
      · rw [if_pos (decide_eq_true e), if_pos e, VE.lin_getD (by rw [accK_length h k (by omega)]; exact hc) (by rw [h k (by omega)]; exact hc)]
        omega
      · rw [if_neg (by simp [e]), if_neg e]
        omega
  have k1 := key n (Nat.le_refl _)
  rw [sI_mem _ cl (hasc.imp fun hab => Nat.ne_of_lt hab) hlt] at k1
  have b1 := getD_lt32 (accK_lt (came := cl.map fun (x : Nat) => (x : Int)) (rows := rows) (d := d) n) c
  rw [VE.acc_getD hg hc, col_map]
  have hcast : ∀ (l : List Nat), (((l.map fun x => (rows.getD x []).getD c 0).sum : Nat) : Int) = (l.map fun x => (((rows.getD x []).getD c 0 : Nat) : Int)).sum := by
    intro l
    induction l with
    | nil => rfl
    | cons x l ih => simp only [List.map_cons, List.sum_cons, Int.natCast_add]; rw [ih]
  rw [← hcast] at k1
  omega
/-- a moved row, in the document's order -/
theorem mvR_ref {P : List (List (List Nat))} {rows other : List (List Nat)} {n d f b : Nat} {cl : List Nat} (h : MvOk P cl rows other n d) (hfb : f < b) (hb : b < n) :
    VE.lin 4294967295 (VE.lin 1 (VE.pairOf P f b) (other.getD b [])) (rows.getD b []) = mvR P rows other f b := by
  unfold mvR
  have p1 := h.pd f b hfb hb
  have l1 : (VE.lin 1 (VE.pairOf P f b) (other.getD b [])).length = d := by rw [VE.lin_length, p1, h.qd b hb]; simp
  have l2 : (VE.lin 4294967295 (other.getD b []) (rows.getD b [])).length = d := by rw [VE.lin_length, h.qd b hb, h.rd b hb]; simp
  refine VE.ext (n := d) (by rw [VE.lin_length, l1, h.rd b hb]; simp) (by rw [VE.lin_length, p1, l2]; simp) fun c hc => ?_
  rw [VE.lin_getD (by rw [l1]; exact hc) (by rw [h.rd b hb]; exact hc), VE.lin_getD (by rw [p1]; exact hc) (by rw [h.qd b hb]; exact hc), VE.lin_getD (by rw [p1]; exact hc) (by rw [l2]; exact hc), VE.lin_getD (by rw [h.qd b hb]; exact hc) (by rw [h.rd b hb]; exact hc)]
  omega
section
variable (A : Option Addr) (n c : Nat) (vs : List Value) (own : List (List Nat)) (A2 : Option Addr) (n2 c2 : Nat) (vs2 : List Value) (P : List (List (List Nat))) (A3 : Option Addr) (n3 c3 : Nat) (came : List Int)
variable (A4 : Option Addr) (n4 c4 : Nat) (vs4 : List Value) (rows : List (List Nat)) (A5 : Option Addr) (n5 c5 : Nat) (vs5 : List Value) (other : List (List Nat))
def RMvE (w : World) (own : List (List Nat)) (P : List (List (List Nat))) (came : List Int) (rows other : List (List Nat)) (e : Ending) (w' : World) : Prop :=
  (¬ MvArg own P came rows other ∧ RTabN 1 w e w') ∨ (MvArg own P came rows other ∧ ¬ MvSum came rows other ∧ RTabN 4 w e w') ∨
  (MvArg own P came rows other ∧ MvSum came rows other ∧ RTabE w own (mvP (came.map Int.toNat) P rows other (came.length - 1)) rows.length rows.length e w')
set_option maxRecDepth 100000 in
set_option maxHeartbeats 4000000 in
theorem rmoved_any (w : World) (hl : own.length = n) (hn : n ≤ 9223372036854775807) (hr : Rows_ w .u32 A vs own) (hl2 : P.length = n2) (hn2 : n2 ≤ 9223372036854775807) (hr2 : Rows3 w .u32 A2 vs2 P)
    (hl3 : came.length = n3) (h3 : n3 ≤ 9223372036854775807) (ha3 : At w A3 (ints .i64 came)) (hl4 : rows.length = n4) (h4 : n4 ≤ 9223372036854775807) (hr4 : Rows_ w .u32 A4 vs4 rows) (hl5 : other.length = n5) (h5 : n5 ≤ 9223372036854775807) (hr5 : Rows_ w .u32 A5 vs5 other)
    (u2 : ∀ l ∈ P, U32 l) (u3 : U32 rows) (u4 : U32 other) :
    Calls Tryd.prog 15 #[.agg #[.slice A n c, .slice A2 n2 c2], .slice A3 n3 c3, .slice A4 n4 c4, .slice A5 n5 c5] w (RMvE w own P came rows other) := by
  have HB0 := ((Below.refl w.heap.size w).alloc (Nat.le_refl _) (.cells #[.slice A n c, .slice A2 n2 c2] 25)).alloc (by simp) (.cells #[.slice none 0 0, .slice none 0 0] 25)
  obtain ⟨fb, hfb⟩ : ∃ b : Bool, b = true ↔ Fit own P rows := by
    by_cases h : Fit own P rows
    · exact ⟨true, by simp [h]⟩
    · exact ⟨false, by simp [h]⟩
  obtain ⟨d, hd⟩ : ∃ d, dimOf rows = d := ⟨_, rfl⟩
  have QD := Lib.hid (rdim_any A4 n4 c4 vs4 rows _ hl4 h4 (hr4.later HB0 (Nat.le_refl _)))
  rw [hd] at QD
  have QF := Lib.hid (rfits_b A n c vs own A2 n2 c2 vs2 P A4 n4 c4 vs4 rows _ fb hfb hl hn (hr.later HB0 (Nat.le_refl _)) hl2 hn2 (hr2.later HB0 (Nat.le_refl _)) hl4 h4 (hr4.later HB0 (Nat.le_refl _)))
  have H1 := Lib.hid ((Holds.new w 25 #[.slice A n c, .slice A2 n2 c2] w.heap.size rfl).alloc (.cells #[.slice none 0 0, .slice none 0 0] 25))
  have H2 := Lib.hid (Holds.new (w.alloc (.cells #[.slice A n c, .slice A2 n2 c2] 25)) 25 #[.slice none 0 0, .slice none 0 0] (w.heap.size + 1) (by simp))
  have HB := Lib.hid HB0
  have HA := Lib.hid ha3
  have HR := Lib.hid hr
  have HR2 := Lib.hid hr2
  have HR4 := Lib.hid hr4
  have HR5 := Lib.hid hr5
  have HL := Lib.hid hl
  have HL2 := Lib.hid hl2
  have HL3 := Lib.hid hl3
  have HL4 := Lib.hid hl4
  have HL5 := Lib.hid hl5
  have U2 := Lib.hid u2
  have U3 := Lib.hid u3
  have U4 := Lib.hid u4
  have HDM := Lib.hid hd
  have HFB := Lib.hid hfb
  clear HB0 hr hr2 ha3 hr4 hr5 hl hl2 hl3 hl4 hl5 u2 u3 u4 hd hfb
  go_enter Tryd.func15, Tryd.ntmps15
  go_wp2_with fail
  with_reducible refine QD.out.mono ?_
  clear QD
  rintro e w0 ⟨rfl, rfl⟩
  go_wp2_with fail
  with_reducible refine QF.out.mono ?_
  clear QF
  rintro e w1 ⟨rfl, b1⟩
  replace H1 := Lib.hid (H1.out.later b1 (Nat.le_refl _))
  replace H2 := Lib.hid (H2.out.later b1 (Nat.le_refl _))
  replace HB := Lib.hid (HB.out.trans (b1.mono HB.out.size))
  clear b1
  generalize hg : w.heap.size = g at *
  have HG := Lib.hid hg
  clear hg
  have V1 := fun (W : World) (h : Holds W (g + 1) 25 #[.slice none 0 0, .slice none 0 0]) => (h.set 0 (.slice none 0 0)).set 1 (.slice none 0 0)
  have VB := fun (W : World) (h : Below g w W) => (h.setCell (p := ⟨g + 1, 0, none⟩) (by show g ≤ g + 1; omega) (.slice none 0 0)).setCell (p := ⟨g + 1, 1, none⟩) (by show g ≤ g + 1; omega) (.slice none 0 0)
  have r0 : w1.cell? ⟨g + 1, 0, none⟩ = some (.slice none 0 0) := H2.out.cell 0
  have r1 : w1.cell? ⟨g + 1, 1, none⟩ = some (.slice none 0 0) := H2.out.cell 1
  have z0 := H2.out.frozen 0
  have z1 := H2.out.frozen 1
  cases fb with
  | false =>
    have HX := Lib.hid (show ¬ Fit own P rows from fun h => by have := HFB.out.2 h; cases this)
    go_wp2_with fail
    exact bodyPost_ret (v := .tuple #[.agg #[.slice none 0 0, .slice none 0 0], .int .i64 1]) (results_cell_two Tryd.results15 _ _ (g + 1) 25 #[.slice none 0 0, .slice none 0 0] _ _ _ rfl rfl (V1 _ H2.out) rtb_under rfl rtb_size) rfl (.inl ⟨fun h => HX.out h.1.1, rfl, by rw [HG.out]; exact VB _ HB.out⟩)
  | true =>
  have HX := Lib.hid (HFB.out.1 rfl)
  have SH := Lib.hid HX.out.shape
  rw [HDM.out, HL4.out] at SH
  clear HFB
  have N64 : n4 ≤ 64 := SH.out.n64
  have D32 := SH.out.d32
  obtain rfl : n4 = n := by have h := SH.out.on; rw [HL.out] at h; omega
  obtain rfl : n4 = n2 := by have h := SH.out.pn; rw [HL2.out] at h; omega
  by_cases E5 : n5 = n4
  rotate_left
  · have e5 : ((n5 : Int) == (n4 : Int)) = false := by rw [beq_eq_false_iff_ne]; omega
    have HX2 := Lib.hid (show ¬ MvArg own P came rows other from fun h => E5 (by have h2 := (allB_len h.1.2.1).1; rw [HL5.out, HL4.out] at h2; omega))
    go_wp2_with fail
    exact bodyPost_ret (v := .tuple #[.agg #[.slice none 0 0, .slice none 0 0], .int .i64 1]) (results_cell_two Tryd.results15 _ _ (g + 1) 25 #[.slice none 0 0, .slice none 0 0] _ _ _ rfl rfl (V1 _ H2.out) rtb_under rfl rtb_size) rfl (.inl ⟨HX2.out, rfl, by rw [HG.out]; exact VB _ HB.out⟩)
  subst E5
  have QP := Lib.hid (rplaced_any A3 n3 c3 came (n5 : Int) w1 HL3.out h3 (HA.out.later HB.out (by rw [HG.out]; exact Nat.le_refl _)))
  go_wp2_with fail
  with_reducible refine QP.out.mono ?_
  clear QP r0 r1 z0 z1
  rintro e w2 ⟨rfl, b2⟩
  replace H1 := Lib.hid (H1.out.later b2 (Nat.le_refl _))
  replace H2 := Lib.hid (H2.out.later b2 (Nat.le_refl _))
  replace HB := Lib.hid (HB.out.trans (b2.mono (by rw [← HG.out]; exact HB.out.size)))
  clear b2
  have r0 : w2.cell? ⟨g + 1, 0, none⟩ = some (.slice none 0 0) := H2.out.cell 0
  have r1 : w2.cell? ⟨g + 1, 1, none⟩ = some (.slice none 0 0) := H2.out.cell 1
  have z0 := H2.out.frozen 0
  have z1 := H2.out.frozen 1
  cases hpl : PlB came n5 with
  | false =>
    have HX2 := Lib.hid (show ¬ MvArg own P came rows other from fun h => by have h2 := h.1.2.2; rw [HL4.out, hpl] at h2; cases h2)
    clear hpl
    go_wp2_with fail
    exact bodyPost_ret (v := .tuple #[.agg #[.slice none 0 0, .slice none 0 0], .int .i64 1]) (results_cell_two Tryd.results15 _ _ (g + 1) 25 #[.slice none 0 0, .slice none 0 0] _ _ _ rfl rfl (V1 _ H2.out) rtb_under rfl rtb_size) rfl (.inl ⟨HX2.out, rfl, by rw [HG.out]; exact VB _ HB.out⟩)
  | true =>
  have HPL := Lib.hid hpl
  clear hpl r0 r1 z0 z1
  have HD4 := Lib.hid SH.out.rd
  have HN64 := Lib.hid N64
  go_upto_region 4 with fail
  refine wp_region_below (is ?c0 :: SliA (VE.zero d) d :: is ?c2 :: SliA (VE.zero d) d :: SliA (VE.zero d) d :: SliA (VE.zero d) d :: [])
    [⟨[], [10], none⟩, ⟨[(41, 0)], [], none⟩, ⟨[], [10], none⟩, ⟨[(43, 2)], [], none⟩, ⟨[(42, 1)], [], none⟩, ⟨[(44, 3)], [], none⟩] (by kernel_rfl) (by kernel_rfl) (by kernel_rfl) (by kernel_rfl) (by kernel_rfl) ?monoc ?stepsc ?finc
  case monoc => exact ⟨mono_eq _, mono_sla _ _, mono_eq _, mono_sla _ _, mono_sla _ _, mono_sla _ _, trivial⟩
  case stepsc =>
    refine ⟨fun ρ W ⟨hcst, hglb, hfun⟩ hX hp ho => ?_, ?_⟩ -- 0: slot 41 := Op.move t10
    · obtain ⟨o10, -⟩ := ho
      change ρ (.tmp 10) = _ at o10
      refine turn_plain (ok_is ?_ rfl)
      simp only [execOp, o10]; go_simp; try exact rfl
    refine ⟨fun ρ W ⟨hcst, hglb, hfun⟩ hX hp ho => ?_, ?_⟩ -- 1: slot 42 := Op.makeSlice 54 t41 t41
    · obtain ⟨p41, -⟩ := hp
      change ρ (.tmp 41) = _ at p41
      have hW := (Below.refl _ _).drew.trans hX
      refine turn_plain ?_
      refine ok_mkn elt_u32 rfl (.tmp 41) (.tmp 41) rfl d p41 p41 (by omega) (by unfold maxLen; omega) (fun w5 hh5 hb5 => ⟨_, _, rfl, (mkn_nats hh5).at_⟩)
    refine ⟨fun ρ W ⟨hcst, hglb, hfun⟩ hX hp ho => ?_, ?_⟩ -- 2: slot 43 := Op.move t10
    · obtain ⟨o10, -⟩ := ho
      change ρ (.tmp 10) = _ at o10
      refine turn_plain (ok_is ?_ rfl)
      simp only [execOp, o10]; go_simp; try exact rfl
    refine ⟨fun ρ W ⟨hcst, hglb, hfun⟩ hX hp ho => ?_, ?_⟩ -- 3: slot 44 := Op.makeSlice 54 t43 t43
    · obtain ⟨p43, -⟩ := hp
      change ρ (.tmp 43) = _ at p43
      have hW := (Below.refl _ _).drew.trans hX
      refine turn_plain ?_
      refine ok_mkn elt_u32 rfl (.tmp 43) (.tmp 43) rfl d p43 p43 (by omega) (by unfold maxLen; omega) (fun w5 hh5 hb5 => ⟨_, _, rfl, (mkn_nats hh5).at_⟩)
    refine ⟨fun ρ W ⟨hcst, hglb, hfun⟩ hX hp ho => ?_, ?_⟩ -- 4: slot 11 := Op.assign t42
    · obtain ⟨p42, -⟩ := hp
      obtain ⟨A42, c42, p42, hat42⟩ := p42
      change ρ (.tmp 42) = _ at p42
      have hW := (Below.refl _ _).drew.trans hX
      refine turn_plain ?_
      refine ok_val (v := .slice A42 d c42) (W' := W) (by simp only [execOp, p42]; go_simp) (Below.refl _ _) ⟨A42, c42, rfl, hat42⟩
    refine ⟨fun ρ W ⟨hcst, hglb, hfun⟩ hX hp ho => ?_, ?_⟩ -- 5: slot 12 := Op.assign t44
    · obtain ⟨p44, -⟩ := hp
      obtain ⟨A44, c44, p44, hat44⟩ := p44
      change ρ (.tmp 44) = _ at p44
      have hW := (Below.refl _ _).drew.trans hX
      refine turn_plain ?_
      refine ok_val (v := .slice A44 d c44) (W' := W) (by simp only [execOp, p44]; go_simp) (Below.refl _ _) ⟨A44, c44, rfl, hat44⟩
    exact trivial
  case finc =>
    rintro v wy hX ⟨f0, f1, f2, f3, f4, f5, -⟩
    obtain ⟨A_1, c_1, f1, hat_1⟩ := f1
    obtain ⟨A_3, c_3, f3, hat_3⟩ := f3
    obtain ⟨A_4, c_4, f4, hat_4⟩ := f4
    obtain ⟨A_5, c_5, f5, hat_5⟩ := f5
    simp only [is] at f0 f2
    simp only [putAll, Act.put, List.setIfInBounds_toArray, List.set_cons_succ, List.set_cons_zero, f0, f1, f2, f3, f4, f5]
    clear f0 f1 f2 f3 f4 f5
    have HA0 := Lib.hid hat_4
    have HB0 := Lib.hid hat_5
    clear hat_1 hat_3 hat_4 hat_5
    have GSZ := Lib.hid H2.out.lt
    have BW := Lib.hid (HB.out.trans (hX.mono (by rw [← HG.out]; exact HB.out.size)))
    replace H1 := Lib.hid (H1.out.later hX (Nat.le_refl _))
    replace H2 := Lib.hid (H2.out.later hX (Nat.le_refl _))
    replace HB := BW
    clear hX
    have r0 : wy.cell? ⟨g + 1, 0, none⟩ = some (.slice none 0 0) := H2.out.cell 0
    have r1 : wy.cell? ⟨g + 1, 1, none⟩ = some (.slice none 0 0) := H2.out.cell 1
    have z0 := H2.out.frozen 0
    have z1 := H2.out.frozen 1
    go_wp2_with fail
    go_loopw [13] (fun i wr => ∃ k : Nat, k ≤ n5 ∧ i = .int .i64 k ∧ wr = wy ∧ ∀ i, i < k → (other.getD i []).length = d) (fun i _ => (n5 - intOf i).toNat)
    case atStart => exact ⟨0, by omega, rfl, rfl, fun i hi => absurd hi (by omega)⟩
    case round =>
      obtain ⟨k, hk, rfl, rfl, hag⟩ := hrel
      have AG := Lib.hid hag
      clear hag
      by_cases hkn : k < n5
      · obtain ⟨b5, o5, Ay, cy, my, hA5, hcy, hay, hmy, hmy2⟩ := HR5.out.getm (w' := wr) k (by rw [HL5.out]; exact hkn) (by rw [HG.out]; exact HB.out)
        subst hA5
        have HMY := Lib.hid hmy
        clear hay hmy
        by_cases e1 : my = d
        · have E1 := Lib.hid e1
          have d1 : ((my : Int) == (d : Int)) = true := by rw [beq_iff_eq]; omega
          clear e1
          go_wp2_with fail
          refine ⟨⟨k + 1, by omega, by simp, trivial, fun i hi => ?_⟩, by simp [intOf]; omega⟩
          rcases Nat.lt_or_ge i k with h | h
          · exact AG.out i h
          · obtain rfl : i = k := by omega
            rw [HMY.out]; exact E1.out
        · have E1 := Lib.hid e1
          have d1 : ((my : Int) == (d : Int)) = false := by rw [beq_eq_false_iff_ne]; omega
          clear e1
          have HX2 := Lib.hid (show ¬ MvArg own P came rows other from fun h => E1.out (by have h2 := (allB_len h.1.2.1).2 k (by rw [HL5.out]; exact hkn); rw [HMY.out, HDM.out] at h2; omega))
          go_wp2_with fail
          exact bodyPost_ret (v := .tuple #[.agg #[.slice none 0 0, .slice none 0 0], .int .i64 1]) (results_cell_two Tryd.results15 _ _ (g + 1) 25 #[.slice none 0 0, .slice none 0 0] _ _ _ rfl rfl (V1 _ H2.out) rtb_under rfl rtb_size) rfl (.inl ⟨HX2.out, rfl, by rw [HG.out]; exact VB _ HB.out⟩)
      · obtain rfl : n5 = k := by omega
        have HD5 := AG
        clear AG
        go_wp2_with fail
        obtain ⟨wk, rfl⟩ : ∃ wk, wk = wr := ⟨_, rfl⟩
        go_loopw [11, 12, 14] (fun a b i wr => ∃ (k : Nat) (Aa : Option Addr) (ca : Nat) (Ab : Option Addr) (cb : Nat), k ≤ n5 ∧ i = .int .i64 k ∧ a = .slice Aa d ca ∧ b = .slice Ab d cb ∧ At wr Aa (nats .u32 (accK came rows d k)) ∧ At wr Ab (nats .u32 (accK came other d k)) ∧ Below wk.heap.size wk wr ∧ ∀ i, i < k → SetM.has came (i : Nat) = true ∨ rows.getD i [] = other.getD i []) (fun _ _ i _ => (n5 - intOf i).toNat)
        case atStart => exact ⟨0, A_4, c_4, A_5, c_5, by omega, rfl, rfl, rfl, HA0.out, HB0.out, Below.refl _ _, fun i hi => absurd hi (by omega)⟩
        case round =>
          clear HA0 HB0 r0 r1 z0 z1
          obtain ⟨k, Aa, ca, Ab, cb, hk, rfl, rfl, rfl, haa, hab, hb, hag⟩ := hrel
          have HAA := Lib.hid haa
          have HAB := Lib.hid hab
          have B2 := Lib.hid hb
          have AG := Lib.hid hag
          have BWr := Lib.hid (BW.out.trans (hb.mono (by rw [← HG.out]; exact BW.out.size)))
          clear haa hab hb hag
          by_cases hkn : k < n5
          · have QH := Lib.hid (refHas_any A3 n3 c3 came (k : Int) wr HL3.out h3 (HA.out.later BWr.out (by rw [HG.out]; exact Nat.le_refl _)))
            obtain ⟨b4, o4, Ax, cx, hA4, hcx, hax, _⟩ := HR4.out.getw (w' := wr) k (by rw [HL4.out]; exact hkn) (by rw [HG.out]; exact BWr.out)
            obtain ⟨b5, o5, Ay, cy, hA5, hcy, hay, _⟩ := HR5.out.getw (w' := wr) k (by rw [HL5.out]; exact hkn) (by rw [HG.out]; exact BWr.out)
            have hlt4 := lt_of_cell hcx
            have hlt5 := lt_of_cell hcy
            rw [HD4.out k hkn] at hcx
            rw [HD5.out k hkn] at hcy
            have HAX := Lib.hid hax
            have HAY := Lib.hid hay
            subst hA4 hA5
            clear hax hay
            have LA := Lib.hid (accK_length (came := came) HD4.out k hk)
            have LB := Lib.hid (accK_length (came := came) HD5.out k hk)
            cases hhas : SetM.has came (k : Int) with
            | true =>
              rw [hhas] at QH
              have EA := Lib.hid (show accK came rows d (k + 1) = VE.lin 1 (accK came rows d k) (rows.getD k []) from by
                conv => lhs; unfold accK
                rw [hhas]; rfl)
              have EB := Lib.hid (show accK came other d (k + 1) = VE.lin 1 (accK came other d k) (other.getD k []) from by
                conv => lhs; unfold accK
                rw [hhas]; rfl)
              have HHAS := Lib.hid hhas
              clear hhas
              have QA := Lib.hid (radd_ok Aa d ca (accK came rows d k) Ax d cx (rows.getD k []) 1 wr LA.out (HD4.out k hkn) D32 HAA.out (HAX.out.later BWr.out (by rw [HG.out]; exact Nat.le_refl _)) (accK_lt k) (U3.out.get k) rfl (by decide))
              have QB := Lib.hid (fun W (hW : Below wr.heap.size wr W) => radd_ok Ab d cb (accK came other d k) Ay d cy (other.getD k []) 1 W LB.out (HD5.out k hkn) D32 (HAB.out.later hW (Nat.le_refl _)) (HAY.out.later (BWr.out.trans (hW.mono (by rw [← HG.out]; exact BWr.out.size))) (by rw [HG.out]; exact Nat.le_refl _)) (accK_lt k) (U4.out.get k) rfl (by decide))
              have LA2 := Lib.hid (accK_length (came := came) HD4.out (k + 1) (by omega))
              have LB2 := Lib.hid (accK_length (came := came) HD5.out (k + 1) (by omega))
              rw [← EA.out] at QA
              rw [← EB.out] at QB
              unfold RowT at QA QB
              rw [LA2.out, show (((1 : Nat) : Int)) = 1 from rfl] at QA
              rw [LB2.out, show (((1 : Nat) : Int)) = 1 from rfl] at QB
              generalize hra : accK came rows d (k + 1) = ra at *
              generalize hrb : accK came other d (k + 1) = rb at *
              have HRA := Lib.hid hra
              have HRB := Lib.hid hrb
              clear hra hrb
              go_wp2_with fail
              with_reducible refine QH.out.mono ?_
              clear QH
              rintro e w5 ⟨rfl, rfl⟩
              go_wp2_with fail
              with_reducible refine QA.out.mono ?_
              clear QA
              rintro e w5 ⟨A6, c6, rfl, h6, b6⟩
              have QB := Lib.hid (QB.out w5 b6)
              have H6 := Lib.hid h6
              have B6 := Lib.hid (B2.out.trans (b6.mono B2.out.size))
              have hcy5 := (b6.cell (p := ⟨b5, o5 + k, none⟩) hlt5).trans hcy
              clear h6 b6
              go_wp2_with fail
              with_reducible refine QB.out.mono ?_
              clear QB
              rintro e w7 ⟨A7, c7, rfl, h7, b7⟩
              have H7 := Lib.hid h7
              have H67 := Lib.hid (H6.out.later b7 (Nat.le_refl _))
              have B7 := Lib.hid (B6.out.trans (b7.mono B6.out.size))
              clear h7 b7
              go_wp2_with fail
              refine ⟨⟨k + 1, A6, c6, A7, c7, by omega, by simp, rfl, rfl, by rw [HRA.out]; exact H67.out, by rw [HRB.out]; exact H7.out, B7.out, fun i hi => ?_⟩, by simp [intOf]; omega⟩
              rcases Nat.lt_or_ge i k with h | h
              · exact AG.out i h
              · obtain rfl : i = k := by omega
                exact .inl HHAS.out
            | false =>
              rw [hhas] at QH
              have EA := Lib.hid (show accK came rows d (k + 1) = accK came rows d k from by
                conv => lhs; unfold accK
                rw [hhas]; rfl)
              have EB := Lib.hid (show accK came other d (k + 1) = accK came other d k from by
                conv => lhs; unfold accK
                rw [hhas]; rfl)
              have HHAS := Lib.hid hhas
              clear hhas
              have QS := Lib.hid (fun W (hW : Below wr.heap.size wr W) => rsame_any Ax d cx (rows.getD k []) Ay d cy (other.getD k []) W (HD4.out k hkn) (by omega) (HAX.out.later (BWr.out.trans (hW.mono (by rw [← HG.out]; exact BWr.out.size))) (by rw [HG.out]; exact Nat.le_refl _)) (HD5.out k hkn) (by omega) (HAY.out.later (BWr.out.trans (hW.mono (by rw [← HG.out]; exact BWr.out.size))) (by rw [HG.out]; exact Nat.le_refl _)))
              obtain ⟨same, hsame⟩ : ∃ b, decide (rows.getD k [] = other.getD k []) = b := ⟨_, rfl⟩
              rw [hsame] at QS
              have HS := Lib.hid hsame
              clear hsame
              go_wp2_with fail
              with_reducible refine QH.out.mono ?_
              clear QH
              rintro e w5 ⟨rfl, rfl⟩
              cases same with
              | true =>
                go_upto_region 16 with fail
                refine wp_region_below (is ?d0 :: is ?d1 :: is ?d2 :: is ?d3 :: is ?d4 :: is ?d5 :: is ?d6 :: is ?d7 :: is (.bool true) :: is ?d9 :: [])
                  [⟨[], [2], none⟩, ⟨[], [14], none⟩, ⟨[(86, 0), (87, 1)], [], none⟩, ⟨[(88, 2)], [], none⟩, ⟨[], [3], none⟩, ⟨[], [14], none⟩, ⟨[(90, 4), (91, 5)], [], none⟩, ⟨[(92, 6)], [], none⟩, ⟨[(89, 3), (93, 7)], [], none⟩, ⟨[(94, 8)], [], none⟩] (by kernel_rfl) (by kernel_rfl) (by kernel_rfl) (by kernel_rfl) (by kernel_rfl) ?monod ?stepsd ?find
                case monod => exact ⟨mono_eq _, mono_eq _, mono_eq _, mono_eq _, mono_eq _, mono_eq _, mono_eq _, mono_eq _, mono_eq _, mono_eq _, trivial⟩
                case stepsd =>
                  refine ⟨fun ρ W ⟨hcst, hglb, hfun⟩ hX hp ho => ?_, ?_⟩ -- 0: slot 86 := Op.move t2
                  · obtain ⟨o2, -⟩ := ho
                    change ρ (.tmp 2) = _ at o2
                    refine turn_plain (ok_is ?_ rfl)
                    simp only [execOp, o2]; go_simp; try exact rfl
                  refine ⟨fun ρ W ⟨hcst, hglb, hfun⟩ hX hp ho => ?_, ?_⟩ -- 1: slot 87 := Op.move t14
                  · obtain ⟨o14, -⟩ := ho
                    change ρ (.tmp 14) = _ at o14
                    refine turn_plain (ok_is ?_ rfl)
                    simp only [execOp, o14]; go_simp; try exact rfl
                  refine ⟨fun ρ W ⟨hcst, hglb, hfun⟩ hX hp ho => ?_, ?_⟩ -- 2: slot 88 := Op.indexAddr 22 t86 t87
                  · obtain ⟨p86, p87, -⟩ := hp
                    change ρ (.tmp 86) = _ at p86
                    change ρ (.tmp 87) = _ at p87
                    refine turn_plain (ok_is ?_ rfl)
                    simp only [execOp, p86, p87]; go_simp; try exact rfl
                  refine ⟨fun ρ W ⟨hcst, hglb, hfun⟩ hX hp ho => ?_, ?_⟩ -- 3: slot 89 := Op.load 54 t88
                  · obtain ⟨p88, -⟩ := hp
                    change ρ (.tmp 88) = _ at p88
                    have q := (((Below.refl _ _).drew.trans hX).cell (p := ⟨b4, o4 + k, none⟩) hlt4).trans hcx
                    refine turn_plain (ok_is ?_ rfl)
                    simp only [execOp, p88]; go_simp; try exact rfl
                  refine ⟨fun ρ W ⟨hcst, hglb, hfun⟩ hX hp ho => ?_, ?_⟩ -- 4: slot 90 := Op.move t3
                  · obtain ⟨o3, -⟩ := ho
                    change ρ (.tmp 3) = _ at o3
                    refine turn_plain (ok_is ?_ rfl)
                    simp only [execOp, o3]; go_simp; try exact rfl
                  refine ⟨fun ρ W ⟨hcst, hglb, hfun⟩ hX hp ho => ?_, ?_⟩ -- 5: slot 91 := Op.move t14
                  · obtain ⟨o14, -⟩ := ho
                    change ρ (.tmp 14) = _ at o14
                    refine turn_plain (ok_is ?_ rfl)
                    simp only [execOp, o14]; go_simp; try exact rfl
                  refine ⟨fun ρ W ⟨hcst, hglb, hfun⟩ hX hp ho => ?_, ?_⟩ -- 6: slot 92 := Op.indexAddr 22 t90 t91
                  · obtain ⟨p90, p91, -⟩ := hp
                    change ρ (.tmp 90) = _ at p90
                    change ρ (.tmp 91) = _ at p91
                    refine turn_plain (ok_is ?_ rfl)
                    simp only [execOp, p90, p91]; go_simp; try exact rfl
                  refine ⟨fun ρ W ⟨hcst, hglb, hfun⟩ hX hp ho => ?_, ?_⟩ -- 7: slot 93 := Op.load 54 t92
                  · obtain ⟨p92, -⟩ := hp
                    change ρ (.tmp 92) = _ at p92
                    have q := (((Below.refl _ _).drew.trans hX).cell (p := ⟨b5, o5 + k, none⟩) hlt5).trans hcy
                    refine turn_plain (ok_is ?_ rfl)
                    simp only [execOp, p92]; go_simp; try exact rfl
                  refine ⟨fun ρ W ⟨hcst, hglb, hfun⟩ hX hp ho => ?_, ?_⟩ -- 8: slot 94 := Op.call { value (Operand.func 23), args := #[t89, t93], argTypes := #[54, 54] }
                  · obtain ⟨p89, p93, -⟩ := hp
                    change ρ (.tmp 89) = _ at p89
                    change ρ (.tmp 93) = _ at p93
                    have hW := (Below.refl _ _).drew.trans hX
                    refine turn_plain ?_
                    have ce := @enter_of Tryd.prog 23 _ Tryd.func23 (by kernel_rfl) (by kernel_rfl)
                    refine ok_call (op_call2 hfun ce (by exact rfl) p89 p93) ?_
                    refine (QS.out W hW).mono ?_
                    rintro e W' ⟨rfl, bel⟩
                    exact ⟨_, rfl, bel, rfl⟩
                  refine ⟨fun ρ W ⟨hcst, hglb, hfun⟩ hX hp ho => ?_, ?_⟩ -- 9: slot 95 := Op.unOp UnOp.not 4 t94
                  · obtain ⟨p94, -⟩ := hp
                    change ρ (.tmp 94) = _ at p94
                    refine turn_plain (ok_is ?_ rfl)
                    simp only [execOp, p94]; go_simp; try exact rfl
                  exact trivial
                case find =>
                  rintro v W hX ⟨f0, f1, f2, f3, f4, f5, f6, f7, f8, f9, -⟩
                  simp only [is] at f0 f1 f2 f3 f4 f5 f6 f7 f8 f9
                  simp only [putAll, Act.put, List.setIfInBounds_toArray, List.set_cons_succ, List.set_cons_zero, f0, f1, f2, f3, f4, f5, f6, f7, f8, f9]
                  clear f0 f1 f2 f3 f4 f5 f6 f7 f8 f9
                  go_wp2_with fail
                  refine ⟨⟨k + 1, Aa, ca, Ab, cb, by omega, by simp, rfl, rfl, by rw [EA.out]; exact HAA.out.later hX (Nat.le_refl _), by rw [EB.out]; exact HAB.out.later hX (Nat.le_refl _), B2.out.trans (hX.mono B2.out.size), fun i hi => ?_⟩, by simp [intOf]; omega⟩
                  rcases Nat.lt_or_ge i k with h | h
                  · exact AG.out i h
                  · obtain rfl : i = k := by omega
                    exact .inr (of_decide_eq_true HS.out)
              | false =>
                go_upto_region 16 with fail
                refine wp_region_below (is ?e0 :: is ?e1 :: is ?e2 :: is ?e3 :: is ?e4 :: is ?e5 :: is ?e6 :: is ?e7 :: is (.bool false) :: is ?e9 :: [])
                  [⟨[], [2], none⟩, ⟨[], [14], none⟩, ⟨[(86, 0), (87, 1)], [], none⟩, ⟨[(88, 2)], [], none⟩, ⟨[], [3], none⟩, ⟨[], [14], none⟩, ⟨[(90, 4), (91, 5)], [], none⟩, ⟨[(92, 6)], [], none⟩, ⟨[(89, 3), (93, 7)], [], none⟩, ⟨[(94, 8)], [], none⟩] (by kernel_rfl) (by kernel_rfl) (by kernel_rfl) (by kernel_rfl) (by kernel_rfl) ?monoe ?stepse ?fine
                case monoe => exact ⟨mono_eq _, mono_eq _, mono_eq _, mono_eq _, mono_eq _, mono_eq _, mono_eq _, mono_eq _, mono_eq _, mono_eq _, trivial⟩
                case stepse =>
                  refine ⟨fun ρ W ⟨hcst, hglb, hfun⟩ hX hp ho => ?_, ?_⟩ -- 0: slot 86 := Op.move t2
                  · obtain ⟨o2, -⟩ := ho
                    change ρ (.tmp 2) = _ at o2
                    refine turn_plain (ok_is ?_ rfl)
                    simp only [execOp, o2]; go_simp; try exact rfl
                  refine ⟨fun ρ W ⟨hcst, hglb, hfun⟩ hX hp ho => ?_, ?_⟩ -- 1: slot 87 := Op.move t14
                  · obtain ⟨o14, -⟩ := ho
                    change ρ (.tmp 14) = _ at o14
                    refine turn_plain (ok_is ?_ rfl)
                    simp only [execOp, o14]; go_simp; try exact rfl
                  refine ⟨fun ρ W ⟨hcst, hglb, hfun⟩ hX hp ho => ?_, ?_⟩ -- 2: slot 88 := Op.indexAddr 22 t86 t87
                  · obtain ⟨p86, p87, -⟩ := hp
                    change ρ (.tmp 86) = _ at p86
                    change ρ (.tmp 87) = _ at p87
                    refine turn_plain (ok_is ?_ rfl)
                    simp only [execOp, p86, p87]; go_simp; try exact rfl
                  refine ⟨fun ρ W ⟨hcst, hglb, hfun⟩ hX hp ho => ?_, ?_⟩ -- 3: slot 89 := Op.load 54 t88
                  · obtain ⟨p88, -⟩ := hp
                    change ρ (.tmp 88) = _ at p88
                    have q := (((Below.refl _ _).drew.trans hX).cell (p := ⟨b4, o4 + k, none⟩) hlt4).trans hcx
                    refine turn_plain (ok_is ?_ rfl)
                    simp only [execOp, p88]; go_simp; try exact rfl
                  refine ⟨fun ρ W ⟨hcst, hglb, hfun⟩ hX hp ho => ?_, ?_⟩ -- 4: slot 90 := Op.move t3
                  · obtain ⟨o3, -⟩ := ho
                    change ρ (.tmp 3) = _ at o3
                    refine turn_plain (ok_is ?_ rfl)
                    simp only [execOp, o3]; go_simp; try exact rfl
                  refine ⟨fun ρ W ⟨hcst, hglb, hfun⟩ hX hp ho => ?_, ?_⟩ -- 5: slot 91 := Op.move t14
                  · obtain ⟨o14, -⟩ := ho
                    change ρ (.tmp 14) = _ at o14
                    refine turn_plain (ok_is ?_ rfl)
                    simp only [execOp, o14]; go_simp; try exact rfl
                  refine ⟨fun ρ W ⟨hcst, hglb, hfun⟩ hX hp ho => ?_, ?_⟩ -- 6: slot 92 := Op.indexAddr 22 t90 t91
                  · obtain ⟨p90, p91, -⟩ := hp
                    change ρ (.tmp 90) = _ at p90
                    change ρ (.tmp 91) = _ at p91
                    refine turn_plain (ok_is ?_ rfl)
                    simp only [execOp, p90, p91]; go_simp; try exact rfl
                  refine ⟨fun ρ W ⟨hcst, hglb, hfun⟩ hX hp ho => ?_, ?_⟩ -- 7: slot 93 := Op.load 54 t92
                  · obtain ⟨p92, -⟩ := hp
                    change ρ (.tmp 92) = _ at p92
                    have q := (((Below.refl _ _).drew.trans hX).cell (p := ⟨b5, o5 + k, none⟩) hlt5).trans hcy
                    refine turn_plain (ok_is ?_ rfl)
                    simp only [execOp, p92]; go_simp; try exact rfl
                  refine ⟨fun ρ W ⟨hcst, hglb, hfun⟩ hX hp ho => ?_, ?_⟩ -- 8: slot 94 := Op.call { value (Operand.func 23), args := #[t89, t93], argTypes := #[54, 54] }
                  · obtain ⟨p89, p93, -⟩ := hp
                    change ρ (.tmp 89) = _ at p89
                    change ρ (.tmp 93) = _ at p93
                    have hW := (Below.refl _ _).drew.trans hX
                    refine turn_plain ?_
                    have ce := @enter_of Tryd.prog 23 _ Tryd.func23 (by kernel_rfl) (by kernel_rfl)
                    refine ok_call (op_call2 hfun ce (by exact rfl) p89 p93) ?_
                    refine (QS.out W hW).mono ?_
                    rintro e W' ⟨rfl, bel⟩
                    exact ⟨_, rfl, bel, rfl⟩
                  refine ⟨fun ρ W ⟨hcst, hglb, hfun⟩ hX hp ho => ?_, ?_⟩ -- 9: slot 95 := Op.unOp UnOp.not 4 t94
                  · obtain ⟨p94, -⟩ := hp
                    change ρ (.tmp 94) = _ at p94
                    refine turn_plain (ok_is ?_ rfl)
                    simp only [execOp, p94]; go_simp; try exact rfl
                  exact trivial
                case fine =>
                  rintro v W hX ⟨f0, f1, f2, f3, f4, f5, f6, f7, f8, f9, -⟩
                  simp only [is] at f0 f1 f2 f3 f4 f5 f6 f7 f8 f9
                  simp only [putAll, Act.put, List.setIfInBounds_toArray, List.set_cons_succ, List.set_cons_zero, f0, f1, f2, f3, f4, f5, f6, f7, f8, f9]
                  clear f0 f1 f2 f3 f4 f5 f6 f7 f8 f9
                  have HX2 := Lib.hid (show ¬ MvArg own P came rows other from fun h => by
                    rcases h.2 k (by rw [HL4.out]; exact hkn) with h3 | h3
                    · rw [HHAS.out] at h3; cases h3
                    · exact of_decide_eq_false HS.out h3)
                  replace HB := Lib.hid (BWr.out.trans (hX.mono (by rw [← HG.out]; exact BWr.out.size)))
                  replace H2 := Lib.hid (H2.out.later (B2.out.trans (hX.mono B2.out.size)) (Nat.le_refl _))
                  have r0 : W.cell? ⟨g + 1, 0, none⟩ = some (.slice none 0 0) := H2.out.cell 0
                  have r1 : W.cell? ⟨g + 1, 1, none⟩ = some (.slice none 0 0) := H2.out.cell 1
                  have z0 := H2.out.frozen 0
                  have z1 := H2.out.frozen 1
                  go_wp2_with fail
                  exact bodyPost_ret (v := .tuple #[.agg #[.slice none 0 0, .slice none 0 0], .int .i64 1]) (results_cell_two Tryd.results15 _ _ (g + 1) 25 #[.slice none 0 0, .slice none 0 0] _ _ _ rfl rfl (V1 _ H2.out) rtb_under rfl rtb_size) rfl (.inl ⟨HX2.out, rfl, by rw [HG.out]; exact VB _ HB.out⟩)
          · obtain rfl : n5 = k := by omega
            have ARG := Lib.hid (show MvArg own P came rows other from ⟨⟨HX.out, by rw [HDM.out, HL4.out]; exact allB_of HL5.out HD5.out, by rw [HL4.out]; exact HPL.out⟩, fun i hi => AG.out i (by rw [← HL4.out]; exact hi)⟩)
            obtain ⟨cl, hcl, hclt, hasc⟩ := PlB.nats HPL.out
            have OK := Lib.hid (show MvOk P cl rows other n5 d from ⟨SH.out.pn, SH.out.pl, SH.out.pd, fun a b => u32_pair U2.out a b, HL4.out, SH.out.rd, U3.out, HL5.out, HD5.out, U4.out, hclt, hasc⟩)
            have HCL := Lib.hid hcl
            have SA := Lib.hid (accK_acc N64 HD4.out hclt hasc)
            have SB := Lib.hid (accK_acc N64 HD5.out hclt hasc)
            rw [← hcl] at SA SB
            have LEN := Lib.hid (show cl.length = n3 from by rw [← HL3.out, hcl, List.length_map])
            clear hcl hclt hasc
            have HSM := Lib.hid (show MvSum came rows other ↔ accK came rows d n5 = accK came other d n5 from by unfold MvSum; rw [HDM.out, SA.out, SB.out])
            have LA := Lib.hid (accK_length (came := came) HD4.out n5 (Nat.le_refl _))
            have LB := Lib.hid (accK_length (came := came) HD5.out n5 (Nat.le_refl _))
            clear SA SB
            generalize accK came rows d n5 = S1 at *
            generalize accK came other d n5 = S2 at *
            have QV := Lib.hid (rsame_any Aa d ca S1 Ab d cb S2 wr LA.out (by omega) HAA.out LB.out (by omega) HAB.out)
            obtain ⟨same, hsame⟩ : ∃ b, decide (S1 = S2) = b := ⟨_, rfl⟩
            rw [hsame] at QV
            have HS := Lib.hid hsame
            clear hsame
            go_wp2_with fail
            with_reducible refine QV.out.mono ?_
            clear QV
            rintro e w7 ⟨rfl, b7⟩
            have B7 := Lib.hid (B2.out.trans (b7.mono B2.out.size))
            replace BW := Lib.hid (BW.out.trans (B7.out.mono (by rw [← HG.out]; exact BW.out.size)))
            have Z7 := Lib.hid B7.out.size
            clear b7 B2 BWr
            cases same with
            | false =>
              replace HB := BW
              replace H2 := Lib.hid (H2.out.later B7.out (Nat.le_refl _))
              have r0 : w7.cell? ⟨g + 1, 0, none⟩ = some (.slice none 0 0) := H2.out.cell 0
              have r1 : w7.cell? ⟨g + 1, 1, none⟩ = some (.slice none 0 0) := H2.out.cell 1
              have z0 := H2.out.frozen 0
              have z1 := H2.out.frozen 1
              go_wp2_with fail
              exact bodyPost_ret (v := .tuple #[.agg #[.slice none 0 0, .slice none 0 0], .int .i64 4]) (results_cell_two Tryd.results15 _ _ (g + 1) 25 #[.slice none 0 0, .slice none 0 0] _ _ _ rfl rfl (V1 _ H2.out) rtb_under rfl rtb_size) rfl (.inr <| .inl ⟨ARG.out, fun h => (of_decide_eq_false HS.out (HSM.out.1 h)), rfl, by rw [HG.out]; exact VB _ HB.out⟩)
            | true =>
            have MVS := Lib.hid (show MvSum came rows other from HSM.out.2 (of_decide_eq_true HS.out))
            clear HSM HS AG LA LB HAA HAB
            replace H1 := Lib.hid (H1.out.later B7.out (Nat.le_refl _))
            replace H2 := Lib.hid (H2.out.later B7.out (Nat.le_refl _))
            have x0 : w7.cell? ⟨g, 0, none⟩ = some (.slice A n5 c) := H1.out.cell 0
            have GSZ7 := Lib.hid H2.out.lt
            obtain ⟨MV, hMV⟩ : ∃ M, mv cl P rows other = M := ⟨_, rfl⟩
            have HMV := Lib.hid hMV
            have LMV := Lib.hid (show MV.length = n5 from by rw [← hMV, mvP_length, HL2.out])
            have RMV := Lib.hid (show ∀ i, i < n5 → (MV.getD i []).length = n5 - 1 - i from fun i hi => by rw [← hMV, mvP_row, OK.out.pl i hi])
            have PMV := Lib.hid (show ∀ a b, a < b → b < n5 → VE.pairOf MV a b = if a = cl.getD 0 0 ∧ b ∈ cl.drop 1 then mvR P rows other a b else VE.pairOf P a b from fun a b hab hb => by rw [← hMV]; exact OK.out.pair a b hab hb)
            have DMV := Lib.hid (show VE.PairsOk MV n5 d from by rw [← hMV]; exact OK.out.pairsOk)
            clear hMV
            go_upto_region 21 with fail
            have HQX := Lib.hid (Holds.new w7 25 #[.slice A n5 c, .slice none 0 0] w7.heap.size rfl)
            have S0 := Lib.hid (ShS.start (w7.alloc (.cells #[.slice A n5 c, .slice none 0 0] 25)) (g + 1) w7.heap.size GSZ7.out (by simp))
            have BQ := Lib.hid ((Below.refl w7.heap.size w7).alloc (Nat.le_refl _) (.cells #[.slice A n5 c, .slice none 0 0] 25))
            have ZQ := Lib.hid (show (w7.alloc (.cells #[.slice A n5 c, .slice none 0 0] 25)).heap.size = w7.heap.size + 1 from by simp)
            generalize w7.alloc (.cells #[.slice A n5 c, .slice none 0 0] 25) = w8 at *
            obtain ⟨q, hq⟩ : ∃ q, w7.heap.size = q := ⟨_, rfl⟩
            rw [hq] at HQX S0 BQ ZQ ⊢
            have GQ := Lib.hid (show g + 1 < q from by rw [← hq]; exact GSZ7.out)
            clear hq x0
            go_wp2_with fail
            go_loopw [16] (fun i wr => ∃ (k : Nat) (X : Nat → Prop) (B2 : Option Addr) (e2 : Nat) (y2 : List Value), k ≤ n5 ∧ i = .int .i64 k ∧ ShS (g + 1) (q + 1) X wr none 0 0 [] [] B2 k e2 y2 (MV.take k) ∧ (X q ∧ X (g + 1)) ∧ Holds wr q 25 #[.slice A n5 c, .slice B2 k e2] ∧ Below q w7 wr ∧ q + 1 ≤ wr.heap.size) (fun i _ => (n5 - intOf i).toNat)
            case atStart => exact ⟨0, _, none, 0, [], by omega, rfl, S0.out, ⟨.inl rfl, .inr rfl⟩, HQX.out, BQ.out, Nat.le_of_eq ZQ.out.symm⟩
            case round =>
              clear HQX S0 BQ ZQ
              obtain ⟨k, X, B2, e2, y2, hk, rfl, hs, hXq, hx, hb, hsz⟩ := hrel
              have S5 := Lib.hid hs
              have XQ6 := Lib.hid hXq
              have HH5 := Lib.hid hx
              have BL5 := Lib.hid hb
              have SZ5 := Lib.hid hsz
              have BW6 := Lib.hid (BW.out.trans (hb.mono (by have := GQ.out; omega)))
              have XL6 := Lib.hid hs.lt
              clear hs hXq hx hb hsz
              by_cases hkn : k < n5
              · have PL := Lib.hid (OK.out.pl k hkn)
                have LSR := Lib.hid (RMV.out k hkn)
                obtain ⟨w6, rfl⟩ : ∃ w6, w6 = wr := ⟨_, rfl⟩
                go_wp2_with fail
                go_loopw [17, 18] (fun l j wq => ∃ (m : Nat) (Al : Option Addr) (cl : Nat) (vl : List Value), k + 1 + m ≤ n5 ∧ j = .int .i64 ((k + 1 + m : Nat) : Int) ∧ l = .slice Al m cl ∧ Inn w6.heap.size X w6 wq Al m cl vl ((MV.getD k []).take m)) (fun _ j _ => (n5 - intOf j).toNat)
                case atStart => exact ⟨0, none, 0, [], by omega, by simp, rfl, Inn.start w6 X⟩
                case round =>
                  obtain ⟨m, Al, cll, vl, hm, rfl, rfl, hin⟩ := hrel
                  have II := Lib.hid hin
                  have LW := Lib.hid hin.low
                  have IZ := Lib.hid hin.low.size
                  have BWr := Lib.hid (BW6.out.trans (hin.low.mono (by rw [← HG.out]; exact BW6.out.size)))
                  clear hin
                  by_cases hmn : k + 1 + m < n5
                  · obtain ⟨J, hJ⟩ : ∃ J, k + 1 + m = J := ⟨_, rfl⟩
                    rw [hJ]
                    have JJ := Lib.hid hJ
                    have hJN : J < n5 := by omega
                    have hJn : (J : Int) < n5 := by omega
                    have hkJ : k < J := by omega
                    have hm64 : m ≤ 64 := by omega
                    clear hJ
                    obtain ⟨b5, o5, Ah, ch, ws, mh, hA2, hch, hrh, hmh, _⟩ := HR2.out.getm (w' := wr) k (by rw [HL2.out]; exact hkn) (by rw [HG.out]; exact BWr.out)
                    have hmh2 : mh = n5 - 1 - k := by rw [← hmh, PL.out]
                    obtain ⟨b6, o6, Ap, cp, hAh, hcp, hap, hnp, hlp, hmp, _⟩ := hrh.getw (w' := wr) m (by rw [hmh]; omega) (by rw [HG.out]; exact BWr.out)
                    have hgd := Lib.hid (show (P.getD k []).getD m [] = VE.pairOf P k J from by rw [pairOf_getD, JJ.out])
                    have hdl := Lib.hid (show (VE.pairOf P k J).length = d from OK.out.pd k J hkJ hJN)
                    rw [hgd.out, hdl.out] at hcp hnp hlp
                    rw [hgd.out] at hap
                    have HAP := Lib.hid hap
                    have NP := Lib.hid (And.intro hnp (And.intro hlp hmp))
                    subst hA2 hAh
                    have t1 : wr.cell? ⟨g, 1, none⟩ = some (.slice (some ⟨b5, o5, none⟩) n5 c2) := (((BL5.out.trans (LW.out.mono (by have := SZ5.out; omega))).cell (p := ⟨g, 1, none⟩) (by show g < q; have := GQ.out; omega)).trans (H1.out.cell 1))
                    have w1_ : IntKind.i64.wrap ((J : Int) - k) = ((m + 1 : Nat) : Int) := by have := JJ.out; rw [wrap_small' _ (by omega)]; omega
                    have w2_ : IntKind.i64.wrap (((m + 1 : Nat) : Int) - 1) = (m : Int) := by rw [wrap_small' _ (by omega)]; omega
                    have w3_ : IntKind.i64.wrap (m : Int) = (m : Int) := wrap_small' _ (by omega)
                    have hmi : (m : Int) < mh := by omega
                    clear hmh hmh2 hrh hap hnp hlp hmp
                    go_upto_region 29 with fail
                    clear w1_ w2_ w3_ hmi hch hcp t1
                    obtain ⟨f, hf0⟩ : ∃ f, cl.getD 0 0 = f := ⟨_, rfl⟩
                    have HF0 := Lib.hid hf0
                    clear hf0
                    have QH := Lib.hid (refHas_any A3 n3 c3 came (J : Int) wr HL3.out h3 (HA.out.later BWr.out (by rw [HG.out]; exact Nat.le_refl _)))
                    rw [show SetM.has came (J : Int) = decide (J ∈ cl) from by rw [HCL.out]; exact has_cl (by omega)] at QH
                    go_cut [144] from 130 to 166 (fun v wx => v = .bool (decide (0 < n3 ∧ k = f ∧ J ∈ cl)) ∧ wr = wx)
                    case first =>
                      by_cases h0 : n3 = 0
                      · subst h0
                        go_wp2_with fail
                        go_meet
                        exact ⟨by rw [decide_eq_false (by omega)], rfl⟩
                      · have h0i : decide ((0 : Int) < n3) = true := decide_eq_true (by omega)
                        obtain ⟨b3, o3, e3, hcf⟩ := (HA.out.later BWr.out (by rw [HG.out]; exact Nat.le_refl _)).int 0 (by rw [HL3.out]; omega)
                        rw [Nat.add_zero, HCL.out, cast_getD, HF0.out] at hcf
                        subst e3
                        by_cases hf : k = f
                        · subst hf
                          go_wp2_with fail
                          with_reducible refine QH.out.mono ?_
                          rintro e w9 ⟨rfl, rfl⟩
                          by_cases hj : J ∈ cl
                          · rw [decide_eq_true hj]
                            have HJ := Lib.hid hj
                            clear hj
                            go_wp2_with fail
                            go_meet
                            exact ⟨by rw [decide_eq_true ⟨by omega, trivial, HJ.out⟩], rfl⟩
                          · rw [decide_eq_false hj]
                            have HJ := Lib.hid hj
                            clear hj
                            go_wp2_with fail
                            go_meet
                            exact ⟨by rw [decide_eq_false (fun h => HJ.out h.2.2)], rfl⟩
                        · have hfi : ((k : Int) == (f : Int)) = false := by rw [beq_eq_false_iff_ne]; omega
                          have HF := Lib.hid hf
                          clear hf
                          go_wp2_with fail
                          go_meet
                          exact ⟨by rw [decide_eq_false (fun h => HF.out h.2.1)], rfl⟩
                    case rest =>
                    obtain ⟨rfl, rfl⟩ := hcut
                    clear QH
                    have EQ := Lib.hid (show (MV.getD k []).getD m [] = if 0 < n3 ∧ k = f ∧ J ∈ cl then mvR P rows other k J else VE.pairOf P k J from by
                      rw [pairOf_getD, JJ.out, PMV.out k J hkJ hJN, HF0.out]
                      by_cases hc : k = f ∧ J ∈ cl.drop 1
                      · rw [if_pos hc, if_pos]
                        exact ⟨by rw [← LEN.out]; exact List.length_pos_of_mem (List.mem_of_mem_drop hc.2), hc.1, List.mem_of_mem_drop hc.2⟩
                      · rw [if_neg hc, if_neg]
                        rintro ⟨_, h1, h2⟩
                        apply hc
                        refine ⟨h1, ?_⟩
                        cases hcc : cl with
                        | nil => rw [hcc] at h2; cases h2
                        | cons f2 T =>
                          have h0 := HF0.out
                          rw [hcc] at h0 h2
                          rcases List.mem_cons.1 h2 with h | h
                          · simp at h0; omega
                          · exact h)
                    obtain ⟨cnd, hcnd⟩ : ∃ b, decide (0 < n3 ∧ k = f ∧ J ∈ cl) = b := ⟨_, rfl⟩
                    rw [hcnd]
                    have HC := Lib.hid hcnd
                    clear hcnd
                    go_upto_if 144 with fail
                    go_cut [19] from 145 to 166 (fun v wx => ∃ A' c', v = .slice A' d c' ∧ AtX wx (fun j => X j ∨ blk Al = some j) A' (nats .u32 ((MV.getD k []).getD m [])) ∧ (A' = none → d = 0) ∧ d ≤ c' ∧ c' ≤ maxLen ∧ Below wr.heap.size wr wx)
                    case first =>
                      cases cnd with
                      | true =>
                        have E1 := Lib.hid (show (MV.getD k []).getD m [] = mvR P rows other k J from by rw [EQ.out, if_pos (of_decide_eq_true HC.out)])
                        obtain ⟨b7, o7, Ay, cy, hA5, hcy, hay, _⟩ := HR5.out.getw (w' := wr) J (by rw [HL5.out]; exact hJN) (by rw [HG.out]; exact BWr.out)
                        obtain ⟨b8, o8, Ax, cx, hA4, hcx, hax, _⟩ := HR4.out.getw (w' := wr) J (by rw [HL4.out]; exact hJN) (by rw [HG.out]; exact BWr.out)
                        have hlt4 := lt_of_cell hcx
                        rw [HD4.out J hJN] at hcx
                        rw [HD5.out J hJN] at hcy
                        have HAX := Lib.hid hax
                        have HAY := Lib.hid hay
                        subst hA4 hA5
                        clear hax hay
                        have M1 := Lib.hid (mvR_ref OK.out hkJ hJN)
                        have QA := Lib.hid (radd_ok Ap d cp (VE.pairOf P k J) Ay d cy (other.getD J []) 1 wr hdl.out (HD5.out J hJN) D32 (HAP.out.later BWr.out (by rw [HG.out]; exact Nat.le_refl _)) (HAY.out.later BWr.out (by rw [HG.out]; exact Nat.le_refl _)) (u32_pair U2.out k J) (U4.out.get J) rfl (by decide))
                        have L1 := Lib.hid (show (VE.lin 1 (VE.pairOf P k J) (other.getD J [])).length = d from by rw [VE.lin_length, hdl.out, HD5.out J hJN, Nat.min_self])
                        have T1 := Lib.hid (VE.lin_lt 1 (VE.pairOf P k J) (other.getD J []))
                        generalize VE.lin 1 (VE.pairOf P k J) (other.getD J []) = r1 at *
                        have QB := Lib.hid (fun W A6 c6 (hW : Below wr.heap.size wr W) (h6 : At W A6 (nats .u32 r1)) => radd_own A6 d c6 r1 Ax d cx (rows.getD J []) 4294967295 W L1.out (HD4.out J hJN) D32 h6 (HAX.out.later (BWr.out.trans (hW.mono (by rw [← HG.out]; exact BWr.out.size))) (by rw [HG.out]; exact Nat.le_refl _)) T1.out (U3.out.get J) rfl (by decide))
                        have L2 := Lib.hid (show (VE.lin 4294967295 r1 (rows.getD J [])).length = d from by rw [VE.lin_length, L1.out, HD4.out J hJN, Nat.min_self])
                        rw [M1.out] at QB L2
                        unfold RowT at QA
                        unfold RowTO at QB
                        rw [L1.out, show (((1 : Nat) : Int)) = 1 from rfl] at QA
                        rw [L2.out, show (((4294967295 : Nat) : Int)) = 4294967295 from rfl] at QB
                        go_wp2_with fail
                        with_reducible refine QA.out.mono ?_
                        clear QA
                        rintro e w9 ⟨A6, c6, rfl, h6, b9⟩
                        have QB := Lib.hid (QB.out w9 A6 c6 b9 h6)
                        have B9 := Lib.hid b9
                        have hcx9 := (b9.cell (p := ⟨b8, o8 + J, none⟩) hlt4).trans hcx
                        clear h6 b9
                        go_wp2_with fail
                        with_reducible refine QB.out.mono ?_
                        clear QB
                        rintro e w10 ⟨A7, c7, rfl, h7, b10⟩
                        have H7 := Lib.hid h7
                        have B10 := Lib.hid (B9.out.trans (b10.mono B9.out.size))
                        have Z9 := Lib.hid B9.out.size
                        clear h7 b10
                        go_wp2_with fail
                        go_meet
                        refine ⟨A7, c7, rfl, ?_, H7.out.none_len, H7.out.cap.1, H7.out.cap.2, B10.out⟩
                        rw [E1.out]
                        refine H7.out.atx fun j hj => ?_
                        rcases hj with hj | hj
                        · have := XL6.out j hj; have := IZ.out; have := Z9.out; omega
                        · have := (II.out.own.lt j hj).2; have := Z9.out; omega
                      | false =>
                        have E1 := Lib.hid (show (MV.getD k []).getD m [] = VE.pairOf P k J from by rw [EQ.out, if_neg (of_decide_eq_false HC.out)])
                        go_wp2_with fail
                        go_meet
                        refine ⟨Ap, cp, rfl, ?_, NP.out.1, NP.out.2.1, NP.out.2.2, Below.refl _ _⟩
                        rw [E1.out]
                        refine AtX.of_low (B := g) (HAP.out.later BWr.out (by rw [HG.out]; exact Nat.le_refl _)) (fun j e h0 => by rw [← HG.out]; exact HAP.out.lt h0 j e) (fun j hj => ?_)
                        rcases hj with hj | hj
                        · have := S5.out.ge j hj; have := GQ.out; omega
                        · have := (II.out.own.lt j hj).1; have h1 := BW6.out.size; rw [HG.out] at h1; omega
                    case rest =>
                    obtain ⟨Ax, cx, rfl, hax, hnx, hlx, hmx, hb⟩ := hcut
                    have HAX := Lib.hid hax
                    have NX := Lib.hid hnx
                    have SL := Lib.hid (And.intro hlx hmx)
                    have I4 := Lib.hid (II.out.later hb IZ.out)
                    have I4Z := Lib.hid (Nat.le_trans IZ.out hb.size)
                    clear hax hnx hlx hmx hb
                    have SZ4 := Lib.hid (Nat.le_trans SZ5.out I4Z.out)
                    have LR := Lib.hid (show ((MV.getD k []).getD m []).length = d from by rw [pairOf_getD]; exact DMV.out k _ (by omega) (by omega))
                    have TK2 := Lib.hid (take_snocL (l := MV.getD k []) (k := m) (by rw [LSR.out]; omega))
                    go_wp2_with (at_builtin; refine wpList_app rfl elt_sl32 w6.heap.size (.tmp 163) (.tmp 165) rfl _ rfl (I4.out.own.alloc _) [.slice Ax d cx] rfl (At.lit _ _ _ _ _ rfl) rfl (by intro u hu; simp at hu; subst hu; rfl) (by unfold maxLen; omega) (by omega) (by have h2 := I4Z.out; simp; omega) ?_; intro A7 c7 w7' own7 g7 hA7; have N := Lib.hid (I4.out.push I4Z.out XL6.out LR.out HAX.out NX.out SL.out.1 SL.out.2 own7 g7 hA7); clear own7 g7 hA7)
                    rw [← TK2.out] at N
                    refine ⟨⟨m + 1, A7, c7, _, by have := JJ.out; omega, by have := JJ.out; simp; omega, rfl, N.out⟩, by simp [intOf]; omega⟩
                  · have HE := Lib.hid (show m = n5 - 1 - k from by omega)
                    have II2 := II.out
                    rw [List.take_of_length_le (by rw [LSR.out, HE.out]; exact Nat.le_refl _)] at II2
                    have DN := Lib.hid (II2.done XL6.out)
                    have S7 := Lib.hid (S5.out.later (LW.out))
                    have HX7 := Lib.hid (HH5.out.later LW.out (Nat.le_refl _))
                    have BL7 := Lib.hid (BL5.out.trans (LW.out.mono (by have := SZ5.out; omega)))
                    have SZ7 := Lib.hid (Nat.le_trans SZ5.out IZ.out)
                    have TK := Lib.hid (take_snocL (l := MV) (k := k) (by rw [LMV.out]; exact hkn))
                    have FAR := Lib.hid (show blk B2 ≠ some q from fun e => by have := (S7.out.o2.own.lt _ e).1; omega)
                    have p1 : wr.cell? ⟨q, 1, none⟩ = some (.slice B2 k e2) := HX7.out.cell 1
                    clear II2
                    go_upto_region 23 with (at_builtin; refine wpList_app rfl elt_sl3 (q + 1) (.tmp 168) (.tmp 170) rfl _ rfl (S7.out.o2.own.alloc _) [.slice Al m cll] rfl (At.lit _ _ _ _ _ rfl) rfl (by intro u hu; simp at hu; subst hu; rfl) (by unfold maxLen; omega) (by omega) (by have h2 := SZ7.out; simp; omega) ?_; intro A8 c8 w8' own8 g8 hA8; have H8 := (HX7.out.alloc _).grown g8 FAR.out; have z1 : w8'.cell? ⟨q, 1, none⟩ = some (.slice B2 k e2) := H8.cell 1; have z2 := H8.frozen 1; have HH8 := Lib.hid H8; have S8 := Lib.hid (S7.out.push2 SZ7.out DN.out.2.2.2.2.2 DN.out.1 DN.out.2.1 DN.out.2.2.1 DN.out.2.2.2.1 DN.out.2.2.2.2.1 own8 g8 hA8); have BL8 := Lib.hid ((BL7.out.alloc (by have := SZ7.out; omega) _).grown g8 (by have := SZ7.out; simp; omega) (fun j hj => by have := (S7.out.o2.own.lt j hj).1; omega)); have SZ8 := Lib.hid (show q + 1 ≤ w8'.heap.size from by have h1 := g8.size; have h2 := SZ7.out; simp at h1; omega); clear H8 own8 g8 hA8)
                    rw [← TK.out] at S8
                    go_wp2_with fail
                    refine ⟨⟨k + 1, _, A8, c8, _, by omega, by simp, S8.out.box (q := q) (.inl XQ6.out.1) (by omega) 1 (.slice A8 (k + 1) c8), ⟨.inl XQ6.out.1, .inl XQ6.out.2⟩, HH8.out.set 1 (.slice A8 (k + 1) c8), BL8.out.setCell (p := ⟨q, 1, none⟩) (Nat.le_refl _) (.slice A8 (k + 1) c8), by simp [World.setCell]; exact SZ8.out⟩, by simp [intOf]; omega⟩
              · obtain rfl : n5 = k := by omega
                have S9 := S5.out
                rw [List.take_of_length_le (by rw [LMV.out]; exact Nat.le_refl _)] at S9
                have SS := Lib.hid S9
                have W2 := Lib.hid (H2.out.below BL5.out (by have := GQ.out; omega))
                have r0 : wr.cell? ⟨g + 1, 0, none⟩ = some (.slice none 0 0) := W2.out.cell 0
                have r1 : wr.cell? ⟨g + 1, 1, none⟩ = some (.slice none 0 0) := W2.out.cell 1
                have z0 := W2.out.frozen 0
                have z1 := W2.out.frozen 1
                have p0 : wr.cell? ⟨q, 0, none⟩ = some (.slice A n5 c) := HH5.out.cell 0
                have p1 : wr.cell? ⟨q, 1, none⟩ = some (.slice B2 n5 e2) := HH5.out.cell 1
                clear S9
                go_wp2_with fail
                have SF := Lib.hid (SS.out.two (q := g + 1) XQ6.out.2 (by have := GQ.out; omega) (.slice A n5 c) (.slice B2 n5 e2))
                have V2 := (W2.out.set 0 (.slice A n5 c)).set 1 (.slice B2 n5 e2)
                have BF := Lib.hid ((BW6.out.setCell (p := ⟨g + 1, 0, none⟩) (by show g ≤ g + 1; omega) (.slice A n5 c)).setCell (p := ⟨g + 1, 1, none⟩) (by show g ≤ g + 1; omega) (.slice B2 n5 e2))
                refine bodyPost_ret (v := .tuple #[.agg #[.slice A n5 c, .slice B2 n5 e2], .int .i64 0]) (results_cell_two Tryd.results15 _ _ (g + 1) 25 #[.slice A n5 c, .slice B2 n5 e2] _ _ _ rfl rfl V2 rtb_under rfl rtb_size) rfl (.inr <| .inr ⟨ARG.out, MVS.out, A, c, vs, B2, e2, y2, by rw [HL4.out], HR.out.later BF.out (by rw [HG.out]; exact Nat.le_refl _), ?_, by rw [HG.out]; exact BF.out⟩)
                have h9 := SF.out.o2.rows.rows3 SF.out.o2.own.at_
                rw [← HMV.out] at h9
                rw [HL3.out, HCL.out, ints_cast, ← LEN.out]
                exact h9

end
end Go.Proofs.YtmdilfgeogedpaaDoor
