/- Layer 37: Shown of package ideal: the walk. -/
import Derived.Test.YtmdilfgeogedpaaDoorIdN
import Derived.Deep.CutRange
namespace Go.Proofs.YtmdilfgeogedpaaDoor
open Go.RowKit
theorem results_cell_two {P : Program} {fn : Func} {p q : Tmp} {ty : TypeId} (h : fn.results = #[.cell p ty, .tmp q]) (tmps : Array Value) (w : World) (g : Nat) (t : TypeId) (cs : Array Value) (fr : Nat × Nat) (d : TypeDesc) (u : Value)
    (hp : tmps.getD p undef = .pointer (some ⟨g, 0, none⟩)) (hq : tmps.getD q undef = u) (hg : w.heap[g]? = some (.cells cs t fr))
    (hu : P.underlying ty = some d) (hd : (match d with | .struct _ | .array _ _ => true | _ => false) = true) (hi : (P.info? ty).map (·.size) = some cs.size) :
    (results fn tmps).run P w = .ok (.tuple #[.agg cs, u]) w := by
  have hp' : tmps[p]?.getD undef = .pointer (some ⟨g, 0, none⟩) := by simpa using hp
  have hq' : tmps[q]?.getD undef = u := by simpa using hq
  simp [results, h, hp', hq', asAddr, run_loadVar_row w g t ty cs fr d hg hu hd hi]
set_option maxRecDepth 100000 in
set_option maxHeartbeats 1000000 in
/-- the very row of a pair, where it lies -/
theorem pair_cell (A : Option Addr) (n c b o n2 c2 b2 o2 L c1 : Nat) (A3 : Option Addr) (r c3 : Nat) (i j q : Nat) (w : World) (hij : j = i + q + 1) (hi : i < n2) (hq : q < L) (hj : j ≤ 1000) (hn2 : n2 ≤ 1000) (hL : L ≤ 1000)
    (h1 : w.cell? ⟨b, o + i, none⟩ = some (.slice (some ⟨b2, o2, none⟩) L c1)) (h2 : w.cell? ⟨b2, o2 + q, none⟩ = some (.slice A3 r c3)) (hb : b < w.heap.size) (hb2 : b2 < w.heap.size) :
    Calls Tryd.prog 27 #[.agg #[.slice A n c, .slice (some ⟨b, o, none⟩) n2 c2], .int .i64 i, .int .i64 j] w fun e w' => e = .returned (.slice A3 r c3) ∧ Below w.heap.size w w' := by
  have HB0 := (Below.refl w.heap.size w).alloc (Nat.le_refl _) (.cells #[.slice A n c, .slice (some ⟨b, o, none⟩) n2 c2] 32)
  have hcell := (HB0.cell (p := ⟨b, o + i, none⟩) hb).trans h1
  have hcell2 := (HB0.cell (p := ⟨b2, o2 + q, none⟩) hb2).trans h2
  have HB := Lib.hid HB0
  have e1 : (j : Int) - i - 1 = q := by omega
  have hiI : (i : Int) < n2 := by omega
  have hqI : (q : Int) < L := by omega
  clear HB0 h1 h2 hij hb hb2
  go_enter Tryd.func27, Tryd.ntmps27
  go_wp2_with fail
  go_ret
  exact ⟨rfl, HB.out⟩
section
variable (A : Option Addr) (n c : Nat) (vs : List Value) (own : List (List Nat)) (A2 : Option Addr) (c2 : Nat) (vs2 : List Value) (P : List (List (List Nat))) (A3 : Option Addr) (n3 c3 : Nat) (came : List Int)
/-- a table of the call's own, and no error -/
def TabE (w : World) (own : List (List Nat)) (P : List (List (List Nat))) (e : Ending) (w' : World) : Prop :=
  ∃ D : Pc → Pie, e = .returned (.tuple #[.agg #[.slice (D .oh).A own.length (D .oh).c, .slice (D .ph).A P.length (D .ph).c], .nilIface]) ∧ Fam w' w.heap.size D ∧ Tab D own P ∧ Ty D ∧ Below w.heap.size w w'
set_option maxRecDepth 100000 in
set_option maxHeartbeats 2000000 in
theorem shown_yes (dim : Int) (w : World) (hl : own.length = n) (hn : n ≤ 64) (hr : Rows_ w .u32 A vs own) (hl2 : P.length = n) (hr2 : Rows3 w .u32 A2 vs2 P) (hd : ∀ i, i < n → (own.getD i []).length ≤ 32) (hpl : ∀ i, i < n → (P.getD i []).length = n - 1 - i) (hpd : ∀ i j, i < n → j < (P.getD i []).length → ((P.getD i []).getD j []).length ≤ 32)
    (hl3 : came.length = n3) (h3 : n3 ≤ 9223372036854775807) (ha3 : At w A3 (ints .i64 came)) (hm : TMay own P n dim) (hp : PlB came n = true) :
    Calls Tryd.prog 12 #[.agg #[.slice A n c, .slice A2 n c2], .slice A3 n3 c3, .int .i64 dim] w (TabE w (shO came own n) (shP came P n)) := by
  have HB0 := ((Below.refl w.heap.size w).alloc (Nat.le_refl _) (.cells #[.slice A n c, .slice A2 n c2] 32)).alloc (by simp) (.cells #[.slice none 0 0, .slice none 0 0] 32)
  have QC := Lib.hid (tcheck_any A n c vs own A2 n c2 vs2 P (n : Int) dim _ hl (by omega) (hr.later HB0 (Nat.le_refl _)) hl2 (by omega) (hr2.later HB0 (Nat.le_refl _)))
  have H1 := Lib.hid ((Holds.new w 32 #[.slice A n c, .slice A2 n c2] w.heap.size rfl).alloc (.cells #[.slice none 0 0, .slice none 0 0] 32))
  have H2 := Lib.hid (Holds.new (w.alloc (.cells #[.slice A n c, .slice A2 n c2] 32)) 32 #[.slice none 0 0, .slice none 0 0] (w.heap.size + 1) (by simp))
  have HB := Lib.hid HB0
  have HM := Lib.hid hm
  clear HB0 hm
  have HR := Lib.hid hr
  have HR2 := Lib.hid hr2
  have HA := Lib.hid ha3
  have HP := Lib.hid hp
  have HL := Lib.hid hl
  have HL2 := Lib.hid hl2
  have HL3 := Lib.hid hl3
  have HD := Lib.hid hd
  have HPL := Lib.hid hpl
  have HPD := Lib.hid hpd
  clear hr hr2 ha3 hp hl hl2 hl3 hd hpl hpd
  go_enter Tryd.func12, Tryd.ntmps12
  go_wp2_with fail
  with_reducible refine QC.out.mono ?_
  clear QC
  rintro e w1 ⟨⟨rfl, hx⟩ | ⟨rfl, _⟩, b1⟩
  · exact absurd HM.out hx
  have BS := Lib.hid b1.size
  have H1 := Lib.hid (H1.out.later b1 (Nat.le_refl _))
  have H2 := Lib.hid (H2.out.later b1 (Nat.le_refl _))
  have HB := Lib.hid (HB.out.trans (b1.mono HB.out.size))
  clear b1
  have QP := Lib.hid (places_any A3 n3 c3 came (n : Int) w1 HL3.out h3 (HA.out.later HB.out (Nat.le_refl _)))
  rw [HP.out, show errIf true = .nilIface from rfl] at QP
  have QK := Lib.hid (copied_any A n c vs own A2 n c2 vs2 P w1 HL.out hn (HR.out.later HB.out (Nat.le_refl _)) HL2.out hn (HR2.out.later HB.out (Nat.le_refl _)) HD.out (fun i hi => by rw [HPL.out i hi]; omega) HPD.out)
  go_wp2_with fail
  with_reducible refine QP.out.mono ?_
  clear QP
  rintro e w2 ⟨rfl, rfl⟩
  generalize hg : w.heap.size = g at *
  have HG := Lib.hid hg
  clear hg
  have x0 : w1.cell? ⟨g, 0, none⟩ = some (.slice A n c) := H1.out.cell 0
  have x1 : w1.cell? ⟨g, 1, none⟩ = some (.slice A2 n c2) := H1.out.cell 1
  go_wp2_with fail
  with_reducible refine QK.out.mono ?_
  clear QK
  rintro e w2 ⟨D, rfl, hf, ht, hty, b2⟩
  rw [HL.out, HL2.out]
  have LB := Lib.hid (fun (p : Pc) (k : Nat) (e : blk (D p).A = some k) => ((hf.own p).lt k e).2)
  have HX := Lib.hid (Holds.new w2 32 #[.slice (D .oh).A n (D .oh).c, .slice (D .ph).A n (D .ph).c] w2.heap.size rfl)
  have HF := Lib.hid (hf.later ((Below.refl w2.heap.size w2).alloc (Nat.le_refl _) (.cells #[.slice (D .oh).A n (D .oh).c, .slice (D .ph).A n (D .ph).c] 32)))
  have HT := Lib.hid ht
  have HY := Lib.hid hty
  have B2 := Lib.hid (b2.alloc b2.size (.cells #[.slice (D .oh).A n (D .oh).c, .slice (D .ph).A n (D .ph).c] 32))
  clear hf ht hty b2
  go_wp2_with fail
  generalize w2.alloc (.cells #[.slice (D .oh).A n (D .oh).c, .slice (D .ph).A n (D .ph).c] 32) = w3 at *
  generalize hq : w2.heap.size = q at *
  clear hq
  go_loopw [35] (fun i wr => ∃ (k : Nat) (D : Pc → Pie), k ≤ n ∧ i = .int .i64 k ∧ Fam wr w1.heap.size D ∧ Tab D (shO came own k) (shP came P k) ∧ Ty D ∧ (∀ (p : Pc) (k : Nat), blk (D p).A = some k → k < q) ∧ Holds wr q 32 #[.slice (D .oh).A n (D .oh).c, .slice (D .ph).A n (D .ph).c] ∧ Below w1.heap.size w1 wr) (fun i _ => (n - intOf i).toNat)
  case atStart => exact ⟨0, D, by omega, rfl, HF.out, HT.out, HY.out, LB.out, HX.out, B2.out⟩
  case round =>
    clear HF HT HY LB HX B2
    obtain ⟨k, D, hk, rfl, hf, ht, hty, hlb, hx, hb⟩ := hrel
    have HF := Lib.hid hf
    have HT := Lib.hid ht
    have HY := Lib.hid hty
    have LB := Lib.hid hlb
    have HX := Lib.hid hx
    have B2 := Lib.hid hb
    have BW := Lib.hid (HB.out.trans (hb.mono (by rw [← HG.out]; exact HB.out.size)))
    clear hf ht hty hlb hx hb
    by_cases hkn : k < n
    · have QH := Lib.hid (setHas_any A3 n3 c3 came (k : Int) wr HL3.out h3 (HA.out.later BW.out (by rw [HG.out]; exact Nat.le_refl _)))
      have p0 : wr.cell? ⟨q, 0, none⟩ = some (.slice (D .oh).A n (D .oh).c) := HX.out.cell 0
      have p1 : wr.cell? ⟨q, 1, none⟩ = some (.slice (D .ph).A n (D .ph).c) := HX.out.cell 1
      obtain ⟨ro, hro, hco, _, _⟩ := HF.out.cell .oh k (D (.ow k)).v (by have h2 := HT.out.oh; rw [shO_length, HL.out] at h2; rw [h2.2]; simp [hkn])
      go_wp2_with fail
      with_reducible refine QH.out.mono ?_
      clear QH
      rintro e w4 ⟨rfl, rfl⟩
      have OW := Lib.hid (show Own wr w1.heap.size 61 1 (D (.ow k)).A (D (.ow k)).n (D (.ow k)).c (D (.ow k)).xs from by
        have h := HF.out.own (.ow k)
        rw [HY.out (.ow k)] at h
        exact h)
      have zv : ∀ w, (zeroValue 61).run Tryd.prog w = .ok (.int .u32 0) w := fun w => by
        obtain ⟨i, h1, h2, _⟩ := elt_u32.hi
        simp [zeroValue, typeInfo, h1, h2]
      obtain ⟨hx, hhx⟩ : ∃ b, SetM.has came (k : Int) = b := ⟨_, rfl⟩
      have HHX := Lib.hid hhx
      rw [hhx]
      clear hhx
      unfold Pie.v at hco
      go_upto_if 41 with fail
      go_cut [] from 36 to 65 (fun wx => ∃ (D : Pc → Pie), Fam wx w1.heap.size D ∧ Tab D (shO came own (k + 1)) (shP came P k) ∧ Ty D ∧ (∀ (p : Pc) (k : Nat), blk (D p).A = some k → k < q) ∧ Holds wx q 32 #[.slice (D .oh).A n (D .oh).c, .slice (D .ph).A n (D .ph).c] ∧ Below w1.heap.size w1 wx)
      case first =>
        have ltq : q < w1.heap.size ∨ w1.heap.size ≤ q := by omega
        cases hx with
        | false =>
          obtain ⟨w5, hclr, hw5⟩ := run_clearO (P := Tryd.prog) (t := 54) 0 (by kernel_rfl) zv rfl rfl OW.out
          go_wp2_with fail
          go_meet
          have e1 : shO came own (k + 1) = (shO came own k).set k (clr ((shO came own k).getD k [])) := by
            conv => lhs; unfold shO
            rw [HHX.out]; rfl
          refine ⟨_, HF.out.cleared (.ow k) _ hw5, ?_, HY.out.upd _ _ (HY.out (.ow k)), fun p j h => ?_, ?_, Below.cleared B2.out (Nat.le_refl _) hw5⟩
          · rw [e1]
            exact HT.out.clearOw (by rw [shO_length, HL.out]; exact hkn)
          · have h2 := LB.out p j
            by_cases e : p = .ow k
            · subst e; rw [upd_same] at h; exact LB.out (.ow k) j h
            · rw [upd_other _ e] at h; exact h2 h
          · rw [upd_other _ (by simp), upd_other _ (by simp)]
            rcases hw5 with ⟨_, rfl⟩ | ⟨g5, h5, _, rfl⟩
            · exact HX.out
            · have h6 := LB.out (.ow k) g5 (by rw [h5]; rfl)
              exact Holds.setCells (by omega) _ _ HX.out
        | true =>
          go_wp2_with fail
          go_meet
          have e1 : shO came own (k + 1) = shO came own k := by
            conv => lhs; unfold shO
            rw [HHX.out]; rfl
          exact ⟨D, HF.out, by rw [e1]; exact HT.out, HY.out, LB.out, HX.out, B2.out⟩
      case rest =>
        clear HF HT HY LB HX B2 BW hro hco OW p0 p1
        obtain ⟨D, hf, ht, hty, hlb, hxq, hb⟩ := hcut
        have HF := Lib.hid hf
        have HT := Lib.hid ht
        have HY := Lib.hid hty
        have LB := Lib.hid hlb
        have HX := Lib.hid hxq
        have B2 := Lib.hid hb
        have PL := Lib.hid (HPL.out k hkn)
        clear hf ht hty hlb hxq hb
        go_wp2_with fail
        go_loopw [13] (fun i wq => ∃ (m : Nat) (D : Pc → Pie), k + 1 + m ≤ n ∧ i = .int .i64 ((k + 1 + m : Nat) : Int) ∧ Fam wq w1.heap.size D ∧ Tab D (shO came own (k + 1)) ((shP came P k).set k (shR came k (P.getD k []) m)) ∧ Ty D ∧ (∀ (p : Pc) (k : Nat), blk (D p).A = some k → k < q) ∧ Holds wq q 32 #[.slice (D .oh).A n (D .oh).c, .slice (D .ph).A n (D .ph).c] ∧ Below w1.heap.size w1 wq) (fun i _ => (n - intOf i).toNat)
        case atStart => exact ⟨0, D, by omega, by simp, HF.out, by rw [shP_start]; exact HT.out, HY.out, LB.out, HX.out, B2.out⟩
        case round =>
          clear HF HT HY LB HX B2
          obtain ⟨m, D, hm, rfl, hf, ht, hty, hlb, hxq, hb⟩ := hrel
          have HF := Lib.hid hf
          have HT := Lib.hid ht
          have HY := Lib.hid hty
          have LB := Lib.hid hlb
          have HX := Lib.hid hxq
          have B2 := Lib.hid hb
          have BW := Lib.hid (HB.out.trans (hb.mono (by rw [← HG.out]; exact HB.out.size)))
          clear hf ht hty hlb hxq hb
          by_cases hmn : k + 1 + m < n
          · obtain ⟨J, hJ⟩ : ∃ J, k + 1 + m = J := ⟨_, rfl⟩
            have Q1 := Lib.hid (setHas_any A3 n3 c3 came (k : Int) wr HL3.out h3 (HA.out.later BW.out (by rw [HG.out]; exact Nat.le_refl _)))
            have Q2 := Lib.hid (setHas_any A3 n3 c3 came (J : Int) wr HL3.out h3 (HA.out.later BW.out (by rw [HG.out]; exact Nat.le_refl _)))
            rw [hJ]
            have JJ := Lib.hid hJ
            have hJn : (J : Int) < n := by omega
            have p0 : wr.cell? ⟨q, 0, none⟩ = some (.slice (D .oh).A n (D .oh).c) := HX.out.cell 0
            have p1 : wr.cell? ⟨q, 1, none⟩ = some (.slice (D .ph).A n (D .ph).c) := HX.out.cell 1
            clear hJ
            go_wp2_with fail
            with_reducible refine Q1.out.mono ?_
            clear Q1
            rintro e w4 ⟨rfl, rfl⟩
            go_wp2_with fail
            with_reducible refine Q2.out.mono ?_
            clear Q2
            rintro e w4 ⟨rfl, rfl⟩
            rw [HHX.out]
            obtain ⟨hy, hhy⟩ : ∃ b, SetM.has came (J : Int) = b := ⟨_, rfl⟩
            have HHY := Lib.hid hhy
            rw [hhy]
            clear hhy
            have HJ2 := Lib.hid (show ((J : Nat) : Int) = ((k + m + 1 : Nat) : Int) from by have := JJ.out; omega)
            by_cases hxy : hx = hy
            · subst hxy
              have hP1 : ((shP came P k).set k (shR came k (P.getD k []) m)).getD k [] = shR came k (P.getD k []) m := by
                rw [List.getD_eq_getElem?_getD, List.getElem?_set_self (by rw [shP_length, HL2.out]; exact hkn)]; rfl
              have hP2 : ((shP came P k).set k (shR came k (P.getD k []) m)).length = n := by rw [List.length_set, shP_length, HL2.out]
              have hP3 : (shR came k (P.getD k []) m).length = n - 1 - k := by rw [shR_length, PL.out]
              obtain ⟨r1, hr1, hc1, hlt1, _⟩ := HF.out.cell .ph k (D (.hh k)).v (by have h2 := HT.out.ph; rw [hP2] at h2; rw [h2.2]; simp [hkn])
              have hhk := HT.out.hh k (by rw [hP2]; exact hkn)
              rw [hP1, hP3] at hhk
              obtain ⟨r2, hr2, hc2, hlt2, _⟩ := HF.out.cell (.hh k) m (D (.pr k m)).v (by rw [hhk.2, List.getElem?_map, List.getElem?_range (by omega)]; rfl)
              unfold Pie.v at hc1 hc2
              rw [hhk.1, hr2] at hc1
              have OW := Lib.hid (show Own wr w1.heap.size 61 1 (D (.pr k m)).A (D (.pr k m)).n (D (.pr k m)).c (D (.pr k m)).xs from by
                have h := HF.out.own (.pr k m)
                rw [HY.out (.pr k m)] at h
                exact h)
              have QP := Lib.hid (pair_cell (D .oh).A n (D .oh).c r1 0 n (D .ph).c r2 0 (n - 1 - k) (D (.hh k)).c (D (.pr k m)).A (D (.pr k m)).n (D (.pr k m)).c k J m wr (by have := JJ.out; omega) hkn (by omega) (by omega) (by omega) (by omega) (by rw [Nat.zero_add]; exact hc1) (by rw [Nat.zero_add]; exact hc2) hlt1 hlt2)
              rw [← hr1] at QP
              have HCP := Lib.hid (show Tab _ _ _ from HT.out.clearPr (i := k) (j := m) (by rw [hP2]; exact hkn) (by rw [hP1, hP3]; omega))
              have HPS := Lib.hid (shP_yes came P k m (by rw [HL2.out]; exact hkn) (by rw [HHX.out, ← HJ2.out, HHY.out]))
              rw [HPS.out] at HCP
              clear hP1 hP2 hP3 hr1 hc1 hlt1 hhk hr2 hc2 hlt2 HPS
              go_wp2_with fail
              with_reducible refine QP.out.mono ?_
              clear QP
              rintro e w4 ⟨rfl, hb4⟩
              have B4 := Lib.hid hb4
              clear hb4
              obtain ⟨w5, hclr, hw5⟩ := run_clearO (P := Tryd.prog) (t := 54) 0 (by kernel_rfl) zv rfl rfl (OW.out.below B4.out (Nat.le_refl _))
              go_wp2_with fail
              refine ⟨⟨m + 1, _, by have := JJ.out; omega, by have := JJ.out; simp; omega, (HF.out.later B4.out).cleared (.pr k m) _ hw5, HCP.out, HY.out.upd _ _ (HY.out (.pr k m)), fun p j h => ?_, ?_, Below.cleared (B2.out.trans (B4.out.mono B2.out.size)) (Nat.le_refl _) hw5⟩, by simp [intOf]; omega⟩
              · have h2 := LB.out p j
                by_cases e : p = .pr k m
                · subst e; rw [upd_same] at h; exact LB.out (.pr k m) j h
                · rw [upd_other _ e] at h; exact h2 h
              · rw [upd_other _ (by simp), upd_other _ (by simp)]
                have h6 := HX.out.later B4.out (Nat.le_refl _)
                rcases hw5 with ⟨_, rfl⟩ | ⟨g5, h5, _, rfl⟩
                · exact h6
                · have h7 := LB.out (.pr k m) g5 (by rw [h5]; rfl)
                  exact Holds.setCells (by omega) _ _ h6
            · have hxy2 : (hx == hy) = false := by simp [hxy]
              have HN := Lib.hid (shR_no came (P.getD k []) k m (by rw [HHX.out, ← HJ2.out, HHY.out]; exact hxy))
              go_wp2_with fail
              refine ⟨⟨m + 1, D, by have := JJ.out; omega, by have := JJ.out; simp; omega, HF.out, by rw [HN.out]; exact HT.out, HY.out, LB.out, HX.out, B2.out⟩, by simp [intOf]; omega⟩
          · have HE := Lib.hid (show m = (P.getD k []).length from by rw [PL.out]; omega)
            go_wp2_with fail
            have HT2 := HT.out
            rw [HE.out, shP_end] at HT2
            refine ⟨⟨k + 1, D, by omega, by simp, HF.out, HT2, HY.out, LB.out, HX.out, B2.out⟩, by simp [intOf]; omega⟩
    · obtain rfl : n = k := by omega
      have p0 : wr.cell? ⟨q, 0, none⟩ = some (.slice (D .oh).A n (D .oh).c) := HX.out.cell 0
      have p1 : wr.cell? ⟨q, 1, none⟩ = some (.slice (D .ph).A n (D .ph).c) := HX.out.cell 1
      have SZ := Lib.hid (show g + 1 < w1.heap.size from by have := BS.out; have h2 := HG.out; simp at this; omega)
      have W2 := Lib.hid (H2.out.below B2.out SZ.out)
      have r0 : wr.cell? ⟨g + 1, 0, none⟩ = some (.slice none 0 0) := W2.out.cell 0
      have r1 : wr.cell? ⟨g + 1, 1, none⟩ = some (.slice none 0 0) := W2.out.cell 1
      have z0 := W2.out.frozen 0
      have z1 := W2.out.frozen 1
      go_wp2_with fail
      have V1 := (W2.out.set 0 (.slice (D .oh).A n (D .oh).c)).set 1 (.slice (D .ph).A n (D .ph).c)
      refine bodyPost_ret (v := .tuple #[.agg #[.slice (D .oh).A n (D .oh).c, .slice (D .ph).A n (D .ph).c], .nilIface]) (results_cell_two Tryd.results12 _ _ (g + 1) 32 #[.slice (D .oh).A n (D .oh).c, .slice (D .ph).A n (D .ph).c] _ _ _ rfl rfl V1 tb_under rfl tb_size) rfl ⟨D, by rw [shO_length, shP_length, HL.out, HL2.out], ?_, HT.out, HY.out, ?_⟩
      · have h1 := (HF.out.low (g := g + 1) SZ.out 0 (.slice (D .oh).A n (D .oh).c)).low (g := g + 1) SZ.out 1 (.slice (D .ph).A n (D .ph).c)
        exact ⟨fun p => ownsRow_le_ (h1.own p) (by rw [HG.out]; have := SZ.out; omega), h1.dist⟩
      · rw [HG.out]
        exact ((HB.out.trans (B2.out.mono (by have := SZ.out; omega))).setCell (p := ⟨g + 1, 0, none⟩) (by show g ≤ g + 1; omega) _).setCell (p := ⟨g + 1, 1, none⟩) (by show g ≤ g + 1; omega) _
end
end Go.Proofs.YtmdilfgeogedpaaDoor
