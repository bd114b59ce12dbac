/- Layer 37: copied of package ideal. -/
import Derived.Test.YtmdilfgeogedpaaDoorIdH
import Derived.Laws.Rows
namespace Go.Proofs.YtmdilfgeogedpaaDoor
open Go.RowKit
/-- nothing yet -/
def D0 : Pc → Pie := fun p => match p with
  | .oh => ⟨54, none, 0, 0, []⟩
  | .ow _ => ⟨61, none, 0, 0, []⟩
  | .ph => ⟨22, none, 0, 0, []⟩
  | .hh _ => ⟨54, none, 0, 0, []⟩
  | .pr _ _ => ⟨61, none, 0, 0, []⟩
def Ty (D : Pc → Pie) : Prop := ∀ p, (D p).e = (D0 p).e
theorem Ty.upd {D : Pc → Pie} (h : Ty D) (p : Pc) (x : Pie) (hx : x.e = (D0 p).e) : Ty (upd D p x) := fun q => by
  by_cases e : q = p
  · subst e; rw [upd_same]; exact hx
  · rw [upd_other x e]; exact h q
theorem Tab.start : Tab D0 [] [] := ⟨⟨rfl, rfl⟩, fun i h => by simp at h, ⟨rfl, rfl⟩, fun i h => by simp at h, fun i j h => by simp at h⟩
theorem Fam.start (w : World) (B : Nat) : Fam w B D0 := ⟨fun p => by cases p <;> exact Own.none_ _ _ _ _, fun p q _ => .inl (by cases p <;> rfl)⟩
/-- a table of the call's own -/
def TabC (w : World) (own : List (List Nat)) (P : List (List (List Nat))) (e : Ending) (w' : World) : Prop :=
  ∃ D : Pc → Pie, e = .returned (.agg #[.slice (D .oh).A own.length (D .oh).c, .slice (D .ph).A P.length (D .ph).c]) ∧ Fam w' w.heap.size D ∧ Tab D own P ∧ Ty D ∧ Below w.heap.size w w'
theorem Fam.low {ι : Type} {w : World} {B : Nat} {D : ι → Pie} (h : Fam w B D) {g : Nat} (hg : g < B) (i : Nat) (u : Value) : Fam (w.setCell ⟨g, i, none⟩ u) B D := ⟨fun p => (h.own p).set_else (by
  cases hA : blk (D p).A with
  | none => exact .inl rfl
  | some k => exact .inr (fun e => by cases e; have := ((h.own p).lt _ hA).1; omega)) i u, h.dist⟩
theorem Tab.skip {D : Pc → Pie} {own : List (List Nat)} {P : List (List (List Nat))} {i : Nat} (h : Tab D own P) (hi : P.length ≤ i) (e : TypeId) : Tab (upd D (.hh i) ⟨e, none, 0, 0, []⟩) own P ∧ Row3 (upd D (.hh i) ⟨e, none, 0, 0, []⟩) i [] := by
  obtain ⟨a, b, cc, d, e⟩ := h
  refine ⟨⟨by simpa [upd] using a, by simpa [upd] using b, ⟨by simpa [upd] using cc.1, ?_⟩, fun q hq => ?_, by simpa [upd] using e⟩, ⟨by simp [upd], fun j hj => by simp at hj⟩⟩
  · rw [upd_other _ (by simp), cc.2]
    exact List.map_congr_left fun q hq => by
      have hq := List.mem_range.1 hq
      have : q ≠ i := by omega
      simp [upd, this]
  · have : q ≠ i := by omega
    simpa [upd, this] using d q hq
theorem Rows3.getw {w w' : World} {A : Option Addr} {vs : List Value} {l : List (List (List Nat))} (h : Rows3 w .u32 A vs l) (i : Nat) (hi : i < l.length) (hb : Below w.heap.size w w') :
    ∃ b o A1 c1 ws, A = some ⟨b, o, none⟩ ∧ w'.cell? ⟨b, o + i, none⟩ = some (.slice A1 (l.getD i []).length c1) ∧ Rows_ w .u32 A1 ws (l.getD i []) := by
  obtain ⟨b, o, A1, c1, ws, e, h1, h2, _⟩ := h.get i hi
  refine ⟨b, o, A1, c1, ws, e, ?_, h2⟩
  have hv : i < vs.length := by rw [h.len]; exact hi
  obtain ⟨b', o', e', h3⟩ := h.at_ i _ (List.getElem?_eq_getElem hv)
  obtain ⟨b'', o'', e'', h4⟩ := (h.at_.later hb (Nat.le_refl _)) i _ (List.getElem?_eq_getElem hv)
  rw [e] at e' e''
  cases e'; cases e''
  rw [h4, ← h1, h3]
set_option maxRecDepth 100000 in
theorem tb_size : (Tryd.prog.info? 32).map (·.size) = some (2 : Nat) := by kernel_rfl
theorem tb_under : Tryd.prog.underlying 32 = some (match Tryd.prog.underlying 32 with | some d => d | none => default) := by kernel_rfl
set_option maxRecDepth 100000 in
theorem elt_sl3 : Elt Tryd.prog 23 22 (.slice none 0 0) 1 24 where
  ht := by kernel_rfl
  hi := ⟨_, rfl, by kernel_rfl, by kernel_rfl, by kernel_rfl⟩
  hzs := rfl
  hsz := by decide
section
variable (A : Option Addr) (n c : Nat) (vs : List Value) (own : List (List Nat)) (A2 : Option Addr) (n2 c2 : Nat) (vs2 : List Value) (P : List (List (List Nat)))
set_option maxRecDepth 100000 in
set_option maxHeartbeats 2000000 in
theorem copied_any (w : World) (hl : own.length = n) (hn : n ≤ 64) (hr : Rows_ w .u32 A vs own) (hl2 : P.length = n2) (hn2 : n2 ≤ 64) (hr2 : Rows3 w .u32 A2 vs2 P) (hd : ∀ i, i < n → (own.getD i []).length ≤ 32) (hp : ∀ i, i < n2 → (P.getD i []).length ≤ 64) (hpd : ∀ i j, i < n2 → j < (P.getD i []).length → ((P.getD i []).getD j []).length ≤ 32) :
    Calls Tryd.prog 31 #[.agg #[.slice A n c, .slice A2 n2 c2]] w (TabC w own P) := by
  have HR := Lib.hid hr
  have HR2 := Lib.hid hr2
  have HL := Lib.hid hl
  have HL2 := Lib.hid hl2
  have HD := Lib.hid hd
  have HP := Lib.hid hp
  have HPD := Lib.hid hpd
  clear hr hr2 hl hl2 hd hp hpd
  have HB3 := Lib.hid ((((Below.refl w.heap.size w).alloc (Nat.le_refl _) (.cells #[.slice A n c, .slice A2 n2 c2] 32)).alloc (by simp) (.cells #[.slice none 0 0, .slice none 0 0] 32)).alloc (by simp; omega) (.cells #[.slice none 0 0, .slice none 0 0] 32))
  have H1 := Lib.hid (((Holds.new w 32 #[.slice A n c, .slice A2 n2 c2] w.heap.size rfl).alloc (.cells #[.slice none 0 0, .slice none 0 0] 32)).alloc (.cells #[.slice none 0 0, .slice none 0 0] 32))
  have H2 := Lib.hid ((Holds.new (w.alloc (.cells #[.slice A n c, .slice A2 n2 c2] 32)) 32 #[.slice none 0 0, .slice none 0 0] (w.heap.size + 1) (by simp)).alloc (.cells #[.slice none 0 0, .slice none 0 0] 32))
  have H3 := Lib.hid (Holds.new ((w.alloc (.cells #[.slice A n c, .slice A2 n2 c2] 32)).alloc (.cells #[.slice none 0 0, .slice none 0 0] 32)) 32 #[.slice none 0 0, .slice none 0 0] (w.heap.size + 1 + 1) (by simp))
  have Z3 := Lib.hid (show (((w.alloc (.cells #[.slice A n c, .slice A2 n2 c2] 32)).alloc (.cells #[.slice none 0 0, .slice none 0 0] 32)).alloc (.cells #[.slice none 0 0, .slice none 0 0] 32)).heap.size = w.heap.size + 1 + 1 + 1 by simp)
  go_enter Tryd.func31, Tryd.ntmps31
  go_wp2_with fail
  generalize (((w.alloc (.cells #[.slice A n c, .slice A2 n2 c2] 32)).alloc (.cells #[.slice none 0 0, .slice none 0 0] 32)).alloc (.cells #[.slice none 0 0, .slice none 0 0] 32)) = w3 at *
  generalize hg : w.heap.size = g at *
  have HG := Lib.hid hg
  clear hg
  go_loopw [15] (fun i wr => ∃ (k : Nat) (D : Pc → Pie), k ≤ n ∧ i = .int .i64 k ∧ Fam wr (g + 1 + 1 + 1) D ∧ Tab D (own.take k) [] ∧ Ty D ∧ Holds wr (g + 1 + 1) 32 #[.slice (D .oh).A k (D .oh).c, .slice (D .ph).A 0 (D .ph).c] ∧ Below (g + 1 + 1) w3 wr) (fun i _ => (n - intOf i).toNat)
  case atStart => exact ⟨0, D0, by omega, rfl, Fam.start _ _, Tab.start, fun _ => rfl, H3.out, Below.refl _ _⟩
  case round =>
    obtain ⟨k, D, hk, rfl, hf, ht, hty, hh, hb⟩ := hrel
    have HF := Lib.hid hf
    have HT := Lib.hid ht
    have HY := Lib.hid hty
    have HH := Lib.hid hh
    have HB := Lib.hid hb
    clear hf ht hty hh hb
    by_cases hkn : k < n
    · have BW := Lib.hid (HB3.out.trans (HB.out.mono (show g ≤ g + 1 + 1 by omega)))
      have SZ := Lib.hid (show g + 1 + 1 + 1 ≤ wr.heap.size by have := HB.out.size; have := Z3.out; omega)
      have d8 := HD.out k hkn
      obtain ⟨b3, o3, Ax, cx, hA3, hcx, hax, hnx, _, _, _⟩ := HR.out.getw (w' := wr) k (by rw [HL.out]; exact hkn) (by rw [HG.out]; exact BW.out)
      have HX := Lib.hid (hax.later (B := w.heap.size) (w' := wr) (by rw [HG.out]; exact BW.out) (Nat.le_refl _))
      obtain ⟨L, hL⟩ : ∃ L, (own.getD k []).length = L := ⟨_, rfl⟩
      rw [hL] at hcx hnx d8
      have HLn := Lib.hid hL
      have NX := Lib.hid hnx
      subst hA3
      clear hL hax hnx
      have OW := Lib.hid (show Own wr (g + 1 + 1 + 1) 54 1 (D .oh).A k (D .oh).c (D .oh).xs from by
        have h := HF.out.own .oh
        rw [HY.out .oh, HT.out.oh.1, List.length_take, HL.out, Nat.min_eq_left (Nat.le_of_lt hkn)] at h
        exact h)
      have FAR := Lib.hid (show blk (D .oh).A ≠ some (g + 1 + 1) from fun e => by have := (OW.out.lt _ e).1; omega)
      have p0 : wr.cell? ⟨g + 1 + 1, 0, none⟩ = some (.slice (D .oh).A k (D .oh).c) := HH.out.cell 0
      have ltg : g + 1 + 1 < wr.heap.size := HH.out.lt
      go_wp2_with fail
      go_region_law (first
        | ((refine step_app rfl elt_sl32 (g + 1 + 1 + 1) (.tmp 20) (.tmp 23) rfl _ rfl ((OW.out.below ((Below.refl _ _).drew.trans B2.out) (Nat.le_refl _)).alloc _) [.slice A4 L c4] rfl (At.lit _ _ _ _ _ rfl) rfl (by intro u hu; simp at hu; subst hu; rfl) (by unfold maxLen; omega) (by omega) (by have h1 := B2.out.size; have h2 := SZ.out; simp at h1 ⊢; omega) ?_); intro A5 c5 w5 own5 g5 hA5; have H5 := ((HH.out.later ((Below.refl _ _).drew.trans B2.out) (Nat.le_refl _)).alloc _).grown g5 FAR.out; have z1 : w5.cell? ⟨g + 1 + 1, 0, none⟩ = some (.slice (D .oh).A k (D .oh).c) := H5.cell 0; have z2 := H5.frozen 0; have HH5 := Lib.hid H5; have O5 := Lib.hid own5; have G5 := Lib.hid g5; have K5 := Lib.hid hA5; clear H5 own5 g5 hA5)
        | (go_simp; go_at_call 43; refine (clone_own Ax L cx (own.getD k []) _ HLn.out (by omega) (HX.out.later (Below.refl _ _).drew (Nat.le_refl _)) NX.out).mono ?_; rintro e w2 ⟨A4, c4, rfl, ho4, hB2⟩; have p2 := (hB2.cell (p := ⟨g + 1 + 1, 0, none⟩) ltg).trans p0; have hs2 : wr.heap.size ≤ w2.heap.size := hB2.size; have ltg2 : g + 1 + 1 < w2.heap.size := Nat.lt_of_lt_of_le ltg hs2; have O4 := Lib.hid ho4; have B2 := Lib.hid hB2; clear ho4 hB2))
      all_goals
        go_wp2_with fail
        have F1 := HF.out.add (w' := w2) (.ow k) (x := ⟨61, A4, L, c4, nats .u32 (own.getD k [])⟩) O4.out ((Below.refl wr.heap.size wr).drew.trans B2.out) SZ.out
        have F2 := F1.later ((Below.refl w2.heap.size w2).alloc (Nat.le_refl _) (.cells #[.slice A4 L c4] 54))
        have F3 := F2.grow .oh (x := ⟨54, A5, k + 1, c5, (D .oh).xs ++ [.slice A4 L c4]⟩) O5.out (by rw [upd_other _ (by simp)]; exact G5.out) (by rw [upd_other _ (by simp)]; exact K5.out)
        have F4 := F3.low (g := g + 1 + 1) (by omega) 0 (.slice A5 (k + 1) c5)
        have T1 := HT.out.own1 (by rw [HL.out]; exact hkn) A4 c4 61 A5 c5 54
        rw [HLn.out] at T1
        have s2 : wr.heap.size ≤ w2.heap.size := B2.out.size
        have s3 := SZ.out
        refine ⟨⟨k + 1, _, by omega, rfl, F4, T1, ?_, ?_, ?_⟩, by simp [intOf]; omega⟩
        · refine (HY.out.upd (.ow k) _ ?_).upd .oh _ ?_ <;> rfl
        · exact HH5.out.set 0 (.slice A5 (k + 1) c5)
        · exact (((HB.out.trans (((Below.refl wr.heap.size wr).drew.trans B2.out).mono (by omega))).alloc (by omega) (.cells #[.slice A4 L c4] 54)).grown G5.out (by simp; omega) (fun q hq => by have := (OW.out.lt q hq).1; omega)).setCell (Nat.le_refl _) _
    · obtain rfl : n = k := by omega
      have TO := Lib.hid (show Tab D own [] from by
        have h := HT.out
        rw [List.take_of_length_le (by rw [HL.out]; exact Nat.le_refl _)] at h
        exact h)
      clear HT
      have Z4 := Lib.hid (show g + 1 + 1 + 1 ≤ wr.heap.size by have := HB.out.size; have := Z3.out; omega)
      have W1 := Lib.hid (H1.out.below HB.out (by omega))
      have W2 := Lib.hid (H2.out.below HB.out (by omega))
      have q1 : wr.cell? ⟨g, 1, none⟩ = some (.slice A2 n2 c2) := W1.out.cell 1
      go_wp2_with fail
      have HR2b := Lib.hid (show Rows3 wr .u32 A2 vs2 P from HR2.out.later (by rw [HG.out]; exact HB3.out.trans (HB.out.mono (by omega))) (Nat.le_refl _))
      go_loopw [30] (fun i wq => ∃ (k : Nat) (D : Pc → Pie), k ≤ n2 ∧ i = .int .i64 k ∧ Fam wq (g + 1 + 1 + 1) D ∧ Tab D own (P.take k) ∧ Ty D ∧ Holds wq (g + 1 + 1) 32 #[.slice (D .oh).A n (D .oh).c, .slice (D .ph).A k (D .ph).c] ∧ Below (g + 1 + 1) w3 wq) (fun i _ => (n2 - intOf i).toNat)
      case atStart => exact ⟨0, D, by omega, rfl, HF.out, TO.out, HY.out, HH.out, HB.out⟩
      case round =>
        clear HF TO HY HH W1 W2 q1 Z4 HR2b
        have HBr := HB
        clear HB
        obtain ⟨k, D, hk, rfl, hf, ht, hty, hh, hb⟩ := hrel
        have HF := Lib.hid hf
        have HT := Lib.hid ht
        have HY := Lib.hid hty
        have HH := Lib.hid hh
        have HB := Lib.hid hb
        clear hf ht hty hh hb
        by_cases hkn : k < n2
        · have BW := Lib.hid (HB3.out.trans (HB.out.mono (show g ≤ g + 1 + 1 by omega)))
          have hp8 := HP.out k hkn
          obtain ⟨b4, o4, Ah, ch, ws, hA4, hch, hrh⟩ := HR2.out.getw (w' := wr) k (by rw [HL2.out]; exact hkn) (by rw [HG.out]; exact BW.out)
          obtain ⟨L2, hL2⟩ : ∃ L2, (P.getD k []).length = L2 := ⟨_, rfl⟩
          rw [hL2] at hch hp8
          have HLk := Lib.hid hL2
          have RH := Lib.hid hrh
          subst hA4
          clear hL2 hrh
          go_wp2_with fail
          have SZ := Lib.hid (show g + 1 + 1 + 1 ≤ wr.heap.size by have := HB.out.size; have := Z3.out; omega)
          have LT := Lib.hid (show (P.take k).length = k by simp; have := HL2.out; omega)
          go_loopw [8, 36] (fun l j wq => ∃ (m : Nat) (D : Pc → Pie), m ≤ L2 ∧ j = .int .i64 m ∧ l = .slice (D (.hh k)).A m (D (.hh k)).c ∧ Fam wq (g + 1 + 1 + 1) D ∧ Tab D own (P.take k) ∧ Row3 D k ((P.getD k []).take m) ∧ Ty D ∧ Holds wq (g + 1 + 1) 32 #[.slice (D .oh).A n (D .oh).c, .slice (D .ph).A k (D .ph).c] ∧ Below (g + 1 + 1) w3 wq) (fun _ j _ => (L2 - intOf j).toNat)
          case atStart =>
            have S := HT.out.skip (i := k) (by rw [LT.out]; exact Nat.le_refl _) 54
            refine ⟨0, upd D (.hh k) ⟨54, none, 0, 0, []⟩, by omega, rfl, ?_, HF.out.add (.hh k) (Own.none_ _ _ _ _) (Below.refl _ _) SZ.out, S.1, S.2, HY.out.upd (.hh k) _ rfl, HH.out, HB.out⟩
            rw [upd_same]
          case round =>
            clear HF HT HY HH HB BW SZ
            obtain ⟨m, D, hm, rfl, rfl, hf, ht, hr3, hty, hh, hb⟩ := hrel
            have HF := Lib.hid hf
            have HT := Lib.hid ht
            have H3r := Lib.hid hr3
            have HY := Lib.hid hty
            have HH := Lib.hid hh
            have HB := Lib.hid hb
            have BW := Lib.hid (HB3.out.trans (hb.mono (show g ≤ g + 1 + 1 by omega)))
            have SZ := Lib.hid (show g + 1 + 1 + 1 ≤ wr.heap.size by have := hb.size; have := Z3.out; omega)
            clear hf ht hr3 hty hh hb
            by_cases hmn : m < L2
            · have d8 := HPD.out k m hkn (by rw [HLk.out]; exact hmn)
              obtain ⟨b3, o3, Ax, cx, hA3, hcx, hax, hnx, _, _, _⟩ := RH.out.getw (w' := wr) m (by rw [HLk.out]; exact hmn) (by rw [HG.out]; exact BW.out)
              have HX := Lib.hid (hax.later (B := w.heap.size) (w' := wr) (by rw [HG.out]; exact BW.out) (Nat.le_refl _))
              obtain ⟨L, hL⟩ : ∃ L, ((P.getD k []).getD m []).length = L := ⟨_, rfl⟩
              rw [hL] at hcx hnx d8
              have HLn := Lib.hid hL
              have QC := Lib.hid (clone_own Ax L cx ((P.getD k []).getD m []) wr hL (by omega) HX.out hnx)
              subst hA3
              clear hL hax hnx
              have OW := Lib.hid (show Own wr (g + 1 + 1 + 1) 54 1 (D (.hh k)).A m (D (.hh k)).c (D (.hh k)).xs from by
                have h := HF.out.own (.hh k)
                rw [HY.out (.hh k), H3r.out.hd.1, List.length_take, HLk.out, Nat.min_eq_left (Nat.le_of_lt hmn)] at h
                exact h)
              have FAR := Lib.hid (show blk (D (.hh k)).A ≠ some (g + 1 + 1) from fun e => by have := (OW.out.lt _ e).1; omega)
              go_wp2_with fail
              with_reducible refine QC.out.mono ?_
              clear QC
              rintro e w2 ⟨A4, c4, rfl, ho4, hB2⟩
              have O4 := Lib.hid ho4
              have B2 := Lib.hid hB2
              clear ho4 hB2
              have s2 := Lib.hid B2.out.size
              go_wp2_with (at_builtin; refine wpList_app rfl elt_sl32 (g + 1 + 1 + 1) (.tmp 40) (.tmp 43) rfl _ rfl ((OW.out.below B2.out (Nat.le_refl _)).alloc _) [.slice A4 L c4] rfl (At.lit _ _ _ _ _ rfl) rfl (by intro u hu; simp at hu; subst hu; rfl) (by unfold maxLen; omega) (by omega) (by have h1 := s2.out; have h2 := SZ.out; simp; omega) ?_; intro A5 c5 w5 own5 g5 hA5; have H5 := Lib.hid (((HH.out.later B2.out (Nat.le_refl _)).alloc _).grown g5 FAR.out); have O5 := Lib.hid own5; have G5 := Lib.hid g5; have K5 := Lib.hid hA5; clear own5 g5 hA5)
              have F1 := HF.out.add (w' := w2) (.pr k m) (x := ⟨61, A4, L, c4, nats .u32 ((P.getD k []).getD m [])⟩) O4.out B2.out SZ.out
              have F2 := F1.later ((Below.refl w2.heap.size w2).alloc (Nat.le_refl _) (.cells #[.slice A4 L c4] 54))
              have F3 := F2.grow (.hh k) (x := ⟨54, A5, m + 1, c5, (D (.hh k)).xs ++ [.slice A4 L c4]⟩) O5.out (by rw [upd_other _ (by simp)]; exact G5.out) (by rw [upd_other _ (by simp)]; exact K5.out)
              have T1 := HT.out.row1 H3r.out (by rw [LT.out]; exact Nat.le_refl _) (by rw [HLk.out]; exact hmn) A4 c4 61 A5 c5 54
              rw [HLn.out] at T1
              have s3 := SZ.out
              have s4 := s2.out
              refine ⟨⟨m + 1, _, by omega, rfl, ?_, F3, T1.1, T1.2, ?_, H5.out, ?_⟩, by simp [intOf]; omega⟩
              · rw [upd_same]
              · refine (HY.out.upd (.pr k m) _ ?_).upd (.hh k) _ ?_ <;> rfl
              · exact ((HB.out.trans (B2.out.mono (by omega))).alloc (by omega) (.cells #[.slice A4 L c4] 54)).grown G5.out (by simp; omega) (fun q hq => by have := (OW.out.lt q hq).1; omega)
            · obtain rfl : L2 = m := by omega
              have RR := Lib.hid (show Row3 D k (P.getD k []) from by
                have h := H3r.out
                rw [List.take_of_length_le (by rw [HLk.out]; exact Nat.le_refl _)] at h
                exact h)
              have OP := Lib.hid (show Own wr (g + 1 + 1 + 1) 22 1 (D .ph).A k (D .ph).c (D .ph).xs from by
                have h := HF.out.own .ph
                rw [HY.out .ph, HT.out.ph.1, LT.out] at h
                exact h)
              have FAR := Lib.hid (show blk (D .ph).A ≠ some (g + 1 + 1) from fun e => by have := (OP.out.lt _ e).1; omega)
              have p1 : wr.cell? ⟨g + 1 + 1, 1, none⟩ = some (.slice (D .ph).A k (D .ph).c) := HH.out.cell 1
              go_wp2_with (at_builtin; refine wpList_app rfl elt_sl3 (g + 1 + 1 + 1) (.tmp 47) (.tmp 49) rfl _ rfl (OP.out.alloc _) [.slice (D (.hh k)).A L2 (D (.hh k)).c] rfl (At.lit _ _ _ _ _ rfl) rfl (by intro u hu; simp at hu; subst hu; rfl) (by unfold maxLen; omega) (by omega) (by have h2 := SZ.out; simp; omega) ?_; intro A5 c5 w5 own5 g5 hA5; have H5 := (HH.out.alloc _).grown g5 FAR.out; have z1 : w5.cell? ⟨g + 1 + 1, 1, none⟩ = some (.slice (D .ph).A k (D .ph).c) := H5.cell 1; have z2 := H5.frozen 1; have HH5 := Lib.hid H5; have O5 := Lib.hid own5; have G5 := Lib.hid g5; have K5 := Lib.hid hA5; clear H5 own5 g5 hA5)
              have F2 := HF.out.later ((Below.refl wr.heap.size wr).alloc (Nat.le_refl _) (.cells #[.slice (D (.hh k)).A L2 (D (.hh k)).c] 22))
              have F3 := F2.grow .ph (x := ⟨22, A5, k + 1, c5, (D .ph).xs ++ [.slice (D (.hh k)).A L2 (D (.hh k)).c]⟩) O5.out G5.out K5.out
              have F4 := F3.low (g := g + 1 + 1) (by omega) 1 (.slice A5 (k + 1) c5)
              have T1 := HT.out.pair1 RR.out (by rw [HL2.out]; exact hkn) A5 c5 22
              rw [HLk.out] at T1
              have s3 := SZ.out
              refine ⟨⟨k + 1, _, by omega, rfl, F4, T1, ?_, ?_, ?_⟩, by simp [intOf]; omega⟩
              · refine HY.out.upd .ph _ ?_
                rfl
              · exact HH5.out.set 1 (.slice A5 (k + 1) c5)
              · exact ((HB.out.alloc (by omega) (.cells #[.slice (D (.hh k)).A L2 (D (.hh k)).c] 22)).grown G5.out (by simp; omega) (fun q hq => by have := (OP.out.lt q hq).1; omega)).setCell (Nat.le_refl _) _
        · obtain rfl : n2 = k := by omega
          have TP := Lib.hid (show Tab D own P from by
            have h := HT.out
            rw [List.take_of_length_le (by rw [HL2.out]; exact Nat.le_refl _)] at h
            exact h)
          have W2 := Lib.hid (H2.out.below HB.out (show g + 1 < g + 1 + 1 by omega))
          have q0 : wr.cell? ⟨g + 1 + 1, 0, none⟩ = some (.slice (D .oh).A n (D .oh).c) := HH.out.cell 0
          have q1 : wr.cell? ⟨g + 1 + 1, 1, none⟩ = some (.slice (D .ph).A n2 (D .ph).c) := HH.out.cell 1
          have r0 : wr.cell? ⟨g + 1, 0, none⟩ = some (.slice none 0 0) := W2.out.cell 0
          have r1 : wr.cell? ⟨g + 1, 1, none⟩ = some (.slice none 0 0) := W2.out.cell 1
          have z0 := W2.out.frozen 0
          have z1 := W2.out.frozen 1
          go_wp2_with fail
          have V1 := (W2.out.set 0 (.slice (D .oh).A n (D .oh).c)).set 1 (.slice (D .ph).A n2 (D .ph).c)
          refine bodyPost_ret (v := .agg #[.slice (D .oh).A n (D .oh).c, .slice (D .ph).A n2 (D .ph).c]) (results_cell_row Tryd.results31 _ _ (g + 1) 32 #[.slice (D .oh).A n (D .oh).c, .slice (D .ph).A n2 (D .ph).c] _ _ rfl V1 tb_under rfl tb_size) rfl ⟨D, by rw [HL.out, HL2.out], ?_, TP.out, HY.out, ?_⟩
          · rw [HG.out]
            have h1 := (HF.out.low (g := g + 1) (by omega) 0 (.slice (D .oh).A n (D .oh).c)).low (g := g + 1) (by omega) 1 (.slice (D .ph).A n2 (D .ph).c)
            exact ⟨fun p => ownsRow_le_ (h1.own p) (by omega), h1.dist⟩
          · rw [HG.out]
            exact ((HB3.out.trans (HB.out.mono (by omega))).setCell (p := ⟨g + 1, 0, none⟩) (by show g ≤ g + 1; omega) _).setCell (p := ⟨g + 1, 1, none⟩) (by show g ≤ g + 1; omega) _
end
end Go.Proofs.YtmdilfgeogedpaaDoor
