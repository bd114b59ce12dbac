/- Layer 37: sum of package ideal. -/
import Derived.Test.YtmdilfgeogedpaaDoorIdE
namespace Go.Proofs.YtmdilfgeogedpaaDoor
open Go.RowKit
/-- the rows of those that came -/
def picked (came : List Int) (rows : List (List Nat)) : List (List Nat) := came.map fun i => rows.getD i.toNat []
theorem picked_length (came : List Int) (rows : List (List Nat)) : (picked came rows).length = came.length := by simp [picked]
theorem picked_take {came : List Int} {rows : List (List Nat)} {k : Nat} (h : k < came.length) : (picked came rows).take (k + 1) = (picked came rows).take k ++ [rows.getD (came.getD k 0).toNat []] := by
  unfold picked
  rw [← List.map_take, ← List.map_take, take_snocI h, List.map_append]
  rfl
theorem picked_mem {came : List Int} {rows : List (List Nat)} {r : List Nat} (h : ∀ i ∈ came, 0 ≤ i ∧ i < rows.length) (hr : r ∈ picked came rows) : r ∈ rows := by
  obtain ⟨i, hi, rfl⟩ := List.mem_map.1 hr
  have := h i hi
  rw [List.getD_eq_getElem?_getD, List.getElem?_eq_getElem (show i.toNat < rows.length by omega)]
  exact List.getElem_mem _
theorem came_get {came : List Int} {n k : Nat} (h : ∀ i ∈ came, 0 ≤ i ∧ i < n) (hk : k < came.length) : ∃ m : Nat, came.getD k 0 = m ∧ m < n := by
  rw [List.getD_eq_getElem?_getD, List.getElem?_eq_getElem hk]
  have := h _ (List.getElem_mem hk)
  exact ⟨(came[k]).toNat, by simp; omega, by omega⟩
theorem Rows_.getw {w w' : World} {A : Option Addr} {vs : List Value} {l : List (List Nat)} (h : Rows_ w .u32 A vs l) (i : Nat) (hi : i < l.length) (hb : Below w.heap.size w w') :
    ∃ b o A1 c1, A = some ⟨b, o, none⟩ ∧ w'.cell? ⟨b, o + i, none⟩ = some (.slice A1 (l.getD i []).length c1) ∧ At w A1 (nats .u32 (l.getD i [])) ∧ (A1 = none → (l.getD i []).length = 0) ∧ (l.getD i []).length ≤ c1 ∧ c1 ≤ maxLen ∧ b < w.heap.size := by
  obtain ⟨b, o, A1, c1, e, h1, h2⟩ := h.get i hi
  refine ⟨b, o, A1, c1, e, ?_, h2⟩
  have hv : i < vs.length := by rw [h.len]; exact hi
  obtain ⟨b', o', e', h3⟩ := h.at_ i _ (List.getElem?_eq_getElem hv)
  obtain ⟨b'', o'', e'', h4⟩ := (h.at_.later hb (Nat.le_refl _)) i _ (List.getElem?_eq_getElem hv)
  rw [e] at e' e''
  cases e'; cases e''
  rw [h4, ← h1, h3]
section
variable (A : Option Addr) (n c : Nat) (vs : List Value) (rows : List (List Nat)) (A2 : Option Addr) (n2 c2 : Nat) (came : List Int)
set_option maxRecDepth 100000 in
set_option maxHeartbeats 2000000 in
theorem isum_own (d : Nat) (w : World) (hn : rows.length = n) (h64 : n ≤ 64) (hr : Rows_ w .u32 A vs rows) (hd : d ≤ 32) (hdd : dimOf rows = d) (hg : VE.good d rows) (hu : U32 rows) (hl2 : came.length = n2) (h642 : n2 ≤ 64) (ha2 : At w A2 (ints .i64 came)) (hc : ∀ i ∈ came, 0 ≤ i ∧ i < n) :
    Calls Tryd.prog 37 #[.slice A n c, .slice A2 n2 c2] w (EndS w (some (VE.acc d (picked came rows)))) := by
  have HR := Lib.hid hr
  have HA := Lib.hid ha2
  have HC := Lib.hid hc
  have HU := Lib.hid hu
  have HG := Lib.hid hg
  have HN := Lib.hid hn
  have HL := Lib.hid hl2
  have HD := Lib.hid hdd
  clear hr ha2 hc hu hg hn hl2 hdd
  go_enter Tryd.func37, Tryd.ntmps37
  go_wp2_with fail
  go_loopw [6, 11] (fun o i wr => ∃ (k : Nat) (Ao : Option Addr) (co : Nat) (vo : List Value), k ≤ n2 ∧ i = .int .i64 k ∧ o = .slice Ao k co ∧ Out w.heap.size w wr Ao k co vo ((picked came rows).take k)) (fun _ i _ => (n2 - intOf i).toNat)
  case atStart => exact ⟨0, none, 0, [], by omega, rfl, rfl, Out.start w⟩
  case round =>
    obtain ⟨k, Ao, co, vo, hk, rfl, rfl, hout⟩ := hrel
    have HO := Lib.hid hout
    clear hout
    by_cases hkn : k < n2
    · have SZ := Lib.hid HO.out.low.size
      obtain ⟨m, hm, hmn⟩ := came_get HC.out (by rw [HL.out]; exact hkn)
      have PT := Lib.hid (picked_take (rows := rows) (show k < came.length by rw [HL.out]; exact hkn))
      rw [hm, Int.toNat_natCast] at PT
      have HM := Lib.hid hm
      obtain ⟨b2, o2, rfl⟩ : ∃ b o, A2 = some ⟨b, o, none⟩ := by
        obtain ⟨b, o, e, _⟩ := HA.out.int k (by rw [HL.out]; exact hkn)
        exact ⟨b, o, e⟩
      have hcl : wr.cell? ⟨b2, o2 + k, none⟩ = some (.int .i64 (m : Int)) := by
        obtain ⟨b, o, e, h⟩ := (HA.out.later HO.out.low (Nat.le_refl _)).int k (by rw [HL.out]; exact hkn)
        cases e
        rw [h, hm]
      clear hm
      obtain ⟨b3, o3, Ax, cx, hA3, hcx, hax, hnx, hlx, hmx, _⟩ := HR.out.getw m (by rw [HN.out]; exact hmn) HO.out.low
      have F := Lib.hid (show rows.getD m [] = [] ∨ blk Ax ≠ blk Ao from by
        by_cases h0 : rows.getD m [] = []
        · exact .inl h0
        · refine .inr fun e => ?_
          obtain ⟨q, hq⟩ : ∃ q, blk Ax = some q := by
            obtain ⟨b, o, e, _⟩ := hax.nat 0 (List.length_pos_iff.2 h0)
            rw [e]; exact ⟨_, rfl⟩
          have h1 := hax.lt (natsne h0) q hq
          have h2 := (HO.out.own.lt q (by rw [← e, hq])).1
          omega)
      obtain ⟨L, hL⟩ : ∃ L, (rows.getD m []).length = L := ⟨_, rfl⟩
      have HX := Lib.hid (hax.later HO.out.low (Nat.le_refl _))
      rw [hL] at hcx hnx hlx
      have HLn := Lib.hid hL
      have NX := Lib.hid hnx
      have CX := Lib.hid (And.intro hlx hmx)
      subst hA3
      clear hL hax hnx hlx hmx
      go_wp2_with (at_builtin; refine wpList_app rfl elt_sl32 w.heap.size (.tmp 15) (.tmp 20) rfl _ rfl (HO.out.own.alloc _) [.slice Ax L cx] rfl (At.lit _ _ _ _ _ rfl) rfl (by intro u hu; simp at hu; subst hu; rfl) (by unfold maxLen; omega) (by omega) (by have := SZ.out; simp; omega) ?_; intro A' c' w' ow g k5; have N := Lib.hid (Out.push' HO.out SZ.out HLn.out HX.out NX.out CX.out.1 CX.out.2 F.out ow g k5); clear ow g k5)
      refine ⟨⟨k + 1, A', c', vo ++ [.slice Ax L cx], by omega, rfl, rfl, ?_⟩, ?_⟩
      · rw [PT.out]; exact N.out
      · simp [intOf]; omega
    · obtain rfl : n2 = k := by omega
      have QW := Lib.hid (width_any A n c vs rows wr HN.out (by omega) (HR.out.later HO.out.low (Nat.le_refl _)))
      rw [HD.out] at QW
      have PL := Lib.hid (picked_length came rows)
      have PT := Lib.hid (show (picked came rows).take n2 = picked came rows from List.take_of_length_le (by rw [PL.out, HL.out]; exact Nat.le_refl _))
      rw [PT.out] at HO
      have PM := Lib.hid (fun r (h : r ∈ picked came rows) => picked_mem (by rw [HN.out]; exact HC.out) h)
      have QS := Lib.hid (vsum_in Ao n2 co vo (picked came rows) d wr (by rw [PL.out, HL.out]) (by omega) (HO.out.rows.rows HO.out.own.at_) (fun r h => HU.out r (PM.out r h)) hd)
      rw [VE.sums_ok hd (fun r h => HG.out r (PM.out r h))] at QS
      have BW := Lib.hid HO.out.low
      generalize VE.acc d (picked came rows) = s at *
      unfold EndS RowE at QS ⊢
      dsimp only at QS ⊢
      go_wp2_with fail
      with_reducible refine QW.out.mono ?_
      clear QW
      rintro e w3 ⟨rfl, rfl⟩
      go_wp2_with fail
      with_reducible refine QS.out.mono ?_
      clear QS
      rintro e w3 ⟨As, cs, rfl, hs, bs⟩
      have HS := Lib.hid hs
      have B3 := Lib.hid (BW.out.trans (bs.mono BW.out.size))
      clear hs bs
      go_wp2_with fail
      exact bodyPost_ret (v := .tuple #[.slice As s.length cs, .nilIface]) (by simp [results, Tryd.results37, go_sem]) rfl ⟨As, cs, rfl, HS.out, B3.out⟩
end
end Go.Proofs.YtmdilfgeogedpaaDoor
