/- Layer 2: the walks of Sum, Same, and of the document's rows. -/
import Derived.Test.YtmdilfgeogedpaaDoorIVecB
import Derived.Deep.RegionLaw
import Derived.RegionTactic
namespace Go.Proofs.YtmdilfgeogedpaaDoor
open Go.RowKit
def RowT (w : World) (l : List Nat) (e : Ending) (w' : World) : Prop :=
  ∃ A c, e = .returned (.tuple #[.slice A l.length c, .bool true]) ∧ At w' A (nats .u32 l) ∧ Below w.heap.size w w'
def EndB (w : World) (o : Option (List Nat)) (e : Ending) (w' : World) : Prop := match o with
  | some s => RowT w s e w'
  | none => e = .returned (.tuple #[.slice none 0 0, .bool false]) ∧ Below w.heap.size w w'
theorem byt (l : List (List Nat)) (k : Nat) (h : ∀ r ∈ l, ∀ x ∈ r, x < 4294967296) : ∀ x ∈ l.getD k [], x < 4294967296 := by
  by_cases hk : k < l.length
  · rw [show l.getD k [] = l[k] by simp [List.getD_eq_getElem?_getD, List.getElem?_eq_getElem hk]]
    exact h _ (List.getElem_mem _)
  · rw [List.getD_eq_getElem?_getD, List.getElem?_eq_none (by omega)]; simp
theorem not_good {n k : Nat} {l : List (List Nat)} (hk : k < l.length) (h : (l.getD k []).length ≠ n) : ¬ VE.good n l := by
  intro hg
  apply h
  rw [show l.getD k [] = l[k] by simp [List.getD_eq_getElem?_getD, List.getElem?_eq_getElem hk]]
  exact hg _ (List.getElem_mem _)
set_option maxRecDepth 100000 in
theorem vsum_out (A : Option Addr) (m c : Nat) (n : Int) (w : World) (h : n < 0 ∨ 32 < n) (h63 : n ≤ 9223372036854775807) :
    Calls Tryd.prog 48 #[.slice A m c, .int .i64 n] w (EndS w none) := by
  have C := Lib.hid (vzero_no n w h h63)
  clear h
  go_enter Tryd.func48, Tryd.ntmps48
  go_wp2_with fail
  refine C.out.mono ?_
  rintro e w1 ⟨rfl, rfl⟩
  go_wp2_with fail
  go_ret2
  exact ⟨rfl, Below.refl _ _⟩
set_option maxRecDepth 100000 in
set_option maxHeartbeats 4000000 in
theorem vsum_in (A : Option Addr) (m c : Nat) (vs : List Value) (l : List (List Nat)) (n : Nat) (w : World) (hl : l.length = m) (hm : m ≤ 9223372036854775807) (hrows : Rows_ w .u32 A vs l) (hr : ∀ r ∈ l, ∀ x ∈ r, x < 4294967296) (hn : n ≤ 32) :
    Calls Tryd.prog 48 #[.slice A m c, .int .i64 n] w (EndS w (VE.sums n l)) := by
  have HL := Lib.hid hl
  have HRW := Lib.hid hrows
  have HR := Lib.hid hr
  have C := Lib.hid (vzero_ok n w hn)
  obtain ⟨res, hres⟩ : ∃ res, VE.sums n l = res := ⟨_, rfl⟩
  rw [hres]
  have HRES := Lib.hid hres
  clear hl hrows hr hres
  go_enter Tryd.func48, Tryd.ntmps48
  go_wp2_with fail
  refine C.out.mono ?_
  rintro e w1 ⟨rfl, h1, b1, z1⟩
  have H1 := Lib.hid h1
  have B1 := Lib.hid b1
  obtain ⟨g, hg⟩ : ∃ g, w.heap.size = g := ⟨_, rfl⟩
  rw [hg] at H1 B1 ⊢
  have HGG := Lib.hid hg
  clear h1 b1 z1 hg C
  go_wp2_with fail
  go_loopw [22] (fun i wr => ∃ k : Nat, k ≤ m ∧ i = .int .i64 k ∧ VE.good n (l.take k) ∧ HN wr g (VE.acc n (l.take k)) ∧ Below g w wr) (fun i _ => m - (intOf i).toNat)
  case atStart => exact ⟨0, by omega, rfl, (by intro r hr; simp at hr), H1.out, B1.out⟩
  case round =>
    obtain ⟨k, hk, rfl, hgd, hh, hb⟩ := hrel
    have HGD := Lib.hid hgd
    have HH := Lib.hid hh
    have HB := Lib.hid hb
    clear hgd hh hb H1 B1
    by_cases hlt : k < m
    · obtain ⟨b, o, A1, c1, rfl, hc0, hat, h5, h6, h7, h8⟩ := HRW.out.get k (by rw [HL.out]; exact hlt)
      have hc := (HB.out.cell (p := ⟨b, o + k, none⟩) (HGG.out ▸ h8)).trans hc0
      have HAT := Lib.hid hat
      unfold maxLen at h7
      clear hat h5 h8 hc0
      have HBY := Lib.hid (byt l k HR.out)
      have HNG := Lib.hid (fun h => not_good (n := n) (l := l) (k := k) (by rw [HL.out]; exact hlt) h)
      have HAC := Lib.hid (VE.acc_snoc (n := n) (k := k) (l := l) (by rw [HL.out]; exact hlt))
      have HGS := Lib.hid (fun h => VE.good_snoc (n := n) (k := k) (l := l) (by rw [HL.out]; exact hlt) HGD.out h)
      have HAL := Lib.hid (VE.acc_length _ HGD.out)
      generalize l.getD k [] = r at *
      generalize VE.acc n (l.take k) = a at *
      by_cases hrn : r.length = n
      · have hd : ((r.length : Int) != (n : Int)) = false := by simp; omega
        have HRN := Lib.hid hrn
        have HLT := Lib.hid (show (VE.lin 1 a r).length = n by rw [VE.lin_length, HAL.out, hrn]; omega)
        clear hrn
        go_wp2_with fail
        obtain ⟨wo, rfl⟩ : ∃ wo : World, wo = wr := ⟨_, rfl⟩
        go_loopw [33] (fun i wq => ∃ j : Nat, j ≤ n ∧ i = .int .i64 j ∧ HN wq g (VE.mix j (VE.lin 1 a r) a) ∧ Below g wo wq) (fun i _ => n - (intOf i).toNat)
        case atStart => exact ⟨0, by omega, rfl, by rw [VE.mix_zero]; exact HH.out, Below.refl _ _⟩
        case round =>
          obtain ⟨j, hj, rfl, hh, hb⟩ := hrel
          have HJ := Lib.hid hh
          have HBJ := Lib.hid hb
          clear hh hb
          by_cases hjt : j < n
          · obtain ⟨b2, o2, rfl, hc2⟩ := (HAT.out.later (HB.out.trans HBJ.out) (Nat.le_of_eq HGG.out)).nat j (by rw [HRN.out]; exact hjt)
            have hx : r.getD j 0 < 4294967296 := by rw [getD_lt (by rw [HRN.out]; exact hjt)]; exact HBY.out _ (List.getElem_mem _)
            have hs := VE.mix_set (m := j) HLT.out HAL.out hjt
            rw [VE.lin_getD (by rw [HAL.out]; exact hjt) (by rw [HRN.out]; exact hjt)] at hs
            have hml := VE.mix_length (m := j) HLT.out HAL.out
            have hcz := HJ.out.cell j (by rw [hml]; exact hjt)
            rw [VE.mix_getD HLT.out HAL.out hjt] at hcz
            have hfz : wr.frozen? ⟨g, j, none⟩ = false := Holds.frozen HJ.out j
            have HS := Lib.hid hs
            have hjr : j < r.length := by rw [HRN.out]; exact hjt
            clear hs hml
            generalize r.getD j 0 = x at *
            generalize a.getD j 0 = y at *
            go_wp2
            refine ⟨⟨j + 1, by omega, by simp, ?_, HBJ.out.setCell (Nat.le_refl _) _⟩, by simp only [intOf]; omega⟩
            rw [← HS.out]
            have := HJ.out.set j ((y + 1 * x) % 4294967296)
            simpa using this
          · obtain rfl : j = n := by omega
            have hm := VE.mix_full HLT.out HAL.out
            have hjj := HJ.out
            rw [hm] at hjj
            have HJJ := Lib.hid hjj
            have hjr : r.length ≤ j := Nat.le_of_eq HRN.out
            clear hjj hm
            go_wp2
            exact ⟨⟨k + 1, by omega, by simp, HGS.out HRN.out, by rw [HAC.out]; exact HJJ.out, HB.out.trans HBJ.out⟩, by simp only [intOf]; omega⟩
      · have hd : ((r.length : Int) != (n : Int)) = true := by simp; omega
        have HNN := Lib.hid (HNG.out hrn)
        clear hrn
        go_wp2_with fail
        go_ret2
        have e : res = none := by rw [← HRES.out]; exact VE.sums_no (fun h => HNN.out (by simpa using h.2.2))
        subst e
        exact ⟨rfl, by rw [HGG.out]; exact HB.out⟩
    · obtain rfl : k = m := by omega
      have htl : l.take k = l := List.take_of_length_le (by rw [HL.out]; omega)
      have h1 := HGD.out
      have h2 := HH.out
      rw [htl] at h1 h2
      have e : res = some (VE.acc n l) := by rw [← HRES.out]; exact VE.sums_ok hn h1
      have HAL := VE.acc_length _ h1
      have HE := Lib.hid e
      have HG2 := Lib.hid h2
      have HG3 := Lib.hid HAL
      clear h1 h2 htl e HAL
      go_wp2
      go_ret2
      rw [HE.out]
      exact ⟨some ⟨g, 0, none⟩, n, by rw [HG3.out]; rfl, HG2.out.at_, by rw [HGG.out]; exact HB.out⟩
theorem vsum_any (A : Option Addr) (m c : Nat) (vs : List Value) (l : List (List Nat)) (n : Int) (w : World) (hl : l.length = m) (hm : m ≤ 9223372036854775807) (hrows : Rows_ w .u32 A vs l) (hr : ∀ r ∈ l, ∀ x ∈ r, x < 4294967296) (h63 : n ≤ 9223372036854775807) :
    Calls Tryd.prog 48 #[.slice A m c, .int .i64 n] w (EndS w (VE.sums n l)) := by
  by_cases h : 0 ≤ n ∧ n ≤ 32
  · obtain ⟨k, rfl⟩ := Int.eq_ofNat_of_zero_le h.1
    exact vsum_in A m c vs l k w hl hm hrows hr (by omega)
  · rw [VE.sums_no (fun h2 => h ⟨h2.1, h2.2.1⟩)]
    exact vsum_out A m c n w (by omega) h63
end Go.Proofs.YtmdilfgeogedpaaDoor
