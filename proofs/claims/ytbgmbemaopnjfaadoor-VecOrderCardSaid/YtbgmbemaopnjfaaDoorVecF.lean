/- Layer 2: VecSums' and VecTells' walks. -/
import Derived.Test.YtbgmbemaopnjfaaDoorVecE
namespace Go.Proofs.YtbgmbemaopnjfaaDoor
open Go.RowKit
theorem wf_i64_bd (n : Int) (h : (Lit.int .i64 n).wf = true) : n ≤ 9223372036854775807 := by
  simp [Lit.wf, IntKind.min, IntKind.max, IntKind.signed, IntKind.bits] at h; omega
theorem rows_len {w : World} {k : IntKind} {A : Option Addr} {vs : List Value} {l : List (List Nat)} (h : Rows_ w k A vs l) : ∀ r ∈ l, r.length ≤ 9223372036854775807 := by
  intro r hr
  obtain ⟨i, hi, rfl⟩ := List.mem_iff_getElem.1 hr
  have hv : i < vs.length := by rw [h.len]; exact hi
  obtain ⟨A1, c1, _, _, _, h4, h5⟩ := h.each i _ _ (List.getElem?_eq_getElem hv) (List.getElem?_eq_getElem hi)
  unfold maxLen at h5; omega
theorem all_u32 {l : List Nat} (h : ∀ i, l.getD i 0 < max 4294967296 1) : ∀ y ∈ l, y < 4294967296 := by
  intro y hy
  obtain ⟨i, hi, rfl⟩ := List.mem_iff_getElem.1 hy
  have := h i
  rw [getD_lt hi] at this
  omega
theorem rows_u32 {l : List (List Nat)} (h : ∀ b ∈ l, ∀ i, b.getD i 0 < max 4294967296 1) : ∀ r ∈ l, ∀ x ∈ r, x < 4294967296 := fun r hr => all_u32 (h r hr)
theorem sums_len {n : Int} {l : List (List Nat)} {s : List Nat} (h : VE.sums n l = some s) : s.length ≤ 32 := by
  by_cases h1 : 0 ≤ n ∧ n ≤ 32 ∧ VE.good n.toNat l
  · unfold VE.sums at h
    rw [if_pos h1] at h
    injection h with h
    rw [← h, VE.acc_length _ h1.2.2]
    omega
  · rw [VE.sums_no h1] at h; cases h
set_option maxRecDepth 100000 in
set_option maxHeartbeats 4000000 in
theorem vsums_some (A : Option Addr) (m c : Nat) (vs : List Value) (l : List (List Nat)) (n : Int) (s : List Nat) (w : World) (hl : l.length = m) (hm : m ≤ 60) (hrows : Rows_ w .u32 A vs l) (hr : ∀ r ∈ l, ∀ x ∈ r, x < 4294967296) (hlen : ∀ r ∈ l, r.length ≤ 9223372036854775807) (h63 : n ≤ 9223372036854775807) (hg : Glob w) (hs : VE.sums n l = some s) :
    Calls Tryd.prog 11 #[.slice A m c, .int .i64 n] w fun e w' => e = .returned (.bool true) ∧ Below w.heap.size w w' := by
  have HG := Lib.hid hg
  have HL := Lib.hid hl
  have HRW := Lib.hid hrows
  have HR := Lib.hid hr
  have HLE := Lib.hid hlen
  have HS := Lib.hid hs
  have HN1 := Lib.hid (show s.length ≤ 9223372036854775807 by have := sums_len hs; omega)
  clear hg hl hrows hr hlen hs
  go_enter Tryd.func11, Tryd.ntmps11
  go_wp2
  go_loopw [5] (fun i wr => ∃ k : Nat, k ≤ m ∧ i = .int .i64 k ∧ w = wr) (fun i _ => m - (intOf i).toNat)
  case atStart => exact ⟨0, by omega, rfl, rfl⟩
  case round =>
    obtain ⟨k, hk, rfl, rfl⟩ := hrel
    by_cases hlt : k < m
    · obtain ⟨b, o, A1, c1, rfl, hc, hat, h5, h6, h7, h8⟩ := HRW.out.get k (by rw [HL.out]; exact hlt)
      clear hat h5 h6 h7 h8
      by_cases h100 : 100 < (l.getD k []).length
      · generalize (l.getD k []).length = r at *
        go_wp2_with fail
        refine (sure02 _ HG.out).mono ?_
        rintro e w1 ⟨rfl, bel⟩
        go_wp2_with fail
        go_ret
        exact ⟨rfl, bel⟩
      · generalize (l.getD k []).length = r at *
        go_wp2_with fail
        exact ⟨⟨k + 1, by omega, by simp, trivial⟩, by simp only [intOf]; omega⟩
    · obtain rfl : k = m := by omega
      have HB := Lib.hid (Below.refl w.heap.size w)
      go_wp2_with fail
      refine (ends_some s s.length HS.out rfl (vsum_any A k c vs l n _ HL.out (by omega) (HRW.out.later HB.out (Nat.le_refl _)) HR.out h63)).mono ?_
      rintro e w1 ⟨A_p, c_p, rfl, hat, bel⟩
      replace HB := Lib.hid (HB.out.trans (bel.mono HB.out.size))
      replace HG := Lib.hid (HG.out.later bel (Nat.le_refl _))
      have Sp := Lib.hid hat
      clear hat
      have Np := HN1
      clear bel
      go_wp2_with fail
      refine (endb_some s s.length HS.out rfl (rsum_any A k c vs l n _ HL.out (by omega) (HRW.out.later HB.out (Nat.le_refl _)) HR.out HLE.out h63)).mono ?_
      rintro e w2 ⟨A_q, c_q, rfl, hat, bel⟩
      replace HB := Lib.hid (HB.out.trans (bel.mono HB.out.size))
      replace Sp := Lib.hid (Sp.out.later bel (Nat.le_refl _))
      replace HG := Lib.hid (HG.out.later bel (Nat.le_refl _))
      have Sq := Lib.hid hat
      clear hat
      have Nq := HN1
      clear bel
      go_wp2_with fail
      refine (valB_eq (.bool true) (by simp) (rsame_any A_p s.length c_p s A_q s.length c_q s _ rfl Np.out Sp.out rfl Nq.out Sq.out)).mono ?_
      rintro e w3 ⟨rfl, bel⟩
      replace HB := Lib.hid (HB.out.trans (bel.mono HB.out.size))
      replace Sp := Lib.hid (Sp.out.later bel (Nat.le_refl _))
      replace Sq := Lib.hid (Sq.out.later bel (Nat.le_refl _))
      replace HG := Lib.hid (HG.out.later bel (Nat.le_refl _))
      clear bel
      go_wp2_with fail
      refine (sure02 _ HG.out).mono ?_
      rintro e w4 ⟨rfl, bel⟩
      replace HB := Lib.hid (HB.out.trans (bel.mono HB.out.size))
      replace Sp := Lib.hid (Sp.out.later bel (Nat.le_refl _))
      replace Sq := Lib.hid (Sq.out.later bel (Nat.le_refl _))
      replace HG := Lib.hid (HG.out.later bel (Nat.le_refl _))
      clear bel
      go_wp2_with fail
      go_ret
      exact ⟨rfl, HB.out⟩
set_option maxRecDepth 100000 in
set_option maxHeartbeats 4000000 in
theorem vsums_none (A : Option Addr) (m c : Nat) (vs : List Value) (l : List (List Nat)) (n : Int) (w : World) (hl : l.length = m) (hm : m ≤ 60) (hrows : Rows_ w .u32 A vs l) (hr : ∀ r ∈ l, ∀ x ∈ r, x < 4294967296) (hlen : ∀ r ∈ l, r.length ≤ 9223372036854775807) (h63 : n ≤ 9223372036854775807) (hg : Glob w) (hs : VE.sums n l = none) :
    Calls Tryd.prog 11 #[.slice A m c, .int .i64 n] w fun e w' => e = .returned (.bool true) ∧ Below w.heap.size w w' := by
  have HG := Lib.hid hg
  have HL := Lib.hid hl
  have HRW := Lib.hid hrows
  have HR := Lib.hid hr
  have HLE := Lib.hid hlen
  have HS := Lib.hid hs
  clear hg hl hrows hr hlen hs
  go_enter Tryd.func11, Tryd.ntmps11
  go_wp2
  go_loopw [5] (fun i wr => ∃ k : Nat, k ≤ m ∧ i = .int .i64 k ∧ w = wr) (fun i _ => m - (intOf i).toNat)
  case atStart => exact ⟨0, by omega, rfl, rfl⟩
  case round =>
    obtain ⟨k, hk, rfl, rfl⟩ := hrel
    by_cases hlt : k < m
    · obtain ⟨b, o, A1, c1, rfl, hc, hat, h5, h6, h7, h8⟩ := HRW.out.get k (by rw [HL.out]; exact hlt)
      clear hat h5 h6 h7 h8
      by_cases h100 : 100 < (l.getD k []).length
      · generalize (l.getD k []).length = r at *
        go_wp2_with fail
        refine (sure02 _ HG.out).mono ?_
        rintro e w1 ⟨rfl, bel⟩
        go_wp2_with fail
        go_ret
        exact ⟨rfl, bel⟩
      · generalize (l.getD k []).length = r at *
        go_wp2_with fail
        exact ⟨⟨k + 1, by omega, by simp, trivial⟩, by simp only [intOf]; omega⟩
    · obtain rfl : k = m := by omega
      have HB := Lib.hid (Below.refl w.heap.size w)
      go_wp2_with fail
      refine (ends_none HS.out (vsum_any A k c vs l n _ HL.out (by omega) (HRW.out.later HB.out (Nat.le_refl _)) HR.out h63)).mono ?_
      rintro e w1 ⟨rfl, bel⟩
      replace HB := Lib.hid (HB.out.trans (bel.mono HB.out.size))
      replace HG := Lib.hid (HG.out.later bel (Nat.le_refl _))
      clear bel
      go_wp2_with fail
      refine (endb_none HS.out (rsum_any A k c vs l n _ HL.out (by omega) (HRW.out.later HB.out (Nat.le_refl _)) HR.out HLE.out h63)).mono ?_
      rintro e w2 ⟨rfl, bel⟩
      replace HB := Lib.hid (HB.out.trans (bel.mono HB.out.size))
      replace HG := Lib.hid (HG.out.later bel (Nat.le_refl _))
      clear bel
      go_wp2_with fail
      refine (valB_eq (.bool true) (by simp) (rsame_any none 0 0 [] none 0 0 [] _ rfl (by decide) (At.nil _ _) rfl (by decide) (At.nil _ _))).mono ?_
      rintro e w3 ⟨rfl, bel⟩
      replace HB := Lib.hid (HB.out.trans (bel.mono HB.out.size))
      replace HG := Lib.hid (HG.out.later bel (Nat.le_refl _))
      clear bel
      go_wp2_with fail
      refine (num02_err 1 _ HG.out).mono ?_
      rintro e w4 ⟨rfl, bel⟩
      replace HB := Lib.hid (HB.out.trans (bel.mono HB.out.size))
      replace HG := Lib.hid (HG.out.later bel (Nat.le_refl _))
      clear bel
      go_wp2_with fail
      refine (sure02 _ HG.out).mono ?_
      rintro e w5 ⟨rfl, bel⟩
      replace HB := Lib.hid (HB.out.trans (bel.mono HB.out.size))
      replace HG := Lib.hid (HG.out.later bel (Nat.le_refl _))
      clear bel
      go_wp2_with fail
      go_ret
      exact ⟨rfl, HB.out⟩
set_option maxRecDepth 100000 in
theorem vsums_big (A : Option Addr) (m c : Nat) (n : Int) (w : World) (hm : 60 < m) (hm63 : m ≤ 9223372036854775807) (hg : Glob w) :
    Calls Tryd.prog 11 #[.slice A m c, .int .i64 n] w fun e w' => e = .returned (.bool true) ∧ Below w.heap.size w w' := by
  have HG := Lib.hid hg
  clear hg
  go_enter Tryd.func11, Tryd.ntmps11
  go_wp2_with fail
  refine (sure02 _ HG.out).mono ?_
  rintro e w1 ⟨rfl, bel⟩
  go_wp2_with fail
  go_ret
  exact ⟨rfl, bel⟩
theorem vsums_any (A : Option Addr) (m c : Nat) (vs : List Value) (l : List (List Nat)) (n : Int) (w : World) (hl : l.length = m) (hm : m ≤ 9223372036854775807) (hrows : Rows_ w .u32 A vs l) (hr : ∀ r ∈ l, ∀ x ∈ r, x < 4294967296) (hlen : ∀ r ∈ l, r.length ≤ 9223372036854775807) (h63 : n ≤ 9223372036854775807) (hg : Glob w) :
    Calls Tryd.prog 11 #[.slice A m c, .int .i64 n] w fun e w' => e = .returned (.bool true) ∧ Below w.heap.size w w' := by
  by_cases h : 60 < m
  · exact vsums_big A m c n w h hm hg
  · cases hs : VE.sums n l with
    | none => exact vsums_none A m c vs l n w hl (by omega) hrows hr hlen h63 hg hs
    | some s => exact vsums_some A m c vs l n s w hl (by omega) hrows hr hlen h63 hg hs
end Go.Proofs.YtbgmbemaopnjfaaDoor
