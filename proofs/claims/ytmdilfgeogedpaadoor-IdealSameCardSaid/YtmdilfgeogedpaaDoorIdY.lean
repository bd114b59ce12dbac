/- Layer 37: IdealSame. Printed by idy.py. -/
import Derived.Test.YtmdilfgeogedpaaDoorIdV
import Derived.Test.YtmdilfgeogedpaaDoorIdX
import Derived.Deep.CutRange
namespace Go.Proofs.YtmdilfgeogedpaaDoor
open Go.RowKit
theorem rows3_pairs {W : World} {H A B : Option Addr} {v1 v2 : List Value} {x y : List (List Nat)} {m1 c1 m2 c2 : Nat} (h : At W H [.slice A m1 c1, .slice B m2 c2]) (h1 : Rows_ W .u32 A v1 x) (l1 : x.length = m1) (b1 : m1 ≤ c1) (b2 : c1 ≤ maxLen) (h2 : Rows_ W .u32 B v2 y) (l2 : y.length = m2) (b3 : m2 ≤ c2) (b4 : c2 ≤ maxLen) : Rows3 W .u32 H [.slice A m1 c1, .slice B m2 c2] [x, y] := ⟨h, rfl, by
  intro i v b h3 h4
  match i with
  | 0 => simp at h3 h4; subst h3; subst h4; exact ⟨_, _, v1, by rw [l1], h1, (fun e => h1.none_len e), by rw [l1]; exact b1, b2⟩
  | 1 => simp at h3 h4; subst h3; subst h4; exact ⟨_, _, v2, by rw [l2], h2, (fun e => h2.none_len e), by rw [l2]; exact b3, b4⟩
  | i + 2 => simp at h3⟩
section
variable (A : Option Addr) (n c : Nat) (vs : List Value) (own : List (List Nat)) (A2 : Option Addr) (n2 c2 : Nat) (vs2 : List Value) (P : List (List (List Nat))) (A3 : Option Addr) (n3 c3 : Nat) (came : List Int)
variable (A4 : Option Addr) (n4 c4 : Nat) (vs4 : List Value) (rows : List (List Nat)) (A5 : Option Addr) (n5 c5 : Nat) (vs5 : List Value) (other : List (List Nat))
set_option maxRecDepth 100000 in
set_option maxHeartbeats 8000000 in
theorem isame_any (w : World) (hl : own.length = n) (hn : n ≤ 9223372036854775807) (hr : Rows_ w .u32 A vs own) (hl2 : P.length = n2) (hn2 : n2 ≤ 9223372036854775807) (hr2 : Rows3 w .u32 A2 vs2 P)
    (hl3 : came.length = n3) (hn3 : n3 ≤ 9223372036854775807) (hnc3 : n3 ≤ c3) (ha3 : At w A3 (ints .i64 came)) (hl4 : rows.length = n4) (hn4 : n4 ≤ 9223372036854775807) (hnc4 : n4 ≤ c4) (hc4 : c4 ≤ maxLen) (hr4 : Rows_ w .u32 A4 vs4 rows) (hl5 : other.length = n5) (hn5 : n5 ≤ 9223372036854775807) (hnc5 : n5 ≤ c5) (hc5 : c5 ≤ maxLen) (hr5 : Rows_ w .u32 A5 vs5 other)
    (u1 : U32 own) (u2 : ∀ r ∈ P, U32 r) (u4 : U32 rows) (u5 : U32 other) (hg : Glob w) :
    Calls Tryd.prog 4 #[.agg #[.slice A n c, .slice A2 n2 c2], .agg #[.slice A3 n3 c3, .slice A4 n4 c4, .slice A5 n5 c5]] w fun e w' => e = .returned (.bool true) ∧ Below w.heap.size w w' := by
  have HB := Lib.hid (((Below.refl w.heap.size w).alloc (Nat.le_refl _) (.cells #[.slice A n c, .slice A2 n2 c2] 25)).alloc (by simp) (.cells #[.slice A3 n3 c3, .slice A4 n4 c4, .slice A5 n5 c5] 28))
  have HG := Lib.hid (hg.later HB.out (Nat.le_refl _))
  have HT := Lib.hid ((Holds.new w 25 #[.slice A n c, .slice A2 n2 c2] w.heap.size rfl).alloc (.cells #[.slice A3 n3 c3, .slice A4 n4 c4, .slice A5 n5 c5] 28))
  have HK := Lib.hid (Holds.new (w.alloc (.cells #[.slice A n c, .slice A2 n2 c2] 25)) 28 #[.slice A3 n3 c3, .slice A4 n4 c4, .slice A5 n5 c5] (w.heap.size + 1) (by simp))
  have HR := Lib.hid (hr.later HB.out (Nat.le_refl _))
  have HR2 := Lib.hid (hr2.later HB.out (Nat.le_refl _))
  have HA3 := Lib.hid (ha3.later HB.out (Nat.le_refl _))
  have HR4 := Lib.hid (hr4.later HB.out (Nat.le_refl _))
  have HR5 := Lib.hid (hr5.later HB.out (Nat.le_refl _))
  have HL := Lib.hid hl
  have HL2 := Lib.hid hl2
  have HL3 := Lib.hid hl3
  have HL4 := Lib.hid hl4
  have HL5 := Lib.hid hl5
  have U1 := Lib.hid u1
  have U2 := Lib.hid u2
  have U4 := Lib.hid u4
  have U5 := Lib.hid u5
  clear hr hr2 ha3 hr4 hr5 hl hl2 hl3 hl4 hl5 hg u1 u2 u4 u5
  go_enter Tryd.func4, Tryd.ntmps4
  go_upto_region 1 with fail
  generalize (w.alloc (.cells #[.slice A n c, .slice A2 n2 c2] 25)).alloc (.cells #[.slice A3 n3 c3, .slice A4 n4 c4, .slice A5 n5 c5] 28) = w1 at *
  obtain ⟨g, hgg⟩ : ∃ g, w.heap.size = g := ⟨_, rfl⟩
  rw [hgg] at HT HK HB ⊢
  have HGG := Lib.hid hgg
  clear hgg
  have t0 := HT.out.cell 0
  have t1 := HT.out.cell 1
  simp at t0 t1
  have k0 := HK.out.cell 0
  have k1 := HK.out.cell 1
  have k2 := HK.out.cell 2
  simp at k0 k1 k2
  have bel := (Below.refl w1.heap.size w1).alloc (Nat.le_refl _) (.cells #[.slice A4 n4 c4, .slice A5 n5 c5] 22)
  have RL := Lib.hid (rows3_pairs (At.lit _ _ _ _ _ rfl : At (w1.alloc (.cells #[.slice A4 n4 c4, .slice A5 n5 c5] 22)) (some ⟨w1.heap.size, 0, none⟩) [.slice A4 n4 c4, .slice A5 n5 c5]) (HR4.out.later bel (Nat.le_refl _)) HL4.out hnc4 hc4 (HR5.out.later bel (Nat.le_refl _)) HL5.out hnc5 hc5)
  have QG := Lib.hid (great_any A n c vs own A2 n2 c2 vs2 P (some ⟨w1.heap.size, 0, none⟩) 2 2 _ [rows, other] (w1.alloc (.cells #[.slice A4 n4 c4, .slice A5 n5 c5] 22)) HL.out hn (HR.out.later bel (Nat.le_refl _)) HL2.out hn2 (HR2.out.later bel (Nat.le_refl _)) rfl (by decide) RL.out)
  have BL := Lib.hid bel
  clear bel RL
  go_wp2_with fail
  with_reducible refine QG.out.mono ?_
  clear QG t0 t1 k0 k1 k2
  rintro e w2 ⟨big, rfl, b2⟩
  have bel := BL.out.trans (b2.mono BL.out.size)
  clear b2 BL
  replace HG := Lib.hid (HG.out.later bel (Nat.le_refl _))
  replace HT := Lib.hid (HT.out.later bel (Nat.le_refl _))
  replace HK := Lib.hid (HK.out.later bel (Nat.le_refl _))
  replace HR := Lib.hid (HR.out.later bel (Nat.le_refl _))
  replace HR2 := Lib.hid (HR2.out.later bel (Nat.le_refl _))
  replace HA3 := Lib.hid (HA3.out.later bel (Nat.le_refl _))
  replace HR4 := Lib.hid (HR4.out.later bel (Nat.le_refl _))
  replace HR5 := Lib.hid (HR5.out.later bel (Nat.le_refl _))
  replace HB := Lib.hid (HB.out.trans (bel.mono (by rw [← HGG.out]; exact HB.out.size)))
  clear bel
  have t0 := HT.out.cell 0
  have t1 := HT.out.cell 1
  simp at t0 t1
  have k0 := HK.out.cell 0
  have k1 := HK.out.cell 1
  have k2 := HK.out.cell 2
  simp at k0 k1 k2
  cases big with
  | true =>
    go_wp2_with fail
    with_reducible refine (sure37 w2 HG.out).mono ?_
    rintro e w3 ⟨rfl, bel⟩
    replace HG := Lib.hid (HG.out.later bel (Nat.le_refl _))
    replace HT := Lib.hid (HT.out.later bel (Nat.le_refl _))
    replace HK := Lib.hid (HK.out.later bel (Nat.le_refl _))
    replace HR := Lib.hid (HR.out.later bel (Nat.le_refl _))
    replace HR2 := Lib.hid (HR2.out.later bel (Nat.le_refl _))
    replace HA3 := Lib.hid (HA3.out.later bel (Nat.le_refl _))
    replace HR4 := Lib.hid (HR4.out.later bel (Nat.le_refl _))
    replace HR5 := Lib.hid (HR5.out.later bel (Nat.le_refl _))
    replace HB := Lib.hid (HB.out.trans (bel.mono (by rw [← HGG.out]; exact HB.out.size)))
    clear bel
    go_wp2_with fail
    go_ret
    exact ⟨rfl, by rw [HGG.out]; exact HB.out⟩
  | false =>
  by_cases hbig : (40 : Int) < n3
  · 
    go_wp2_with fail
    with_reducible refine (sure37 w2 HG.out).mono ?_
    rintro e w3 ⟨rfl, bel⟩
    replace HG := Lib.hid (HG.out.later bel (Nat.le_refl _))
    replace HT := Lib.hid (HT.out.later bel (Nat.le_refl _))
    replace HK := Lib.hid (HK.out.later bel (Nat.le_refl _))
    replace HR := Lib.hid (HR.out.later bel (Nat.le_refl _))
    replace HR2 := Lib.hid (HR2.out.later bel (Nat.le_refl _))
    replace HA3 := Lib.hid (HA3.out.later bel (Nat.le_refl _))
    replace HR4 := Lib.hid (HR4.out.later bel (Nat.le_refl _))
    replace HR5 := Lib.hid (HR5.out.later bel (Nat.le_refl _))
    replace HB := Lib.hid (HB.out.trans (bel.mono (by rw [← HGG.out]; exact HB.out.size)))
    clear bel
    go_wp2_with fail
    go_ret
    exact ⟨rfl, by rw [HGG.out]; exact HB.out⟩
  have hbig2 : decide ((40 : Int) < n3) = false := decide_eq_false hbig
  go_wp2_with fail
  with_reducible refine (give_any A n c A2 n2 c2 w2).mono ?_
  rintro e w3 ⟨rfl, bel⟩
  replace HG := Lib.hid (HG.out.later bel (Nat.le_refl _))
  replace HT := Lib.hid (HT.out.later bel (Nat.le_refl _))
  replace HK := Lib.hid (HK.out.later bel (Nat.le_refl _))
  replace HR := Lib.hid (HR.out.later bel (Nat.le_refl _))
  replace HR2 := Lib.hid (HR2.out.later bel (Nat.le_refl _))
  replace HA3 := Lib.hid (HA3.out.later bel (Nat.le_refl _))
  replace HR4 := Lib.hid (HR4.out.later bel (Nat.le_refl _))
  replace HR5 := Lib.hid (HR5.out.later bel (Nat.le_refl _))
  replace HB := Lib.hid (HB.out.trans (bel.mono (by rw [← HGG.out]; exact HB.out.size)))
  clear t0 t1 k0 k1 k2
  clear bel
  go_upto_region 4 with fail
  have bel := (Below.refl w3.heap.size w3).alloc (Nat.le_refl _) (.cells #[.slice A n c, .slice A2 n2 c2] 32)
  have HX := Lib.hid (Holds.new w3 32 #[.slice A n c, .slice A2 n2 c2] w3.heap.size rfl)
  generalize w3.alloc (.cells #[.slice A n c, .slice A2 n2 c2] 32) = w4 at bel HX ⊢
  replace HG := Lib.hid (HG.out.later bel (Nat.le_refl _))
  replace HT := Lib.hid (HT.out.later bel (Nat.le_refl _))
  replace HK := Lib.hid (HK.out.later bel (Nat.le_refl _))
  replace HR := Lib.hid (HR.out.later bel (Nat.le_refl _))
  replace HR2 := Lib.hid (HR2.out.later bel (Nat.le_refl _))
  replace HA3 := Lib.hid (HA3.out.later bel (Nat.le_refl _))
  replace HR4 := Lib.hid (HR4.out.later bel (Nat.le_refl _))
  replace HR5 := Lib.hid (HR5.out.later bel (Nat.le_refl _))
  replace HB := Lib.hid (HB.out.trans (bel.mono (by rw [← HGG.out]; exact HB.out.size)))
  clear bel
  have x0 := HX.out.cell 0
  have x1 := HX.out.cell 1
  simp at x0 x1
  have k0 := HK.out.cell 0
  have k1 := HK.out.cell 1
  have k2 := HK.out.cell 2
  simp at k0 k1 k2
  have QM := Lib.hid (moved_any A n c vs own A2 n2 c2 vs2 P A3 n3 c3 came A4 n4 c4 vs4 rows A5 n5 c5 vs5 other w4 HL.out hn HR.out HL2.out hn2 HR2.out HL3.out hn3 hnc3 HA3.out HL4.out hn4 HR4.out HL5.out hn5 HR5.out U2.out U4.out U5.out)
  go_wp2_with fail
  with_reducible refine QM.out.mono ?_
  clear QM x0 x1 k0 k1 k2
  rintro e w5 (⟨_, rfl, bel⟩ | ⟨_, _, rfl, bel⟩ | ⟨harg, hsum, hT⟩)
  · 
    replace HG := Lib.hid (HG.out.later bel (Nat.le_refl _))
    replace HT := Lib.hid (HT.out.later bel (Nat.le_refl _))
    replace HK := Lib.hid (HK.out.later bel (Nat.le_refl _))
    replace HR := Lib.hid (HR.out.later bel (Nat.le_refl _))
    replace HR2 := Lib.hid (HR2.out.later bel (Nat.le_refl _))
    replace HA3 := Lib.hid (HA3.out.later bel (Nat.le_refl _))
    replace HR4 := Lib.hid (HR4.out.later bel (Nat.le_refl _))
    replace HR5 := Lib.hid (HR5.out.later bel (Nat.le_refl _))
    replace HX := Lib.hid (HX.out.later bel (Nat.le_refl _))
    replace HB := Lib.hid (HB.out.trans (bel.mono (by rw [← HGG.out]; exact HB.out.size)))
    clear bel
    go_upto_region 5 with fail
    have bel := (Below.refl w5.heap.size w5).alloc (Nat.le_refl _) (.cells #[.slice none 0 0, .slice none 0 0] 32)
    have HM := Lib.hid (Holds.new w5 32 #[.slice none 0 0, .slice none 0 0] w5.heap.size rfl)
    generalize w5.alloc (.cells #[.slice none 0 0, .slice none 0 0] 32) = w6 at bel HM ⊢
    replace HG := Lib.hid (HG.out.later bel (Nat.le_refl _))
    replace HT := Lib.hid (HT.out.later bel (Nat.le_refl _))
    replace HK := Lib.hid (HK.out.later bel (Nat.le_refl _))
    replace HR := Lib.hid (HR.out.later bel (Nat.le_refl _))
    replace HR2 := Lib.hid (HR2.out.later bel (Nat.le_refl _))
    replace HA3 := Lib.hid (HA3.out.later bel (Nat.le_refl _))
    replace HR4 := Lib.hid (HR4.out.later bel (Nat.le_refl _))
    replace HR5 := Lib.hid (HR5.out.later bel (Nat.le_refl _))
    replace HX := Lib.hid (HX.out.later bel (Nat.le_refl _))
    replace HB := Lib.hid (HB.out.trans (bel.mono (by rw [← HGG.out]; exact HB.out.size)))
    clear bel
    go_wp2_with fail
    with_reducible refine (sure37 w6 HG.out).mono ?_
    rintro e w7 ⟨rfl, bel⟩
    replace HG := Lib.hid (HG.out.later bel (Nat.le_refl _))
    replace HT := Lib.hid (HT.out.later bel (Nat.le_refl _))
    replace HK := Lib.hid (HK.out.later bel (Nat.le_refl _))
    replace HR := Lib.hid (HR.out.later bel (Nat.le_refl _))
    replace HR2 := Lib.hid (HR2.out.later bel (Nat.le_refl _))
    replace HA3 := Lib.hid (HA3.out.later bel (Nat.le_refl _))
    replace HR4 := Lib.hid (HR4.out.later bel (Nat.le_refl _))
    replace HR5 := Lib.hid (HR5.out.later bel (Nat.le_refl _))
    replace HX := Lib.hid (HX.out.later bel (Nat.le_refl _))
    replace HM := Lib.hid (HM.out.later bel (Nat.le_refl _))
    replace HB := Lib.hid (HB.out.trans (bel.mono (by rw [← HGG.out]; exact HB.out.size)))
    clear bel
    go_wp2_with fail
    go_ret
    exact ⟨rfl, by rw [HGG.out]; exact HB.out⟩
  · 
    replace HG := Lib.hid (HG.out.later bel (Nat.le_refl _))
    replace HT := Lib.hid (HT.out.later bel (Nat.le_refl _))
    replace HK := Lib.hid (HK.out.later bel (Nat.le_refl _))
    replace HR := Lib.hid (HR.out.later bel (Nat.le_refl _))
    replace HR2 := Lib.hid (HR2.out.later bel (Nat.le_refl _))
    replace HA3 := Lib.hid (HA3.out.later bel (Nat.le_refl _))
    replace HR4 := Lib.hid (HR4.out.later bel (Nat.le_refl _))
    replace HR5 := Lib.hid (HR5.out.later bel (Nat.le_refl _))
    replace HX := Lib.hid (HX.out.later bel (Nat.le_refl _))
    replace HB := Lib.hid (HB.out.trans (bel.mono (by rw [← HGG.out]; exact HB.out.size)))
    clear bel
    go_upto_region 5 with fail
    have bel := (Below.refl w5.heap.size w5).alloc (Nat.le_refl _) (.cells #[.slice none 0 0, .slice none 0 0] 32)
    have HM := Lib.hid (Holds.new w5 32 #[.slice none 0 0, .slice none 0 0] w5.heap.size rfl)
    generalize w5.alloc (.cells #[.slice none 0 0, .slice none 0 0] 32) = w6 at bel HM ⊢
    replace HG := Lib.hid (HG.out.later bel (Nat.le_refl _))
    replace HT := Lib.hid (HT.out.later bel (Nat.le_refl _))
    replace HK := Lib.hid (HK.out.later bel (Nat.le_refl _))
    replace HR := Lib.hid (HR.out.later bel (Nat.le_refl _))
    replace HR2 := Lib.hid (HR2.out.later bel (Nat.le_refl _))
    replace HA3 := Lib.hid (HA3.out.later bel (Nat.le_refl _))
    replace HR4 := Lib.hid (HR4.out.later bel (Nat.le_refl _))
    replace HR5 := Lib.hid (HR5.out.later bel (Nat.le_refl _))
    replace HX := Lib.hid (HX.out.later bel (Nat.le_refl _))
    replace HB := Lib.hid (HB.out.trans (bel.mono (by rw [← HGG.out]; exact HB.out.size)))
    clear bel
    go_wp2_with fail
    with_reducible refine (sure37 w6 HG.out).mono ?_
    rintro e w7 ⟨rfl, bel⟩
    replace HG := Lib.hid (HG.out.later bel (Nat.le_refl _))
    replace HT := Lib.hid (HT.out.later bel (Nat.le_refl _))
    replace HK := Lib.hid (HK.out.later bel (Nat.le_refl _))
    replace HR := Lib.hid (HR.out.later bel (Nat.le_refl _))
    replace HR2 := Lib.hid (HR2.out.later bel (Nat.le_refl _))
    replace HA3 := Lib.hid (HA3.out.later bel (Nat.le_refl _))
    replace HR4 := Lib.hid (HR4.out.later bel (Nat.le_refl _))
    replace HR5 := Lib.hid (HR5.out.later bel (Nat.le_refl _))
    replace HX := Lib.hid (HX.out.later bel (Nat.le_refl _))
    replace HM := Lib.hid (HM.out.later bel (Nat.le_refl _))
    replace HB := Lib.hid (HB.out.trans (bel.mono (by rw [← HGG.out]; exact HB.out.size)))
    clear bel
    go_wp2_with fail
    go_ret
    exact ⟨rfl, by rw [HGG.out]; exact HB.out⟩
  have HARG := Lib.hid harg
  have HSUM := Lib.hid hsum
  have HF := Lib.hid harg.1.1
  have SH := Lib.hid harg.1.1.shape
  have HPL := Lib.hid harg.1.2.2
  obtain ⟨P', hP'⟩ : ∃ P', mvP (came.map Int.toNat) P rows other (came.length - 1) = P' := ⟨_, rfl⟩
  obtain ⟨f2, hhid, hshw, harg2, hsum2, hback, u6, lo, hdo, tm1, tm2⟩ := moved_law harg hsum U2.out U4.out U5.out hP'
  have hPl : P'.length = P.length := by rw [← hP', mvP_length]
  have sh2 := f2.shape
  rw [hdo, lo] at sh2
  obtain ⟨d, hd⟩ : ∃ d, dimOf rows = d := ⟨_, rfl⟩
  rw [HL4.out] at SH sh2 hshw tm1 tm2 HPL
  rw [hd] at SH sh2 tm1 tm2
  have SH2 := Lib.hid sh2
  have F2 := Lib.hid f2
  have HHID := Lib.hid hhid
  have HSHW := Lib.hid hshw
  have HARG2 := Lib.hid harg2
  have HSUM2 := Lib.hid hsum2
  have HBK := Lib.hid hback
  have U6 := Lib.hid u6
  have TM1 := Lib.hid tm1
  have TM2 := Lib.hid tm2
  have HDM := Lib.hid hd
  rw [hP'] at hT
  obtain rfl : n4 = n := by have h := SH.out.on; rw [HL.out] at h; omega
  obtain rfl : n4 = n2 := by have h := SH.out.pn; rw [HL2.out] at h; omega
  obtain rfl : n4 = n5 := by have h := lo; rw [HL5.out, HL4.out] at h; omega
  have HLP := Lib.hid (show P'.length = n4 from by rw [hPl, HL2.out])
  have N64 := SH.out.n64
  have D32 := SH.out.d32
  have HP0 := Lib.hid hP'
  clear harg hsum hP' f2 hhid hshw harg2 hsum2 hback u6 lo hdo tm1 tm2 sh2 hd hPl
  obtain ⟨Am, cm, vm, Bm, dm, um, rfl, hmr, hmp, bel⟩ := tabF hT HL.out HLP.out
  clear hT
  replace HG := Lib.hid (HG.out.later bel (Nat.le_refl _))
  replace HT := Lib.hid (HT.out.later bel (Nat.le_refl _))
  replace HK := Lib.hid (HK.out.later bel (Nat.le_refl _))
  replace HR := Lib.hid (HR.out.later bel (Nat.le_refl _))
  replace HR2 := Lib.hid (HR2.out.later bel (Nat.le_refl _))
  replace HA3 := Lib.hid (HA3.out.later bel (Nat.le_refl _))
  replace HR4 := Lib.hid (HR4.out.later bel (Nat.le_refl _))
  replace HR5 := Lib.hid (HR5.out.later bel (Nat.le_refl _))
  replace HX := Lib.hid (HX.out.later bel (Nat.le_refl _))
  replace HB := Lib.hid (HB.out.trans (bel.mono (by rw [← HGG.out]; exact HB.out.size)))
  have RM := Lib.hid hmr
  have PM := Lib.hid hmp
  clear bel hmr hmp
  go_upto_region 5 with fail
  have bel := (Below.refl w5.heap.size w5).alloc (Nat.le_refl _) (.cells #[.slice Am n4 cm, .slice Bm n4 dm] 32)
  have HM := Lib.hid (Holds.new w5 32 #[.slice Am n4 cm, .slice Bm n4 dm] w5.heap.size rfl)
  generalize w5.alloc (.cells #[.slice Am n4 cm, .slice Bm n4 dm] 32) = w6 at bel HM ⊢
  replace HG := Lib.hid (HG.out.later bel (Nat.le_refl _))
  replace HT := Lib.hid (HT.out.later bel (Nat.le_refl _))
  replace HK := Lib.hid (HK.out.later bel (Nat.le_refl _))
  replace HR := Lib.hid (HR.out.later bel (Nat.le_refl _))
  replace HR2 := Lib.hid (HR2.out.later bel (Nat.le_refl _))
  replace HA3 := Lib.hid (HA3.out.later bel (Nat.le_refl _))
  replace HR4 := Lib.hid (HR4.out.later bel (Nat.le_refl _))
  replace HR5 := Lib.hid (HR5.out.later bel (Nat.le_refl _))
  replace HX := Lib.hid (HX.out.later bel (Nat.le_refl _))
  replace RM := Lib.hid (RM.out.later bel (Nat.le_refl _))
  replace PM := Lib.hid (PM.out.later bel (Nat.le_refl _))
  replace HB := Lib.hid (HB.out.trans (bel.mono (by rw [← HGG.out]; exact HB.out.size)))
  clear bel
  have x0 := HX.out.cell 0
  have x1 := HX.out.cell 1
  simp at x0 x1
  have k0 := HK.out.cell 0
  have k1 := HK.out.cell 1
  have k2 := HK.out.cell 2
  simp at k0 k1 k2
  have m0 := HM.out.cell 0
  have m1 := HM.out.cell 1
  simp at m0 m1
  have QD := Lib.hid (rdim_any A4 n4 c4 vs4 rows w6 HL4.out hn4 HR4.out)
  rw [HDM.out] at QD
  go_wp2_with fail
  with_reducible refine QD.out.mono ?_
  clear QD
  rintro e wd ⟨rfl, rfl⟩
  have QH := Lib.hid ((hidden_yes A n4 c vs own A2 c2 vs2 P A4 c4 vs4 rows d w6 HR.out HR2.out HR4.out SH.out HF.out U1.out U2.out U4.out).mono fun e w' h => hidF h (show _ = n4 from by rw [VE.hid_length, HL4.out]))
  go_wp2_with fail
  with_reducible refine (QH.out).mono ?_
  rintro e w7 ⟨Ah, ch, vh, rfl, hh, bel⟩
  replace HG := Lib.hid (HG.out.later bel (Nat.le_refl _))
  replace HT := Lib.hid (HT.out.later bel (Nat.le_refl _))
  replace HK := Lib.hid (HK.out.later bel (Nat.le_refl _))
  replace HR := Lib.hid (HR.out.later bel (Nat.le_refl _))
  replace HR2 := Lib.hid (HR2.out.later bel (Nat.le_refl _))
  replace HA3 := Lib.hid (HA3.out.later bel (Nat.le_refl _))
  replace HR4 := Lib.hid (HR4.out.later bel (Nat.le_refl _))
  replace HR5 := Lib.hid (HR5.out.later bel (Nat.le_refl _))
  replace HX := Lib.hid (HX.out.later bel (Nat.le_refl _))
  replace RM := Lib.hid (RM.out.later bel (Nat.le_refl _))
  replace PM := Lib.hid (PM.out.later bel (Nat.le_refl _))
  replace HM := Lib.hid (HM.out.later bel (Nat.le_refl _))
  replace HB := Lib.hid (HB.out.trans (bel.mono (by rw [← HGG.out]; exact HB.out.size)))
  have RH := Lib.hid hh
  clear hh QH
  clear bel
  clear x0 x1
  clear k0 k1 k2
  clear m0 m1
  have x0 := HX.out.cell 0
  have x1 := HX.out.cell 1
  simp at x0 x1
  have k0 := HK.out.cell 0
  have k1 := HK.out.cell 1
  have k2 := HK.out.cell 2
  simp at k0 k1 k2
  have m0 := HM.out.cell 0
  have m1 := HM.out.cell 1
  simp at m0 m1
  have QH := Lib.hid ((hidden_yes Am n4 cm vm own Bm dm um P' A5 c5 vs5 other d w7 RM.out PM.out HR5.out SH2.out F2.out U1.out U6.out U5.out).mono fun e w' h => hidF h (show _ = n4 from by rw [VE.hid_length, HL5.out]))
  go_wp2_with fail
  with_reducible refine (QH.out).mono ?_
  rintro e w8 ⟨Au, cu, vu, rfl, hh, bel⟩
  replace HG := Lib.hid (HG.out.later bel (Nat.le_refl _))
  replace HT := Lib.hid (HT.out.later bel (Nat.le_refl _))
  replace HK := Lib.hid (HK.out.later bel (Nat.le_refl _))
  replace HR := Lib.hid (HR.out.later bel (Nat.le_refl _))
  replace HR2 := Lib.hid (HR2.out.later bel (Nat.le_refl _))
  replace HA3 := Lib.hid (HA3.out.later bel (Nat.le_refl _))
  replace HR4 := Lib.hid (HR4.out.later bel (Nat.le_refl _))
  replace HR5 := Lib.hid (HR5.out.later bel (Nat.le_refl _))
  replace HX := Lib.hid (HX.out.later bel (Nat.le_refl _))
  replace RM := Lib.hid (RM.out.later bel (Nat.le_refl _))
  replace PM := Lib.hid (PM.out.later bel (Nat.le_refl _))
  replace HM := Lib.hid (HM.out.later bel (Nat.le_refl _))
  replace RH := Lib.hid (RH.out.later bel (Nat.le_refl _))
  replace HB := Lib.hid (HB.out.trans (bel.mono (by rw [← HGG.out]; exact HB.out.size)))
  have RU := Lib.hid hh
  clear hh QH
  clear bel
  clear x0 x1
  clear k0 k1 k2
  clear m0 m1
  have x0 := HX.out.cell 0
  have x1 := HX.out.cell 1
  simp at x0 x1
  have k0 := HK.out.cell 0
  have k1 := HK.out.cell 1
  have k2 := HK.out.cell 2
  simp at k0 k1 k2
  have m0 := HM.out.cell 0
  have m1 := HM.out.cell 1
  simp at m0 m1
  have QH := Lib.hid ((shown_yes A n4 c vs own A2 c2 vs2 P A3 n3 c3 came d w8 HL.out N64 HR.out HL2.out HR2.out (fun i hi => by rw [SH.out.od i hi]; exact D32) SH.out.pl (fun i j hi hj => by rw [pairOf_getD, SH.out.pd i _ (by omega) (by rw [SH.out.pl i hi] at hj; omega)]; exact D32) HL3.out hn3 HA3.out TM1.out HPL.out).mono fun e w' h => tabF h (show _ = n4 from by rw [shO_length, HL.out]) (show _ = n4 from by rw [shP_length, HL2.out]))
  go_wp2_with fail
  with_reducible refine (QH.out).mono ?_
  rintro e w9 ⟨As, cs, v1, Bs, ds, y1, rfl, hm1, hp1, bel⟩
  replace HG := Lib.hid (HG.out.later bel (Nat.le_refl _))
  replace HT := Lib.hid (HT.out.later bel (Nat.le_refl _))
  replace HK := Lib.hid (HK.out.later bel (Nat.le_refl _))
  replace HR := Lib.hid (HR.out.later bel (Nat.le_refl _))
  replace HR2 := Lib.hid (HR2.out.later bel (Nat.le_refl _))
  replace HA3 := Lib.hid (HA3.out.later bel (Nat.le_refl _))
  replace HR4 := Lib.hid (HR4.out.later bel (Nat.le_refl _))
  replace HR5 := Lib.hid (HR5.out.later bel (Nat.le_refl _))
  replace HX := Lib.hid (HX.out.later bel (Nat.le_refl _))
  replace RM := Lib.hid (RM.out.later bel (Nat.le_refl _))
  replace PM := Lib.hid (PM.out.later bel (Nat.le_refl _))
  replace HM := Lib.hid (HM.out.later bel (Nat.le_refl _))
  replace RH := Lib.hid (RH.out.later bel (Nat.le_refl _))
  replace RU := Lib.hid (RU.out.later bel (Nat.le_refl _))
  replace HB := Lib.hid (HB.out.trans (bel.mono (by rw [← HGG.out]; exact HB.out.size)))
  have RS := Lib.hid hm1
  have PS := Lib.hid hp1
  clear hm1 hp1 QH
  clear bel
  clear x0 x1
  clear k0 k1 k2
  clear m0 m1
  go_upto_region 11 with fail
  have bel := (Below.refl w9.heap.size w9).alloc (Nat.le_refl _) (.cells #[.slice As n4 cs, .slice Bs n4 ds] 32)
  have HS := Lib.hid (Holds.new w9 32 #[.slice As n4 cs, .slice Bs n4 ds] w9.heap.size rfl)
  generalize w9.alloc (.cells #[.slice As n4 cs, .slice Bs n4 ds] 32) = w10 at bel HS ⊢
  replace HG := Lib.hid (HG.out.later bel (Nat.le_refl _))
  replace HT := Lib.hid (HT.out.later bel (Nat.le_refl _))
  replace HK := Lib.hid (HK.out.later bel (Nat.le_refl _))
  replace HR := Lib.hid (HR.out.later bel (Nat.le_refl _))
  replace HR2 := Lib.hid (HR2.out.later bel (Nat.le_refl _))
  replace HA3 := Lib.hid (HA3.out.later bel (Nat.le_refl _))
  replace HR4 := Lib.hid (HR4.out.later bel (Nat.le_refl _))
  replace HR5 := Lib.hid (HR5.out.later bel (Nat.le_refl _))
  replace HX := Lib.hid (HX.out.later bel (Nat.le_refl _))
  replace RM := Lib.hid (RM.out.later bel (Nat.le_refl _))
  replace PM := Lib.hid (PM.out.later bel (Nat.le_refl _))
  replace HM := Lib.hid (HM.out.later bel (Nat.le_refl _))
  replace RH := Lib.hid (RH.out.later bel (Nat.le_refl _))
  replace RU := Lib.hid (RU.out.later bel (Nat.le_refl _))
  replace RS := Lib.hid (RS.out.later bel (Nat.le_refl _))
  replace PS := Lib.hid (PS.out.later bel (Nat.le_refl _))
  replace HB := Lib.hid (HB.out.trans (bel.mono (by rw [← HGG.out]; exact HB.out.size)))
  clear bel
  have x0 := HX.out.cell 0
  have x1 := HX.out.cell 1
  simp at x0 x1
  have k0 := HK.out.cell 0
  have k1 := HK.out.cell 1
  have k2 := HK.out.cell 2
  simp at k0 k1 k2
  have m0 := HM.out.cell 0
  have m1 := HM.out.cell 1
  simp at m0 m1
  have QH := Lib.hid ((shown_yes Am n4 cm vm own Bm dm um P' A3 n3 c3 came d w10 HL.out N64 RM.out HLP.out PM.out (fun i hi => by rw [SH2.out.od i hi]; exact D32) SH2.out.pl (fun i j hi hj => by rw [pairOf_getD, SH2.out.pd i _ (by omega) (by rw [SH2.out.pl i hi] at hj; omega)]; exact D32) HL3.out hn3 HA3.out TM2.out HPL.out).mono fun e w' h => tabF h (show _ = n4 from by rw [shO_length, HL.out]) (show _ = n4 from by rw [shP_length, HLP.out]))
  go_wp2_with fail
  with_reducible refine (QH.out).mono ?_
  rintro e w11 ⟨Av, cv, v2, Bv, dv, y2, rfl, hm1, hp1, bel⟩
  replace HG := Lib.hid (HG.out.later bel (Nat.le_refl _))
  replace HT := Lib.hid (HT.out.later bel (Nat.le_refl _))
  replace HK := Lib.hid (HK.out.later bel (Nat.le_refl _))
  replace HR := Lib.hid (HR.out.later bel (Nat.le_refl _))
  replace HR2 := Lib.hid (HR2.out.later bel (Nat.le_refl _))
  replace HA3 := Lib.hid (HA3.out.later bel (Nat.le_refl _))
  replace HR4 := Lib.hid (HR4.out.later bel (Nat.le_refl _))
  replace HR5 := Lib.hid (HR5.out.later bel (Nat.le_refl _))
  replace HX := Lib.hid (HX.out.later bel (Nat.le_refl _))
  replace RM := Lib.hid (RM.out.later bel (Nat.le_refl _))
  replace PM := Lib.hid (PM.out.later bel (Nat.le_refl _))
  replace HM := Lib.hid (HM.out.later bel (Nat.le_refl _))
  replace RH := Lib.hid (RH.out.later bel (Nat.le_refl _))
  replace RU := Lib.hid (RU.out.later bel (Nat.le_refl _))
  replace RS := Lib.hid (RS.out.later bel (Nat.le_refl _))
  replace PS := Lib.hid (PS.out.later bel (Nat.le_refl _))
  replace HS := Lib.hid (HS.out.later bel (Nat.le_refl _))
  replace HB := Lib.hid (HB.out.trans (bel.mono (by rw [← HGG.out]; exact HB.out.size)))
  rw [HSHW.out] at hp1
  have RV := Lib.hid hm1
  have PV := Lib.hid hp1
  clear hm1 hp1 QH
  clear bel
  clear x0 x1
  clear k0 k1 k2
  clear m0 m1
  go_upto_region 12 with fail
  have bel := (Below.refl w11.heap.size w11).alloc (Nat.le_refl _) (.cells #[.slice Av n4 cv, .slice Bv n4 dv] 32)
  have HV := Lib.hid (Holds.new w11 32 #[.slice Av n4 cv, .slice Bv n4 dv] w11.heap.size rfl)
  generalize w11.alloc (.cells #[.slice Av n4 cv, .slice Bv n4 dv] 32) = w12 at bel HV ⊢
  replace HG := Lib.hid (HG.out.later bel (Nat.le_refl _))
  replace HT := Lib.hid (HT.out.later bel (Nat.le_refl _))
  replace HK := Lib.hid (HK.out.later bel (Nat.le_refl _))
  replace HR := Lib.hid (HR.out.later bel (Nat.le_refl _))
  replace HR2 := Lib.hid (HR2.out.later bel (Nat.le_refl _))
  replace HA3 := Lib.hid (HA3.out.later bel (Nat.le_refl _))
  replace HR4 := Lib.hid (HR4.out.later bel (Nat.le_refl _))
  replace HR5 := Lib.hid (HR5.out.later bel (Nat.le_refl _))
  replace HX := Lib.hid (HX.out.later bel (Nat.le_refl _))
  replace RM := Lib.hid (RM.out.later bel (Nat.le_refl _))
  replace PM := Lib.hid (PM.out.later bel (Nat.le_refl _))
  replace HM := Lib.hid (HM.out.later bel (Nat.le_refl _))
  replace RH := Lib.hid (RH.out.later bel (Nat.le_refl _))
  replace RU := Lib.hid (RU.out.later bel (Nat.le_refl _))
  replace RS := Lib.hid (RS.out.later bel (Nat.le_refl _))
  replace PS := Lib.hid (PS.out.later bel (Nat.le_refl _))
  replace HS := Lib.hid (HS.out.later bel (Nat.le_refl _))
  replace RV := Lib.hid (RV.out.later bel (Nat.le_refl _))
  replace PV := Lib.hid (PV.out.later bel (Nat.le_refl _))
  replace HB := Lib.hid (HB.out.trans (bel.mono (by rw [← HGG.out]; exact HB.out.size)))
  clear bel
  have x0 := HX.out.cell 0
  have x1 := HX.out.cell 1
  simp at x0 x1
  have k0 := HK.out.cell 0
  have k1 := HK.out.cell 1
  have k2 := HK.out.cell 2
  simp at k0 k1 k2
  have m0 := HM.out.cell 0
  have m1 := HM.out.cell 1
  simp at m0 m1
  have QM := Lib.hid (moved_any Am n4 cm vm own Bm n4 dm um P' A3 n3 c3 came A5 n4 c5 vs5 other A4 n4 c4 vs4 rows w12 HL.out hn RM.out HLP.out hn2 PM.out HL3.out hn3 hnc3 HA3.out HL5.out hn5 HR5.out HL4.out hn4 HR4.out U6.out U5.out U4.out)
  go_wp2_with fail
  with_reducible refine QM.out.mono ?_
  clear QM
  clear x0 x1
  clear k0 k1 k2
  clear m0 m1
  rintro e w13 (⟨hh, _⟩ | ⟨_, hh, _⟩ | ⟨_, _, hT⟩)
  · exact absurd HARG2.out hh
  · exact absurd HSUM2.out hh
  rw [HBK.out] at hT
  obtain ⟨Ab, cb, vb, Bb, db, ub, rfl, hmr, hmp, bel⟩ := tabF hT HL.out HL2.out
  clear hT
  replace HG := Lib.hid (HG.out.later bel (Nat.le_refl _))
  replace HT := Lib.hid (HT.out.later bel (Nat.le_refl _))
  replace HK := Lib.hid (HK.out.later bel (Nat.le_refl _))
  replace HR := Lib.hid (HR.out.later bel (Nat.le_refl _))
  replace HR2 := Lib.hid (HR2.out.later bel (Nat.le_refl _))
  replace HA3 := Lib.hid (HA3.out.later bel (Nat.le_refl _))
  replace HR4 := Lib.hid (HR4.out.later bel (Nat.le_refl _))
  replace HR5 := Lib.hid (HR5.out.later bel (Nat.le_refl _))
  replace HX := Lib.hid (HX.out.later bel (Nat.le_refl _))
  replace RM := Lib.hid (RM.out.later bel (Nat.le_refl _))
  replace PM := Lib.hid (PM.out.later bel (Nat.le_refl _))
  replace HM := Lib.hid (HM.out.later bel (Nat.le_refl _))
  replace RH := Lib.hid (RH.out.later bel (Nat.le_refl _))
  replace RU := Lib.hid (RU.out.later bel (Nat.le_refl _))
  replace RS := Lib.hid (RS.out.later bel (Nat.le_refl _))
  replace PS := Lib.hid (PS.out.later bel (Nat.le_refl _))
  replace HS := Lib.hid (HS.out.later bel (Nat.le_refl _))
  replace RV := Lib.hid (RV.out.later bel (Nat.le_refl _))
  replace PV := Lib.hid (PV.out.later bel (Nat.le_refl _))
  replace HV := Lib.hid (HV.out.later bel (Nat.le_refl _))
  replace HB := Lib.hid (HB.out.trans (bel.mono (by rw [← HGG.out]; exact HB.out.size)))
  have RB := Lib.hid hmr
  have PB := Lib.hid hmp
  clear bel hmr hmp
  go_upto_region 13 with fail
  have bel := (Below.refl w13.heap.size w13).alloc (Nat.le_refl _) (.cells #[.slice Ab n4 cb, .slice Bb n4 db] 32)
  have HBX := Lib.hid (Holds.new w13 32 #[.slice Ab n4 cb, .slice Bb n4 db] w13.heap.size rfl)
  generalize w13.alloc (.cells #[.slice Ab n4 cb, .slice Bb n4 db] 32) = w14 at bel HBX ⊢
  replace HG := Lib.hid (HG.out.later bel (Nat.le_refl _))
  replace HT := Lib.hid (HT.out.later bel (Nat.le_refl _))
  replace HK := Lib.hid (HK.out.later bel (Nat.le_refl _))
  replace HR := Lib.hid (HR.out.later bel (Nat.le_refl _))
  replace HR2 := Lib.hid (HR2.out.later bel (Nat.le_refl _))
  replace HA3 := Lib.hid (HA3.out.later bel (Nat.le_refl _))
  replace HR4 := Lib.hid (HR4.out.later bel (Nat.le_refl _))
  replace HR5 := Lib.hid (HR5.out.later bel (Nat.le_refl _))
  replace HX := Lib.hid (HX.out.later bel (Nat.le_refl _))
  replace RM := Lib.hid (RM.out.later bel (Nat.le_refl _))
  replace PM := Lib.hid (PM.out.later bel (Nat.le_refl _))
  replace HM := Lib.hid (HM.out.later bel (Nat.le_refl _))
  replace RH := Lib.hid (RH.out.later bel (Nat.le_refl _))
  replace RU := Lib.hid (RU.out.later bel (Nat.le_refl _))
  replace RS := Lib.hid (RS.out.later bel (Nat.le_refl _))
  replace PS := Lib.hid (PS.out.later bel (Nat.le_refl _))
  replace HS := Lib.hid (HS.out.later bel (Nat.le_refl _))
  replace RV := Lib.hid (RV.out.later bel (Nat.le_refl _))
  replace PV := Lib.hid (PV.out.later bel (Nat.le_refl _))
  replace HV := Lib.hid (HV.out.later bel (Nat.le_refl _))
  replace RB := Lib.hid (RB.out.later bel (Nat.le_refl _))
  replace PB := Lib.hid (PB.out.later bel (Nat.le_refl _))
  replace HB := Lib.hid (HB.out.trans (bel.mono (by rw [← HGG.out]; exact HB.out.size)))
  clear bel
  have s0 := HS.out.cell 0
  have s1 := HS.out.cell 1
  simp at s0 s1
  have z0 := HV.out.cell 0
  have z1 := HV.out.cell 1
  simp at z0 z1
  have b0 := HBX.out.cell 0
  have b1 := HBX.out.cell 1
  simp at b0 b1
  have t0 := HT.out.cell 0
  have t1 := HT.out.cell 1
  simp at t0 t1
  have Q := Lib.hid (rows_yes (lrows_any Ah n4 ch vh Au n4 cu vu _ _ w14 (by rw [VE.hid_length, HL4.out]) hn RH.out (by rw [VE.hid_length, HL5.out]) hn RU.out) HHID.out)
  go_wp2_with fail
  with_reducible refine (Q.out).mono ?_
  rintro e w15 ⟨rfl, bel⟩
  replace HG := Lib.hid (HG.out.later bel (Nat.le_refl _))
  replace HT := Lib.hid (HT.out.later bel (Nat.le_refl _))
  replace HK := Lib.hid (HK.out.later bel (Nat.le_refl _))
  replace HR := Lib.hid (HR.out.later bel (Nat.le_refl _))
  replace HR2 := Lib.hid (HR2.out.later bel (Nat.le_refl _))
  replace HA3 := Lib.hid (HA3.out.later bel (Nat.le_refl _))
  replace HR4 := Lib.hid (HR4.out.later bel (Nat.le_refl _))
  replace HR5 := Lib.hid (HR5.out.later bel (Nat.le_refl _))
  replace HX := Lib.hid (HX.out.later bel (Nat.le_refl _))
  replace RM := Lib.hid (RM.out.later bel (Nat.le_refl _))
  replace PM := Lib.hid (PM.out.later bel (Nat.le_refl _))
  replace HM := Lib.hid (HM.out.later bel (Nat.le_refl _))
  replace RH := Lib.hid (RH.out.later bel (Nat.le_refl _))
  replace RU := Lib.hid (RU.out.later bel (Nat.le_refl _))
  replace RS := Lib.hid (RS.out.later bel (Nat.le_refl _))
  replace PS := Lib.hid (PS.out.later bel (Nat.le_refl _))
  replace HS := Lib.hid (HS.out.later bel (Nat.le_refl _))
  replace RV := Lib.hid (RV.out.later bel (Nat.le_refl _))
  replace PV := Lib.hid (PV.out.later bel (Nat.le_refl _))
  replace HV := Lib.hid (HV.out.later bel (Nat.le_refl _))
  replace RB := Lib.hid (RB.out.later bel (Nat.le_refl _))
  replace PB := Lib.hid (PB.out.later bel (Nat.le_refl _))
  replace HBX := Lib.hid (HBX.out.later bel (Nat.le_refl _))
  replace HB := Lib.hid (HB.out.trans (bel.mono (by rw [← HGG.out]; exact HB.out.size)))
  clear Q
  clear bel
  clear s0 s1
  clear z0 z1
  clear b0 b1
  clear t0 t1
  have s0 := HS.out.cell 0
  have s1 := HS.out.cell 1
  simp at s0 s1
  have z0 := HV.out.cell 0
  have z1 := HV.out.cell 1
  simp at z0 z1
  have b0 := HBX.out.cell 0
  have b1 := HBX.out.cell 1
  simp at b0 b1
  have t0 := HT.out.cell 0
  have t1 := HT.out.cell 1
  simp at t0 t1
  have Q := Lib.hid (rows_yes (ltabs_any As n4 cs v1 _ Bs n4 ds y1 _ Av n4 cv v2 _ Bv n4 dv y2 _ w15 (by rw [shO_length, HL.out]) hn RS.out (by rw [shP_length, HL2.out]) hn PS.out (by rw [shO_length, HL.out]) hn RV.out (by rw [shP_length, HL2.out]) hn PV.out) ⟨rfl, rfl⟩)
  go_wp2_with fail
  with_reducible refine (Q.out).mono ?_
  rintro e w16 ⟨rfl, bel⟩
  replace HG := Lib.hid (HG.out.later bel (Nat.le_refl _))
  replace HT := Lib.hid (HT.out.later bel (Nat.le_refl _))
  replace HK := Lib.hid (HK.out.later bel (Nat.le_refl _))
  replace HR := Lib.hid (HR.out.later bel (Nat.le_refl _))
  replace HR2 := Lib.hid (HR2.out.later bel (Nat.le_refl _))
  replace HA3 := Lib.hid (HA3.out.later bel (Nat.le_refl _))
  replace HR4 := Lib.hid (HR4.out.later bel (Nat.le_refl _))
  replace HR5 := Lib.hid (HR5.out.later bel (Nat.le_refl _))
  replace HX := Lib.hid (HX.out.later bel (Nat.le_refl _))
  replace RM := Lib.hid (RM.out.later bel (Nat.le_refl _))
  replace PM := Lib.hid (PM.out.later bel (Nat.le_refl _))
  replace HM := Lib.hid (HM.out.later bel (Nat.le_refl _))
  replace RH := Lib.hid (RH.out.later bel (Nat.le_refl _))
  replace RU := Lib.hid (RU.out.later bel (Nat.le_refl _))
  replace RS := Lib.hid (RS.out.later bel (Nat.le_refl _))
  replace PS := Lib.hid (PS.out.later bel (Nat.le_refl _))
  replace HS := Lib.hid (HS.out.later bel (Nat.le_refl _))
  replace RV := Lib.hid (RV.out.later bel (Nat.le_refl _))
  replace PV := Lib.hid (PV.out.later bel (Nat.le_refl _))
  replace HV := Lib.hid (HV.out.later bel (Nat.le_refl _))
  replace RB := Lib.hid (RB.out.later bel (Nat.le_refl _))
  replace PB := Lib.hid (PB.out.later bel (Nat.le_refl _))
  replace HBX := Lib.hid (HBX.out.later bel (Nat.le_refl _))
  replace HB := Lib.hid (HB.out.trans (bel.mono (by rw [← HGG.out]; exact HB.out.size)))
  clear Q
  clear bel
  clear s0 s1
  clear z0 z1
  clear b0 b1
  clear t0 t1
  have s0 := HS.out.cell 0
  have s1 := HS.out.cell 1
  simp at s0 s1
  have z0 := HV.out.cell 0
  have z1 := HV.out.cell 1
  simp at z0 z1
  have b0 := HBX.out.cell 0
  have b1 := HBX.out.cell 1
  simp at b0 b1
  have t0 := HT.out.cell 0
  have t1 := HT.out.cell 1
  simp at t0 t1
  have Q := Lib.hid (rows_yes (ltabs_any Ab n4 cb vb _ Bb n4 db ub _ A n4 c vs _ A2 n4 c2 vs2 _ w16 HL.out hn RB.out HL2.out hn PB.out HL.out hn HR.out HL2.out hn HR2.out) ⟨rfl, rfl⟩)
  go_wp2_with fail
  with_reducible refine (Q.out).mono ?_
  rintro e w17 ⟨rfl, bel⟩
  replace HG := Lib.hid (HG.out.later bel (Nat.le_refl _))
  replace HT := Lib.hid (HT.out.later bel (Nat.le_refl _))
  replace HK := Lib.hid (HK.out.later bel (Nat.le_refl _))
  replace HR := Lib.hid (HR.out.later bel (Nat.le_refl _))
  replace HR2 := Lib.hid (HR2.out.later bel (Nat.le_refl _))
  replace HA3 := Lib.hid (HA3.out.later bel (Nat.le_refl _))
  replace HR4 := Lib.hid (HR4.out.later bel (Nat.le_refl _))
  replace HR5 := Lib.hid (HR5.out.later bel (Nat.le_refl _))
  replace HX := Lib.hid (HX.out.later bel (Nat.le_refl _))
  replace RM := Lib.hid (RM.out.later bel (Nat.le_refl _))
  replace PM := Lib.hid (PM.out.later bel (Nat.le_refl _))
  replace HM := Lib.hid (HM.out.later bel (Nat.le_refl _))
  replace RH := Lib.hid (RH.out.later bel (Nat.le_refl _))
  replace RU := Lib.hid (RU.out.later bel (Nat.le_refl _))
  replace RS := Lib.hid (RS.out.later bel (Nat.le_refl _))
  replace PS := Lib.hid (PS.out.later bel (Nat.le_refl _))
  replace HS := Lib.hid (HS.out.later bel (Nat.le_refl _))
  replace RV := Lib.hid (RV.out.later bel (Nat.le_refl _))
  replace PV := Lib.hid (PV.out.later bel (Nat.le_refl _))
  replace HV := Lib.hid (HV.out.later bel (Nat.le_refl _))
  replace RB := Lib.hid (RB.out.later bel (Nat.le_refl _))
  replace PB := Lib.hid (PB.out.later bel (Nat.le_refl _))
  replace HBX := Lib.hid (HBX.out.later bel (Nat.le_refl _))
  replace HB := Lib.hid (HB.out.trans (bel.mono (by rw [← HGG.out]; exact HB.out.size)))
  clear Q
  clear bel
  clear s0 s1
  clear z0 z1
  clear b0 b1
  clear t0 t1
  go_wp2_with fail
  with_reducible refine (sure37 w17 HG.out).mono ?_
  rintro e w18 ⟨rfl, bel⟩
  replace HG := Lib.hid (HG.out.later bel (Nat.le_refl _))
  replace HT := Lib.hid (HT.out.later bel (Nat.le_refl _))
  replace HK := Lib.hid (HK.out.later bel (Nat.le_refl _))
  replace HR := Lib.hid (HR.out.later bel (Nat.le_refl _))
  replace HR2 := Lib.hid (HR2.out.later bel (Nat.le_refl _))
  replace HA3 := Lib.hid (HA3.out.later bel (Nat.le_refl _))
  replace HR4 := Lib.hid (HR4.out.later bel (Nat.le_refl _))
  replace HR5 := Lib.hid (HR5.out.later bel (Nat.le_refl _))
  replace HX := Lib.hid (HX.out.later bel (Nat.le_refl _))
  replace RM := Lib.hid (RM.out.later bel (Nat.le_refl _))
  replace PM := Lib.hid (PM.out.later bel (Nat.le_refl _))
  replace HM := Lib.hid (HM.out.later bel (Nat.le_refl _))
  replace RH := Lib.hid (RH.out.later bel (Nat.le_refl _))
  replace RU := Lib.hid (RU.out.later bel (Nat.le_refl _))
  replace RS := Lib.hid (RS.out.later bel (Nat.le_refl _))
  replace PS := Lib.hid (PS.out.later bel (Nat.le_refl _))
  replace HS := Lib.hid (HS.out.later bel (Nat.le_refl _))
  replace RV := Lib.hid (RV.out.later bel (Nat.le_refl _))
  replace PV := Lib.hid (PV.out.later bel (Nat.le_refl _))
  replace HV := Lib.hid (HV.out.later bel (Nat.le_refl _))
  replace RB := Lib.hid (RB.out.later bel (Nat.le_refl _))
  replace PB := Lib.hid (PB.out.later bel (Nat.le_refl _))
  replace HBX := Lib.hid (HBX.out.later bel (Nat.le_refl _))
  replace HB := Lib.hid (HB.out.trans (bel.mono (by rw [← HGG.out]; exact HB.out.size)))
  clear bel
  go_wp2_with fail
  go_ret
  exact ⟨rfl, by rw [HGG.out]; exact HB.out⟩
end
end Go.Proofs.YtmdilfgeogedpaaDoor
