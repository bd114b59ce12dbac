/- Layer 14: the program's Decode: what it walks through. Layer 14: Decode's short ends. The library's bytes.Equal. -/
import Derived.Test.YtodimanghmepoaaDoorLfC
namespace Go.Proofs.YtodimanghmepoaaDoor
open Go.RowKit
/-- the fields of a packet -/
def pkF (a b : Int) (c : Bool) (d e : Int) (A : Option Addr) (n k : Nat) : Array Value := #[.int .i64 a, .int .i64 b, .bool c, .int .i64 d, .int .i64 e, .slice A n k]
theorem far_pk {w : World} {q : Nat} {a b : Int} {c : Bool} {d e : Int} {A2 : Option Addr} {n k : Nat} {A : Option Addr} {l : List Nat} (hH : Holds w q 80 (pkF a b c d e A2 n k)) (ha : At w A (nats .u8 l)) (h0 : l ≠ []) : blk A ≠ some q := by
  intro e
  obtain ⟨b', o', rfl, hc⟩ := ha.nat 0 (by cases l with | nil => exact absurd rfl h0 | cons _ _ => simp)
  simp [blk] at e
  subst e
  have hx := hH.cell (o' + 0)
  rw [hc] at hx
  unfold pkF at hx
  match o', hx with
  | 0, hx => simp at hx
  | 1, hx => simp at hx
  | 2, hx => simp at hx
  | 3, hx => simp at hx
  | 4, hx => simp at hx
  | 5, hx => simp at hx
  | o + 6, hx => simp at hx
theorem Rd.setp {w : World} {g q : Nat} {l : List Nat} {x : Bool} {a b : Int} {c : Bool} {d e : Int} {A2 : Option Addr} {n k : Nat} (h : Rd w g l x) (hH : Holds w q 80 (pkF a b c d e A2 n k)) (hq : q ≠ g) (i : Nat) (u : Value) : Rd (w.setCell ⟨q, i, none⟩ u) g l x := by
  obtain ⟨A, c, H0, a0, a1, a2, a3, a4⟩ := h
  refine ⟨A, c, H0.far (fun e => hq e.symm) u, ?_, a1, a2, a3, a4⟩
  by_cases h0 : l = []
  · subst h0; exact At.nil _ _
  · exact a0.grown (grown_set (grown_refl w (some q)) i u) (.inr (far_pk hH a0 h0))
/-- the state of Decode: the reader, the packet, the result's block -/
structure Dec (w0 w : World) (g q : Nat) (l : List Nat) (x : Bool) (F : Array Value) : Prop where
  rd : Rd w g l x
  pk : Holds w q 80 F
  rs : Holds w w0.heap.size 80 (pkF 0 0 false 0 0 none 0 0)
  low : Below w0.heap.size w0 w
  g0 : w0.heap.size < g
  q0 : w0.heap.size < q
  gq : q ≠ g
theorem Dec.num {w0 w w' : World} {g q : Nat} {l l' : List Nat} {x x' : Bool} {F : Array Value} (h : Dec w0 w g q l x F) (hr : Rd w' g l' x') (hg : w.grownBy w' (some g)) : Dec w0 w' g q l' x' F :=
  ⟨hr, h.pk.grown hg (fun e => h.gq (by injection e with e; exact e.symm)), h.rs.grown hg (fun e => by injection e with e; have := h.g0; omega), h.low.grown hg h.low.size (fun k hk => by injection hk with hk; have := h.g0; omega), h.g0, h.q0, h.gq⟩
theorem Dec.set {w0 w : World} {g q : Nat} {l : List Nat} {x : Bool} {a b : Int} {c : Bool} {d e : Int} {A2 : Option Addr} {n k : Nat} (h : Dec w0 w g q l x (pkF a b c d e A2 n k)) (i : Nat) (u : Value) : Dec w0 (w.setCell ⟨q, i, none⟩ u) g q l x ((pkF a b c d e A2 n k).setIfInBounds i u) :=
  ⟨h.rd.setp h.pk h.gq i u, h.pk.set i u, h.rs.far (by have := h.q0; exact fun e => by simp at e; omega) u, h.low.setCell (by have := h.q0; exact Nat.le_of_lt this) u, h.g0, h.q0, h.gq⟩
theorem Dec.later {w0 w w' : World} {g q : Nat} {l : List Nat} {x : Bool} {F : Array Value} (h : Dec w0 w g q l x F) (hb : Below w.heap.size w w') : Dec w0 w' g q l x F := by
  obtain ⟨⟨A, c, h0, h1, h2, h3, h4, h5⟩, p1, p2, p3, p4, p5, p6⟩ := h
  exact ⟨⟨A, c, h0.later hb (Nat.le_refl _), h1.later hb (Nat.le_refl _), h2, h3, h4, h5⟩, p1.later hb (Nat.le_refl _), p2.later hb (Nat.le_refl _), p3.trans (hb.mono p3.size), p4, p5, p6⟩
/-- what Decode reads, and how it ends -/
def DecE (w : World) (i0 : List Nat) (e : Ending) (w' : World) : Prop :=
  ∃ (v1 v2 v3 v4 v5 : Nat) (i1 i2 i3 i4 i5 bd rest : List Nat) (x1 x2 x3 x4 x5 x6 : Bool),
    (rv i0 255 = v1 ∧ rl i0 255 = i1 ∧ (false || !rk i0 255) = x1) ∧ (rv i1 255 = v2 ∧ rl i1 255 = i2 ∧ (x1 || !rk i1 255) = x2) ∧ (rv i2 1 = v3 ∧ rl i2 1 = i3 ∧ (x2 || !rk i2 1) = x3) ∧
    (rv i3 1073741824 = v4 ∧ rl i3 1073741824 = i4 ∧ (x3 || !rk i3 1073741824) = x4) ∧ (rv i4 1073741824 = v5 ∧ rl i4 1073741824 = i5 ∧ (x4 || !rk i4 1073741824) = x5) ∧ (bb i5 = bd ∧ br i5 = rest ∧ (x5 || !bk i5) = x6) ∧
    Below w.heap.size w w' ∧
    (((x6 || !rest.isEmpty) = false ∧ FMay v1 v2 ((v3 : Int) == 1) v4 v5 bd.length ∧ ∃ A c, e = .returned (.tuple #[.agg (pkF v1 v2 ((v3 : Int) == 1) v4 v5 A bd.length c), .nilIface]) ∧ At w' A (nats .u8 bd) ∧ (∀ k, blk A = some k → w.heap.size ≤ k ∧ k < w'.heap.size)) ∨
     (((x6 || !rest.isEmpty) = true ∨ ¬ FMay v1 v2 ((v3 : Int) == 1) v4 v5 bd.length) ∧ e = .returned (.tuple #[.agg (pkF 0 0 false 0 0 none 0 0), .iface 70 (.int .i64 3)])))
set_option maxRecDepth 100000 in
set_option maxHeartbeats 4000000 in
theorem fdec_walk (b o m c : Nat) (l : List Nat) (w : World) (hl : l.length = m + 6) (hm : m ≤ 8294) (hc : m + 6 ≤ c) (hc2 : c ≤ 9223372036854775807) (hat : At w (some ⟨b, o, none⟩) (nats .u8 l)) (hb : ∀ y ∈ l, y < 256) (h67 : l.getD 0 0 = 67) (h85 : l.getD 1 0 = 85) (hf : Crc.Fits l = true) :
    Calls Tryd.prog 26 #[.slice (some ⟨b, o, none⟩) (m + 6) c] w (DecE w ((l.drop 2).take m)) := by
  have B0 := (Below.refl w.heap.size w).alloc (Nat.le_refl _) (.cells (pkF 0 0 false 0 0 none 0 0) 80)
  have A0 := hat.later B0 (Nat.le_refl _)
  have c0 : (w.alloc (.cells (pkF 0 0 false 0 0 none 0 0) 80)).cell? ⟨b, o, none⟩ = some (.int .u8 67) := by
    obtain ⟨b', o', e, h⟩ := A0.nat 0 (by omega)
    injection e with e; injection e with e1 e2; subst e1; subst e2
    rw [h67] at h; exact h
  have c1 : (w.alloc (.cells (pkF 0 0 false 0 0 none 0 0) 80)).cell? ⟨b, o + 1, none⟩ = some (.int .u8 85) := by
    obtain ⟨b', o', e, h⟩ := A0.nat 1 (by omega)
    injection e with e; injection e with e1 e2; subst e1; subst e2
    rw [h85] at h; exact h
  have K0 := Lib.hid (Holds.new w 80 (pkF 0 0 false 0 0 none 0 0) w.heap.size rfl)
  have FT := Lib.hid (fits_any (some ⟨b, o, none⟩) (m + 6) c l _ hl hc hc2 A0)
  have RD := Lib.hid (fun c' => read_any (some ⟨b, o + 2, none⟩) m c' ((l.drop 2).take m) _ (by simp; omega) (by omega) (by rw [nats_take, nats_drop]; exact A0.cut.take) (fun y hy => hb y (List.mem_of_mem_drop (List.mem_of_mem_take hy))))
  rw [hf] at FT
  unfold pkF at c0 c1 FT RD K0
  have HB := Lib.hid B0
  obtain ⟨n, hn⟩ : ∃ n, n = m + 6 := ⟨_, rfl⟩
  rw [← hn] at FT ⊢
  have d1 : ¬ 8300 < n := by omega
  have d2 : ¬ n < 6 := by omega
  have d5 : decide ((8300 : Int) < n) = false := decide_eq_false (by omega)
  have d6 : decide ((n : Int) < 6) = false := decide_eq_false (by omega)
  have d7 : 0 < n := by omega
  have d8 : 1 < n := by omega
  obtain ⟨t, ht⟩ : ∃ t, t = m + 2 := ⟨_, rfl⟩
  have e1 : (n : Int) - 4 = (t : Nat) := by omega
  have e2 : (2 : Int) ≤ t := by omega
  have e3 : 2 ≤ t := by omega
  have e4 : (t : Int) ≤ c := by omega
  have e5 : t ≤ c := by omega
  have e6 : ¬ c = 2 := by omega
  have e7 : (n : Int) ≤ 8300 := by omega
  have e8 : (t : Int) ≤ 8300 := by omega
  have HT := Lib.hid ht
  clear ht
  have HN := Lib.hid hn
  have HC := Lib.hid hc
  have HC2 := Lib.hid hc2
  have HM := Lib.hid hm
  clear hl hc hat hb h67 h85 hf A0 B0 hn hc2 hm
  go_enter Tryd.func26, Tryd.ntmps26
  go_upto_region 5 with fail
  go_wp2_with fail
  with_reducible refine FT.out.mono ?_
  rintro e w' ⟨rfl, rfl⟩
  clear c0 c1 FT d1 d2 d5 d6 d7 d8
  go_upto_region 7 with fail
  have RR := Lib.hid RD.out
  clear RD
  obtain ⟨i0, hi0⟩ : ∃ i0, List.take m (List.drop 2 l) = i0 := ⟨_, rfl⟩
  rw [hi0] at RR ⊢
  have HI := Lib.hid hi0
  clear hi0
  go_wp2_with fail
  have e9 : t - 2 = m := by have := HT.out; omega
  rw [e9]
  clear e1 e2 e3 e4 e5 e6 e7 e8 e9
  with_reducible refine (RR.out (c - 2)).mono ?_
  rintro e w1 ⟨g, rfl, hg, hrd, hbel⟩
  have D0 := Lib.hid (show Dec w (w1.alloc (.cells (pkF 0 0 false 0 0 none 0 0) 80)) g w1.heap.size i0 false (pkF 0 0 false 0 0 none 0 0) from by
    have hs : w.heap.size < (w.alloc (.cells (pkF 0 0 false 0 0 none 0 0) 80)).heap.size := by simp
    obtain ⟨A, c', h0, h1, h2, h3, h4, h5⟩ := hrd
    have hgl := h0.lt
    have NB := (Below.refl w1.heap.size w1).alloc (Nat.le_refl _) (.cells (pkF 0 0 false 0 0 none 0 0) 80)
    have hsz := hbel.size
    unfold pkF at *
    exact ⟨⟨A, c', h0.later NB (Nat.le_refl _), h1.later NB (Nat.le_refl _), h2, h3, h4, h5⟩, Holds.new w1 _ _ _ rfl, (K0.out.later hbel (Nat.le_refl _)).later NB (Nat.le_refl _), (HB.out.trans (hbel.mono (Nat.le_of_lt hs))).trans (NB.mono (by omega)), by omega, by omega, by omega⟩)
  clear hg hrd hbel
  -- NUMS
  have D0 := Lib.hid (show Dec w (w1.alloc (.cells #[.int .i64 0, .int .i64 0, .bool false, .int .i64 0, .int .i64 0, .slice none 0 0] 80)) g w1.heap.size i0 false (pkF 0 0 false 0 0 none 0 0) from D0.out)
  obtain ⟨q, hq⟩ : ∃ q, w1.heap.size = q := ⟨_, rfl⟩
  have HQ := Lib.hid hq
  rw [hq] at D0
  clear hq
  have Q := rnum_any 255 D0.out.rd
  rw [show ((255 : Nat) : Int) = 255 from rfl] at Q
  have bv := rv_le i0 255
  obtain ⟨v1, hv⟩ : ∃ v, rv i0 255 = v := ⟨_, rfl⟩
  obtain ⟨i1, hi⟩ : ∃ v, rl i0 255 = v := ⟨_, rfl⟩
  obtain ⟨x1, hx⟩ : ∃ v, (false || !rk i0 255) = v := ⟨_, rfl⟩
  rw [hv, hi, hx] at Q
  rw [hv] at bv
  have bv1 : (v1 : Int) ≤ 255 := by omega
  have HV1 := Lib.hid (show rv i0 255 = v1 ∧ rl i0 255 = i1 ∧ (false || !rk i0 255) = x1 from ⟨hv, hi, hx⟩)
  have Q1 := Lib.hid Q
  clear bv hv hi hx Q
  go_wp2_with fail
  try rw [HQ.out]
  with_reducible refine Q1.out.mono ?_
  rintro e w2 ⟨rfl, h1, h2⟩
  have E1 := Lib.hid (D0.out.num h1 h2)
  have cc1 := E1.out.pk.cell 0
  have ff1 := E1.out.pk.frozen 0
  simp [pkF] at cc1
  clear h1 h2 Q1
  have D1 := Lib.hid (show Dec w (w2.setCell ⟨q, 0, none⟩ (.int .i64 v1)) g q i1 x1 (pkF v1 0 false 0 0 none 0 0) from E1.out.set 0 (.int .i64 v1))
  clear E1
  have Q := rnum_any 255 D1.out.rd
  rw [show ((255 : Nat) : Int) = 255 from rfl] at Q
  have bv := rv_le i1 255
  obtain ⟨v2, hv⟩ : ∃ v, rv i1 255 = v := ⟨_, rfl⟩
  obtain ⟨i2, hi⟩ : ∃ v, rl i1 255 = v := ⟨_, rfl⟩
  obtain ⟨x2, hx⟩ : ∃ v, (x1 || !rk i1 255) = v := ⟨_, rfl⟩
  rw [hv, hi, hx] at Q
  rw [hv] at bv
  have bv2 : (v2 : Int) ≤ 255 := by omega
  have HV2 := Lib.hid (show rv i1 255 = v2 ∧ rl i1 255 = i2 ∧ (x1 || !rk i1 255) = x2 from ⟨hv, hi, hx⟩)
  have Q2 := Lib.hid Q
  clear bv hv hi hx Q
  go_wp2_with fail
  try rw [HQ.out]
  with_reducible refine Q2.out.mono ?_
  rintro e w3 ⟨rfl, h1, h2⟩
  have E2 := Lib.hid (D1.out.num h1 h2)
  have cc2 := E2.out.pk.cell 1
  have ff2 := E2.out.pk.frozen 1
  simp [pkF] at cc2
  clear h1 h2 Q2
  have D2 := Lib.hid (show Dec w (w3.setCell ⟨q, 1, none⟩ (.int .i64 v2)) g q i2 x2 (pkF v1 v2 false 0 0 none 0 0) from E2.out.set 1 (.int .i64 v2))
  clear E2
  have Q := rnum_any 1 D2.out.rd
  rw [show ((1 : Nat) : Int) = 1 from rfl] at Q
  have bv := rv_le i2 1
  obtain ⟨v3, hv⟩ : ∃ v, rv i2 1 = v := ⟨_, rfl⟩
  obtain ⟨i3, hi⟩ : ∃ v, rl i2 1 = v := ⟨_, rfl⟩
  obtain ⟨x3, hx⟩ : ∃ v, (x2 || !rk i2 1) = v := ⟨_, rfl⟩
  rw [hv, hi, hx] at Q
  rw [hv] at bv
  have bv3 : (v3 : Int) ≤ 1 := by omega
  have HV3 := Lib.hid (show rv i2 1 = v3 ∧ rl i2 1 = i3 ∧ (x2 || !rk i2 1) = x3 from ⟨hv, hi, hx⟩)
  have Q3 := Lib.hid Q
  clear bv hv hi hx Q
  go_wp2_with fail
  try rw [HQ.out]
  with_reducible refine Q3.out.mono ?_
  rintro e w4 ⟨rfl, h1, h2⟩
  have E3 := Lib.hid (D2.out.num h1 h2)
  have cc3 := E3.out.pk.cell 2
  have ff3 := E3.out.pk.frozen 2
  simp [pkF] at cc3
  clear h1 h2 Q3
  have D3 := Lib.hid (show Dec w (w4.setCell ⟨q, 2, none⟩ (.bool ((v3 : Int) == 1))) g q i3 x3 (pkF v1 v2 ((v3 : Int) == 1) 0 0 none 0 0) from E3.out.set 2 (.bool ((v3 : Int) == 1)))
  clear E3
  have Q := rnum_any 1073741824 D3.out.rd
  rw [show ((1073741824 : Nat) : Int) = 1073741824 from rfl] at Q
  have bv := rv_le i3 1073741824
  obtain ⟨v4, hv⟩ : ∃ v, rv i3 1073741824 = v := ⟨_, rfl⟩
  obtain ⟨i4, hi⟩ : ∃ v, rl i3 1073741824 = v := ⟨_, rfl⟩
  obtain ⟨x4, hx⟩ : ∃ v, (x3 || !rk i3 1073741824) = v := ⟨_, rfl⟩
  rw [hv, hi, hx] at Q
  rw [hv] at bv
  have bv4 : (v4 : Int) ≤ 1073741824 := by omega
  have HV4 := Lib.hid (show rv i3 1073741824 = v4 ∧ rl i3 1073741824 = i4 ∧ (x3 || !rk i3 1073741824) = x4 from ⟨hv, hi, hx⟩)
  have Q4 := Lib.hid Q
  clear bv hv hi hx Q
  go_wp2_with fail
  try rw [HQ.out]
  with_reducible refine Q4.out.mono ?_
  rintro e w5 ⟨rfl, h1, h2⟩
  have E4 := Lib.hid (D3.out.num h1 h2)
  have cc4 := E4.out.pk.cell 3
  have ff4 := E4.out.pk.frozen 3
  simp [pkF] at cc4
  clear h1 h2 Q4
  have D4 := Lib.hid (show Dec w (w5.setCell ⟨q, 3, none⟩ (.int .i64 v4)) g q i4 x4 (pkF v1 v2 ((v3 : Int) == 1) v4 0 none 0 0) from E4.out.set 3 (.int .i64 v4))
  clear E4
  have Q := rnum_any 1073741824 D4.out.rd
  rw [show ((1073741824 : Nat) : Int) = 1073741824 from rfl] at Q
  have bv := rv_le i4 1073741824
  obtain ⟨v5, hv⟩ : ∃ v, rv i4 1073741824 = v := ⟨_, rfl⟩
  obtain ⟨i5, hi⟩ : ∃ v, rl i4 1073741824 = v := ⟨_, rfl⟩
  obtain ⟨x5, hx⟩ : ∃ v, (x4 || !rk i4 1073741824) = v := ⟨_, rfl⟩
  rw [hv, hi, hx] at Q
  rw [hv] at bv
  have bv5 : (v5 : Int) ≤ 1073741824 := by omega
  have HV5 := Lib.hid (show rv i4 1073741824 = v5 ∧ rl i4 1073741824 = i5 ∧ (x4 || !rk i4 1073741824) = x5 from ⟨hv, hi, hx⟩)
  have Q5 := Lib.hid Q
  clear bv hv hi hx Q
  go_wp2_with fail
  try rw [HQ.out]
  with_reducible refine Q5.out.mono ?_
  rintro e w6 ⟨rfl, h1, h2⟩
  have E5 := Lib.hid (D4.out.num h1 h2)
  have cc5 := E5.out.pk.cell 4
  have ff5 := E5.out.pk.frozen 4
  simp [pkF] at cc5
  clear h1 h2 Q5
  have D5 := Lib.hid (show Dec w (w6.setCell ⟨q, 4, none⟩ (.int .i64 v5)) g q i5 x5 (pkF v1 v2 ((v3 : Int) == 1) v4 v5 none 0 0) from E5.out.set 4 (.int .i64 v5))
  clear E5
  have Q := rbytes_any D5.out.rd
  obtain ⟨bd, hbd⟩ : ∃ v, bb i5 = v := ⟨_, rfl⟩
  obtain ⟨rest, hrs⟩ : ∃ v, br i5 = v := ⟨_, rfl⟩
  obtain ⟨x6, hx⟩ : ∃ v, (x5 || !bk i5) = v := ⟨_, rfl⟩
  unfold ByE at Q
  rw [hbd, hrs, hx] at Q
  have HV6 := Lib.hid (show bb i5 = bd ∧ br i5 = rest ∧ (x5 || !bk i5) = x6 from ⟨hbd, hrs, hx⟩)
  have Q6 := Lib.hid Q
  clear hbd hrs hx Q
  go_wp2_with fail
  with_reducible refine Q6.out.mono ?_
  rintro e w7 ⟨A7, c7, rfl, t7, h1, h2, h7⟩
  have F7 := Lib.hid (fun k (e : blk A7 = some k) => (⟨Nat.le_trans D5.out.low.size (h7 k e).1, (h7 k e).2⟩ : w.heap.size ≤ k ∧ k < w7.heap.size))
  clear h7
  have E6 := Lib.hid (D5.out.num h1 h2)
  have cc6 := E6.out.pk.cell 5
  have ff6 := E6.out.pk.frozen 5
  simp [pkF] at cc6
  have T7 := Lib.hid (show At (w7.setCell ⟨q, 5, none⟩ (.slice A7 bd.length c7)) A7 (nats .u8 bd) from by
    by_cases h0 : bd = []
    · rw [h0]; exact At.nil _ _
    · exact t7.grown (grown_set (grown_refl w7 (some q)) 5 _) (.inr (far_pk E6.out.pk t7 h0)))
  clear h1 h2 Q6 t7
  have D6 := Lib.hid (show Dec w (w7.setCell ⟨q, 5, none⟩ (.slice A7 bd.length c7)) g q rest x6 (pkF v1 v2 ((v3 : Int) == 1) v4 v5 A7 bd.length c7) from E6.out.set 5 (.slice A7 bd.length c7))
  clear E6
  have Q7 := Lib.hid (rdone_any D6.out.rd)
  clear cc1 cc2 cc3 cc4 cc5 ff1 ff2 ff3 ff4 ff5
  go_wp2_with fail
  with_reducible refine Q7.out.mono ?_
  rintro e w8 ⟨rfl, rfl⟩
  have r0 := D6.out.rs.cell 0
  have r1 := D6.out.rs.cell 1
  have r2 := D6.out.rs.cell 2
  have r3 := D6.out.rs.cell 3
  have r4 := D6.out.rs.cell 4
  have r5 := D6.out.rs.cell 5
  have z0 := D6.out.rs.frozen 0
  have z1 := D6.out.rs.frozen 1
  have z2 := D6.out.rs.frozen 2
  have z3 := D6.out.rs.frozen 3
  have z4 := D6.out.rs.frozen 4
  have z5 := D6.out.rs.frozen 5
  simp [pkF] at r0 r1 r2 r3 r4 r5
  cases hf : (x6 || !rest.isEmpty) with
  | true =>
    have HF := Lib.hid hf
    clear hf
    rw [if_pos rfl]
    go_wp2_with fail
    refine bodyPost_ret (v := .tuple #[.agg (pkF 0 0 false 0 0 none 0 0), .iface 70 (.int .i64 3)]) (by simp [pkF, results, Tryd.results26, go_sem, r0, r1, r2, r3, r4, r5]) rfl ?_
    exact HI.out ▸ (show DecE w i0 _ _ from ⟨v1, v2, v3, v4, v5, i1, i2, i3, i4, i5, bd, rest, x1, x2, x3, x4, x5, x6, HV1.out, HV2.out, HV3.out, HV4.out, HV5.out, HV6.out, ((((((D6.out.low.setCell (Nat.le_refl _) _).setCell (Nat.le_refl _) _).setCell (Nat.le_refl _) _).setCell (Nat.le_refl _) _).setCell (Nat.le_refl _) _).setCell (Nat.le_refl _) _), .inr ⟨.inl HF.out, rfl⟩⟩)
  | false =>
    have HF := Lib.hid hf
    clear hf
    have u0 := D6.out.pk.cell 0
    have u1 := D6.out.pk.cell 1
    have u2 := D6.out.pk.cell 2
    have u3 := D6.out.pk.cell 3
    have u4 := D6.out.pk.cell 4
    have u5 := D6.out.pk.cell 5
    simp [pkF] at u0 u1 u2 u3 u4 u5
    rw [if_neg (by decide)]
    go_wp2_with fail
    refine (fcheck_any v1 v2 ((v3 : Int) == 1) v4 v5 A7 bd.length c7 _).mono ?_
    rintro e w9 ⟨⟨rfl, hm⟩ | ⟨rfl, hm⟩, b9⟩
    · have HMY := Lib.hid hm
      have b9s := Lib.hid b9.size
      have D9 := Lib.hid (D6.out.later b9)
      have T9 := Lib.hid (T7.out.later b9 (Nat.le_refl _))
      clear hm b9
      clear r0 z0 u0 r1 z1 u1 r2 z2 u2 r3 z3 u3 r4 z4 u4 r5 z5 u5
      have r0 := D9.out.rs.cell 0
      have z0 := D9.out.rs.frozen 0
      have r1 := D9.out.rs.cell 1
      have z1 := D9.out.rs.frozen 1
      have r2 := D9.out.rs.cell 2
      have z2 := D9.out.rs.frozen 2
      have r3 := D9.out.rs.cell 3
      have z3 := D9.out.rs.frozen 3
      have r4 := D9.out.rs.cell 4
      have z4 := D9.out.rs.frozen 4
      have r5 := D9.out.rs.cell 5
      have z5 := D9.out.rs.frozen 5
      have u0 := D9.out.pk.cell 0
      have u1 := D9.out.pk.cell 1
      have u2 := D9.out.pk.cell 2
      have u3 := D9.out.pk.cell 3
      have u4 := D9.out.pk.cell 4
      have u5 := D9.out.pk.cell 5
      simp [pkF] at r0 r1 r2 r3 r4 r5 u0 u1 u2 u3 u4 u5
      go_wp2_with fail
      refine bodyPost_ret (v := .tuple #[.agg (pkF v1 v2 ((v3 : Int) == 1) v4 v5 A7 bd.length c7), .nilIface]) (by simp [pkF, results, Tryd.results26, go_sem, r0, r1, r2, r3, r4, r5]) rfl ?_
      exact HI.out ▸ (show DecE w i0 _ _ from ⟨v1, v2, v3, v4, v5, i1, i2, i3, i4, i5, bd, rest, x1, x2, x3, x4, x5, x6, HV1.out, HV2.out, HV3.out, HV4.out, HV5.out, HV6.out, ((((((D9.out.low.setCell (Nat.le_refl _) _).setCell (Nat.le_refl _) _).setCell (Nat.le_refl _) _).setCell (Nat.le_refl _) _).setCell (Nat.le_refl _) _).setCell (Nat.le_refl _) _), .inl ⟨HF.out, HMY.out, A7, c7, rfl, by
        by_cases h0 : bd = []
        · rw [h0]; exact At.nil _ _
        · exact T9.out.grown (grown_set (grown_set (grown_set (grown_set (grown_set (grown_set (grown_refl w9 (some w.heap.size)) 0 _) 1 _) 2 _) 3 _) 4 _) 5 _) (.inr (far_pk D9.out.rs T9.out h0)), fun k e => ⟨(F7.out k e).1, Nat.lt_of_lt_of_le (Nat.lt_of_lt_of_le (F7.out k e).2 (Nat.le_trans (grown_set (grown_refl w7 (some q)) 5 _).size b9s.out)) (grown_set (grown_set (grown_set (grown_set (grown_set (grown_set (grown_refl w9 (some w.heap.size)) 0 _) 1 _) 2 _) 3 _) 4 _) 5 _).size⟩⟩⟩)
    · have HMY := Lib.hid hm
      have D9 := Lib.hid (D6.out.later b9)
      clear hm b9
      clear r0 z0 u0 r1 z1 u1 r2 z2 u2 r3 z3 u3 r4 z4 u4 r5 z5 u5
      have r0 := D9.out.rs.cell 0
      have z0 := D9.out.rs.frozen 0
      have r1 := D9.out.rs.cell 1
      have z1 := D9.out.rs.frozen 1
      have r2 := D9.out.rs.cell 2
      have z2 := D9.out.rs.frozen 2
      have r3 := D9.out.rs.cell 3
      have z3 := D9.out.rs.frozen 3
      have r4 := D9.out.rs.cell 4
      have z4 := D9.out.rs.frozen 4
      have r5 := D9.out.rs.cell 5
      have z5 := D9.out.rs.frozen 5
      simp [pkF] at r0 r1 r2 r3 r4 r5
      go_wp2_with fail
      refine bodyPost_ret (v := .tuple #[.agg (pkF 0 0 false 0 0 none 0 0), .iface 70 (.int .i64 3)]) (by simp [pkF, results, Tryd.results26, go_sem, r0, r1, r2, r3, r4, r5]) rfl ?_
      exact HI.out ▸ (show DecE w i0 _ _ from ⟨v1, v2, v3, v4, v5, i1, i2, i3, i4, i5, bd, rest, x1, x2, x3, x4, x5, x6, HV1.out, HV2.out, HV3.out, HV4.out, HV5.out, HV6.out, ((((((D9.out.low.setCell (Nat.le_refl _) _).setCell (Nat.le_refl _) _).setCell (Nat.le_refl _) _).setCell (Nat.le_refl _) _).setCell (Nat.le_refl _) _).setCell (Nat.le_refl _) _), .inr ⟨.inr HMY.out, rfl⟩⟩)
end Go.Proofs.YtodimanghmepoaaDoor
namespace Go.Proofs.YtodimanghmepoaaDoor
open Go.RowKit
def DecNo (w : World) (x : Int) (e : Ending) (w' : World) : Prop := e = .returned (.tuple #[.agg (pkF 0 0 false 0 0 none 0 0), .iface 70 (.int .i64 x)]) ∧ Below w.heap.size w w'
set_option maxRecDepth 100000 in
set_option maxHeartbeats 1000000 in
theorem fdec_long (A : Option Addr) (n c : Nat) (w : World) (h : 8300 < n) : Calls Tryd.prog 26 #[.slice A n c] w (DecNo w 5) := by
  have d1 : decide ((8300 : Int) < n) = true := decide_eq_true (by omega)
  have HB := Lib.hid ((Below.refl w.heap.size w).alloc (Nat.le_refl _) (.cells #[.int .i64 0, .int .i64 0, .bool false, .int .i64 0, .int .i64 0, .slice none 0 0] 80))
  have HH := Holds.new w 80 #[.int .i64 0, .int .i64 0, .bool false, .int .i64 0, .int .i64 0, .slice none 0 0] w.heap.size rfl
  go_enter Tryd.func26, Tryd.ntmps26
  go_wp2_with fail
  refine bodyPost_ret (v := .tuple #[.agg (pkF 0 0 false 0 0 none 0 0), .iface 70 (.int .i64 5)]) (by simp [pkF, results, Tryd.results26, go_sem]) rfl ⟨rfl, ?_⟩
  first
    | exact HB.out
    | exact (Below.refl _ _).alloc (Nat.le_refl _) _
set_option maxRecDepth 100000 in
set_option maxHeartbeats 1000000 in
theorem fdec_short (A : Option Addr) (n c : Nat) (w : World) (h : n < 6) : Calls Tryd.prog 26 #[.slice A n c] w (DecNo w 3) := by
  have d1 : decide ((8300 : Int) < n) = false := decide_eq_false (by omega)
  have d2 : ¬ 8300 < n := by omega
  have d3 : decide ((n : Int) < 6) = true := decide_eq_true (by omega)
  have HB := Lib.hid ((Below.refl w.heap.size w).alloc (Nat.le_refl _) (.cells #[.int .i64 0, .int .i64 0, .bool false, .int .i64 0, .int .i64 0, .slice none 0 0] 80))
  go_enter Tryd.func26, Tryd.ntmps26
  go_wp2_with fail
  refine bodyPost_ret (v := .tuple #[.agg (pkF 0 0 false 0 0 none 0 0), .iface 70 (.int .i64 3)]) (by simp [pkF, results, Tryd.results26, go_sem]) rfl ⟨rfl, ?_⟩
  first
    | exact HB.out
    | exact (Below.refl _ _).alloc (Nat.le_refl _) _
set_option maxRecDepth 100000 in
set_option maxHeartbeats 1000000 in
theorem fdec_head0 (b o n c : Nat) (l : List Nat) (w : World) (hl : l.length = n) (h6 : 6 ≤ n) (hn : n ≤ 8300) (hnc : n ≤ c) (hc2 : c ≤ 9223372036854775807) (hat : At w (some ⟨b, o, none⟩) (nats .u8 l)) (h0 : l.getD 0 0 ≠ 67) : Calls Tryd.prog 26 #[.slice (some ⟨b, o, none⟩) n c] w (DecNo w 3) := by
  have HB := Lib.hid ((Below.refl w.heap.size w).alloc (Nat.le_refl _) (.cells #[.int .i64 0, .int .i64 0, .bool false, .int .i64 0, .int .i64 0, .slice none 0 0] 80))
  have A0 := hat.later HB.out (Nat.le_refl _)
  have c0 : (w.alloc (.cells #[.int .i64 0, .int .i64 0, .bool false, .int .i64 0, .int .i64 0, .slice none 0 0] 80)).cell? ⟨b, o, none⟩ = some (.int .u8 (l.getD 0 0 : Nat)) := by
    obtain ⟨b', o', e, h⟩ := A0.nat 0 (by omega)
    injection e with e; injection e with e1 e2; subst e1; subst e2
    exact h
  have c1 : (w.alloc (.cells #[.int .i64 0, .int .i64 0, .bool false, .int .i64 0, .int .i64 0, .slice none 0 0] 80)).cell? ⟨b, o + 1, none⟩ = some (.int .u8 (l.getD 1 0 : Nat)) := by
    obtain ⟨b', o', e, h⟩ := A0.nat 1 (by omega)
    injection e with e; injection e with e1 e2; subst e1; subst e2
    exact h
  have d1 : decide ((8300 : Int) < n) = false := decide_eq_false (by omega)
  have d2 : ¬ 8300 < n := by omega
  have d3 : decide ((n : Int) < 6) = false := decide_eq_false (by omega)
  have d4 : ¬ n < 6 := by omega
  have d7 : 0 < n := by omega
  have d8 : 1 < n := by omega
  clear hl hat A0
  generalize l.getD 0 0 = y0 at *
  generalize l.getD 1 0 = y1 at *
  have hx : ¬ (y0 : Int) = 67 := by omega
  clear h0 hn h6 hnc hc2 c1
  go_enter Tryd.func26, Tryd.ntmps26
  go_wp2_with fail
  refine bodyPost_ret (v := .tuple #[.agg (pkF 0 0 false 0 0 none 0 0), .iface 70 (.int .i64 3)]) (by simp [pkF, results, Tryd.results26, go_sem]) rfl ⟨rfl, ?_⟩
  first
    | exact HB.out
    | exact (Below.refl _ _).alloc (Nat.le_refl _) _
set_option maxRecDepth 100000 in
set_option maxHeartbeats 1000000 in
theorem fdec_head1 (b o n c : Nat) (l : List Nat) (w : World) (hl : l.length = n) (h6 : 6 ≤ n) (hn : n ≤ 8300) (hnc : n ≤ c) (hc2 : c ≤ 9223372036854775807) (hat : At w (some ⟨b, o, none⟩) (nats .u8 l)) (h0 : l.getD 0 0 = 67) (h1 : l.getD 1 0 ≠ 85) : Calls Tryd.prog 26 #[.slice (some ⟨b, o, none⟩) n c] w (DecNo w 3) := by
  have HB := Lib.hid ((Below.refl w.heap.size w).alloc (Nat.le_refl _) (.cells #[.int .i64 0, .int .i64 0, .bool false, .int .i64 0, .int .i64 0, .slice none 0 0] 80))
  have A0 := hat.later HB.out (Nat.le_refl _)
  have c0 : (w.alloc (.cells #[.int .i64 0, .int .i64 0, .bool false, .int .i64 0, .int .i64 0, .slice none 0 0] 80)).cell? ⟨b, o, none⟩ = some (.int .u8 (l.getD 0 0 : Nat)) := by
    obtain ⟨b', o', e, h⟩ := A0.nat 0 (by omega)
    injection e with e; injection e with e1 e2; subst e1; subst e2
    exact h
  have c1 : (w.alloc (.cells #[.int .i64 0, .int .i64 0, .bool false, .int .i64 0, .int .i64 0, .slice none 0 0] 80)).cell? ⟨b, o + 1, none⟩ = some (.int .u8 (l.getD 1 0 : Nat)) := by
    obtain ⟨b', o', e, h⟩ := A0.nat 1 (by omega)
    injection e with e; injection e with e1 e2; subst e1; subst e2
    exact h
  have d1 : decide ((8300 : Int) < n) = false := decide_eq_false (by omega)
  have d2 : ¬ 8300 < n := by omega
  have d3 : decide ((n : Int) < 6) = false := decide_eq_false (by omega)
  have d4 : ¬ n < 6 := by omega
  have d7 : 0 < n := by omega
  have d8 : 1 < n := by omega
  rw [h0] at c0
  clear hl hat A0 h0
  generalize l.getD 1 0 = y1 at *
  have hx : ¬ (y1 : Int) = 85 := by omega
  clear h1 hn h6 hnc hc2
  go_enter Tryd.func26, Tryd.ntmps26
  go_wp2_with fail
  refine bodyPost_ret (v := .tuple #[.agg (pkF 0 0 false 0 0 none 0 0), .iface 70 (.int .i64 3)]) (by simp [pkF, results, Tryd.results26, go_sem]) rfl ⟨rfl, ?_⟩
  first
    | exact HB.out
    | exact (Below.refl _ _).alloc (Nat.le_refl _) _
set_option maxRecDepth 100000 in
set_option maxHeartbeats 1000000 in
theorem fdec_sum (b o n c : Nat) (l : List Nat) (w : World) (hl : l.length = n) (h6 : 6 ≤ n) (hn : n ≤ 8300) (hnc : n ≤ c) (hc2 : c ≤ 9223372036854775807) (hat : At w (some ⟨b, o, none⟩) (nats .u8 l)) (h0 : l.getD 0 0 = 67) (h1 : l.getD 1 0 = 85) (hf : Crc.Fits l = false) : Calls Tryd.prog 26 #[.slice (some ⟨b, o, none⟩) n c] w (DecNo w 4) := by
  have HB := Lib.hid ((Below.refl w.heap.size w).alloc (Nat.le_refl _) (.cells #[.int .i64 0, .int .i64 0, .bool false, .int .i64 0, .int .i64 0, .slice none 0 0] 80))
  have A0 := hat.later HB.out (Nat.le_refl _)
  have c0 : (w.alloc (.cells #[.int .i64 0, .int .i64 0, .bool false, .int .i64 0, .int .i64 0, .slice none 0 0] 80)).cell? ⟨b, o, none⟩ = some (.int .u8 (l.getD 0 0 : Nat)) := by
    obtain ⟨b', o', e, h⟩ := A0.nat 0 (by omega)
    injection e with e; injection e with e1 e2; subst e1; subst e2
    exact h
  have c1 : (w.alloc (.cells #[.int .i64 0, .int .i64 0, .bool false, .int .i64 0, .int .i64 0, .slice none 0 0] 80)).cell? ⟨b, o + 1, none⟩ = some (.int .u8 (l.getD 1 0 : Nat)) := by
    obtain ⟨b', o', e, h⟩ := A0.nat 1 (by omega)
    injection e with e; injection e with e1 e2; subst e1; subst e2
    exact h
  have d1 : decide ((8300 : Int) < n) = false := decide_eq_false (by omega)
  have d2 : ¬ 8300 < n := by omega
  have d3 : decide ((n : Int) < 6) = false := decide_eq_false (by omega)
  have d4 : ¬ n < 6 := by omega
  have d7 : 0 < n := by omega
  have d8 : 1 < n := by omega
  rw [h0] at c0
  rw [h1] at c1
  have FT := Lib.hid (fits_any (some ⟨b, o, none⟩) n c l _ hl hnc hc2 A0)
  rw [hf] at FT
  clear hl hat A0 h0 h1 hf hn h6 hnc hc2
  go_enter Tryd.func26, Tryd.ntmps26
  go_wp2_with fail
  with_reducible refine FT.out.mono ?_
  rintro e w' ⟨rfl, rfl⟩
  go_wp2_with fail
  refine bodyPost_ret (v := .tuple #[.agg (pkF 0 0 false 0 0 none 0 0), .iface 70 (.int .i64 4)]) (by simp [pkF, results, Tryd.results26, go_sem]) rfl ⟨rfl, ?_⟩
  first
    | exact HB.out
    | exact (Below.refl _ _).alloc (Nat.le_refl _) _
end Go.Proofs.YtodimanghmepoaaDoor
namespace Go.Proofs.YtodimanghmepoaaDoor
open Go.RowKit
end Go.Proofs.YtodimanghmepoaaDoor
