/- Layer 14, the document: Decode. Layer 14, plain: what is read of a datagram is what was put into it. Layer 14: both Decodes and both Encodes, each by one answer of the bytes, or of the packet. -/
import Derived.Test.YtodimanghmepoaaDoorLfF
namespace Go.Proofs.YtodimanghmepoaaDoor
open Go.RowKit
/-- what is left behind so many numbers, whether something was wrong, and the numbers -/
def ks (i : List Nat) : Nat → List Nat
  | 0 => i
  | j + 1 => rl (ks i j) 1073741824
def kf (i : List Nat) : Nat → Bool
  | 0 => false
  | j + 1 => kf i j || !rk (ks i j) 1073741824
def kv (i : List Nat) (j : Nat) : Nat := rv (ks i j) 1073741824
theorem kv_le (i : List Nat) (j : Nat) : kv i j ≤ 1073741824 := rv_le _ _
def karr (i : List Nat) (j : Nat) : List Nat := (List.range 5).map fun t => if t < j then kv i t else 0
theorem karr_set (i : List Nat) (j : Nat) : (nats .u64 (karr i j)).toArray.setIfInBounds j (.int .u64 (kv i j : Nat)) = (nats .u64 (karr i (j + 1))).toArray := by
  apply Array.ext
  · simp [karr, nats]
  · intro k h1 h2
    have hk : k < 5 := by simpa [karr, nats] using h2
    simp only [karr, nats, List.setIfInBounds_toArray, List.getElem_toArray, List.getElem_set, List.getElem_map, List.getElem_range]
    by_cases e : j = k
    · subst e; simp
    · rw [if_neg e]
      by_cases h : k < j
      · rw [if_pos h, if_pos (by omega)]
      · rw [if_neg h, if_neg (by omega)]
theorem all_of_getD {l : List Nat} (h : ∀ i, l.getD i 0 < 256) : ∀ y ∈ l, y < 256 := by
  intro y hy
  obtain ⟨i, hi, rfl⟩ := List.mem_iff_getElem.1 hy
  have := h i
  rwa [getD_lt hi] at this
theorem fhead_byte {fr dt ak ep sq : Nat} {b : List Nat} (h1 : fr < 18446744073709551616) (h2 : dt < 18446744073709551616) (h3 : ak < 18446744073709551616) (h4 : ep < 18446744073709551616) (h5 : sq < 18446744073709551616) (h6 : b.length < 18446744073709551616) (hb : ∀ y ∈ b, y < 256) : ∀ y ∈ fhead fr dt ak ep sq b, y < 256 := by
  intro y hy
  unfold fhead at hy
  simp only [List.mem_cons, List.mem_append] at hy
  rcases hy with h | h | h | h | h | h | h | h | h
  · omega
  · omega
  · exact VM.enc_byte h1 y h
  · exact VM.enc_byte h2 y h
  · exact VM.enc_byte h3 y h
  · exact VM.enc_byte h4 y h
  · exact VM.enc_byte h5 y h
  · exact VM.enc_byte h6 y h
  · exact hb y h
theorem fdat_byte {fr dt ak ep sq : Nat} {b : List Nat} (h1 : fr < 18446744073709551616) (h2 : dt < 18446744073709551616) (h3 : ak < 18446744073709551616) (h4 : ep < 18446744073709551616) (h5 : sq < 18446744073709551616) (h6 : b.length < 18446744073709551616) (hb : ∀ y ∈ b, y < 256) : ∀ y ∈ fdat fr dt ak ep sq b, y < 256 := by
  intro y hy
  unfold fdat at hy
  rcases List.mem_append.1 hy with h | h
  · exact fhead_byte h1 h2 h3 h4 h5 h6 hb y h
  · exact all_of_getD (tl_bytes _) y h
theorem rl_sub {l : List Nat} {most : Nat} : (∀ y ∈ rl l most, y ∈ l) ∧ (rl l most).length ≤ l.length := by
  unfold rl
  cases VM.dec l with
  | none => exact ⟨by simp, by simp⟩
  | some vk =>
    obtain ⟨v, k⟩ := vk
    by_cases h : v ≤ most
    · simp only [if_pos h]; exact ⟨fun y hy => List.mem_of_mem_drop hy, by simp⟩
    · simp only [if_neg h]; exact ⟨by simp, by simp⟩
theorem ks_sub (i : List Nat) : ∀ j, (∀ y ∈ ks i j, y ∈ i) ∧ (ks i j).length ≤ i.length
  | 0 => ⟨fun _ h => h, Nat.le_refl _⟩
  | j + 1 => ⟨fun y hy => (ks_sub i j).1 y (rl_sub.1 y hy), Nat.le_trans rl_sub.2 (ks_sub i j).2⟩
theorem bb_sub (l : List Nat) : (∀ y ∈ bb l, y ∈ l) ∧ (bb l).length ≤ l.length := by
  unfold bb
  split
  · exact ⟨fun y hy => rl_sub.1 y (List.mem_of_mem_take hy), by have := (rl_sub (l := l) (most := 8192)).2; rw [List.length_take]; omega⟩
  · exact ⟨by simp, by simp⟩
/-- what the document's Decode reads, and how it ends -/
def KdecV (w : World) (l : List Nat) (v0 v1 v2 v3 v4 : Nat) (bd : List Nat) (e : Ending) (w' : World) : Prop :=
  Below w.heap.size w w' ∧
    ((FMay v0 v1 ((v2 : Int) == 1) v3 v4 bd.length ∧ fdat v0 v1 (if ((v2 : Int) == 1) then 1 else 0) v3 v4 bd = l ∧
      ∃ A c, e = .returned (.tuple #[.agg (pkF v0 v1 ((v2 : Int) == 1) v3 v4 A bd.length c), .int .i64 0]) ∧ At w' A (nats .u8 bd)) ∨
     ((¬ FMay v0 v1 ((v2 : Int) == 1) v3 v4 bd.length ∨ fdat v0 v1 (if ((v2 : Int) == 1) then 1 else 0) v3 v4 bd ≠ l) ∧ e = .returned (.tuple #[.agg (pkF 0 0 false 0 0 none 0 0), .int .i64 3])))
theorem far_pk2 {w : World} {q : Nat} {t : TypeId} {a b : Int} {c : Bool} {d e : Int} {A2 : Option Addr} {n k : Nat} {A : Option Addr} {l : List Nat} (hH : Holds w q t (pkF a b c d e A2 n k)) (ha : At w A (nats .u8 l)) (h0 : l ≠ []) : blk A ≠ some q := by
  intro e
  obtain ⟨b', o', rfl, hc⟩ := ha.nat 0 (by cases l with | nil => exact absurd rfl h0 | cons _ _ => simp)
  simp [blk] at e
  subst e
  have hx := hH.cell (o' + 0)
  rw [hc] at hx
  unfold pkF at hx
  match o', hx with
  | 0, hx => simp at hx
  | 1, hx => simp at hx
  | 2, hx => simp at hx
  | 3, hx => simp at hx
  | 4, hx => simp at hx
  | 5, hx => simp at hx
  | o + 6, hx => simp at hx
set_option maxRecDepth 100000 in
set_option maxHeartbeats 4000000 in
theorem kdec_walk (b o m c : Nat) (l : List Nat) (w : World) (hl : l.length = m + 6) (hm : m ≤ 894) (hc : m + 6 ≤ c) (hc2 : c ≤ 9223372036854775807) (hat : At w (some ⟨b, o, none⟩) (nats .u8 l)) (hb : ∀ y ∈ l, y < 256) (h67 : l.getD 0 0 = 67) (h85 : l.getD 1 0 = 85) (hf : Crc.Fits l = true) :
    Calls Tryd.prog 37 #[.slice (some ⟨b, o, none⟩) (m + 6) c] w (KdecV w l (kv ((l.drop 2).take m) 0) (kv ((l.drop 2).take m) 1) (kv ((l.drop 2).take m) 2) (kv ((l.drop 2).take m) 3) (kv ((l.drop 2).take m) 4) (bb (ks ((l.drop 2).take m) 5))) := by
  have B0 := (Below.refl w.heap.size w).alloc (Nat.le_refl _) (.cells (pkF 0 0 false 0 0 none 0 0) 50)
  have A0 := hat.later B0 (Nat.le_refl _)
  have c0 : (w.alloc (.cells (pkF 0 0 false 0 0 none 0 0) 50)).cell? ⟨b, o, none⟩ = some (.int .u8 67) := by
    obtain ⟨b', o', e, h⟩ := A0.nat 0 (by omega)
    injection e with e; injection e with e1 e2; subst e1; subst e2
    rw [h67] at h; exact h
  have c1 : (w.alloc (.cells (pkF 0 0 false 0 0 none 0 0) 50)).cell? ⟨b, o + 1, none⟩ = some (.int .u8 85) := by
    obtain ⟨b', o', e, h⟩ := A0.nat 1 (by omega)
    injection e with e; injection e with e1 e2; subst e1; subst e2
    rw [h85] at h; exact h
  have K0 := Lib.hid (Holds.new w 50 (pkF 0 0 false 0 0 none 0 0) w.heap.size rfl)
  have hcb : Crc.Bytes l := fun i => getD_of_all (m := 255) hb i
  have FT := Lib.hid (refFits_any (some ⟨b, o, none⟩) (m + 6) c l _ hl hc hc2 A0 hcb)
  rw [hf] at FT
  unfold pkF at c0 c1 FT
  have HB := Lib.hid B0
  have HAT := Lib.hid hat
  obtain ⟨i, hi⟩ : ∃ i, (l.drop 2).take m = i := ⟨_, rfl⟩
  have HI := Lib.hid hi
  rw [hi]
  have HIL := Lib.hid (show i.length = m from by rw [← hi]; simp; omega)
  have HIB := Lib.hid (show ∀ y ∈ i, y < 256 from by rw [← hi]; exact fun y hy => hb y (List.mem_of_mem_drop (List.mem_of_mem_take hy)))
  have HIA := Lib.hid (show At w (some ⟨b, o + 2, none⟩) (nats .u8 i) from by rw [← hi, nats_take, nats_drop]; exact hat.cut.take)
  have HBY := Lib.hid hb
  obtain ⟨n, hn⟩ : ∃ n, n = m + 6 := ⟨_, rfl⟩
  rw [← hn] at FT ⊢
  have d1 : ¬ 8300 < n := by omega
  have d2 : ¬ n < 6 := by omega
  have d5 : decide ((8300 : Int) < n) = false := decide_eq_false (by omega)
  have d6 : decide ((n : Int) < 6) = false := decide_eq_false (by omega)
  have d7 : 0 < n := by omega
  have d8 : 1 < n := by omega
  obtain ⟨t, ht⟩ : ∃ t, t = m + 2 := ⟨_, rfl⟩
  have e1 : (n : Int) - 4 = (t : Nat) := by omega
  have e2 : (2 : Int) ≤ t := by omega
  have e3 : 2 ≤ t := by omega
  have e4 : (t : Int) ≤ c := by omega
  have e5 : t ≤ c := by omega
  have e6 : ¬ c = 2 := by omega
  have e7 : (n : Int) ≤ 900 := by omega
  have e8 : (t : Int) ≤ 900 := by omega
  have HT := Lib.hid ht
  have HN := Lib.hid hn
  have HC := Lib.hid hc
  have HC2 := Lib.hid hc2
  have HM := Lib.hid hm
  have HL := Lib.hid hl
  clear hl hc hat hb h67 h85 hf A0 B0 hn hc2 hm hi ht hcb
  go_enter Tryd.func37, Tryd.ntmps37
  go_upto_region 5 with fail
  go_wp2_with fail
  with_reducible refine FT.out.mono ?_
  rintro e w1 ⟨rfl, b1⟩
  have K1 := Lib.hid (K0.out.later b1 (Nat.le_refl _))
  have B1 := Lib.hid (HB.out.trans (b1.mono (by simp)))
  have S1 := Lib.hid (show w.heap.size < w1.heap.size from by have := b1.size; simp at this; omega)
  clear c0 c1 FT d1 d2 d5 d6 d7 d8 K0 HB b1
  go_upto_region 8 with fail
  clear e1 e2 e3 e4 e5 e6 e7 e8
  go_wp2_with fail
  have e9 : t - 2 = m := by have := HT.out; omega
  rw [e9]
  clear e9
  have NB := (Below.refl w1.heap.size w1).alloc (Nat.le_refl _) (.cells #[.int .u64 0, .int .u64 0, .int .u64 0, .int .u64 0, .int .u64 0] 94)
  have HA0 := Lib.hid (show Holds (w1.alloc (.cells #[.int .u64 0, .int .u64 0, .int .u64 0, .int .u64 0, .int .u64 0] 94)) w1.heap.size 94 (nats .u64 (karr i 0)).toArray from Holds.new w1 _ _ _ rfl)
  have K3 := Lib.hid (K1.out.later NB (Nat.le_refl _))
  have B3 := Lib.hid (B1.out.trans (NB.mono (Nat.le_of_lt S1.out)))
  have S3 := Lib.hid (show w1.heap.size < (w1.alloc (.cells #[.int .u64 0, .int .u64 0, .int .u64 0, .int .u64 0, .int .u64 0] 94)).heap.size from by simp)
  clear NB K1 B1
  generalize w1.heap.size = g6 at *
  generalize w1.alloc (.cells #[.int .u64 0, .int .u64 0, .int .u64 0, .int .u64 0, .int .u64 0] 94) = w3 at *
  go_loopw [5, 7] (fun s i' wr => ∃ (j : Nat) (a : Int), j ≤ 5 ∧ i' = .int .i64 j ∧ s = .int .i64 a ∧ KPos i a (ks i j) (kf i j) ∧ Holds wr g6 94 (nats .u64 (karr i j)).toArray ∧ Below g6 w3 wr) (fun _ i' _ => (5 - intOf i').toNat)
  case atStart => exact ⟨0, 0, by omega, rfl, rfl, .inr ⟨0, rfl, Nat.zero_le _, rfl, rfl⟩, HA0.out, Below.refl _ _⟩
  case round =>
    obtain ⟨j, a, hj, rfl, rfl, hpos, harr, hbel⟩ := hrel
    have BW := Lib.hid (B3.out.trans (hbel.mono (Nat.le_of_lt S1.out)))
    have IA := Lib.hid (HIA.out.later BW.out (Nat.le_refl _))
    have HBL := Lib.hid hbel
    have HAR := Lib.hid harr
    have HP := Lib.hid hpos
    have HG := Lib.hid (show g6 < wr.heap.size from Nat.lt_of_lt_of_le S3.out hbel.size)
    clear hpos harr hbel
    by_cases hj5 : j < 5
    · have Q : Calls Tryd.prog 58 #[.slice (some ⟨b, o + 2, none⟩) m (c - 2), .int .i64 a, .agg (fldC 0 0 (.slice none 0 0) 0 1073741824)] wr (fun e w' => ∃ a' : Int, e = .returned (.tuple #[.agg (fldC 0 (kv i j : Nat) (.slice none 0 0) 0 0), .int .i64 a']) ∧ KPos i a' (ks i (j + 1)) (kf i (j + 1)) ∧ Below wr.heap.size wr w') := ktake_num b (o + 2) m (c - 2) i a (ks i j) (kf i j) 1073741824 wr HIL.out (by have := HM.out; omega) (by have := HC.out; omega) (by have := HC2.out; omega) IA.out HIB.out HP.out
      have QQ := Lib.hid Q
      clear Q
      go_wp2_with (refine wpList_buildTo rfl 100 _ rfl (some 51) rfl (fldC 0 0 (.slice none 0 0) 0 1073741824) (by kernel_rfl) ?_)
      with_reducible refine QQ.out.mono ?_
      clear QQ
      rintro e w4 ⟨a', rfl, hk, b4⟩
      have HK := Lib.hid hk
      have B4 := Lib.hid b4
      clear hk b4
      go_upto_region 14 with (first
        | (refine Great.wpList_allocTo rfl (some 8) rfl _ (.cells (fldC 0 0 (.slice none 0 0) 0 0) 100) (run_allocF _ _ _ rfl) ?_)
        | (refine wpList_store_rowTo rfl 100 (.tmp 8) (.tmp 53) rfl rfl w4.heap.size (fldC 0 (kv i j : Nat) (.slice none 0 0) 0 0) rfl rfl 100 (fldC 0 0 (.slice none 0 0) 0 0) (Holds.new w4 100 (fldC 0 0 (.slice none 0 0) 0 0) w4.heap.size rfl) fld_size rfl (fldC_one _ _ _ _ _ _ _) ?_))
      have S8 := Lib.hid ((Holds.new w4 100 (fldC 0 0 (.slice none 0 0) 0 0) w4.heap.size rfl).row (fldC 0 (kv i j : Nat) (.slice none 0 0) 0 0))
      have N8 := Lib.hid (below_setRow ((Below.refl w4.heap.size w4).alloc (Nat.le_refl _) (.cells (fldC 0 0 (.slice none 0 0) 0 0) 100)) (g := w4.heap.size) (Nat.le_refl _) (fldC 0 (kv i j : Nat) (.slice none 0 0) 0 0))
      have B5 := Lib.hid (B4.out.trans (N8.out.mono B4.out.size))
      generalize (w4.alloc (.cells (fldC 0 0 (.slice none 0 0) 0 0) 100)).setRow w4.heap.size (fldC 0 (kv i j : Nat) (.slice none 0 0) 0 0) = w5 at *
      generalize w4.heap.size = g8 at *
      have q0 : w5.cell? ⟨g8, 1, none⟩ = some (.int .u64 (kv i j : Nat)) := S8.out.cell 1
      have AR5 := Lib.hid (HAR.out.later B5.out (Nat.le_refl _))
      have q1 : (w5.cell? ⟨g6, j, none⟩).isSome = true := by
        rw [AR5.out.cell j]
        have : (nats .u64 (karr i j)).toArray.size = 5 := by simp [nats, karr]
        rw [Array.getElem?_eq_getElem (by omega)]; rfl
      obtain ⟨u, hu⟩ := Option.isSome_iff_exists.1 q1
      have q2 : w5.frozen? ⟨g6, j, none⟩ = false := AR5.out.frozen j
      have AR6 := Lib.hid (show Holds (w5.setCell ⟨g6, j, none⟩ (.int .u64 (kv i j : Nat))) g6 94 (nats .u64 (karr i (j + 1))).toArray from by rw [← karr_set]; exact AR5.out.set j _)
      have B6 := Lib.hid ((HBL.out.trans (B5.out.mono (Nat.le_of_lt HG.out))).setCell (p := ⟨g6, j, none⟩) (Nat.le_refl _) (.int .u64 (kv i j : Nat)))
      clear q1 S8 N8 B5 AR5 B4
      go_wp2_with fail
      exact ⟨⟨j + 1, a', by omega, by simp, rfl, HK.out, AR6.out, B6.out⟩, by simp only [intOf]; omega⟩
    · obtain rfl : j = 5 := by omega
      clear hj5 hj
      obtain ⟨bd, hbd⟩ : ∃ bd, bb (ks i 5) = bd := ⟨_, rfl⟩
      have Q : Calls Tryd.prog 58 #[.slice (some ⟨b, o + 2, none⟩) m (c - 2), .int .i64 a, .agg (fldC 2 0 (.slice none 0 0) 8192 0)] wr (fun e w' => ∃ (a' : Int) (A7 : Option Addr) (c7 k7 : Nat), e = .returned (.tuple #[.agg (fldC 2 0 (.slice A7 k7 c7) 0 0), .int .i64 a']) ∧ bd.length = k7 ∧ At w' A7 (nats .u8 bd) ∧ Below wr.heap.size wr w') := by
        subst hbd
        exact (ktake_bytes b (o + 2) m (c - 2) i a (ks i 5) (kf i 5) wr HIL.out (by have := HM.out; omega) (by have := HC.out; omega) (by have := HC2.out; omega) IA.out HIB.out HP.out).mono (fun e w' ⟨a', A', c', h1, h2, _, h4⟩ => ⟨a', A', c', _, h1, rfl, h2, h4⟩)
      have QQ := Lib.hid Q
      rw [hbd]
      have HBD := Lib.hid hbd
      clear Q hbd
      go_wp2_with (refine wpList_buildTo rfl 100 _ rfl (some 63) rfl (fldC 2 0 (.slice none 0 0) 8192 0) (by kernel_rfl) ?_)
      with_reducible refine QQ.out.mono ?_
      clear QQ
      rintro e w4 ⟨a', A7, c7, k7, rfl, hk7, t4, b4⟩
      have HK7 := Lib.hid hk7
      have T4 := Lib.hid t4
      have B4 := Lib.hid b4
      clear hk7 t4 b4
      go_upto_region 17 with (first
        | (refine Great.wpList_allocTo rfl (some 10) rfl _ (.cells (fldC 0 0 (.slice none 0 0) 0 0) 100) (run_allocF _ _ _ rfl) ?_)
        | (refine wpList_store_rowTo rfl 100 (.tmp 10) (.tmp 65) rfl rfl w4.heap.size (fldC 2 0 (.slice A7 k7 c7) 0 0) rfl rfl 100 (fldC 0 0 (.slice none 0 0) 0 0) (Holds.new w4 100 (fldC 0 0 (.slice none 0 0) 0 0) w4.heap.size rfl) fld_size rfl (fldC_one _ _ _ _ _ _ _) ?_))
      have S8 := Lib.hid ((Holds.new w4 100 (fldC 0 0 (.slice none 0 0) 0 0) w4.heap.size rfl).row (fldC 2 0 (.slice A7 k7 c7) 0 0))
      have N8 := Lib.hid (below_setRow ((Below.refl w4.heap.size w4).alloc (Nat.le_refl _) (.cells (fldC 0 0 (.slice none 0 0) 0 0) 100)) (g := w4.heap.size) (Nat.le_refl _) (fldC 2 0 (.slice A7 k7 c7) 0 0))
      have B5 := Lib.hid (B4.out.trans (N8.out.mono B4.out.size))
      have T5 := Lib.hid (T4.out.later N8.out (Nat.le_refl _))
      generalize (w4.alloc (.cells (fldC 0 0 (.slice none 0 0) 0 0) 100)).setRow w4.heap.size (fldC 2 0 (.slice A7 k7 c7) 0 0) = w5 at *
      generalize w4.heap.size = g8 at *
      have q5 : w5.cell? ⟨g8, 3, none⟩ = some (.slice A7 k7 c7) := S8.out.cell 3
      have AR5 := Lib.hid (HAR.out.later B5.out (Nat.le_refl _))
      have q0 : w5.cell? ⟨g6, 0, none⟩ = some (.int .u64 (kv i 0 : Nat)) := AR5.out.cell 0
      have q1 : w5.cell? ⟨g6, 1, none⟩ = some (.int .u64 (kv i 1 : Nat)) := AR5.out.cell 1
      have q2 : w5.cell? ⟨g6, 2, none⟩ = some (.int .u64 (kv i 2 : Nat)) := AR5.out.cell 2
      have q3 : w5.cell? ⟨g6, 3, none⟩ = some (.int .u64 (kv i 3 : Nat)) := AR5.out.cell 3
      have q4 : w5.cell? ⟨g6, 4, none⟩ = some (.int .u64 (kv i 4 : Nat)) := AR5.out.cell 4
      have u0 : (kv i 0 : Int) ≤ 1073741824 := by have := kv_le i 0; omega
      have u1 : (kv i 1 : Int) ≤ 1073741824 := by have := kv_le i 1; omega
      have u3 : (kv i 3 : Int) ≤ 1073741824 := by have := kv_le i 3; omega
      have u4 : (kv i 4 : Int) ≤ 1073741824 := by have := kv_le i 4; omega
      have B6 := Lib.hid (BW.out.trans (B5.out.mono BW.out.size))
      clear S8 N8 B4 T4
      generalize kv i 0 = v0 at *
      generalize kv i 1 = v1 at *
      generalize kv i 2 = v2 at *
      generalize kv i 3 = v3 at *
      generalize kv i 4 = v4 at *
      go_wp2_with fail
      have NP := (Below.refl w5.heap.size w5).alloc (Nat.le_refl _) (.cells #[.int .i64 v0, .int .i64 v1, .bool ((v2 : Int) == 1), .int .i64 v3, .int .i64 v4, .slice A7 k7 c7] 50)
      have K6 := Lib.hid (((K3.out.below HBL.out S1.out).later B5.out (Nat.le_refl _)).later NP (Nat.le_refl _))
      have P6 := Lib.hid (Holds.new w5 50 #[.int .i64 v0, .int .i64 v1, .bool ((v2 : Int) == 1), .int .i64 v3, .int .i64 v4, .slice A7 k7 c7] w5.heap.size rfl)
      have T6 := Lib.hid (T5.out.later NP (Nat.le_refl _))
      have B7 := Lib.hid (B6.out.trans (NP.mono B6.out.size))
      have G7 := Lib.hid (show w.heap.size < w5.heap.size from by have h1 := S1.out; have h2 := HG.out; have h3 := B5.out.size; omega)
      have hbs := bb_sub (ks i 5)
      rw [HBD.out] at hbs
      have HBB := Lib.hid (show ∀ y ∈ bd, y < 256 from fun y hy => HIB.out y ((ks_sub i 5).1 y (hbs.1 y hy)))
      have HB9 := Lib.hid (show bd.length ≤ 900 from by have h1 := hbs.2; have h2 := (ks_sub i 5).2; have h3 := HIL.out; have h4 := HM.out; omega)
      clear NP q0 q1 q2 q3 q4 q5 hbs K3 T5
      generalize w5.heap.size = g12 at *
      generalize w5.alloc (.cells #[.int .i64 v0, .int .i64 v1, .bool ((v2 : Int) == 1), .int .i64 v3, .int .i64 v4, .slice A7 k7 c7] 50) = w6 at *
      by_cases hm : FMay v0 v1 ((v2 : Int) == 1) v3 v4 bd.length
      · have HMY := Lib.hid hm
        clear hm
        have Q := kenc_yes v0 v1 v3 v4 ((v2 : Int) == 1) A7 c7 bd w6 HMY.out HB9.out T6.out HBB.out
        rw [HK7.out] at Q
        obtain ⟨D, hD⟩ : ∃ D, fdat v0 v1 (if ((v2 : Int) == 1) then 1 else 0) v3 v4 bd = D := ⟨_, rfl⟩
        rw [hD] at Q
        have hDb : ∀ y ∈ D, y < 256 := by
          rw [← hD]
          exact fdat_byte (by omega) (by omega) (by split <;> omega) (by omega) (by omega) (by have := HB9.out; omega) HBB.out
        have HD := Lib.hid hD
        have HDB := Lib.hid hDb
        clear hD hDb
        with_reducible refine Q.mono ?_
        clear Q
        rintro e w7 ⟨Ax, cx, rfl, ox, bx⟩
        have hcx := run_str (P := Tryd.prog) (src := 22) (dst := 9) (e := 5) w7 (by kernel_rfl) (by kernel_rfl) (by kernel_rfl) (c := cx) rfl ox.at_
        have hcl := run_str (P := Tryd.prog) (src := 22) (dst := 9) (e := 5) w7 (by kernel_rfl) (by kernel_rfl) (by kernel_rfl) (c := c) (show l.length = n from by rw [HL.out, HN.out]) (HAT.out.later (B7.out.trans (bx.mono B7.out.size)) (Nat.le_refl _))
        have T7 := Lib.hid (T6.out.later bx (Nat.le_refl _))
        have K7 := Lib.hid (K6.out.later bx (Nat.le_refl _))
        have P7 := Lib.hid (P6.out.later bx (Nat.le_refl _))
        have B8 := Lib.hid (B7.out.trans (bx.mono B7.out.size))
        have hcmp := strN_beq (fun i => getD_of_all (m := 255) HDB.out i) (fun i => getD_of_all (m := 255) HBY.out i)
        clear ox bx
        obtain ⟨kx, hkx⟩ : ∃ kx, D.length = kx := ⟨_, rfl⟩
        rw [hkx] at hcx ⊢
        clear hkx
        by_cases hDl : D = l
        · have e1 : ((strN D).toList == (strN l).toList) = true := by rw [hcmp, hDl]; simp
          have HDl := Lib.hid hDl
          clear hDl hcmp
          have r0 := K7.out.cell 0
          have z0 := K7.out.frozen 0
          have r1 := K7.out.cell 1
          have z1 := K7.out.frozen 1
          have r2 := K7.out.cell 2
          have z2 := K7.out.frozen 2
          have r3 := K7.out.cell 3
          have z3 := K7.out.frozen 3
          have r4 := K7.out.cell 4
          have z4 := K7.out.frozen 4
          have r5 := K7.out.cell 5
          have z5 := K7.out.frozen 5
          simp [pkF] at r0 r1 r2 r3 r4 r5
          have s0 := P7.out.cell 0
          have s1 := P7.out.cell 1
          have s2 := P7.out.cell 2
          have s3 := P7.out.cell 3
          have s4 := P7.out.cell 4
          have s5 := P7.out.cell 5
          simp at s0 s1 s2 s3 s4 s5
          go_wp2_with fail
          refine bodyPost_ret (v := .tuple #[.agg (pkF v0 v1 ((v2 : Int) == 1) v3 v4 A7 k7 c7), .int .i64 0]) (by simp [pkF, results, Tryd.results37, go_sem, r0, r1, r2, r3, r4, r5]) rfl ?_
          rw [HBD.out]
          refine ⟨((((((B8.out.setCell (Nat.le_refl _) _).setCell (Nat.le_refl _) _).setCell (Nat.le_refl _) _).setCell (Nat.le_refl _) _).setCell (Nat.le_refl _) _).setCell (Nat.le_refl _) _), .inl ⟨HMY.out, by rw [HD.out]; exact HDl.out, A7, c7, by rw [HK7.out], ?_⟩⟩
          by_cases h0 : bd = []
          · rw [h0]; exact At.nil _ _
          · exact T7.out.grown (grown_set (grown_set (grown_set (grown_set (grown_set (grown_set (grown_refl w7 (some w.heap.size)) 0 _) 1 _) 2 _) 3 _) 4 _) 5 _) (.inr (far_pk2 K7.out T7.out h0))
        · have e1 : ((strN D).toList == (strN l).toList) = false := by rw [hcmp]; simpa using hDl
          have HDl := Lib.hid hDl
          clear hDl hcmp
          have r0 := K7.out.cell 0
          have z0 := K7.out.frozen 0
          have r1 := K7.out.cell 1
          have z1 := K7.out.frozen 1
          have r2 := K7.out.cell 2
          have z2 := K7.out.frozen 2
          have r3 := K7.out.cell 3
          have z3 := K7.out.frozen 3
          have r4 := K7.out.cell 4
          have z4 := K7.out.frozen 4
          have r5 := K7.out.cell 5
          have z5 := K7.out.frozen 5
          simp [pkF] at r0 r1 r2 r3 r4 r5
          go_wp2_with fail
          refine bodyPost_ret (v := .tuple #[.agg (pkF 0 0 false 0 0 none 0 0), .int .i64 3]) (by simp [pkF, results, Tryd.results37, go_sem, r0, r1, r2, r3, r4, r5]) rfl ?_
          rw [HBD.out]
          exact ⟨((((((B8.out.setCell (Nat.le_refl _) _).setCell (Nat.le_refl _) _).setCell (Nat.le_refl _) _).setCell (Nat.le_refl _) _).setCell (Nat.le_refl _) _).setCell (Nat.le_refl _) _), .inr ⟨.inr (by rw [HD.out]; exact HDl.out), rfl⟩⟩
      · have HMY := Lib.hid hm
        clear hm
        have Q := kenc_no v0 v1 ((v2 : Int) == 1) v3 v4 A7 bd.length c7 w6 HMY.out
        rw [HK7.out] at Q
        with_reducible refine Q.mono ?_
        clear Q
        rintro e w7 ⟨rfl, bx⟩
        have K7 := Lib.hid (K6.out.later bx (Nat.le_refl _))
        have B8 := Lib.hid (B7.out.trans (bx.mono B7.out.size))
        clear bx
        have r0 := K7.out.cell 0
        have z0 := K7.out.frozen 0
        have r1 := K7.out.cell 1
        have z1 := K7.out.frozen 1
        have r2 := K7.out.cell 2
        have z2 := K7.out.frozen 2
        have r3 := K7.out.cell 3
        have z3 := K7.out.frozen 3
        have r4 := K7.out.cell 4
        have z4 := K7.out.frozen 4
        have r5 := K7.out.cell 5
        have z5 := K7.out.frozen 5
        simp [pkF] at r0 r1 r2 r3 r4 r5
        go_wp2_with fail
        refine bodyPost_ret (v := .tuple #[.agg (pkF 0 0 false 0 0 none 0 0), .int .i64 3]) (by simp [pkF, results, Tryd.results37, go_sem, r0, r1, r2, r3, r4, r5]) rfl ?_
        rw [HBD.out]
        exact ⟨((((((B8.out.setCell (Nat.le_refl _) _).setCell (Nat.le_refl _) _).setCell (Nat.le_refl _) _).setCell (Nat.le_refl _) _).setCell (Nat.le_refl _) _).setCell (Nat.le_refl _) _), .inr ⟨.inl HMY.out, rfl⟩⟩
end Go.Proofs.YtodimanghmepoaaDoor
namespace Go.Proofs.YtodimanghmepoaaDoor
open Go.RowKit
theorem dec_split {l : List Nat} {v k : Nat} (hb : ∀ y ∈ l, y < 256) (h : VM.dec l = some (v, k)) : l = VM.enc v ++ l.drop k := by
  cases l with
  | nil => simp [VM.dec] at h
  | cons x r =>
    have hx : x < 256 := hb x (by simp)
    have hr : ∀ y ∈ r, y < 256 := fun y hy => hb y (by simp [hy])
    simp only [VM.dec] at h
    by_cases h1 : x < 248
    · rw [if_pos h1] at h
      injection h with h; injection h with h2 h3
      subst h2; subst h3
      rw [VM.enc_small h1]; simp
    · rw [if_neg h1] at h
      by_cases h2 : r.length < x - 247
      · rw [if_pos h2] at h; cases h
      · rw [if_neg h2] at h
        by_cases h3 : r.getD 0 0 = 0
        · rw [if_pos h3] at h; cases h
        · rw [if_neg h3] at h
          by_cases h4 : VM.val (r.take (x - 247)) < 248
          · rw [if_pos h4] at h; cases h
          · rw [if_neg h4] at h
            have h5 := congrArg Prod.fst (Option.some.inj h)
            have h6 := congrArg Prod.snd (Option.some.inj h)
            dsimp only at h5 h6
            rw [← h5, ← h6]
            rw [(VM.ref_iff x r h1 hx hr h2).2 ⟨h3, h4⟩, List.take_append_drop]
theorem good_read {i : List Nat} {most : Nat} (hb : ∀ y ∈ i, y < 256) (h : rk i most = true) : i = VM.enc (rv i most) ++ rl i most := by
  unfold rk at h
  unfold rv rl
  cases hd : VM.dec i with
  | none => rw [hd] at h; cases h
  | some vk =>
    obtain ⟨v, k⟩ := vk
    rw [hd] at h
    have hv : v ≤ most := by simpa using h
    simp only [if_pos hv]
    exact dec_split hb hd
theorem good_bytes {i : List Nat} (hb : ∀ y ∈ i, y < 256) (h : bk i = true) : i = VM.enc (bb i).length ++ (bb i ++ br i) ∧ (bb i).length ≤ 8192 := by
  have h0 := h
  unfold bk at h0
  simp only [Bool.and_eq_true, decide_eq_true_eq] at h0
  obtain ⟨h1, h2⟩ := h0
  have hbb : bb i = (rl i 8192).take (rv i 8192) := by unfold bb; rw [h]; rfl
  have hbr : br i = (rl i 8192).drop (rv i 8192) := by unfold br; rw [h]; rfl
  have hl : (bb i).length = rv i 8192 := by rw [hbb, List.length_take]; omega
  refine ⟨?_, by rw [hl]; exact rv_le _ _⟩
  rw [hl, hbb, hbr, List.take_append_drop]
  exact good_read hb h1
theorem read_enc {v most : Nat} (t : List Nat) (hv : v ≤ most) (h : v < 18446744073709551616) : rv (VM.enc v ++ t) most = v ∧ rl (VM.enc v ++ t) most = t ∧ rk (VM.enc v ++ t) most = true := by
  have hd := VM.dec_enc v h t
  unfold rv rl rk
  rw [hd]
  refine ⟨by simp [hv], ?_, by simp [hv]⟩
  simp only [if_pos hv]
  rw [show VM.size v = (VM.enc v).length from (VM.enc_length v).symm, List.drop_left]
theorem bytes_enc {b : List Nat} (h : b.length ≤ 8192) : bb (VM.enc b.length ++ b) = b ∧ br (VM.enc b.length ++ b) = [] ∧ bk (VM.enc b.length ++ b) = true := by
  obtain ⟨h1, h2, h3⟩ := read_enc (most := 8192) b h (by omega)
  have hk : bk (VM.enc b.length ++ b) = true := by unfold bk; rw [h1, h2, h3]; simp
  refine ⟨?_, ?_, hk⟩
  · unfold bb; rw [hk, h1, h2]; simp
  · unfold br; rw [hk, h1, h2]; simp
theorem fits_tl (h : List Nat) : Crc.Fits (h ++ tl (Crc.sum h)) = true := by
  rw [Crc.fits_pre h.length _ (by rw [List.length_append]; rfl), List.drop_left, List.take_left, tl_pre]
  simp
theorem fits_back {l : List Nat} {m : Nat} (hl : l.length = m + 4) (hb : Crc.Bytes l) (hf : Crc.Fits l = true) : l = l.take m ++ tl (Crc.sum (l.take m)) := by
  rw [Crc.fits_pre m l hl, beq_iff_eq] at hf
  have hd : (l.drop m).length = 4 := by rw [List.length_drop]; omega
  have hdb : Crc.Bytes (l.drop m) := by
    intro i
    have := hb (m + i)
    simpa [List.getD_eq_getElem?_getD, List.getElem?_drop] using this
  have h1 := tl_eq (Crc.sum (l.take m)) (l.drop m) hd hdb
  rw [strN_beq (tl_bytes _) hdb, hf] at h1
  have h2 : tl (Crc.sum (l.take m)) = l.drop m := by simpa using h1
  rw [h2, List.take_append_drop]
theorem fdat_len (fr dt ak ep sq : Nat) (b : List Nat) : (fdat fr dt ak ep sq b).length = (fhead fr dt ak ep sq b).length + 4 := by unfold fdat; rw [List.length_append]; rfl
theorem fhead_len (fr dt ak ep sq : Nat) (b : List Nat) : (fhead fr dt ak ep sq b).length = (VM.enc fr ++ (VM.enc dt ++ (VM.enc ak ++ (VM.enc ep ++ (VM.enc sq ++ (VM.enc b.length ++ b)))))).length + 2 := rfl
/-- inside a datagram -/
theorem fdat_in (fr dt ak ep sq : Nat) (b : List Nat) : ((fdat fr dt ak ep sq b).drop 2).take ((fdat fr dt ak ep sq b).length - 6) = VM.enc fr ++ (VM.enc dt ++ (VM.enc ak ++ (VM.enc ep ++ (VM.enc sq ++ (VM.enc b.length ++ b))))) := by
  rw [fdat_len, fhead_len]
  obtain ⟨i, hi⟩ : ∃ i, VM.enc fr ++ (VM.enc dt ++ (VM.enc ak ++ (VM.enc ep ++ (VM.enc sq ++ (VM.enc b.length ++ b))))) = i := ⟨_, rfl⟩
  have hh : fhead fr dt ak ep sq b = 67 :: 85 :: i := by rw [← hi]; rfl
  unfold fdat
  rw [hh, hi]
  simp
/-- the datagram of what is inside -/
theorem fdat_of {l i : List Nat} {m : Nat} (hl : l.length = m + 6) (hb : ∀ y ∈ l, y < 256) (h67 : l.getD 0 0 = 67) (h85 : l.getD 1 0 = 85) (hf : Crc.Fits l = true) (hi : (l.drop 2).take m = i) : l = (67 :: 85 :: i) ++ tl (Crc.sum (67 :: 85 :: i)) := by
  have h1 := fits_back (m := m + 2) (by omega) (fun j => getD_of_all (m := 255) hb j) hf
  have h2 : l.take (m + 2) = 67 :: 85 :: i := by
    match l, hl with
    | x :: y :: r, _ =>
      simp only [List.getD_cons_zero, List.getD_cons_succ] at h67 h85
      rw [h67, h85, List.take_succ_cons, List.take_succ_cons]
      simp only [List.drop_succ_cons, List.drop_zero] at hi
      rw [hi]
  rw [h2] at h1
  exact h1
/-- what may be of a packet -/
theorem fmay_le {fr dt : Nat} {k : Bool} {ep sq n : Nat} (h : FMay fr dt k ep sq n) : fr ≤ 255 ∧ dt ≤ 255 ∧ 1 ≤ ep ∧ ep ≤ 1073741824 ∧ sq ≤ 1073741824 ∧ n ≤ 8192 := by
  unfold FMay at h
  obtain ⟨h1, h2, h3, h4, h5, h6, h7⟩ := h
  cases k with
  | true => have := h6 rfl; omega
  | false => have := h7 rfl; omega
/-- a packet's datagram read, number by number, whatever the bounds -/
theorem walk_enc {fr dt ak ep sq : Nat} {b : List Nat} (m1 m2 m3 m4 m5 : Nat) (h1 : fr ≤ m1) (h2 : dt ≤ m2) (h3 : ak ≤ m3) (h4 : ep ≤ m4) (h5 : sq ≤ m5) (hm : m1 ≤ 1073741824 ∧ m2 ≤ 1073741824 ∧ m3 ≤ 1073741824 ∧ m4 ≤ 1073741824 ∧ m5 ≤ 1073741824) (hb : b.length ≤ 8192)
    {i0 i1 i2 i3 i4 i5 : List Nat} (e0 : i0 = VM.enc fr ++ (VM.enc dt ++ (VM.enc ak ++ (VM.enc ep ++ (VM.enc sq ++ (VM.enc b.length ++ b)))))) (e1 : rl i0 m1 = i1) (e2 : rl i1 m2 = i2) (e3 : rl i2 m3 = i3) (e4 : rl i3 m4 = i4) (e5 : rl i4 m5 = i5) :
    (rv i0 m1 = fr ∧ rk i0 m1 = true) ∧ (rv i1 m2 = dt ∧ rk i1 m2 = true) ∧ (rv i2 m3 = ak ∧ rk i2 m3 = true) ∧ (rv i3 m4 = ep ∧ rk i3 m4 = true) ∧ (rv i4 m5 = sq ∧ rk i4 m5 = true) ∧ bb i5 = b ∧ br i5 = [] ∧ bk i5 = true := by
  subst e0
  obtain ⟨a1, a2, a3⟩ := read_enc (v := fr) (most := m1) (VM.enc dt ++ (VM.enc ak ++ (VM.enc ep ++ (VM.enc sq ++ (VM.enc b.length ++ b))))) h1 (by omega)
  rw [a2] at e1; subst e1
  obtain ⟨b1, b2, b3⟩ := read_enc (v := dt) (most := m2) (VM.enc ak ++ (VM.enc ep ++ (VM.enc sq ++ (VM.enc b.length ++ b)))) h2 (by omega)
  rw [b2] at e2; subst e2
  obtain ⟨c1, c2, c3⟩ := read_enc (v := ak) (most := m3) (VM.enc ep ++ (VM.enc sq ++ (VM.enc b.length ++ b))) h3 (by omega)
  rw [c2] at e3; subst e3
  obtain ⟨d1, d2, d3⟩ := read_enc (v := ep) (most := m4) (VM.enc sq ++ (VM.enc b.length ++ b)) h4 (by omega)
  rw [d2] at e4; subst e4
  obtain ⟨f1, f2, f3⟩ := read_enc (v := sq) (most := m5) (VM.enc b.length ++ b) h5 (by omega)
  rw [f2] at e5; subst e5
  obtain ⟨g1, g2, g3⟩ := bytes_enc hb
  exact ⟨⟨a1, a3⟩, ⟨b1, b3⟩, ⟨c1, c3⟩, ⟨d1, d3⟩, ⟨f1, f3⟩, g1, g2, g3⟩
/-- where all was well, it was a packet's datagram -/
theorem walk_good {v1 v2 v3 v4 v5 : Nat} {i0 i1 i2 i3 i4 i5 bd rest : List Nat} {x1 x2 x3 x4 x5 x6 : Bool} {m1 m2 m3 m4 m5 : Nat} (hb : ∀ y ∈ i0, y < 256)
    (h1 : rv i0 m1 = v1 ∧ rl i0 m1 = i1 ∧ (false || !rk i0 m1) = x1) (h2 : rv i1 m2 = v2 ∧ rl i1 m2 = i2 ∧ (x1 || !rk i1 m2) = x2) (h3 : rv i2 m3 = v3 ∧ rl i2 m3 = i3 ∧ (x2 || !rk i2 m3) = x3)
    (h4 : rv i3 m4 = v4 ∧ rl i3 m4 = i4 ∧ (x3 || !rk i3 m4) = x4) (h5 : rv i4 m5 = v5 ∧ rl i4 m5 = i5 ∧ (x4 || !rk i4 m5) = x5) (h6 : bb i5 = bd ∧ br i5 = rest ∧ (x5 || !bk i5) = x6) (hx : (x6 || !rest.isEmpty) = false) :
    i0 = VM.enc v1 ++ (VM.enc v2 ++ (VM.enc v3 ++ (VM.enc v4 ++ (VM.enc v5 ++ (VM.enc bd.length ++ bd))))) ∧ bd.length ≤ 8192 := by
  obtain ⟨rfl, rfl, rfl⟩ := h1
  obtain ⟨rfl, rfl, rfl⟩ := h2
  obtain ⟨rfl, rfl, rfl⟩ := h3
  obtain ⟨rfl, rfl, rfl⟩ := h4
  obtain ⟨rfl, rfl, rfl⟩ := h5
  obtain ⟨rfl, rfl, rfl⟩ := h6
  simp only [Bool.or_eq_false_iff, Bool.not_eq_false'] at hx
  obtain ⟨⟨⟨⟨⟨⟨⟨_, k1⟩, k2⟩, k3⟩, k4⟩, k5⟩, k6⟩, k7⟩ := hx
  have s1 := good_read hb k1
  have b1 : ∀ y ∈ rl i0 m1, y < 256 := fun y hy => hb y (rl_sub.1 y hy)
  have s2 := good_read b1 k2
  have b2 : ∀ y ∈ rl (rl i0 m1) m2, y < 256 := fun y hy => b1 y (rl_sub.1 y hy)
  have s3 := good_read b2 k3
  have b3 : ∀ y ∈ rl (rl (rl i0 m1) m2) m3, y < 256 := fun y hy => b2 y (rl_sub.1 y hy)
  have s4 := good_read b3 k4
  have b4 : ∀ y ∈ rl (rl (rl (rl i0 m1) m2) m3) m4, y < 256 := fun y hy => b3 y (rl_sub.1 y hy)
  have s5 := good_read b4 k5
  have b5 : ∀ y ∈ rl (rl (rl (rl (rl i0 m1) m2) m3) m4) m5, y < 256 := fun y hy => b4 y (rl_sub.1 y hy)
  obtain ⟨s6, s7⟩ := good_bytes b5 k6
  have hr : br (rl (rl (rl (rl (rl i0 m1) m2) m3) m4) m5) = [] := List.isEmpty_iff.1 k7
  rw [hr, List.append_nil] at s6
  refine ⟨?_, s7⟩
  rw [← s6, ← s5, ← s4, ← s3, ← s2, ← s1]
end Go.Proofs.YtodimanghmepoaaDoor
namespace Go.Proofs.YtodimanghmepoaaDoor
open Go.RowKit
def erV (f : Int) : Value := if f = 0 then .nilIface else .iface 70 (.int .i64 f)
theorem erV_zero : erV 0 = .nilIface := rfl
theorem erV_ne {f : Int} (h : f ≠ 0) : erV f = .iface 70 (.int .i64 f) := by unfold erV; rw [if_neg h]
/-- the bytes are a packet's -/
def Good (l : List Nat) (fr dt : Nat) (k : Bool) (ep sq : Nat) (bd : List Nat) : Prop := FMay fr dt k ep sq bd.length ∧ l = fdat fr dt (if k then 1 else 0) ep sq bd
def akN (k : Bool) : Nat := if k then 1 else 0
theorem Good.uniq {l : List Nat} {fr dt : Nat} {k : Bool} {ep sq : Nat} {bd : List Nat} {fr2 dt2 : Nat} {k2 : Bool} {ep2 sq2 : Nat} {bd2 : List Nat} (h : Good l fr dt k ep sq bd) (h2 : Good l fr2 dt2 k2 ep2 sq2 bd2) :
    fr = fr2 ∧ dt = dt2 ∧ k = k2 ∧ ep = ep2 ∧ sq = sq2 ∧ bd = bd2 := by
  obtain ⟨m1, e1⟩ := h
  obtain ⟨m2, e2⟩ := h2
  have a := fmay_le m1
  have b := fmay_le m2
  have i1 := fdat_in fr dt (if k then 1 else 0) ep sq bd
  have i2 := fdat_in fr2 dt2 (if k2 then 1 else 0) ep2 sq2 bd2
  rw [← e1] at i1
  rw [← e2] at i2
  have ha : (if k then 1 else 0 : Nat) ≤ 1 := by split <;> omega
  have hb : (if k2 then 1 else 0 : Nat) ≤ 1 := by split <;> omega
  obtain ⟨⟨x1, _⟩, ⟨x2, _⟩, ⟨x3, _⟩, ⟨x4, _⟩, ⟨x5, _⟩, x6, _⟩ := walk_enc 1073741824 1073741824 1073741824 1073741824 1073741824 (by omega) (by omega) (by omega) (by omega) (by omega) (by omega) a.2.2.2.2.2 i1 rfl rfl rfl rfl rfl
  obtain ⟨⟨y1, _⟩, ⟨y2, _⟩, ⟨y3, _⟩, ⟨y4, _⟩, ⟨y5, _⟩, y6, _⟩ := walk_enc 1073741824 1073741824 1073741824 1073741824 1073741824 (by omega) (by omega) (by omega) (by omega) (by omega) (by omega) b.2.2.2.2.2 i2 rfl rfl rfl rfl rfl
  have hk : (if k then 1 else 0 : Nat) = (if k2 then 1 else 0) := x3.symm.trans y3
  refine ⟨x1.symm.trans y1, x2.symm.trans y2, ?_, x4.symm.trans y4, x5.symm.trans y5, x6.symm.trans y6⟩
  cases k <;> cases k2 <;> simp at hk ⊢
theorem Good.form {l : List Nat} {fr dt : Nat} {k : Bool} {ep sq : Nat} {bd : List Nat} (h : Good l fr dt k ep sq bd) : 6 ≤ l.length ∧ l.length ≤ 8300 ∧ l.getD 0 0 = 67 ∧ l.getD 1 0 = 85 ∧ Crc.Fits l = true := by
  obtain ⟨m1, rfl⟩ := h
  have a := fmay_le m1
  have hk : (if k then 1 else 0 : Nat) < 18446744073709551616 := by split <;> omega
  refine ⟨by rw [fdat_len, fhead_len]; omega, ?_, rfl, rfl, fits_tl _⟩
  rw [fdat_len, fhead_len]
  simp only [List.length_append]
  have h1 := enc_le (v := fr) (by omega)
  have h2 := enc_le (v := dt) (by omega)
  have h3 := enc_le hk
  have h4 := enc_le (v := ep) (by omega)
  have h5 := enc_le (v := sq) (by omega)
  have h6 := enc_le (v := bd.length) (by omega)
  omega
/-- what is wrong with bytes that are no packet's -/
def errN (l : List Nat) : Int := if 8300 < l.length then 5 else if l.length < 6 ∨ l.getD 0 0 ≠ 67 ∨ l.getD 1 0 ≠ 85 then 3 else if Crc.Fits l = false then 4 else 3
theorem errN_ne (l : List Nat) : errN l ≠ 0 := by unfold errN; split <;> (try split) <;> (try split) <;> decide
/-- the answer to bytes: a packet, or an error -/
def Dres (l : List Nat) (fr dt : Nat) (k : Bool) (ep sq : Nat) (bd : List Nat) (x : Int) : Prop :=
  (x = 0 ∧ Good l fr dt k ep sq bd) ∨ (x = errN l ∧ (∀ a b c d e f, ¬ Good l a b c d e f) ∧ fr = 0 ∧ dt = 0 ∧ k = false ∧ ep = 0 ∧ sq = 0 ∧ bd = [])
theorem Dres.uniq {l : List Nat} {fr dt : Nat} {k : Bool} {ep sq : Nat} {bd : List Nat} {x : Int} {fr2 dt2 : Nat} {k2 : Bool} {ep2 sq2 : Nat} {bd2 : List Nat} {x2 : Int} (h : Dres l fr dt k ep sq bd x) (h2 : Dres l fr2 dt2 k2 ep2 sq2 bd2 x2) :
    fr = fr2 ∧ dt = dt2 ∧ k = k2 ∧ ep = ep2 ∧ sq = sq2 ∧ bd = bd2 ∧ x = x2 := by
  rcases h with ⟨h1, h3⟩ | ⟨h1, h3, a1, a2, a3, a4, a5, a6⟩
  · rcases h2 with ⟨g1, g3⟩ | ⟨g1, g3, _⟩
    · obtain ⟨b1, b2, b3, b4, b5, b6⟩ := h3.uniq g3
      exact ⟨b1, b2, b3, b4, b5, b6, h1.trans g1.symm⟩
    · exact absurd h3 (g3 _ _ _ _ _ _)
  · rcases h2 with ⟨g1, g3⟩ | ⟨g1, g3, b1, b2, b3, b4, b5, b6⟩
    · exact absurd g3 (h3 _ _ _ _ _ _)
    · exact ⟨a1.trans b1.symm, a2.trans b2.symm, a3.trans b3.symm, a4.trans b4.symm, a5.trans b5.symm, a6.trans b6.symm, h1.trans g1.symm⟩
theorem Dres.no {l : List Nat} (h : ∀ a b c d e f, ¬ Good l a b c d e f) : Dres l 0 0 false 0 0 [] (errN l) := .inr ⟨rfl, h, rfl, rfl, rfl, rfl, rfl, rfl⟩
def DecR (w : World) (l : List Nat) (e : Ending) (w' : World) : Prop :=
  ∃ (fr dt : Nat) (k : Bool) (ep sq : Nat) (bd : List Nat) (x : Int) (A : Option Addr) (c : Nat), e = .returned (.tuple #[.agg (pkF fr dt k ep sq A bd.length c), erV x]) ∧ At w' A (nats .u8 bd) ∧ Below w.heap.size w w' ∧ Dres l fr dt k ep sq bd x ∧ (∀ k, blk A = some k → w.heap.size ≤ k ∧ k < w'.heap.size)
theorem decR_no {w w' : World} {l : List Nat} {x : Int} {e : Ending} (hx : errN l = x) (h : DecNo w x e w') (hn : ∀ a b c d e f, ¬ Good l a b c d e f) : DecR w l e w' := by
  obtain ⟨rfl, h2⟩ := h
  refine ⟨0, 0, false, 0, 0, [], errN l, none, 0, ?_, At.nil _ _, h2, Dres.no hn, fun k h => by cases h⟩
  rw [erV_ne (errN_ne l), hx]; rfl
theorem dec_any (A : Option Addr) (n c : Nat) (l : List Nat) (w : World) (hl : l.length = n) (hnc : n ≤ c) (hc2 : c ≤ 9223372036854775807) (hat : At w A (nats .u8 l)) (hb : ∀ y ∈ l, y < 256) :
    Calls Tryd.prog 26 #[.slice A n c] w (DecR w l) := by
  by_cases h1 : 8300 < n
  · refine (fdec_long A n c w h1).mono fun e w' h => decR_no (by unfold errN; rw [if_pos (by omega)]) h (fun _ _ _ _ _ _ hg => by have := hg.form; omega)
  by_cases h2 : n < 6
  · refine (fdec_short A n c w h2).mono fun e w' h => decR_no (by unfold errN; rw [if_neg (by omega), if_pos (.inl (by omega))]) h (fun _ _ _ _ _ _ hg => by have := hg.form; omega)
  obtain ⟨b, o, rfl, _⟩ := hat.nat 0 (by omega)
  by_cases h3 : l.getD 0 0 = 67
  rotate_left
  · refine (fdec_head0 b o n c l w hl (by omega) (by omega) hnc hc2 hat h3).mono fun e w' h => decR_no (by unfold errN; rw [if_neg (by omega), if_pos (.inr (.inl h3))]) h (fun _ _ _ _ _ _ hg => h3 hg.form.2.2.1)
  by_cases h4 : l.getD 1 0 = 85
  rotate_left
  · refine (fdec_head1 b o n c l w hl (by omega) (by omega) hnc hc2 hat h3 h4).mono fun e w' h => decR_no (by unfold errN; rw [if_neg (by omega), if_pos (.inr (.inr h4))]) h (fun _ _ _ _ _ _ hg => h4 hg.form.2.2.2.1)
  have hno : ¬ (l.length < 6 ∨ l.getD 0 0 ≠ 67 ∨ l.getD 1 0 ≠ 85) := by
    rintro (h | h | h)
    · omega
    · exact h h3
    · exact h h4
  cases hf : Crc.Fits l with
  | false =>
    refine (fdec_sum b o n c l w hl (by omega) (by omega) hnc hc2 hat h3 h4 hf).mono fun e w' h => decR_no (by unfold errN; rw [if_neg (by omega), if_neg hno, if_pos hf]) h (fun _ _ _ _ _ _ hg => by have := hg.form.2.2.2.2; rw [hf] at this; cases this)
  | true =>
    obtain ⟨m, rfl⟩ : ∃ m, n = m + 6 := ⟨n - 6, by omega⟩
    have hi0 : ∀ y ∈ (l.drop 2).take m, y < 256 := fun y hy => hb y (List.mem_of_mem_drop (List.mem_of_mem_take hy))
    refine (fdec_walk b o m c l w hl (by omega) hnc hc2 hat hb h3 h4 hf).mono fun e w' h => ?_
    obtain ⟨v1, v2, v3, v4, v5, i1, i2, i3, i4, i5, bd, rest, x1, x2, x3, x4, x5, x6, r1, r2, r3, r4, r5, r6, hbel, h⟩ := h
    have hlt := fdat_of hl hb h3 h4 hf rfl
    rcases h with ⟨hx, hm, A', c', rfl, hat', hfr'⟩ | ⟨hbad, rfl⟩
    · obtain ⟨hi, hbl⟩ := walk_good hi0 r1 r2 r3 r4 r5 r6 hx
      have h31 : v3 ≤ 1 := by rw [← r3.1]; exact rv_le _ _
      have hk : (if ((v3 : Int) == 1) then 1 else 0 : Nat) = v3 := by
        rcases Nat.lt_or_ge v3 1 with h | h
        · obtain rfl : v3 = 0 := by omega
          rfl
        · obtain rfl : v3 = 1 := by omega
          rfl
      refine ⟨v1, v2, ((v3 : Int) == 1), v4, v5, bd, 0, A', c', rfl, hat', hbel, .inl ⟨rfl, hm, ?_⟩, hfr'⟩
      rw [hk]
      rw [hi] at hlt
      exact hlt
    · refine ⟨0, 0, false, 0, 0, [], errN l, none, 0, ?_, At.nil _ _, hbel, Dres.no ?_, fun k h => by cases h⟩
      · rw [erV_ne (errN_ne l)]
        have : errN l = 3 := by unfold errN; rw [if_neg (by omega), if_neg hno, if_neg (by rw [hf]; decide)]
        rw [this]; rfl
      · rintro fr dt k ep sq b2 ⟨gm, ge⟩
        have a := fmay_le gm
        have hk1 : (if k then 1 else 0 : Nat) ≤ 1 := by split <;> omega
        have i2' := fdat_in fr dt (if k then 1 else 0) ep sq b2
        rw [← ge, hl, Nat.add_sub_cancel] at i2'
        obtain ⟨⟨y1, z1⟩, ⟨y2, z2⟩, ⟨y3, z3⟩, ⟨y4, z4⟩, ⟨y5, z5⟩, y6, y7, y8⟩ := walk_enc 255 255 1 1073741824 1073741824 (by omega) (by omega) hk1 (by omega) (by omega) (by omega) a.2.2.2.2.2 i2' r1.2.1 r2.2.1 r3.2.1 r4.2.1 r5.2.1
        rw [r1.1] at y1
        rw [r2.1] at y2
        rw [r3.1] at y3
        rw [r4.1] at y4
        rw [r5.1] at y5
        rw [r6.1] at y6
        rw [r6.2.1] at y7
        have hx1 : x1 = false := by rw [← r1.2.2, z1]; rfl
        have hx2 : x2 = false := by rw [← r2.2.2, z2, hx1]; rfl
        have hx3 : x3 = false := by rw [← r3.2.2, z3, hx2]; rfl
        have hx4 : x4 = false := by rw [← r4.2.2, z4, hx3]; rfl
        have hx5 : x5 = false := by rw [← r5.2.2, z5, hx4]; rfl
        have hx6 : x6 = false := by rw [← r6.2.2, y8, hx5]; rfl
        have hk : ((v3 : Int) == 1) = k := by rw [y3]; cases k <;> rfl
        rcases hbad with hbad | hbad
        · rw [hx6, y7] at hbad; cases hbad
        · rw [hk, y1, y2, y4, y5, y6] at hbad; exact hbad gm
def DecK (w : World) (l : List Nat) (e : Ending) (w' : World) : Prop :=
  ∃ (fr dt : Nat) (k : Bool) (ep sq : Nat) (bd : List Nat) (x : Int) (A : Option Addr) (c : Nat), e = .returned (.tuple #[.agg (pkF fr dt k ep sq A bd.length c), .int .i64 x]) ∧ At w' A (nats .u8 bd) ∧ Below w.heap.size w w' ∧ Dres l fr dt k ep sq bd x
theorem decK_no {w w' : World} {l : List Nat} {x : Int} {e : Ending} (hx : errN l = x) (h : KdecNo w x e w') (hn : ∀ a b c d e f, ¬ Good l a b c d e f) : DecK w l e w' := by
  obtain ⟨rfl, h2⟩ := h
  refine ⟨0, 0, false, 0, 0, [], errN l, none, 0, ?_, At.nil _ _, h2, Dres.no hn⟩
  rw [hx]; rfl
theorem deck_any (A : Option Addr) (n c : Nat) (l : List Nat) (w : World) (hl : l.length = n) (hnc : n ≤ c) (hc2 : c ≤ 9223372036854775807) (hat : At w A (nats .u8 l)) (hb : ∀ y ∈ l, y < 256) (hn9 : n ≤ 900 ∨ 8300 < n) :
    Calls Tryd.prog 37 #[.slice A n c] w (DecK w l) := by
  have hby : Crc.Bytes l := fun j => getD_of_all (m := 255) hb j
  by_cases h1 : 8300 < n
  · refine (kdec_long A n c w h1).mono fun e w' h => decK_no (by unfold errN; rw [if_pos (by omega)]) h (fun _ _ _ _ _ _ hg => by have := hg.form; omega)
  by_cases h2 : n < 6
  · refine (kdec_short A n c w h2).mono fun e w' h => decK_no (by unfold errN; rw [if_neg (by omega), if_pos (.inl (by omega))]) h (fun _ _ _ _ _ _ hg => by have := hg.form; omega)
  obtain ⟨b, o, rfl, _⟩ := hat.nat 0 (by omega)
  by_cases h3 : l.getD 0 0 = 67
  rotate_left
  · refine (kdec_head0 b o n c l w hl (by omega) (by omega) hnc hc2 hat h3).mono fun e w' h => decK_no (by unfold errN; rw [if_neg (by omega), if_pos (.inr (.inl h3))]) h (fun _ _ _ _ _ _ hg => h3 hg.form.2.2.1)
  by_cases h4 : l.getD 1 0 = 85
  rotate_left
  · refine (kdec_head1 b o n c l w hl (by omega) (by omega) hnc hc2 hat h3 h4).mono fun e w' h => decK_no (by unfold errN; rw [if_neg (by omega), if_pos (.inr (.inr h4))]) h (fun _ _ _ _ _ _ hg => h4 hg.form.2.2.2.1)
  have hno : ¬ (l.length < 6 ∨ l.getD 0 0 ≠ 67 ∨ l.getD 1 0 ≠ 85) := by
    rintro (h | h | h)
    · omega
    · exact h h3
    · exact h h4
  cases hf : Crc.Fits l with
  | false =>
    refine (kdec_sum b o n c l w hl (by omega) (by omega) hnc hc2 hat hby h3 h4 hf).mono fun e w' h => decK_no (by unfold errN; rw [if_neg (by omega), if_neg hno, if_pos hf]) h (fun _ _ _ _ _ _ hg => by have := hg.form.2.2.2.2; rw [hf] at this; cases this)
  | true =>
    obtain ⟨m, rfl⟩ : ∃ m, n = m + 6 := ⟨n - 6, by omega⟩
    refine (kdec_walk b o m c l w hl (by omega) hnc hc2 hat hb h3 h4 hf).mono fun e w' h => ?_
    obtain ⟨hbel, h⟩ := h
    rcases h with ⟨hm, he, A', c', rfl, hat'⟩ | ⟨hbad, rfl⟩
    · exact ⟨_, _, _, _, _, _, 0, A', c', rfl, hat', hbel, .inl ⟨rfl, hm, he.symm⟩⟩
    · refine ⟨0, 0, false, 0, 0, [], errN l, none, 0, ?_, At.nil _ _, hbel, Dres.no ?_⟩
      · have : errN l = 3 := by unfold errN; rw [if_neg (by omega), if_neg hno, if_neg (by rw [hf]; decide)]
        rw [this]; rfl
      · rintro fr dt k ep sq b2 ⟨gm, ge⟩
        have a := fmay_le gm
        have hk1 : (if k then 1 else 0 : Nat) ≤ 1 := by split <;> omega
        have i2' := fdat_in fr dt (if k then 1 else 0) ep sq b2
        rw [← ge, hl, Nat.add_sub_cancel] at i2'
        obtain ⟨⟨y1, z1⟩, ⟨y2, z2⟩, ⟨y3, z3⟩, ⟨y4, z4⟩, ⟨y5, z5⟩, y6, y7, y8⟩ := walk_enc 1073741824 1073741824 1073741824 1073741824 1073741824 (by omega) (by omega) (by omega) (by omega) (by omega) (by omega) a.2.2.2.2.2 i2' rfl rfl rfl rfl rfl
        have y1 : kv ((l.drop 2).take m) 0 = fr := y1
        have y2 : kv ((l.drop 2).take m) 1 = dt := y2
        have y3 : kv ((l.drop 2).take m) 2 = (if k then 1 else 0) := y3
        have y4 : kv ((l.drop 2).take m) 3 = ep := y4
        have y5 : kv ((l.drop 2).take m) 4 = sq := y5
        have y6 : bb (ks ((l.drop 2).take m) 5) = b2 := y6
        have hk : ((((if k then 1 else 0 : Nat) : Nat) : Int) == 1) = k := by cases k <;> rfl
        rw [y1, y2, y3, y4, y5, y6, hk] at hbad
        rcases hbad with hbad | hbad
        · exact hbad gm
        · exact hbad ge.symm
/-! ### Encode -/
open Classical in
noncomputable def encL (fr dt : Int) (k : Bool) (ep sq : Int) (b : List Nat) : List Nat := if FMay fr dt k ep sq b.length then fdat fr.toNat dt.toNat (if k then 1 else 0) ep.toNat sq.toNat b else []
open Classical in
noncomputable def encX (fr dt : Int) (k : Bool) (ep sq : Int) (n : Nat) : Int := if FMay fr dt k ep sq n then 0 else 1
def EncR (w : World) (L : List Nat) (v : Value) (e : Ending) (w' : World) : Prop := ∃ A c, e = .returned (.tuple #[.slice A L.length c, v]) ∧ Own w' w.heap.size 5 1 A L.length c (nats .u8 L) ∧ Below w.heap.size w w'
theorem fmay_nat {fr dt : Int} {k : Bool} {ep sq : Int} {n : Nat} (h : FMay fr dt k ep sq n) : ∃ a b c d : Nat, fr = a ∧ dt = b ∧ ep = c ∧ sq = d := by
  unfold FMay at h
  exact ⟨fr.toNat, dt.toNat, ep.toNat, sq.toNat, by omega, by omega, by omega, by omega⟩
theorem enc_any (fr dt : Int) (k : Bool) (ep sq : Int) (A : Option Addr) (n c : Nat) (b : List Nat) (w : World) (hl : b.length = n) (hat : At w A (nats .u8 b)) :
    Calls Tryd.prog 23 #[.agg #[.int .i64 fr, .int .i64 dt, .bool k, .int .i64 ep, .int .i64 sq, .slice A n c]] w (EncR w (encL fr dt k ep sq b) (erV (encX fr dt k ep sq b.length))) := by
  subst hl
  by_cases hm : FMay fr dt k ep sq b.length
  · have e1 : encX fr dt k ep sq b.length = 0 := by unfold encX; rw [if_pos hm]
    have e2 : encL fr dt k ep sq b = fdat fr.toNat dt.toNat (if k then 1 else 0) ep.toNat sq.toNat b := by unfold encL; rw [if_pos hm]
    rw [e1, e2]
    obtain ⟨f, d, p, s, rfl, rfl, rfl, rfl⟩ := fmay_nat hm
    simp only [Int.toNat_natCast]
    cases k with
    | true => exact (fenc_true f d p s A c b w hm hat).mono fun e w' ⟨A', c', h1, h2, h3⟩ => ⟨A', c', h1, h2, h3⟩
    | false => exact (fenc_false f d p s A c b w hm hat).mono fun e w' ⟨A', c', h1, h2, h3⟩ => ⟨A', c', h1, h2, h3⟩
  · have e1 : encX fr dt k ep sq b.length = 1 := by unfold encX; rw [if_neg hm]
    have e2 : encL fr dt k ep sq b = [] := by unfold encL; rw [if_neg hm]
    rw [e1, e2]
    exact (fenc_no fr dt k ep sq A b.length c w hm).mono fun e w' ⟨h1, h2⟩ => ⟨none, 0, h1, Own.none_ _ _ _ _, h2⟩
theorem enck_any (fr dt : Int) (k : Bool) (ep sq : Int) (A : Option Addr) (n c : Nat) (b : List Nat) (w : World) (hl : b.length = n) (hat : At w A (nats .u8 b)) (hby : ∀ y ∈ b, y < 256) (hn9 : n ≤ 900 ∨ 8192 < n) :
    Calls Tryd.prog 17 #[.agg #[.int .i64 fr, .int .i64 dt, .bool k, .int .i64 ep, .int .i64 sq, .slice A n c]] w (EncR w (encL fr dt k ep sq b) (.int .i64 (encX fr dt k ep sq b.length))) := by
  subst hl
  by_cases hm : FMay fr dt k ep sq b.length
  · have e1 : encX fr dt k ep sq b.length = 0 := by unfold encX; rw [if_pos hm]
    have e2 : encL fr dt k ep sq b = fdat fr.toNat dt.toNat (if k then 1 else 0) ep.toNat sq.toNat b := by unfold encL; rw [if_pos hm]
    rw [e1, e2]
    obtain ⟨f, d, p, s, rfl, rfl, rfl, rfl⟩ := fmay_nat hm
    simp only [Int.toNat_natCast]
    have := fmay_le hm
    exact (kenc_yes f d p s k A c b w hm (by omega) hat hby).mono fun e w' ⟨A', c', h1, h2, h3⟩ => ⟨A', c', h1, h2, h3⟩
  · have e1 : encX fr dt k ep sq b.length = 1 := by unfold encX; rw [if_neg hm]
    have e2 : encL fr dt k ep sq b = [] := by unfold encL; rw [if_neg hm]
    rw [e1, e2]
    exact (kenc_no fr dt k ep sq A b.length c w hm).mono fun e w' ⟨h1, h2⟩ => ⟨none, 0, h1, Own.none_ _ _ _ _, h2⟩
theorem chk_any (fr dt : Int) (k : Bool) (ep sq : Int) (A : Option Addr) (n c : Nat) (w : World) :
    Calls Tryd.prog 41 #[.agg #[.int .i64 fr, .int .i64 dt, .bool k, .int .i64 ep, .int .i64 sq, .slice A n c]] w fun e w' => e = .returned (erV (encX fr dt k ep sq n)) ∧ Below w.heap.size w w' :=
  (fcheck_any fr dt k ep sq A n c w).mono fun e w' ⟨h1, h2⟩ => by
    refine ⟨?_, h2⟩
    rcases h1 with ⟨h1, h3⟩ | ⟨h1, h3⟩
    · rw [h1]; unfold encX; rw [if_pos h3]; rfl
    · rw [h1]; unfold encX; rw [if_neg h3]; rfl
end Go.Proofs.YtodimanghmepoaaDoor
