/- Layer 14, the document: Decode. -/
import Derived.Test.YtlimabhojocimaaDoorFrR
namespace Go.Proofs.YtlimabhojocimaaDoor
open Go.RowKit
/-- what is left behind so many numbers, whether something was wrong, and the numbers -/
def ks (i : List Nat) : Nat → List Nat
  | 0 => i
  | j + 1 => rl (ks i j) 1073741824
def kf (i : List Nat) : Nat → Bool
  | 0 => false
  | j + 1 => kf i j || !rk (ks i j) 1073741824
def kv (i : List Nat) (j : Nat) : Nat := rv (ks i j) 1073741824
theorem kv_le (i : List Nat) (j : Nat) : kv i j ≤ 1073741824 := rv_le _ _
def karr (i : List Nat) (j : Nat) : List Nat := (List.range 5).map fun t => if t < j then kv i t else 0
theorem karr_set (i : List Nat) (j : Nat) : (nats .u64 (karr i j)).toArray.setIfInBounds j (.int .u64 (kv i j : Nat)) = (nats .u64 (karr i (j + 1))).toArray := by
  apply Array.ext
  · simp [karr, nats]
  · intro k h1 h2
    have hk : k < 5 := by simpa [karr, nats] using h2
    simp only [karr, nats, List.setIfInBounds_toArray, List.getElem_toArray, List.getElem_set, List.getElem_map, List.getElem_range]
    by_cases e : j = k
    · subst e; simp
    · rw [if_neg e]
      by_cases h : k < j
      · rw [if_pos h, if_pos (by omega)]
      · rw [if_neg h, if_neg (by omega)]
theorem all_of_getD {l : List Nat} (h : ∀ i, l.getD i 0 < 256) : ∀ y ∈ l, y < 256 := by
  intro y hy
  obtain ⟨i, hi, rfl⟩ := List.mem_iff_getElem.1 hy
  have := h i
  rwa [getD_lt hi] at this
theorem fhead_byte {fr dt ak ep sq : Nat} {b : List Nat} (h1 : fr < 18446744073709551616) (h2 : dt < 18446744073709551616) (h3 : ak < 18446744073709551616) (h4 : ep < 18446744073709551616) (h5 : sq < 18446744073709551616) (h6 : b.length < 18446744073709551616) (hb : ∀ y ∈ b, y < 256) : ∀ y ∈ fhead fr dt ak ep sq b, y < 256 := by
  intro y hy
  unfold fhead at hy
  simp only [List.mem_cons, List.mem_append] at hy
  rcases hy with h | h | h | h | h | h | h | h | h
  · omega
  · omega
  · exact VM.enc_byte h1 y h
  · exact VM.enc_byte h2 y h
  · exact VM.enc_byte h3 y h
  · exact VM.enc_byte h4 y h
  · exact VM.enc_byte h5 y h
  · exact VM.enc_byte h6 y h
  · exact hb y h
theorem fdat_byte {fr dt ak ep sq : Nat} {b : List Nat} (h1 : fr < 18446744073709551616) (h2 : dt < 18446744073709551616) (h3 : ak < 18446744073709551616) (h4 : ep < 18446744073709551616) (h5 : sq < 18446744073709551616) (h6 : b.length < 18446744073709551616) (hb : ∀ y ∈ b, y < 256) : ∀ y ∈ fdat fr dt ak ep sq b, y < 256 := by
  intro y hy
  unfold fdat at hy
  rcases List.mem_append.1 hy with h | h
  · exact fhead_byte h1 h2 h3 h4 h5 h6 hb y h
  · exact all_of_getD (tl_bytes _) y h
theorem rl_sub {l : List Nat} {most : Nat} : (∀ y ∈ rl l most, y ∈ l) ∧ (rl l most).length ≤ l.length := by
  unfold rl
  cases VM.dec l with
  | none => exact ⟨by simp, by simp⟩
  | some vk =>
    obtain ⟨v, k⟩ := vk
    by_cases h : v ≤ most
    · simp only [if_pos h]; exact ⟨fun y hy => List.mem_of_mem_drop hy, by simp⟩
    · simp only [if_neg h]; exact ⟨by simp, by simp⟩
theorem ks_sub (i : List Nat) : ∀ j, (∀ y ∈ ks i j, y ∈ i) ∧ (ks i j).length ≤ i.length
  | 0 => ⟨fun _ h => h, Nat.le_refl _⟩
  | j + 1 => ⟨fun y hy => (ks_sub i j).1 y (rl_sub.1 y hy), Nat.le_trans rl_sub.2 (ks_sub i j).2⟩
theorem bb_sub (l : List Nat) : (∀ y ∈ bb l, y ∈ l) ∧ (bb l).length ≤ l.length := by
  unfold bb
  split
  · exact ⟨fun y hy => rl_sub.1 y (List.mem_of_mem_take hy), by have := (rl_sub (l := l) (most := 8192)).2; rw [List.length_take]; omega⟩
  · exact ⟨by simp, by simp⟩
/-- what the document's Decode reads, and how it ends -/
def KdecV (w : World) (l : List Nat) (v0 v1 v2 v3 v4 : Nat) (bd : List Nat) (e : Ending) (w' : World) : Prop :=
  Below w.heap.size w w' ∧
    ((FMay v0 v1 ((v2 : Int) == 1) v3 v4 bd.length ∧ fdat v0 v1 (if ((v2 : Int) == 1) then 1 else 0) v3 v4 bd = l ∧
      ∃ A c, e = .returned (.tuple #[.agg (pkF v0 v1 ((v2 : Int) == 1) v3 v4 A bd.length c), .int .i64 0]) ∧ At w' A (nats .u8 bd)) ∨
     ((¬ FMay v0 v1 ((v2 : Int) == 1) v3 v4 bd.length ∨ fdat v0 v1 (if ((v2 : Int) == 1) then 1 else 0) v3 v4 bd ≠ l) ∧ e = .returned (.tuple #[.agg (pkF 0 0 false 0 0 none 0 0), .int .i64 3])))
theorem far_pk2 {w : World} {q : Nat} {t : TypeId} {a b : Int} {c : Bool} {d e : Int} {A2 : Option Addr} {n k : Nat} {A : Option Addr} {l : List Nat} (hH : Holds w q t (pkF a b c d e A2 n k)) (ha : At w A (nats .u8 l)) (h0 : l ≠ []) : blk A ≠ some q := by
  intro e
  obtain ⟨b', o', rfl, hc⟩ := ha.nat 0 (by cases l with | nil => exact absurd rfl h0 | cons _ _ => simp)
  simp [blk] at e
  subst e
  have hx := hH.cell (o' + 0)
  rw [hc] at hx
  unfold pkF at hx
  match o', hx with
  | 0, hx => simp at hx
  | 1, hx => simp at hx
  | 2, hx => simp at hx
  | 3, hx => simp at hx
  | 4, hx => simp at hx
  | 5, hx => simp at hx
  | o + 6, hx => simp at hx
set_option maxRecDepth 100000 in
set_option maxHeartbeats 4000000 in
theorem kdec_walk (b o m c : Nat) (l : List Nat) (w : World) (hl : l.length = m + 6) (hm : m ≤ 894) (hc : m + 6 ≤ c) (hc2 : c ≤ 9223372036854775807) (hat : At w (some ⟨b, o, none⟩) (nats .u8 l)) (hb : ∀ y ∈ l, y < 256) (h67 : l.getD 0 0 = 67) (h85 : l.getD 1 0 = 85) (hf : Crc.Fits l = true) :
    Calls Tryd.prog 10 #[.slice (some ⟨b, o, none⟩) (m + 6) c] w (KdecV w l (kv ((l.drop 2).take m) 0) (kv ((l.drop 2).take m) 1) (kv ((l.drop 2).take m) 2) (kv ((l.drop 2).take m) 3) (kv ((l.drop 2).take m) 4) (bb (ks ((l.drop 2).take m) 5))) := by
  have B0 := (Below.refl w.heap.size w).alloc (Nat.le_refl _) (.cells (pkF 0 0 false 0 0 none 0 0) 24)
  have A0 := hat.later B0 (Nat.le_refl _)
  have c0 : (w.alloc (.cells (pkF 0 0 false 0 0 none 0 0) 24)).cell? ⟨b, o, none⟩ = some (.int .u8 67) := by
    obtain ⟨b', o', e, h⟩ := A0.nat 0 (by omega)
    injection e with e; injection e with e1 e2; subst e1; subst e2
    rw [h67] at h; exact h
  have c1 : (w.alloc (.cells (pkF 0 0 false 0 0 none 0 0) 24)).cell? ⟨b, o + 1, none⟩ = some (.int .u8 85) := by
    obtain ⟨b', o', e, h⟩ := A0.nat 1 (by omega)
    injection e with e; injection e with e1 e2; subst e1; subst e2
    rw [h85] at h; exact h
  have K0 := Lib.hid (Holds.new w 24 (pkF 0 0 false 0 0 none 0 0) w.heap.size rfl)
  have hcb : Crc.Bytes l := fun i => getD_of_all (m := 255) hb i
  have FT := Lib.hid (refFits_any (some ⟨b, o, none⟩) (m + 6) c l _ hl hc hc2 A0 hcb)
  rw [hf] at FT
  unfold pkF at c0 c1 FT
  have HB := Lib.hid B0
  have HAT := Lib.hid hat
  obtain ⟨i, hi⟩ : ∃ i, (l.drop 2).take m = i := ⟨_, rfl⟩
  have HI := Lib.hid hi
  rw [hi]
  have HIL := Lib.hid (show i.length = m from by rw [← hi]; simp; omega)
  have HIB := Lib.hid (show ∀ y ∈ i, y < 256 from by rw [← hi]; exact fun y hy => hb y (List.mem_of_mem_drop (List.mem_of_mem_take hy)))
  have HIA := Lib.hid (show At w (some ⟨b, o + 2, none⟩) (nats .u8 i) from by rw [← hi, nats_take, nats_drop]; exact hat.cut.take)
  have HBY := Lib.hid hb
  obtain ⟨n, hn⟩ : ∃ n, n = m + 6 := ⟨_, rfl⟩
  rw [← hn] at FT ⊢
  have d1 : ¬ 8300 < n := by omega
  have d2 : ¬ n < 6 := by omega
  have d5 : decide ((8300 : Int) < n) = false := decide_eq_false (by omega)
  have d6 : decide ((n : Int) < 6) = false := decide_eq_false (by omega)
  have d7 : 0 < n := by omega
  have d8 : 1 < n := by omega
  obtain ⟨t, ht⟩ : ∃ t, t = m + 2 := ⟨_, rfl⟩
  have e1 : (n : Int) - 4 = (t : Nat) := by omega
  have e2 : (2 : Int) ≤ t := by omega
  have e3 : 2 ≤ t := by omega
  have e4 : (t : Int) ≤ c := by omega
  have e5 : t ≤ c := by omega
  have e6 : ¬ c = 2 := by omega
  have e7 : (n : Int) ≤ 900 := by omega
  have e8 : (t : Int) ≤ 900 := by omega
  have HT := Lib.hid ht
  have HN := Lib.hid hn
  have HC := Lib.hid hc
  have HC2 := Lib.hid hc2
  have HM := Lib.hid hm
  have HL := Lib.hid hl
  clear hl hc hat hb h67 h85 hf A0 B0 hn hc2 hm hi ht hcb
  go_enter Tryd.func10, Tryd.ntmps10
  go_upto_region 5 with fail
  go_wp2_with fail
  with_reducible refine FT.out.mono ?_
  rintro e w1 ⟨rfl, b1⟩
  have K1 := Lib.hid (K0.out.later b1 (Nat.le_refl _))
  have B1 := Lib.hid (HB.out.trans (b1.mono (by simp)))
  have S1 := Lib.hid (show w.heap.size < w1.heap.size from by have := b1.size; simp at this; omega)
  clear c0 c1 FT d1 d2 d5 d6 d7 d8 K0 HB b1
  go_upto_region 8 with fail
  clear e1 e2 e3 e4 e5 e6 e7 e8
  go_wp2_with fail
  have e9 : t - 2 = m := by have := HT.out; omega
  rw [e9]
  clear e9
  have NB := (Below.refl w1.heap.size w1).alloc (Nat.le_refl _) (.cells #[.int .u64 0, .int .u64 0, .int .u64 0, .int .u64 0, .int .u64 0] 56)
  have HA0 := Lib.hid (show Holds (w1.alloc (.cells #[.int .u64 0, .int .u64 0, .int .u64 0, .int .u64 0, .int .u64 0] 56)) w1.heap.size 56 (nats .u64 (karr i 0)).toArray from Holds.new w1 _ _ _ rfl)
  have K3 := Lib.hid (K1.out.later NB (Nat.le_refl _))
  have B3 := Lib.hid (B1.out.trans (NB.mono (Nat.le_of_lt S1.out)))
  have S3 := Lib.hid (show w1.heap.size < (w1.alloc (.cells #[.int .u64 0, .int .u64 0, .int .u64 0, .int .u64 0, .int .u64 0] 56)).heap.size from by simp)
  clear NB K1 B1
  generalize w1.heap.size = g6 at *
  generalize w1.alloc (.cells #[.int .u64 0, .int .u64 0, .int .u64 0, .int .u64 0, .int .u64 0] 56) = w3 at *
  go_loopw [5, 7] (fun s i' wr => ∃ (j : Nat) (a : Int), j ≤ 5 ∧ i' = .int .i64 j ∧ s = .int .i64 a ∧ KPos i a (ks i j) (kf i j) ∧ Holds wr g6 56 (nats .u64 (karr i j)).toArray ∧ Below g6 w3 wr) (fun _ i' _ => (5 - intOf i').toNat)
  case atStart => exact ⟨0, 0, by omega, rfl, rfl, .inr ⟨0, rfl, Nat.zero_le _, rfl, rfl⟩, HA0.out, Below.refl _ _⟩
  case round =>
    obtain ⟨j, a, hj, rfl, rfl, hpos, harr, hbel⟩ := hrel
    have BW := Lib.hid (B3.out.trans (hbel.mono (Nat.le_of_lt S1.out)))
    have IA := Lib.hid (HIA.out.later BW.out (Nat.le_refl _))
    have HBL := Lib.hid hbel
    have HAR := Lib.hid harr
    have HP := Lib.hid hpos
    have HG := Lib.hid (show g6 < wr.heap.size from Nat.lt_of_lt_of_le S3.out hbel.size)
    clear hpos harr hbel
    by_cases hj5 : j < 5
    · have Q : Calls Tryd.prog 29 #[.slice (some ⟨b, o + 2, none⟩) m (c - 2), .int .i64 a, .agg (fldC 0 0 (.slice none 0 0) 0 1073741824)] wr (fun e w' => ∃ a' : Int, e = .returned (.tuple #[.agg (fldC 0 (kv i j : Nat) (.slice none 0 0) 0 0), .int .i64 a']) ∧ KPos i a' (ks i (j + 1)) (kf i (j + 1)) ∧ Below wr.heap.size wr w') := ktake_num b (o + 2) m (c - 2) i a (ks i j) (kf i j) 1073741824 wr HIL.out (by have := HM.out; omega) (by have := HC.out; omega) (by have := HC2.out; omega) IA.out HIB.out HP.out
      have QQ := Lib.hid Q
      clear Q
      go_wp2_with (refine wpList_buildTo rfl 62 _ rfl (some 51) rfl (fldC 0 0 (.slice none 0 0) 0 1073741824) (by kernel_rfl) ?_)
      with_reducible refine QQ.out.mono ?_
      clear QQ
      rintro e w4 ⟨a', rfl, hk, b4⟩
      have HK := Lib.hid hk
      have B4 := Lib.hid b4
      clear hk b4
      go_upto_region 14 with (first
        | (refine Great.wpList_allocTo rfl (some 8) rfl _ (.cells (fldC 0 0 (.slice none 0 0) 0 0) 62) (run_allocF _ _ _ rfl) ?_)
        | (refine wpList_store_rowTo rfl 62 (.tmp 8) (.tmp 53) rfl rfl w4.heap.size (fldC 0 (kv i j : Nat) (.slice none 0 0) 0 0) rfl rfl 62 (fldC 0 0 (.slice none 0 0) 0 0) (Holds.new w4 62 (fldC 0 0 (.slice none 0 0) 0 0) w4.heap.size rfl) fld_size rfl (fldC_one _ _ _ _ _ _ _) ?_))
      have S8 := Lib.hid ((Holds.new w4 62 (fldC 0 0 (.slice none 0 0) 0 0) w4.heap.size rfl).row (fldC 0 (kv i j : Nat) (.slice none 0 0) 0 0))
      have N8 := Lib.hid (below_setRow ((Below.refl w4.heap.size w4).alloc (Nat.le_refl _) (.cells (fldC 0 0 (.slice none 0 0) 0 0) 62)) (g := w4.heap.size) (Nat.le_refl _) (fldC 0 (kv i j : Nat) (.slice none 0 0) 0 0))
      have B5 := Lib.hid (B4.out.trans (N8.out.mono B4.out.size))
      generalize (w4.alloc (.cells (fldC 0 0 (.slice none 0 0) 0 0) 62)).setRow w4.heap.size (fldC 0 (kv i j : Nat) (.slice none 0 0) 0 0) = w5 at *
      generalize w4.heap.size = g8 at *
      have q0 : w5.cell? ⟨g8, 1, none⟩ = some (.int .u64 (kv i j : Nat)) := S8.out.cell 1
      have AR5 := Lib.hid (HAR.out.later B5.out (Nat.le_refl _))
      have q1 : (w5.cell? ⟨g6, j, none⟩).isSome = true := by
        rw [AR5.out.cell j]
        have : (nats .u64 (karr i j)).toArray.size = 5 := by simp [nats, karr]
        rw [Array.getElem?_eq_getElem (by omega)]; rfl
      obtain ⟨u, hu⟩ := Option.isSome_iff_exists.1 q1
      have q2 : w5.frozen? ⟨g6, j, none⟩ = false := AR5.out.frozen j
      have AR6 := Lib.hid (show Holds (w5.setCell ⟨g6, j, none⟩ (.int .u64 (kv i j : Nat))) g6 56 (nats .u64 (karr i (j + 1))).toArray from by rw [← karr_set]; exact AR5.out.set j _)
      have B6 := Lib.hid ((HBL.out.trans (B5.out.mono (Nat.le_of_lt HG.out))).setCell (p := ⟨g6, j, none⟩) (Nat.le_refl _) (.int .u64 (kv i j : Nat)))
      clear q1 S8 N8 B5 AR5 B4
      go_wp2_with fail
      exact ⟨⟨j + 1, a', by omega, by simp, rfl, HK.out, AR6.out, B6.out⟩, by simp only [intOf]; omega⟩
    · obtain rfl : j = 5 := by omega
      clear hj5 hj
      obtain ⟨bd, hbd⟩ : ∃ bd, bb (ks i 5) = bd := ⟨_, rfl⟩
      have Q : Calls Tryd.prog 29 #[.slice (some ⟨b, o + 2, none⟩) m (c - 2), .int .i64 a, .agg (fldC 2 0 (.slice none 0 0) 8192 0)] wr (fun e w' => ∃ (a' : Int) (A7 : Option Addr) (c7 k7 : Nat), e = .returned (.tuple #[.agg (fldC 2 0 (.slice A7 k7 c7) 0 0), .int .i64 a']) ∧ bd.length = k7 ∧ At w' A7 (nats .u8 bd) ∧ Below wr.heap.size wr w') := by
        subst hbd
        exact (ktake_bytes b (o + 2) m (c - 2) i a (ks i 5) (kf i 5) wr HIL.out (by have := HM.out; omega) (by have := HC.out; omega) (by have := HC2.out; omega) IA.out HIB.out HP.out).mono (fun e w' ⟨a', A', c', h1, h2, _, h4⟩ => ⟨a', A', c', _, h1, rfl, h2, h4⟩)
      have QQ := Lib.hid Q
      rw [hbd]
      have HBD := Lib.hid hbd
      clear Q hbd
      go_wp2_with (refine wpList_buildTo rfl 62 _ rfl (some 63) rfl (fldC 2 0 (.slice none 0 0) 8192 0) (by kernel_rfl) ?_)
      with_reducible refine QQ.out.mono ?_
      clear QQ
      rintro e w4 ⟨a', A7, c7, k7, rfl, hk7, t4, b4⟩
      have HK7 := Lib.hid hk7
      have T4 := Lib.hid t4
      have B4 := Lib.hid b4
      clear hk7 t4 b4
      go_upto_region 17 with (first
        | (refine Great.wpList_allocTo rfl (some 10) rfl _ (.cells (fldC 0 0 (.slice none 0 0) 0 0) 62) (run_allocF _ _ _ rfl) ?_)
        | (refine wpList_store_rowTo rfl 62 (.tmp 10) (.tmp 65) rfl rfl w4.heap.size (fldC 2 0 (.slice A7 k7 c7) 0 0) rfl rfl 62 (fldC 0 0 (.slice none 0 0) 0 0) (Holds.new w4 62 (fldC 0 0 (.slice none 0 0) 0 0) w4.heap.size rfl) fld_size rfl (fldC_one _ _ _ _ _ _ _) ?_))
      have S8 := Lib.hid ((Holds.new w4 62 (fldC 0 0 (.slice none 0 0) 0 0) w4.heap.size rfl).row (fldC 2 0 (.slice A7 k7 c7) 0 0))
      have N8 := Lib.hid (below_setRow ((Below.refl w4.heap.size w4).alloc (Nat.le_refl _) (.cells (fldC 0 0 (.slice none 0 0) 0 0) 62)) (g := w4.heap.size) (Nat.le_refl _) (fldC 2 0 (.slice A7 k7 c7) 0 0))
      have B5 := Lib.hid (B4.out.trans (N8.out.mono B4.out.size))
      have T5 := Lib.hid (T4.out.later N8.out (Nat.le_refl _))
      generalize (w4.alloc (.cells (fldC 0 0 (.slice none 0 0) 0 0) 62)).setRow w4.heap.size (fldC 2 0 (.slice A7 k7 c7) 0 0) = w5 at *
      generalize w4.heap.size = g8 at *
      have q5 : w5.cell? ⟨g8, 3, none⟩ = some (.slice A7 k7 c7) := S8.out.cell 3
      have AR5 := Lib.hid (HAR.out.later B5.out (Nat.le_refl _))
      have q0 : w5.cell? ⟨g6, 0, none⟩ = some (.int .u64 (kv i 0 : Nat)) := AR5.out.cell 0
      have q1 : w5.cell? ⟨g6, 1, none⟩ = some (.int .u64 (kv i 1 : Nat)) := AR5.out.cell 1
      have q2 : w5.cell? ⟨g6, 2, none⟩ = some (.int .u64 (kv i 2 : Nat)) := AR5.out.cell 2
      have q3 : w5.cell? ⟨g6, 3, none⟩ = some (.int .u64 (kv i 3 : Nat)) := AR5.out.cell 3
      have q4 : w5.cell? ⟨g6, 4, none⟩ = some (.int .u64 (kv i 4 : Nat)) := AR5.out.cell 4
      have u0 : (kv i 0 : Int) ≤ 1073741824 := by have := kv_le i 0; omega
      have u1 : (kv i 1 : Int) ≤ 1073741824 := by have := kv_le i 1; omega
      have u3 : (kv i 3 : Int) ≤ 1073741824 := by have := kv_le i 3; omega
      have u4 : (kv i 4 : Int) ≤ 1073741824 := by have := kv_le i 4; omega
      have B6 := Lib.hid (BW.out.trans (B5.out.mono BW.out.size))
      clear S8 N8 B4 T4
      generalize kv i 0 = v0 at *
      generalize kv i 1 = v1 at *
      generalize kv i 2 = v2 at *
      generalize kv i 3 = v3 at *
      generalize kv i 4 = v4 at *
      go_wp2_with fail
      have NP := (Below.refl w5.heap.size w5).alloc (Nat.le_refl _) (.cells #[.int .i64 v0, .int .i64 v1, .bool ((v2 : Int) == 1), .int .i64 v3, .int .i64 v4, .slice A7 k7 c7] 24)
      have K6 := Lib.hid (((K3.out.below HBL.out S1.out).later B5.out (Nat.le_refl _)).later NP (Nat.le_refl _))
      have P6 := Lib.hid (Holds.new w5 24 #[.int .i64 v0, .int .i64 v1, .bool ((v2 : Int) == 1), .int .i64 v3, .int .i64 v4, .slice A7 k7 c7] w5.heap.size rfl)
      have T6 := Lib.hid (T5.out.later NP (Nat.le_refl _))
      have B7 := Lib.hid (B6.out.trans (NP.mono B6.out.size))
      have G7 := Lib.hid (show w.heap.size < w5.heap.size from by have h1 := S1.out; have h2 := HG.out; have h3 := B5.out.size; omega)
      have hbs := bb_sub (ks i 5)
      rw [HBD.out] at hbs
      have HBB := Lib.hid (show ∀ y ∈ bd, y < 256 from fun y hy => HIB.out y ((ks_sub i 5).1 y (hbs.1 y hy)))
      have HB9 := Lib.hid (show bd.length ≤ 900 from by have h1 := hbs.2; have h2 := (ks_sub i 5).2; have h3 := HIL.out; have h4 := HM.out; omega)
      clear NP q0 q1 q2 q3 q4 q5 hbs K3 T5
      generalize w5.heap.size = g12 at *
      generalize w5.alloc (.cells #[.int .i64 v0, .int .i64 v1, .bool ((v2 : Int) == 1), .int .i64 v3, .int .i64 v4, .slice A7 k7 c7] 24) = w6 at *
      by_cases hm : FMay v0 v1 ((v2 : Int) == 1) v3 v4 bd.length
      · have HMY := Lib.hid hm
        clear hm
        have Q := kenc_yes v0 v1 v3 v4 ((v2 : Int) == 1) A7 c7 bd w6 HMY.out HB9.out T6.out HBB.out
        rw [HK7.out] at Q
        obtain ⟨D, hD⟩ : ∃ D, fdat v0 v1 (if ((v2 : Int) == 1) then 1 else 0) v3 v4 bd = D := ⟨_, rfl⟩
        rw [hD] at Q
        have hDb : ∀ y ∈ D, y < 256 := by
          rw [← hD]
          exact fdat_byte (by omega) (by omega) (by split <;> omega) (by omega) (by omega) (by have := HB9.out; omega) HBB.out
        have HD := Lib.hid hD
        have HDB := Lib.hid hDb
        clear hD hDb
        with_reducible refine Q.mono ?_
        clear Q
        rintro e w7 ⟨Ax, cx, rfl, ox, bx⟩
        have hcx := run_str (P := Tryd.prog) (src := 22) (dst := 9) (e := 5) w7 (by kernel_rfl) (by kernel_rfl) (by kernel_rfl) (c := cx) rfl ox.at_
        have hcl := run_str (P := Tryd.prog) (src := 22) (dst := 9) (e := 5) w7 (by kernel_rfl) (by kernel_rfl) (by kernel_rfl) (c := c) (show l.length = n from by rw [HL.out, HN.out]) (HAT.out.later (B7.out.trans (bx.mono B7.out.size)) (Nat.le_refl _))
        have T7 := Lib.hid (T6.out.later bx (Nat.le_refl _))
        have K7 := Lib.hid (K6.out.later bx (Nat.le_refl _))
        have P7 := Lib.hid (P6.out.later bx (Nat.le_refl _))
        have B8 := Lib.hid (B7.out.trans (bx.mono B7.out.size))
        have hcmp := strN_beq (fun i => getD_of_all (m := 255) HDB.out i) (fun i => getD_of_all (m := 255) HBY.out i)
        clear ox bx
        obtain ⟨kx, hkx⟩ : ∃ kx, D.length = kx := ⟨_, rfl⟩
        rw [hkx] at hcx ⊢
        clear hkx
        by_cases hDl : D = l
        · have e1 : ((strN D).toList == (strN l).toList) = true := by rw [hcmp, hDl]; simp
          have HDl := Lib.hid hDl
          clear hDl hcmp
          have r0 := K7.out.cell 0
          have z0 := K7.out.frozen 0
          have r1 := K7.out.cell 1
          have z1 := K7.out.frozen 1
          have r2 := K7.out.cell 2
          have z2 := K7.out.frozen 2
          have r3 := K7.out.cell 3
          have z3 := K7.out.frozen 3
          have r4 := K7.out.cell 4
          have z4 := K7.out.frozen 4
          have r5 := K7.out.cell 5
          have z5 := K7.out.frozen 5
          simp [pkF] at r0 r1 r2 r3 r4 r5
          have s0 := P7.out.cell 0
          have s1 := P7.out.cell 1
          have s2 := P7.out.cell 2
          have s3 := P7.out.cell 3
          have s4 := P7.out.cell 4
          have s5 := P7.out.cell 5
          simp at s0 s1 s2 s3 s4 s5
          go_wp2_with fail
          refine bodyPost_ret (v := .tuple #[.agg (pkF v0 v1 ((v2 : Int) == 1) v3 v4 A7 k7 c7), .int .i64 0]) (by simp [pkF, results, Tryd.results10, go_sem, r0, r1, r2, r3, r4, r5]) rfl ?_
          rw [HBD.out]
          refine ⟨((((((B8.out.setCell (Nat.le_refl _) _).setCell (Nat.le_refl _) _).setCell (Nat.le_refl _) _).setCell (Nat.le_refl _) _).setCell (Nat.le_refl _) _).setCell (Nat.le_refl _) _), .inl ⟨HMY.out, by rw [HD.out]; exact HDl.out, A7, c7, by rw [HK7.out], ?_⟩⟩
          by_cases h0 : bd = []
          · rw [h0]; exact At.nil _ _
          · exact T7.out.grown (grown_set (grown_set (grown_set (grown_set (grown_set (grown_set (grown_refl w7 (some w.heap.size)) 0 _) 1 _) 2 _) 3 _) 4 _) 5 _) (.inr (far_pk2 K7.out T7.out h0))
        · have e1 : ((strN D).toList == (strN l).toList) = false := by rw [hcmp]; simpa using hDl
          have HDl := Lib.hid hDl
          clear hDl hcmp
          have r0 := K7.out.cell 0
          have z0 := K7.out.frozen 0
          have r1 := K7.out.cell 1
          have z1 := K7.out.frozen 1
          have r2 := K7.out.cell 2
          have z2 := K7.out.frozen 2
          have r3 := K7.out.cell 3
          have z3 := K7.out.frozen 3
          have r4 := K7.out.cell 4
          have z4 := K7.out.frozen 4
          have r5 := K7.out.cell 5
          have z5 := K7.out.frozen 5
          simp [pkF] at r0 r1 r2 r3 r4 r5
          go_wp2_with fail
          refine bodyPost_ret (v := .tuple #[.agg (pkF 0 0 false 0 0 none 0 0), .int .i64 3]) (by simp [pkF, results, Tryd.results10, go_sem, r0, r1, r2, r3, r4, r5]) rfl ?_
          rw [HBD.out]
          exact ⟨((((((B8.out.setCell (Nat.le_refl _) _).setCell (Nat.le_refl _) _).setCell (Nat.le_refl _) _).setCell (Nat.le_refl _) _).setCell (Nat.le_refl _) _).setCell (Nat.le_refl _) _), .inr ⟨.inr (by rw [HD.out]; exact HDl.out), rfl⟩⟩
      · have HMY := Lib.hid hm
        clear hm
        have Q := kenc_no v0 v1 ((v2 : Int) == 1) v3 v4 A7 bd.length c7 w6 HMY.out
        rw [HK7.out] at Q
        with_reducible refine Q.mono ?_
        clear Q
        rintro e w7 ⟨rfl, bx⟩
        have K7 := Lib.hid (K6.out.later bx (Nat.le_refl _))
        have B8 := Lib.hid (B7.out.trans (bx.mono B7.out.size))
        clear bx
        have r0 := K7.out.cell 0
        have z0 := K7.out.frozen 0
        have r1 := K7.out.cell 1
        have z1 := K7.out.frozen 1
        have r2 := K7.out.cell 2
        have z2 := K7.out.frozen 2
        have r3 := K7.out.cell 3
        have z3 := K7.out.frozen 3
        have r4 := K7.out.cell 4
        have z4 := K7.out.frozen 4
        have r5 := K7.out.cell 5
        have z5 := K7.out.frozen 5
        simp [pkF] at r0 r1 r2 r3 r4 r5
        go_wp2_with fail
        refine bodyPost_ret (v := .tuple #[.agg (pkF 0 0 false 0 0 none 0 0), .int .i64 3]) (by simp [pkF, results, Tryd.results10, go_sem, r0, r1, r2, r3, r4, r5]) rfl ?_
        rw [HBD.out]
        exact ⟨((((((B8.out.setCell (Nat.le_refl _) _).setCell (Nat.le_refl _) _).setCell (Nat.le_refl _) _).setCell (Nat.le_refl _) _).setCell (Nat.le_refl _) _).setCell (Nat.le_refl _) _), .inr ⟨.inl HMY.out, rfl⟩⟩
end Go.Proofs.YtlimabhojocimaaDoor
