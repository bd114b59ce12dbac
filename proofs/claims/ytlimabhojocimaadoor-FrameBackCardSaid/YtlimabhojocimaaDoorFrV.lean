/- Layer 14, plain: what is read of a datagram is what was put into it. -/
import Derived.Test.YtlimabhojocimaaDoorFrS
namespace Go.Proofs.YtlimabhojocimaaDoor
open Go.RowKit
theorem dec_split {l : List Nat} {v k : Nat} (hb : ∀ y ∈ l, y < 256) (h : VM.dec l = some (v, k)) : l = VM.enc v ++ l.drop k := by
  cases l with
  | nil => simp [VM.dec] at h
  | cons x r =>
    have hx : x < 256 := hb x (by simp)
    have hr : ∀ y ∈ r, y < 256 := fun y hy => hb y (by simp [hy])
    simp only [VM.dec] at h
    by_cases h1 : x < 248
    · rw [if_pos h1] at h
      injection h with h; injection h with h2 h3
      subst h2; subst h3
      rw [VM.enc_small h1]; simp
    · rw [if_neg h1] at h
      by_cases h2 : r.length < x - 247
      · rw [if_pos h2] at h; cases h
      · rw [if_neg h2] at h
        by_cases h3 : r.getD 0 0 = 0
        · rw [if_pos h3] at h; cases h
        · rw [if_neg h3] at h
          by_cases h4 : VM.val (r.take (x - 247)) < 248
          · rw [if_pos h4] at h; cases h
          · rw [if_neg h4] at h
            have h5 := congrArg Prod.fst (Option.some.inj h)
            have h6 := congrArg Prod.snd (Option.some.inj h)
            dsimp only at h5 h6
            rw [← h5, ← h6]
            rw [(VM.ref_iff x r h1 hx hr h2).2 ⟨h3, h4⟩, List.take_append_drop]
theorem good_read {i : List Nat} {most : Nat} (hb : ∀ y ∈ i, y < 256) (h : rk i most = true) : i = VM.enc (rv i most) ++ rl i most := by
  unfold rk at h
  unfold rv rl
  cases hd : VM.dec i with
  | none => rw [hd] at h; cases h
  | some vk =>
    obtain ⟨v, k⟩ := vk
    rw [hd] at h
    have hv : v ≤ most := by simpa using h
    simp only [if_pos hv]
    exact dec_split hb hd
theorem good_bytes {i : List Nat} (hb : ∀ y ∈ i, y < 256) (h : bk i = true) : i = VM.enc (bb i).length ++ (bb i ++ br i) ∧ (bb i).length ≤ 8192 := by
  have h0 := h
  unfold bk at h0
  simp only [Bool.and_eq_true, decide_eq_true_eq] at h0
  obtain ⟨h1, h2⟩ := h0
  have hbb : bb i = (rl i 8192).take (rv i 8192) := by unfold bb; rw [h]; rfl
  have hbr : br i = (rl i 8192).drop (rv i 8192) := by unfold br; rw [h]; rfl
  have hl : (bb i).length = rv i 8192 := by rw [hbb, List.length_take]; omega
  refine ⟨?_, by rw [hl]; exact rv_le _ _⟩
  rw [hl, hbb, hbr, List.take_append_drop]
  exact good_read hb h1
theorem read_enc {v most : Nat} (t : List Nat) (hv : v ≤ most) (h : v < 18446744073709551616) : rv (VM.enc v ++ t) most = v ∧ rl (VM.enc v ++ t) most = t ∧ rk (VM.enc v ++ t) most = true := by
  have hd := VM.dec_enc v h t
  unfold rv rl rk
  rw [hd]
  refine ⟨by simp [hv], ?_, by simp [hv]⟩
  simp only [if_pos hv]
  rw [show VM.size v = (VM.enc v).length from (VM.enc_length v).symm, List.drop_left]
theorem bytes_enc {b : List Nat} (h : b.length ≤ 8192) : bb (VM.enc b.length ++ b) = b ∧ br (VM.enc b.length ++ b) = [] ∧ bk (VM.enc b.length ++ b) = true := by
  obtain ⟨h1, h2, h3⟩ := read_enc (most := 8192) b h (by omega)
  have hk : bk (VM.enc b.length ++ b) = true := by unfold bk; rw [h1, h2, h3]; simp
  refine ⟨?_, ?_, hk⟩
  · unfold bb; rw [hk, h1, h2]; simp
  · unfold br; rw [hk, h1, h2]; simp
theorem fits_tl (h : List Nat) : Crc.Fits (h ++ tl (Crc.sum h)) = true := by
  rw [Crc.fits_pre h.length _ (by rw [List.length_append]; rfl), List.drop_left, List.take_left, tl_pre]
  simp
theorem fits_back {l : List Nat} {m : Nat} (hl : l.length = m + 4) (hb : Crc.Bytes l) (hf : Crc.Fits l = true) : l = l.take m ++ tl (Crc.sum (l.take m)) := by
  rw [Crc.fits_pre m l hl, beq_iff_eq] at hf
  have hd : (l.drop m).length = 4 := by rw [List.length_drop]; omega
  have hdb : Crc.Bytes (l.drop m) := by
    intro i
    have := hb (m + i)
    simpa [List.getD_eq_getElem?_getD, List.getElem?_drop] using this
  have h1 := tl_eq (Crc.sum (l.take m)) (l.drop m) hd hdb
  rw [strN_beq (tl_bytes _) hdb, hf] at h1
  have h2 : tl (Crc.sum (l.take m)) = l.drop m := by simpa using h1
  rw [h2, List.take_append_drop]
theorem fdat_len (fr dt ak ep sq : Nat) (b : List Nat) : (fdat fr dt ak ep sq b).length = (fhead fr dt ak ep sq b).length + 4 := by unfold fdat; rw [List.length_append]; rfl
theorem fhead_len (fr dt ak ep sq : Nat) (b : List Nat) : (fhead fr dt ak ep sq b).length = (VM.enc fr ++ (VM.enc dt ++ (VM.enc ak ++ (VM.enc ep ++ (VM.enc sq ++ (VM.enc b.length ++ b)))))).length + 2 := rfl
/-- inside a datagram -/
theorem fdat_in (fr dt ak ep sq : Nat) (b : List Nat) : ((fdat fr dt ak ep sq b).drop 2).take ((fdat fr dt ak ep sq b).length - 6) = VM.enc fr ++ (VM.enc dt ++ (VM.enc ak ++ (VM.enc ep ++ (VM.enc sq ++ (VM.enc b.length ++ b))))) := by
  rw [fdat_len, fhead_len]
  obtain ⟨i, hi⟩ : ∃ i, VM.enc fr ++ (VM.enc dt ++ (VM.enc ak ++ (VM.enc ep ++ (VM.enc sq ++ (VM.enc b.length ++ b))))) = i := ⟨_, rfl⟩
  have hh : fhead fr dt ak ep sq b = 67 :: 85 :: i := by rw [← hi]; rfl
  unfold fdat
  rw [hh, hi]
  simp
/-- the datagram of what is inside -/
theorem fdat_of {l i : List Nat} {m : Nat} (hl : l.length = m + 6) (hb : ∀ y ∈ l, y < 256) (h67 : l.getD 0 0 = 67) (h85 : l.getD 1 0 = 85) (hf : Crc.Fits l = true) (hi : (l.drop 2).take m = i) : l = (67 :: 85 :: i) ++ tl (Crc.sum (67 :: 85 :: i)) := by
  have h1 := fits_back (m := m + 2) (by omega) (fun j => getD_of_all (m := 255) hb j) hf
  have h2 : l.take (m + 2) = 67 :: 85 :: i := by
    match l, hl with
    | x :: y :: r, _ =>
      simp only [List.getD_cons_zero, List.getD_cons_succ] at h67 h85
      rw [h67, h85, List.take_succ_cons, List.take_succ_cons]
      simp only [List.drop_succ_cons, List.drop_zero] at hi
      rw [hi]
  rw [h2] at h1
  exact h1
/-- what may be of a packet -/
theorem fmay_le {fr dt : Nat} {k : Bool} {ep sq n : Nat} (h : FMay fr dt k ep sq n) : fr ≤ 255 ∧ dt ≤ 255 ∧ 1 ≤ ep ∧ ep ≤ 1073741824 ∧ sq ≤ 1073741824 ∧ n ≤ 8192 := by
  unfold FMay at h
  obtain ⟨h1, h2, h3, h4, h5, h6, h7⟩ := h
  cases k with
  | true => have := h6 rfl; omega
  | false => have := h7 rfl; omega
/-- a packet's datagram read, number by number, whatever the bounds -/
theorem walk_enc {fr dt ak ep sq : Nat} {b : List Nat} (m1 m2 m3 m4 m5 : Nat) (h1 : fr ≤ m1) (h2 : dt ≤ m2) (h3 : ak ≤ m3) (h4 : ep ≤ m4) (h5 : sq ≤ m5) (hm : m1 ≤ 1073741824 ∧ m2 ≤ 1073741824 ∧ m3 ≤ 1073741824 ∧ m4 ≤ 1073741824 ∧ m5 ≤ 1073741824) (hb : b.length ≤ 8192)
    {i0 i1 i2 i3 i4 i5 : List Nat} (e0 : i0 = VM.enc fr ++ (VM.enc dt ++ (VM.enc ak ++ (VM.enc ep ++ (VM.enc sq ++ (VM.enc b.length ++ b)))))) (e1 : rl i0 m1 = i1) (e2 : rl i1 m2 = i2) (e3 : rl i2 m3 = i3) (e4 : rl i3 m4 = i4) (e5 : rl i4 m5 = i5) :
    (rv i0 m1 = fr ∧ rk i0 m1 = true) ∧ (rv i1 m2 = dt ∧ rk i1 m2 = true) ∧ (rv i2 m3 = ak ∧ rk i2 m3 = true) ∧ (rv i3 m4 = ep ∧ rk i3 m4 = true) ∧ (rv i4 m5 = sq ∧ rk i4 m5 = true) ∧ bb i5 = b ∧ br i5 = [] ∧ bk i5 = true := by
  subst e0
  obtain ⟨a1, a2, a3⟩ := read_enc (v := fr) (most := m1) (VM.enc dt ++ (VM.enc ak ++ (VM.enc ep ++ (VM.enc sq ++ (VM.enc b.length ++ b))))) h1 (by omega)
  rw [a2] at e1; subst e1
  obtain ⟨b1, b2, b3⟩ := read_enc (v := dt) (most := m2) (VM.enc ak ++ (VM.enc ep ++ (VM.enc sq ++ (VM.enc b.length ++ b)))) h2 (by omega)
  rw [b2] at e2; subst e2
  obtain ⟨c1, c2, c3⟩ := read_enc (v := ak) (most := m3) (VM.enc ep ++ (VM.enc sq ++ (VM.enc b.length ++ b))) h3 (by omega)
  rw [c2] at e3; subst e3
  obtain ⟨d1, d2, d3⟩ := read_enc (v := ep) (most := m4) (VM.enc sq ++ (VM.enc b.length ++ b)) h4 (by omega)
  rw [d2] at e4; subst e4
  obtain ⟨f1, f2, f3⟩ := read_enc (v := sq) (most := m5) (VM.enc b.length ++ b) h5 (by omega)
  rw [f2] at e5; subst e5
  obtain ⟨g1, g2, g3⟩ := bytes_enc hb
  exact ⟨⟨a1, a3⟩, ⟨b1, b3⟩, ⟨c1, c3⟩, ⟨d1, d3⟩, ⟨f1, f3⟩, g1, g2, g3⟩
/-- where all was well, it was a packet's datagram -/
theorem walk_good {v1 v2 v3 v4 v5 : Nat} {i0 i1 i2 i3 i4 i5 bd rest : List Nat} {x1 x2 x3 x4 x5 x6 : Bool} {m1 m2 m3 m4 m5 : Nat} (hb : ∀ y ∈ i0, y < 256)
    (h1 : rv i0 m1 = v1 ∧ rl i0 m1 = i1 ∧ (false || !rk i0 m1) = x1) (h2 : rv i1 m2 = v2 ∧ rl i1 m2 = i2 ∧ (x1 || !rk i1 m2) = x2) (h3 : rv i2 m3 = v3 ∧ rl i2 m3 = i3 ∧ (x2 || !rk i2 m3) = x3)
    (h4 : rv i3 m4 = v4 ∧ rl i3 m4 = i4 ∧ (x3 || !rk i3 m4) = x4) (h5 : rv i4 m5 = v5 ∧ rl i4 m5 = i5 ∧ (x4 || !rk i4 m5) = x5) (h6 : bb i5 = bd ∧ br i5 = rest ∧ (x5 || !bk i5) = x6) (hx : (x6 || !rest.isEmpty) = false) :
    i0 = VM.enc v1 ++ (VM.enc v2 ++ (VM.enc v3 ++ (VM.enc v4 ++ (VM.enc v5 ++ (VM.enc bd.length ++ bd))))) ∧ bd.length ≤ 8192 := by
  obtain ⟨rfl, rfl, rfl⟩ := h1
  obtain ⟨rfl, rfl, rfl⟩ := h2
  obtain ⟨rfl, rfl, rfl⟩ := h3
  obtain ⟨rfl, rfl, rfl⟩ := h4
  obtain ⟨rfl, rfl, rfl⟩ := h5
  obtain ⟨rfl, rfl, rfl⟩ := h6
  simp only [Bool.or_eq_false_iff, Bool.not_eq_false'] at hx
  obtain ⟨⟨⟨⟨⟨⟨⟨_, k1⟩, k2⟩, k3⟩, k4⟩, k5⟩, k6⟩, k7⟩ := hx
  have s1 := good_read hb k1
  have b1 : ∀ y ∈ rl i0 m1, y < 256 := fun y hy => hb y (rl_sub.1 y hy)
  have s2 := good_read b1 k2
  have b2 : ∀ y ∈ rl (rl i0 m1) m2, y < 256 := fun y hy => b1 y (rl_sub.1 y hy)
  have s3 := good_read b2 k3
  have b3 : ∀ y ∈ rl (rl (rl i0 m1) m2) m3, y < 256 := fun y hy => b2 y (rl_sub.1 y hy)
  have s4 := good_read b3 k4
  have b4 : ∀ y ∈ rl (rl (rl (rl i0 m1) m2) m3) m4, y < 256 := fun y hy => b3 y (rl_sub.1 y hy)
  have s5 := good_read b4 k5
  have b5 : ∀ y ∈ rl (rl (rl (rl (rl i0 m1) m2) m3) m4) m5, y < 256 := fun y hy => b4 y (rl_sub.1 y hy)
  obtain ⟨s6, s7⟩ := good_bytes b5 k6
  have hr : br (rl (rl (rl (rl (rl i0 m1) m2) m3) m4) m5) = [] := List.isEmpty_iff.1 k7
  rw [hr, List.append_nil] at s6
  refine ⟨?_, s7⟩
  rw [← s6, ← s5, ← s4, ← s3, ← s2, ← s1]
end Go.Proofs.YtlimabhojocimaaDoor
