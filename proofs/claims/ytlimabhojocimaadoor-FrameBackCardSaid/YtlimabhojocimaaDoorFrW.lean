/- Layer 14: both Decodes and both Encodes, each by one answer of the bytes, or of the packet. -/
import Derived.Test.YtlimabhojocimaaDoorFrU
import Derived.Test.YtlimabhojocimaaDoorFrV
import Derived.Test.YtlimabhojocimaaDoorNum14
namespace Go.Proofs.YtlimabhojocimaaDoor
open Go.RowKit
def erV (f : Int) : Value := if f = 0 then .nilIface else .iface 65 (.int .i64 f)
theorem erV_zero : erV 0 = .nilIface := rfl
theorem erV_ne {f : Int} (h : f ≠ 0) : erV f = .iface 65 (.int .i64 f) := by unfold erV; rw [if_neg h]
theorem num_er (f : Int) (w : World) (hg : Glob w) : Calls Tryd.prog 12 #[erV f] w fun e w' => e = .returned (.int .i64 f) ∧ Below w.heap.size w w' := by
  by_cases h : f = 0
  · subst h; exact num14_nil w
  · rw [erV_ne h]; exact num14_err f w hg
/-- the bytes are a packet's -/
def Good (l : List Nat) (fr dt : Nat) (k : Bool) (ep sq : Nat) (bd : List Nat) : Prop := FMay fr dt k ep sq bd.length ∧ l = fdat fr dt (if k then 1 else 0) ep sq bd
def akN (k : Bool) : Nat := if k then 1 else 0
theorem Good.uniq {l : List Nat} {fr dt : Nat} {k : Bool} {ep sq : Nat} {bd : List Nat} {fr2 dt2 : Nat} {k2 : Bool} {ep2 sq2 : Nat} {bd2 : List Nat} (h : Good l fr dt k ep sq bd) (h2 : Good l fr2 dt2 k2 ep2 sq2 bd2) :
    fr = fr2 ∧ dt = dt2 ∧ k = k2 ∧ ep = ep2 ∧ sq = sq2 ∧ bd = bd2 := by
  obtain ⟨m1, e1⟩ := h
  obtain ⟨m2, e2⟩ := h2
  have a := fmay_le m1
  have b := fmay_le m2
  have i1 := fdat_in fr dt (if k then 1 else 0) ep sq bd
  have i2 := fdat_in fr2 dt2 (if k2 then 1 else 0) ep2 sq2 bd2
  rw [← e1] at i1
  rw [← e2] at i2
  have ha : (if k then 1 else 0 : Nat) ≤ 1 := by split <;> omega
  have hb : (if k2 then 1 else 0 : Nat) ≤ 1 := by split <;> omega
  obtain ⟨⟨x1, _⟩, ⟨x2, _⟩, ⟨x3, _⟩, ⟨x4, _⟩, ⟨x5, _⟩, x6, _⟩ := walk_enc 1073741824 1073741824 1073741824 1073741824 1073741824 (by omega) (by omega) (by omega) (by omega) (by omega) (by omega) a.2.2.2.2.2 i1 rfl rfl rfl rfl rfl
  obtain ⟨⟨y1, _⟩, ⟨y2, _⟩, ⟨y3, _⟩, ⟨y4, _⟩, ⟨y5, _⟩, y6, _⟩ := walk_enc 1073741824 1073741824 1073741824 1073741824 1073741824 (by omega) (by omega) (by omega) (by omega) (by omega) (by omega) b.2.2.2.2.2 i2 rfl rfl rfl rfl rfl
  have hk : (if k then 1 else 0 : Nat) = (if k2 then 1 else 0) := x3.symm.trans y3
  refine ⟨x1.symm.trans y1, x2.symm.trans y2, ?_, x4.symm.trans y4, x5.symm.trans y5, x6.symm.trans y6⟩
  cases k <;> cases k2 <;> simp at hk ⊢
theorem Good.form {l : List Nat} {fr dt : Nat} {k : Bool} {ep sq : Nat} {bd : List Nat} (h : Good l fr dt k ep sq bd) : 6 ≤ l.length ∧ l.length ≤ 8300 ∧ l.getD 0 0 = 67 ∧ l.getD 1 0 = 85 ∧ Crc.Fits l = true := by
  obtain ⟨m1, rfl⟩ := h
  have a := fmay_le m1
  have hk : (if k then 1 else 0 : Nat) < 18446744073709551616 := by split <;> omega
  refine ⟨by rw [fdat_len, fhead_len]; omega, ?_, rfl, rfl, fits_tl _⟩
  rw [fdat_len, fhead_len]
  simp only [List.length_append]
  have h1 := enc_le (v := fr) (by omega)
  have h2 := enc_le (v := dt) (by omega)
  have h3 := enc_le hk
  have h4 := enc_le (v := ep) (by omega)
  have h5 := enc_le (v := sq) (by omega)
  have h6 := enc_le (v := bd.length) (by omega)
  omega
/-- what is wrong with bytes that are no packet's -/
def errN (l : List Nat) : Int := if 8300 < l.length then 5 else if l.length < 6 ∨ l.getD 0 0 ≠ 67 ∨ l.getD 1 0 ≠ 85 then 3 else if Crc.Fits l = false then 4 else 3
theorem errN_ne (l : List Nat) : errN l ≠ 0 := by unfold errN; split <;> (try split) <;> (try split) <;> decide
/-- the answer to bytes: a packet, or an error -/
def Dres (l : List Nat) (fr dt : Nat) (k : Bool) (ep sq : Nat) (bd : List Nat) (x : Int) : Prop :=
  (x = 0 ∧ Good l fr dt k ep sq bd) ∨ (x = errN l ∧ (∀ a b c d e f, ¬ Good l a b c d e f) ∧ fr = 0 ∧ dt = 0 ∧ k = false ∧ ep = 0 ∧ sq = 0 ∧ bd = [])
theorem Dres.uniq {l : List Nat} {fr dt : Nat} {k : Bool} {ep sq : Nat} {bd : List Nat} {x : Int} {fr2 dt2 : Nat} {k2 : Bool} {ep2 sq2 : Nat} {bd2 : List Nat} {x2 : Int} (h : Dres l fr dt k ep sq bd x) (h2 : Dres l fr2 dt2 k2 ep2 sq2 bd2 x2) :
    fr = fr2 ∧ dt = dt2 ∧ k = k2 ∧ ep = ep2 ∧ sq = sq2 ∧ bd = bd2 ∧ x = x2 := by
  rcases h with ⟨h1, h3⟩ | ⟨h1, h3, a1, a2, a3, a4, a5, a6⟩
  · rcases h2 with ⟨g1, g3⟩ | ⟨g1, g3, _⟩
    · obtain ⟨b1, b2, b3, b4, b5, b6⟩ := h3.uniq g3
      exact ⟨b1, b2, b3, b4, b5, b6, h1.trans g1.symm⟩
    · exact absurd h3 (g3 _ _ _ _ _ _)
  · rcases h2 with ⟨g1, g3⟩ | ⟨g1, g3, b1, b2, b3, b4, b5, b6⟩
    · exact absurd g3 (h3 _ _ _ _ _ _)
    · exact ⟨a1.trans b1.symm, a2.trans b2.symm, a3.trans b3.symm, a4.trans b4.symm, a5.trans b5.symm, a6.trans b6.symm, h1.trans g1.symm⟩
theorem Dres.no {l : List Nat} (h : ∀ a b c d e f, ¬ Good l a b c d e f) : Dres l 0 0 false 0 0 [] (errN l) := .inr ⟨rfl, h, rfl, rfl, rfl, rfl, rfl, rfl⟩
def DecR (w : World) (l : List Nat) (e : Ending) (w' : World) : Prop :=
  ∃ (fr dt : Nat) (k : Bool) (ep sq : Nat) (bd : List Nat) (x : Int) (A : Option Addr) (c : Nat), e = .returned (.tuple #[.agg (pkF fr dt k ep sq A bd.length c), erV x]) ∧ At w' A (nats .u8 bd) ∧ Below w.heap.size w w' ∧ Dres l fr dt k ep sq bd x
theorem decR_no {w w' : World} {l : List Nat} {x : Int} {e : Ending} (hx : errN l = x) (h : DecNo w x e w') (hn : ∀ a b c d e f, ¬ Good l a b c d e f) : DecR w l e w' := by
  obtain ⟨rfl, h2⟩ := h
  refine ⟨0, 0, false, 0, 0, [], errN l, none, 0, ?_, At.nil _ _, h2, Dres.no hn⟩
  rw [erV_ne (errN_ne l), hx]; rfl
theorem dec_any (A : Option Addr) (n c : Nat) (l : List Nat) (w : World) (hl : l.length = n) (hnc : n ≤ c) (hc2 : c ≤ 9223372036854775807) (hat : At w A (nats .u8 l)) (hb : ∀ y ∈ l, y < 256) :
    Calls Tryd.prog 9 #[.slice A n c] w (DecR w l) := by
  by_cases h1 : 8300 < n
  · refine (fdec_long A n c w h1).mono fun e w' h => decR_no (by unfold errN; rw [if_pos (by omega)]) h (fun _ _ _ _ _ _ hg => by have := hg.form; omega)
  by_cases h2 : n < 6
  · refine (fdec_short A n c w h2).mono fun e w' h => decR_no (by unfold errN; rw [if_neg (by omega), if_pos (.inl (by omega))]) h (fun _ _ _ _ _ _ hg => by have := hg.form; omega)
  obtain ⟨b, o, rfl, _⟩ := hat.nat 0 (by omega)
  by_cases h3 : l.getD 0 0 = 67
  rotate_left
  · refine (fdec_head0 b o n c l w hl (by omega) (by omega) hnc hc2 hat h3).mono fun e w' h => decR_no (by unfold errN; rw [if_neg (by omega), if_pos (.inr (.inl h3))]) h (fun _ _ _ _ _ _ hg => h3 hg.form.2.2.1)
  by_cases h4 : l.getD 1 0 = 85
  rotate_left
  · refine (fdec_head1 b o n c l w hl (by omega) (by omega) hnc hc2 hat h3 h4).mono fun e w' h => decR_no (by unfold errN; rw [if_neg (by omega), if_pos (.inr (.inr h4))]) h (fun _ _ _ _ _ _ hg => h4 hg.form.2.2.2.1)
  have hno : ¬ (l.length < 6 ∨ l.getD 0 0 ≠ 67 ∨ l.getD 1 0 ≠ 85) := by
    rintro (h | h | h)
    · omega
    · exact h h3
    · exact h h4
  cases hf : Crc.Fits l with
  | false =>
    refine (fdec_sum b o n c l w hl (by omega) (by omega) hnc hc2 hat h3 h4 hf).mono fun e w' h => decR_no (by unfold errN; rw [if_neg (by omega), if_neg hno, if_pos hf]) h (fun _ _ _ _ _ _ hg => by have := hg.form.2.2.2.2; rw [hf] at this; cases this)
  | true =>
    obtain ⟨m, rfl⟩ : ∃ m, n = m + 6 := ⟨n - 6, by omega⟩
    have hi0 : ∀ y ∈ (l.drop 2).take m, y < 256 := fun y hy => hb y (List.mem_of_mem_drop (List.mem_of_mem_take hy))
    refine (fdec_walk b o m c l w hl (by omega) hnc hc2 hat hb h3 h4 hf).mono fun e w' h => ?_
    obtain ⟨v1, v2, v3, v4, v5, i1, i2, i3, i4, i5, bd, rest, x1, x2, x3, x4, x5, x6, r1, r2, r3, r4, r5, r6, hbel, h⟩ := h
    have hlt := fdat_of hl hb h3 h4 hf rfl
    rcases h with ⟨hx, hm, A', c', rfl, hat'⟩ | ⟨hbad, rfl⟩
    · obtain ⟨hi, hbl⟩ := walk_good hi0 r1 r2 r3 r4 r5 r6 hx
      have h31 : v3 ≤ 1 := by rw [← r3.1]; exact rv_le _ _
      have hk : (if ((v3 : Int) == 1) then 1 else 0 : Nat) = v3 := by
        rcases Nat.lt_or_ge v3 1 with h | h
        · obtain rfl : v3 = 0 := by omega
          rfl
        · obtain rfl : v3 = 1 := by omega
          rfl
      refine ⟨v1, v2, ((v3 : Int) == 1), v4, v5, bd, 0, A', c', rfl, hat', hbel, .inl ⟨rfl, hm, ?_⟩⟩
      rw [hk]
      rw [hi] at hlt
      exact hlt
    · refine ⟨0, 0, false, 0, 0, [], errN l, none, 0, ?_, At.nil _ _, hbel, Dres.no ?_⟩
      · rw [erV_ne (errN_ne l)]
        have : errN l = 3 := by unfold errN; rw [if_neg (by omega), if_neg hno, if_neg (by rw [hf]; decide)]
        rw [this]; rfl
      · rintro fr dt k ep sq b2 ⟨gm, ge⟩
        have a := fmay_le gm
        have hk1 : (if k then 1 else 0 : Nat) ≤ 1 := by split <;> omega
        have i2' := fdat_in fr dt (if k then 1 else 0) ep sq b2
        rw [← ge, hl, Nat.add_sub_cancel] at i2'
        obtain ⟨⟨y1, z1⟩, ⟨y2, z2⟩, ⟨y3, z3⟩, ⟨y4, z4⟩, ⟨y5, z5⟩, y6, y7, y8⟩ := walk_enc 255 255 1 1073741824 1073741824 (by omega) (by omega) hk1 (by omega) (by omega) (by omega) a.2.2.2.2.2 i2' r1.2.1 r2.2.1 r3.2.1 r4.2.1 r5.2.1
        rw [r1.1] at y1
        rw [r2.1] at y2
        rw [r3.1] at y3
        rw [r4.1] at y4
        rw [r5.1] at y5
        rw [r6.1] at y6
        rw [r6.2.1] at y7
        have hx1 : x1 = false := by rw [← r1.2.2, z1]; rfl
        have hx2 : x2 = false := by rw [← r2.2.2, z2, hx1]; rfl
        have hx3 : x3 = false := by rw [← r3.2.2, z3, hx2]; rfl
        have hx4 : x4 = false := by rw [← r4.2.2, z4, hx3]; rfl
        have hx5 : x5 = false := by rw [← r5.2.2, z5, hx4]; rfl
        have hx6 : x6 = false := by rw [← r6.2.2, y8, hx5]; rfl
        have hk : ((v3 : Int) == 1) = k := by rw [y3]; cases k <;> rfl
        rcases hbad with hbad | hbad
        · rw [hx6, y7] at hbad; cases hbad
        · rw [hk, y1, y2, y4, y5, y6] at hbad; exact hbad gm
def DecK (w : World) (l : List Nat) (e : Ending) (w' : World) : Prop :=
  ∃ (fr dt : Nat) (k : Bool) (ep sq : Nat) (bd : List Nat) (x : Int) (A : Option Addr) (c : Nat), e = .returned (.tuple #[.agg (pkF fr dt k ep sq A bd.length c), .int .i64 x]) ∧ At w' A (nats .u8 bd) ∧ Below w.heap.size w w' ∧ Dres l fr dt k ep sq bd x
theorem decK_no {w w' : World} {l : List Nat} {x : Int} {e : Ending} (hx : errN l = x) (h : KdecNo w x e w') (hn : ∀ a b c d e f, ¬ Good l a b c d e f) : DecK w l e w' := by
  obtain ⟨rfl, h2⟩ := h
  refine ⟨0, 0, false, 0, 0, [], errN l, none, 0, ?_, At.nil _ _, h2, Dres.no hn⟩
  rw [hx]; rfl
theorem deck_any (A : Option Addr) (n c : Nat) (l : List Nat) (w : World) (hl : l.length = n) (hnc : n ≤ c) (hc2 : c ≤ 9223372036854775807) (hat : At w A (nats .u8 l)) (hb : ∀ y ∈ l, y < 256) (hn9 : n ≤ 900 ∨ 8300 < n) :
    Calls Tryd.prog 10 #[.slice A n c] w (DecK w l) := by
  have hby : Crc.Bytes l := fun j => getD_of_all (m := 255) hb j
  by_cases h1 : 8300 < n
  · refine (kdec_long A n c w h1).mono fun e w' h => decK_no (by unfold errN; rw [if_pos (by omega)]) h (fun _ _ _ _ _ _ hg => by have := hg.form; omega)
  by_cases h2 : n < 6
  · refine (kdec_short A n c w h2).mono fun e w' h => decK_no (by unfold errN; rw [if_neg (by omega), if_pos (.inl (by omega))]) h (fun _ _ _ _ _ _ hg => by have := hg.form; omega)
  obtain ⟨b, o, rfl, _⟩ := hat.nat 0 (by omega)
  by_cases h3 : l.getD 0 0 = 67
  rotate_left
  · refine (kdec_head0 b o n c l w hl (by omega) (by omega) hnc hc2 hat h3).mono fun e w' h => decK_no (by unfold errN; rw [if_neg (by omega), if_pos (.inr (.inl h3))]) h (fun _ _ _ _ _ _ hg => h3 hg.form.2.2.1)
  by_cases h4 : l.getD 1 0 = 85
  rotate_left
  · refine (kdec_head1 b o n c l w hl (by omega) (by omega) hnc hc2 hat h3 h4).mono fun e w' h => decK_no (by unfold errN; rw [if_neg (by omega), if_pos (.inr (.inr h4))]) h (fun _ _ _ _ _ _ hg => h4 hg.form.2.2.2.1)
  have hno : ¬ (l.length < 6 ∨ l.getD 0 0 ≠ 67 ∨ l.getD 1 0 ≠ 85) := by
    rintro (h | h | h)
    · omega
    · exact h h3
    · exact h h4
  cases hf : Crc.Fits l with
  | false =>
    refine (kdec_sum b o n c l w hl (by omega) (by omega) hnc hc2 hat hby h3 h4 hf).mono fun e w' h => decK_no (by unfold errN; rw [if_neg (by omega), if_neg hno, if_pos hf]) h (fun _ _ _ _ _ _ hg => by have := hg.form.2.2.2.2; rw [hf] at this; cases this)
  | true =>
    obtain ⟨m, rfl⟩ : ∃ m, n = m + 6 := ⟨n - 6, by omega⟩
    refine (kdec_walk b o m c l w hl (by omega) hnc hc2 hat hb h3 h4 hf).mono fun e w' h => ?_
    obtain ⟨hbel, h⟩ := h
    rcases h with ⟨hm, he, A', c', rfl, hat'⟩ | ⟨hbad, rfl⟩
    · exact ⟨_, _, _, _, _, _, 0, A', c', rfl, hat', hbel, .inl ⟨rfl, hm, he.symm⟩⟩
    · refine ⟨0, 0, false, 0, 0, [], errN l, none, 0, ?_, At.nil _ _, hbel, Dres.no ?_⟩
      · have : errN l = 3 := by unfold errN; rw [if_neg (by omega), if_neg hno, if_neg (by rw [hf]; decide)]
        rw [this]; rfl
      · rintro fr dt k ep sq b2 ⟨gm, ge⟩
        have a := fmay_le gm
        have hk1 : (if k then 1 else 0 : Nat) ≤ 1 := by split <;> omega
        have i2' := fdat_in fr dt (if k then 1 else 0) ep sq b2
        rw [← ge, hl, Nat.add_sub_cancel] at i2'
        obtain ⟨⟨y1, z1⟩, ⟨y2, z2⟩, ⟨y3, z3⟩, ⟨y4, z4⟩, ⟨y5, z5⟩, y6, y7, y8⟩ := walk_enc 1073741824 1073741824 1073741824 1073741824 1073741824 (by omega) (by omega) (by omega) (by omega) (by omega) (by omega) a.2.2.2.2.2 i2' rfl rfl rfl rfl rfl
        have y1 : kv ((l.drop 2).take m) 0 = fr := y1
        have y2 : kv ((l.drop 2).take m) 1 = dt := y2
        have y3 : kv ((l.drop 2).take m) 2 = (if k then 1 else 0) := y3
        have y4 : kv ((l.drop 2).take m) 3 = ep := y4
        have y5 : kv ((l.drop 2).take m) 4 = sq := y5
        have y6 : bb (ks ((l.drop 2).take m) 5) = b2 := y6
        have hk : ((((if k then 1 else 0 : Nat) : Nat) : Int) == 1) = k := by cases k <;> rfl
        rw [y1, y2, y3, y4, y5, y6, hk] at hbad
        rcases hbad with hbad | hbad
        · exact hbad gm
        · exact hbad ge.symm
/-! ### Encode -/
open Classical in
noncomputable def encL (fr dt : Int) (k : Bool) (ep sq : Int) (b : List Nat) : List Nat := if FMay fr dt k ep sq b.length then fdat fr.toNat dt.toNat (if k then 1 else 0) ep.toNat sq.toNat b else []
open Classical in
noncomputable def encX (fr dt : Int) (k : Bool) (ep sq : Int) (n : Nat) : Int := if FMay fr dt k ep sq n then 0 else 1
def EncR (w : World) (L : List Nat) (v : Value) (e : Ending) (w' : World) : Prop := ∃ A c, e = .returned (.tuple #[.slice A L.length c, v]) ∧ Own w' w.heap.size 5 1 A L.length c (nats .u8 L) ∧ Below w.heap.size w w'
theorem fmay_nat {fr dt : Int} {k : Bool} {ep sq : Int} {n : Nat} (h : FMay fr dt k ep sq n) : ∃ a b c d : Nat, fr = a ∧ dt = b ∧ ep = c ∧ sq = d := by
  unfold FMay at h
  exact ⟨fr.toNat, dt.toNat, ep.toNat, sq.toNat, by omega, by omega, by omega, by omega⟩
theorem enc_any (fr dt : Int) (k : Bool) (ep sq : Int) (A : Option Addr) (n c : Nat) (b : List Nat) (w : World) (hl : b.length = n) (hat : At w A (nats .u8 b)) :
    Calls Tryd.prog 6 #[.agg #[.int .i64 fr, .int .i64 dt, .bool k, .int .i64 ep, .int .i64 sq, .slice A n c]] w (EncR w (encL fr dt k ep sq b) (erV (encX fr dt k ep sq b.length))) := by
  subst hl
  by_cases hm : FMay fr dt k ep sq b.length
  · have e1 : encX fr dt k ep sq b.length = 0 := by unfold encX; rw [if_pos hm]
    have e2 : encL fr dt k ep sq b = fdat fr.toNat dt.toNat (if k then 1 else 0) ep.toNat sq.toNat b := by unfold encL; rw [if_pos hm]
    rw [e1, e2]
    obtain ⟨f, d, p, s, rfl, rfl, rfl, rfl⟩ := fmay_nat hm
    simp only [Int.toNat_natCast]
    cases k with
    | true => exact (fenc_true f d p s A c b w hm hat).mono fun e w' ⟨A', c', h1, h2, h3⟩ => ⟨A', c', h1, h2, h3⟩
    | false => exact (fenc_false f d p s A c b w hm hat).mono fun e w' ⟨A', c', h1, h2, h3⟩ => ⟨A', c', h1, h2, h3⟩
  · have e1 : encX fr dt k ep sq b.length = 1 := by unfold encX; rw [if_neg hm]
    have e2 : encL fr dt k ep sq b = [] := by unfold encL; rw [if_neg hm]
    rw [e1, e2]
    exact (fenc_no fr dt k ep sq A b.length c w hm).mono fun e w' ⟨h1, h2⟩ => ⟨none, 0, h1, Own.none_ _ _ _ _, h2⟩
theorem enck_any (fr dt : Int) (k : Bool) (ep sq : Int) (A : Option Addr) (n c : Nat) (b : List Nat) (w : World) (hl : b.length = n) (hat : At w A (nats .u8 b)) (hby : ∀ y ∈ b, y < 256) (hn9 : n ≤ 900 ∨ 8192 < n) :
    Calls Tryd.prog 8 #[.agg #[.int .i64 fr, .int .i64 dt, .bool k, .int .i64 ep, .int .i64 sq, .slice A n c]] w (EncR w (encL fr dt k ep sq b) (.int .i64 (encX fr dt k ep sq b.length))) := by
  subst hl
  by_cases hm : FMay fr dt k ep sq b.length
  · have e1 : encX fr dt k ep sq b.length = 0 := by unfold encX; rw [if_pos hm]
    have e2 : encL fr dt k ep sq b = fdat fr.toNat dt.toNat (if k then 1 else 0) ep.toNat sq.toNat b := by unfold encL; rw [if_pos hm]
    rw [e1, e2]
    obtain ⟨f, d, p, s, rfl, rfl, rfl, rfl⟩ := fmay_nat hm
    simp only [Int.toNat_natCast]
    have := fmay_le hm
    exact (kenc_yes f d p s k A c b w hm (by omega) hat hby).mono fun e w' ⟨A', c', h1, h2, h3⟩ => ⟨A', c', h1, h2, h3⟩
  · have e1 : encX fr dt k ep sq b.length = 1 := by unfold encX; rw [if_neg hm]
    have e2 : encL fr dt k ep sq b = [] := by unfold encL; rw [if_neg hm]
    rw [e1, e2]
    exact (kenc_no fr dt k ep sq A b.length c w hm).mono fun e w' ⟨h1, h2⟩ => ⟨none, 0, h1, Own.none_ _ _ _ _, h2⟩
theorem chk_any (fr dt : Int) (k : Bool) (ep sq : Int) (A : Option Addr) (n c : Nat) (w : World) :
    Calls Tryd.prog 11 #[.agg #[.int .i64 fr, .int .i64 dt, .bool k, .int .i64 ep, .int .i64 sq, .slice A n c]] w fun e w' => e = .returned (erV (encX fr dt k ep sq n)) ∧ Below w.heap.size w w' :=
  (fcheck_any fr dt k ep sq A n c w).mono fun e w' ⟨h1, h2⟩ => by
    refine ⟨?_, h2⟩
    rcases h1 with ⟨h1, h3⟩ | ⟨h1, h3⟩
    · rw [h1]; unfold encX; rw [if_pos h3]; rfl
    · rw [h1]; unfold encX; rw [if_neg h3]; rfl
end Go.Proofs.YtlimabhojocimaaDoor
