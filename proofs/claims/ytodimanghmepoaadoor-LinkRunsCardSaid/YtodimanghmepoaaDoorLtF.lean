/- Layer 19: the document's end: Out and Hear, whatever it is. -/
import Derived.Test.YtodimanghmepoaaDoorLtE
namespace Go.Proofs.YtodimanghmepoaaDoor
open Go.RowKit
theorem enck_ok (fr dt : Int) (k : Bool) (ep sq : Int) (A : Option Addr) (n c : Nat) (b : List Nat) (w : World) (hl : b.length = n) (hat : At w A (nats .u8 b)) (hby : ∀ y ∈ b, y < 256) (hn9 : n ≤ 900 ∨ 8192 < n) :
    ∃ v, Calls Tryd.prog 17 #[.agg #[.int .i64 fr, .int .i64 dt, .bool k, .int .i64 ep, .int .i64 sq, .slice A n c]] w (EncR w (encL fr dt k ep sq b) v) := ⟨_, enck_any fr dt k ep sq A n c b w hl hat hby hn9⟩
/-- where a list's own lies -/
structure XL (w0 w : World) (l : List (List Nat)) (Ar : Option Addr) (m cr : Nat) (us : List Value) : Prop where
  at_ : At w Ar us
  ul : us.length = m
  ll : l.length = m
  each : ∀ (i : Nat) (u : Value) (b : List Nat), us[i]? = some u → l[i]? = some b → InB w0 u b
  cap : m ≤ cr
theorem LX.xl {w0 w : World} {F : Nat → Nat → Prop} {p px : Nat} {s s2 : LSt} {Ar : Option Addr} {m cr : Nat} {us : List Value} (h : LX w0 w F p px s s2 Ar m cr us) : XL w0 w s2.l Ar m cr us := ⟨h.at_, h.ul, h.ll, h.each, h.cap⟩
section
variable {w0 w : World} {s : LSt} {Ar : Option Addr} {m cr : Nat} {us : List Value}
theorem xout_any (h : XL w0 w s.l Ar m cr us) (hb0 : Below w0.heap.size w0 w) (ok : LOk s) :
    Calls Tryd.prog 16 #[.agg (endX s Ar m cr)] w (XOutE w (outS s) Ar m cr (outA s ++ outB s)) := by
  have V1 := encX s.me s.ot true s.ep s.sq 0
  have QE : ∀ W : World, Calls Tryd.prog 17 #[.agg #[.int .i64 s.me, .int .i64 s.ot, .bool true, .int .i64 s.ep, .int .i64 s.sq, .slice none 0 0]] W (EncR W (encL s.me s.ot true s.ep s.sq []) (.int .i64 (encX s.me s.ot true s.ep s.sq 0))) := fun W =>
    enck_any s.me s.ot true s.ep s.sq none 0 0 [] W rfl (At.nil _ _) (by simp) (.inl (by omega))
  obtain ⟨me, ot, E, S, l, st, lf, RE, RL, gv, ep, sq⟩ := s
  obtain ⟨k, hk, hst⟩ := ok.st
  simp only at hst
  by_cases hn : m = 0 ∨ (m ≠ 0 ∧ 0 < lf)
  · have e1 : outB ⟨me, ot, E, S, l, st, lf, RE, RL, gv, ep, sq⟩ = [] := by
      unfold outB
      cases l with
      | nil => rfl
      | cons b r => simp only; rw [if_neg (by have := h.ll; simp at this; omega)]
    have e2 : outS ⟨me, ot, E, S, l, st, lf, RE, RL, gv, ep, sq⟩ = ⟨me, ot, E, S, l, st, lf, RE, RL, false, ep, sq⟩ := by
      unfold outS
      cases l with
      | nil => rfl
      | cons b r => simp only; rw [if_neg (by have := h.ll; simp at this; omega)]
    rw [e1, e2, List.append_nil]
    unfold outA
    cases gv with
    | true => rw [if_pos rfl]; exact xout_wn w rfl QE hn
    | false => rw [if_neg (by simp)]; exact xout_nn w hn
  · have hlf : lf = 0 := by have := ok.lf; simp only at this; omega
    have hm0 : 0 < m := by omega
    obtain ⟨b, r, rfl⟩ : ∃ b r, l = b :: r := by
      cases l with
      | nil => have := h.ll; simp at this; omega
      | cons b r => exact ⟨b, r, rfl⟩
    obtain ⟨u, us', rfl⟩ : ∃ u us', us = u :: us' := by
      cases us with
      | nil => have := h.ul; simp at this; omega
      | cons u us' => exact ⟨u, us', rfl⟩
    obtain ⟨A1, c1, rfl, hat, h9, hby⟩ := h.each 0 _ _ rfl rfl
    obtain ⟨b0, o0, rfl, hc⟩ := h.at_ 0 _ rfl
    have QF : ∀ (W : World) (A : Option Addr) (c : Nat), At W A (nats .u8 b) → Calls Tryd.prog 17 #[.agg #[.int .i64 me, .int .i64 ot, .bool false, .int .i64 E, .int .i64 S, .slice A b.length c]] W (EncR W (encL me ot false E S b) (.int .i64 (encX me ot false E S b.length))) := fun W A c hat =>
      enck_any me ot false E S A b.length c b W rfl hat hby (.inl h9)
    have e1 : outB ⟨me, ot, E, S, b :: r, st, lf, RE, RL, gv, ep, sq⟩ = [encL me ot false E S b] := by unfold outB; simp only; rw [if_pos hlf]
    have e2 : outS ⟨me, ot, E, S, b :: r, st, lf, RE, RL, gv, ep, sq⟩ = ⟨me, ot, E, S, b :: r, (min (k + 1) 3 : Nat), (3 * 2 ^ k : Nat), RE, RL, false, ep, sq⟩ := by
      unfold outS; simp only; rw [if_pos hlf, hst]; rfl
    rw [e1, e2]
    unfold outA
    have hcell : w.cell? ⟨b0, o0, none⟩ = some (.slice A1 b.length c1) := by simpa using hc
    have hatw := hat.later hb0 (Nat.le_refl _)
    cases gv with
    | true => rw [if_pos rfl]; exact xout_ws w rfl QE rfl hm0 hcell rfl hatw k hk hst hlf rfl QF
    | false => rw [if_neg (by simp)]; exact xout_ns w rfl hm0 hcell rfl hatw k hk hst hlf rfl QF
/-- what the document's Hear leaves of its list -/
def XHearL (w0 w : World) (s' : LSt) (Ar : Option Addr) (bd : List Nat) (is : Bool) (x : Int) (e : Ending) (w' : World) : Prop :=
  ∃ Ar' m' cr' us', XHearE w s' Ar' m' cr' bd is x e w' ∧ XL w0 w' s'.l Ar' m' cr' us' ∧ blk Ar' = blk Ar
theorem XL.later {l : List (List Nat)} (h : XL w0 w l Ar m cr us) {w' : World} (hb : Below w.heap.size w w') : XL w0 w' l Ar m cr us := ⟨h.at_.later hb (Nat.le_refl _), h.ul, h.ll, h.each, h.cap⟩
theorem xhear_same (h : XL w0 w s.l Ar m cr us) {s' : LSt} (hs : s'.l = s.l) {bd : List Nat} {is : Bool} {x : Int} {e : Ending} {w' : World} (hx : XHearE w s' Ar m cr bd is x e w') : XHearL w0 w s' Ar bd is x e w' := by
  have hb : Below w.heap.size w w' := by obtain ⟨_, _, _, _, hb⟩ := hx; exact hb
  exact ⟨Ar, m, cr, us, hx, hs ▸ h.later hb, rfl⟩
theorem xhear_any (h : XL w0 w s.l Ar m cr us) (ok : LOk s) (A : Option Addr) (n c : Nat) (b : List Nat) (hl : b.length = n) (hnc : n ≤ c) (hc2 : c ≤ 9223372036854775807) (hat : At w A (nats .u8 b)) (hb : ∀ y ∈ b, y < 256) (hn9 : n ≤ 900 ∨ 8300 < n) :
    Calls Tryd.prog 18 #[.agg (endX s Ar m cr), .slice A n c] w (XHearL w0 w (hearR s b).1 Ar (hearR s b).2.1 (hearR s b).2.2.1 (hearR s b).2.2.2) := by
  obtain ⟨me, ot, E, S, l, st, lf, RE, RL, gv, ep0, sq0⟩ := s
  by_cases hg : ∃ fr dt k ep sq bd, Good b fr dt k ep sq bd
  · obtain ⟨fr, dt, k, ep, sq, bd, hg⟩ := hg
    rw [hearR_good hg]
    unfold hearG
    by_cases hw : (fr : Int) ≠ ot ∨ (dt : Int) ≠ me
    · rw [if_pos hw]
      exact (xhear_wrong w A n c b hl hnc hc2 hat hb hn9 hg hw).mono fun e w' hx => xhear_same h (by rfl) hx
    rw [if_neg hw]
    have hf : (fr : Int) = ot := by omega
    have ht : (dt : Int) = me := by omega
    cases k with
    | true =>
      rw [if_pos rfl]
      by_cases h0 : (ep : Int) ≠ E ∨ (sq : Int) ≠ S ∨ m = 0
      · have hs : heardS ⟨me, ot, E, S, l, st, lf, RE, RL, gv, ep0, sq0⟩ ep sq = ⟨me, ot, E, S, l, st, lf, RE, RL, gv, ep0, sq0⟩ := by
          unfold heardS
          cases l with
          | nil => rfl
          | cons x r =>
            simp only
            rw [if_neg (by have := h.ll; simp at this; omega)]
        rw [hs]
        exact (xhear_word_no w A n c b hl hnc hc2 hat hb hn9 hg hf ht h0).mono fun e w' hx => xhear_same h (by rfl) hx
      · obtain ⟨x, r, rfl⟩ : ∃ x r, l = x :: r := by
          cases l with
          | nil => have := h.ll; simp at this; omega
          | cons x r => exact ⟨x, r, rfl⟩
        obtain ⟨u, us', rfl⟩ : ∃ u us', us = u :: us' := by
          cases us with
          | nil => have := h.ul; simp at this; omega
          | cons u us' => exact ⟨u, us', rfl⟩
        obtain ⟨m', rfl⟩ : ∃ m', m = m' + 1 := ⟨m - 1, by omega⟩
        have hs : heardS ⟨me, ot, E, S, x :: r, st, lf, RE, RL, gv, ep0, sq0⟩ ep sq = ⟨me, ot, E, S + 1, r, 0, 0, RE, RL, gv, ep0, sq0⟩ := by
          unfold heardS
          simp only
          rw [if_pos (by omega)]
        rw [hs]
        have hok := ok.S
        simp only [List.length_cons] at hok
        refine (xhear_word_yes w A n c b hl hnc hc2 hat hb hn9 hg hf ht (by omega) (by omega) rfl h.cap h.ul h.at_ (by omega)).mono ?_
        rintro e w' ⟨A', c', ⟨A2, c2, rfl, h1, h2⟩, hc', hau, hbk⟩
        refine ⟨A', m', c', us', ⟨A2, c2, rfl, h1, h2⟩, ⟨hau, by have := h.ul; simpa using this, by have := h.ll; simpa using this, fun i u' b' g1 g2 => h.each (i + 1) u' b' (by simpa using g1) (by simpa using g2), hc'⟩, hbk⟩
    | false =>
      rw [if_neg (by decide)]
      have hRE := ok.RE
      have hRL := ok.RL
      simp only at hRE hRL
      have hrc : rc RE RL ep sq = (((rc RE RL ep sq).1.1, (rc RE RL ep sq).1.2), (rc RE RL ep sq).2.1, (rc RE RL ep sq).2.2) := rfl
      have hts : takeS ⟨me, ot, E, S, l, st, lf, RE, RL, gv, ep0, sq0⟩ ep sq = if 0 ≤ (rc RE RL ep sq).2.2 then ⟨me, ot, E, S, l, st, lf, (rc RE RL ep sq).1.1, (rc RE RL ep sq).1.2, true, ep, (rc RE RL ep sq).2.2⟩ else ⟨me, ot, E, S, l, st, lf, (rc RE RL ep sq).1.1, (rc RE RL ep sq).1.2, gv, ep0, sq0⟩ := rfl
      simp only
      rw [hts]
      by_cases ht1 : (rc RE RL ep sq).2.1 = true
      · rw [if_pos ht1, if_pos (rc_taken ht1)]
        exact (xhear_data_t w A n c b hl hnc hc2 hat hb hn9 hg hf ht hRE hRL hrc ht1 (rc_taken ht1)).mono fun e w' hx => xhear_same h (by rfl) hx
      · rw [if_neg ht1]
        have ht2 : (rc RE RL ep sq).2.1 = false := by simpa using ht1
        by_cases hla : 0 ≤ (rc RE RL ep sq).2.2
        · rw [if_pos hla]; exact (xhear_data_g w A n c b hl hnc hc2 hat hb hn9 hg hf ht hRE hRL hrc ht2 hla).mono fun e w' hx => xhear_same h (by rfl) hx
        · rw [if_neg hla]; exact (xhear_data_n w A n c b hl hnc hc2 hat hb hn9 hg hf ht hRE hRL hrc ht2 (by omega)).mono fun e w' hx => xhear_same h (by rfl) hx
  · have hno : ∀ a b' c d e f, ¬ Good b a b' c d e f := fun a b' c d e f h => hg ⟨a, b', c, d, e, f, h⟩
    rw [hearR_bad hno]
    exact (xhear_err w A n c b hl hnc hc2 hat hb hn9 hno).mono fun e w' hx => xhear_same h (by rfl) hx
end
end Go.Proofs.YtodimanghmepoaaDoor
