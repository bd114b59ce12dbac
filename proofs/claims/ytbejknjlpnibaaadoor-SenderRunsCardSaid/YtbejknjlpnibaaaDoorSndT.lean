/- Layer 17: the sender and the document's side by side. -/
import Derived.Test.YtbejknjlpnibaaaDoorSndS
import Derived.Test.YtbejknjlpnibaaaDoorSendG
import Derived.Test.YtbejknjlpnibaaaDoorNum17
namespace Go.Proofs.YtbejknjlpnibaaaDoor
open Go.RowKit
/-- a body of those that came in -/
def InB (w0 : World) (u : Value) (b : List Nat) : Prop := ∃ A1 c1, u = .slice A1 b.length c1 ∧ At w0 A1 (nats .u8 b)
structure SX (w0 w : World) (g px : Nat) (E S st lf : Int) (l : List (List Nat)) (A : Option Addr) (n c : Nat) (vs : List Value) (E2 S2 st2 lf2 : Int) (l2 : List (List Nat)) (Ar : Option Addr) (m cr : Nat) (us : List Value) : Prop where
  snd : Snd w g w0.heap.size [] E S A n c vs l st lf
  x : Holds w px 39 #[.int .i64 E2, .int .i64 S2, .slice Ar m cr, .int .i64 st2, .int .i64 lf2]
  at_ : At w Ar us
  ul : us.length = m
  ll : l2.length = m
  each : ∀ (i : Nat) (u : Value) (b : List Nat), us[i]? = some u → l2[i]? = some b → InB w0 u b
  bel : Below w0.heap.size w0 w
  pg : px ≠ g
  px0 : w0.heap.size ≤ px
  pA : blk A ≠ some px
  rg : blk Ar ≠ some g
  rp : blk Ar ≠ some px
  rA : blk Ar = none ∨ blk Ar ≠ blk A
  rlt : ∀ k, blk Ar = some k → k < w.heap.size
  cap : m ≤ cr
section
variable {w0 w w' W : World} {g px : Nat} {E S st lf E' S' st' lf' E2 S2 st2 lf2 E2' S2' st2' lf2' : Int} {l l' l2 l2' : List (List Nat)} {A Ar Ar' : Option Addr} {n c m m' cr cr' : Nat} {vs us us' : List Value}
theorem SX.one (h : SX w0 w g px E S st lf l A n c vs E2 S2 st2 lf2 l2 Ar m cr us) : ∀ u ∈ us, u.oneCell' = true := by
  intro u hu
  obtain ⟨i, hi, rfl⟩ := List.mem_iff_getElem.1 hu
  have hl : i < l2.length := by have := h.ul; have := h.ll; omega
  obtain ⟨A1, c1, e, _⟩ := h.each i us[i] l2[i] (List.getElem?_eq_getElem hi) (List.getElem?_eq_getElem hl)
  rw [e]; rfl
theorem SX.later (h : SX w0 w g px E S st lf l A n c vs E2 S2 st2 lf2 l2 Ar m cr us) (hb : Below w.heap.size w w') : SX w0 w' g px E S st lf l A n c vs E2 S2 st2 lf2 l2 Ar m cr us :=
  ⟨h.snd.below hb (Nat.le_refl _), h.x.later hb (Nat.le_refl _), h.at_.later hb (Nat.le_refl _), h.ul, h.ll, h.each, h.bel.trans (hb.mono h.bel.size), h.pg, h.px0, h.pA, h.rg, h.rp, h.rA, fun k e => Nat.lt_of_lt_of_le (h.rlt k e) hb.size, h.cap⟩
theorem SX.prog (h : SX w0 w g px E S st lf l A n c vs E2 S2 st2 lf2 l2 Ar m cr us) (hk : KSnd w w' g w0.heap.size A E' S' l' st' lf') :
    ∃ A' n' c' vs', SX w0 w' g px E' S' st' lf' l' A' n' c' vs' E2 S2 st2 lf2 l2 Ar m cr us := by
  obtain ⟨A', n', c', vs', h1, h2, h3⟩ := hk
  refine ⟨A', n', c', vs', h1, h.x.kept h2 h.pg h.pA, h.at_.kept h2 h.rg h.rA, h.ul, h.ll, h.each, h.bel.trans (h2.below h.snd.ge (fun k e => (h.snd.own.lt k e).1) h.bel.size), h.pg, h.px0, fun e => ?_, h.rg, h.rp, ?_, fun k e => Nat.lt_of_lt_of_le (h.rlt k e) h2.size, h.cap⟩
  · rcases h3 px e with h4 | h4
    · exact h.pA h4
    · have := h.x.lt; omega
  · cases e : blk Ar with
    | none => exact .inl rfl
    | some k =>
      refine .inr (fun e2 => ?_)
      have hk := h.rlt k e
      rcases h3 k e2.symm with h4 | h4
      · rcases h.rA with h5 | h5
        · rw [e] at h5; cases h5
        · exact h5 (e.trans h4.symm)
      · omega
/-- the sender is turned, its slice as it was -/
theorem SX.turned (h : SX w0 w g px E S st lf l A n c vs E2 S2 st2 lf2 l2 Ar m cr us) (hs : Snd w' g w0.heap.size [] E' S' A n c vs l' st' lf') (hg : w.grownBy w' (some g)) :
    SX w0 w' g px E' S' st' lf' l' A n c vs E2 S2 st2 lf2 l2 Ar m cr us :=
  ⟨hs, h.x.grown hg (fun e => h.pg (by injection e with e; exact e.symm)), h.at_.grown hg (.inr h.rg), h.ul, h.ll, h.each, h.bel.trans (below_of_grown hg h.snd.ge h.bel.size), h.pg, h.px0, h.pA, h.rg, h.rp, h.rA, fun k e => Nat.lt_of_lt_of_le (h.rlt k e) hg.size, h.cap⟩
/-- the document's sender is stored anew -/
theorem SX.store (h : SX w0 w g px E S st lf l A n c vs E2 S2 st2 lf2 l2 Ar m cr us) (hat : At w Ar' us') (hul : us'.length = m') (hll : l2'.length = m') (heach : ∀ (i : Nat) (u : Value) (b : List Nat), us'[i]? = some u → l2'[i]? = some b → InB w0 u b)
    (hg : blk Ar' ≠ some g) (hp : blk Ar' ≠ some px) (hA : blk Ar' = none ∨ blk Ar' ≠ blk A) (hlt : ∀ k, blk Ar' = some k → k < w.heap.size) (hc : m' ≤ cr')
    (hW : (((((w.setCell ⟨px, 0, none⟩ (.int .i64 E2')).setCell ⟨px, 1, none⟩ (.int .i64 S2')).setCell ⟨px, 2, none⟩ (.slice Ar' m' cr')).setCell ⟨px, 3, none⟩ (.int .i64 st2')).setCell ⟨px, 4, none⟩ (.int .i64 lf2')) = W) :
    SX w0 W g px E S st lf l A n c vs E2' S2' st2' lf2' l2' Ar' m' cr' us' := by
  have hgr : w.grownBy (((((w.setCell ⟨px, 0, none⟩ (.int .i64 E2')).setCell ⟨px, 1, none⟩ (.int .i64 S2')).setCell ⟨px, 2, none⟩ (.slice Ar' m' cr')).setCell ⟨px, 3, none⟩ (.int .i64 st2')).setCell ⟨px, 4, none⟩ (.int .i64 lf2')) (some px) := grown_set (grown_set (grown_set (grown_set (grown_set (grown_refl _ _) 0 _) 1 _) 2 _) 3 _) 4 _
  have hx := ((((h.x.set 0 (.int .i64 E2')).set 1 (.int .i64 S2')).set 2 (.slice Ar' m' cr')).set 3 (.int .i64 st2')).set 4 (.int .i64 lf2')
  subst hW
  refine ⟨⟨h.snd.blk_.grown hgr (fun e => h.pg (by injection e)), h.snd.own.kept hgr (.inr h.pA), h.snd.len, fun i v b h1 h2 => ?_, h.snd.far, h.snd.ge, by simp⟩, hx, hat.grown hgr (.inr hp), hul, hll, heach, h.bel.trans (below_of_grown hgr h.px0 h.bel.size), h.pg, h.px0, h.pA, hg, hp, hA, fun k e => Nat.lt_of_lt_of_le (hlt k e) hgr.size, hc⟩
  obtain ⟨A1, c1, rfl, hb, ha, hn, hk⟩ := h.snd.bod i v b h1 h2
  refine ⟨A1, c1, rfl, hb, ?_, hn, fun k e => ⟨(hk k e).1, Nat.lt_of_lt_of_le (hk k e).2.1 hgr.size, (hk k e).2.2⟩⟩
  by_cases h0 : b = []
  · subst h0; exact At.nil _ _
  · refine ha.grown hgr (.inr fun e => ?_)
    obtain ⟨b', o', rfl, hc'⟩ := ha.nat 0 (by cases b with | nil => exact absurd rfl h0 | cons _ _ => simp)
    simp [blk] at e
    subst e
    have hx0 := h.x.cell (o' + 0)
    rw [hc'] at hx0
    match o', hx0 with
    | 0, hx0 => simp at hx0
    | 1, hx0 => simp at hx0
    | 2, hx0 => simp at hx0
    | 3, hx0 => simp at hx0
    | 4, hx0 => simp at hx0
    | o + 5, hx0 => simp at hx0
theorem grown5 {w W : World} {px : Nat} {v0 v1 v2 v3 v4 : Value} (hW : (((((w.setCell ⟨px, 0, none⟩ v0).setCell ⟨px, 1, none⟩ v1).setCell ⟨px, 2, none⟩ v2).setCell ⟨px, 3, none⟩ v3).setCell ⟨px, 4, none⟩ v4) = W) : w.grownBy W (some px) := by
  subst hW
  exact grown_set (grown_set (grown_set (grown_set (grown_set (grown_refl _ _) 0 _) 1 _) 2 _) 3 _) 4 _
theorem below_drewN (k : Nat) (w : World) (n : Nat) : Below k w (w.drewN n) := ⟨rfl, rfl, rfl, Nat.le_refl _, fun _ _ => rfl⟩
theorem each_snoc {w0 : World} {us : List Value} {l : List (List Nat)} {A2 : Option Addr} {c2 : Nat} {d : List Nat} (hl : us.length = l.length) (h : ∀ (i : Nat) (u : Value) (b : List Nat), us[i]? = some u → l[i]? = some b → InB w0 u b) (hd : At w0 A2 (nats .u8 d)) :
    ∀ (i : Nat) (u : Value) (b : List Nat), (us ++ [.slice A2 d.length c2])[i]? = some u → (l ++ [d])[i]? = some b → InB w0 u b := by
  intro i u b h1 h2
  by_cases hi : i < us.length
  · rw [List.getElem?_append_left hi] at h1
    rw [List.getElem?_append_left (by omega)] at h2
    exact h i u b h1 h2
  · rw [List.getElem?_append_right (by omega)] at h1
    rw [List.getElem?_append_right (by omega)] at h2
    rw [hl] at h1
    have h0 : i - l.length = 0 := by
      rcases Nat.eq_zero_or_pos (i - l.length) with h | h
      · exact h
      · rw [List.getElem?_eq_none (by simp; omega)] at h2; cases h2
    rw [h0] at h1 h2
    simp at h1 h2
    subst h1; subst h2
    exact ⟨A2, c2, rfl, hd⟩
theorem rout_any {b o : Nat} {E S : Int} (v : Value) (k : Nat) (hk : k ≤ 3) (h : 0 < n) (hb : b < w.heap.size) (hv : w.cell? ⟨b, o, none⟩ = some v) :
    Calls Tryd.prog 16 #[.agg #[.int .i64 E, .int .i64 S, .slice (some ⟨b, o, none⟩) n c, .int .i64 (k : Nat), .int .i64 ((0 : Nat) : Int)]] w fun e w' => e = .returned (.tuple #[.agg #[.int .i64 E, .int .i64 S, .slice (some ⟨b, o, none⟩) n c, .int .i64 (min (k + 1) 3 : Nat), .int .i64 (3 * 2 ^ k : Nat)], .int .i64 S, v, .bool true]) ∧ Below w.heap.size w w' := by
  have hk4 : k = 0 ∨ k = 1 ∨ k = 2 ∨ k = 3 := by omega
  rcases hk4 with rfl | rfl | rfl | rfl
  · exact rout_some0 v h hb hv
  · exact rout_some1 v h hb hv
  · exact rout_some2 v h hb hv
  · exact rout_some3 v h hb hv
theorem rout_any2 {b o : Nat} {E S : Int} (v : Value) (k : Nat) (hk : k ≤ 3) (s2 l2 : Nat) (hs : min (k + 1) 3 = s2) (hl : 3 * 2 ^ k = l2) (h : 0 < n) (hb : b < w.heap.size) (hv : w.cell? ⟨b, o, none⟩ = some v) :
    Calls Tryd.prog 16 #[.agg #[.int .i64 E, .int .i64 S, .slice (some ⟨b, o, none⟩) n c, .int .i64 (k : Nat), .int .i64 ((0 : Nat) : Int)]] w fun e w' => e = .returned (.tuple #[.agg #[.int .i64 E, .int .i64 S, .slice (some ⟨b, o, none⟩) n c, .int .i64 (s2 : Nat), .int .i64 (l2 : Nat)], .int .i64 S, v, .bool true]) ∧ Below w.heap.size w w' := by
  subst hs; subst hl; exact rout_any v k hk h hb hv
theorem rheard_any {E S st lf : Int} {us : List Value} {v : Value} (hj : 0 ≤ S ∧ S ≤ 1073741824) (m : Nat) (hc : m + 1 ≤ c) (hu : (v :: us).length = m + 1) (hat : At w A (v :: us)) :
    Calls Tryd.prog 17 #[.agg #[.int .i64 E, .int .i64 S, .slice A (m + 1) c, .int .i64 st, .int .i64 lf], .int .i64 E, .int .i64 S] w fun e w' => ∃ A' c', e = .returned (.tuple #[.agg #[.int .i64 E, .int .i64 (S + 1), .slice A' m c', .int .i64 0, .int .i64 0], .bool true]) ∧ m ≤ c' ∧ At w' A' us ∧ blk A' = blk A ∧ Below w.heap.size w w' := by
  obtain ⟨b, o, rfl, _⟩ := hat 0 v rfl
  by_cases h1 : c = 1
  · subst h1
    obtain rfl : m = 0 := by omega
    obtain rfl : us = [] := List.eq_nil_of_length_eq_zero (by simpa using hu)
    refine (rheard_yes0 (b := b) (o := o) E S hj).mono ?_
    rintro e w' ⟨rfl, hb⟩
    exact ⟨_, _, rfl, Nat.zero_le _, At.nil _ _, rfl, hb⟩
  · refine (rheard_yes1 (b := b) (o := o) E S hj m hc h1).mono ?_
    rintro e w' ⟨rfl, hb⟩
    exact ⟨_, _, rfl, by omega, (by have := (hat.cut (m := 1)).later hb (Nat.le_refl _); simpa using this), rfl, hb⟩
end
end Go.Proofs.YtbejknjlpnibaaaDoor
