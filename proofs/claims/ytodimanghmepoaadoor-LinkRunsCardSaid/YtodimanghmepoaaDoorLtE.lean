/- Layer 19: an end and the document's side by side. -/
import Derived.Test.YtodimanghmepoaaDoorLtD
namespace Go.Proofs.YtodimanghmepoaaDoor
open Go.RowKit
/-- a body of those that came in -/
def InB (w0 : World) (u : Value) (b : List Nat) : Prop := ∃ A1 c1, u = .slice A1 b.length c1 ∧ At w0 A1 (nats .u8 b) ∧ b.length ≤ 900 ∧ ∀ y ∈ b, y < 256
structure LX (w0 w : World) (F : Nat → Nat → Prop) (p px : Nat) (s s2 : LSt) (Ar : Option Addr) (m cr : Nat) (us : List Value) : Prop where
  ways : Ways w0 w 1 F (tri p 0 0) (tri s z19 z19)
  x : Holds w px 46 (endX s2 Ar m cr)
  at_ : At w Ar us
  ul : us.length = m
  ll : s2.l.length = m
  each : ∀ (i : Nat) (u : Value) (b : List Nat), us[i]? = some u → s2.l[i]? = some b → InB w0 u b
  px0 : w0.heap.size ≤ px
  pF : ∀ i, ¬ F i px
  rF : ∀ k, blk Ar = some k → k < w.heap.size ∧ ∀ i, ¬ F i k
  rp : blk Ar ≠ some px
  cap : m ≤ cr
section
variable {w0 w w' W : World} {F F' : Nat → Nat → Prop} {p px : Nat} {s s' s2 s2' : LSt} {Ar Ar' : Option Addr} {m m' cr cr' : Nat} {us us' : List Value}
theorem LX.one (h : LX w0 w F p px s s2 Ar m cr us) : ∀ u ∈ us, u.oneCell' = true := by
  intro u hu
  obtain ⟨i, hi, rfl⟩ := List.mem_iff_getElem.1 hu
  have hl : i < s2.l.length := by have := h.ul; have := h.ll; omega
  obtain ⟨A1, c1, e, _⟩ := h.each i us[i] s2.l[i] (List.getElem?_eq_getElem hi) (List.getElem?_eq_getElem hl)
  rw [e]; rfl
theorem LX.later (h : LX w0 w F p px s s2 Ar m cr us) (hb : Below w.heap.size w w') : LX w0 w' F p px s s2 Ar m cr us :=
  ⟨h.ways.later hb, h.x.later hb (Nat.le_refl _), h.at_.later hb (Nat.le_refl _), h.ul, h.ll, h.each, h.px0, h.pF, fun k e => ⟨Nat.lt_of_lt_of_le (h.rF k e).1 hb.size, (h.rF k e).2⟩, h.rp, h.cap⟩
/-- the program's end did something -/
theorem LX.prog (h : LX w0 w F p px s s2 Ar m cr us) (hw : Ways w0 w' 1 F' (tri p 0 0) (tri s' z19 z19)) (hk : Keep w F w' F') : LX w0 w' F' p px s' s2 Ar m cr us := by
  have hp := hk.block px h.x.lt h.pF
  exact ⟨hw, hp.1.trans h.x, h.at_.same fun k e hl => (hk.block k hl (h.rF k e).2).1, h.ul, h.ll, h.each, h.px0, hp.2, fun k e => ⟨Nat.lt_of_lt_of_le (h.rF k e).1 hk.size, (hk.block k (h.rF k e).1 (h.rF k e).2).2⟩, h.rp, h.cap⟩
/-- what lies apart from the ends is written -/
theorem Ways.off {I : Nat} {q : Nat → Nat} {t : Nat → LSt} (h : Ways w0 w I F q t) (hg : w.grownBy w' (some px)) (hp : ∀ i, ¬ F i px) (hp0 : w0.heap.size ≤ px) : Ways w0 w' I F q t :=
  ⟨h.bel.grown hg h.bel.size (fun k e => by injection e with e; subst e; exact hp0), fun i hi => (h.lk i hi).other (Chg.of_grown (F := fun k => k = px) hg rfl) (fun k hk e => hp i (e ▸ hk)), h.ok, fun i k hk => ⟨(h.ge i k hk).1, Nat.lt_of_lt_of_le (h.ge i k hk).2 hg.size⟩, h.dis⟩
/-- the document's end is stored anew -/
theorem LX.store (h : LX w0 w F p px s s2 Ar m cr us) (hg : w.grownBy W (some px)) (hx : Holds W px 46 (endX s2' Ar' m' cr')) (hat : At w Ar' us') (hul : us'.length = m') (hll : s2'.l.length = m')
    (heach : ∀ (i : Nat) (u : Value) (b : List Nat), us'[i]? = some u → s2'.l[i]? = some b → InB w0 u b) (hr : ∀ k, blk Ar' = some k → k < w.heap.size ∧ ∀ i, ¬ F i k) (hrp : blk Ar' ≠ some px) (hc : m' ≤ cr') : LX w0 W F p px s s2' Ar' m' cr' us' :=
  ⟨h.ways.off hg h.pF h.px0, hx, hat.grown hg (.inr hrp), hul, hll, heach, h.px0, h.pF, fun k e => ⟨Nat.lt_of_lt_of_le (hr k e).1 hg.size, (hr k e).2⟩, hrp, hc⟩
theorem each_snoc {us : List Value} {l : List (List Nat)} {A2 : Option Addr} {c2 : Nat} {d : List Nat} (hl : us.length = l.length) (h : ∀ (i : Nat) (u : Value) (b : List Nat), us[i]? = some u → l[i]? = some b → InB w0 u b) (hd : At w0 A2 (nats .u8 d)) (h9 : d.length ≤ 900) (hb : ∀ y ∈ d, y < 256) :
    ∀ (i : Nat) (u : Value) (b : List Nat), (us ++ [.slice A2 d.length c2])[i]? = some u → (l ++ [d])[i]? = some b → InB w0 u b := by
  intro i u b h1 h2
  by_cases hi : i < us.length
  · rw [List.getElem?_append_left hi] at h1
    rw [List.getElem?_append_left (by omega)] at h2
    exact h i u b h1 h2
  · rw [List.getElem?_append_right (by omega)] at h1
    rw [List.getElem?_append_right (by omega)] at h2
    rw [hl] at h1
    have h0 : i - l.length = 0 := by
      rcases Nat.eq_zero_or_pos (i - l.length) with h | h
      · exact h
      · rw [List.getElem?_eq_none (by simp; omega)] at h2; cases h2
    rw [h0] at h1 h2
    simp at h1 h2
    subst h1; subst h2
    exact ⟨A2, c2, rfl, hd, h9, hb⟩
end
end Go.Proofs.YtodimanghmepoaaDoor
