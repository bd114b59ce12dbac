/- Layer 19: an end of a way: what Out hands back, plain. -/
import Derived.Test.YtodimanghmepoaaDoorLkC
import Derived.Test.YtodimanghmepoaaDoorLfG
namespace Go.Proofs.YtodimanghmepoaaDoor
open Go.RowKit
theorem ownsRow_le_ {w : World} {B B' : Nat} {e : TypeId} {size : Nat} {A : Option Addr} {n c : Nat} {xs : List Value} (h : Own w B e size A n c xs) (hb : B' ≤ B) : Own w B' e size A n c xs := by
  refine ⟨h.1, ?_⟩
  rcases h.2 with h0 | ⟨g, cap, cur, h1, h2, h3⟩
  · exact .inl h0
  · exact .inr ⟨g, cap, cur, h1, Nat.le_trans hb h2, h3⟩
/-- what Encode hands back: the bytes, and no error -/
def EnT (B : Nat) (L : List Nat) (n : Nat) : Rel := fun v W => ∃ A c, v = .tuple #[.slice A n c, .nilIface] ∧ Own W B 5 1 A n c (nats .u8 L)
def EnS (B : Nat) (L : List Nat) (n : Nat) : Rel := fun v W => ∃ A c, v = .slice A n c ∧ Own W B 5 1 A n c (nats .u8 L)
theorem mono_ent (B : Nat) (l : List Nat) (n : Nat) : Mono (EnT B l n) := fun _ _ _ ⟨A, c, h1, h2⟩ hb => ⟨A, c, h1, h2.below hb (Nat.le_refl _)⟩
theorem mono_ens (B : Nat) (l : List Nat) (n : Nat) : Mono (EnS B l n) := fun _ _ _ ⟨A, c, h1, h2⟩ hb => ⟨A, c, h1, h2.below hb (Nat.le_refl _)⟩
/-- two own pieces of different kinds lie apart -/
theorem Own.apart {w : World} {B B' : Nat} {e e' : TypeId} {A A' : Option Addr} {n c n' c' : Nat} {xs xs' : List Value} (h : Own w B e 1 A n c xs) (h' : Own w B' e' 1 A' n' c' xs') (hne : e ≠ e') {k : Nat} (h1 : blk A = some k) (h2 : blk A' = some k) : False := by
  rcases h.2 with ⟨g1, _⟩ | ⟨g, cap, cur, g1, _, g3, _⟩
  · injection g1 with g1; subst g1; cases h1
  rcases h'.2 with ⟨f1, _⟩ | ⟨f, cap', cur', f1, _, f3, _⟩
  · injection f1 with f1; subst f1; cases h2
  injection g1 with g1; subst g1
  injection f1 with f1; subst f1
  injection h1 with h1
  injection h2 with h2
  simp only at h1 h2
  subst h1; subst h2
  rw [g3] at f3
  injection f3 with f3
  injection f3 with _ f3
  exact hne f3
/-- a datagram -/
def Dg (w : World) (B : Nat) (v : Value) (b : List Nat) : Prop := ∃ A c, v = .slice A b.length c ∧ Own w B 5 1 A b.length c (nats .u8 b)
/-- datagrams, apart from X -/
def OutD (w w' : World) (A : Option Addr) (n c : Nat) (vs : List Value) (L : List (List Nat)) (X : Nat → Prop) : Prop :=
  Own w' w.heap.size 22 1 A n c vs ∧ L.length = n ∧ (∀ (i : Nat) (v : Value) (b : List Nat), vs[i]? = some v → L[i]? = some b → Dg w' w.heap.size v b) ∧ (∀ k, blk A = some k → ¬ X k) ∧ ∀ v ∈ vs, ∀ A1 n1 c1, v = .slice A1 n1 c1 → ∀ k, blk A1 = some k → ¬ X k
section
variable {w w1 w2 : World} {A : Option Addr} {n c : Nat} {vs : List Value} {L : List (List Nat)} {X X' : Nat → Prop}
theorem OutD.nil (w w' : World) (X : Nat → Prop) : OutD w w' none 0 0 [] [] X := ⟨Own.none_ _ _ _ _, rfl, by simp, (by intro k h; cases h), by simp⟩
theorem OutD.vlen (h : OutD w w1 A n c vs L X) : vs.length = L.length := by have := h.1.len; have := h.2.1; omega
theorem OutD.dg (h : OutD w w1 A n c vs L X) {v : Value} (hv : v ∈ vs) : ∃ b, Dg w1 w.heap.size v b := by
  obtain ⟨i, hi, rfl⟩ := List.mem_iff_getElem.1 hv
  have hl : i < L.length := by have := h.vlen; omega
  exact ⟨L[i], h.2.2.1 i _ _ (List.getElem?_eq_getElem hi) (List.getElem?_eq_getElem hl)⟩
theorem OutD.turn (h : OutD w w1 A n c vs L X) {G : Nat → Prop} (hc : Chg G w1 w2) (hG : ∀ k, G k → k < w.heap.size) (hX : ∀ k, X' k → X k ∨ w1.heap.size ≤ k) : OutD w w2 A n c vs L X' := by
  refine ⟨h.1.same fun k e hl => hc.block k hl (fun hg => by have := (h.1.lt k e).1; have := hG k hg; omega), h.2.1, fun i v b h1 h2 => ?_, fun k e hx => ?_, fun v hv A1 n1 c1 e1 k e hx => ?_⟩
  · obtain ⟨A1, c1, rfl, ho⟩ := h.2.2.1 i v b h1 h2
    exact ⟨A1, c1, rfl, ho.same fun k e hl => hc.block k hl (fun hg => by have := (ho.lt k e).1; have := hG k hg; omega)⟩
  · rcases hX k hx with h1 | h1
    · exact h.2.2.2.1 k e h1
    · have := (h.1.lt k e).2; omega
  · rcases hX k hx with h1 | h1
    · exact h.2.2.2.2 v hv A1 n1 c1 e1 k e h1
    · obtain ⟨b, A2, c2, e2, ho⟩ := h.dg hv
      rw [e1] at e2
      injection e2 with e2; subst e2
      have := (ho.lt k e).2; omega
theorem OutD.later (h : OutD w w1 A n c vs L X) (hb : Below w1.heap.size w1 w2) : OutD w w2 A n c vs L X := h.turn (G := fun _ => False) (Chg.of_below hb) (fun _ h => h.elim) (fun _ h => .inl h)
theorem OutD.push (h : OutD w w1 A n c vs L X) {A1 : Option Addr} {m c1 : Nat} {b : List Nat} (hm : m = b.length) (hd : Own w1 w.heap.size 5 1 A1 m c1 (nats .u8 b)) (hx1 : ∀ k, blk A1 = some k → ¬ X k) (hX : ∀ k, X k → k < w1.heap.size)
    {A' : Option Addr} {c' : Nat} (ho : Own w2 w.heap.size 22 1 A' (n + 1) c' (vs ++ [.slice A1 m c1])) (hg : w1.grownBy w2 (blk A)) (hA : blk A' = blk A ∨ blk A' = some w1.heap.size) :
    OutD w w2 A' (n + 1) c' (vs ++ [.slice A1 m c1]) (L ++ [b]) X := by
  subst hm
  have keep : ∀ {A3 : Option Addr} {n3 c3 : Nat} {l : List Value}, Own w1 w.heap.size 5 1 A3 n3 c3 l → Own w2 w.heap.size 5 1 A3 n3 c3 l := fun {A3 n3 c3 l} h3 => h3.kept hg (by
    cases h4 : blk A3 with
    | none => exact .inl rfl
    | some k => exact .inr (fun e => Own.apart h3 h.1 (by decide) h4 e.symm))
  refine ⟨ho, by rw [List.length_append, h.2.1]; rfl, fun i v d h1 h2 => ?_, fun k e hx => ?_, fun v hv A3 n3 c3 e1 k e hx => ?_⟩
  · have hvl := h.vlen
    rcases Nat.lt_or_ge i vs.length with hi | hi
    · rw [List.getElem?_append_left hi] at h1
      rw [List.getElem?_append_left (by omega)] at h2
      obtain ⟨A3, c3, rfl, h3⟩ := h.2.2.1 i v d h1 h2
      exact ⟨A3, c3, rfl, keep h3⟩
    · rw [List.getElem?_append_right hi] at h1
      rw [List.getElem?_append_right (by omega)] at h2
      have hi0 : i - vs.length = 0 := by
        rcases Nat.eq_zero_or_pos (i - vs.length) with h | h
        · exact h
        · rw [List.getElem?_eq_none (by simp; omega)] at h1; cases h1
      rw [hi0] at h1
      rw [show i - L.length = 0 by omega] at h2
      injection h1 with h1; injection h2 with h2
      subst h1; subst h2
      exact ⟨A1, c1, rfl, keep hd⟩
  · rcases hA with h1 | h1
    · exact h.2.2.2.1 k (h1 ▸ e) hx
    · rw [h1] at e; injection e with e; have := hX k hx; omega
  · rcases List.mem_append.1 hv with h1 | h1
    · exact h.2.2.2.2 v h1 A3 n3 c3 e1 k e hx
    · rw [List.mem_singleton.1 h1] at e1
      injection e1 with e1; subst e1
      exact hx1 k e hx
end
/-- an end behind its sender's act, with where it lies -/
theorem Lk.snd_lk {F : Nat → Prop} {p sp rp base : Nat} {A : Option Addr} {n c : Nat} {vs : List Value} {s : LSt} {w w' : World} (h : Lk w p sp rp base A n c vs s) (hF : ∀ k, FLk p sp rp A vs k → F k) {S' : Int} {l' : List (List Nat)} {st' lf' : Int} (hk : KSnd w w' sp base A vs s.E S' l' st' lf') :
    ∃ A' n' c' vs', Lk w' p sp rp base A' n' c' vs' { s with S := S', l := l', st := st', lf := lf' } ∧ Chg F w w' ∧ ∀ k, FLk p sp rp A' vs' k → F k ∨ w.heap.size ≤ k := by
  obtain ⟨hc, F', ⟨sp2, rp2, base2, A2, n2, c2, vs2, h2, hF2, hl2⟩, hN⟩ := h.snd_turn hF hk
  obtain ⟨A', n', c', vs', hs, kept, hA, hv⟩ := hk
  have hp := h.far sp (.inl rfl)
  have hAp : blk A ≠ some p := fun e => (h.far p (.inr (.inl e))).1 rfl
  have hArp : blk A ≠ some rp := fun e => (h.far rp (.inr (.inl e))).2 rfl
  have hn : ∀ k, Fsnd sp A' vs' k → Fsnd sp A vs k ∨ w.heap.size ≤ k := by
    intro k hk
    rcases hk with rfl | hk | ⟨v, hm, A1, n1, c1, rfl, hk⟩
    · exact .inl (.inl rfl)
    · rcases hA k hk with h1 | h1
      · exact .inl (.inr (.inl h1))
      · exact .inr h1
    · rcases hv _ hm with h1 | ⟨A2, n2, c2, e, h1⟩
      · exact .inl (.inr (.inr ⟨_, h1, A1, n1, c1, rfl, hk⟩))
      · injection e with e1; subst e1; exact .inr (h1 k hk)
  refine ⟨A', n', c', vs', ⟨h.hd.kept kept (fun e => hp.1 e.symm) hAp, hs, h.rcv.kept kept (fun e => hp.2 e.symm) hArp, h.pr, fun k hk => ?_, Nat.le_trans h.base kept.size⟩, hc, fun k hk => ?_⟩
  · rcases hn k hk with h1 | h1
    · exact h.far k h1
    · have h2 := h.hd.lt; have h3 := h.rcv.lt; omega
  · rcases hk with rfl | rfl | hk
    · exact .inl (hF _ (.inl rfl))
    · exact .inl (hF _ (.inr (.inl rfl)))
    · rcases hn k hk with h1 | h1
      · exact .inl (hF k (.inr (.inr h1)))
      · exact .inr h1
/-- the word is given -/
theorem Lk.given {p sp rp base : Nat} {A : Option Addr} {n c : Nat} {vs : List Value} {s : LSt} {w : World} (h : Lk w p sp rp base A n c vs s) :
    Lk (w.setCell ⟨p, 4, none⟩ (.bool false)) p sp rp base A n c vs { s with gv := false } ∧ w.grownBy (w.setCell ⟨p, 4, none⟩ (.bool false)) (some p) := by
  have g := grown_set (grown_refl w (some p)) 4 (.bool false)
  have hb : ∀ k, k < w.heap.size → k ≠ p → (w.setCell ⟨p, 4, none⟩ (.bool false)).heap[k]? = w.heap[k]? := fun k hk hn => g.block k hk (fun e => by injection e with e; exact hn e)
  exact ⟨⟨h.hd.set 4 (.bool false), h.snd.same g.size (fun k hl hf => hb k hl (h.far k hf).1), h.rcv.same (hb rp h.rcv.lt (fun e => h.pr e.symm)), h.pr, h.far, Nat.le_trans h.base g.size⟩, g⟩
end Go.Proofs.YtodimanghmepoaaDoor
