/- Layer 19: an end of a way: where it lies, and that it stands while others are turned. -/
import Derived.Test.YtodimanghmepoaaDoorLsC
import Derived.Test.YtodimanghmepoaaDoorLrA
namespace Go.Proofs.YtodimanghmepoaaDoor
open Go.RowKit
/-- only blocks of F are turned -/
structure Chg (F : Nat → Prop) (w w' : World) : Prop where
  os : w'.os = w.os
  tape : w'.tape = w.tape
  output : w'.output = w.output
  size : w.heap.size ≤ w'.heap.size
  block : ∀ k, k < w.heap.size → ¬ F k → w'.heap[k]? = w.heap[k]?
theorem Chg.of_below {F : Nat → Prop} {w w' : World} (h : Below w.heap.size w w') : Chg F w w' := ⟨h.os, h.tape, h.output, h.size, fun k hk _ => h.block k hk⟩
theorem Chg.of_kept {F : Nat → Prop} {w w' : World} {g : Nat} {A : Option Addr} (h : Kept w w' g A) (h1 : F g) (h2 : ∀ k, blk A = some k → F k) : Chg F w w' :=
  ⟨h.os, h.tape, h.output, h.size, fun k hk hn => h.block k hk (fun e => hn (e ▸ h1)) (fun e => hn (h2 k e))⟩
theorem Chg.of_grown {F : Nat → Prop} {w w' : World} {g : Nat} (h : w.grownBy w' (some g)) (h1 : F g) : Chg F w w' :=
  ⟨h.os, h.tape, h.output, h.size, fun k hk hn => h.block k hk (fun e => hn (by injection e with e; exact e ▸ h1))⟩
theorem Chg.trans {F G : Nat → Prop} {a b c : World} (h : Chg F a b) (k : Chg G b c) (hG : ∀ i, G i → F i ∨ a.heap.size ≤ i) : Chg F a c :=
  ⟨k.os.trans h.os, k.tape.trans h.tape, k.output.trans h.output, Nat.le_trans h.size k.size, fun i hi hn => (k.block i (Nat.lt_of_lt_of_le hi h.size) (fun hg => by
    rcases hG i hg with h1 | h1
    · exact hn h1
    · omega)).trans (h.block i hi hn)⟩
theorem Chg.below {F : Nat → Prop} {w w' : World} {B : Nat} (h : Chg F w w') (hF : ∀ k, F k → B ≤ k) (hB : B ≤ w.heap.size) : Below B w w' :=
  ⟨h.os, h.tape, h.output, h.size, fun k hk => h.block k (by omega) (fun hf => by have := hF k hf; omega)⟩
theorem At.same {w w' : World} {A : Option Addr} {xs : List Value} (h : At w A xs) (hk : ∀ k, blk A = some k → k < w.heap.size → w'.heap[k]? = w.heap[k]?) : At w' A xs := by
  intro i x hx
  obtain ⟨b, o, e, hc⟩ := h i x hx
  have hl : b < w.heap.size := by
    rcases Nat.lt_or_ge b w.heap.size with h1 | h1
    · exact h1
    · simp [World.cell?, Array.getElem?_eq_none h1] at hc
  exact ⟨b, o, e, (World.cell?_of_block (a := ⟨b, o + i, none⟩) (hk b (by rw [e]; rfl) hl)).trans hc⟩
theorem Own.same {w w' : World} {B : Nat} {e : TypeId} {A : Option Addr} {n c : Nat} {xs : List Value} (h : Own w B e 1 A n c xs) (hk : ∀ k, blk A = some k → k < w.heap.size → w'.heap[k]? = w.heap[k]?) : Own w' B e 1 A n c xs := by
  refine ⟨h.1, ?_⟩
  rcases h.2 with h0 | ⟨g', cap, cur, hv, hb, hh, hr⟩
  · exact .inl h0
  · refine .inr ⟨g', cap, cur, hv, hb, ?_, hr⟩
    injection hv with hv
    have hl : g' < w.heap.size := by
      rcases Nat.lt_or_ge g' w.heap.size with h1 | h1
      · exact h1
      · rw [Array.getElem?_eq_none h1] at hh; cases hh
    rw [hk g' (by rw [hv]; rfl) hl]
    exact hh
theorem Holds.same {w w' : World} {g : Nat} {t : TypeId} {cs : Array Value} (h : Holds w g t cs) (hk : w'.heap[g]? = w.heap[g]?) : Holds w' g t cs := hk.trans h
/-- where a sender lies -/
def Fsnd (g : Nat) (A : Option Addr) (vs : List Value) (k : Nat) : Prop := k = g ∨ blk A = some k ∨ ∃ v ∈ vs, ∃ A1 n c, v = .slice A1 n c ∧ blk A1 = some k
section
variable {w w' : World} {g base : Nat} {E S : Int} {A : Option Addr} {n c : Nat} {vs : List Value} {l : List (List Nat)} {st lf : Int}
theorem Snd.body (h : Snd w g base [] E S A n c vs l st lf) {v : Value} (hv : v ∈ vs) : ∃ b, Bod w base g A v b := by
  obtain ⟨i, hi, rfl⟩ := List.mem_iff_getElem.1 hv
  have hl : i < l.length := by have := h.vlen; have := h.len; omega
  exact ⟨l[i], h.bod i _ _ (List.getElem?_eq_getElem hi) (List.getElem?_eq_getElem hl)⟩
theorem Snd.foot (h : Snd w g base [] E S A n c vs l st lf) {k : Nat} (hk : Fsnd g A vs k) : k < w.heap.size := by
  rcases hk with rfl | hk | ⟨v, hv, A1, n1, c1, rfl, hk⟩
  · exact h.blk_.lt
  · exact (h.own.lt k hk).2
  · obtain ⟨b, A2, c2, e, _, _, _, h5⟩ := h.body hv
    injection e with e
    subst e
    exact (h5 k hk).2.1
theorem Snd.same (h : Snd w g base [] E S A n c vs l st lf) (hs : w.heap.size ≤ w'.heap.size) (hk : ∀ k, k < w.heap.size → Fsnd g A vs k → w'.heap[k]? = w.heap[k]?) : Snd w' g base [] E S A n c vs l st lf where
  blk_ := h.blk_.same (hk g h.blk_.lt (.inl rfl))
  own := h.own.same fun k e hl => hk k hl (.inr (.inl e))
  len := h.len
  bod := fun i v b h1 h2 => by
    obtain ⟨A1, c1, rfl, h3, h4, h5, h6⟩ := h.bod i v b h1 h2
    exact ⟨A1, c1, rfl, h3, h4.same fun k e hl => hk k hl (.inr (.inr ⟨_, List.mem_of_getElem? h1, A1, _, c1, rfl, e⟩)), h5, fun k e => ⟨(h6 k e).1, Nat.lt_of_lt_of_le (h6 k e).2.1 hs, (h6 k e).2.2⟩⟩
  far := h.far
  ge := h.ge
  ext := fun p hp => by cases hp
end
/-- what an end is: who, its sender (epoch, number, what waits, step, ticks left), its receiver, the word it has to give -/
structure LSt where
  me : Int
  ot : Int
  E : Int
  S : Int
  l : List (List Nat)
  st : Int
  lf : Int
  RE : Int
  RL : Int
  gv : Bool
  ep : Int
  sq : Int
def lkOf (me ot : Int) (sp rp : Nat) (gv : Bool) (ep sq : Int) : Array Value := #[.int .i64 me, .int .i64 ot, .pointer (some ⟨sp, 0, none⟩), .pointer (some ⟨rp, 0, none⟩), .bool gv, .int .i64 ep, .int .i64 sq]
structure Lk (w : World) (p sp rp base : Nat) (A : Option Addr) (n c : Nat) (vs : List Value) (s : LSt) : Prop where
  hd : Holds w p 77 (lkOf s.me s.ot sp rp s.gv s.ep s.sq)
  snd : Snd w sp base [] s.E s.S A n c vs s.l s.st s.lf
  rcv : Holds w rp 113 (recvOf s.RE s.RL)
  pr : p ≠ rp
  far : ∀ k, Fsnd sp A vs k → k ≠ p ∧ k ≠ rp
  base : base ≤ w.heap.size
/-- where an end lies -/
def FLk (p sp rp : Nat) (A : Option Addr) (vs : List Value) (k : Nat) : Prop := k = p ∨ k = rp ∨ Fsnd sp A vs k
theorem Lk.foot {w : World} {p sp rp base : Nat} {A : Option Addr} {n c : Nat} {vs : List Value} {s : LSt} (h : Lk w p sp rp base A n c vs s) {k : Nat} (hk : FLk p sp rp A vs k) : k < w.heap.size := by
  rcases hk with rfl | rfl | hk
  · exact h.hd.lt
  · exact h.rcv.lt
  · exact h.snd.foot hk
theorem Lk.same {w w' : World} {p sp rp base : Nat} {A : Option Addr} {n c : Nat} {vs : List Value} {s : LSt} (h : Lk w p sp rp base A n c vs s) (hs : w.heap.size ≤ w'.heap.size) (hk : ∀ k, k < w.heap.size → FLk p sp rp A vs k → w'.heap[k]? = w.heap[k]?) : Lk w' p sp rp base A n c vs s where
  hd := h.hd.same (hk p h.hd.lt (.inl rfl))
  snd := h.snd.same hs fun k hl hf => hk k hl (.inr (.inr hf))
  rcv := h.rcv.same (hk rp h.rcv.lt (.inr (.inl rfl)))
  pr := h.pr
  far := h.far
  base := Nat.le_trans h.base hs
/-- an end, with all the blocks in which it lies -/
def LkS (w : World) (F : Nat → Prop) (p : Nat) (s : LSt) : Prop := ∃ sp rp base A n c vs, Lk w p sp rp base A n c vs s ∧ (∀ k, FLk p sp rp A vs k → F k) ∧ ∀ k, F k → k < w.heap.size
theorem LkS.other {w w' : World} {F G : Nat → Prop} {p : Nat} {s : LSt} (h : LkS w F p s) (hc : Chg G w w') (hd : ∀ k, F k → ¬ G k) : LkS w' F p s := by
  obtain ⟨sp, rp, base, A, n, c, vs, h1, h2, h3⟩ := h
  exact ⟨sp, rp, base, A, n, c, vs, h1.same hc.size fun k hl hf => hc.block k hl (hd k (h2 k hf)), h2, fun k hk => Nat.lt_of_lt_of_le (h3 k hk) hc.size⟩
theorem LkS.later {w w' : World} {F : Nat → Prop} {p : Nat} {s : LSt} (h : LkS w F p s) (hb : Below w.heap.size w w') : LkS w' F p s := h.other (G := fun _ => False) (Chg.of_below hb) (fun _ _ h => h)
end Go.Proofs.YtodimanghmepoaaDoor
