/- Layer 17: the sender's own functions. -/
import Derived.Test.YtbejknjlpnibaaaDoorApp
import Derived.Test.YtbejknjlpnibaaaDoorSend
import Derived.Deep.RegionHeldLaw
import Derived.BigRegion
namespace Go.Proofs.YtbejknjlpnibaaaDoor
open Go.RowKit

/-- a body that waits: a slice value, its bytes, in a block that no one else writes -/
def Bod (w : World) (base g : Nat) (A : Option Addr) (v : Value) (b : List Nat) : Prop :=
  ∃ A1 c1, v = .slice A1 b.length c1 ∧ b.length ≤ 8192 ∧ At w A1 (nats .u8 b) ∧ (A1 = none → b.length = 0) ∧ ∀ k, blk A1 = some k → base ≤ k ∧ k < w.heap.size ∧ k ≠ g ∧ blk A ≠ some k
/-- a sender's block -/
def sndOf (E S : Int) (A : Option Addr) (n c : Nat) (st lf : Int) : Array Value := #[.int .i64 E, .int .i64 S, .slice A n c, .int .i64 st, .int .i64 lf]
structure Snd (w : World) (g base : Nat) (xs : List (Value × List Nat)) (E S : Int) (A : Option Addr) (n c : Nat) (vs : List Value) (l : List (List Nat)) (st lf : Int) : Prop where
  blk_ : Holds w g 52 (sndOf E S A n c st lf)
  own : Own w base 24 1 A n c vs
  len : l.length = n
  bod : ∀ (i : Nat) (v : Value) (b : List Nat), vs[i]? = some v → l[i]? = some b → Bod w base g A v b
  far : blk A ≠ some g
  ge : base ≤ g
  ext : ∀ p ∈ xs, Bod w base g A p.1 p.2
/-- whether a sender waits so -/
def IsSnd (w : World) (g base : Nat) (xs : List (Value × List Nat)) (E S : Int) (l : List (List Nat)) (st lf : Int) : Prop := ∃ A n c vs, Snd w g base xs E S A n c vs l st lf
theorem Bod.grown {w w' : World} {base g : Nat} {A A' : Option Addr} {v : Value} {b : List Nat} {row : Option Nat} (h : Bod w base g A v b) (hg : w.grownBy w' row) (hr : row = some g ∨ row = blk A) (hA : ∀ k, blk A' = some k → blk A = some k ∨ w.heap.size ≤ k) : Bod w' base g A' v b := by
  obtain ⟨A1, c1, rfl, hl, hat, hn, hk⟩ := h
  refine ⟨A1, c1, rfl, hl, hat.grown hg ?_, hn, fun k e => ?_⟩
  · cases h1 : blk A1 with
    | none => exact .inl rfl
    | some k =>
      refine .inr ?_
      obtain ⟨_, _, h3, h4⟩ := hk k h1
      rcases hr with rfl | rfl
      · intro e; injection e with e; exact h3 e
      · exact fun e => h4 e.symm
  · obtain ⟨h1, h2, h3, h4⟩ := hk k e
    refine ⟨h1, Nat.lt_of_lt_of_le h2 hg.size, h3, fun e2 => ?_⟩
    rcases hA k e2 with h | h
    · exact h4 h
    · omega
theorem Bod.below {w w' : World} {B base g : Nat} {A : Option Addr} {v : Value} {b : List Nat} (h : Bod w base g A v b) (hb : Below B w w') (hB : w.heap.size ≤ B) : Bod w' base g A v b := by
  obtain ⟨A1, c1, rfl, hl, hat, hn, hk⟩ := h
  exact ⟨A1, c1, rfl, hl, hat.later hb hB, hn, fun k e => ⟨(hk k e).1, Nat.lt_of_lt_of_le (hk k e).2.1 hb.size, (hk k e).2.2⟩⟩
theorem Snd.vlen {w : World} {g base : Nat} {xs : List (Value × List Nat)} {E S : Int} {A : Option Addr} {n c : Nat} {vs : List Value} {l : List (List Nat)} {st lf : Int} (h : Snd w g base xs E S A n c vs l st lf) : vs.length = n := by have := h.own.len; simpa using this
/-- cells of the sender's block turned, the slice as it was -/
theorem Snd.turn {w w' : World} {g base : Nat} {xs : List (Value × List Nat)} {E S E' S' : Int} {A : Option Addr} {n c : Nat} {vs : List Value} {l : List (List Nat)} {st lf st' lf' : Int} (h : Snd w g base xs E S A n c vs l st lf)
    (hg : w.grownBy w' (some g)) (hb : Holds w' g 52 (sndOf E' S' A n c st' lf')) : Snd w' g base xs E' S' A n c vs l st' lf' where
  blk_ := hb
  own := h.own.kept hg (by cases e : blk A with
    | none => exact .inl rfl
    | some k => exact .inr (by intro e2; exact h.far (e.trans e2)))
  len := h.len
  bod := fun i v b h1 h2 => (h.bod i v b h1 h2).grown hg (.inl rfl) (fun k e => .inl e)
  ext := fun p hp => (h.ext p hp).grown hg (.inl rfl) (fun k e => .inl e)
  far := h.far
  ge := h.ge
theorem Snd.below {w w' : World} {B : Nat} {g base : Nat} {xs : List (Value × List Nat)} {E S : Int} {A : Option Addr} {n c : Nat} {vs : List Value} {l : List (List Nat)} {st lf : Int} (h : Snd w g base xs E S A n c vs l st lf) (hb : Below B w w') (hB : w.heap.size ≤ B) : Snd w' g base xs E S A n c vs l st lf where
  blk_ := h.blk_.later hb hB
  own := h.own.below hb hB
  len := h.len
  bod := fun i v b h1 h2 => (h.bod i v b h1 h2).below hb hB
  ext := fun p hp => (h.ext p hp).below hb hB
  far := h.far
  ge := h.ge
theorem Snd.of_drewN {w : World} {k : Nat} {g base : Nat} {xs : List (Value × List Nat)} {E S : Int} {A : Option Addr} {n c : Nat} {vs : List Value} {l : List (List Nat)} {st lf : Int} (h : Snd w g base xs E S A n c vs l st lf) : Snd (w.drewN k) g base xs E S A n c vs l st lf :=
  ⟨h.blk_, h.own, h.len, h.bod, h.far, h.ge, h.ext⟩
theorem Snd.less {w : World} {g base : Nat} {xs ys : List (Value × List Nat)} {E S : Int} {A : Option Addr} {n c : Nat} {vs : List Value} {l : List (List Nat)} {st lf : Int} (h : Snd w g base xs E S A n c vs l st lf) (hy : ∀ p ∈ ys, p ∈ xs) : Snd w g base ys E S A n c vs l st lf :=
  ⟨h.blk_, h.own, h.len, h.bod, h.far, h.ge, fun p hp => h.ext p (hy p hp)⟩
theorem Snd.clone {w : World} {g base : Nat} {xs : List (Value × List Nat)} {E S : Int} {A : Option Addr} {n c : Nat} {vs : List Value} {l : List (List Nat)} {st lf : Int} (h : Snd w g base xs E S A n c vs l st lf)
    {A1 : Option Addr} {c1 : Nat} {b : List Nat} (hb : b.length ≤ 8192) (hat : At w A1 (nats .u8 b)) (hn : A1 = none → b.length = 0) (hk : ∀ k, blk A1 = some k → base ≤ k ∧ k < w.heap.size ∧ k ≠ g ∧ blk A ≠ some k) : Snd w g base ((.slice A1 b.length c1, b) :: xs) E S A n c vs l st lf :=
  ⟨h.blk_, h.own, h.len, h.bod, h.far, h.ge, fun p hp => by
    rcases List.mem_cons.1 hp with rfl | hp
    · exact ⟨A1, c1, rfl, hb, hat, hn, hk⟩
    · exact h.ext p hp⟩
set_option maxRecDepth 100000 in
theorem new_any (E : Int) (w : World) (hE : 1 ≤ E ∧ E ≤ 1073741824) :
    Calls Tryd.prog 13 #[.int .i64 E] w fun e w' => e = .returned (.tuple #[.pointer (some ⟨w.heap.size, 0, none⟩), .nilIface]) ∧ w' = w.alloc (.cells (sndOf E 1 none 0 0 0 0) 52) := by
  have h1 : decide (E < 1) = false := by simp; omega
  have h2 : decide (1073741824 < E) = false := by simp; omega
  go_enter Tryd.func13, Tryd.ntmps13
  go_wp2
  exact bodyPost_ret (v := .tuple #[.pointer (some ⟨w.heap.size, 0, none⟩), .nilIface]) (by simp [results, Tryd.results13, go_sem]) rfl ⟨rfl, rfl⟩
theorem new_snd (E : Int) (w : World) (base : Nat) (hb : base ≤ w.heap.size) : Snd (w.alloc (.cells (sndOf E 1 none 0 0 0 0) 52)) w.heap.size base [] E 1 none 0 0 [] [] 0 0 where
  ext := by simp
  blk_ := Holds.new _ _ _ _ rfl
  own := Own.none_ _ _ _ _
  len := rfl
  bod := by intro i v b h; simp at h
  far := by simp [blk]
  ge := hb
section
variable {g base : Nat} {xs : List (Value × List Nat)} {E S : Int} {A : Option Addr} {n c : Nat} {vs : List Value} {l : List (List Nat)} {st lf : Int}
set_option maxRecDepth 100000 in
theorem waits_any (w : World) (h : Snd w g base xs E S A n c vs l st lf) :
    Calls Tryd.prog 12 #[.pointer (some ⟨g, 0, none⟩)] w fun e w' => e = .returned (.int .i64 n) ∧ w = w' := by
  have hc : w.cell? ⟨g, 2, none⟩ = some (.slice A n c) := h.blk_.cell 2
  clear h
  go_enter Tryd.func12, Tryd.ntmps12
  go_wp2
  go_ret
  exact ⟨rfl, rfl⟩
set_option maxRecDepth 100000 in
theorem epoch_any (w : World) (h : Snd w g base xs E S A n c vs l st lf) :
    Calls Tryd.prog 10 #[.pointer (some ⟨g, 0, none⟩)] w fun e w' => e = .returned (.int .i64 E) ∧ w = w' := by
  have hc : w.cell? ⟨g, 0, none⟩ = some (.int .i64 E) := h.blk_.cell 0
  clear h
  go_enter Tryd.func10, Tryd.ntmps10
  go_wp2
  go_ret
  exact ⟨rfl, rfl⟩
set_option maxRecDepth 100000 in
theorem tick_pos (w : World) (h : Snd w g base xs E S A n c vs l st lf) (h0 : 0 < lf) (h1 : lf ≤ 24) :
    Calls Tryd.prog 4 #[.pointer (some ⟨g, 0, none⟩)] w fun e w' => e = .returned (.tuple #[]) ∧ Snd w' g base xs E S A n c vs l st (lf - 1) ∧ w.grownBy w' (some g) := by
  have hc : w.cell? ⟨g, 4, none⟩ = some (.int .i64 lf) := h.blk_.cell 4
  have hf : w.frozen? ⟨g, 4, none⟩ = false := h.blk_.frozen 4
  have HS := Lib.hid h
  clear h
  go_enter Tryd.func4, Tryd.ntmps4
  go_wp2
  exact bodyPost_end (v := .tuple #[]) (by simp [results, Tryd.results4, go_sem]) rfl ⟨rfl, HS.out.turn (grown_set (grown_refl _ _) 4 _) (HS.out.blk_.set 4 _), grown_set (grown_refl _ _) 4 _⟩
set_option maxRecDepth 100000 in
theorem tick_zero (w : World) (h : Snd w g base xs E S A n c vs l st 0) :
    Calls Tryd.prog 4 #[.pointer (some ⟨g, 0, none⟩)] w fun e w' => e = .returned (.tuple #[]) ∧ w = w' := by
  have hc : w.cell? ⟨g, 4, none⟩ = some (.int .i64 0) := h.blk_.cell 4
  clear h
  go_enter Tryd.func4, Tryd.ntmps4
  go_wp2
  exact bodyPost_end (v := .tuple #[]) (by simp [results, Tryd.results4, go_sem]) rfl ⟨rfl, rfl⟩
end
end Go.Proofs.YtbejknjlpnibaaaDoor
