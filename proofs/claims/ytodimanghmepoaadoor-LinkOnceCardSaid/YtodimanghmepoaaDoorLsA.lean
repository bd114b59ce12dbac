/- Layer 17: the sender: its state, and the library's Clone. The library's slices.Delete(s, 0, 1), of a slice of the call's own. Layer 17: the sender's own functions. -/
import Derived.Test.YtodimanghmepoaaDoorProg
import Derived.Test.YtodimanghmepoaaDoorHolds
import Derived.Deep.QuietTactic
import Derived.BigQuiet
import Derived.Outline
import Derived.RegionTactic
import Derived.WalkSpells
import Derived.Deep.RegionHeld3
import Derived.Test.YtodimanghmepoaaDoorApp
import Derived.Deep.RegionHeldLaw
import Derived.BigRegion
namespace Go.Proofs.YtodimanghmepoaaDoor
open Go.RowKit

set_option maxRecDepth 100000 in
theorem selt_u8 : Elt Tryd.prog 22 5 (.int .u8 0) 1 1 where
  ht := by kernel_rfl
  hi := ⟨_, rfl, by kernel_rfl, by kernel_rfl, by kernel_rfl⟩
  hzs := rfl
  hsz := by decide
set_option maxRecDepth 100000 in
theorem elt_sl : Elt Tryd.prog 31 22 (.slice none 0 0) 1 24 where
  ht := by kernel_rfl
  hi := ⟨_, rfl, by kernel_rfl, by kernel_rfl, by kernel_rfl⟩
  hzs := rfl
  hsz := by decide
/-- what a Clone hands back -/
def SClo (w : World) (n : Nat) (l : List Nat) (e : Ending) (w' : World) : Prop :=
  ∃ A' c', e = .returned (.slice A' n c') ∧ At w' A' (nats .u8 l) ∧ (A' = none → n = 0) ∧ (∀ k, blk A' = some k → w.heap.size ≤ k ∧ k < w'.heap.size) ∧ Below w.heap.size w w'
set_option maxRecDepth 100000 in
set_option maxHeartbeats 1000000 in
theorem sclone_any (A : Option Addr) (n c : Nat) (l : List Nat) (w : World) (hl : l.length = n) (hm : n ≤ 9000) (hr : At w A (nats .u8 l)) (hz : A = none → n = 0) :
    Calls Tryd.prog 40 #[.slice A n c] w (SClo w n l) := by
  have HL := Lib.hid hl; clear hl
  cases A with
  | none =>
    have h0 := hz rfl
    clear hz
    subst h0
    have : l = [] := List.eq_nil_of_length_eq_zero HL.out
    subst this
    clear HL hr
    go_enter Tryd.func40, Tryd.ntmps40
    have hnil := Lib.run_eql_slice_nil (P := Tryd.prog) (t := 22) (e := 5)
    go_wp2_with fail
    go_ret
    exact ⟨none, 0, rfl, At.nil _ _, fun _ => rfl, by simp [blk], Below.refl _ _⟩
  | some a =>
    clear hz
    go_enter Tryd.func40, Tryd.ntmps40
    have hnil := Lib.run_eql_slice_nil (P := Tryd.prog) (t := 22) (e := 5)
    have B0 : Below w.heap.size w (w.alloc (.cells #[] 5)) := (Below.refl _ _).alloc (Nat.le_refl _) _
    have hr' := Lib.hid (fun (W : World) (hW : Below w.heap.size w W) => hr.later hW (Nat.le_refl _))
    clear hr
    go_wp2_with (at_builtin; go_loud (refine wpList_app rfl selt_u8 w.heap.size (.tmp 5) (.tmp 6) rfl [] rfl (Own.lit #[] 0 (Nat.le_refl _) (by unfold maxLen; omega) rfl) (nats .u8 l) rfl (hr'.out _ B0) (by rw [nats_length, Nat.mul_one]; exact HL.out) (nats_one _ _) (by unfold maxLen; omega) (by omega) (by simp) ?_); intro A' c' w1 own1 g1 _; have B1 := B0.grown g1 (by simp) (by simp [blk]); simp only [Nat.zero_add, List.nil_append] at own1)
    go_ret
    exact ⟨A', c', rfl, own1.at_, by rintro rfl; rcases own1.lies with ⟨_, h, _⟩ | ⟨g, h, _⟩ <;> simp_all, own1.lt, B1⟩
end Go.Proofs.YtodimanghmepoaaDoor
namespace Go.Proofs.YtodimanghmepoaaDoor
open Go.RowKit

theorem zero_sl (w : World) : (zeroValue 22).run Tryd.prog w = .ok (.slice none 0 0) w := by
  go_simp
theorem run_clear1 (w : World) (g n c : Nat) (h : (w.cell? ⟨g, n, none⟩).isSome = true ∧ w.frozen? ⟨g, n, none⟩ = false) :
    (Builtin.clear_ #[31] 0 #[.slice (some ⟨g, n, none⟩) 1 c]).run Tryd.prog w = .ok (.tuple #[]) (w.setCell ⟨g, n, none⟩ (.slice none 0 0)) :=
  Lib.run_clear_slice (P := Tryd.prog) w 31 22 0 (.slice none 0 0) (by kernel_rfl) zero_sl rfl rfl g n 1 c (by omega)
    (fun j hj => by obtain rfl : j = 0 := by omega
                    exact h.1) (fun j hj => by obtain rfl : j = 0 := by omega
                                               exact h.2)
/-- what Delete hands back -/
def Del (w : World) (base g n c : Nat) (vs : List Value) (e : Ending) (w' : World) : Prop :=
  e = .returned (.slice (some ⟨g, 0, none⟩) n c) ∧ Own w' base 22 1 (some ⟨g, 0, none⟩) n c vs ∧ w.grownBy w' (some g)
set_option maxRecDepth 100000 in
set_option maxHeartbeats 1000000 in
theorem delete_any (base g n c : Nat) (v : Value) (vs : List Value) (w : World) (ho : Own w base 22 1 (some ⟨g, 0, none⟩) (n + 1) c (v :: vs)) (hone : ∀ u ∈ vs, u.oneCell' = true) (hc : c ≤ 9223372036854775807) :
    Calls Tryd.prog 51 #[.slice (some ⟨g, 0, none⟩) (n + 1) c, .int .i64 0, .int .i64 1] w (Del w base g n c vs) := by
  have hn := ho.cap.1
  have hlen : vs.length = n := by have := ho.len; simpa using this
  have HL := Lib.hid hlen
  have own0 := Lib.hid ho.zero
  have news := Lib.hid (show At w (some ⟨g, 1, none⟩) vs from by
    have := (ho.at_).cut (m := 1)
    simpa using this)
  clear hlen ho
  go_enter Tryd.func51, Tryd.ntmps51
  go_wp2_with fail
  have hi1 : (1 : Int) ≤ (n : Int) + 1 := by omega
  by_cases hc1 : c = 1
  · obtain rfl : n = 0 := by omega
    subst hc1
    have h0 : vs = [] := List.eq_nil_of_length_eq_zero HL.out
    subst h0
    go_region_law (refine step_fits' rfl elt_sl base (.tmp 22) (.tmp 25) rfl [] rfl own0.out.drew [] rfl (At.nil _ _) (by rw [Nat.mul_one]; exact HL.out) hone (by omega) ?_; intro w1 own1 g1; simp only [Nat.zero_add, List.nil_append] at own1)
    have hs1 := own1.spare 0 (by omega)
    have hclr := run_clear1 w1 g 0 1 hs1
    go_wp2_with fail
    go_ret
    exact ⟨rfl, own1.set_past 0 (Nat.le_refl _) _, grown_set (grown_trans (grown_drew (grown_refl _ _)) g1) _ _⟩
  · have hc1' : decide (c = 1) = false := by simpa using hc1
    go_region_law (refine step_fits' (ad := ⟨g, 1, none⟩) (m := n) (c2 := c - 1) rfl elt_sl base (.tmp 22) (.tmp 25) rfl [] rfl own0.out.drew vs (by simp [Act.eval, Act.put, hc1]) news.out (by rw [Nat.mul_one]; exact HL.out) hone (by omega) ?_; intro w1 own1 g1; simp only [Nat.zero_add, List.nil_append] at own1)
    have hs1 := own1.spare n (by omega)
    have hcn : ¬ c = n := by omega
    have hin : (n : Int) ≤ (n : Int) + 1 := by omega
    have hclr := run_clear1 w1 g n (c - n) hs1
    go_wp2_with fail
    go_ret
    exact ⟨rfl, own1.set_past n (Nat.le_refl _) _, grown_set (grown_trans (grown_drew (grown_refl _ _)) g1) _ _⟩
end Go.Proofs.YtodimanghmepoaaDoor
namespace Go.Proofs.YtodimanghmepoaaDoor
open Go.RowKit

/-- a body that waits: a slice value, its bytes, in a block that no one else writes -/
def Bod (w : World) (base g : Nat) (A : Option Addr) (v : Value) (b : List Nat) : Prop :=
  ∃ A1 c1, v = .slice A1 b.length c1 ∧ b.length ≤ 8192 ∧ At w A1 (nats .u8 b) ∧ (A1 = none → b.length = 0) ∧ ∀ k, blk A1 = some k → base ≤ k ∧ k < w.heap.size ∧ k ≠ g ∧ blk A ≠ some k
/-- a sender's block -/
def sndOf (E S : Int) (A : Option Addr) (n c : Nat) (st lf : Int) : Array Value := #[.int .i64 E, .int .i64 S, .slice A n c, .int .i64 st, .int .i64 lf]
structure Snd (w : World) (g base : Nat) (xs : List (Value × List Nat)) (E S : Int) (A : Option Addr) (n c : Nat) (vs : List Value) (l : List (List Nat)) (st lf : Int) : Prop where
  blk_ : Holds w g 111 (sndOf E S A n c st lf)
  own : Own w base 22 1 A n c vs
  len : l.length = n
  bod : ∀ (i : Nat) (v : Value) (b : List Nat), vs[i]? = some v → l[i]? = some b → Bod w base g A v b
  far : blk A ≠ some g
  ge : base ≤ g
  ext : ∀ p ∈ xs, Bod w base g A p.1 p.2
/-- whether a sender waits so -/
def IsSnd (w : World) (g base : Nat) (xs : List (Value × List Nat)) (E S : Int) (l : List (List Nat)) (st lf : Int) : Prop := ∃ A n c vs, Snd w g base xs E S A n c vs l st lf
theorem Bod.grown {w w' : World} {base g : Nat} {A A' : Option Addr} {v : Value} {b : List Nat} {row : Option Nat} (h : Bod w base g A v b) (hg : w.grownBy w' row) (hr : row = some g ∨ row = blk A) (hA : ∀ k, blk A' = some k → blk A = some k ∨ w.heap.size ≤ k) : Bod w' base g A' v b := by
  obtain ⟨A1, c1, rfl, hl, hat, hn, hk⟩ := h
  refine ⟨A1, c1, rfl, hl, hat.grown hg ?_, hn, fun k e => ?_⟩
  · cases h1 : blk A1 with
    | none => exact .inl rfl
    | some k =>
      refine .inr ?_
      obtain ⟨_, _, h3, h4⟩ := hk k h1
      rcases hr with rfl | rfl
      · intro e; injection e with e; exact h3 e
      · exact fun e => h4 e.symm
  · obtain ⟨h1, h2, h3, h4⟩ := hk k e
    refine ⟨h1, Nat.lt_of_lt_of_le h2 hg.size, h3, fun e2 => ?_⟩
    rcases hA k e2 with h | h
    · exact h4 h
    · omega
theorem Bod.below {w w' : World} {B base g : Nat} {A : Option Addr} {v : Value} {b : List Nat} (h : Bod w base g A v b) (hb : Below B w w') (hB : w.heap.size ≤ B) : Bod w' base g A v b := by
  obtain ⟨A1, c1, rfl, hl, hat, hn, hk⟩ := h
  exact ⟨A1, c1, rfl, hl, hat.later hb hB, hn, fun k e => ⟨(hk k e).1, Nat.lt_of_lt_of_le (hk k e).2.1 hb.size, (hk k e).2.2⟩⟩
theorem Snd.vlen {w : World} {g base : Nat} {xs : List (Value × List Nat)} {E S : Int} {A : Option Addr} {n c : Nat} {vs : List Value} {l : List (List Nat)} {st lf : Int} (h : Snd w g base xs E S A n c vs l st lf) : vs.length = n := by have := h.own.len; simpa using this
/-- cells of the sender's block turned, the slice as it was -/
theorem Snd.turn {w w' : World} {g base : Nat} {xs : List (Value × List Nat)} {E S E' S' : Int} {A : Option Addr} {n c : Nat} {vs : List Value} {l : List (List Nat)} {st lf st' lf' : Int} (h : Snd w g base xs E S A n c vs l st lf)
    (hg : w.grownBy w' (some g)) (hb : Holds w' g 111 (sndOf E' S' A n c st' lf')) : Snd w' g base xs E' S' A n c vs l st' lf' where
  blk_ := hb
  own := h.own.kept hg (by cases e : blk A with
    | none => exact .inl rfl
    | some k => exact .inr (by intro e2; exact h.far (e.trans e2)))
  len := h.len
  bod := fun i v b h1 h2 => (h.bod i v b h1 h2).grown hg (.inl rfl) (fun k e => .inl e)
  ext := fun p hp => (h.ext p hp).grown hg (.inl rfl) (fun k e => .inl e)
  far := h.far
  ge := h.ge
theorem Snd.below {w w' : World} {B : Nat} {g base : Nat} {xs : List (Value × List Nat)} {E S : Int} {A : Option Addr} {n c : Nat} {vs : List Value} {l : List (List Nat)} {st lf : Int} (h : Snd w g base xs E S A n c vs l st lf) (hb : Below B w w') (hB : w.heap.size ≤ B) : Snd w' g base xs E S A n c vs l st lf where
  blk_ := h.blk_.later hb hB
  own := h.own.below hb hB
  len := h.len
  bod := fun i v b h1 h2 => (h.bod i v b h1 h2).below hb hB
  ext := fun p hp => (h.ext p hp).below hb hB
  far := h.far
  ge := h.ge
theorem Snd.of_drewN {w : World} {k : Nat} {g base : Nat} {xs : List (Value × List Nat)} {E S : Int} {A : Option Addr} {n c : Nat} {vs : List Value} {l : List (List Nat)} {st lf : Int} (h : Snd w g base xs E S A n c vs l st lf) : Snd (w.drewN k) g base xs E S A n c vs l st lf :=
  ⟨h.blk_, h.own, h.len, h.bod, h.far, h.ge, h.ext⟩
theorem Snd.less {w : World} {g base : Nat} {xs ys : List (Value × List Nat)} {E S : Int} {A : Option Addr} {n c : Nat} {vs : List Value} {l : List (List Nat)} {st lf : Int} (h : Snd w g base xs E S A n c vs l st lf) (hy : ∀ p ∈ ys, p ∈ xs) : Snd w g base ys E S A n c vs l st lf :=
  ⟨h.blk_, h.own, h.len, h.bod, h.far, h.ge, fun p hp => h.ext p (hy p hp)⟩
theorem Snd.clone {w : World} {g base : Nat} {xs : List (Value × List Nat)} {E S : Int} {A : Option Addr} {n c : Nat} {vs : List Value} {l : List (List Nat)} {st lf : Int} (h : Snd w g base xs E S A n c vs l st lf)
    {A1 : Option Addr} {c1 : Nat} {b : List Nat} (hb : b.length ≤ 8192) (hat : At w A1 (nats .u8 b)) (hn : A1 = none → b.length = 0) (hk : ∀ k, blk A1 = some k → base ≤ k ∧ k < w.heap.size ∧ k ≠ g ∧ blk A ≠ some k) : Snd w g base ((.slice A1 b.length c1, b) :: xs) E S A n c vs l st lf :=
  ⟨h.blk_, h.own, h.len, h.bod, h.far, h.ge, fun p hp => by
    rcases List.mem_cons.1 hp with rfl | hp
    · exact ⟨A1, c1, rfl, hb, hat, hn, hk⟩
    · exact h.ext p hp⟩
set_option maxRecDepth 100000 in
theorem snew_any (E : Int) (w : World) (hE : 1 ≤ E ∧ E ≤ 1073741824) :
    Calls Tryd.prog 20 #[.int .i64 E] w fun e w' => e = .returned (.tuple #[.pointer (some ⟨w.heap.size, 0, none⟩), .nilIface]) ∧ w' = w.alloc (.cells (sndOf E 1 none 0 0 0 0) 111) := by
  have h1 : decide (E < 1) = false := by simp; omega
  have h2 : decide (1073741824 < E) = false := by simp; omega
  go_enter Tryd.func20, Tryd.ntmps20
  go_wp2
  exact bodyPost_ret (v := .tuple #[.pointer (some ⟨w.heap.size, 0, none⟩), .nilIface]) (by simp [results, Tryd.results20, go_sem]) rfl ⟨rfl, rfl⟩
theorem new_snd (E : Int) (w : World) (base : Nat) (hb : base ≤ w.heap.size) : Snd (w.alloc (.cells (sndOf E 1 none 0 0 0 0) 111)) w.heap.size base [] E 1 none 0 0 [] [] 0 0 where
  ext := by simp
  blk_ := Holds.new _ _ _ _ rfl
  own := Own.none_ _ _ _ _
  len := rfl
  bod := by intro i v b h; simp at h
  far := by simp [blk]
  ge := hb
section
variable {g base : Nat} {xs : List (Value × List Nat)} {E S : Int} {A : Option Addr} {n c : Nat} {vs : List Value} {l : List (List Nat)} {st lf : Int}
set_option maxRecDepth 100000 in
theorem waits_any (w : World) (h : Snd w g base xs E S A n c vs l st lf) :
    Calls Tryd.prog 29 #[.pointer (some ⟨g, 0, none⟩)] w fun e w' => e = .returned (.int .i64 n) ∧ w = w' := by
  have hc : w.cell? ⟨g, 2, none⟩ = some (.slice A n c) := h.blk_.cell 2
  clear h
  go_enter Tryd.func29, Tryd.ntmps29
  go_wp2
  go_ret
  exact ⟨rfl, rfl⟩
set_option maxRecDepth 100000 in
theorem sepoch_any (w : World) (h : Snd w g base xs E S A n c vs l st lf) :
    Calls Tryd.prog 25 #[.pointer (some ⟨g, 0, none⟩)] w fun e w' => e = .returned (.int .i64 E) ∧ w = w' := by
  have hc : w.cell? ⟨g, 0, none⟩ = some (.int .i64 E) := h.blk_.cell 0
  clear h
  go_enter Tryd.func25, Tryd.ntmps25
  go_wp2
  go_ret
  exact ⟨rfl, rfl⟩
set_option maxRecDepth 100000 in
theorem tick_pos (w : World) (h : Snd w g base xs E S A n c vs l st lf) (h0 : 0 < lf) (h1 : lf ≤ 24) :
    Calls Tryd.prog 30 #[.pointer (some ⟨g, 0, none⟩)] w fun e w' => e = .returned (.tuple #[]) ∧ Snd w' g base xs E S A n c vs l st (lf - 1) ∧ w.grownBy w' (some g) := by
  have hc : w.cell? ⟨g, 4, none⟩ = some (.int .i64 lf) := h.blk_.cell 4
  have hf : w.frozen? ⟨g, 4, none⟩ = false := h.blk_.frozen 4
  have HS := Lib.hid h
  clear h
  go_enter Tryd.func30, Tryd.ntmps30
  go_wp2
  exact bodyPost_end (v := .tuple #[]) (by simp [results, Tryd.results30, go_sem]) rfl ⟨rfl, HS.out.turn (grown_set (grown_refl _ _) 4 _) (HS.out.blk_.set 4 _), grown_set (grown_refl _ _) 4 _⟩
set_option maxRecDepth 100000 in
theorem tick_zero (w : World) (h : Snd w g base xs E S A n c vs l st 0) :
    Calls Tryd.prog 30 #[.pointer (some ⟨g, 0, none⟩)] w fun e w' => e = .returned (.tuple #[]) ∧ w = w' := by
  have hc : w.cell? ⟨g, 4, none⟩ = some (.int .i64 0) := h.blk_.cell 4
  clear h
  go_enter Tryd.func30, Tryd.ntmps30
  go_wp2
  exact bodyPost_end (v := .tuple #[]) (by simp [results, Tryd.results30, go_sem]) rfl ⟨rfl, rfl⟩
end
end Go.Proofs.YtodimanghmepoaaDoor
