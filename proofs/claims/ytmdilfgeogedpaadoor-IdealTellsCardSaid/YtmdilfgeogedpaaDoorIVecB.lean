/- Layer 2: the walks of Zero, Times, Sum, Same. -/
import Derived.Test.YtmdilfgeogedpaaDoorVecA
import Derived.Test.YtmdilfgeogedpaaDoorBods
import Derived.Laws.OwnMore
namespace Go.Proofs.YtmdilfgeogedpaaDoor
open Go.RowKit
/-- block g is a row of just these numbers -/
def HN (w : World) (g : Nat) (l : List Nat) : Prop := Holds w g 61 (nats .u32 l).toArray
theorem HN.at_ {w : World} {g : Nat} {l : List Nat} (h : HN w g l) : At w (some ⟨g, 0, none⟩) (nats .u32 l) := by
  intro i x hx
  refine ⟨g, 0, rfl, ?_⟩
  rw [Nat.zero_add, Holds.cell h i]
  simpa using hx
theorem HN.set {w : World} {g : Nat} {l : List Nat} (h : HN w g l) (i x : Nat) : HN (w.setCell ⟨g, i, none⟩ (.int .u32 (x : Int))) g (l.set i x) := by
  have := Holds.set h i (.int .u32 (x : Int))
  unfold HN
  simpa [nats, List.setIfInBounds_toArray, List.map_set] using this
theorem HN.cell {w : World} {g : Nat} {l : List Nat} (h : HN w g l) (i : Nat) (hi : i < l.length) : w.cell? ⟨g, i, none⟩ = some (.int .u32 (l.getD i 0 : Nat)) := by
  rw [Holds.cell h i]
  simp [nats, List.getD_eq_getElem?_getD, List.getElem?_eq_getElem hi]
theorem wpList_mkn {P : Program} {w : World} {ops : Array Oper} {rest : List Oper} {o : Oper} {a : Act} {Q : Exit → Act → World → Prop} {t e : TypeId} {z : Value} {bytes : Nat} (E : Elt P t e z 1 bytes) (hz1 : z.cells = #[z])
    (hgd : Region.wanted o (yielded ops a.tmps) = true) (l c : Operand) (hop : o.op = Op.makeSlice t l c) (kl kc : IntKind) (C : Int) (n : Nat) (hl : a.eval l = .int kl C) (hc : a.eval c = .int kc C) (hC : C = (n : Int)) (b2 : bytes * n ≤ 281474976710656) (b3 : n ≤ maxLen)
    (hK : ∀ w', Holds w' w.heap.size e (List.replicate n z).toArray → Below w.heap.size w w' → w.heap.size < w'.heap.size → wpList P ops Q rest (a.put o.dst (.slice (some ⟨w.heap.size, 0, none⟩) n n)) w') :
    wpList P ops Q (o :: rest) a w := by
  obtain ⟨i, hi, hz, hs, hb⟩ := E.hi
  have h63 : (n : Int) ≤ 9223372036854775807 := by unfold maxLen at b3; omega
  have hb' : (i.bytes : Int) * (n : Int) ≤ 281474976710656 := by
    have h : ((i.bytes * n : Nat) : Int) ≤ 281474976710656 := by rw [hb]; omega
    rwa [Int.natCast_mul] at h
  have hr := run_make (P := P) w t e i z E.ht hi hz kl kc n n (by omega) (Int.le_refl _) hb' h63
  simp only [Int.toNat_natCast, hs, Nat.mul_one, hz1] at hr
  have e1 : madeCells #[z] n = (List.replicate n z).toArray := by
    rw [← toList_madeCells_one, Array.toArray_toList]
  rw [e1] at hr
  refine wpList_step fun K hK' => ?_
  rw [if_pos hgd]
  subst hC
  unfold Oper.wp
  simp [execOp, hop, hl, hc, hr, Result.andThen]
  exact hK' _ _ (hK _ (Holds.new w e _ _ rfl) ((Below.refl _ _).alloc (Nat.le_refl _) _) (by simp))
theorem mkn_nats {w : World} {g n : Nat} (h : Holds w g 61 (List.replicate n (.int .u32 0)).toArray) : HN w g (VE.zero n) := by
  unfold HN; simpa [nats, VE.zero] using h
/-- the sum of rows, or the error -/
def EndS (w : World) (o : Option (List Nat)) (e : Ending) (w' : World) : Prop := match o with
  | some s => RowE w s e w'
  | none => e = .returned (.tuple #[.slice none 0 0, .iface 62 (.int .i64 1)]) ∧ Below w.heap.size w w'
set_option maxRecDepth 100000 in
set_option maxHeartbeats 1000000 in
theorem vzero_ok (n : Nat) (w : World) (hn : n ≤ 32) :
    Calls Tryd.prog 53 #[.int .i64 n] w fun e w' => e = .returned (.tuple #[.slice (some ⟨w.heap.size, 0, none⟩) n n, .nilIface]) ∧ HN w' w.heap.size (VE.zero n) ∧ Below w.heap.size w w' ∧ w.heap.size < w'.heap.size := by
  go_enter Tryd.func53, Tryd.ntmps53
  go_wp2_with (at_make; refine wpList_mkn elt_u32 rfl rfl (.tmp 11) (.tmp 11) rfl .i64 .i64 _ n rfl rfl rfl (by omega) (by unfold maxLen; omega) ?_; intro w1 h1 b1 z1; have HH := Lib.hid (mkn_nats h1); have HB := Lib.hid b1; have HZ := Lib.hid z1; clear h1 b1 z1)
  go_ret2
  exact ⟨rfl, HH.out, HB.out, HZ.out⟩
set_option maxRecDepth 100000 in
theorem vzero_no (n : Int) (w : World) (hn : n < 0 ∨ 32 < n) (_h63 : n ≤ 9223372036854775807) :
    Calls Tryd.prog 53 #[.int .i64 n] w fun e w' => e = .returned (.tuple #[.slice none 0 0, .iface 62 (.int .i64 1)]) ∧ w = w' := by
  rcases hn with h | h
  · go_enter Tryd.func53, Tryd.ntmps53
    go_wp2
    go_ret2
    exact ⟨rfl, rfl⟩
  · have h0 : ¬ n < 0 := by omega
    go_enter Tryd.func53, Tryd.ntmps53
    go_wp2
    go_ret2
    exact ⟨rfl, rfl⟩
end Go.Proofs.YtmdilfgeogedpaaDoor
