/- Layer 2: the walks of Zero, Times, Sum, Same. -/
import Derived.Test.YtbgmbemaopnjfaaDoorVecA
import Derived.Test.YtbgmbemaopnjfaaDoorBods
import Derived.Laws.OwnMore
namespace Go.Proofs.YtbgmbemaopnjfaaDoor
open Go.RowKit
/-- block g is a row of just these numbers -/
def HN (w : World) (g : Nat) (l : List Nat) : Prop := Holds w g 34 (nats .u32 l).toArray
theorem HN.at_ {w : World} {g : Nat} {l : List Nat} (h : HN w g l) : At w (some ⟨g, 0, none⟩) (nats .u32 l) := by
  intro i x hx
  refine ⟨g, 0, rfl, ?_⟩
  rw [Nat.zero_add, Holds.cell h i]
  simpa using hx
theorem HN.set {w : World} {g : Nat} {l : List Nat} (h : HN w g l) (i x : Nat) : HN (w.setCell ⟨g, i, none⟩ (.int .u32 (x : Int))) g (l.set i x) := by
  have := Holds.set h i (.int .u32 (x : Int))
  unfold HN
  simpa [nats, List.setIfInBounds_toArray, List.map_set] using this
theorem HN.cell {w : World} {g : Nat} {l : List Nat} (h : HN w g l) (i : Nat) (hi : i < l.length) : w.cell? ⟨g, i, none⟩ = some (.int .u32 (l.getD i 0 : Nat)) := by
  rw [Holds.cell h i]
  simp [nats, List.getD_eq_getElem?_getD, List.getElem?_eq_getElem hi]
theorem wpList_mkn {P : Program} {w : World} {ops : Array Oper} {rest : List Oper} {o : Oper} {a : Act} {Q : Exit → Act → World → Prop} {t e : TypeId} {z : Value} {bytes : Nat} (E : Elt P t e z 1 bytes) (hz1 : z.cells = #[z])
    (hgd : Region.wanted o (yielded ops a.tmps) = true) (l c : Operand) (hop : o.op = Op.makeSlice t l c) (kl kc : IntKind) (C : Int) (n : Nat) (hl : a.eval l = .int kl C) (hc : a.eval c = .int kc C) (hC : C = (n : Int)) (b2 : bytes * n ≤ 281474976710656) (b3 : n ≤ maxLen)
    (hK : ∀ w', Holds w' w.heap.size e (List.replicate n z).toArray → Below w.heap.size w w' → w.heap.size < w'.heap.size → wpList P ops Q rest (a.put o.dst (.slice (some ⟨w.heap.size, 0, none⟩) n n)) w') :
    wpList P ops Q (o :: rest) a w := by
  obtain ⟨i, hi, hz, hs, hb⟩ := E.hi
  have h63 : (n : Int) ≤ 9223372036854775807 := by unfold maxLen at b3; omega
  have hb' : (i.bytes : Int) * (n : Int) ≤ 281474976710656 := by
    have h : ((i.bytes * n : Nat) : Int) ≤ 281474976710656 := by rw [hb]; omega
    rwa [Int.natCast_mul] at h
  have hr := run_make (P := P) w t e i z E.ht hi hz kl kc n n (by omega) (Int.le_refl _) hb' h63
  simp only [Int.toNat_natCast, hs, Nat.mul_one, hz1] at hr
  have e1 : madeCells #[z] n = (List.replicate n z).toArray := by
    rw [← toList_madeCells_one, Array.toArray_toList]
  rw [e1] at hr
  refine wpList_step fun K hK' => ?_
  rw [if_pos hgd]
  subst hC
  unfold Oper.wp
  simp [execOp, hop, hl, hc, hr, Result.andThen]
  exact hK' _ _ (hK _ (Holds.new w e _ _ rfl) ((Below.refl _ _).alloc (Nat.le_refl _) _) (by simp))
theorem mkn_nats {w : World} {g n : Nat} (h : Holds w g 34 (List.replicate n (.int .u32 0)).toArray) : HN w g (VE.zero n) := by
  unfold HN; simpa [nats, VE.zero] using h
/-- the sum of rows, or the error -/
def EndS (w : World) (o : Option (List Nat)) (e : Ending) (w' : World) : Prop := match o with
  | some s => RowE w s e w'
  | none => e = .returned (.tuple #[.slice none 0 0, .iface 87 (.int .i64 1)]) ∧ Below w.heap.size w w'
set_option maxRecDepth 100000 in
set_option maxHeartbeats 1000000 in
theorem vzero_ok (n : Nat) (w : World) (hn : n ≤ 32) :
    Calls Tryd.prog 49 #[.int .i64 n] w fun e w' => e = .returned (.tuple #[.slice (some ⟨w.heap.size, 0, none⟩) n n, .nilIface]) ∧ HN w' w.heap.size (VE.zero n) ∧ Below w.heap.size w w' ∧ w.heap.size < w'.heap.size := by
  go_enter Tryd.func49, Tryd.ntmps49
  go_wp2_with (at_make; refine wpList_mkn elt_u32 rfl rfl (.tmp 11) (.tmp 11) rfl .i64 .i64 _ n rfl rfl rfl (by omega) (by unfold maxLen; omega) ?_; intro w1 h1 b1 z1; have HH := Lib.hid (mkn_nats h1); have HB := Lib.hid b1; have HZ := Lib.hid z1; clear h1 b1 z1)
  go_ret2
  exact ⟨rfl, HH.out, HB.out, HZ.out⟩
set_option maxRecDepth 100000 in
theorem vzero_no (n : Int) (w : World) (hn : n < 0 ∨ 32 < n) (_h63 : n ≤ 9223372036854775807) :
    Calls Tryd.prog 49 #[.int .i64 n] w fun e w' => e = .returned (.tuple #[.slice none 0 0, .iface 87 (.int .i64 1)]) ∧ w = w' := by
  rcases hn with h | h
  · go_enter Tryd.func49, Tryd.ntmps49
    go_wp2
    go_ret2
    exact ⟨rfl, rfl⟩
  · have h0 : ¬ n < 0 := by omega
    go_enter Tryd.func49, Tryd.ntmps49
    go_wp2
    go_ret2
    exact ⟨rfl, rfl⟩
set_option maxRecDepth 100000 in
set_option maxHeartbeats 2000000 in
theorem vtimes_cap (A : Option Addr) (n c : Nat) (l : List Nat) (q : Nat) (w : World) (hl : l.length = n) (hn : n ≤ 32) (ha : At w A (nats .u32 l)) (hr : ∀ x ∈ l, x < 4294967296) (hq : q < 4294967296) :
    Calls Tryd.prog 46 #[.slice A n c, .int .u32 q] w fun e w' => e = .returned (.tuple #[.slice (some ⟨w.heap.size, 0, none⟩) n n, .nilIface]) ∧ At w' (some ⟨w.heap.size, 0, none⟩) (nats .u32 (VE.times q l)) ∧ Below w.heap.size w w' := by
  have HL := Lib.hid hl
  have HA := Lib.hid ha
  have HR := Lib.hid hr
  have HTL := Lib.hid (show (VE.times q l).length = n by rw [VE.times_length, hl])
  have C := Lib.hid (vzero_ok n w hn)
  clear hl ha hr
  go_enter Tryd.func46, Tryd.ntmps46
  go_wp2_with fail
  refine C.out.mono ?_
  rintro e w1 ⟨rfl, h1, b1, z1⟩
  have H1 := Lib.hid h1
  have B1 := Lib.hid b1
  have Z1 := Lib.hid z1
  obtain ⟨g, hg⟩ : ∃ g, w.heap.size = g := ⟨_, rfl⟩
  rw [hg] at H1 B1 Z1 ⊢
  have HGG := Lib.hid hg
  clear h1 b1 z1 hg C
  go_wp2_with fail
  go_loopw [21] (fun i wr => ∃ k : Nat, k ≤ n ∧ i = .int .i64 k ∧ HN wr g (VE.mix k (VE.times q l) (VE.zero n)) ∧ Below g w wr) (fun i _ => n - (intOf i).toNat)
  case atStart => exact ⟨0, by omega, rfl, by rw [VE.mix_zero]; exact H1.out, B1.out⟩
  case round =>
    obtain ⟨k, hk, rfl, hh, hb⟩ := hrel
    have HH := Lib.hid hh
    have HB := Lib.hid hb
    clear hh hb
    by_cases hlt : k < n
    · obtain ⟨b, o, rfl, hc⟩ := (HA.out.later HB.out (Nat.le_of_eq HGG.out)).nat k (by rw [HL.out]; exact hlt)
      have hx : l.getD k 0 < 4294967296 := by rw [getD_lt (by rw [HL.out]; exact hlt)]; exact HR.out _ (List.getElem_mem _)
      have hs := VE.mix_set (m := k) HTL.out (VE.zero_length n) hlt
      rw [VE.times_getD (by rw [HL.out]; exact hlt)] at hs
      have hml := VE.mix_length (m := k) HTL.out (VE.zero_length n)
      have hcz := HH.out.cell k (by rw [hml]; exact hlt)
      have hfz : wr.frozen? ⟨g, k, none⟩ = false := Holds.frozen HH.out k
      have HS := Lib.hid hs
      clear hs hml
      generalize l.getD k 0 = x at *
      go_wp2
      refine ⟨⟨k + 1, by omega, by simp, ?_, HB.out.setCell (Nat.le_refl _) _⟩, by simp only [intOf]; omega⟩
      rw [← HS.out]
      have := HH.out.set k (x * q % 4294967296)
      simpa using this
    · obtain rfl : k = n := by omega
      go_wp2
      go_ret2
      have hm := VE.mix_full (n := k) HTL.out (VE.zero_length k)
      have h := HH.out
      rw [hm] at h
      exact ⟨by rw [HGG.out]; rfl, by rw [HGG.out]; exact h.at_, by rw [HGG.out]; exact HB.out⟩
theorem vtimes_ok (A : Option Addr) (n c : Nat) (l : List Nat) (q : Nat) (w : World) (hl : l.length = n) (hn : n ≤ 32) (ha : At w A (nats .u32 l)) (hr : ∀ x ∈ l, x < 4294967296) (hq : q < 4294967296) :
    Calls Tryd.prog 46 #[.slice A n c, .int .u32 q] w (RowE w (VE.times q l)) :=
  (vtimes_cap A n c l q w hl hn ha hr hq).mono fun e w' ⟨h1, h2, h3⟩ => ⟨_, n, by rw [h1, VE.times_length, hl], h2, h3⟩
set_option maxRecDepth 100000 in
theorem vtimes_no (A : Option Addr) (n c : Nat) (v : Value) (w : World) (hn : 32 < n) (h63 : n ≤ 9223372036854775807) :
    Calls Tryd.prog 46 #[.slice A n c, v] w fun e w' => e = .returned (.tuple #[.slice none 0 0, .iface 87 (.int .i64 1)]) ∧ w = w' := by
  have C := Lib.hid (vzero_no n w (.inr (by omega)) (by omega))
  go_enter Tryd.func46, Tryd.ntmps46
  go_wp2_with fail
  refine C.out.mono ?_
  rintro e w' ⟨rfl, rfl⟩
  go_wp2_with fail
  go_ret2
  exact ⟨rfl, rfl⟩
end Go.Proofs.YtbgmbemaopnjfaaDoor
