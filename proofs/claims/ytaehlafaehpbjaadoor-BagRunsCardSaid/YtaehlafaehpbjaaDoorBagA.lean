/- Layer 20: slices.Clone of bytes, slices.Delete of a bag's items. -/
import Derived.Test.YtaehlafaehpbjaaDoorProg
import Derived.Test.YtaehlafaehpbjaaDoorHolds
import Derived.Test.YtaehlafaehpbjaaDoorApp
import Derived.Deep.QuietTactic
import Derived.BigQuiet
import Derived.Outline
import Derived.OwnWalk
import Derived.WalkSpells
import Derived.RegionTactic
import Derived.Deep.RegionLaw
namespace Go.Proofs.YtaehlafaehpbjaaDoor
open Go.RowKit
set_option maxRecDepth 100000 in
theorem elt_u8 : Elt Tryd.prog 24 5 (.int .u8 0) 1 1 where
  ht := by kernel_rfl
  hi := ⟨_, rfl, by kernel_rfl, by kernel_rfl, by kernel_rfl⟩
  hzs := rfl
  hsz := by decide
set_option maxRecDepth 100000 in
theorem elt_item : Elt Tryd.prog 47 46 (.agg #[.int .i64 0, .slice none 0 0]) 2 32 where
  ht := by kernel_rfl
  hi := ⟨_, rfl, by kernel_rfl, by kernel_rfl, by kernel_rfl⟩
  hzs := rfl
  hsz := by decide
/-- what a Clone hands back -/
def Clo (w : World) (n : Nat) (l : List Nat) (e : Ending) (w' : World) : Prop :=
  ∃ A' c', e = .returned (.slice A' n c') ∧ At w' A' (nats .u8 l) ∧ (A' = none → n = 0) ∧ (∀ k, blk A' = some k → w.heap.size ≤ k ∧ k < w'.heap.size) ∧ Below w.heap.size w w'
set_option maxRecDepth 100000 in
set_option maxHeartbeats 1000000 in
theorem clone_any (A : Option Addr) (n c : Nat) (l : List Nat) (w : World) (hl : l.length = n) (hm : n ≤ 9000) (hr : At w A (nats .u8 l)) (hz : A = none → n = 0) :
    Calls Tryd.prog 16 #[.slice A n c] w (Clo w n l) := by
  have HL := Lib.hid hl; clear hl
  cases A with
  | none =>
    have h0 := hz rfl
    clear hz
    subst h0
    have : l = [] := List.eq_nil_of_length_eq_zero HL.out
    subst this
    clear HL hr
    go_enter Tryd.func16, Tryd.ntmps16
    have hnil := Lib.run_eql_slice_nil (P := Tryd.prog) (t := 24) (e := 5)
    go_wp2_with fail
    go_ret
    exact ⟨none, 0, rfl, At.nil _ _, fun _ => rfl, by simp [blk], Below.refl _ _⟩
  | some a =>
    clear hz
    go_enter Tryd.func16, Tryd.ntmps16
    have hnil := Lib.run_eql_slice_nil (P := Tryd.prog) (t := 24) (e := 5)
    have B0 : Below w.heap.size w (w.alloc (.cells #[] 5)) := (Below.refl _ _).alloc (Nat.le_refl _) _
    have hr' := Lib.hid (fun (W : World) (hW : Below w.heap.size w W) => hr.later hW (Nat.le_refl _))
    clear hr
    go_wp2_with (at_builtin; refine wpList_app rfl elt_u8 w.heap.size (.tmp 5) (.tmp 6) rfl [] rfl (Own.lit #[] 0 (Nat.le_refl _) (by unfold maxLen; omega) rfl) (nats .u8 l) rfl (hr'.out _ B0) (by rw [nats_length, Nat.mul_one]; exact HL.out) (nats_one _ _) (by unfold maxLen; omega) (by omega) (by simp) ?_; intro A' c' w1 own1 g1 _; have B1 := B0.grown g1 (by simp) (by simp [blk]); simp only [Nat.zero_add, List.nil_append] at own1)
    go_ret
    exact ⟨A', c', rfl, own1.at_, by rintro rfl; rcases own1.lies with ⟨_, h, _⟩ | ⟨g, h, _⟩ <;> simp_all, own1.lt, B1⟩
/-! ### items -/
def itm (p : Int × Value) : List Value := [.int .i64 p.1, p.2]
def its (vs : List (Int × Value)) : List Value := vs.flatMap itm
theorem its_length : ∀ vs, (its vs).length = vs.length * 2
  | [] => rfl
  | p :: vs => by have := its_length vs; simp [its, itm] at this ⊢; omega
theorem its_cons (p : Int × Value) (vs : List (Int × Value)) : its (p :: vs) = .int .i64 p.1 :: p.2 :: its vs := rfl
theorem its_append (a b : List (Int × Value)) : its (a ++ b) = its a ++ its b := by simp [its]
theorem its_take : ∀ (vs : List (Int × Value)) (i : Nat), (its vs).take (i * 2) = its (vs.take i)
  | [], i => by simp [its]
  | p :: vs, 0 => by simp [its]
  | p :: vs, i + 1 => by
    rw [its_cons, show (i + 1) * 2 = i * 2 + 1 + 1 by omega, List.take_succ_cons, List.take_succ_cons, its_take vs i, List.take_succ_cons, its_cons]
theorem its_drop : ∀ (vs : List (Int × Value)) (i : Nat), (its vs).drop (i * 2) = its (vs.drop i)
  | [], i => by simp [its]
  | p :: vs, 0 => by simp
  | p :: vs, i + 1 => by
    rw [its_cons, show (i + 1) * 2 = i * 2 + 1 + 1 by omega, List.drop_succ_cons, List.drop_succ_cons, its_drop vs i, List.drop_succ_cons]
theorem its_one {vs : List (Int × Value)} (h : ∀ p ∈ vs, p.2.oneCell' = true) : ∀ u ∈ its vs, u.oneCell' = true := by
  intro u hu
  obtain ⟨p, hp, hu⟩ := List.mem_flatMap.1 hu
  simp [itm] at hu
  rcases hu with rfl | rfl
  · rfl
  · exact h p hp
theorem Own.shrink {w : World} {base : Nat} {e : TypeId} {size g n c : Nat} {xs : List Value} (h : Own w base e size (some ⟨g, 0, none⟩) n c xs) (i : Nat) (hi : i ≤ n) : Own w base e size (some ⟨g, 0, none⟩) i c (xs.take (i * size)) := by
  have hl := h.len
  have hmul : i * size ≤ n * size := Nat.mul_le_mul_right _ hi
  rcases h.2 with ⟨h0, _⟩ | ⟨g', cap, cur, hv, hb, hh, hn, hm, hc, ht⟩
  · cases h0
  · cases hv
    refine ⟨by rw [List.length_take, hl]; omega, .inr ⟨g, c, cur, rfl, hb, hh, by omega, hm, hc, ?_⟩⟩
    rw [← ht, List.take_take, Nat.min_eq_left hmul]
theorem Own.spareN {w : World} {base : Nat} {e : TypeId} {size g n c : Nat} {xs : List Value} (h : Own w base e size (some ⟨g, 0, none⟩) n c xs) (i : Nat) (hi : i < c * size) : (w.cell? ⟨g, i, none⟩).isSome = true ∧ w.frozen? ⟨g, i, none⟩ = false := by
  rcases h.2 with ⟨h0, _⟩ | ⟨g', cap, cur, hv, hb, hh, hn, hm, hc, _⟩
  · cases h0
  · cases hv
    simp only [World.cell?, World.frozen?, hh]
    simp
    omega
theorem Own.set_pastN {w : World} {base : Nat} {e : TypeId} {size g n c : Nat} {xs : List Value} (h : Own w base e size (some ⟨g, 0, none⟩) n c xs) (i : Nat) (hi : n * size ≤ i) (u : Value) : Own (w.setCell ⟨g, i, none⟩ u) base e size (some ⟨g, 0, none⟩) n c xs := by
  refine ⟨h.1, ?_⟩
  rcases h.2 with ⟨h0, _⟩ | ⟨g', cap, cur, hv, hb, hh, hn, hm, hc, ht⟩
  · cases h0
  · cases hv
    refine .inr ⟨g, c, cur.setIfInBounds i u, rfl, hb, ?_, hn, hm, by simpa using hc, ?_⟩
    · simp [World.setCell, Array.getElem?_modify, hh]
    · rw [← ht]
      simp only [Array.toList_setIfInBounds, List.take_set]
      exact List.set_eq_of_length_le (by simp; omega)
theorem zero_item (w : World) : (zeroValue 46).run Tryd.prog w = .ok (.agg #[.int .i64 0, .slice none 0 0]) w := by
  kernel_rfl
theorem run_clear2 (w : World) (g o c : Nat) (h0 : (w.cell? ⟨g, o, none⟩).isSome = true ∧ w.frozen? ⟨g, o, none⟩ = false) (h1 : (w.cell? ⟨g, o + 1, none⟩).isSome = true ∧ w.frozen? ⟨g, o + 1, none⟩ = false) :
    (Builtin.clear_ #[47] 0 #[.slice (some ⟨g, o, none⟩) 1 c]).run Tryd.prog w = .ok (.tuple #[]) ((w.setCell ⟨g, o, none⟩ (.int .i64 0)).setCell ⟨g, o + 1, none⟩ (.slice none 0 0)) := by
  have hzc : (Builtin.zeroCells (Value.agg #[.int .i64 0, .slice none 0 0]).cells 1).toList = [.int .i64 0, .slice none 0 0] := by kernel_rfl
  have hst := run_storeCells_cells (P := Tryd.prog) g o [.int .i64 0, .slice none 0 0] 0 w
    (by intro j hj; simp at hj; have hj2 : j = 0 ∨ j = 1 := by omega
        rcases hj2 with rfl | rfl
        · exact h0.1
        · exact h1.1)
    (by intro j hj; simp at hj; have hj2 : j = 0 ∨ j = 1 := by omega
        rcases hj2 with rfl | rfl
        · exact h0.2
        · exact h1.2)
    (by intro v hv; simp at hv; rcases hv with rfl | rfl <;> rfl)
  simp only [Nat.add_zero] at hst
  simp [Builtin.clear_, run_underlying elt_item.ht, zero_item, hzc, hst]
  rfl
/-- what Delete hands back -/
def DelI (w : World) (base g n c : Nat) (vs : List (Int × Value)) (e : Ending) (w' : World) : Prop :=
  e = .returned (.slice (some ⟨g, 0, none⟩) n c) ∧ Own w' base 46 2 (some ⟨g, 0, none⟩) n c (its vs) ∧ w.grownBy w' (some g)
set_option maxRecDepth 100000 in
set_option maxHeartbeats 8000000 in
theorem del_any (base g m c i : Nat) (vs : List (Int × Value)) (w : World) (ho : Own w base 46 2 (some ⟨g, 0, none⟩) (m + 1) c (its vs)) (hone : ∀ p ∈ vs, p.2.oneCell' = true) (hi : i ≤ m) (hc : c ≤ 9223372036854775807) :
    Calls Tryd.prog 15 #[.slice (some ⟨g, 0, none⟩) (m + 1) c, .int .i64 i, .int .i64 (i + 1 : Int)] w (DelI w base g m c (vs.eraseIdx i)) := by
  have hn := ho.cap.1
  have hlen : vs.length = m + 1 := by have := ho.len; rw [its_length] at this; omega
  have HL := Lib.hid hlen
  have own0 := Lib.hid (show Own w base 46 2 (some ⟨g, 0, none⟩) i c (its (vs.take i)) from by rw [← its_take]; exact ho.shrink i (by omega))
  have news := Lib.hid (show At w (some ⟨g, (i + 1) * 2, none⟩) (its (vs.drop (i + 1))) from by
    have := (ho.at_).cut (m := (i + 1) * 2)
    rw [its_drop, Nat.zero_add] at this
    exact this)
  have HNL := Lib.hid (show (its (vs.drop (i + 1))).length = (m - i) * 2 by rw [its_length, List.length_drop, hlen]; omega)
  have HON := Lib.hid (show ∀ u ∈ its (vs.drop (i + 1)), u.oneCell' = true from its_one fun p hp => hone p (List.mem_of_mem_drop hp))
  have HER := Lib.hid (show its (vs.take i) ++ its (vs.drop (i + 1)) = its (vs.eraseIdx i) by rw [← its_append, List.eraseIdx_eq_take_drop_succ])
  have hd : ((i : Int) == (i : Int) + 1) = false := by simp; omega
  have hi1 : (i : Int) ≤ (i : Int) + 1 := by omega
  have hi2 : (i : Int) + 1 ≤ (m : Int) + 1 := by omega
  have hi3 : (i : Int) + 1 ≤ (c : Int) := by omega
  have hi4 : (m : Int) + 1 ≤ (c : Int) := by omega
  have hti : ((i : Int) + 1).toNat = i + 1 := by omega
  clear hlen ho hone
  go_enter Tryd.func15, Tryd.ntmps15
  go_wp2_with fail
  have him : i + (m - i) = m := by omega
  have hmc : ¬ c = m := by omega
  have hmi : (m : Int) ≤ (m : Int) + 1 := by omega
  have hz1 : (0 : Int) ≤ (i : Int) + 1 := by omega
  have hic : i ≤ c := by omega
  have hmn : i ≤ m := by omega
  by_cases hc1 : c = i + 1
  · obtain rfl : i = m := by omega
    subst hc1
    have hdr : vs.drop (i + 1) = [] := List.drop_eq_nil_of_le (by rw [HL.out]; exact Nat.le_refl _)
    have hne : its (vs.take i) = its (vs.eraseIdx i) := by rw [← HER.out, hdr]; simp [its]
    have HNE := Lib.hid hne
    clear hdr hne
    go_region_law (refine step_fits' rfl elt_item base (.tmp 22) (.tmp 25) rfl (its (vs.take i)) rfl own0.out.drew [] rfl (At.nil _ _) rfl (by simp) (by omega) ?_; intro w1 own1 g1; simp only [Nat.add_zero, List.append_nil] at own1)
    all_goals
      rw [HNE.out] at own1
      have hs1 := own1.spareN (i * 2) (by omega)
      have hs2 := own1.spareN (i * 2 + 1) (by omega)
      have hclr := run_clear2 w1 g (i * 2) 1 hs1 hs2
      have HO := Lib.hid own1
      have HG1 := Lib.hid g1
      clear own1 g1
      go_wp2_with fail
      go_ret
      exact ⟨rfl, (HO.out.set_pastN (i * 2) (Nat.le_refl _) _).set_pastN (i * 2 + 1) (by omega) _, grown_set (grown_set (grown_trans (grown_drew (grown_refl _ _)) HG1.out) _ _) _ _⟩
  · have hc1' : decide (c = i + 1) = false := by simpa using hc1
    go_region_law (refine step_fits' (ad := ⟨g, (i + 1) * 2, none⟩) (m := m - i) (c2 := c - (i + 1)) rfl elt_item base (.tmp 22) (.tmp 25) rfl (its (vs.take i)) rfl own0.out.drew (its (vs.drop (i + 1))) rfl news.out HNL.out HON.out (by omega) ?_; intro w1 own1 g1; rw [him, HER.out] at own1)
    all_goals
      have hs1 := own1.spareN (m * 2) (by omega)
      have hs2 := own1.spareN (m * 2 + 1) (by omega)
      have hclr := run_clear2 w1 g (m * 2) (c - m) hs1 hs2
      have HO := Lib.hid own1
      have HG1 := Lib.hid g1
      clear own1 g1
      go_wp2_with fail
      go_ret
      exact ⟨rfl, (HO.out.set_pastN (m * 2) (Nat.le_refl _) _).set_pastN (m * 2 + 1) (by omega) _, grown_set (grown_set (grown_trans (grown_drew (grown_refl _ _)) HG1.out) _ _) _ _⟩
end Go.Proofs.YtaehlafaehpbjaaDoor
