/- A region that draws its order and whose last operation waits for all others, and may write what was there. -/
import Derived.Test.YtlimabhojocimaaDoorRegionB
import Derived.Laws.Tables
import Derived.Laws.Rows
namespace Go.Proofs.YtlimabhojocimaaDoor
open Go.RowKit
theorem steps_of' {P : Program} {ops : Array Oper} {Q : Exit → Act → World → Prop} {R : List Rel} {a0 : Act} {w0 : World} : ∀ (l : List Oper) (rs : List Row) (i : Nat), (∀ j, j < l.length → l[j]? = ops[i + j]?) → rowsOk ops l rs = true →
    StepsC P R a0 w0 i l rs → Steps P ops Q (fun W W' => Below W.heap.size W W') R a0 w0 i l
  | [], _, _, _, _, _ => trivial
  | o :: l, [], _, _, hr, _ => by simp [rowsOk] at hr
  | o :: l, r :: rs, i, hl, hr, h => by
    simp only [rowsOk, Bool.and_eq_true] at hr
    refine ⟨fun a W hX hrd => ?_, steps_of' l rs (i + 1) (fun j hj => by have := hl (j + 1) (by simp; omega); simpa [Nat.add_assoc, Nat.add_comm 1 j] using this) hr.2 h.2⟩
    have hr1 := hr.1
    simp only [rowOk, Bool.and_eq_true] at hr1
    exact step_of_turn (by simpa using (hl 0 (by simp)).symm) hr.1 (h.1 a.eval W ⟨fun _ => rfl, fun _ => rfl, fun _ => rfl⟩ hX (facts_of hrd _ hr1.1.1) (outs_of hrd _ hr1.1.2))
theorem wp_region_tail {P : Program} {ops : Array Oper} {Q : Exit → Act → World → Prop} {a0 : Act} {w0 : World} {id : Nat} (l : List Oper) (last : Oper) (R : List Rel) (rows : List Row) (hm : P.follows .mixedOrders = true) (hp : plainOps ops = true) (hd : dstsFit ops a0.tmps.size = true)
    (hl : ops.toList = l ++ [last]) (hld : last.dst = none) (hg : last.guard = none) (hwait : ((List.range l.length).all fun j => last.after.toList.any fun e => e.on == j && Region.binds .any e) = true)
    (hrows : rowsOk ops l rows = true) (hlen : (R.length == l.length) = true) (hmono : MonoAll R)
    (hs : StepsC P R a0 w0.drew 0 l rows)
    (hf : ∀ (a : Act) (W : World), Below w0.heap.size w0 W → a.tmps.size = a0.tmps.size → a.defers = a0.defers → (∀ t, isDst ops t = false → a.tmps.getD t undef = a0.tmps.getD t undef) → (∀ j d, dstOf ops j = some d → (R.getD j Rel.none_) (a.tmps.getD d undef) W) →
      ∃ W', (execOp a.eval last).run P W = .ok .skip W' ∧ Q .normal a W') :
    (Code.region id ops true).wp P Q a0 w0 := by
  have hsize : ops.size = l.length + 1 := by have := congrArg List.length hl; simpa using this
  have hat : ∀ j, j < l.length → l[j]? = ops[j]? := fun j hj => by
    have : ops[j]? = ops.toList[j]? := by simp
    rw [this, hl, List.getElem?_append_left hj]
  have hlast : ops[l.length]? = some last := by
    have : ops[l.length]? = ops.toList[l.length]? := by simp
    rw [this, hl]; simp
  let X : World → World → Prop := fun W W' => Below W.heap.size W W'
  have hmono' : ∀ i, ∀ v W W', (R.getD i Rel.none_) v W → X W W' → (R.getD i Rel.none_) v W' := fun i v W W' h hX => MonoAll.getD R i hmono v W W' h hX
  have hst0 : Steps P ops Q X R a0 w0.drew 0 l := steps_of' l rows 0 (fun j hj => by rw [Nat.zero_add]; exact hat j hj) hrows hs
  refine wp_region_any hm ?_
  have done : ∀ (fuel : Nat) (listed : Array Bool) (a : Act) (W : World), listed.size = ops.size → (∀ j, j < ops.size → listed.getD j false = true) → Q .normal a W → wpAny P .any ops Q fuel listed a W := by
    intro fuel listed a W hsz hall hQ
    have hno : ∀ i, i ∈ Region.ready .any ops listed → False := by
      intro i hi
      rw [mem_ready] at hi
      obtain ⟨h1, o, ho, _⟩ := hi
      have hlt : i < ops.size := (Array.getElem?_eq_some_iff.1 ho).1
      have h2 := hall i hlt
      have : i < listed.size := by omega
      simp [Array.getD_eq_getD_getElem?, this] at h1 h2
      rw [h1] at h2; cases h2
    have hre : Region.ready .any ops listed = [] := by
      rcases hr : Region.ready .any ops listed with _ | ⟨i, r⟩
      · rfl
      · exact (hno i (by rw [hr]; exact List.mem_cons_self)).elim
    cases fuel with
    | zero => exact ⟨hre, hQ⟩
    | succ fuel => exact ⟨fun _ => hQ, fun i hi => (hno i hi).elim⟩
  have key : ∀ (fuel : Nat) (listed : Array Bool) (a : Act) (W : World), listed.size = ops.size → listed.getD l.length false = false → Inv ops X R a0 w0.drew listed a W →
      (∃ k : List Nat, k.length ≤ fuel ∧ ∀ j, j < ops.size → listed.getD j false = false → j ∈ k) → wpAny P .any ops Q fuel listed a W := by
    intro fuel
    induction fuel with
    | zero =>
      rintro listed a W hsz hnl h ⟨k, hk, hmem⟩
      have hk0 : k = [] := List.eq_nil_of_length_eq_zero (by omega)
      subst hk0
      have := hmem l.length (by omega) hnl
      cases this
    | succ fuel ih =>
      rintro listed a W hsz hnl h ⟨k, hk, hmem⟩
      refine ⟨fun hr => ?_, fun i hi => ?_⟩
      · have := all_listed hp hsz hr l.length (by omega)
        rw [hnl] at this; cases this
      obtain ⟨h1, o, ho, hpred⟩ := mem_ready.1 hi
      have hlt : i < ops.size := (Array.getElem?_eq_some_iff.1 ho).1
      have hil : i < listed.size := by omega
      have hif : listed.getD i false = false := by simp [Array.getD_eq_getD_getElem?, hil] at h1 ⊢; exact h1
      by_cases hin : i < l.length
      · have hst := Steps.at_ l 0 i o hst0 (by rw [hat i hin]; exact ho)
        rw [Nat.zero_add] at hst
        have hrd : Ready ops R a0 o a W := by
          refine ⟨fun e he hb d hd' => h.slots e.on d (hpred e (by simpa using he) hb) hd', h.outside, fun e he hb hd' => h.bare e.on (hpred e (by simpa using he) hb) hd'⟩
        refine wpOp_mono (fun a' W' hq => ?_) (hst a W h.ext hrd)
        obtain ⟨v, rfl, hX, hR⟩ := hq
        refine ih _ _ _ (by simpa using hsz) ?_ (h.step hp below_trans' hmono' (dsts_fit hd) ho hX hR) ⟨k.erase i, ?_, fun j hj hjf => ?_⟩
        · rw [getD_set_ne false (by omega)]; exact hnl
        · have := List.length_erase_of_mem (hmem i hlt hif)
          rw [this]; omega
        · by_cases hji : j = i
          · subst hji
            simp [Array.getD_eq_getD_getElem?, hil] at hjf
          · rw [getD_set_ne false (Ne.symm hji)] at hjf
            exact (List.mem_erase_of_ne hji).2 (hmem j hj hjf)
      · obtain rfl : i = l.length := by omega
        rw [hlast] at ho
        injection ho with ho
        subst ho
        have hothers : ∀ j, j < l.length → listed.getD j false = true := by
          intro j hj
          simp only [List.all_eq_true, List.mem_range, List.any_eq_true, Bool.and_eq_true, beq_iff_eq] at hwait
          obtain ⟨e, he, h2, h3⟩ := hwait j hj
          have := hpred e (by simpa using he) h3
          rw [h2] at this; exact this
        obtain ⟨W', hrun, hQ⟩ := hf a W ((Below.refl _ _).drew.trans h.ext) h.size h.defers h.outside (fun j d hjd => by
          have hjs : j < ops.size := by
            rcases Nat.lt_or_ge j ops.size with h | h
            · exact h
            · simp [dstOf, Array.getElem?_eq_none h] at hjd
          rcases Nat.lt_or_ge j l.length with h2 | h2
          · exact h.slots j d (hothers j h2) hjd
          · obtain rfl : j = l.length := by omega
            simp [dstOf, hlast, hld] at hjd)
        unfold wpOp
        simp only [hlast]
        rw [if_pos (wanted_plain hg)]
        refine .inl ?_
        unfold Oper.wp
        rw [hrun]
        show wpAny P .any ops Q fuel (listed.setIfInBounds l.length true) (a.put last.dst undef) W'
        have ea : a.put last.dst undef = a := by rw [hld]; rfl
        rw [ea]
        refine done fuel _ a W' (by simpa using hsz) (fun j hj => ?_) hQ
        by_cases hj2 : j = l.length
        · subst hj2; simp [Array.getD_eq_getD_getElem?, hil]
        · rw [getD_set_ne false (Ne.symm hj2)]; exact hothers j (by omega)
  refine key ops.size (Array.replicate ops.size false) a0 w0.drew (by simp) (by simp [Array.getD_eq_getD_getElem?, Array.getElem?_replicate, hsize]) ⟨Below.refl _ _, rfl, rfl, fun _ _ => rfl, fun j d hj _ => ?_, fun j hj _ => ?_⟩ ⟨List.range ops.size, by simp, fun j hj _ => List.mem_range.2 hj⟩
  · simp [Array.getD_eq_getD_getElem?, Array.getElem?_replicate] at hj; split at hj <;> simp at hj
  · simp [Array.getD_eq_getD_getElem?, Array.getElem?_replicate] at hj; split at hj <;> simp at hj
theorem wp_region_tailN {P : Program} {ops : Array Oper} {Q : Exit → Act → World → Prop} {a0 : Act} {w0 : World} {id : Nat} (n : Nat) (last : Oper) (hlast : ops[n]? = some last) (hn : (ops.size == n + 1) = true) (R : List Rel) (rows : List Row) (hm : P.follows .mixedOrders = true) (hp : plainOps ops = true) (hd : dstsFit ops a0.tmps.size = true)
    (hld : last.dst = none) (hg : last.guard = none) (hwait : ((List.range n).all fun j => last.after.toList.any fun e => e.on == j && Region.binds .any e) = true)
    (hrows : rowsOk ops (ops.toList.take n) rows = true) (hlen : (R.length == n) = true) (hmono : MonoAll R)
    (hs : StepsC P R a0 w0.drew 0 (ops.toList.take n) rows)
    (hf : ∀ (a : Act) (W : World), Below w0.heap.size w0 W → a.tmps.size = a0.tmps.size → a.defers = a0.defers → (∀ t, isDst ops t = false → a.tmps.getD t undef = a0.tmps.getD t undef) → (∀ j d, dstOf ops j = some d → (R.getD j Rel.none_) (a.tmps.getD d undef) W) →
      ∃ W', (execOp a.eval last).run P W = .ok .skip W' ∧ Q .normal a W') :
    (Code.region id ops true).wp P Q a0 w0 := by
  have hsz : ops.size = n + 1 := by simpa using hn
  have hll : (ops.toList.take n).length = n := by simp; omega
  refine wp_region_tail (ops.toList.take n) last R rows hm hp hd ?_ hld hg (by rw [hll]; exact hwait) hrows (by rw [hll]; exact hlen) hmono hs hf
  have h1 : ops.toList.take (n + 1) = ops.toList.take n ++ [last] := by
    rw [List.take_add_one]
    have : ops.toList[n]? = some last := by simpa using hlast
    rw [this]; rfl
  rw [← h1, List.take_of_length_le (by simp; omega)]
theorem exec_store_row {P : Program} {ρ : Operand → Value} {o : Oper} {w : World} (ty : TypeId) (x y : Operand) (ho : o.op = .store ty x y)
    (g : Nat) (cells : Array Value) (hx : ρ x = .pointer (some ⟨g, 0, none⟩)) (hy : ρ y = .agg cells)
    (t : TypeId) (old : Array Value) (hg : w.heap[g]? = some (.cells old t (0, 0))) (hi : (P.info? ty).map (·.size) = some cells.size)
    (hold : old.size = cells.size) (h1 : cells.all (·.oneCell') = true) : (execOp ρ o).run P w = .ok .skip (w.setRow g cells) := by
  unfold execOp
  simp only [ho, hx, hy, Instr.storeAt, Instr.sureAddr, Sem.run_bind, Sem.run_pure, Result.andThen_ok, run_storeVar_row w g t ty old cells hg hi hold h1]
end Go.Proofs.YtlimabhojocimaaDoor
