/- A region that draws its order, in which some operations act, each waiting for the one ahead of it (a chain); the last operation may be a store that waits for all others. Layer 19's law, plain: what is on a way, what comes to an end, in order, each once. Layer 19's law, plain: both directions; when nothing is lost any more, all comes. Layer 19: LinkOnce's world: two ends, two ways, what was put, what came. Layer 19's law, plain: the calm steps. A region with a chain of acts, the frame behind it left open at the slots that it writes. Layer 19: LinkOnce's world in a step, by places. Layer 19: LinkOnce's regions, each of no frame in particular: the operations, and what serves for each. Layer 19: LinkOnce: what holds ahead of each step, and what each kind of step makes of it. -/
import Derived.Test.YtodimanghmepoaaDoorRegionB
import Derived.Test.YtodimanghmepoaaDoorLkO
import Derived.Laws.Tables
import Derived.Laws.Rows
namespace Go.Proofs.YtodimanghmepoaaDoor
open Go.RowKit
abbrev RelK := List Value → Value → Prop
def RelK.any_ : RelK := fun _ _ => True
/-- the k-th act's value -/
def actR (k : Nat) : RelK := fun vs v => k < vs.length ∧ v = vs.getD k undef
/-- a known value -/
def isK (c : Value) : RelK := fun _ v => v = c
def relK (acts : List Nat) (R : List RelK) (i : Nat) : RelK := match acts.idxOf? i with
  | some k => actR k
  | none => R.getD i RelK.any_
theorem actR_mono (k : Nat) (vs : List Value) (u v : Value) (h : actR k vs v) : actR k (vs ++ [u]) v := by
  obtain ⟨h1, h2⟩ := h
  refine ⟨by rw [List.length_append]; omega, ?_⟩
  rw [h2, List.getD_eq_getElem?_getD, List.getD_eq_getElem?_getD, List.getElem?_append_left h1]
def MonoK (r : RelK) : Prop := ∀ vs u v, r vs v → r (vs ++ [u]) v
theorem mono_isK (c : Value) : MonoK (isK c) := fun _ _ _ h => h
theorem mono_anyK : MonoK RelK.any_ := fun _ _ _ h => h
def MonoAllK : List RelK → Prop
  | [] => True
  | r :: l => MonoK r ∧ MonoAllK l
theorem MonoAllK.getD : ∀ (l : List RelK) (i : Nat), MonoAllK l → MonoK (l.getD i RelK.any_)
  | [], _, _ => mono_anyK
  | r :: _, 0, h => h.1
  | _ :: l, i + 1, h => MonoAllK.getD l i h.2
def FPK (acts : List Nat) (R : List RelK) (ρ : Operand → Value) (vs : List Value) : List (Tmp × Nat) → Prop
  | [] => True
  | p :: l => relK acts R p.2 vs (ρ (.tmp p.1)) ∧ FPK acts R ρ vs l
/-- what an act leaves -/
def ActK (P : Program) (Φ : List Value → World → Prop) (vs : List Value) (W : World) : Result Next → Prop
  | .ok (.value v) W' => Φ (vs ++ [v]) W'
  | .ok (.enter f args) W' => W' = W ∧ Calls P f args W (fun e W'' => ∃ v, e = .returned v ∧ Φ (vs ++ [v]) W'')
  | .ok .skip W' => Φ (vs ++ [undef]) W'
  | _ => False
theorem actK_call {P : Program} {Φ : List Value → World → Prop} {vs : List Value} {W : World} {r : Result Next} {f : FuncId} {args : Array Value} (hr : r = .ok (.enter f args) W) (hc : Calls P f args W (fun e W'' => ∃ v, e = .returned v ∧ Φ (vs ++ [v]) W'')) : ActK P Φ vs W r := by
  subst hr; exact ⟨rfl, hc⟩
def StepsK (P : Program) (acts : List Nat) (Φ : List Value → World → Prop) (R : List RelK) (a0 : Act) : Nat → List Oper → List Row → Prop
  | i, o :: l, r :: rs => (match acts.idxOf? i with
      | some k => ∀ (ρ : Operand → Value) (W : World) (vs : List Value), Env ρ → vs.length = k → Φ vs W → FPK acts R ρ vs r.preds → FO a0 ρ r.outs → ActK P Φ vs W ((execOp ρ o).run P W)
      | none => ∀ (ρ : Operand → Value) (W : World) (vs : List Value), Env ρ → Φ vs W → FPK acts R ρ vs r.preds → FO a0 ρ r.outs → Turn P ρ W (fun v _ => R.getD i RelK.any_ vs v) o r.guard) ∧ StepsK P acts Φ R a0 (i + 1) l rs
  | _, _, _ => True
theorem StepsK.at_ {P : Program} {ops : Array Oper} {acts : List Nat} {Φ : List Value → World → Prop} {R : List RelK} {a0 : Act} : ∀ (l : List Oper) (rs : List Row) (k i : Nat) (o : Oper), rowsOk ops l rs = true → StepsK P acts Φ R a0 k l rs → l[i]? = some o → ∃ r : Row, rowOk ops o r = true ∧
    (match acts.idxOf? (k + i) with
      | some k' => ∀ (ρ : Operand → Value) (W : World) (vs : List Value), Env ρ → vs.length = k' → Φ vs W → FPK acts R ρ vs r.preds → FO a0 ρ r.outs → ActK P Φ vs W ((execOp ρ o).run P W)
      | none => ∀ (ρ : Operand → Value) (W : World) (vs : List Value), Env ρ → Φ vs W → FPK acts R ρ vs r.preds → FO a0 ρ r.outs → Turn P ρ W (fun v _ => R.getD (k + i) RelK.any_ vs v) o r.guard)
  | [], _, _, _, _, _, _, h => by simp at h
  | o' :: l, [], _, _, _, hr, _, _ => by simp [rowsOk] at hr
  | o' :: l, r :: rs, k, 0, o, hr, hs, h => by
    simp at h; subst h
    simp only [rowsOk, Bool.and_eq_true] at hr
    exact ⟨r, hr.1, hs.1⟩
  | o' :: l, r :: rs, k, i + 1, o, hr, hs, h => by
    simp only [rowsOk, Bool.and_eq_true] at hr
    have := StepsK.at_ l rs (k + 1) i o hr.2 hs.2 (by simpa using h)
    rwa [Nat.add_assoc, Nat.add_comm 1 i] at this
/-- each act waits for the one ahead; none has a guard; all lie ahead of the tail -/
def chainOk (ops : Array Oper) (m : Nat) (acts : List Nat) : Bool :=
  (List.range acts.length).all fun k => match acts[k]? with
    | some i => decide (i < m) && (acts.idxOf? i == some k) && ((ops[i]?).all fun o => o.guard.isNone) && (match k with
      | 0 => true
      | k' + 1 => match acts[k']? with
        | some i' => ((ops[i]?).all fun o => o.after.toList.any fun e => e.on == i' && Region.binds .any e)
        | none => false)
    | none => false
def tailOk (ops : Array Oper) (m : Nat) : Bool := ops.size == m || (ops.size == m + 1 && (match ops[m]? with
  | some last => last.dst.isNone && last.guard.isNone && ((List.range m).all fun j => last.after.toList.any fun e => e.on == j && Region.binds .any e)
  | none => false))
structure InvK (ops : Array Oper) (acts : List Nat) (Φ : List Value → World → Prop) (R : List RelK) (a0 : Act) (listed : Array Bool) (a : Act) (W : World) (vs : List Value) : Prop where
  phi : Φ vs W
  size : a.tmps.size = a0.tmps.size
  defers : a.defers = a0.defers
  outside : ∀ t, isDst ops t = false → a.tmps.getD t undef = a0.tmps.getD t undef
  slots : ∀ j d, listed.getD j false = true → dstOf ops j = some d → relK acts R j vs (a.tmps.getD d undef)
  cnt : ∀ k i, acts[k]? = some i → (listed.getD i false = true ↔ k < vs.length)
  len : vs.length ≤ acts.length
section
variable {P : Program} {ops : Array Oper} {Q : Exit → Act → World → Prop} {a0 : Act} {w0 : World} {acts : List Nat} {Φ : List Value → World → Prop} {R : List RelK}
theorem factsK {o : Oper} {a : Act} {vs : List Value} (h : ∀ e ∈ o.after.toList, Region.binds .any e = true → ∀ d, dstOf ops e.on = some d → relK acts R e.on vs (a.tmps.getD d undef)) : ∀ (l : List (Tmp × Nat)),
    (l.all fun p => o.after.toList.any (fun e => e.on == p.2 && Region.binds .any e) && dstOf ops p.2 == some p.1) = true → FPK acts R a.eval vs l
  | [], _ => trivial
  | p :: l, hl => by
    simp only [List.all_cons, Bool.and_eq_true] at hl
    obtain ⟨⟨h1, h2⟩, h3⟩ := hl
    simp only [List.any_eq_true, Bool.and_eq_true, beq_iff_eq] at h1 h2
    obtain ⟨e, he, h4, h5⟩ := h1
    have h6 := h e he h5 p.1 (by rw [h4]; exact h2)
    rw [h4] at h6
    exact ⟨h6, factsK h l h3⟩
theorem outsK {a : Act} (h : ∀ t, isDst ops t = false → a.tmps.getD t undef = a0.tmps.getD t undef) : ∀ (os : List Tmp), (os.all fun t => !isDst ops t) = true → FO a0 a.eval os
  | [], _ => trivial
  | t :: os, ho => by
    simp only [List.all_cons, Bool.and_eq_true] at ho
    exact ⟨h t (by simpa using ho.1), outsK h os ho.2⟩
/-- **a region that draws its order, with a chain of acts** -/
theorem wp_region_chain {id : Nat} (m : Nat) (acts : List Nat) (Φ : List Value → World → Prop) (R : List RelK) (rows : List Row) (hm : P.follows .mixedOrders = true) (hp : plainOps ops = true) (hd : dstsFit ops a0.tmps.size = true)
    (hrows : rowsOk ops (ops.toList.take m) rows = true) (hch : chainOk ops m acts = true) (htl : tailOk ops m = true)
    (hΦ : ∀ vs W W', Φ vs W → Below W.heap.size W W' → Φ vs W') (hmono : MonoAllK R)
    (h0 : Φ [] w0) (hs : StepsK P acts Φ R a0 0 (ops.toList.take m) rows)
    (hf : ∀ (a : Act) (W : World) (vs : List Value), vs.length = acts.length → Φ vs W → a.tmps.size = a0.tmps.size → a.defers = a0.defers → (∀ t, isDst ops t = false → a.tmps.getD t undef = a0.tmps.getD t undef) → (∀ j d, j < m → dstOf ops j = some d → relK acts R j vs (a.tmps.getD d undef)) →
      (ops.size = m → Q .normal a W) ∧ (∀ last, ops.size = m + 1 → ops[m]? = some last → ∃ W', (execOp a.eval last).run P W = .ok .skip W' ∧ Q .normal a W')) :
    (Code.region id ops true).wp P Q a0 w0 := by
  have hd' := dsts_fit hd
  have hmle : m ≤ ops.size := by
    unfold tailOk at htl
    simp only [Bool.or_eq_true, Bool.and_eq_true, beq_iff_eq] at htl
    omega
  have hml : (ops.toList.take m).length = m := by simp; omega
  have hat : ∀ j, j < m → (ops.toList.take m)[j]? = ops[j]? := fun j hj => by
    rw [List.getElem?_take_of_lt hj]; simp
  have hact : ∀ k i, acts[k]? = some i → i < m ∧ acts.idxOf? i = some k ∧ (∀ o, ops[i]? = some o → o.guard = none) ∧ (∀ k' i', k = k' + 1 → acts[k']? = some i' → ∀ o, ops[i]? = some o → ∃ e ∈ o.after.toList, e.on = i' ∧ Region.binds .any e = true) := by
    intro k i hk
    have hkl : k < acts.length := (List.getElem?_eq_some_iff.1 hk).1
    simp only [chainOk, List.all_eq_true, List.mem_range] at hch
    have h1 := hch k hkl
    rw [hk] at h1
    simp only [Bool.and_eq_true, decide_eq_true_eq, beq_iff_eq] at h1
    obtain ⟨⟨⟨g1, g2⟩, g3⟩, g4⟩ := h1
    refine ⟨g1, g2, fun o ho => by rw [ho] at g3; simpa using g3, fun k' i' e hk' o ho => ?_⟩
    subst e
    simp only [hk', ho, Option.all_some, List.any_eq_true, Bool.and_eq_true, beq_iff_eq] at g4
    obtain ⟨e, he, h2, h3⟩ := g4
    exact ⟨e, he, h2, h3⟩
  have hidx : ∀ i k, acts.idxOf? i = some k → acts[k]? = some i := by
    intro i k h
    rw [List.idxOf?_eq_some_iff] at h
    obtain ⟨hlt, h1, _⟩ := h
    rw [List.getElem?_eq_getElem hlt, h1]
  have rmono : ∀ j vs u v, relK acts R j vs v → relK acts R j (vs ++ [u]) v := by
    intro j vs u v h
    unfold relK at *
    cases hj : acts.idxOf? j with
    | some k => rw [hj] at h; exact actR_mono k vs u v h
    | none => rw [hj] at h; exact MonoAllK.getD R j hmono vs u v h
  refine wp_region_any hm ?_
  have hdone : ∀ (fuel : Nat) (listed : Array Bool) (a : Act) (W : World), listed.size = ops.size → (∀ j, j < ops.size → listed.getD j false = true) → Q .normal a W → wpAny P .any ops Q fuel listed a W := by
    intro fuel listed a W hsz hall hQ
    have hno : ∀ i, i ∈ Region.ready .any ops listed → False := by
      intro i hi
      rw [mem_ready] at hi
      obtain ⟨h1, o, ho, _⟩ := hi
      have hlt : i < ops.size := (Array.getElem?_eq_some_iff.1 ho).1
      have h2 := hall i hlt
      have : i < listed.size := by omega
      simp [Array.getD_eq_getD_getElem?, this] at h1 h2
      rw [h1] at h2; cases h2
    have hre : Region.ready .any ops listed = [] := by
      rcases hr : Region.ready .any ops listed with _ | ⟨i, r⟩
      · rfl
      · exact (hno i (by rw [hr]; exact List.mem_cons_self)).elim
    cases fuel with
    | zero => exact ⟨hre, hQ⟩
    | succ fuel => exact ⟨fun _ => hQ, fun i hi => (hno i hi).elim⟩
  have hend : ∀ (listed : Array Bool) (a : Act) (W : World) (vs : List Value), InvK ops acts Φ R a0 listed a W vs → (∀ j, j < m → listed.getD j false = true) →
      (ops.size = m → Q .normal a W) ∧ (∀ last, ops.size = m + 1 → ops[m]? = some last → ∃ W', (execOp a.eval last).run P W = .ok .skip W' ∧ Q .normal a W') := by
    intro listed a W vs h hall
    refine hf a W vs ?_ h.phi h.size h.defers h.outside (fun j d hj hjd => h.slots j d (hall j hj) hjd)
    refine Nat.le_antisymm h.len ?_
    rcases Nat.lt_or_ge vs.length acts.length with h1 | h1
    · have h2 := (h.cnt vs.length acts[vs.length] (List.getElem?_eq_getElem h1)).1 (hall _ (hact _ _ (List.getElem?_eq_getElem h1)).1)
      omega
    · exact h1
  have key : ∀ (fuel : Nat) (listed : Array Bool) (a : Act) (W : World) (vs : List Value), listed.size = ops.size → (ops.size = m + 1 → listed.getD m false = false) → InvK ops acts Φ R a0 listed a W vs →
      (∃ l : List Nat, l.length ≤ fuel ∧ ∀ j, j < ops.size → listed.getD j false = false → j ∈ l) → wpAny P .any ops Q fuel listed a W := by
    intro fuel
    induction fuel with
    | zero =>
      rintro listed a W vs hsz hnl h ⟨l, hl, hmem⟩
      have hl0 : l = [] := List.eq_nil_of_length_eq_zero (by omega)
      subst hl0
      have hall : ∀ j, j < ops.size → listed.getD j false = true := by
        intro j hj
        rcases hb : listed.getD j false with _ | _
        · have := hmem j hj hb; cases this
        · rfl
      rcases Nat.lt_or_ge m ops.size with h1 | h1
      · have hs1 : ops.size = m + 1 := by
          unfold tailOk at htl
          simp only [Bool.or_eq_true, Bool.and_eq_true, beq_iff_eq] at htl
          omega
        have := hnl hs1
        rw [hall m (by omega)] at this; cases this
      · exact hdone 0 listed a W hsz hall ((hend listed a W vs h (fun j hj => hall j (by omega))).1 (by omega))
    | succ fuel ih =>
      rintro listed a W vs hsz hnl h ⟨l, hl, hmem⟩
      refine ⟨fun hr => ?_, fun i hi => ?_⟩
      · have hall := all_listed hp hsz hr
        rcases Nat.lt_or_ge m ops.size with h1 | h1
        · have hs1 : ops.size = m + 1 := by
            unfold tailOk at htl
            simp only [Bool.or_eq_true, Bool.and_eq_true, beq_iff_eq] at htl
            omega
          have := hnl hs1
          rw [hall m (by omega)] at this; cases this
        · exact (hend listed a W vs h (fun j hj => hall j (by omega))).1 (by omega)
      obtain ⟨h1, o, ho, hpred⟩ := mem_ready.1 hi
      have hlt : i < ops.size := (Array.getElem?_eq_some_iff.1 ho).1
      have hil : i < listed.size := by omega
      have hif : listed.getD i false = false := by simp [Array.getD_eq_getD_getElem?, hil] at h1 ⊢; exact h1
      have hlist : ∃ l : List Nat, l.length ≤ fuel ∧ ∀ j, j < ops.size → (listed.setIfInBounds i true).getD j false = false → j ∈ l := by
        refine ⟨l.erase i, ?_, fun j hj hjf => ?_⟩
        · have := List.length_erase_of_mem (hmem i hlt hif)
          rw [this]; omega
        · by_cases hji : j = i
          · subst hji
            simp [Array.getD_eq_getD_getElem?, hil] at hjf
          · rw [getD_set_ne false (Ne.symm hji)] at hjf
            exact (List.mem_erase_of_ne hji).2 (hmem j hj hjf)
      by_cases him : i < m
      · have hfacts : ∀ e ∈ o.after.toList, Region.binds .any e = true → ∀ d, dstOf ops e.on = some d → relK acts R e.on vs (a.tmps.getD d undef) := fun e he hb d hd2 => h.slots e.on d (hpred e (by simpa using he) hb) hd2
        obtain ⟨r, hrow, hst⟩ := StepsK.at_ (ops.toList.take m) rows 0 i o hrows hs (by rw [hat i him]; exact ho)
        rw [Nat.zero_add] at hst
        have hr1 := hrow
        simp only [rowOk, Bool.and_eq_true] at hr1
        have hnl' : ops.size = m + 1 → (listed.setIfInBounds i true).getD m false = false := fun hs1 => by
          rw [getD_set_ne false (by omega)]; exact hnl hs1
        have hdo : dstOf ops i = o.dst := by simp [dstOf, ho]
        have houts : ∀ v t, isDst ops t = false → (a.put o.dst v).tmps.getD t undef = a0.tmps.getD t undef := by
          intro v t ht
          rw [put_getD_ne]
          · exact h.outside t ht
          · intro e
            have : isDst ops t = true := by
              simp only [isDst, List.any_eq_true, List.mem_range]
              exact ⟨i, hlt, by rw [hdo, e]; simp⟩
            rw [this] at ht; cases ht
        cases hact1 : acts.idxOf? i with
        | some k =>
          rw [hact1] at hst
          have hk := hidx i k hact1
          obtain ⟨_, _, hgn, hprev⟩ := hact k i hk
          have hvk : vs.length = k := by
            have hnot : ¬ k < vs.length := fun hlt => by
              have := (h.cnt k i hk).2 hlt
              rw [hif] at this; cases this
            cases k with
            | zero => omega
            | succ k' =>
              have hk'l : k' < acts.length := by have := (List.getElem?_eq_some_iff.1 hk).1; omega
              obtain ⟨e, he, h2, h3⟩ := hprev k' acts[k'] rfl (List.getElem?_eq_getElem hk'l) o ho
              have := hpred e (by simpa using he) h3
              rw [h2] at this
              have := (h.cnt k' _ (List.getElem?_eq_getElem hk'l)).1 this
              omega
          have hgo := hst a.eval W vs ⟨fun _ => rfl, fun _ => rfl, fun _ => rfl⟩ hvk h.phi (factsK hfacts _ hr1.1.1) (outsK h.outside _ hr1.1.2)
          have next : ∀ (v : Value) (W' : World), Φ (vs ++ [v]) W' → wpAny P .any ops Q fuel (listed.setIfInBounds i true) (a.put o.dst v) W' := by
            intro v W' hph
            refine ih _ _ _ (vs ++ [v]) (by simpa using hsz) hnl' ⟨hph, by rw [put_size]; exact h.size, by rw [put_defers]; exact h.defers, houts v, fun j d hj hjd => ?_, fun k2 i2 hk2 => ?_, ?_⟩ hlist
            · by_cases hji : j = i
              · subst hji
                rw [hdo] at hjd
                rw [hjd, put_getD_self _ _ _ (by rw [h.size]; exact hd' j d (by rw [hdo, hjd]))]
                unfold relK
                rw [hact1]
                exact ⟨by rw [List.length_append, hvk]; simp, by rw [List.getD_eq_getElem?_getD, List.getElem?_append_right (by omega), hvk]; simp⟩
              · rw [put_getD_ne]
                · rw [getD_set_ne false (Ne.symm hji)] at hj
                  exact rmono j vs v _ (h.slots j d hj hjd)
                · intro e
                  exact hji (plain_dst hp hjd (by rw [hdo]; exact e))
            · by_cases hkk : k2 = k
              · subst hkk
                rw [hk] at hk2; injection hk2 with hk2; subst hk2
                refine ⟨fun _ => by rw [List.length_append]; simp; omega, fun _ => ?_⟩
                simp [Array.getD_eq_getD_getElem?, hil]
              · have hne : i2 ≠ i := fun e => by
                  subst e
                  have := (hact k2 i2 hk2).2.1
                  rw [hact1] at this; injection this with this; exact hkk this.symm
                rw [getD_set_ne false (Ne.symm hne), h.cnt k2 i2 hk2, List.length_append]
                simp; omega
            · have hkl := (List.getElem?_eq_some_iff.1 hk).1
              rw [List.length_append]; simp; omega
          unfold wpOp
          simp only [ho]
          rw [if_pos (wanted_plain (hgn o ho))]
          refine .inl ?_
          unfold Oper.wp
          generalize (execOp a.eval o).run P W = res at hgo
          match res, hgo with
          | .ok (.value v) W', hk => exact next v W' hk
          | .ok .skip W', hk => exact next undef W' hk
          | .ok (.enter f args) W', hk =>
            obtain ⟨rfl, hc⟩ := hk
            refine Calls.mono hc ?_
            rintro e W'' ⟨v, rfl, h2⟩
            exact next v W'' h2
        | none =>
          rw [hact1] at hst
          refine wpOp_mono (fun a' W' hq => ?_) (step_of_turn ho hrow (hst a.eval W vs ⟨fun _ => rfl, fun _ => rfl, fun _ => rfl⟩ h.phi (factsK hfacts _ hr1.1.1) (outsK h.outside _ hr1.1.2)))
          obtain ⟨v, rfl, hX, hR⟩ := hq
          refine ih _ _ _ vs (by simpa using hsz) hnl' ⟨hΦ vs W W' h.phi hX, by rw [put_size]; exact h.size, by rw [put_defers]; exact h.defers, houts v, fun j d hj hjd => ?_, fun k2 i2 hk2 => ?_, h.len⟩ hlist
          · by_cases hji : j = i
            · subst hji
              rw [hdo] at hjd
              rw [hjd, put_getD_self _ _ _ (by rw [h.size]; exact hd' j d (by rw [hdo, hjd]))]
              unfold relK
              rw [hact1]
              exact hR
            · rw [put_getD_ne]
              · rw [getD_set_ne false (Ne.symm hji)] at hj
                exact h.slots j d hj hjd
              · intro e
                exact hji (plain_dst hp hjd (by rw [hdo]; exact e))
          · have hne : i2 ≠ i := fun e => by
              subst e
              have := (hact k2 i2 hk2).2.1
              rw [hact1] at this; cases this
            rw [getD_set_ne false (Ne.symm hne)]
            exact h.cnt k2 i2 hk2
      · have hs1 : ops.size = m + 1 := by
          unfold tailOk at htl
          simp only [Bool.or_eq_true, Bool.and_eq_true, beq_iff_eq] at htl
          omega
        obtain rfl : i = m := by omega
        unfold tailOk at htl
        simp only [Bool.or_eq_true, Bool.and_eq_true, beq_iff_eq, ho] at htl
        rcases htl with h2 | ⟨_, ⟨hdn, hgn⟩, hwait⟩
        · omega
        have hothers : ∀ j, j < i → listed.getD j false = true := by
          intro j hj
          simp only [List.all_eq_true, List.mem_range, List.any_eq_true, Bool.and_eq_true, beq_iff_eq] at hwait
          obtain ⟨e, he, h2, h3⟩ := hwait j hj
          have := hpred e (by simpa using he) h3
          rw [h2] at this; exact this
        obtain ⟨W', hrun, hQ⟩ := (hend listed a W vs h hothers).2 o hs1 ho
        unfold wpOp
        simp only [ho]
        rw [if_pos (wanted_plain (by simpa using hgn))]
        refine .inl ?_
        unfold Oper.wp
        rw [hrun]
        show wpAny P .any ops Q fuel (listed.setIfInBounds i true) (a.put o.dst undef) W'
        have ea : a.put o.dst undef = a := by
          have : o.dst = none := by simpa using hdn
          rw [this]; rfl
        rw [ea]
        refine hdone fuel _ a W' (by simpa using hsz) (fun j hj => ?_) hQ
        by_cases hj2 : j = i
        · subst hj2; simp [Array.getD_eq_getD_getElem?, hil]
        · rw [getD_set_ne false (Ne.symm hj2)]; exact hothers j (by omega)
  refine key ops.size (Array.replicate ops.size false) a0 w0.drew [] (by simp) (fun hs1 => by simp [Array.getD_eq_getD_getElem?, Array.getElem?_replicate, hs1]) ⟨hΦ [] w0 w0.drew h0 (Below.refl _ _).drew, rfl, rfl, fun _ _ => rfl, fun j d hj _ => ?_, fun k i hk => ?_, by simp⟩ ⟨List.range ops.size, by simp, fun j hj _ => List.mem_range.2 hj⟩
  · simp [Array.getD_eq_getD_getElem?, Array.getElem?_replicate] at hj; split at hj <;> simp at hj
  · simp [Array.getD_eq_getD_getElem?, Array.getElem?_replicate]; split <;> simp
end
end Go.Proofs.YtodimanghmepoaaDoor
namespace Go.Proofs.YtodimanghmepoaaDoor
open Go.RowKit
/-- bytes, each as a body -/
def bods (l : List Nat) : List (List Nat) := l.map fun x => [x]
/-- what a datagram is that goes from an end to an other: a body that was put, or word -/
def DGX (sx sy : LSt) (P : List Nat) (d : List Nat) : Prop :=
  (∃ q : Nat, 1 ≤ q ∧ (q : Int) ≤ sx.S ∧ q ≤ P.length ∧ d = encL sx.me sy.me false 1 q [P.getD (q - 1) 0]) ∨ (∃ m : Nat, (m : Int) ≤ sx.RL ∧ d = encL sx.me sy.me true 1 m [])
/-- one direction: the sender sa, the receiver sb, what was put, what came -/
structure Dir (sa sb : LSt) (P C : List Nat) : Prop where
  E : sa.E = 1
  j : ∃ j r : Nat, sa.S = j + 1 ∧ sb.RL = r ∧ j ≤ r ∧ r ≤ j + 1 ∧ r ≤ P.length ∧ sa.l = bods (P.drop j) ∧ C = P.take r
  RE : (sb.RE = 0 ∧ sb.RL = 0) ∨ sb.RE = 1
  gv : sb.gv = true → sb.ep = 1 ∧ 0 ≤ sb.sq ∧ sb.sq ≤ sb.RL
theorem rc_one {RE : Int} {r q : Nat} (h : (RE = 0 ∧ (r : Int) = 0) ∨ RE = 1) (hq : 1 ≤ q ∧ q ≤ 1000) (hr : r ≤ 1000) :
    rc RE r 1 q = if q = r + 1 then ((1, (q : Int)), true, (q : Int)) else ((1, (r : Int)), false, (r : Int)) := by
  unfold rc
  rcases h with ⟨rfl, h0⟩ | rfl
  · have hr0 : r = 0 := by omega
    subst hr0
    rw [if_neg (by omega), if_pos (show (0 : Int) < 1 by omega)]
    by_cases h1 : q = 0 + 1
    · rw [if_pos (by omega), if_pos h1]
    · rw [if_neg (by omega), if_neg h1]; rfl
  · rw [if_neg (by omega), if_neg (show ¬ (1 : Int) < 1 by omega)]
    by_cases h1 : q = r + 1
    · rw [if_pos (by omega), if_pos h1]
    · rw [if_neg (by omega), if_neg h1]
section
variable {sa sb sx sy : LSt} {P C : List Nat}
theorem DGX.mono {sx' sy' : LSt} {P' : List Nat} {d : List Nat} (h : DGX sx sy P d) (h1 : sx'.me = sx.me) (h2 : sy'.me = sy.me) (h3 : sx.S ≤ sx'.S) (h4 : sx.RL ≤ sx'.RL) (h5 : ∃ t, P' = P ++ t) : DGX sx' sy' P' d := by
  obtain ⟨t, rfl⟩ := h5
  rcases h with ⟨q, a, b, c, rfl⟩ | ⟨m, a, rfl⟩
  · refine .inl ⟨q, a, by omega, by rw [List.length_append]; omega, ?_⟩
    rw [h1, h2]
    have : (P ++ t).getD (q - 1) 0 = P.getD (q - 1) 0 := by
      rw [List.getD_eq_getElem?_getD, List.getD_eq_getElem?_getD, List.getElem?_append_left (by omega)]
    rw [this]
  · exact .inr ⟨m, by omega, by rw [h1, h2]⟩
/-- what an end sends -/
theorem out_dgx (h : Dir sx sy P C) (hot : sx.ot = sy.me) (hg : sx.gv = true → sx.ep = 1 ∧ 0 ≤ sx.sq ∧ sx.sq ≤ sx.RL) : ∀ d ∈ outA sx ++ outB sx, DGX sx sy P d := by
  intro d hd
  rcases List.mem_append.1 hd with h1 | h1
  · unfold outA at h1
    split at h1
    · rename_i hgv
      obtain ⟨a, b, c⟩ := hg hgv
      rw [List.mem_singleton.1 h1]
      exact .inr ⟨sx.sq.toNat, by omega, by rw [hot, a, Int.toNat_of_nonneg b]⟩
    · cases h1
  · unfold outB at h1
    obtain ⟨j, r, a1, a2, a3, a4, a5, a6, a7⟩ := h.j
    cases hl : sx.l with
    | nil => rw [hl] at h1; cases h1
    | cons b rest =>
      rw [hl] at h1
      simp only at h1
      split at h1
      · rw [List.mem_singleton.1 h1]
        rw [a6] at hl
        have hj : j < P.length := by
          rcases Nat.lt_or_ge j P.length with h | h
          · exact h
          · rw [List.drop_eq_nil_of_le h] at hl; cases hl
        have hb : b = [P.getD j 0] := by
          rw [List.drop_eq_getElem_cons hj] at hl
          simp only [bods, List.map_cons] at hl
          injection hl with hl _
          rw [← hl, List.getD_eq_getElem?_getD, List.getElem?_eq_getElem hj]; rfl
        refine .inl ⟨j + 1, by omega, by rw [a1]; omega, by omega, ?_⟩
        rw [hot, h.E, a1, hb]
        simp
      · cases h1
theorem outS_keep (s : LSt) : (outS s).S = s.S ∧ (outS s).l = s.l ∧ (outS s).E = s.E ∧ (outS s).RE = s.RE ∧ (outS s).RL = s.RL ∧ (outS s).gv = false := by
  unfold outS; split <;> (try split) <;> simp_all
/-- an end hears what was sent to it -/
theorem hear_dgx {P' C' d : List Nat} (h : Dir sx sy P C) (h' : Dir sy sx P' C') (hd : DGX sx sy P d) (hP : P.length ≤ 1000) (hP' : P'.length ≤ 1000) {nx ny : Nat} (hx : sx.me = nx) (hy : sy.me = ny) (hot : sy.ot = nx) (h1 : nx ≤ 255) (h2 : ny ≤ 255) (hne : nx ≠ ny) :
    ∃ s' bd is, hearR sy d = (s', bd, is, 0) ∧ Dir sx s' P (C ++ bd) ∧ Dir s' sx P' C' ∧ s'.me = sy.me ∧ s'.ot = sy.ot ∧ sy.S ≤ s'.S ∧ sy.RL ≤ s'.RL ∧ (is = false → bd = []) := by
  obtain ⟨j, r, a1, a2, a3, a4, a5, a6, a7⟩ := h.j
  obtain ⟨j', r', b1, b2, b3, b4, b5, b6, b7⟩ := h'.j
  rcases hd with ⟨q, q1, q2, q3, rfl⟩ | ⟨m, m1, rfl⟩
  · rw [hx, hy]
    have hm : FMay (nx : Nat) (ny : Nat) false ((1 : Nat) : Int) (q : Nat) [P.getD (q - 1) 0].length := by unfold FMay; simp; omega
    have hrc := rc_one (RE := sy.RE) (r := r) (q := q) (by have := h.RE; rw [a2] at this; exact this) ⟨q1, by omega⟩ (by omega)
    rw [← a2] at hrc
    by_cases hq : q = r + 1
    · rw [if_pos hq] at hrc
      have hh := hear_data (s := sy) hm hot.symm hy.symm hrc
      have ht : takeS sy ((1 : Nat) : Int) (q : Nat) = { sy with RE := 1, RL := q, gv := true, ep := 1, sq := q } := by
        unfold takeS
        simp only
        have : rc sy.RE sy.RL ((1 : Nat) : Int) (q : Nat) = ((1, (q : Int)), true, (q : Int)) := hrc
        rw [this]
        simp only
        rw [if_pos (by omega)]
        rfl
      rw [ht] at hh
      refine ⟨_, _, _, hh, ?_, ?_, hy, rfl, Int.le_refl _, by show sy.RL ≤ (q : Int); omega, fun h => by cases h⟩
      · refine ⟨h.E, ⟨j, r + 1, a1, by show (q : Int) = _; omega, by omega, by omega, by omega, a6, ?_⟩, .inr rfl, fun _ => ⟨rfl, by show (0 : Int) ≤ q; omega, Int.le_refl _⟩⟩
        rw [a7, if_pos rfl, List.take_add_one]
        subst hq
        rw [Nat.add_sub_cancel, List.getD_eq_getElem?_getD, List.getElem?_eq_getElem (by omega)]
        rfl
      · exact ⟨h'.E, ⟨j', r', b1, b2, b3, b4, b5, b6, b7⟩, h'.RE, h'.gv⟩
    · rw [if_neg hq] at hrc
      have hrc' : rc sy.RE sy.RL ((1 : Nat) : Int) (q : Nat) = ((1, (r : Int)), false, (r : Int)) := by rw [a2] at hrc ⊢; exact hrc
      have hh := hear_data (s := sy) hm hot.symm hy.symm hrc'
      have ht : takeS sy ((1 : Nat) : Int) (q : Nat) = { sy with RE := 1, RL := r, gv := true, ep := 1, sq := r } := by
        unfold takeS
        simp only
        rw [hrc']
        simp only
        rw [if_pos (by omega)]
        rfl
      rw [ht] at hh
      refine ⟨_, _, _, hh, ?_, ?_, hy, rfl, Int.le_refl _, by show sy.RL ≤ (r : Int); omega, fun _ => if_neg (by decide)⟩
      · refine ⟨h.E, ⟨j, r, a1, rfl, a3, a4, a5, a6, ?_⟩, .inr rfl, fun _ => ⟨rfl, by show (0 : Int) ≤ r; omega, Int.le_refl _⟩⟩
        rw [if_neg (by decide), List.append_nil]; exact a7
      · exact ⟨h'.E, ⟨j', r', b1, b2, b3, b4, b5, b6, b7⟩, h'.RE, h'.gv⟩
  · rw [hx, hy]
    have hm : FMay (nx : Nat) (ny : Nat) true ((1 : Nat) : Int) (m : Nat) ([] : List Nat).length := by unfold FMay; simp; omega
    have hh := hear_word (s := sy) hm hot.symm hy.symm
    refine ⟨_, _, _, hh, ?_, ?_, (heardS_me _ _ _).1.trans hy, (heardS_me _ _ _).2, ?_, ?_, fun _ => rfl⟩
    · rw [List.append_nil]
      unfold heardS
      split
      · split
        · exact ⟨h.E, ⟨j, r, a1, a2, a3, a4, a5, a6, a7⟩, h.RE, h.gv⟩
        · exact h
      · exact h
    · unfold heardS
      cases hl : sy.l with
      | nil => exact h'
      | cons b rest =>
        simp only
        split
        · rename_i hc
          rw [b6] at hl
          have hj : j' < P'.length := by
            rcases Nat.lt_or_ge j' P'.length with h | h
            · exact h
            · rw [List.drop_eq_nil_of_le h] at hl; cases hl
          refine ⟨h'.E, ⟨j' + 1, r', by show sy.S + 1 = _; rw [b1]; omega, b2, by omega, by omega, b5, ?_, b7⟩, h'.RE, h'.gv⟩
          rw [List.drop_eq_getElem_cons hj] at hl
          simp only [bods, List.map_cons] at hl
          injection hl with _ hl
          exact hl.symm
        · exact h'
    · unfold heardS; split <;> (try split) <;> simp <;> omega
    · unfold heardS; split <;> (try split) <;> simp
theorem Dir.out_r (h : Dir sx sy P C) : Dir sx (outS sy) P C := by
  obtain ⟨e1, e2, e3, e4, e5, e6⟩ := outS_keep sy
  exact ⟨h.E, by rw [e5]; exact h.j, by rw [e4, e5]; exact h.RE, fun h => by rw [e6] at h; cases h⟩
theorem Dir.out_s (h : Dir sx sy P C) : Dir (outS sx) sy P C := by
  obtain ⟨e1, e2, e3, e4, e5, e6⟩ := outS_keep sx
  exact ⟨by rw [e3]; exact h.E, by rw [e1, e2]; exact h.j, h.RE, h.gv⟩
theorem Dir.tick (h : Dir sx sy P C) : Dir (tickS sx) (tickS sy) P C := ⟨h.E, h.j, h.RE, h.gv⟩
theorem bods_append (a b : List Nat) : bods (a ++ b) = bods a ++ bods b := by simp [bods]
theorem Dir.put (h : Dir sx sy P C) (x : Nat) : Dir (putS sx [x]) sy (P ++ [x]) C := by
  obtain ⟨j, r, a1, a2, a3, a4, a5, a6, a7⟩ := h.j
  refine ⟨h.E, ⟨j, r, a1, a2, a3, a4, by rw [List.length_append]; omega, ?_, ?_⟩, h.RE, h.gv⟩
  · show sx.l ++ [[x]] = _
    by_cases hj : j ≤ P.length
    · rw [a6, List.drop_append_of_le_length hj, bods_append]; rfl
    · omega
  · rw [a7, List.take_append_of_le_length a5]
theorem Dir.put_r (h : Dir sx sy P C) (b : List Nat) : Dir sx (putS sy b) P C := ⟨h.E, h.j, h.RE, h.gv⟩
theorem Dir.front (h : Dir sx sy P C) : C.length ≤ P.length ∧ P.take C.length = C := by
  obtain ⟨j, r, a1, a2, a3, a4, a5, a6, a7⟩ := h.j
  have : C.length = r := by rw [a7, List.length_take]; omega
  exact ⟨by omega, by rw [this, a7]⟩
end
end Go.Proofs.YtodimanghmepoaaDoor
namespace Go.Proofs.YtodimanghmepoaaDoor
open Go.RowKit
/-- two ends x, y, the ways to them, what was put for them, what came -/
structure TI (sx sy : LSt) (nx ny : Nat) (wx wy : List (List Nat)) (Px Py Cx Cy : List Nat) : Prop where
  mx : sx.me = nx ∧ sx.ot = ny
  my : sy.me = ny ∧ sy.ot = nx
  nn : nx ≤ 255 ∧ ny ≤ 255 ∧ nx ≠ ny
  dx : Dir sy sx Px Cx
  dy : Dir sx sy Py Cy
  gx : ∀ d ∈ wx, DGX sy sx Px d
  gy : ∀ d ∈ wy, DGX sx sy Py d
section
variable {sx sy : LSt} {nx ny : Nat} {wx wy : List (List Nat)} {Px Py Cx Cy : List Nat}
theorem TI.symm (h : TI sx sy nx ny wx wy Px Py Cx Cy) : TI sy sx ny nx wy wx Py Px Cy Cx :=
  ⟨h.my, h.mx, ⟨h.nn.2.1, h.nn.1, fun e => h.nn.2.2 e.symm⟩, h.dy, h.dx, h.gy, h.gx⟩
theorem TI.sub (h : TI sx sy nx ny wx wy Px Py Cx Cy) {wx' : List (List Nat)} (hs : ∀ d ∈ wx', d ∈ wx) : TI sx sy nx ny wx' wy Px Py Cx Cy :=
  ⟨h.mx, h.my, h.nn, h.dx, h.dy, fun d hd => h.gx d (hs d hd), h.gy⟩
theorem TI.out (h : TI sx sy nx ny wx wy Px Py Cx Cy) : TI (outS sx) sy nx ny wx (wy ++ (outA sx ++ outB sx)) Px Py Cx Cy := by
  obtain ⟨e1, e2, e3, e4, e5, e6⟩ := outS_keep sx
  have hme := outS_me sx
  have hot : sx.ot = sy.me := by rw [h.mx.2, h.my.1]
  have up : ∀ d, DGX sx sy Py d → DGX (outS sx) sy Py d := fun d hd => hd.mono hme.1 rfl (by rw [e1]; exact Int.le_refl _) (by rw [e5]; exact Int.le_refl _) ⟨[], by simp⟩
  refine ⟨⟨hme.1.trans h.mx.1, hme.2.trans h.mx.2⟩, h.my, h.nn, h.dx.out_r, h.dy.out_s, fun d hd => (h.gx d hd).mono rfl hme.1 (Int.le_refl _) (Int.le_refl _) ⟨[], by simp⟩, fun d hd => ?_⟩
  rcases List.mem_append.1 hd with h1 | h1
  · exact up d (h.gy d h1)
  · exact up d (out_dgx h.dy hot h.dx.gv d h1)
theorem TI.tick (h : TI sx sy nx ny wx wy Px Py Cx Cy) : TI (tickS sx) (tickS sy) nx ny wx wy Px Py Cx Cy :=
  ⟨h.mx, h.my, h.nn, h.dx.tick, h.dy.tick, h.gx, h.gy⟩
theorem TI.put (h : TI sx sy nx ny wx wy Px Py Cx Cy) (b : Nat) : TI (putS sx [b]) sy nx ny wx wy Px (Py ++ [b]) Cx Cy :=
  ⟨h.mx, h.my, h.nn, h.dx.put_r [b], h.dy.put b, h.gx, fun d hd => (h.gy d hd).mono rfl rfl (Int.le_refl _) (Int.le_refl _) ⟨[b], rfl⟩⟩
theorem TI.hear (h : TI sx sy nx ny wx wy Px Py Cx Cy) (hP : Px.length ≤ 1000) (hP' : Py.length ≤ 1000) {d : List Nat} (hd : d ∈ wx) :
    ∃ s' bd is, hearR sx d = (s', bd, is, 0) ∧ TI s' sy nx ny wx wy Px Py (Cx ++ bd) Cy ∧ (is = false → bd = []) := by
  obtain ⟨s', bd, is, h1, h2, h3, h4, h5, h6, h7, h8⟩ := hear_dgx h.dx h.dy (h.gx d hd) hP hP' h.my.1 h.mx.1 h.mx.2 h.nn.2.1 h.nn.1 (fun e => h.nn.2.2 e.symm)
  refine ⟨s', bd, is, h1, ⟨⟨h4.trans h.mx.1, h5.trans h.mx.2⟩, h.my, h.nn, h2, h3, fun d hd => (h.gx d hd).mono rfl h4 (Int.le_refl _) (Int.le_refl _) ⟨[], by simp⟩, fun d hd => (h.gy d hd).mono h4 rfl h6 h7 ⟨[], by simp⟩⟩, h8⟩
end
/-- an end hears all -/
noncomputable def hearAll (s : LSt) : List (List Nat) → LSt
  | [] => s
  | d :: l => hearAll (hearR s d).1 l
theorem hearAll_append (s : LSt) (a b : List (List Nat)) : hearAll s (a ++ b) = hearAll (hearAll s a) b := by
  induction a generalizing s with
  | nil => rfl
  | cons d l ih => exact ih _
/-- how far a direction is from its end, ahead of a round -/
noncomputable def phi0 (sa sb : LSt) : Nat := if sa.l = [] then 0 else if sb.gv = true ∧ sb.sq = sa.S then 2 * sa.l.length - 1 else 2 * sa.l.length + sa.lf.toNat
/-- and ahead of its tick -/
noncomputable def phi2 (sa sb : LSt) : Nat := if sa.l = [] then 0 else if sb.gv = true ∧ sb.sq = sa.S then 2 * sa.l.length - 1 else 2 * sa.l.length + (sa.lf.toNat - 1)
theorem phi_tick (sa sb : LSt) (h : 0 ≤ sa.lf) : phi0 (tickS sa) (tickS sb) ≤ phi2 sa sb := by
  have e : (tickS sa).lf.toNat ≤ sa.lf.toNat - 1 := by
    show (if 0 < sa.lf then sa.lf - 1 else sa.lf).toNat ≤ _
    split <;> omega
  unfold phi0 phi2
  show (if sa.l = [] then 0 else if sb.gv = true ∧ sb.sq = sa.S then 2 * sa.l.length - 1 else 2 * sa.l.length + (tickS sa).lf.toNat) ≤ _
  split
  · omega
  split
  · omega
  · omega
theorem phi2_le {sa sb : LSt} (h : sa.l.length ≤ 20) (hl : 0 ≤ sa.lf ∧ sa.lf ≤ 24) : phi2 sa sb ≤ 64 := by
  unfold phi2
  split
  · omega
  split <;> omega
theorem heardS_c {s : LSt} {e q : Int} : (heardS s e q).gv = s.gv ∧ (heardS s e q).sq = s.sq ∧ (heardS s e q).RL = s.RL ∧ (heardS s e q).RE = s.RE := by
  unfold heardS; split <;> (try split) <;> exact ⟨rfl, rfl, rfl, rfl⟩
theorem takeS_c {s : LSt} {e q : Int} : (takeS s e q).l = s.l ∧ (takeS s e q).S = s.S ∧ (takeS s e q).lf = s.lf := by
  unfold takeS; simp only; split <;> exact ⟨rfl, rfl, rfl⟩
section
variable {px py : LSt} {nx ny : Nat} {Px Py Cx Cy : List Nat}
/-- what an end is, behind a round's hearing of what the other one sent: its sender -/
theorem round_s (h : TI px py nx ny [] [] Px Py Cx Cy) (hP : Px.length ≤ 1000) (hP' : Py.length ≤ 1000) :
    ((py.gv = true ∧ py.sq = px.S ∧ px.l ≠ []) → (hearAll (outS px) (outA py ++ outB py)).l.length + 1 = px.l.length ∧ (hearAll (outS px) (outA py ++ outB py)).lf = 0) ∧
    (¬ (py.gv = true ∧ py.sq = px.S ∧ px.l ≠ []) → (hearAll (outS px) (outA py ++ outB py)).l = px.l ∧ (hearAll (outS px) (outA py ++ outB py)).S = px.S ∧ (hearAll (outS px) (outA py ++ outB py)).lf = (outS px).lf) := by
  obtain ⟨e1, e2, e3, e4, e5, e6⟩ := outS_keep px
  obtain ⟨f1, f2, f3, f4, f5, f6⟩ := outS_keep py
  have hme := outS_me px
  -- the word
  have hA : hearAll (outS px) (outA py) = if py.gv = true then heardS (outS px) 1 py.sq else outS px := by
    unfold outA
    split
    · rename_i hg
      obtain ⟨g1, g2, g3⟩ := h.dy.gv hg
      obtain ⟨m, hm⟩ : ∃ m : Nat, py.sq = m := ⟨py.sq.toNat, by omega⟩
      obtain ⟨j, r, a1, a2, a3, a4, a5, a6, a7⟩ := h.dy.j
      have hmay : FMay (ny : Nat) (nx : Nat) true ((1 : Nat) : Int) (m : Nat) ([] : List Nat).length := by have := h.nn; unfold FMay; simp; omega
      have hh := hear_word (s := outS px) hmay (by rw [hme.2, h.mx.2]) (by rw [hme.1, h.mx.1])
      show (hearR (outS px) (encL py.me py.ot true py.ep py.sq [])).1 = _
      rw [h.my.1, h.my.2, g1, hm]
      show (hearR (outS px) (encL ((ny : Nat) : Int) ((nx : Nat) : Int) true ((1 : Nat) : Int) ((m : Nat) : Int) [])).1 = _
      rw [hh]; rfl
    · rfl
  -- the body: nothing of the sender is turned
  have hB : ∀ s : LSt, s.me = px.me → s.ot = px.ot → (hearAll s (outB py)).l = s.l ∧ (hearAll s (outB py)).S = s.S ∧ (hearAll s (outB py)).lf = s.lf := by
    intro s hs1 hs2
    have hd := out_dgx (sx := py) (sy := px) h.dx (by rw [h.my.2, h.mx.1]) h.dy.gv
    unfold outB at hd ⊢
    cases hl : py.l with
    | nil => exact ⟨rfl, rfl, rfl⟩
    | cons b rest =>
      rw [hl] at hd
      simp only at hd ⊢
      split
      · rename_i hlf
        rw [if_pos hlf] at hd
        obtain ⟨j, r, a1, a2, a3, a4, a5, a6, a7⟩ := h.dx.j
        show (hearR s (encL py.me py.ot false py.E py.S b)).1.l = _ ∧ (hearR s (encL py.me py.ot false py.E py.S b)).1.S = _ ∧ (hearR s (encL py.me py.ot false py.E py.S b)).1.lf = _
        have hbl : b.length ≤ 1 := by
          rw [a6] at hl
          have : b ∈ bods (Px.drop j) := by rw [hl]; exact List.mem_cons_self
          obtain ⟨z, _, rfl⟩ := List.mem_map.1 this
          simp
        have hj : j < Px.length := by
          rw [a6] at hl
          rcases Nat.lt_or_ge j Px.length with h | h
          · exact h
          · rw [List.drop_eq_nil_of_le h] at hl; cases hl
        have hmay : FMay (ny : Nat) (nx : Nat) false ((1 : Nat) : Int) ((j + 1 : Nat) : Int) b.length := by have := h.nn; unfold FMay; simp; omega
        rw [h.my.1, h.my.2, h.dx.E, a1]
        show (hearR s (encL ((ny : Nat) : Int) ((nx : Nat) : Int) false ((1 : Nat) : Int) ((j + 1 : Nat) : Int) b)).1.l = _ ∧ (hearR s (encL ((ny : Nat) : Int) ((nx : Nat) : Int) false ((1 : Nat) : Int) ((j + 1 : Nat) : Int) b)).1.S = _ ∧ (hearR s (encL ((ny : Nat) : Int) ((nx : Nat) : Int) false ((1 : Nat) : Int) ((j + 1 : Nat) : Int) b)).1.lf = _
        rw [hear_data (s := s) hmay (by rw [hs2, h.mx.2]) (by rw [hs1, h.mx.1]) (E2 := (rc s.RE s.RL ((1 : Nat) : Int) ((j + 1 : Nat) : Int)).1.1) (L2 := (rc s.RE s.RL ((1 : Nat) : Int) ((j + 1 : Nat) : Int)).1.2) (la := (rc s.RE s.RL ((1 : Nat) : Int) ((j + 1 : Nat) : Int)).2.2) (tk := (rc s.RE s.RL ((1 : Nat) : Int) ((j + 1 : Nat) : Int)).2.1) rfl]
        exact takeS_c
      · exact ⟨rfl, rfl, rfl⟩
  rw [hearAll_append, hA]
  refine ⟨fun ⟨g1, g2, g3⟩ => ?_, fun hn => ?_⟩
  · rw [if_pos g1]
    have hm := heardS_me (outS px) 1 py.sq
    obtain ⟨c1, c2, c3⟩ := hB (heardS (outS px) 1 py.sq) (hm.1.trans hme.1) (hm.2.trans hme.2)
    rw [c1, c3]
    unfold heardS
    rw [e2]
    cases hl : px.l with
    | nil => exact absurd hl g3
    | cons b r =>
      simp only
      rw [if_pos ⟨by rw [e3, h.dy.E], by rw [e1, g2]⟩]
      exact ⟨by simp, rfl⟩
  · by_cases g1 : py.gv = true
    · rw [if_pos g1]
      have hm := heardS_me (outS px) 1 py.sq
      obtain ⟨c1, c2, c3⟩ := hB (heardS (outS px) 1 py.sq) (hm.1.trans hme.1) (hm.2.trans hme.2)
      rw [c1, c2, c3]
      have hs : heardS (outS px) 1 py.sq = outS px := by
        unfold heardS
        rw [e2]
        cases hl : px.l with
        | nil => rfl
        | cons b r =>
          simp only
          rw [if_neg (fun hc => hn ⟨g1, by rw [hc.2, e1], by rw [hl]; simp⟩)]
      rw [hs]
      exact ⟨e2, e1, rfl⟩
    · rw [if_neg g1]
      obtain ⟨c1, c2, c3⟩ := hB (outS px) hme.1 hme.2
      rw [c1, c2, c3]
      exact ⟨e2, e1, rfl⟩
/-- and its receiver -/
theorem round_r (h : TI px py nx ny [] [] Px Py Cx Cy) (hP : Px.length ≤ 1000) (hP' : Py.length ≤ 1000) :
    ((px.l ≠ [] ∧ px.lf = 0) → (hearAll (outS py) (outA px ++ outB px)).gv = true ∧ (hearAll (outS py) (outA px ++ outB px)).sq = px.S) ∧
    (¬ (px.l ≠ [] ∧ px.lf = 0) → (hearAll (outS py) (outA px ++ outB px)).gv = false) := by
  obtain ⟨e1, e2, e3, e4, e5, e6⟩ := outS_keep py
  have hme := outS_me py
  -- the word turns nothing of the receiver
  obtain ⟨s1, hs1⟩ : ∃ s1, hearAll (outS py) (outA px) = s1 := ⟨_, rfl⟩
  have hA : s1.gv = false ∧ s1.RL = py.RL ∧ s1.RE = py.RE ∧ s1.me = py.me ∧ s1.ot = py.ot := by
    rw [← hs1]
    unfold outA
    split
    · rename_i hg
      obtain ⟨g1, g2, g3⟩ := h.dx.gv hg
      obtain ⟨m, hm⟩ : ∃ m : Nat, px.sq = m := ⟨px.sq.toNat, by omega⟩
      obtain ⟨j, r, a1, a2, a3, a4, a5, a6, a7⟩ := h.dx.j
      have hmay : FMay (nx : Nat) (ny : Nat) true ((1 : Nat) : Int) (m : Nat) ([] : List Nat).length := by have := h.nn; unfold FMay; simp; omega
      have hh := hear_word (s := outS py) hmay (by rw [hme.2, h.my.2]) (by rw [hme.1, h.my.1])
      have hx : (hearR (outS py) (encL px.me px.ot true px.ep px.sq [])).1 = heardS (outS py) ((1 : Nat) : Int) (m : Nat) := by
        rw [h.mx.1, h.mx.2, g1, hm]
        show (hearR (outS py) (encL ((nx : Nat) : Int) ((ny : Nat) : Int) true ((1 : Nat) : Int) ((m : Nat) : Int) [])).1 = _
        rw [hh]
      show (hearR (outS py) (encL px.me px.ot true px.ep px.sq [])).1.gv = false ∧ (hearR (outS py) (encL px.me px.ot true px.ep px.sq [])).1.RL = _ ∧ (hearR (outS py) (encL px.me px.ot true px.ep px.sq [])).1.RE = _ ∧ (hearR (outS py) (encL px.me px.ot true px.ep px.sq [])).1.me = _ ∧ (hearR (outS py) (encL px.me px.ot true px.ep px.sq [])).1.ot = _
      rw [hx]
      obtain ⟨c1, c2, c3, c4⟩ := heardS_c (s := outS py) (e := ((1 : Nat) : Int)) (q := (m : Nat))
      have hm2 := heardS_me (outS py) ((1 : Nat) : Int) (m : Nat)
      exact ⟨c1.trans e6, c3.trans e5, c4.trans e4, hm2.1.trans hme.1, hm2.2.trans hme.2⟩
    · exact ⟨e6, e5, e4, hme.1, hme.2⟩
  rw [hearAll_append, hs1]
  refine ⟨fun ⟨g1, g2⟩ => ?_, fun hn => ?_⟩
  · obtain ⟨b, rest, hl⟩ : ∃ b rest, px.l = b :: rest := by
      cases hl : px.l with
      | nil => exact absurd hl g1
      | cons b rest => exact ⟨b, rest, rfl⟩
    obtain ⟨j, r, a1, a2, a3, a4, a5, a6, a7⟩ := h.dy.j
    have hl2 := hl
    rw [a6] at hl2
    have hbl : b.length ≤ 1 := by
      have : b ∈ bods (Py.drop j) := by rw [hl2]; exact List.mem_cons_self
      obtain ⟨z, _, rfl⟩ := List.mem_map.1 this
      simp
    have hj : j < Py.length := by
      rcases Nat.lt_or_ge j Py.length with h | h
      · exact h
      · rw [List.drop_eq_nil_of_le h] at hl2; cases hl2
    have hmay : FMay (nx : Nat) (ny : Nat) false ((1 : Nat) : Int) ((j + 1 : Nat) : Int) b.length := by have := h.nn; unfold FMay; simp; omega
    have hrc : rc s1.RE s1.RL ((1 : Nat) : Int) ((j + 1 : Nat) : Int) = if j + 1 = r + 1 then ((1, ((j + 1 : Nat) : Int)), true, ((j + 1 : Nat) : Int)) else ((1, (r : Int)), false, (r : Int)) := by
      rw [hA.2.1, hA.2.2.1, a2]
      exact rc_one (by have := h.dy.RE; rw [a2] at this; exact this) ⟨by omega, by omega⟩ (by omega)
    have ho : outB px = [encL px.me px.ot false px.E px.S b] := by unfold outB; rw [hl]; simp only; rw [if_pos g2]
    have hx : (hearAll s1 (outB px)) = takeS s1 ((1 : Nat) : Int) ((j + 1 : Nat) : Int) := by
      rw [ho]
      show (hearR s1 (encL px.me px.ot false px.E px.S b)).1 = _
      rw [h.mx.1, h.mx.2, h.dy.E, a1]
      show (hearR s1 (encL ((nx : Nat) : Int) ((ny : Nat) : Int) false ((1 : Nat) : Int) ((j + 1 : Nat) : Int) b)).1 = _
      rw [hear_data (s := s1) hmay (by rw [hA.2.2.2.2, h.my.2]) (by rw [hA.2.2.2.1, h.my.1]) (E2 := (rc s1.RE s1.RL ((1 : Nat) : Int) ((j + 1 : Nat) : Int)).1.1) (L2 := (rc s1.RE s1.RL ((1 : Nat) : Int) ((j + 1 : Nat) : Int)).1.2) (la := (rc s1.RE s1.RL ((1 : Nat) : Int) ((j + 1 : Nat) : Int)).2.2) (tk := (rc s1.RE s1.RL ((1 : Nat) : Int) ((j + 1 : Nat) : Int)).2.1) rfl]
    rw [hx]
    unfold takeS
    simp only
    rw [hrc]
    by_cases hq : j + 1 = r + 1
    · rw [if_pos hq]
      simp only
      rw [if_pos (by omega)]
      exact ⟨rfl, by show ((j + 1 : Nat) : Int) = px.S; rw [a1]; omega⟩
    · rw [if_neg hq]
      simp only
      rw [if_pos (by omega)]
      exact ⟨rfl, by show (r : Int) = px.S; rw [a1]; omega⟩
  · have ho : outB px = [] := by
      unfold outB
      cases hl : px.l with
      | nil => rfl
      | cons b r => simp only; rw [if_neg (fun hc => hn ⟨by rw [hl]; simp, hc⟩)]
    rw [ho]
    exact hA.1
/-- a calm round brings a direction nearer to its end -/
theorem round_phi (h : TI px py nx ny [] [] Px Py Cx Cy) (hP : Px.length ≤ 1000) (hP' : Py.length ≤ 1000) (hlf : 0 ≤ px.lf) :
    phi2 (hearAll (outS px) (outA py ++ outB py)) (hearAll (outS py) (outA px ++ outB px)) ≤ phi0 px py - 1 := by
  obtain ⟨s1, s2⟩ := round_s h hP hP'
  obtain ⟨r1, r2⟩ := round_r h hP hP'
  generalize hearAll (outS px) (outA py ++ outB py) = x at *
  generalize hearAll (outS py) (outA px ++ outB px) = y at *
  by_cases hl : px.l = []
  · obtain ⟨a, b, c⟩ := s2 (fun h => h.2.2 hl)
    have : phi2 x y = 0 := by unfold phi2; rw [if_pos (by rw [a]; exact hl)]
    omega
  · have hlen : 1 ≤ px.l.length := by
      cases h1 : px.l with
      | nil => exact absurd h1 hl
      | cons b r => simp
    by_cases hw : py.gv = true ∧ py.sq = px.S
    · obtain ⟨a, b⟩ := s1 ⟨hw.1, hw.2, hl⟩
      have h0 : phi0 px py = 2 * px.l.length - 1 := by unfold phi0; rw [if_neg hl, if_pos hw]
      have h2 : phi2 x y ≤ 2 * x.l.length := by
        unfold phi2
        split
        · omega
        split
        · omega
        · rw [b]; simp
      omega
    · obtain ⟨a, b, c⟩ := s2 (fun h => hw ⟨h.1, h.2.1⟩)
      have h0 : phi0 px py = 2 * px.l.length + px.lf.toNat := by unfold phi0; rw [if_neg hl, if_neg hw]
      by_cases hz : px.lf = 0
      · obtain ⟨g1, g2⟩ := r1 ⟨hl, hz⟩
        have h2 : phi2 x y = 2 * x.l.length - 1 := by unfold phi2; rw [if_neg (by rw [a]; exact hl), if_pos ⟨g1, by rw [g2, b]⟩]
        rw [a] at h2
        omega
      · have g1 := r2 (fun h => hz h.2)
        have h2 : phi2 x y = 2 * x.l.length + (x.lf.toNat - 1) := by unfold phi2; rw [if_neg (by rw [a]; exact hl), if_neg (fun h => by rw [g1] at h; cases h.1)]
        have hk : (outS px).lf = px.lf := by
          unfold outS
          cases h1 : px.l with
          | nil => exact absurd h1 hl
          | cons b r => simp only; rw [if_neg hz]
        rw [a, c, hk] at h2
        omega
/-- nothing waits: all came -/
theorem dir_done {sa sb : LSt} {P C : List Nat} (h : Dir sa sb P C) (hl : sa.l = []) : C = P := by
  obtain ⟨j, r, a1, a2, a3, a4, a5, a6, a7⟩ := h.j
  rw [a6] at hl
  have : P.drop j = [] := by
    cases hd : P.drop j with
    | nil => rfl
    | cons x l => rw [hd] at hl; cases hl
  have hj : P.length ≤ j := by
    rcases Nat.lt_or_ge j P.length with h | h
    · rw [List.drop_eq_getElem_cons h] at this; cases this
    · exact h
  rw [a7, List.take_of_length_le (by omega)]
end
end Go.Proofs.YtodimanghmepoaaDoor
namespace Go.Proofs.YtodimanghmepoaaDoor
open Go.RowKit
theorem own_holds_ne {w : World} {B : Nat} {e t : TypeId} {A : Option Addr} {n c : Nat} {xs : List Value} {g : Nat} {cs : Array Value} (h : Own w B e 1 A n c xs) (hH : Holds w g t cs) (hne : t ≠ e) {k : Nat} (hk : blk A = some k) : k ≠ g := by
  rintro rfl
  rcases h.2 with ⟨h0, _⟩ | ⟨g1, cap, cur, h0, _, h3, _⟩
  · injection h0 with h0; subst h0; cases hk
  · injection h0 with h0; subst h0
    injection hk with hk
    simp only at hk
    subst hk
    have h4 : w.heap[g1]? = some (.cells cs t (0, 0)) := hH
    rw [h3] at h4
    injection h4 with h4
    injection h4 with _ h4
    exact hne h4.symm
/-- what is on a way -/
structure WayO (w : World) (B : Nat) (F : Nat → Nat → Prop) (A : Option Addr) (n c : Nat) (vs : List Value) (L : List (List Nat)) : Prop where
  own : Own w B 22 1 A n c vs
  apart : ∀ k, blk A = some k → ∀ i, ¬ F i k
  len : L.length = n
  dg : ∀ (i : Nat) (v : Value) (b : List Nat), vs[i]? = some v → L[i]? = some b → ∃ A1 c1, v = .slice A1 b.length c1 ∧ Own w B 5 1 A1 b.length c1 (nats .u8 b) ∧ ∀ k, blk A1 = some k → ∀ i, ¬ F i k
theorem WayO.none_ (w : World) (B : Nat) (F : Nat → Nat → Prop) : WayO w B F none 0 0 [] [] := ⟨Own.none_ _ _ _ _, (fun k h => by cases h), rfl, by simp⟩
section
variable {w w' : World} {B : Nat} {F F' : Nat → Nat → Prop} {A : Option Addr} {n c : Nat} {vs : List Value} {L : List (List Nat)}
theorem WayO.keep (h : WayO w B F A n c vs L) (k : Keep w F w' F') : WayO w' B F' A n c vs L :=
  ⟨h.own.same fun b e hl => (k.block b hl (h.apart b e)).1, fun b e => (k.block b (h.own.lt b e).2 (h.apart b e)).2, h.len, fun i v d h1 h2 => by
    obtain ⟨A1, c1, e, ho, ha⟩ := h.dg i v d h1 h2
    exact ⟨A1, c1, e, ho.same fun b e hl => (k.block b hl (ha b e)).1, fun b e => (k.block b (ho.lt b e).2 (ha b e)).2⟩⟩
theorem WayO.later (h : WayO w B F A n c vs L) (b : Below w.heap.size w w') : WayO w' B F A n c vs L := h.keep (Keep.of_below F b)
/-- a box is written -/
theorem WayO.off (h : WayO w B F A n c vs L) {g : Nat} {t : TypeId} {cs : Array Value} (hg : w.grownBy w' (some g)) (hH : Holds w g t cs) (h1 : t ≠ 22) (h2 : t ≠ 5) : WayO w' B F A n c vs L := by
  have ne : ∀ {e : TypeId} {A : Option Addr} {n c : Nat} {xs : List Value}, Own w B e 1 A n c xs → t ≠ e → blk A = none ∨ blk A ≠ some g := by
    intro e A n c xs ho hne
    cases hb : blk A with
    | none => exact .inl rfl
    | some k => exact .inr fun e1 => own_holds_ne ho hH hne hb (by injection e1)
  exact ⟨h.own.kept hg (ne h.own h1), h.apart, h.len, fun i v d h3 h4 => by
    obtain ⟨A1, c1, e, ho, ha⟩ := h.dg i v d h3 h4
    exact ⟨A1, c1, e, ho.kept hg (ne ho h2), ha⟩⟩
/-- an other way's list is written -/
theorem WayO.offWay (h : WayO w B F A n c vs L) {A2 : Option Addr} {n2 c2 : Nat} {xs2 : List Value} (hg : w.grownBy w' (blk A2)) (ho2 : Own w B 22 1 A2 n2 c2 xs2) (hne : blk A = none ∨ blk A ≠ blk A2) : WayO w' B F A n c vs L := by
  refine ⟨h.own.kept hg hne, h.apart, h.len, fun i v d h3 h4 => ?_⟩
  obtain ⟨A1, c1, e, ho, ha⟩ := h.dg i v d h3 h4
  refine ⟨A1, c1, e, ho.kept hg ?_, ha⟩
  cases hb : blk A1 with
  | none => exact .inl rfl
  | some k => exact .inr fun e1 => Own.apart ho ho2 (by decide) hb e1.symm
end
/-- the ends, the ways, what was put, what came -/
structure OX (w0 w : World) (F : Nat → Nat → Prop) (p q : Nat) (s0 s1 : LSt) (g7 g8 g9 g10 : Nat) (A0 : Option Addr) (n0 c0 : Nat) (vs0 : List Value) (L0 : List (List Nat)) (A1 : Option Addr) (n1 c1 : Nat) (vs1 : List Value) (L1 : List (List Nat)) (P0 P1 C0 C1 : List Nat) : Prop where
  ways : Ways w0 w 2 F (tri p q 0) (tri s0 s1 s1)
  h7 : Holds w g7 64 #[.pointer (some ⟨p, 0, none⟩), .pointer (some ⟨q, 0, none⟩)]
  h8 : Holds w g8 65 #[.slice A0 n0 c0, .slice A1 n1 c1]
  h9 : Holds w g9 66 #[.string (strN P0), .string (strN P1)]
  h10 : Holds w g10 66 #[.string (strN C0), .string (strN C1)]
  o0 : WayO w w0.heap.size F A0 n0 c0 vs0 L0
  o1 : WayO w w0.heap.size F A1 n1 c1 vs1 L1
  ne : blk A0 = none ∨ blk A0 ≠ blk A1
  ge : w0.heap.size ≤ g7 ∧ w0.heap.size ≤ g8 ∧ w0.heap.size ≤ g9 ∧ w0.heap.size ≤ g10
  d : g7 ≠ g8 ∧ g7 ≠ g9 ∧ g7 ≠ g10 ∧ g8 ≠ g9 ∧ g8 ≠ g10 ∧ g9 ≠ g10
  f : ∀ i, ¬ F i g7 ∧ ¬ F i g8 ∧ ¬ F i g9 ∧ ¬ F i g10
section
variable {w0 w w' : World} {F F' : Nat → Nat → Prop} {p q : Nat} {s0 s1 : LSt} {g7 g8 g9 g10 : Nat} {A0 : Option Addr} {n0 c0 : Nat} {vs0 : List Value} {L0 : List (List Nat)} {A1 : Option Addr} {n1 c1 : Nat} {vs1 : List Value} {L1 : List (List Nat)} {P0 P1 C0 C1 : List Nat}
/-- the third place is of no matter -/
theorem Ways.third {I : Nat} {a b c c' : LSt} {x y z z' : Nat} (h : Ways w0 w I F (tri x y z) (tri a b c)) (hI : I ≤ 2) : Ways w0 w I F (tri x y z') (tri a b c') :=
  h.congr (fun i hi => by match i, (show i < 2 by omega) with | 0, _ => rfl | 1, _ => rfl) (fun i hi => by match i, (show i < 2 by omega) with | 0, _ => rfl | 1, _ => rfl)
theorem OX.prog (h : OX w0 w F p q s0 s1 g7 g8 g9 g10 A0 n0 c0 vs0 L0 A1 n1 c1 vs1 L1 P0 P1 C0 C1) {t0 t1 c : LSt} (hw : Ways w0 w' 2 F' (tri p q 0) (tri t0 t1 c)) (hk : Keep w F w' F') :
    OX w0 w' F' p q t0 t1 g7 g8 g9 g10 A0 n0 c0 vs0 L0 A1 n1 c1 vs1 L1 P0 P1 C0 C1 := by
  have b7 := hk.block g7 h.h7.lt fun i => (h.f i).1
  have b8 := hk.block g8 h.h8.lt fun i => (h.f i).2.1
  have b9 := hk.block g9 h.h9.lt fun i => (h.f i).2.2.1
  have b10 := hk.block g10 h.h10.lt fun i => (h.f i).2.2.2
  exact ⟨hw.third (Nat.le_refl _), b7.1.trans h.h7, b8.1.trans h.h8, b9.1.trans h.h9, b10.1.trans h.h10, h.o0.keep hk, h.o1.keep hk, h.ne, h.ge, h.d, fun i => ⟨b7.2 i, b8.2 i, b9.2 i, b10.2 i⟩⟩
theorem OX.later (h : OX w0 w F p q s0 s1 g7 g8 g9 g10 A0 n0 c0 vs0 L0 A1 n1 c1 vs1 L1 P0 P1 C0 C1) (b : Below w.heap.size w w') : OX w0 w' F p q s0 s1 g7 g8 g9 g10 A0 n0 c0 vs0 L0 A1 n1 c1 vs1 L1 P0 P1 C0 C1 :=
  h.prog (h.ways.later b) (Keep.of_below F b)
theorem off_ways {I : Nat} {x : Nat → Nat} {t : Nat → LSt} {g : Nat} (h : Ways w0 w I F x t) (hg : w.grownBy w' (some g)) (hp : ∀ i, ¬ F i g) (hp0 : w0.heap.size ≤ g) : Ways w0 w' I F x t :=
  ⟨h.bel.grown hg h.bel.size (fun k e => by injection e with e; subst e; exact hp0), fun i hi => (h.lk i hi).other (Chg.of_grown (F := fun k => k = g) hg rfl) (fun k hk e => hp i (e ▸ hk)), h.ok, fun i k hk => ⟨(h.ge i k hk).1, Nat.lt_of_lt_of_le (h.ge i k hk).2 hg.size⟩, h.dis⟩
/-- a list's own is written, which lies apart from the ends -/
theorem off_waysA {I : Nat} {x : Nat → Nat} {t : Nat → LSt} {A : Option Addr} (h : Ways w0 w I F x t) (hg : w.grownBy w' (blk A)) (hp : ∀ k, blk A = some k → ∀ i, ¬ F i k) (hp0 : ∀ k, blk A = some k → w0.heap.size ≤ k) : Ways w0 w' I F x t := by
  cases hb : blk A with
  | some g => rw [hb] at hg; exact off_ways h hg (hp g hb) (hp0 g hb)
  | none =>
    rw [hb] at hg
    exact h.later ⟨hg.os, hg.tape, hg.output, hg.size, fun k hk => hg.block k hk (fun e => by cases e)⟩
end
end Go.Proofs.YtodimanghmepoaaDoor
namespace Go.Proofs.YtodimanghmepoaaDoor
open Go.RowKit
/-- how many calm rounds may still be wanted -/
def calmB (many i : Nat) : Nat := 64 - ((i + 2) / 3 - ((many + 1) / 3 + 1))
/-- what holds when nothing is lost any more, as soon as all that was on a way is heard -/
def CalmI (many i : Nat) (s0 s1 : LSt) (L0 L1 : List (List Nat)) (P0 P1 C0 C1 : List Nat) : Prop :=
  (many + 1) / 3 < (i + 1) / 3 →
    (i % 3 = 0 → L0 = [] ∧ L1 = [] ∧ (P0.length + P1.length ≤ 20 → phi0 s0 s1 ≤ calmB many i ∧ phi0 s1 s0 ≤ calmB many i)) ∧
    (i % 3 = 1 → ∃ p0 p1, TI p0 p1 0 1 [] [] P0 P1 C0 C1 ∧ 0 ≤ p0.lf ∧ 0 ≤ p1.lf ∧ s0 = outS p0 ∧ s1 = outS p1 ∧ L1 = outA p0 ++ outB p0 ∧ L0 = outA p1 ++ outB p1 ∧ (P0.length + P1.length ≤ 20 → phi0 p0 p1 ≤ calmB many (i - 1) ∧ phi0 p1 p0 ≤ calmB many (i - 1))) ∧
    (i % 3 = 2 → L0 = [] ∧ L1 = [] ∧ (P0.length + P1.length ≤ 20 → phi2 s0 s1 ≤ calmB many i ∧ phi2 s1 s0 ≤ calmB many i))
section
variable {many i : Nat} {s0 s1 : LSt} {L0 L1 : List (List Nat)} {P0 P1 C0 C1 : List Nat}
theorem CalmI.early (h : i ≤ many) : CalmI many i s0 s1 L0 L1 P0 P1 C0 C1 := fun h1 => by omega
theorem CalmI.out (h : CalmI many i s0 s1 L0 L1 P0 P1 C0 C1) (hi : i % 3 = 0) (ht : TI s0 s1 0 1 L0 L1 P0 P1 C0 C1) (h0 : 0 ≤ s0.lf) (h1 : 0 ≤ s1.lf) :
    CalmI many (i + 1) (outS s0) (outS s1) (L0 ++ (outA s1 ++ outB s1)) (L1 ++ (outA s0 ++ outB s0)) P0 P1 C0 C1 := by
  intro hp
  have hp' : (many + 1) / 3 < (i + 1) / 3 := by omega
  obtain ⟨a, _, _⟩ := h hp'
  obtain ⟨e0, e1, hb⟩ := a hi
  subst e0 e1
  refine ⟨fun h => by omega, fun _ => ⟨s0, s1, ht, h0, h1, rfl, rfl, by simp, by simp, fun htot => ?_⟩, fun h => by omega⟩
  have hb := hb htot
  rw [Nat.add_sub_cancel]
  exact hb
theorem CalmI.hear (h : CalmI many i s0 s1 L0 L1 P0 P1 C0 C1) (hi : i % 3 = 1) (hm : many ≤ i) (hP : P0.length ≤ 1000) (hP' : P1.length ≤ 1000) {C0' C1' : List Nat} (ht : TI (hearAll s0 L0) (hearAll s1 L1) 0 1 [] [] P0 P1 C0' C1')
    (h0 : 0 ≤ (hearAll s0 L0).lf ∧ (hearAll s0 L0).lf ≤ 24) (h1 : 0 ≤ (hearAll s1 L1).lf ∧ (hearAll s1 L1).lf ≤ 24) :
    CalmI many (i + 1) (hearAll s0 L0) (hearAll s1 L1) [] [] P0 P1 C0' C1' := by
  intro _
  refine ⟨fun h => by omega, fun h => by omega, fun _ => ⟨rfl, rfl, fun htot => ?_⟩⟩
  by_cases hp : (many + 1) / 3 < (i + 1) / 3
  · obtain ⟨_, b, _⟩ := h hp
    obtain ⟨p0, p1, ti, l0, l1, rfl, rfl, rfl, rfl, hb⟩ := b hi
    have hb := hb htot
    have r0 := round_phi ti hP hP' l0
    have r1 := round_phi ti.symm hP' hP l1
    have : calmB many (i - 1) ≤ calmB many (i + 1) + 1 := by unfold calmB; omega
    omega
  · have hB : calmB many (i + 1) = 64 := by unfold calmB; omega
    rw [hB]
    have len : ∀ {sa sb : LSt} {P C : List Nat}, Dir sa sb P C → P.length ≤ 20 → sa.l.length ≤ 20 := by
      intro sa sb P C hd hl
      obtain ⟨j, r, a1, a2, a3, a4, a5, a6, a7⟩ := hd.j
      rw [a6, bods, List.length_map, List.length_drop]; omega
    exact ⟨phi2_le (len ht.dy (by omega)) h0, phi2_le (len ht.dx (by omega)) h1⟩
theorem CalmI.tick (h : CalmI many i s0 s1 L0 L1 P0 P1 C0 C1) (hi : i % 3 = 2) (h0 : 0 ≤ s0.lf) (h1 : 0 ≤ s1.lf) : CalmI many (i + 1) (tickS s0) (tickS s1) L0 L1 P0 P1 C0 C1 := by
  intro hp
  have hp' : (many + 1) / 3 < (i + 1) / 3 := by omega
  obtain ⟨_, _, c⟩ := h hp'
  obtain ⟨e0, e1, hb⟩ := c hi
  refine ⟨fun _ => ⟨e0, e1, fun htot => ?_⟩, fun h => by omega, fun h => by omega⟩
  have hb := hb htot
  have a0 := phi_tick s0 s1 h0
  have a1 := phi_tick s1 s0 h1
  have : calmB many (i + 1) = calmB many i := by unfold calmB; omega
  omega
/-- behind 600 calm steps all came -/
theorem CalmI.end_ (h : CalmI many (many + 600) s0 s1 L0 L1 P0 P1 C0 C1) (ht : TI s0 s1 0 1 L0 L1 P0 P1 C0 C1) (htot : P0.length + P1.length ≤ 20) : C0 = P0 ∧ C1 = P1 := by
  obtain ⟨a, b, c⟩ := h (by omega)
  have hB : calmB many (many + 600) = 0 := by unfold calmB; omega
  have hB1 : ∀ x : LSt, x.l = [] → (outS x).l = [] := fun x hx => by rw [(outS_keep x).2.1]; exact hx
  have z0 : ∀ x y : LSt, phi0 x y ≤ 0 → x.l = [] := by
    intro x y h
    unfold phi0 at h
    split at h
    · assumption
    · rename_i hne
      have : 1 ≤ x.l.length := by cases hl : x.l with | nil => exact absurd hl hne | cons b r => simp
      split at h <;> omega
  have z2 : ∀ x y : LSt, phi2 x y ≤ 0 → x.l = [] := by
    intro x y h
    unfold phi2 at h
    split at h
    · assumption
    · rename_i hne
      have : 1 ≤ x.l.length := by cases hl : x.l with | nil => exact absurd hl hne | cons b r => simp
      split at h <;> omega
  have fin : s0.l = [] ∧ s1.l = [] := by
    have h3 : (many + 600) % 3 = 0 ∨ (many + 600) % 3 = 1 ∨ (many + 600) % 3 = 2 := by omega
    rcases h3 with h3 | h3 | h3
    · obtain ⟨_, _, hb⟩ := a h3
      have hb := hb htot
      exact ⟨z0 s0 s1 (by omega), z0 s1 s0 (by omega)⟩
    · obtain ⟨p0, p1, ti, l0, l1, rfl, rfl, _, _, hb⟩ := b h3
      have hb := hb htot
      have hB2 : calmB many (many + 600 - 1) = 0 := by unfold calmB; omega
      exact ⟨hB1 _ (z0 p0 p1 (by omega)), hB1 _ (z0 p1 p0 (by omega))⟩
    · obtain ⟨_, _, hb⟩ := c h3
      have hb := hb htot
      exact ⟨z2 s0 s1 (by omega), z2 s1 s0 (by omega)⟩
  exact ⟨dir_done ht.dx fin.2, dir_done ht.dy fin.1⟩
end
end Go.Proofs.YtodimanghmepoaaDoor
namespace Go.Proofs.YtodimanghmepoaaDoor
open Go.RowKit
/-- a list, some places of which are taken from elsewhere -/
def over (f : Nat → Value) (g : Nat → Bool) : Nat → List Value → List Value
  | _, [] => []
  | i, x :: l => cond (g i) (f i) x :: over f g (i + 1) l
def inR (m mx s : Nat) (t : Nat) : Bool := (Nat.ble m t && Nat.ble t mx) || Nat.beq t s
theorem over_length (f : Nat → Value) (g : Nat → Bool) : ∀ (l : List Value) (i : Nat), (over f g i l).length = l.length
  | [], _ => rfl
  | _ :: l, i => congrArg (· + 1) (over_length f g l (i + 1))
theorem over_getD (f : Nat → Value) (g : Nat → Bool) : ∀ (l : List Value) (i t : Nat), t < l.length → (over f g i l).getD t undef = cond (g (i + t)) (f (i + t)) (l.getD t undef)
  | [], _, _, h => by simp at h
  | x :: l, i, 0, _ => rfl
  | x :: l, i, t + 1, h => by
    have := over_getD f g l (i + 1) t (by simpa using h)
    rw [show i + 1 + t = i + (t + 1) from by omega] at this
    simpa [over] using this
theorem frame_over {a : Act} {l0 : List Value} {d0} {g : Nat → Bool} (hs : a.tmps.size = l0.length) (hd : a.defers = d0) (ho : ∀ t, g t = false → a.tmps.getD t undef = l0.toArray.getD t undef) :
    (⟨(over (fun t => a.tmps.getD t undef) g 0 l0).toArray, d0⟩ : Act) = a := by
  have e1 : (over (fun t => a.tmps.getD t undef) g 0 l0).toArray = a.tmps := by
    apply Array.ext
    · simp [over_length, hs]
    · intro t h1 h2
      have hl : t < l0.length := by rw [← hs]; exact h2
      have h3 := over_getD (fun t => a.tmps.getD t undef) g l0 0 t hl
      rw [Nat.zero_add] at h3
      have h4 : (over (fun t => a.tmps.getD t undef) g 0 l0).getD t undef = a.tmps.getD t undef := by
        rw [h3]
        cases hg : g t with
        | true => rfl
        | false =>
          simp only [cond_false]
          rw [ho t hg]
          simp [Array.getD_eq_getD_getElem?]
      have h5 : t < (over (fun t => a.tmps.getD t undef) g 0 l0).length := by rw [over_length]; exact hl
      rw [List.getD_eq_getElem?_getD, List.getElem?_eq_getElem h5] at h4
      simpa [Array.getD_eq_getD_getElem?, h2] using h4
  cases a with
  | mk tm df =>
    simp only at e1 hd ⊢
    rw [e1, hd]
section
variable {P : Program} {ops : Array Oper} {Q : Exit → Act → World → Prop} {w0 : World} {acts : List Nat} {Φ : List Value → World → Prop} {R : List RelK}
def dstsIn (ops : Array Oper) (g : Nat → Bool) : Bool := (List.range ops.size).all fun i => match dstOf ops i with
  | some d => g d
  | none => true
theorem dsts_in {g : Nat → Bool} (h : dstsIn ops g = true) (t : Nat) (ht : g t = false) : isDst ops t = false := by
  cases hd : isDst ops t with
  | false => rfl
  | true =>
    simp only [isDst, List.any_eq_true, List.mem_range, beq_iff_eq] at hd
    obtain ⟨i, hi, h1⟩ := hd
    simp only [dstsIn, List.all_eq_true, List.mem_range] at h
    have := h i hi
    rw [h1] at this
    simp only at this
    rw [ht] at this; cases this
/-- without a tail -/
theorem wp_region_chainO {l0 : List Value} {d0} {id : Nat} (g : Nat → Bool) (m : Nat) (acts : List Nat) (Φ : List Value → World → Prop) (R : List RelK) (rows : List Row) (hm : P.follows .mixedOrders = true) (hp : plainOps ops = true) (hd : dstsFit ops l0.length = true)
    (hrows : rowsOk ops (ops.toList.take m) rows = true) (hch : chainOk ops m acts = true) (hsz : (ops.size == m) = true) (hg : dstsIn ops g = true)
    (hΦ : ∀ vs W W', Φ vs W → Below W.heap.size W W' → Φ vs W') (hmono : MonoAllK R)
    (h0 : Φ [] w0) (hs : StepsK P acts Φ R ⟨l0.toArray, d0⟩ 0 (ops.toList.take m) rows)
    (hf : ∀ (f : Nat → Value) (W : World) (vs : List Value), vs.length = acts.length → Φ vs W → (∀ j d, j < m → dstOf ops j = some d → relK acts R j vs (f d)) → Q .normal ⟨(over f g 0 l0).toArray, d0⟩ W) :
    (Code.region id ops true).wp P Q ⟨l0.toArray, d0⟩ w0 := by
  have hsz' : ops.size = m := by simpa using hsz
  refine wp_region_chain m acts Φ R rows hm hp (by simpa using hd) hrows hch (by simp [tailOk, hsz]) hΦ hmono h0 hs ?_
  intro a W vs hl hph hs' hdf hout hsl
  refine ⟨fun _ => ?_, fun last h => by omega⟩
  rw [← frame_over (a := a) (l0 := l0) (d0 := d0) (g := g) (by simpa using hs') hdf (fun t ht => hout t (dsts_in hg t ht))]
  exact hf (fun t => a.tmps.getD t undef) W vs hl hph hsl
/-- with a tail -/
theorem wp_region_chainT {l0 : List Value} {d0} {id : Nat} (g : Nat → Bool) (m : Nat) (acts : List Nat) (Φ : List Value → World → Prop) (Ψ : List Value → World → Prop) (R : List RelK) (rows : List Row) (lr : Row) (last : Oper) (hlast : ops[m]? = some last) (hm : P.follows .mixedOrders = true) (hp : plainOps ops = true) (hd : dstsFit ops l0.length = true)
    (hrows : rowsOk ops (ops.toList.take m) rows = true) (hch : chainOk ops m acts = true) (htl : tailOk ops m = true) (hsz : (ops.size == m + 1) = true) (hlr : rowOk ops last lr = true) (hg : dstsIn ops g = true)
    (hΦ : ∀ vs W W', Φ vs W → Below W.heap.size W W' → Φ vs W') (hmono : MonoAllK R)
    (h0 : Φ [] w0) (hs : StepsK P acts Φ R ⟨l0.toArray, d0⟩ 0 (ops.toList.take m) rows)
    (hst : ∀ (ρ : Operand → Value) (W : World) (vs : List Value), Env ρ → vs.length = acts.length → Φ vs W → FPK acts R ρ vs lr.preds → FO ⟨l0.toArray, d0⟩ ρ lr.outs → ∃ W', (execOp ρ last).run P W = .ok .skip W' ∧ Ψ vs W')
    (hf : ∀ (f : Nat → Value) (W : World) (vs : List Value), vs.length = acts.length → Ψ vs W → Q .normal ⟨(over f g 0 l0).toArray, d0⟩ W) :
    (Code.region id ops true).wp P Q ⟨l0.toArray, d0⟩ w0 := by
  have hsz' : ops.size = m + 1 := by simpa using hsz
  refine wp_region_chain m acts Φ R rows hm hp (by simpa using hd) hrows hch htl hΦ hmono h0 hs ?_
  intro a W vs hl hph hs' hdf hout hsl
  refine ⟨fun h => by omega, fun last' _ hl' => ?_⟩
  rw [hlast] at hl'
  injection hl' with hl'
  subst hl'
  have hr := hlr
  simp only [rowOk, Bool.and_eq_true] at hr
  have hfacts : FPK acts R a.eval vs lr.preds := by
    refine factsK (o := last) (ops := ops) (fun e he hb d hd2 => ?_) lr.preds hr.1.1
    have hlt : e.on < m := by
      have hpo := hp
      simp only [plainOps, List.all_eq_true, List.mem_range, Bool.and_eq_true] at hpo
      have h2 := (hpo m (by omega)).2
      rw [hlast] at h2
      simp only [Array.all_eq_true', Bool.or_eq_true, Bool.not_eq_true', decide_eq_true_eq] at h2
      have h3 := h2 e (by simpa using he)
      rcases h3 with h3 | h3
      · rw [hb] at h3; cases h3
      · exact h3
    exact hsl e.on d hlt hd2
  obtain ⟨W', h1, h2⟩ := hst a.eval W vs ⟨fun _ => rfl, fun _ => rfl, fun _ => rfl⟩ hl hph hfacts (outsK hout lr.outs hr.1.2)
  refine ⟨W', h1, ?_⟩
  rw [← frame_over (a := a) (l0 := l0) (d0 := d0) (g := g) (by simpa using hs') hdf (fun t ht => hout t (dsts_in hg t ht))]
  exact hf (fun t => a.tmps.getD t undef) W' vs hl h2
end
end Go.Proofs.YtodimanghmepoaaDoor
namespace Go.Proofs.YtodimanghmepoaaDoor
open Go.RowKit
/-- a way, as a row -/
structure WyR where
  A : Option Addr
  n : Nat
  c : Nat
  vs : List Value
  L : List (List Nat)
def WyR.v (a : WyR) : Value := .slice a.A a.n a.c
/-- datagrams that stand, each its own -/
structure DGs (w : World) (B : Nat) (F : Nat → Nat → Prop) (vs : List Value) (L : List (List Nat)) : Prop where
  len : vs.length = L.length
  dg : ∀ (i : Nat) (v : Value) (b : List Nat), vs[i]? = some v → L[i]? = some b → ∃ A1 c1, v = .slice A1 b.length c1 ∧ Own w B 5 1 A1 b.length c1 (nats .u8 b) ∧ ∀ k, blk A1 = some k → ∀ i, ¬ F i k
section
variable {w w' : World} {B : Nat} {F F' : Nat → Nat → Prop} {A : Option Addr} {n c : Nat} {vs vs' : List Value} {L L' : List (List Nat)}
theorem WayO.dgs (h : WayO w B F A n c vs L) : DGs w B F vs L := ⟨by have := h.own.len; have := h.len; omega, h.dg⟩
theorem WayO.of (ho : Own w B 22 1 A n c vs) (ha : ∀ k, blk A = some k → ∀ i, ¬ F i k) (hd : DGs w B F vs L) : WayO w B F A n c vs L := ⟨ho, ha, by have := ho.len; have := hd.len; omega, hd.dg⟩
theorem DGs.nil (w : World) (B : Nat) (F : Nat → Nat → Prop) : DGs w B F [] [] := ⟨rfl, by simp⟩
theorem DGs.app (h : DGs w B F vs L) (h' : DGs w B F vs' L') : DGs w B F (vs ++ vs') (L ++ L') := by
  refine ⟨by simp [h.len, h'.len], fun i v b h1 h2 => ?_⟩
  rcases Nat.lt_or_ge i vs.length with hl | hl
  · rw [List.getElem?_append_left hl] at h1
    rw [List.getElem?_append_left (by rw [← h.len]; exact hl)] at h2
    exact h.dg i v b h1 h2
  · rw [List.getElem?_append_right hl] at h1
    rw [List.getElem?_append_right (by rw [← h.len]; exact hl), ← h.len] at h2
    exact h'.dg _ v b h1 h2
theorem DGs.take (h : DGs w B F vs L) (m : Nat) : DGs w B F (vs.take m) (L.take m) := by
  refine ⟨by simp [h.len], fun i v b h1 h2 => ?_⟩
  rw [List.getElem?_take] at h1 h2
  split at h1
  · rename_i hi
    rw [if_pos hi] at h2
    exact h.dg i v b h1 h2
  · cases h1
theorem DGs.drop (h : DGs w B F vs L) (m : Nat) : DGs w B F (vs.drop m) (L.drop m) := by
  refine ⟨by simp [h.len], fun i v b h1 h2 => ?_⟩
  rw [List.getElem?_drop] at h1 h2
  exact h.dg _ v b h1 h2
theorem DGs.one (h : DGs w B F vs L) {i : Nat} {v : Value} {b : List Nat} (h1 : vs[i]? = some v) (h2 : L[i]? = some b) : DGs w B F [v] [b] := by
  refine ⟨rfl, fun j v' b' h3 h4 => ?_⟩
  match j, h3, h4 with
  | 0, h3, h4 =>
    injection h3 with h3; injection h4 with h4; subst h3; subst h4
    exact h.dg i _ _ h1 h2
theorem DGs.kept (h : DGs w B F vs L) {B2 : Nat} {A2 : Option Addr} {n2 c2 : Nat} {xs2 : List Value} (hg : w.grownBy w' (blk A2)) (ho2 : Own w B2 22 1 A2 n2 c2 xs2) : DGs w' B F vs L := by
  refine ⟨h.len, fun i v d h3 h4 => ?_⟩
  obtain ⟨A1, c1, e, ho, ha⟩ := h.dg i v d h3 h4
  refine ⟨A1, c1, e, ho.kept hg ?_, ha⟩
  cases hb : blk A1 with
  | none => exact .inl rfl
  | some k => exact .inr fun e1 => Own.apart ho ho2 (by decide) hb e1.symm
theorem DGs.keep (h : DGs w B F vs L) (k : Keep w F w' F') : DGs w' B F' vs L :=
  ⟨h.len, fun i v d h1 h2 => by
    obtain ⟨A1, c1, e, ho, ha⟩ := h.dg i v d h1 h2
    exact ⟨A1, c1, e, ho.same fun b e hl => (k.block b hl (ha b e)).1, fun b e => (k.block b (ho.lt b e).2 (ha b e)).2⟩⟩
theorem DGs.cell (h : DGs w B F vs L) : ∀ u ∈ vs, u.oneCell' = true := by
  intro u hu
  obtain ⟨i, hi, rfl⟩ := List.mem_iff_getElem.1 hu
  obtain ⟨A1, c1, e, _⟩ := h.dg i _ (L[i]'(by rw [← h.len]; exact hi)) (List.getElem?_eq_getElem hi) (List.getElem?_eq_getElem (by rw [← h.len]; exact hi))
  rw [e]; rfl
end
/-- ends, ways, what was put, what came, and the step's box -/
structure SX (w0 w : World) (F : Nat → Nat → Prop) (p : Nat → Nat) (s : Nat → LSt) (g7 g8 g9 g10 g13 : Nat) (hv : Nat → Value) (W : Nat → WyR) (P C : Nat → List Nat) (K T X : Nat) : Prop where
  ways : Ways w0 w 2 F p s
  h7 : Holds w g7 64 #[.pointer (some ⟨p 0, 0, none⟩), .pointer (some ⟨p 1, 0, none⟩)]
  h8 : Holds w g8 65 #[hv 0, hv 1]
  h9 : Holds w g9 66 #[.string (strN (P 0)), .string (strN (P 1))]
  h10 : Holds w g10 66 #[.string (strN (C 0)), .string (strN (C 1))]
  h13 : Holds w g13 68 #[.int .u8 (K : Int), .int .u8 (T : Int), .int .u8 (X : Int)]
  o : ∀ i, i < 2 → WayO w w0.heap.size F (W i).A (W i).n (W i).c (W i).vs (W i).L
  ne : blk (W 0).A = none ∨ blk (W 0).A ≠ blk (W 1).A
  ge : w0.heap.size ≤ g7 ∧ w0.heap.size ≤ g8 ∧ w0.heap.size ≤ g9 ∧ w0.heap.size ≤ g10 ∧ w0.heap.size ≤ g13
  d : g7 ≠ g8 ∧ g7 ≠ g9 ∧ g7 ≠ g10 ∧ g8 ≠ g9 ∧ g8 ≠ g10 ∧ g9 ≠ g10 ∧ g13 ≠ g8 ∧ g13 ≠ g9 ∧ g13 ≠ g10
  f : ∀ i, ¬ F i g7 ∧ ¬ F i g8 ∧ ¬ F i g9 ∧ ¬ F i g10 ∧ ¬ F i g13
section
variable {w0 w w' : World} {F F' : Nat → Nat → Prop} {p : Nat → Nat} {s s' : Nat → LSt} {g7 g8 g9 g10 g13 : Nat} {hv : Nat → Value} {W : Nat → WyR} {P C : Nat → List Nat} {K T X : Nat}
theorem SX.prog (h : SX w0 w F p s g7 g8 g9 g10 g13 hv W P C K T X) (hw : Ways w0 w' 2 F' p s') (hk : Keep w F w' F') : SX w0 w' F' p s' g7 g8 g9 g10 g13 hv W P C K T X := by
  have b7 := hk.block g7 h.h7.lt fun i => (h.f i).1
  have b8 := hk.block g8 h.h8.lt fun i => (h.f i).2.1
  have b9 := hk.block g9 h.h9.lt fun i => (h.f i).2.2.1
  have b10 := hk.block g10 h.h10.lt fun i => (h.f i).2.2.2.1
  have b13 := hk.block g13 h.h13.lt fun i => (h.f i).2.2.2.2
  exact ⟨hw, b7.1.trans h.h7, b8.1.trans h.h8, b9.1.trans h.h9, b10.1.trans h.h10, b13.1.trans h.h13, fun i hi => (h.o i hi).keep hk, h.ne, h.ge, h.d, fun i => ⟨b7.2 i, b8.2 i, b9.2 i, b10.2 i, b13.2 i⟩⟩
theorem SX.later (h : SX w0 w F p s g7 g8 g9 g10 g13 hv W P C K T X) (b : Below w.heap.size w w') : SX w0 w' F p s g7 g8 g9 g10 g13 hv W P C K T X :=
  h.prog (h.ways.later b) (Keep.of_below F b)
theorem SX.neq (h : SX w0 w F p s g7 g8 g9 g10 g13 hv W P C K T X) (i j : Nat) (hi : i < 2) (hj : j < 2) (hne : i ≠ j) : blk (W i).A = none ∨ blk (W i).A ≠ blk (W j).A := by
  have h1 := h.ne
  match i, j, hi, hj, hne with
  | 0, 1, _, _, _ => exact h1
  | 1, 0, _, _, _ =>
    cases hb : blk (W 1).A with
    | none => exact .inl rfl
    | some k =>
      rw [hb] at h1
      rcases h1 with h1 | h1
      · exact .inr (by rw [h1]; simp)
      · exact .inr (fun e => h1 e.symm)
  | 0, 0, _, _, h => exact absurd rfl h
  | 1, 1, _, _, h => exact absurd rfl h
/-- a list of slices is written, apart from all that stands here -/
theorem SX.off (h : SX w0 w F p s g7 g8 g9 g10 g13 hv W P C K T X) {B2 : Nat} {A2 : Option Addr} {n2 c2 : Nat} {xs2 : List Value} (hg : w.grownBy w' (blk A2)) (ho : Own w B2 22 1 A2 n2 c2 xs2) (hB : w0.heap.size ≤ B2) (ha : ∀ k, blk A2 = some k → ∀ i, ¬ F i k)
    (hne : ∀ i, i < 2 → blk (W i).A = none ∨ blk (W i).A ≠ blk A2) : SX w0 w' F p s g7 g8 g9 g10 g13 hv W P C K T X := by
  have bx : ∀ {g : Nat} {t : TypeId} {cs : Array Value}, Holds w g t cs → t ≠ 22 → Holds w' g t cs := fun hH ht => hH.grown hg (fun e => own_holds_ne ho hH ht e rfl)
  exact ⟨off_waysA h.ways hg ha (fun k hk => Nat.le_trans hB (ho.lt k hk).1), bx h.h7 (by decide), bx h.h8 (by decide), bx h.h9 (by decide), bx h.h10 (by decide), bx h.h13 (by decide), fun i hi => (h.o i hi).offWay hg (ownsRow_le_ ho hB) (hne i hi), h.ne, h.ge, h.d, h.f⟩
/-- a way is told anew -/
theorem SX.way (h : SX w0 w F p s g7 g8 g9 g10 g13 hv W P C K T X) (m : Nat) (hm : m < 2) (a : WyR) (ha : WayO w w0.heap.size F a.A a.n a.c a.vs a.L) (hne : ∀ i, i < 2 → i ≠ m → blk (W i).A = none ∨ blk (W i).A ≠ blk a.A) : SX w0 w F p s g7 g8 g9 g10 g13 hv (upd W m a) P C K T X := by
  refine { h with o := fun i hi => ?_, ne := ?_ }
  · by_cases e : i = m
    · subst e; rw [upd_self]; exact ha
    · rw [upd_ne _ _ e]; exact h.o i hi
  · match m, hm with
    | 0, _ =>
      rw [upd_self, upd_ne _ _ (by decide)]
      have := hne 1 (by decide) (by decide)
      cases hb : blk a.A with
      | none => exact .inl rfl
      | some k =>
        rw [hb] at this
        rcases this with h1 | h1
        · exact .inr (by rw [h1]; simp)
        · exact .inr (fun e => h1 e.symm)
    | 1, _ => rw [upd_self, upd_ne _ _ (by decide)]; exact hne 0 (by decide) (by decide)
/-- an append to a way -/
theorem SX.app (h : SX w0 w F p s g7 g8 g9 g10 g13 hv W P C K T X) (m : Nat) (hm : m < 2) {A' : Option Addr} {k c' : Nat} {vs : List Value} {L : List (List Nat)} (hd : DGs w w0.heap.size F vs L) (hg : w.grownBy w' (blk (W m).A)) (ho : Own w' w0.heap.size 22 1 A' ((W m).n + k) c' ((W m).vs ++ vs)) (hA : blk A' = blk (W m).A ∨ blk A' = some w.heap.size) :
    SX w0 w' F p s g7 g8 g9 g10 g13 hv (upd W m ⟨A', (W m).n + k, c', (W m).vs ++ vs, (W m).L ++ L⟩) P C K T X := by
  have o := h.o m hm
  have fr : ∀ i, ¬ F i w.heap.size := fun i hf => by have := (h.ways.ge i _ hf).2; omega
  have bx : ∀ {g : Nat} {t : TypeId} {cs : Array Value}, Holds w g t cs → t ≠ 22 → Holds w' g t cs := fun hH ht => hH.grown hg (fun e => own_holds_ne o.own hH ht e rfl)
  have na : WayO w' w0.heap.size F A' ((W m).n + k) c' ((W m).vs ++ vs) ((W m).L ++ L) := by
    refine WayO.of ho (fun j hj i => ?_) (((o.dgs.app hd).kept hg o.own))
    rcases hA with e | e
    · exact o.apart j (by rw [← e]; exact hj) i
    · rw [hj] at e; injection e with e; subst e; exact fr i
  have ot : ∀ i, i < 2 → i ≠ m → WayO w' w0.heap.size F (W i).A (W i).n (W i).c (W i).vs (W i).L := fun i hi e => (h.o i hi).offWay hg o.own (h.neq i m hi hm e)
  have nn : ∀ i, i < 2 → i ≠ m → blk (W i).A = none ∨ blk (W i).A ≠ blk A' := by
    intro i hi e
    rcases hA with e1 | e1
    · rw [e1]; exact h.neq i m hi hm e
    · cases hb : blk (W i).A with
      | none => exact .inl rfl
      | some j => refine .inr (fun e2 => ?_); rw [e1] at e2; injection e2 with e2; have := ((h.o i hi).own.lt j hb).2; omega
  refine ⟨off_waysA h.ways hg o.apart (fun k hk => (o.own.lt k hk).1), bx h.h7 (by decide), bx h.h8 (by decide), bx h.h9 (by decide), bx h.h10 (by decide), bx h.h13 (by decide), fun i hi => ?_, ?_, h.ge, h.d, h.f⟩
  · by_cases e : i = m
    · subst e; rw [upd_self]; exact na
    · rw [upd_ne _ _ e]; exact ot i hi e
  · match m, hm with
    | 0, _ =>
      rw [upd_self, upd_ne _ _ (by decide)]
      have := nn 1 (by decide) (by decide)
      cases hb : blk A' with
      | none => exact .inl rfl
      | some k =>
        show some k = none ∨ some k ≠ _
        rw [hb] at this
        rcases this with h1 | h1
        · exact .inr (by rw [h1]; simp)
        · exact .inr (fun e => h1 e.symm)
    | 1, _ => rw [upd_self, upd_ne _ _ (by decide)]; exact nn 0 (by decide) (by decide)
theorem grown_setW (w : World) (p : Addr) (u : Value) : w.grownBy (w.setCell p u) (some p.block) :=
  ⟨rfl, rfl, rfl, by simp [World.setCell], fun k _ hk => Below.heap_setCell w p u k (fun e => hk (congrArg some e))⟩
theorem SX.put8 (h : SX w0 w F p s g7 g8 g9 g10 g13 hv W P C K T X) (m : Nat) (hm : m < 2) (u : Value) : SX w0 (w.setCell ⟨g8, m, none⟩ u) F p s g7 g8 g9 g10 g13 (upd hv m u) W P C K T X := by
  have hg := grown_setW w ⟨g8, m, none⟩ u
  refine ⟨off_ways h.ways hg (fun i => (h.f i).2.1) h.ge.2.1, h.h7.far h.d.1 u, ?_, h.h9.far (fun e => h.d.2.2.2.1 e.symm) u, h.h10.far (fun e => h.d.2.2.2.2.1 e.symm) u, h.h13.far h.d.2.2.2.2.2.2.1 u, fun i hi => (h.o i hi).off hg h.h8 (by decide) (by decide), h.ne, h.ge, h.d, h.f⟩
  match m, hm with
  | 0, _ => exact h.h8.set 0 u
  | 1, _ => exact h.h8.set 1 u
theorem SX.put9 (h : SX w0 w F p s g7 g8 g9 g10 g13 hv W P C K T X) (m : Nat) (hm : m < 2) (l : List Nat) : SX w0 (w.setCell ⟨g9, m, none⟩ (.string (strN l))) F p s g7 g8 g9 g10 g13 hv W (upd P m l) C K T X := by
  have hg := grown_setW w ⟨g9, m, none⟩ (.string (strN l))
  refine ⟨off_ways h.ways hg (fun i => (h.f i).2.2.1) h.ge.2.2.1, h.h7.far h.d.2.1 _, h.h8.far h.d.2.2.2.1 _, ?_, h.h10.far (fun e => h.d.2.2.2.2.2.1 e.symm) _, h.h13.far h.d.2.2.2.2.2.2.2.1 _, fun i hi => (h.o i hi).off hg h.h9 (by decide) (by decide), h.ne, h.ge, h.d, h.f⟩
  match m, hm with
  | 0, _ => exact h.h9.set 0 _
  | 1, _ => exact h.h9.set 1 _
theorem SX.put10 (h : SX w0 w F p s g7 g8 g9 g10 g13 hv W P C K T X) (m : Nat) (hm : m < 2) (l : List Nat) : SX w0 (w.setCell ⟨g10, m, none⟩ (.string (strN l))) F p s g7 g8 g9 g10 g13 hv W P (upd C m l) K T X := by
  have hg := grown_setW w ⟨g10, m, none⟩ (.string (strN l))
  refine ⟨off_ways h.ways hg (fun i => (h.f i).2.2.2.1) h.ge.2.2.2.1, h.h7.far h.d.2.2.1 _, h.h8.far h.d.2.2.2.2.1 _, h.h9.far h.d.2.2.2.2.2.1 _, ?_, h.h13.far h.d.2.2.2.2.2.2.2.2 _, fun i hi => (h.o i hi).off hg h.h10 (by decide) (by decide), h.ne, h.ge, h.d, h.f⟩
  match m, hm with
  | 0, _ => exact h.h10.set 0 _
  | 1, _ => exact h.h10.set 1 _
/-- the list that Out hands back -/
theorem w_outO (h : SX w0 w F p s g7 g8 g9 g10 g13 hv W P C K T X) (i : Nat) (hi : i < 2) {a : Nat} (ha : p i = a) :
    Calls Tryd.prog 9 #[.pointer (some ⟨a, 0, none⟩)] w fun e w' => ∃ A n c vs F', e = .returned (.slice A n c) ∧ SX w0 w' F' p (upd s i (outS (s i))) g7 g8 g9 g10 g13 hv W P C K T X ∧ At w' A vs ∧ vs.length = n ∧ DGs w' w0.heap.size F' vs (outA (s i) ++ outB (s i)) := by
  subst ha
  have ok := h.ways.ok i hi
  refine (lout_any w (h.ways.lk i hi) ok.1 ok.2).mono ?_
  rintro e w' ⟨A, n, c, vs, F1, rfl, od, hc, hl, hF⟩
  obtain ⟨ho, hnn, hd, hx, hy⟩ := id od
  obtain ⟨a, b⟩ := h.ways.act i hc hl hF ⟨ok.1.out, by rw [(outS_me _).1, (outS_me _).2]; exact ok.2⟩
  have hB : w0.heap.size ≤ w.heap.size := h.ways.bel.size
  have out : ∀ k, w.heap.size ≤ k → ¬ F1 k → ∀ j, ¬ upd F i F1 j k := by
    intro k hk hn j hj
    by_cases e : j = i
    · subst e; rw [upd_self] at hj; exact hn hj
    · rw [upd_ne _ _ e] at hj; have := (h.ways.ge j k hj).2; omega
  refine ⟨A, n, c, vs, _, rfl, h.prog a b, ho.at_, by have := ho.len; omega, by have := ho.len; omega, fun j v d h1 h2 => ?_⟩
  obtain ⟨A1, c1, rfl, h3⟩ := hd j v d h1 h2
  exact ⟨A1, c1, rfl, ownsRow_le_ h3 hB, fun k hk => out k (h3.lt k hk).1 (hy _ (List.mem_of_getElem? h1) A1 _ c1 rfl k hk)⟩
end
/-! ### strings -/
theorem strN_size (l : List Nat) : (strN l).size = l.length := by simp [strN, ByteArray.size]
theorem strN_append (a b : List Nat) : strN a ++ strN b = strN (a ++ b) := by
  apply ByteArray.ext
  simp [strN]
end Go.Proofs.YtodimanghmepoaaDoor
namespace Go.Proofs.YtodimanghmepoaaDoor
open Go.RowKit
def regAt (id : Nat) : Code → Option (Array Oper)
  | .region i ops _ => cond (Nat.beq i id) (some ops) none
  | .seq a b => match regAt id a with
    | some o => some o
    | none => regAt id b
  | .cond _ a b => match regAt id a with
    | some o => some o
    | none => regAt id b
  | .block _ b => regAt id b
  | .loop b => regAt id b
  | _ => none
noncomputable def once_ (id : Nat) : Option (Array Oper) := (Tryd.f5).body.bind (regAt id)
noncomputable def ops_23 : {o : Array Oper // once_ 23 = some o} := ⟨_, rfl⟩
noncomputable def ops_33 : {o : Array Oper // once_ 33 = some o} := ⟨_, rfl⟩
noncomputable def ops_31 : {o : Array Oper // once_ 31 = some o} := ⟨_, rfl⟩
noncomputable def ops_38 : {o : Array Oper // once_ 38 = some o} := ⟨_, rfl⟩
noncomputable def ops_41 : {o : Array Oper // once_ 41 = some o} := ⟨_, rfl⟩
noncomputable def ops_44 : {o : Array Oper // once_ 44 = some o} := ⟨_, rfl⟩
noncomputable def ops_45 : {o : Array Oper // once_ 45 = some o} := ⟨_, rfl⟩
noncomputable def ops_17 : {o : Array Oper // once_ 17 = some o} := ⟨_, rfl⟩
noncomputable def ops_18 : {o : Array Oper // once_ 18 = some o} := ⟨_, rfl⟩
noncomputable def ops_52 : {o : Array Oper // once_ 52 = some o} := ⟨_, rfl⟩
/-- the ways' heads are what stands in the box -/
abbrev SV (w0 w : World) (F : Nat → Nat → Prop) (p : Nat → Nat) (s : Nat → LSt) (g7 g8 g9 g10 g13 : Nat) (W : Nat → WyR) (P C : Nat → List Nat) (K T X : Nat) : Prop := SX w0 w F p s g7 g8 g9 g10 g13 (fun i => (W i).v) W P C K T X
theorem upd_v (W : Nat → WyR) (m : Nat) (a : WyR) : upd (fun i => (W i).v) m a.v = fun i => (upd W m a i).v := by
  funext i
  by_cases e : i = m
  · subst e; rw [upd_self, upd_self]
  · rw [upd_ne _ _ e, upd_ne _ _ e]
section
variable {P : Program} {ρ : Operand → Value} {o : Oper} {w w' : World} {Φ : List Value → World → Prop} {vs : List Value}
theorem exec_app (s x : Operand) (t : TypeId) (ho : o.op = .call { callee := .builtin .append, args := #[s, x], argTypes := #[t, t] }) {u v v' : Value} (hs : ρ s = u) (hx : ρ x = v) (hr : (Builtin.append_ #[t, t] o.type #[u, v]).run P w = .ok v' w') : (execOp ρ o).run P w = .ok (.value v') w' := by
  unfold execOp
  simp only [ho, resolve, invoke, builtin, Sem.run_bind, Sem.run_pure, Result.andThen_ok, List.map_toArray, List.map_cons, List.map_nil, hs, hx, hr]
theorem actK_val {r : Result Next} {v : Value} (hr : r = .ok (.value v) w') (h : Φ (vs ++ [v]) w') : ActK P Φ vs w r := by
  subst hr; exact h
theorem exec_build0 (ho : o.op = .buildSlice 31 0 #[]) : (execOp ρ o).run Tryd.prog w = .ok (.value (.slice (some ⟨w.heap.size, 0, none⟩) 0 0)) (w.alloc (.cells #[] 22)) := by
  unfold execOp
  simp only [ho]
  go_simp
theorem exec_build1 (x : Operand) (ho : o.op = .buildSlice 31 1 #[(0, x)]) {A : Option Addr} {n c : Nat} (hx : ρ x = .slice A n c) : (execOp ρ o).run Tryd.prog w = .ok (.value (.slice (some ⟨w.heap.size, 0, none⟩) 1 1)) (w.alloc (.cells #[.slice A n c] 22)) := by
  unfold execOp
  simp only [ho, List.map_toArray, List.map_cons, List.map_nil, hx]
  go_simp
theorem exec_build8 (x : Operand) (ho : o.op = .buildSlice 22 1 #[(0, x)]) {z : Int} (hx : ρ x = .int .u8 z) : (execOp ρ o).run Tryd.prog w = .ok (.value (.slice (some ⟨w.heap.size, 0, none⟩) 1 1)) (w.alloc (.cells #[.int .u8 z] 5)) := by
  unfold execOp
  simp only [ho, List.map_toArray, List.map_cons, List.map_nil, hx]
  go_simp
theorem one_of {vs : List Value} (h : vs.length = 1) : ∃ v, vs = [v] := by match vs, h with | [v], _ => exact ⟨v, rfl⟩
theorem two_of {vs : List Value} (h : vs.length = 2) : ∃ u v, vs = [u, v] := by match vs, h with | [u, v], _ => exact ⟨u, v, rfl⟩
theorem three_of {vs : List Value} (h : vs.length = 3) : ∃ u v x, vs = [u, v, x] := by match vs, h with | [u, v, x], _ => exact ⟨u, v, x, rfl⟩
end
/-- a new list, apart from all ways -/
def NL (w0 w : World) (F : Nat → Nat → Prop) (V : Nat → WyR) (v : Value) (k : Nat) (xs : List Value) : Prop :=
  ∃ A c, v = .slice A k c ∧ Own w w0.heap.size 22 1 A k c xs ∧ (∀ j, blk A = some j → ∀ i, ¬ F i j) ∧ ∀ i, i < 2 → blk (V i).A = none ∨ blk (V i).A ≠ blk A
section
variable {w0 w w' : World} {F : Nat → Nat → Prop} {p : Nat → Nat} {s : Nat → LSt} {g7 g8 g9 g10 g13 : Nat} {hv : Nat → Value} {V : Nat → WyR} {P C : Nat → List Nat} {K T X : Nat} {v : Value} {k : Nat} {xs : List Value}
theorem NL.later (h : NL w0 w F V v k xs) (b : Below w.heap.size w w') : NL w0 w' F V v k xs := by
  obtain ⟨A, c, h1, h2, h3, h4⟩ := h
  exact ⟨A, c, h1, h2.below b (Nat.le_refl _), h3, h4⟩
theorem NL.lit (h : SX w0 w F p s g7 g8 g9 g10 g13 hv V P C K T X) (cs : Array Value) (n : Nat) (hn : cs.size = n) (hm : n ≤ maxLen) : NL w0 (w.alloc (.cells cs 22)) F V (.slice (some ⟨w.heap.size, 0, none⟩) n n) n cs.toList := by
  refine ⟨_, _, rfl, Own.lit cs n h.ways.bel.size hm (by omega), fun j hj i hf => ?_, fun i hi => ?_⟩
  · injection hj with hj
    have := (h.ways.ge i j hf).2
    simp only at hj
    omega
  · cases hb : blk (V i).A with
    | none => exact .inl rfl
    | some j => refine .inr (fun e => ?_); injection e with e; have := ((h.o i hi).own.lt j hb).2; simp only at e; omega
/-- an append to it -/
theorem NL.app (h : SX w0 w F p s g7 g8 g9 g10 g13 hv V P C K T X) {A : Option Addr} {c : Nat} (hn : Own w w0.heap.size 22 1 A k c xs) (ha : ∀ j, blk A = some j → ∀ i, ¬ F i j) (hne : ∀ i, i < 2 → blk (V i).A = none ∨ blk (V i).A ≠ blk A) {A' : Option Addr} {m c' : Nat} {ys : List Value} (ho : Own w' w0.heap.size 22 1 A' m c' ys) (hg : w.grownBy w' (blk A)) (hA : blk A' = blk A ∨ blk A' = some w.heap.size) :
    SX w0 w' F p s g7 g8 g9 g10 g13 hv V P C K T X ∧ NL w0 w' F V (.slice A' m c') m ys := by
  refine ⟨h.off hg hn (Nat.le_refl _) ha hne, A', c', rfl, ho, fun j hj i hf => ?_, fun i hi => ?_⟩
  · rcases hA with e | e
    · exact ha j (by rw [← e]; exact hj) i hf
    · rw [hj] at e; injection e with e; have := (h.ways.ge i j hf).2; omega
  · rcases hA with e | e
    · rw [e]; exact hne i hi
    · cases hb : blk (V i).A with
      | none => exact .inl rfl
      | some j => refine .inr (fun e2 => ?_); rw [e] at e2; injection e2 with e2; have := ((h.o i hi).own.lt j hb).2; omega
/-- it becomes way n -/
theorem NL.way (h : SX w0 w F p s g7 g8 g9 g10 g13 hv V P C K T X) (n : Nat) (hn : n < 2) {v : Value} (hl : NL w0 w F V v k xs) {L : List (List Nat)} (hd : DGs w w0.heap.size F xs L) :
    ∃ a : WyR, v = a.v ∧ a.L = L ∧ a.n = k ∧ SX w0 w F p s g7 g8 g9 g10 g13 hv (upd V n a) P C K T X := by
  obtain ⟨A, c, rfl, ho, ha, hne⟩ := hl
  exact ⟨⟨A, k, c, xs, L⟩, rfl, rfl, rfl, h.way n hn _ (WayO.of ho ha hd) fun i hi _ => hne i hi⟩
theorem w_putO (h : SX w0 w F p s g7 g8 g9 g10 g13 hv V P C K T X) (i : Nat) (hi : i < 2) {a : Nat} (ha : p i = a) (A : Option Addr) (c x : Nat) (hx : x < 256) (hat : At w A (nats .u8 [x])) (hz : A ≠ none) (hS : (s i).S + (s i).l.length ≤ 1073741824) :
    Calls Tryd.prog 8 #[.pointer (some ⟨a, 0, none⟩), .slice A 1 c] w fun e w' => ∃ v F' s', e = .returned v ∧ SX w0 w' F' p s' g7 g8 g9 g10 g13 hv V P C K T X ∧ (((s i).l.length < 64 ∧ v = .nilIface ∧ s' = upd s i (putS (s i) [x])) ∨ (64 ≤ (s i).l.length ∧ v = .iface 70 (.int .i64 14) ∧ s' = s)) := by
  subst ha
  by_cases hl : (s i).l.length < 64
  · refine (w_put h.ways i hi hl hS A c [x] (by simp) (by simpa using hx) hat (fun e => absurd e hz)).mono ?_
    rintro e w' ⟨rfl, F', hw, hk, _⟩
    exact ⟨_, F', _, rfl, h.prog hw hk, .inl ⟨hl, rfl, rfl⟩⟩
  · refine (lput_full w (h.ways.lk i hi) (by omega) A 1 c (by omega)).mono ?_
    rintro e w' ⟨rfl, j, rfl⟩
    have hb : Below w.heap.size w (w.drewN j) := ⟨rfl, rfl, rfl, Nat.le_refl _, fun _ _ => rfl⟩
    exact ⟨_, F, s, rfl, h.later hb, .inr ⟨by omega, rfl, rfl⟩⟩
theorem w_hearO (h : SX w0 w F p s g7 g8 g9 g10 g13 hv V P C K T X) (i : Nat) (hi : i < 2) {a : Nat} (ha : p i = a) {A : Option Addr} {c n : Nat} {l : List Nat} (hn : l.length = n) (ho : Own w w0.heap.size 5 1 A l.length c (nats .u8 l)) (hb : ∀ y ∈ l, y < 256) {s' : LSt} {bd : List Nat} {is : Bool} (hr : hearR (s i) l = (s', bd, is, 0)) :
    Calls Tryd.prog 10 #[.pointer (some ⟨a, 0, none⟩), .slice A n c] w fun e w' => ∃ A1 c1 F', e = .returned (.tuple #[.slice A1 bd.length c1, .bool is, .nilIface]) ∧ SX w0 w' F' p (upd s i s') g7 g8 g9 g10 g13 hv V P C K T X ∧ At w' A1 (nats .u8 bd) := by
  subst ha hn
  refine (w_hear h.ways i hi A c l ho.cap.1 ho.cap.2 ho.at_ hb).mono ?_
  rintro e w' ⟨A1, c1, rfl, F', hw, hk, hd⟩
  rw [hr] at hw hd ⊢
  exact ⟨A1, c1, F', rfl, h.prog hw hk, hd.at_⟩
end
theorem strN_cut {l rest : List Nat} : (strN (l ++ rest)).extract 0 l.length = strN l := by
  apply ByteArray.ext
  simp [strN]
theorem out_len (s : LSt) : (outA s ++ outB s).length ≤ 2 := by
  unfold outA outB
  split <;> cases s.l with
  | nil => simp
  | cons b r => simp only; split <;> simp
end Go.Proofs.YtodimanghmepoaaDoor
namespace Go.Proofs.YtodimanghmepoaaDoor
open Go.RowKit
theorem DGX.byte {sx sy : LSt} {P d : List Nat} (h : DGX sx sy P d) (hP : ∀ y ∈ P, y < 256) : ∀ y ∈ d, y < 256 := by
  rcases h with ⟨q, q1, _, q3, rfl⟩ | ⟨m, _, rfl⟩
  · refine encL_byte fun y hy => ?_
    rw [List.mem_singleton.1 hy, List.getD_eq_getElem?_getD, List.getElem?_eq_getElem (by omega)]
    exact hP _ (List.getElem_mem _)
  · exact encL_byte (by simp)
/-- what holds ahead of step k -/
structure ME (s : Nat → LSt) (V : Nat → WyR) (P C : Nat → List Nat) (many k : Nat) : Prop where
  ti : TI (s 0) (s 1) 0 1 (V 0).L (V 1).L (P 0) (P 1) (C 0) (C 1)
  b0 : (V 0).L.length ≤ 3 * min k (many + 3)
  b1 : (V 1).L.length ≤ 3 * min k (many + 3)
  p0 : (P 0).length ≤ 200 ∧ (k ≤ many → (P 0).length ≤ k)
  p1 : (P 1).length ≤ 200 ∧ (k ≤ many → (P 1).length ≤ k)
  y0 : ∀ y ∈ P 0, y < 256
  y1 : ∀ y ∈ P 1, y < 256
  calm : CalmI many k (s 0) (s 1) (V 0).L (V 1).L (P 0) (P 1) (C 0) (C 1)
section
variable {s s' : Nat → LSt} {V V' : Nat → WyR} {P P' C C' : Nat → List Nat} {many k : Nat}
theorem ME.send (h : ME s V P C many k) (hc : many ≤ k → k % 3 = 0) (l0 : 0 ≤ (s 0).lf) (l1 : 0 ≤ (s 1).lf) (e0 : s' 0 = outS (s 0)) (e1 : s' 1 = outS (s 1))
    (v0 : (V' 0).L = (V 0).L ++ (outA (s 1) ++ outB (s 1))) (v1 : (V' 1).L = (V 1).L ++ (outA (s 0) ++ outB (s 0))) : ME s' V' P C many (k + 1) := by
  have x0 := out_len (s 0)
  have x1 := out_len (s 1)
  have hb : ∀ {L M : List (List Nat)}, L.length ≤ 3 * min k (many + 3) → M.length ≤ 2 → (many + 3 ≤ k → L = []) → (L ++ M).length ≤ 3 * min (k + 1) (many + 3) := by
    intro L M h1 h2 h3
    rw [List.length_append]
    by_cases hk : many + 3 ≤ k
    · rw [h3 hk]; simp only [List.length_nil]; omega
    · omega
  have hz : many + 3 ≤ k → (V 0).L = [] ∧ (V 1).L = [] := fun hk => by
    have := (h.calm (by omega)).1 (hc (by omega))
    exact ⟨this.1, this.2.1⟩
  refine ⟨?_, ?_, ?_, ⟨h.p0.1, fun hk => by have := h.p0.2 (by omega); omega⟩, ⟨h.p1.1, fun hk => by have := h.p1.2 (by omega); omega⟩, h.y0, h.y1, ?_⟩
  · rw [e0, e1, v0, v1]; exact h.ti.out.symm.out.symm
  · rw [v0]; exact hb h.b0 x1 fun hk => (hz hk).1
  · rw [v1]; exact hb h.b1 x0 fun hk => (hz hk).2
  · rw [e0, e1, v0, v1]
    by_cases hk : k + 1 ≤ many
    · exact CalmI.early hk
    · exact h.calm.out (hc (by omega)) h.ti l0 l1
theorem ME.tick (h : ME s V P C many k) (hc : many ≤ k → k % 3 = 2) (l0 : 0 ≤ (s 0).lf) (l1 : 0 ≤ (s 1).lf) (e0 : s' 0 = tickS (s 0)) (e1 : s' 1 = tickS (s 1)) : ME s' V P C many (k + 1) := by
  refine ⟨?_, by have := h.b0; omega, by have := h.b1; omega, ⟨h.p0.1, fun hk => by have := h.p0.2 (by omega); omega⟩, ⟨h.p1.1, fun hk => by have := h.p1.2 (by omega); omega⟩, h.y0, h.y1, ?_⟩
  · rw [e0, e1]; exact h.ti.tick
  · rw [e0, e1]
    by_cases hk : k + 1 ≤ many
    · exact CalmI.early hk
    · exact h.calm.tick (hc (by omega)) l0 l1
/-- the ways are turned, nothing new is on them -/
theorem ME.ways (h : ME s V P C many k) (hk : k < many) (m0 : ∀ d ∈ (V' 0).L, d ∈ (V 0).L) (m1 : ∀ d ∈ (V' 1).L, d ∈ (V 1).L) (n0 : (V' 0).L.length ≤ (V 0).L.length + 1) (n1 : (V' 1).L.length ≤ (V 1).L.length + 1) : ME s V' P C many (k + 1) := by
  refine ⟨((h.ti.sub m0).symm.sub m1).symm, by have := h.b0; omega, by have := h.b1; omega, ⟨h.p0.1, fun hk => by have := h.p0.2 (by omega); omega⟩, ⟨h.p1.1, fun hk => by have := h.p1.2 (by omega); omega⟩, h.y0, h.y1, CalmI.early (by omega)⟩
theorem ME.stay (h : ME s V P C many k) (hk : k < many) : ME s V P C many (k + 1) :=
  h.ways hk (fun _ h => h) (fun _ h => h) (by omega) (by omega)
theorem ME.put0 (h : ME s V P C many k) (hk : k < many) {x : Nat} (hx : x < 256) (e0 : s' 0 = putS (s 0) [x]) (e1 : s' 1 = s 1) (q0 : P' 0 = P 0) (q1 : P' 1 = P 1 ++ [x]) (hm : many ≤ 200) : ME s' V P' C many (k + 1) := by
  have a0 := h.p0.2 (by omega)
  have a1 := h.p1.2 (by omega)
  refine ⟨?_, by have := h.b0; omega, by have := h.b1; omega, ?_, ?_, ?_, ?_, CalmI.early (by omega)⟩
  · rw [e0, e1, q0, q1]; exact h.ti.put x
  · rw [q0]; exact ⟨by omega, fun _ => by omega⟩
  · rw [q1, List.length_append]; exact ⟨by simp; omega, fun _ => by simp; omega⟩
  · rw [q0]; exact h.y0
  · rw [q1]; intro y hy; rcases List.mem_append.1 hy with h1 | h1
    · exact h.y1 y h1
    · rw [List.mem_singleton.1 h1]; exact hx
theorem ME.put1 (h : ME s V P C many k) (hk : k < many) {x : Nat} (hx : x < 256) (e0 : s' 0 = s 0) (e1 : s' 1 = putS (s 1) [x]) (q0 : P' 0 = P 0 ++ [x]) (q1 : P' 1 = P 1) (hm : many ≤ 200) : ME s' V P' C many (k + 1) := by
  have a0 := h.p0.2 (by omega)
  have a1 := h.p1.2 (by omega)
  refine ⟨?_, by have := h.b0; omega, by have := h.b1; omega, ?_, ?_, ?_, ?_, CalmI.early (by omega)⟩
  · rw [e0, e1, q0, q1]; exact (h.ti.symm.put x).symm
  · rw [q0, List.length_append]; exact ⟨by simp; omega, fun _ => by simp; omega⟩
  · rw [q1]; exact ⟨by omega, fun _ => by omega⟩
  · rw [q0]; intro y hy; rcases List.mem_append.1 hy with h1 | h1
    · exact h.y0 y h1
    · rw [List.mem_singleton.1 h1]; exact hx
  · rw [q1]; exact h.y1
theorem dir_S {sa sb : LSt} {P C : List Nat} (h : Dir sa sb P C) (hP : P.length ≤ 1000) : sa.S + sa.l.length ≤ 1073741824 := by
  obtain ⟨j, r, a1, a2, a3, a4, a5, a6, a7⟩ := h.j
  rw [a1, a6, bods, List.length_map, List.length_drop]; omega
end
/-- one end hears: n the end, m the other one; h hears so far -/
structure HR (s : Nat → LSt) (V : Nat → WyR) (C : Nat → List Nat) (s' : Nat → LSt) (V' : Nat → WyR) (C' : Nat → List Nat) (P : Nat → List Nat) (n m many k h : Nat) : Prop where
  ti : TI (s' n) (s' m) n m (V' n).L (V' m).L (P n) (P m) (C' n) (C' m)
  so : s' m = s m ∧ V' m = V m ∧ C' m = C m
  len : (V' n).L.length + h = (V n).L.length
  calm : many ≤ k → (V' n).L = (V n).L.drop h ∧ s' n = hearAll (s n) ((V n).L.take h)
section
variable {s s' : Nat → LSt} {V V' : Nat → WyR} {P C C' : Nat → List Nat} {n m many k h : Nat}
theorem HR.start (ti : TI (s n) (s m) n m (V n).L (V m).L (P n) (P m) (C n) (C m)) : HR s V C s V C P n m many k 0 :=
  ⟨ti, ⟨rfl, rfl, rfl⟩, by omega, fun _ => ⟨rfl, rfl⟩⟩
theorem HR.step (hr : HR s V C s' V' C' P n m many k h) (hnm : m ≠ n) (hP : (P n).length ≤ 1000) (hP' : (P m).length ≤ 1000) {a : Nat} {d : List Nat} (hd : (V' n).L[a]? = some d) (ha : many ≤ k → a = 0) :
    ∃ s1 bd is, hearR (s' n) d = (s1, bd, is, 0) ∧ (is = false → bd = []) ∧ ∀ r : WyR, r.L = (V' n).L.take a ++ (V' n).L.drop (a + 1) → HR s V C (upd s' n s1) (upd V' n r) (upd C' n (C' n ++ bd)) P n m many k (h + 1) := by
  obtain ⟨s1, bd, is, h1, h2, h3⟩ := hr.ti.hear hP hP' (List.mem_of_getElem? hd)
  have hla : a < (V' n).L.length := by
    rcases Nat.lt_or_ge a (V' n).L.length with h | h
    · exact h
    · rw [List.getElem?_eq_none h] at hd; cases hd
  refine ⟨s1, bd, is, h1, h3, fun r hrL => ⟨?_, ?_, ?_, ?_⟩⟩
  · rw [upd_self, upd_self, upd_self, upd_ne _ _ hnm, upd_ne _ _ hnm, upd_ne _ _ hnm, hrL]
    refine h2.sub fun x hx => ?_
    rcases List.mem_append.1 hx with h4 | h4
    · exact List.mem_of_mem_take h4
    · exact List.mem_of_mem_drop h4
  · rw [upd_ne _ _ hnm, upd_ne _ _ hnm, upd_ne _ _ hnm]; exact hr.so
  · rw [upd_self, hrL]
    have := hr.len
    simp only [List.length_append, List.length_take, List.length_drop]; omega
  · intro hk
    obtain ⟨c1, c2⟩ := hr.calm hk
    have := ha hk
    subst this
    rw [upd_self, upd_self, hrL, c1]
    have hlt : h < (V n).L.length := by have := hr.len; omega
    rw [c1, List.getElem?_drop, Nat.add_zero] at hd
    refine ⟨by simp only [List.take_zero, List.nil_append, List.drop_drop], ?_⟩
    rw [List.take_add_one, hd, hearAll_append, ← c2]
    show s1 = (hearR (s' n) d).1
    rw [h1]
/-- both ends have heard -/
theorem ME.hear {s1 s2 : Nat → LSt} {V1 V2 : Nat → WyR} {C1 C2 : Nat → List Nat} {x y : Nat} (h : ME s V P C many k) (hc : many ≤ k → k % 3 = 1) (a : HR s V C s1 V1 C1 P 0 1 many k x) (b : HR s1 V1 C1 s2 V2 C2 P 1 0 many k y)
    (za : many ≤ k → (V1 0).L = []) (zb : many ≤ k → (V2 1).L = []) (ok : ∀ i, i < 2 → 0 ≤ (s2 i).lf ∧ (s2 i).lf ≤ 24) : ME s2 V2 P C2 many (k + 1) := by
  obtain ⟨b1, b2, b3⟩ := b.so
  obtain ⟨a1, a2, a3⟩ := a.so
  have ti := b.ti.symm
  refine ⟨ti, ?_, ?_, ⟨h.p0.1, fun hk => by have := h.p0.2 (by omega); omega⟩, ⟨h.p1.1, fun hk => by have := h.p1.2 (by omega); omega⟩, h.y0, h.y1, ?_⟩
  · have := a.len; have := h.b0; rw [b2]; omega
  · have h1 := b.len; rw [a2] at h1; have := h.b1; omega
  · by_cases hk : k + 1 ≤ many
    · exact CalmI.early hk
    · have hk' : many ≤ k := by omega
      have e0 : (V2 0).L = [] := by rw [b2]; exact za hk'
      have e1 := zb hk'
      have f0 : s2 0 = hearAll (s 0) (V 0).L := by
        rw [b1, (a.calm hk').2]
        have : x = (V 0).L.length := by have := a.len; rw [za hk'] at this; simpa using this
        rw [this, List.take_length]
      have f1 : s2 1 = hearAll (s 1) (V 1).L := by
        rw [(b.calm hk').2, a1, a2]
        have : y = (V 1).L.length := by have := b.len; rw [e1, a2] at this; simpa using this
        rw [this, List.take_length]
      rw [e0, e1] at ti ⊢
      have o0 := ok 0 (by decide)
      have o1 := ok 1 (by decide)
      rw [f0, f1] at ti ⊢
      rw [f0] at o0
      rw [f1] at o1
      exact h.calm.hear (hc hk') hk' (by have := h.p0.1; omega) (by have := h.p1.1; omega) ti o0 o1
end
/-- the world without the step's box -/
structure S0 (w0 w : World) (F : Nat → Nat → Prop) (p : Nat → Nat) (s : Nat → LSt) (g7 g8 g9 g10 : Nat) (V : Nat → WyR) (P C : Nat → List Nat) : Prop where
  ways : Ways w0 w 2 F p s
  h7 : Holds w g7 64 #[.pointer (some ⟨p 0, 0, none⟩), .pointer (some ⟨p 1, 0, none⟩)]
  h8 : Holds w g8 65 #[(V 0).v, (V 1).v]
  h9 : Holds w g9 66 #[.string (strN (P 0)), .string (strN (P 1))]
  h10 : Holds w g10 66 #[.string (strN (C 0)), .string (strN (C 1))]
  o : ∀ i, i < 2 → WayO w w0.heap.size F (V i).A (V i).n (V i).c (V i).vs (V i).L
  ne : blk (V 0).A = none ∨ blk (V 0).A ≠ blk (V 1).A
  ge : w0.heap.size ≤ g7 ∧ w0.heap.size ≤ g8 ∧ w0.heap.size ≤ g9 ∧ w0.heap.size ≤ g10
  d : g7 ≠ g8 ∧ g7 ≠ g9 ∧ g7 ≠ g10 ∧ g8 ≠ g9 ∧ g8 ≠ g10 ∧ g9 ≠ g10
  f : ∀ i, ¬ F i g7 ∧ ¬ F i g8 ∧ ¬ F i g9 ∧ ¬ F i g10
section
variable {w0 w w' : World} {F : Nat → Nat → Prop} {p : Nat → Nat} {s : Nat → LSt} {g7 g8 g9 g10 g13 : Nat} {V : Nat → WyR} {P C : Nat → List Nat} {K T X : Nat}
theorem S0.box (h : S0 w0 w F p s g7 g8 g9 g10 V P C) (b : Below w.heap.size w w') (h13 : Holds w' g13 68 #[.int .u8 (K : Int), .int .u8 (T : Int), .int .u8 (X : Int)]) (hg : w.heap.size ≤ g13) : SV w0 w' F p s g7 g8 g9 g10 g13 V P C K T X := by
  have k := Keep.of_below F b
  have l8 := h.h8.lt
  have l9 := h.h9.lt
  have l10 := h.h10.lt
  have hs := h.ways.bel.size
  refine ⟨h.ways.later b, h.h7.later b (Nat.le_refl _), h.h8.later b (Nat.le_refl _), h.h9.later b (Nat.le_refl _), h.h10.later b (Nat.le_refl _), h13, fun i hi => (h.o i hi).keep k, h.ne, ⟨h.ge.1, h.ge.2.1, h.ge.2.2.1, h.ge.2.2.2, by omega⟩, ⟨h.d.1, h.d.2.1, h.d.2.2.1, h.d.2.2.2.1, h.d.2.2.2.2.1, h.d.2.2.2.2.2, by omega, by omega, by omega⟩, fun i => ⟨(h.f i).1, (h.f i).2.1, (h.f i).2.2.1, (h.f i).2.2.2, fun hf => by have := (h.ways.ge i _ hf).2; omega⟩⟩
theorem to_S0 (h : SV w0 w F p s g7 g8 g9 g10 g13 V P C K T X) : S0 w0 w F p s g7 g8 g9 g10 V P C :=
  ⟨h.ways, h.h7, h.h8, h.h9, h.h10, h.o, h.ne, ⟨h.ge.1, h.ge.2.1, h.ge.2.2.1, h.ge.2.2.2.1⟩, ⟨h.d.1, h.d.2.1, h.d.2.2.1, h.d.2.2.2.1, h.d.2.2.2.2.1, h.d.2.2.2.2.2.1⟩, fun i => ⟨(h.f i).1, (h.f i).2.1, (h.f i).2.2.1, (h.f i).2.2.2.1⟩⟩
theorem S0.later (h : S0 w0 w F p s g7 g8 g9 g10 V P C) (b : Below w.heap.size w w') : S0 w0 w' F p s g7 g8 g9 g10 V P C :=
  ⟨h.ways.later b, h.h7.later b (Nat.le_refl _), h.h8.later b (Nat.le_refl _), h.h9.later b (Nat.le_refl _), h.h10.later b (Nat.le_refl _), fun i hi => (h.o i hi).later b, h.ne, h.ge, h.d, h.f⟩
end
/-- what a step leaves -/
def After (w0 : World) (p : Nat → Nat) (g7 g8 g9 g10 : Nat) (many k : Nat) (W : World) : Prop :=
  ∃ (F : Nat → Nat → Prop) (s : Nat → LSt) (V : Nat → WyR) (P C : Nat → List Nat), S0 w0 W F p s g7 g8 g9 g10 V P C ∧ ME s V P C many (k + 1)
/-- the slots that the switch writes; those of one end's hearing -/
def opSw (t : Nat) : Bool := Nat.beq t 2 || (Nat.ble 15 t && Nat.ble t 23) || (Nat.ble 53 t && Nat.ble t 295)
def opB6 (t : Nat) : Bool := Nat.beq t 2 || (Nat.ble 17 t && Nat.ble t 22) || (Nat.ble 123 t && Nat.ble t 197)
/-- does an end hear on? -/
def goB (l many k x : Nat) (zz n : Int) : Bool := decide (0 < l ∧ (many ≤ k ∨ (zz = n ∧ x = 0)))
theorem goB_t {l many k x : Nat} {zz n : Int} (h : 0 < l ∧ (many ≤ k ∨ (zz = n ∧ x = 0))) : goB l many k x zz n = true := decide_eq_true h
theorem goB_f {l many k x : Nat} {zz n : Int} (h : ¬ (0 < l ∧ (many ≤ k ∨ (zz = n ∧ x = 0)))) : goB l many k x zz n = false := decide_eq_false h
/-- a step that came in -/
def StepL (w : World) (A : Option Addr) (i : Nat) : Prop :=
  ∃ (b o K T X : Nat), A = some ⟨b, o, none⟩ ∧ w.cell? ⟨b, o + i * 3, none⟩ = some (.int .u8 (K : Int)) ∧ w.cell? ⟨b, o + i * 3 + 1, none⟩ = some (.int .u8 (T : Int)) ∧ w.cell? ⟨b, o + i * 3 + 2, none⟩ = some (.int .u8 (X : Int)) ∧ K < 256 ∧ T < 256 ∧ X < 256
set_option maxRecDepth 100000 in
theorem index3_0 (w : World) : (Instr.index 38 (.agg #[.int .i64 0, .int .i64 1, .int .i64 4]) (.int .i64 0)).run Tryd.prog w = .ok (.int .i64 0) w := by
  first
    | rfl
    | (simp [Instr.index, go_sem]; done)
    | kernel_rfl
set_option maxRecDepth 100000 in
theorem index3_1 (w : World) : (Instr.index 38 (.agg #[.int .i64 0, .int .i64 1, .int .i64 4]) (.int .i64 1)).run Tryd.prog w = .ok (.int .i64 1) w := by
  first
    | rfl
    | (simp [Instr.index, go_sem]; done)
    | kernel_rfl
set_option maxRecDepth 100000 in
theorem index3_2 (w : World) : (Instr.index 38 (.agg #[.int .i64 0, .int .i64 1, .int .i64 4]) (.int .i64 2)).run Tryd.prog w = .ok (.int .i64 4) w := by
  first
    | rfl
    | (simp [Instr.index, go_sem]; done)
    | kernel_rfl
theorem pre_of {sa sb : LSt} {P C : List Nat} (h : Dir sa sb P C) : ∃ rest, P = C ++ rest := by
  obtain ⟨_, h2⟩ := h.front
  exact ⟨P.drop C.length, by conv => lhs; rw [← List.take_append_drop C.length P, h2]⟩
def opB9 (t : Nat) : Bool := Nat.beq t 2 || Nat.beq t 24 || (Nat.ble 269 t && Nat.ble t 295)
def opB1 (t : Nat) : Bool := Nat.beq t 2 || (Nat.ble 13 t && Nat.ble t 24) || (Nat.ble 53 t && Nat.ble t 295)
theorem over_trans {l L0 L1 : List Value} {g0 g1 : Nat → Bool} (he : over (fun t => l.getD t undef) g1 0 L1 = l) (h1 : over (fun t => L1.getD t undef) g0 0 L0 = L1) (hg : ∀ t, g1 t = true → g0 t = true) : over (fun t => l.getD t undef) g0 0 L0 = l := by
  have n1 : L1.length = L0.length := by rw [← h1, over_length]
  have n0 : l.length = L0.length := by rw [← he, over_length, n1]
  apply List.ext_getElem
  · rw [over_length, n0]
  intro t h2 h3
  have ht : t < L0.length := by rw [← n0]; exact h3
  have gd : ∀ (l : List Value) (h : t < l.length), l.getD t undef = l[t] := fun l h => by rw [List.getD_eq_getElem?_getD, List.getElem?_eq_getElem h]; rfl
  rw [← gd _ h2, ← gd _ h3, over_getD _ _ _ _ _ ht, Nat.zero_add]
  cases hg0 : g0 t with
  | true => rfl
  | false =>
    have hg1 : g1 t = false := by
      cases h : g1 t with
      | false => rfl
      | true => rw [hg t h] at hg0; cases hg0
    have e1 := over_getD (fun t => l.getD t undef) g1 L1 0 t (by omega)
    rw [he, Nat.zero_add, hg1] at e1
    have e2 := over_getD (fun t => L1.getD t undef) g0 L0 0 t ht
    rw [h1, Nat.zero_add, hg0] at e2
    rw [e1]
    exact e2.symm
theorem opB9_B1 (t : Nat) (h : opB9 t = true) : opB1 t = true := by
  simp only [opB9, opB1, Bool.or_eq_true, Bool.and_eq_true, Nat.ble_eq, Nat.beq_eq] at h ⊢
  omega
/-- the switch -/
def blkAt (id : Nat) : Code → Option Code
  | .seq a b => match blkAt id a with
    | some o => some o
    | none => blkAt id b
  | .cond _ a b => match blkAt id a with
    | some o => some o
    | none => blkAt id b
  | .block i b => cond (Nat.beq i id) (some (.block i b)) (blkAt id b)
  | .loop b => blkAt id b
  | _ => none
noncomputable def sw : {o : Code // (Tryd.f5).body.bind (blkAt 2) = some o} := ⟨_, rfl⟩
noncomputable def bl9 : {o : Code // (Tryd.f5).body.bind (blkAt 9) = some o} := ⟨_, rfl⟩
noncomputable def bl1 : {o : Code // (Tryd.f5).body.bind (blkAt 1) = some o} := ⟨_, rfl⟩
noncomputable def hb6 : {o : Code // (Tryd.f5).body.bind (blkAt 6) = some o} := ⟨_, rfl⟩
end Go.Proofs.YtodimanghmepoaaDoor
