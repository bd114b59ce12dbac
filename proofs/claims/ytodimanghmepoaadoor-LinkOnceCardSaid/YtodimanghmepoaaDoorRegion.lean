/- A region that draws its order: each operation by itself, at whatever moment its turn comes; what it leaves in its slot is told by a relation that holds on, whatever comes behind. -/
import Derived.WalkKit
import Derived.Lib.Hide
import Derived.KernelRfl
namespace Go.Proofs.YtodimanghmepoaaDoor
open Go.RowKit

abbrev Rel := Value → World → Prop
def Rel.none_ : Rel := fun _ _ => True
def dstOf (ops : Array Oper) (i : Nat) : Option Tmp := (ops[i]?).bind (·.dst)
/-- the slots that the region's operations write are all different, and each operation waits for earlier ones alone -/
def plainOps (ops : Array Oper) : Bool :=
  (List.range ops.size).all fun i => (match dstOf ops i with
    | some d => (List.range i).all fun j => dstOf ops j != some d
    | none => true) &&
    (match ops[i]? with
    | some o => o.after.all fun e => !Region.binds .any e || decide (e.on < i)
    | none => true)
def isDst (ops : Array Oper) (t : Tmp) : Bool := (List.range ops.size).any fun i => dstOf ops i == some t
/-- what an operation may lean on when its turn comes: what it waits for has left what its relation tells; the other slots that it looks at are as they were -/
structure Ready (ops : Array Oper) (R : List Rel) (a0 : Act) (o : Oper) (a : Act) (W : World) : Prop where
  preds : ∀ e ∈ o.after.toList, Region.binds .any e = true → ∀ d, dstOf ops e.on = some d → (R.getD e.on Rel.none_) (a.tmps.getD d undef) W
  outside : ∀ t, isDst ops t = false → a.tmps.getD t undef = a0.tmps.getD t undef
  waits : ∀ e ∈ o.after.toList, Region.binds .any e = true → dstOf ops e.on = none → ∃ v, (R.getD e.on Rel.none_) v W
def StepOk (P : Program) (ops : Array Oper) (Q : Exit → Act → World → Prop) (X : World → World → Prop) (R : List Rel) (a0 : Act) (w0 : World) (i : Nat) (o : Oper) : Prop :=
  ∀ (a : Act) (W : World), X w0 W → Ready ops R a0 o a W → wpOp P ops Q i (fun a' W' => ∃ v, a' = a.put o.dst v ∧ X W W' ∧ (R.getD i Rel.none_) v W') a W
def Steps (P : Program) (ops : Array Oper) (Q : Exit → Act → World → Prop) (X : World → World → Prop) (R : List Rel) (a0 : Act) (w0 : World) : Nat → List Oper → Prop
  | _, [] => True
  | i, o :: l => StepOk P ops Q X R a0 w0 i o ∧ Steps P ops Q X R a0 w0 (i + 1) l

section
variable {P : Program} {ops : Array Oper} {Q : Exit → Act → World → Prop} {X : World → World → Prop} {R : List Rel} {a0 : Act} {w0 : World}
theorem Steps.at_ : ∀ (l : List Oper) (k i : Nat) (o : Oper), Steps P ops Q X R a0 w0 k l → l[i]? = some o → StepOk P ops Q X R a0 w0 (k + i) o
  | [], _, _, _, _, h => by simp at h
  | o' :: l, k, 0, o, hs, h => by simp at h; subst h; exact hs.1
  | o' :: l, k, i + 1, o, hs, h => by
    have := Steps.at_ l (k + 1) i o hs.2 (by simpa using h)
    rwa [Nat.add_assoc, Nat.add_comm 1 i] at this
theorem put_getD_self (a : Act) (d : Tmp) (v : Value) (h : d < a.tmps.size) : (a.put (some d) v).tmps.getD d undef = v := by
  simp [Act.put, Array.getD_eq_getD_getElem?, h]
theorem put_getD_ne (a : Act) (x : Option Tmp) (d : Tmp) (v : Value) (h : x ≠ some d) : (a.put x v).tmps.getD d undef = a.tmps.getD d undef := by
  cases x with
  | none => rfl
  | some y =>
    have : y ≠ d := fun e => h (by rw [e])
    simp [Act.put, Array.getD_eq_getD_getElem?, Array.getElem?_setIfInBounds_ne this]
theorem put_size (a : Act) (x : Option Tmp) (v : Value) : (a.put x v).tmps.size = a.tmps.size := by cases x <;> simp [Act.put]
theorem put_defers (a : Act) (x : Option Tmp) (v : Value) : (a.put x v).defers = a.defers := by cases x <;> rfl

structure Inv (ops : Array Oper) (X : World → World → Prop) (R : List Rel) (a0 : Act) (w0 : World) (listed : Array Bool) (a : Act) (W : World) : Prop where
  ext : X w0 W
  size : a.tmps.size = a0.tmps.size
  defers : a.defers = a0.defers
  outside : ∀ t, isDst ops t = false → a.tmps.getD t undef = a0.tmps.getD t undef
  slots : ∀ j d, listed.getD j false = true → dstOf ops j = some d → (R.getD j Rel.none_) (a.tmps.getD d undef) W
  bare : ∀ j, listed.getD j false = true → dstOf ops j = none → ∃ v, (R.getD j Rel.none_) v W

theorem plain_dst (h : plainOps ops = true) {i j : Nat} {d : Tmp} (hi : dstOf ops i = some d) (hj : dstOf ops j = some d) : i = j := by
  have key : ∀ i j, j < i → dstOf ops i = some d → dstOf ops j = some d → False := by
    intro i j hji hi hj
    have hlt : i < ops.size := by
      rcases Nat.lt_or_ge i ops.size with h | h
      · exact h
      · simp [dstOf, Array.getElem?_eq_none h] at hi
    simp only [plainOps, List.all_eq_true, List.mem_range] at h
    have h1 := h i hlt
    rw [hi] at h1
    simp only [Bool.and_eq_true, List.all_eq_true, List.mem_range] at h1
    have h2 := h1.1 j hji
    rw [hj] at h2
    simp at h2
  rcases Nat.lt_trichotomy i j with h1 | h1 | h1
  · exact (key j i h1 hj hi).elim
  · exact h1
  · exact (key i j h1 hi hj).elim
theorem plain_on (h : plainOps ops = true) {i : Nat} {o : Oper} (hi : ops[i]? = some o) : ∀ e ∈ o.after, Region.binds .any e = true → e.on < i := by
  intro e he hb
  have hlt : i < ops.size := (Array.getElem?_eq_some_iff.1 hi).1
  simp only [plainOps, List.all_eq_true, List.mem_range] at h
  have h1 := h i hlt
  rw [hi] at h1
  simp only [Bool.and_eq_true, Array.all_eq_true_iff_forall_mem] at h1
  have h2 := h1.2 e he
  rw [hb] at h2
  simpa using h2
theorem all_listed (h : plainOps ops = true) {listed : Array Bool} (hs : listed.size = ops.size) (hr : Region.ready .any ops listed = []) : ∀ j, j < ops.size → listed.getD j false = true := by
  intro j
  induction j using Nat.strongRecOn with
  | ind j ih =>
    intro hj
    rcases hb : listed.getD j false with _ | _
    · exfalso
      have : j ∈ Region.ready .any ops listed := by
        rw [mem_ready]
        refine ⟨?_, ops[j], by simp [hj], fun e he hbd => ?_⟩
        · have : j < listed.size := by omega
          simp [Array.getD_eq_getD_getElem?, this] at hb ⊢; exact hb
        · have hlt := plain_on h (i := j) (o := ops[j]) (by simp [hj]) e he hbd
          exact ih e.on hlt (by omega)
      rw [hr] at this; cases this
    · rfl
theorem Inv.step (hp : plainOps ops = true) (htr : ∀ a b c, X a b → X b c → X a c) (hmono : ∀ i, ∀ v W W', (R.getD i Rel.none_) v W → X W W' → (R.getD i Rel.none_) v W')
    (hd : ∀ i d, dstOf ops i = some d → d < a0.tmps.size) {listed : Array Bool} {a : Act} {W W' : World} (h : Inv ops X R a0 w0 listed a W) {i : Nat} {o : Oper} (ho : ops[i]? = some o)
    {v : Value} (hX : X W W') (hR : (R.getD i Rel.none_) v W') : Inv ops X R a0 w0 (listed.setIfInBounds i true) (a.put o.dst v) W' := by
  have hdo : dstOf ops i = o.dst := by simp [dstOf, ho]
  have hlt : i < ops.size := (Array.getElem?_eq_some_iff.1 ho).1
  refine ⟨htr _ _ _ h.ext hX, by rw [put_size]; exact h.size, by rw [put_defers]; exact h.defers, fun t ht => ?_, fun j d hj hjd => ?_, fun j hj hjd => ?_⟩
  · rw [put_getD_ne]
    · exact h.outside t ht
    · intro e
      have : isDst ops t = true := by
        simp only [isDst, List.any_eq_true, List.mem_range]
        exact ⟨i, hlt, by rw [hdo, e]; simp⟩
      rw [this] at ht; cases ht
  · by_cases hji : j = i
    · subst hji
      rw [hdo] at hjd
      rw [hjd, put_getD_self _ _ _ (by rw [h.size]; exact hd j d (by rw [hdo, hjd]))]
      exact hR
    · rw [put_getD_ne]
      · rw [getD_set_ne false (Ne.symm hji)] at hj
        exact hmono _ _ _ _ (h.slots j d hj hjd) hX
      · intro e
        exact hji (plain_dst hp hjd (by rw [hdo]; exact e))
  · by_cases hji : j = i
    · subst hji; exact ⟨v, hR⟩
    · rw [getD_set_ne false (Ne.symm hji)] at hj
      obtain ⟨u, hu⟩ := h.bare j hj hjd
      exact ⟨u, hmono _ _ _ _ hu hX⟩
/-- **a region that draws its order, operation by operation** -/
theorem wp_region_rel {id : Nat} (X : World → World → Prop) (R : List Rel) (hm : P.follows .mixedOrders = true) (hp : plainOps ops = true)
    (hrefl : ∀ a, X a a) (htr : ∀ a b c, X a b → X b c → X a c) (hmono : ∀ i, ∀ v W W', (R.getD i Rel.none_) v W → X W W' → (R.getD i Rel.none_) v W')
    (hd : ∀ i d, dstOf ops i = some d → d < a0.tmps.size)
    (hs : Steps P ops Q X R a0 w0.drew 0 ops.toList)
    (hf : ∀ (a : Act) (W : World), X w0.drew W → a.tmps.size = a0.tmps.size → a.defers = a0.defers → (∀ t, isDst ops t = false → a.tmps.getD t undef = a0.tmps.getD t undef) →
      (∀ j d, dstOf ops j = some d → (R.getD j Rel.none_) (a.tmps.getD d undef) W) → (∀ j, j < ops.size → dstOf ops j = none → ∃ v, (R.getD j Rel.none_) v W) → Q .normal a W) :
    (Code.region id ops true).wp P Q a0 w0 := by
  refine wp_region_any hm ?_
  have fin : ∀ (listed : Array Bool) (a : Act) (W : World), Inv ops X R a0 w0.drew listed a W → (∀ j, j < ops.size → listed.getD j false = true) → Q .normal a W := by
    intro listed a W h hall
    refine hf a W h.ext h.size h.defers h.outside (fun j d hj => h.slots j d (hall j ?_) hj) (fun j hjs hj => h.bare j (hall j hjs) hj)
    rcases Nat.lt_or_ge j ops.size with h | h
    · exact h
    · simp [dstOf, Array.getElem?_eq_none h] at hj
  have key : ∀ (fuel : Nat) (listed : Array Bool) (a : Act) (W : World), listed.size = ops.size → Inv ops X R a0 w0.drew listed a W →
      (∃ l : List Nat, l.length ≤ fuel ∧ ∀ j, j < ops.size → listed.getD j false = false → j ∈ l) → wpAny P .any ops Q fuel listed a W := by
    intro fuel
    induction fuel with
    | zero =>
      rintro listed a W hsz h ⟨l, hl, hmem⟩
      have hl0 : l = [] := List.eq_nil_of_length_eq_zero (by omega)
      subst hl0
      have hall : ∀ j, j < ops.size → listed.getD j false = true := by
        intro j hj
        rcases hb : listed.getD j false with _ | _
        · have := hmem j hj hb; cases this
        · rfl
      refine ⟨?_, fin listed a W h hall⟩
      rcases hr : Region.ready .any ops listed with _ | ⟨i, r⟩
      · rfl
      · exfalso
        have hi : i ∈ Region.ready .any ops listed := by rw [hr]; exact List.mem_cons_self
        rw [mem_ready] at hi
        obtain ⟨h1, o, ho, _⟩ := hi
        have hlt : i < ops.size := (Array.getElem?_eq_some_iff.1 ho).1
        have h2 := hall i hlt
        have : i < listed.size := by omega
        simp [Array.getD_eq_getD_getElem?, this] at h1 h2
        rw [h1] at h2; cases h2
    | succ fuel ih =>
      rintro listed a W hsz h ⟨l, hl, hmem⟩
      refine ⟨fun hr => fin listed a W h (all_listed hp hsz hr), fun i hi => ?_⟩
      obtain ⟨h1, o, ho, hpred⟩ := mem_ready.1 hi
      have hlt : i < ops.size := (Array.getElem?_eq_some_iff.1 ho).1
      have hil : i < listed.size := by omega
      have hif : listed.getD i false = false := by simp [Array.getD_eq_getD_getElem?, hil] at h1 ⊢; exact h1
      have hst := Steps.at_ ops.toList 0 i o hs (by simpa using ho)
      rw [Nat.zero_add] at hst
      have hrd : Ready ops R a0 o a W := by
        refine ⟨fun e he hb d hd' => h.slots e.on d (hpred e (by simpa using he) hb) hd', h.outside, fun e he hb hd' => h.bare e.on (hpred e (by simpa using he) hb) hd'⟩
      refine wpOp_mono (fun a' W' hq => ?_) (hst a W h.ext hrd)
      obtain ⟨v, rfl, hX, hR⟩ := hq
      refine ih _ _ _ (by simpa using hsz) (h.step hp htr hmono hd ho hX hR) ⟨l.erase i, ?_, fun j hj hjf => ?_⟩
      · have := List.length_erase_of_mem (hmem i hlt hif)
        rw [this]; omega
      · by_cases hji : j = i
        · subst hji
          simp [Array.getD_eq_getD_getElem?, hil] at hjf
        · rw [getD_set_ne false (Ne.symm hji)] at hjf
          exact (List.mem_erase_of_ne hji).2 (hmem j hj hjf)
  refine key ops.size (Array.replicate ops.size false) a0 w0.drew (by simp) ⟨hrefl _, rfl, rfl, fun _ _ => rfl, fun j d hj _ => ?_, fun j hj _ => ?_⟩ ⟨List.range ops.size, by simp, fun j hj _ => List.mem_range.2 hj⟩
  · simp [Array.getD_eq_getD_getElem?, Array.getElem?_replicate] at hj; split at hj <;> simp at hj
  · simp [Array.getD_eq_getD_getElem?, Array.getElem?_replicate] at hj; split at hj <;> simp at hj

/-! ### an operation's turn -/
theorem getD_some {a : Act} {t : Tmp} {b : Bool} (h : a.tmps.getD t undef = .bool b) : a.tmps[t]? = some (.bool b) := by
  rw [Array.getD_eq_getD_getElem?] at h
  cases ht : a.tmps[t]? with
  | none => rw [ht] at h; simp [undef] at h
  | some v => rw [ht] at h; simp at h; rw [h]
theorem wanted_yes {o : Oper} {a : Act} {g : Nat} {b : Bool} {d : Tmp} (hg : o.guard = some (g, b)) (hd : dstOf ops g = some d) (h : a.tmps.getD d undef = .bool b) : Region.wanted o (yielded ops a.tmps) = true := by
  have h1 : ((ops[g]?).bind (·.dst)) = some d := hd
  simp [Region.wanted, hg, yielded, h1, getD_some h]
theorem wanted_no {o : Oper} {a : Act} {g : Nat} {b c : Bool} {d : Tmp} (hg : o.guard = some (g, b)) (hd : dstOf ops g = some d) (h : a.tmps.getD d undef = .bool c) (hne : c ≠ b) : Region.wanted o (yielded ops a.tmps) = false := by
  have h1 : ((ops[g]?).bind (·.dst)) = some d := hd
  simp [Region.wanted, hg, yielded, h1, getD_some h, hne]
theorem wanted_plain {o : Oper} {a : Act} (hg : o.guard = none) : Region.wanted o (yielded ops a.tmps) = true := by simp [Region.wanted, hg]
section
variable {i : Nat} {o : Oper} {a : Act} {W : World} {Ri : Rel}
theorem op_val (ho : ops[i]? = some o) (hw : Region.wanted o (yielded ops a.tmps) = true) {v : Value} (hr : (execOp a.eval o).run P W = .ok (.value v) W) (hrefl : ∀ a, X a a) (hR : Ri v W) :
    wpOp P ops Q i (fun a' W' => ∃ v, a' = a.put o.dst v ∧ X W W' ∧ Ri v W') a W := by
  unfold wpOp
  simp only [ho, hw, if_true]
  refine .inl ?_
  unfold Oper.wp
  rw [hr]
  exact ⟨v, rfl, hrefl _, hR⟩
theorem op_gives (ho : ops[i]? = some o) (hw : Region.wanted o (yielded ops a.tmps) = true) {v : Value} {W' : World} (hr : (execOp a.eval o).run P W = .ok (.value v) W') (hX : X W W') (hR : Ri v W') :
    wpOp P ops Q i (fun a' W' => ∃ v, a' = a.put o.dst v ∧ X W W' ∧ Ri v W') a W := by
  unfold wpOp
  simp only [ho, hw, if_true]
  refine .inl ?_
  unfold Oper.wp
  rw [hr]
  exact ⟨v, rfl, hX, hR⟩
theorem op_skip (ho : ops[i]? = some o) (hw : Region.wanted o (yielded ops a.tmps) = false) (hrefl : ∀ a, X a a) (hR : Ri undef W) :
    wpOp P ops Q i (fun a' W' => ∃ v, a' = a.put o.dst v ∧ X W W' ∧ Ri v W') a W := by
  unfold wpOp
  simp only [ho, hw, Bool.false_eq_true, if_false]
  exact ⟨undef, rfl, hrefl _, hR⟩
theorem op_call (ho : ops[i]? = some o) (hw : Region.wanted o (yielded ops a.tmps) = true) {f : FuncId} {args : Array Value} (hr : (execOp a.eval o).run P W = .ok (.enter f args) W)
    (hc : Calls P f args W fun e W' => ∃ v, e = .returned v ∧ X W W' ∧ Ri v W') :
    wpOp P ops Q i (fun a' W' => ∃ v, a' = a.put o.dst v ∧ X W W' ∧ Ri v W') a W := by
  unfold wpOp
  simp only [ho, hw, if_true]
  refine .inl ?_
  unfold Oper.wp
  rw [hr]
  refine hc.mono ?_
  rintro e W' ⟨v, rfl, hX, hR⟩
  exact ⟨v, rfl, hX, hR⟩
end
end
/-! ### where nothing that was there is written -/
def Mono (r : Rel) : Prop := ∀ v W W', r v W → Below W.heap.size W W' → r v W'
/-- the slot holds c -/
def is (c : Value) : Rel := fun v _ => v = c
theorem mono_eq (c : Value) : Mono (is c) := fun _ _ _ h _ => h
theorem is_rfl (c : Value) (W : World) : is c c W := rfl
theorem mono_none : Mono Rel.none_ := fun _ _ _ h _ => h
def MonoAll : List Rel → Prop
  | [] => True
  | r :: l => Mono r ∧ MonoAll l
theorem MonoAll.getD : ∀ (l : List Rel) (i : Nat), MonoAll l → Mono (l.getD i Rel.none_)
  | [], _, _ => mono_none
  | r :: _, 0, h => h.1
  | _ :: l, i + 1, h => MonoAll.getD l i h.2
def dstsFit (ops : Array Oper) (n : Nat) : Bool := (List.range ops.size).all fun i => match dstOf ops i with | some d => decide (d < n) | none => true
theorem dsts_fit {ops : Array Oper} {n : Nat} (h : dstsFit ops n = true) : ∀ i d, dstOf ops i = some d → d < n := by
  intro i d hi
  have hlt : i < ops.size := by
    rcases Nat.lt_or_ge i ops.size with h | h
    · exact h
    · simp [dstOf, Array.getElem?_eq_none h] at hi
  simp only [dstsFit, List.all_eq_true, List.mem_range] at h
  have := h i hlt
  rw [hi] at this
  simpa using this
theorem below_trans' (a b c : World) (h : Below a.heap.size a b) (k : Below b.heap.size b c) : Below a.heap.size a c := h.trans (k.mono h.size)
/-- one operation's run, by what it leaves -/
def OpOk (P : Program) (W : World) (Ri : Rel) : Result Next → Prop
  | .ok (.value v) W' => Below W.heap.size W W' ∧ Ri v W'
  | .ok (.enter f args) W' => W' = W ∧ Calls P f args W (fun e W'' => ∃ v, e = .returned v ∧ Below W.heap.size W W'' ∧ Ri v W'')
  | .ok .skip W' => W' = W ∧ Ri undef W
  | _ => False
/-- of an operation: the slots that it reads, by whom they are written; the slots of others that it reads; its guard's slot -/
structure Row where
  preds : List (Tmp × Nat)
  outs : List Tmp
  guard : Option (Tmp × Bool)
def rowOk (ops : Array Oper) (o : Oper) (r : Row) : Bool :=
  (r.preds.all fun p => o.after.toList.any (fun e => e.on == p.2 && Region.binds .any e) && dstOf ops p.2 == some p.1) &&
  (r.outs.all fun t => !isDst ops t) &&
  (match o.guard, r.guard with
   | none, none => true
   | some (g, b), some (d, c) => dstOf ops g == some d && b == c
   | _, _ => false)
def rowsOk (ops : Array Oper) : List Oper → List Row → Bool
  | [], [] => true
  | o :: l, r :: rs => rowOk ops o r && rowsOk ops l rs
  | _, _ => false
structure Env (ρ : Operand → Value) : Prop where
  const : ∀ v, ρ (.const v) = v
  glob : ∀ g, ρ (.global g) = .pointer (some ⟨g, 0, none⟩)
  func : ∀ f, ρ (.func f) = .func (.func f) #[] #[]
def FP (R : List Rel) (ρ : Operand → Value) (W : World) : List (Tmp × Nat) → Prop
  | [] => True
  | p :: l => (R.getD p.2 Rel.none_) (ρ (.tmp p.1)) W ∧ FP R ρ W l
def FO (a0 : Act) (ρ : Operand → Value) : List Tmp → Prop
  | [] => True
  | t :: l => ρ (.tmp t) = a0.tmps.getD t undef ∧ FO a0 ρ l
def Turn (P : Program) (ρ : Operand → Value) (W : World) (Ri : Rel) (o : Oper) : Option (Tmp × Bool) → Prop
  | none => OpOk P W Ri ((execOp ρ o).run P W)
  | some (d, b) => ∃ x, ρ (.tmp d) = .bool x ∧ (if x = b then OpOk P W Ri ((execOp ρ o).run P W) else Ri undef W)
def StepsC (P : Program) (R : List Rel) (a0 : Act) (w0 : World) : Nat → List Oper → List Row → Prop
  | i, o :: l, r :: rs => (∀ (ρ : Operand → Value) (W : World), Env ρ → Below w0.heap.size w0 W → FP R ρ W r.preds → FO a0 ρ r.outs → Turn P ρ W (R.getD i Rel.none_) o r.guard) ∧ StepsC P R a0 w0 (i + 1) l rs
  | _, _, _ => True
theorem facts_of {ops : Array Oper} {R : List Rel} {a0 : Act} {o : Oper} {a : Act} {W : World} (h : Ready ops R a0 o a W) : ∀ (l : List (Tmp × Nat)),
    (l.all fun p => o.after.toList.any (fun e => e.on == p.2 && Region.binds .any e) && dstOf ops p.2 == some p.1) = true → FP R a.eval W l
  | [], _ => trivial
  | p :: l, hl => by
    simp only [List.all_cons, Bool.and_eq_true] at hl
    obtain ⟨⟨h1, h2⟩, h3⟩ := hl
    simp only [List.any_eq_true, Bool.and_eq_true, beq_iff_eq] at h1 h2
    obtain ⟨e, he, h4, h5⟩ := h1
    have h6 := h.preds e he h5 p.1 (by rw [h4]; exact h2)
    rw [h4] at h6
    exact ⟨h6, facts_of h l h3⟩
theorem outs_of {ops : Array Oper} {R : List Rel} {a0 : Act} {o : Oper} {a : Act} {W : World} (h : Ready ops R a0 o a W) : ∀ (os : List Tmp), (os.all fun t => !isDst ops t) = true → FO a0 a.eval os
  | [], _ => trivial
  | t :: os, ho => by
    simp only [List.all_cons, Bool.and_eq_true] at ho
    exact ⟨h.outside t (by simpa using ho.1), outs_of h os ho.2⟩
theorem step_of_turn {P : Program} {ops : Array Oper} {Q : Exit → Act → World → Prop} {Ri : Rel} {i : Nat} {o : Oper} {a : Act} {W : World} (ho : ops[i]? = some o) {r : Row} (hr : rowOk ops o r = true)
    (h : Turn P a.eval W Ri o r.guard) : wpOp P ops Q i (fun a' W' => ∃ v, a' = a.put o.dst v ∧ Below W.heap.size W W' ∧ Ri v W') a W := by
  have go : OpOk P W Ri ((execOp a.eval o).run P W) → Oper.wp P o a W (fun a' W' => ∃ v, a' = a.put o.dst v ∧ Below W.heap.size W W' ∧ Ri v W') Q := by
    intro hk
    unfold Oper.wp
    generalize (execOp a.eval o).run P W = res at hk
    match res, hk with
    | .ok (.value v) W', hk => exact ⟨v, rfl, hk.1, hk.2⟩
    | .ok .skip W', hk => exact ⟨undef, rfl, by rw [hk.1]; exact Below.refl _ _, by rw [hk.1]; exact hk.2⟩
    | .ok (.enter f args) W', hk =>
      obtain ⟨rfl, hc⟩ := hk
      refine Calls.mono hc ?_
      rintro e W'' ⟨v, rfl, h1, h2⟩
      exact ⟨v, rfl, h1, h2⟩
  unfold wpOp
  simp only [ho]
  simp only [rowOk, Bool.and_eq_true] at hr
  rcases hg : o.guard with _ | ⟨g, b⟩
  · rw [hg] at hr
    rcases hrg : r.guard with _ | ⟨d, c⟩
    · rw [hrg] at h
      rw [if_pos (wanted_plain hg)]
      exact .inl (go h)
    · rw [hrg] at hr; exact absurd hr.2 (by simp)
  · rw [hg] at hr
    rcases hrg : r.guard with _ | ⟨d, c⟩
    · rw [hrg] at hr; exact absurd hr.2 (by simp)
    · rw [hrg] at hr h
      simp only [Bool.and_eq_true, beq_iff_eq] at hr
      obtain ⟨x, hx, hk⟩ := h
      have hx' : a.tmps.getD d undef = .bool x := hx
      obtain ⟨hd, hbc⟩ := hr.2
      subst hbc
      by_cases hxb : x = b
      · subst hxb
        rw [if_pos (wanted_yes hg hd hx')]
        rw [if_pos rfl] at hk
        exact .inl (go hk)
      · rw [if_neg (by rw [wanted_no hg hd hx' hxb]; simp)]
        rw [if_neg hxb] at hk
        exact ⟨undef, rfl, Below.refl _ _, hk⟩
theorem steps_of {P : Program} {ops : Array Oper} {Q : Exit → Act → World → Prop} {R : List Rel} {a0 : Act} {w0 : World} : ∀ (l : List Oper) (rs : List Row) (i : Nat), (∀ j, l[j]? = ops[i + j]?) → rowsOk ops l rs = true →
    StepsC P R a0 w0 i l rs → Steps P ops Q (fun W W' => Below W.heap.size W W') R a0 w0 i l
  | [], _, _, _, _, _ => trivial
  | o :: l, [], _, _, hr, _ => by simp [rowsOk] at hr
  | o :: l, r :: rs, i, hl, hr, h => by
    simp only [rowsOk, Bool.and_eq_true] at hr
    refine ⟨fun a W hX hrd => ?_, steps_of l rs (i + 1) (fun j => by have := hl (j + 1); simpa [Nat.add_assoc, Nat.add_comm 1 j] using this) hr.2 h.2⟩
    have hr1 := hr.1
    simp only [rowOk, Bool.and_eq_true] at hr1
    exact step_of_turn (by simpa using (hl 0).symm) hr.1 (h.1 a.eval W ⟨fun _ => rfl, fun _ => rfl, fun _ => rfl⟩ hX (facts_of hrd _ hr1.1.1) (outs_of hrd _ hr1.1.2))
/-- the frame behind the region: what each operation has left, put in -/
def putAll (v : Nat → Value) : Nat → List Oper → Act → Act
  | _, [], a => a
  | i, o :: l, a => putAll v (i + 1) l (a.put o.dst (v i))
def All (v : Nat → Value) (W : World) : Nat → List Rel → Prop
  | _, [] => True
  | i, r :: l => r (v i) W ∧ All v W (i + 1) l
theorem putAll_size (v : Nat → Value) : ∀ (l : List Oper) (i : Nat) (a : Act), (putAll v i l a).tmps.size = a.tmps.size
  | [], _, _ => rfl
  | o :: l, i, a => by rw [putAll, putAll_size v l, put_size]
theorem putAll_defers (v : Nat → Value) : ∀ (l : List Oper) (i : Nat) (a : Act), (putAll v i l a).defers = a.defers
  | [], _, _ => rfl
  | o :: l, i, a => by rw [putAll, putAll_defers v l, put_defers]
theorem putAll_ne (v : Nat → Value) (t : Tmp) : ∀ (l : List Oper) (i : Nat) (a : Act), (∀ o ∈ l, o.dst ≠ some t) → (putAll v i l a).tmps.getD t undef = a.tmps.getD t undef
  | [], _, _, _ => rfl
  | o :: l, i, a, h => by
    rw [putAll, putAll_ne v t l _ _ fun o ho => h o (List.mem_cons_of_mem _ ho), put_getD_ne _ _ _ _ (h o List.mem_cons_self)]
theorem putAll_at (v : Nat → Value) (t : Tmp) : ∀ (l : List Oper) (i j : Nat) (o : Oper) (a : Act), l[j]? = some o → o.dst = some t → (∀ k o', l[k]? = some o' → o'.dst = some t → k = j) → t < a.tmps.size →
    (putAll v i l a).tmps.getD t undef = v (i + j)
  | [], _, _, _, _, h, _, _, _ => by simp at h
  | o' :: l, i, 0, o, a, h, hd, hu, ht => by
    simp at h; subst h
    rw [putAll, putAll_ne v t l, hd, put_getD_self _ _ _ ht]; rfl
    intro o2 ho2 hd2
    obtain ⟨k, hk⟩ := List.getElem?_of_mem ho2
    have := hu (k + 1) o2 (by simpa using hk) hd2
    omega
  | o' :: l, i, j + 1, o, a, h, hd, hu, ht => by
    rw [putAll, putAll_at v t l (i + 1) j o _ (by simpa using h) hd (fun k o2 hk hd2 => by have := hu (k + 1) o2 (by simpa using hk) hd2; omega) (by rw [put_size]; exact ht)]
    congr 1; omega
theorem all_of {v : Nat → Value} {W : World} : ∀ (l : List Rel) (i : Nat), (∀ (j : Nat) (r : Rel), l[j]? = some r → r (v (i + j)) W) → All v W i l
  | [], _, _ => trivial
  | r :: l, i, h => ⟨h 0 r rfl, all_of l (i + 1) fun j r hj => by have := h (j + 1) r (by simpa using hj); simpa [Nat.add_assoc, Nat.add_comm 1 j] using this⟩
theorem wp_region_below {P : Program} {ops : Array Oper} {Q : Exit → Act → World → Prop} {a0 : Act} {w0 : World} {id : Nat} (R : List Rel) (rows : List Row) (hm : P.follows .mixedOrders = true) (hp : plainOps ops = true) (hd : dstsFit ops a0.tmps.size = true)
    (hrows : rowsOk ops ops.toList rows = true) (hlen : (R.length == ops.size) = true) (hmono : MonoAll R)
    (hs : StepsC P R a0 w0.drew 0 ops.toList rows)
    (hf : ∀ (v : Nat → Value) (W : World), Below w0.heap.size w0 W → All v W 0 R → Q .normal (putAll v 0 ops.toList a0) W) :
    (Code.region id ops true).wp P Q a0 w0 := by
  refine wp_region_rel (fun W W' => Below W.heap.size W W') R hm hp (fun _ => Below.refl _ _) below_trans' (fun i v W W' h hX => MonoAll.getD R i hmono v W W' h hX) (dsts_fit hd) (steps_of _ rows 0 (by simp) hrows hs) ?_
  intro a W hX h1 h2 h3 h4 h5
  have hlen' : R.length = ops.size := by simpa using hlen
  have hpick : ∃ v : Nat → Value, (∀ j d, dstOf ops j = some d → v j = a.tmps.getD d undef) ∧ All v W 0 R := by
    have hc : ∀ j, ∃ u, (∀ d, dstOf ops j = some d → u = a.tmps.getD d undef) ∧ (j < ops.size → (R.getD j Rel.none_) u W) := by
      intro j
      rcases hj : dstOf ops j with _ | d
      · by_cases hjs : j < ops.size
        · obtain ⟨u, hu⟩ := h5 j hjs hj
          exact ⟨u, ⟨fun d hd => (by cases hd), fun _ => hu⟩⟩
        · exact ⟨undef, ⟨fun d hd => (by cases hd), fun h => absurd h hjs⟩⟩
      · exact ⟨a.tmps.getD d undef, ⟨fun d' hd' => (by injection hd' with hd'; rw [hd']), fun _ => h4 j d hj⟩⟩
    refine ⟨fun j => Classical.choose (hc j), fun j d hd => (Classical.choose_spec (hc j)).1 d hd, all_of R 0 fun j r hr => ?_⟩
    have hjs : j < ops.size := by
      rw [← hlen']
      exact (List.getElem?_eq_some_iff.1 hr).1
    have e : R.getD j Rel.none_ = r := by rw [List.getD_eq_getElem?_getD, hr]; rfl
    have h7 : ∀ u, (R.getD j Rel.none_) u W → r u W := fun u hu => by rw [e] at hu; exact hu
    rw [Nat.zero_add]
    exact h7 _ ((Classical.choose_spec (hc j)).2 hjs)
  obtain ⟨v, hv1, hv2⟩ := hpick
  have hfin := hf v W ((Below.refl _ _).drew.trans hX) hv2
  have ha : putAll v 0 ops.toList a0 = a := by
    have e1 : (putAll v 0 ops.toList a0).tmps = a.tmps := by
      apply Array.ext
      · rw [putAll_size, h1]
      · intro t ht1 ht2
        have e : (putAll v 0 ops.toList a0).tmps.getD t undef = a.tmps.getD t undef := by
          by_cases hdst : isDst ops t = true
          · simp only [isDst, List.any_eq_true, List.mem_range, beq_iff_eq] at hdst
            obtain ⟨j, hj, hjd⟩ := hdst
            have hoj : ops.toList[j]? = some ops[j] := by simp [hj]
            have hod : (ops[j]).dst = some t := by simpa [dstOf, hj] using hjd
            rw [putAll_at v t ops.toList 0 j ops[j] a0 hoj hod (fun k o' hk hd' => plain_dst hp (d := t) (by simp [dstOf]; simp at hk; rw [hk]; exact hd') hjd) (dsts_fit hd j t hjd), Nat.zero_add]
            exact hv1 j t hjd
          · have hdst' : isDst ops t = false := by simpa using hdst
            rw [putAll_ne v t, h3 t hdst']
            intro o ho hod
            obtain ⟨j, hj⟩ := List.getElem?_of_mem ho
            have hjs : j < ops.size := by
              have := (List.getElem?_eq_some_iff.1 hj).1; simpa using this
            apply hdst
            simp only [isDst, List.any_eq_true, List.mem_range, beq_iff_eq]
            exact ⟨j, hjs, by simp at hj; simp [dstOf, hj, hod]⟩
        simpa [Array.getD_eq_getD_getElem?, ht1, ht2] using e
    have e2 : (putAll v 0 ops.toList a0).defers = a.defers := by rw [putAll_defers, h2]
    cases a
    cases hpa : putAll v 0 ops.toList a0
    rw [hpa] at e1 e2
    simp at e1 e2
    rw [e1, e2]
  rw [ha] at hfin
  exact hfin
theorem ok_val {P : Program} {W W' : World} {Ri : Rel} {v : Value} {res : Result Next} (h : res = .ok (.value v) W') (hb : Below W.heap.size W W') (hR : Ri v W') : OpOk P W Ri res := by subst h; exact ⟨hb, hR⟩
theorem ok_same {P : Program} {W : World} {Ri : Rel} {v : Value} {res : Result Next} (h : res = .ok (.value v) W) (hR : Ri v W) : OpOk P W Ri res := by subst h; exact ⟨Below.refl _ _, hR⟩
theorem ok_is {P : Program} {W : World} {Ri : Rel} {v : Value} {res : Result Next} (h : res = .ok (.value v) W) (hR : Ri = is v) : OpOk P W Ri res := by subst h; subst hR; exact ⟨Below.refl _ _, rfl⟩
theorem ok_call {P : Program} {W : World} {Ri : Rel} {f : FuncId} {args : Array Value} {res : Result Next} (h : res = .ok (.enter f args) W) (hc : Calls P f args W (fun e W'' => ∃ v, e = .returned v ∧ Below W.heap.size W W'' ∧ Ri v W'')) : OpOk P W Ri res := by
  subst h; exact ⟨rfl, hc⟩
theorem turn_plain {P : Program} {ρ : Operand → Value} {W : World} {Ri : Rel} {o : Oper} (h : OpOk P W Ri ((execOp ρ o).run P W)) : Turn P ρ W Ri o none := h
theorem turn_yes {P : Program} {ρ : Operand → Value} {W : World} {Ri : Rel} {o : Oper} {d : Tmp} {b : Bool} (hx : ρ (.tmp d) = .bool b) (h : OpOk P W Ri ((execOp ρ o).run P W)) : Turn P ρ W Ri o (some (d, b)) :=
  ⟨b, hx, by rw [if_pos rfl]; exact h⟩
theorem turn_skip {P : Program} {ρ : Operand → Value} {W : World} {Ri : Rel} {o : Oper} {d : Tmp} {b c : Bool} (hx : ρ (.tmp d) = .bool c) (hne : c ≠ b) (h : Ri = is undef) : Turn P ρ W Ri o (some (d, b)) :=
  ⟨c, hx, by rw [if_neg hne, h]; rfl⟩
theorem turn_no {P : Program} {ρ : Operand → Value} {W : World} {Ri : Rel} {o : Oper} {d : Tmp} {b c : Bool} (hx : ρ (.tmp d) = .bool c) (hne : c ≠ b) (h : Ri undef W) : Turn P ρ W Ri o (some (d, b)) :=
  ⟨c, hx, by rw [if_neg hne]; exact h⟩
end Go.Proofs.YtodimanghmepoaaDoor
