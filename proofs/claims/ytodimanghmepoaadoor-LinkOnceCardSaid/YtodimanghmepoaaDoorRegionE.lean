/- A region that draws its order, in which ONE operation acts (a call that writes what was there, or a store); all others write nothing old. -/
import Derived.Test.YtodimanghmepoaaDoorRegionB
namespace Go.Proofs.YtodimanghmepoaaDoor
open Go.RowKit
section
variable {P : Program} {ops : Array Oper} {Q : Exit → Act → World → Prop} {X : World → World → Prop} {R : List Rel} {a0 : Act} {w0 : World}
theorem Inv.step1 (hp : plainOps ops = true) (hd : ∀ i d, dstOf ops i = some d → d < a0.tmps.size) {listed : Array Bool} {a : Act} {W W' : World} (h : Inv ops X R a0 w0 listed a W) {i : Nat} {o : Oper} (ho : ops[i]? = some o)
    {v : Value} (hX : X w0 W') (hm : ∀ j v, j ≠ i → listed.getD j false = true → (R.getD j Rel.none_) v W → (R.getD j Rel.none_) v W') (hR : (R.getD i Rel.none_) v W') : Inv ops X R a0 w0 (listed.setIfInBounds i true) (a.put o.dst v) W' := by
  have hdo : dstOf ops i = o.dst := by simp [dstOf, ho]
  have hlt : i < ops.size := (Array.getElem?_eq_some_iff.1 ho).1
  refine ⟨hX, by rw [put_size]; exact h.size, by rw [put_defers]; exact h.defers, fun t ht => ?_, fun j d hj hjd => ?_, fun j hj hjd => ?_⟩
  · rw [put_getD_ne]
    · exact h.outside t ht
    · intro e
      have : isDst ops t = true := by
        simp only [isDst, List.any_eq_true, List.mem_range]
        exact ⟨i, hlt, by rw [hdo, e]; simp⟩
      rw [this] at ht; cases ht
  · by_cases hji : j = i
    · subst hji
      rw [hdo] at hjd
      rw [hjd, put_getD_self _ _ _ (by rw [h.size]; exact hd j d (by rw [hdo, hjd]))]
      exact hR
    · rw [put_getD_ne]
      · rw [getD_set_ne false (Ne.symm hji)] at hj
        exact hm j _ hji hj (h.slots j d hj hjd)
      · intro e
        exact hji (plain_dst hp hjd (by rw [hdo]; exact e))
  · by_cases hji : j = i
    · subst hji; exact ⟨v, hR⟩
    · rw [getD_set_ne false (Ne.symm hji)] at hj
      obtain ⟨u, hu⟩ := h.bare j hj hjd
      exact ⟨u, hm j _ hji hj hu⟩
/-- what the acting operation leaves -/
def ActOk (P : Program) (X : World → World → Prop) (W : World) (Ri : Rel) : Result Next → Prop
  | .ok (.value v) W' => X W W' ∧ Ri v W'
  | .ok (.enter f args) W' => W' = W ∧ Calls P f args W (fun e W'' => ∃ v, e = .returned v ∧ X W W'' ∧ Ri v W'')
  | .ok .skip W' => X W W' ∧ Ri undef W'
  | _ => False
theorem act_call {W : World} {Ri : Rel} {r : Result Next} {f : FuncId} {args : Array Value} (hr : r = .ok (.enter f args) W) (hc : Calls P f args W (fun e W'' => ∃ v, e = .returned v ∧ X W W'' ∧ Ri v W'')) : ActOk P X W Ri r := by
  subst hr; exact ⟨rfl, hc⟩
def StepsX (P : Program) (X : World → World → Prop) (R : List Rel) (a0 : Act) (w0 : World) (n : Nat) : Nat → List Oper → List Row → Prop
  | i, o :: l, r :: rs => (if i = n then (∀ (ρ : Operand → Value) (W : World), Env ρ → Below w0.heap.size w0 W → FP R ρ W r.preds → FO a0 ρ r.outs → ActOk P X W (R.getD i Rel.none_) ((execOp ρ o).run P W))
      else (∀ (ρ : Operand → Value) (W : World), Env ρ → X w0 W → FP R ρ W r.preds → FO a0 ρ r.outs → Turn P ρ W (R.getD i Rel.none_) o r.guard)) ∧ StepsX P X R a0 w0 n (i + 1) l rs
  | _, _, _ => True
theorem StepsX.at_ {n : Nat} : ∀ (l : List Oper) (rs : List Row) (k i : Nat) (o : Oper), rowsOk ops l rs = true → StepsX P X R a0 w0 n k l rs → l[i]? = some o → ∃ r : Row, rowOk ops o r = true ∧
    (if k + i = n then (∀ (ρ : Operand → Value) (W : World), Env ρ → Below w0.heap.size w0 W → FP R ρ W r.preds → FO a0 ρ r.outs → ActOk P X W (R.getD (k + i) Rel.none_) ((execOp ρ o).run P W))
      else (∀ (ρ : Operand → Value) (W : World), Env ρ → X w0 W → FP R ρ W r.preds → FO a0 ρ r.outs → Turn P ρ W (R.getD (k + i) Rel.none_) o r.guard))
  | [], _, _, _, _, _, _, h => by simp at h
  | o' :: l, [], _, _, _, hr, _, _ => by simp [rowsOk] at hr
  | o' :: l, r :: rs, k, 0, o, hr, hs, h => by
    simp at h; subst h
    simp only [rowsOk, Bool.and_eq_true] at hr
    exact ⟨r, hr.1, hs.1⟩
  | o' :: l, r :: rs, k, i + 1, o, hr, hs, h => by
    simp only [rowsOk, Bool.and_eq_true] at hr
    have := StepsX.at_ l rs (k + 1) i o hr.2 hs.2 (by simpa using h)
    rwa [Nat.add_assoc, Nat.add_comm 1 i] at this
/-- the relation of the operation n holds on where nothing old is written; those of the others where the act is done, too -/
def MonoX (X : World → World → Prop) (r : Rel) : Prop := ∀ v W W', r v W → X W W' → r v W'
def MonoAllX (X : World → World → Prop) (n : Nat) : Nat → List Rel → Prop
  | _, [] => True
  | i, r :: l => (if i = n then Mono r else MonoX X r) ∧ MonoAllX X n (i + 1) l
theorem MonoAllX.getD {n : Nat} : ∀ (l : List Rel) (k i : Nat), MonoAllX X n k l → (if k + i = n then Mono (l.getD i Rel.none_) else MonoX X (l.getD i Rel.none_))
  | [], k, i, _ => by
    split
    · exact fun _ _ _ h _ => h
    · exact fun _ _ _ h _ => h
  | r :: _, k, 0, h => h.1
  | _ :: l, k, i + 1, h => by
    have := MonoAllX.getD l (k + 1) i h.2
    rwa [Nat.add_assoc, Nat.add_comm 1 i] at this
theorem mono_eqX (c : Value) : MonoX X (is c) := fun _ _ _ h _ => h
/-- **a region that draws its order, in which one operation acts** -/
theorem wp_region_act {id : Nat} (n : Nat) (X : World → World → Prop) (R : List Rel) (rows : List Row) (hm : P.follows .mixedOrders = true) (hp : plainOps ops = true) (hd : dstsFit ops a0.tmps.size = true)
    (hrows : rowsOk ops ops.toList rows = true) (hlen : (R.length == ops.size) = true) (hg : ((ops[n]?).all fun o => o.guard.isNone) = true)
    (hbx : ∀ a b, Below a.heap.size a b → X a b) (htr : ∀ a b c, X a b → X b c → X a c) (hmono : MonoAllX X n 0 R)
    (hs : StepsX P X R a0 w0.drew n 0 ops.toList rows)
    (hf : ∀ (v : Nat → Value) (W : World), X w0 W → All v W 0 R → Q .normal (putAll v 0 ops.toList a0) W) :
    (Code.region id ops true).wp P Q a0 w0 := by
  have hd' := dsts_fit hd
  have mono_below : ∀ j v W W', (R.getD j Rel.none_) v W → Below W.heap.size W W' → (R.getD j Rel.none_) v W' := by
    intro j v W W' h hb
    have := MonoAllX.getD R 0 j hmono
    rw [Nat.zero_add] at this
    split at this
    · exact this v W W' h hb
    · exact this v W W' h (hbx _ _ hb)
  have mono_x : ∀ j v W W', j ≠ n → (R.getD j Rel.none_) v W → X W W' → (R.getD j Rel.none_) v W' := by
    intro j v W W' hj h hb
    have := MonoAllX.getD R 0 j hmono
    rw [Nat.zero_add, if_neg hj] at this
    exact this v W W' h hb
  refine wp_region_any hm ?_
  have hx0 : X w0 w0.drew := hbx _ _ (Below.refl _ _).drew
  have fin : ∀ (listed : Array Bool) (a : Act) (W : World), Inv ops X R a0 w0.drew listed a W → (∀ j, j < ops.size → listed.getD j false = true) → Q .normal a W := by
    intro listed a W h hall
    have h4 : ∀ j d, dstOf ops j = some d → (R.getD j Rel.none_) (a.tmps.getD d undef) W := fun j d hj => h.slots j d (hall j (by
      rcases Nat.lt_or_ge j ops.size with h | h
      · exact h
      · simp [dstOf, Array.getElem?_eq_none h] at hj)) hj
    have h5 : ∀ j, j < ops.size → dstOf ops j = none → ∃ v, (R.getD j Rel.none_) v W := fun j hjs hj => h.bare j (hall j hjs) hj
    have h1 := h.size
    have h2 := h.defers
    have h3 := h.outside
    have hlen' : R.length = ops.size := by simpa using hlen
    have hpick : ∃ v : Nat → Value, (∀ j d, dstOf ops j = some d → v j = a.tmps.getD d undef) ∧ All v W 0 R := by
      have hc : ∀ j, ∃ u, (∀ d, dstOf ops j = some d → u = a.tmps.getD d undef) ∧ (j < ops.size → (R.getD j Rel.none_) u W) := by
        intro j
        rcases hj : dstOf ops j with _ | d
        · by_cases hjs : j < ops.size
          · obtain ⟨u, hu⟩ := h5 j hjs hj
            exact ⟨u, ⟨fun d hd => (by cases hd), fun _ => hu⟩⟩
          · exact ⟨undef, ⟨fun d hd => (by cases hd), fun h => absurd h hjs⟩⟩
        · exact ⟨a.tmps.getD d undef, ⟨fun d' hd' => (by injection hd' with hd'; rw [hd']), fun _ => h4 j d hj⟩⟩
      refine ⟨fun j => Classical.choose (hc j), fun j d hd => (Classical.choose_spec (hc j)).1 d hd, all_of R 0 fun j r hr => ?_⟩
      have hjs : j < ops.size := by
        rw [← hlen']
        exact (List.getElem?_eq_some_iff.1 hr).1
      have e : R.getD j Rel.none_ = r := by rw [List.getD_eq_getElem?_getD, hr]; rfl
      have h7 : ∀ u, (R.getD j Rel.none_) u W → r u W := fun u hu => by rw [e] at hu; exact hu
      rw [Nat.zero_add]
      exact h7 _ ((Classical.choose_spec (hc j)).2 hjs)
    obtain ⟨v, hv1, hv2⟩ := hpick
    have hfin := hf v W (htr _ _ _ hx0 h.ext) hv2
    have ha : putAll v 0 ops.toList a0 = a := by
      have e1 : (putAll v 0 ops.toList a0).tmps = a.tmps := by
        apply Array.ext
        · rw [putAll_size, h1]
        · intro t ht1 ht2
          have e : (putAll v 0 ops.toList a0).tmps.getD t undef = a.tmps.getD t undef := by
            by_cases hdst : isDst ops t = true
            · simp only [isDst, List.any_eq_true, List.mem_range, beq_iff_eq] at hdst
              obtain ⟨j, hj, hjd⟩ := hdst
              have hoj : ops.toList[j]? = some ops[j] := by simp [hj]
              have hod : (ops[j]).dst = some t := by simpa [dstOf, hj] using hjd
              rw [putAll_at v t ops.toList 0 j ops[j] a0 hoj hod (fun k o' hk hd' => plain_dst hp (d := t) (by simp [dstOf]; simp at hk; rw [hk]; exact hd') hjd) (hd' j t hjd), Nat.zero_add]
              exact hv1 j t hjd
            · have hdst' : isDst ops t = false := by simpa using hdst
              rw [putAll_ne v t, h3 t hdst']
              intro o ho hod
              obtain ⟨j, hj⟩ := List.getElem?_of_mem ho
              have hjs : j < ops.size := by
                have := (List.getElem?_eq_some_iff.1 hj).1; simpa using this
              apply hdst
              simp only [isDst, List.any_eq_true, List.mem_range, beq_iff_eq]
              exact ⟨j, hjs, by simp at hj; simp [dstOf, hj, hod]⟩
          simpa [Array.getD_eq_getD_getElem?, ht1, ht2] using e
      have e2 : (putAll v 0 ops.toList a0).defers = a.defers := by rw [putAll_defers, h2]
      cases a
      cases hpa : putAll v 0 ops.toList a0
      rw [hpa] at e1 e2
      simp at e1 e2
      rw [e1, e2]
    rw [ha] at hfin
    exact hfin
  have key : ∀ (fuel : Nat) (listed : Array Bool) (a : Act) (W : World), listed.size = ops.size → Inv ops X R a0 w0.drew listed a W → (listed.getD n false = false → Below w0.drew.heap.size w0.drew W) →
      (∃ l : List Nat, l.length ≤ fuel ∧ ∀ j, j < ops.size → listed.getD j false = false → j ∈ l) → wpAny P .any ops Q fuel listed a W := by
    intro fuel
    induction fuel with
    | zero =>
      rintro listed a W hsz h hbl ⟨l, hl, hmem⟩
      have hl0 : l = [] := List.eq_nil_of_length_eq_zero (by omega)
      subst hl0
      have hall : ∀ j, j < ops.size → listed.getD j false = true := by
        intro j hj
        rcases hb : listed.getD j false with _ | _
        · have := hmem j hj hb; cases this
        · rfl
      refine ⟨?_, fin listed a W h hall⟩
      rcases hr : Region.ready .any ops listed with _ | ⟨i, r⟩
      · rfl
      · exfalso
        have hi : i ∈ Region.ready .any ops listed := by rw [hr]; exact List.mem_cons_self
        rw [mem_ready] at hi
        obtain ⟨h1, o, ho, _⟩ := hi
        have hlt : i < ops.size := (Array.getElem?_eq_some_iff.1 ho).1
        have h2 := hall i hlt
        have : i < listed.size := by omega
        simp [Array.getD_eq_getD_getElem?, this] at h1 h2
        rw [h1] at h2; cases h2
    | succ fuel ih =>
      rintro listed a W hsz h hbl ⟨l, hl, hmem⟩
      refine ⟨fun hr => fin listed a W h (all_listed hp hsz hr), fun i hi => ?_⟩
      obtain ⟨h1, o, ho, hpred⟩ := mem_ready.1 hi
      have hlt : i < ops.size := (Array.getElem?_eq_some_iff.1 ho).1
      have hil : i < listed.size := by omega
      have hif : listed.getD i false = false := by simp [Array.getD_eq_getD_getElem?, hil] at h1 ⊢; exact h1
      have hrd : Ready ops R a0 o a W := by
        refine ⟨fun e he hb d hd' => h.slots e.on d (hpred e (by simpa using he) hb) hd', h.outside, fun e he hb hd' => h.bare e.on (hpred e (by simpa using he) hb) hd'⟩
      have hlist : ∃ l : List Nat, l.length ≤ fuel ∧ ∀ j, j < ops.size → (listed.setIfInBounds i true).getD j false = false → j ∈ l := by
        refine ⟨l.erase i, ?_, fun j hj hjf => ?_⟩
        · have := List.length_erase_of_mem (hmem i hlt hif)
          rw [this]; omega
        · by_cases hji : j = i
          · subst hji
            simp [Array.getD_eq_getD_getElem?, hil] at hjf
          · rw [getD_set_ne false (Ne.symm hji)] at hjf
            exact (List.mem_erase_of_ne hji).2 (hmem j hj hjf)
      obtain ⟨r, hrow, hst⟩ := StepsX.at_ ops.toList rows 0 i o hrows hs (by simpa using ho)
      rw [Nat.zero_add] at hst
      have hr1 := hrow
      simp only [rowOk, Bool.and_eq_true] at hr1
      by_cases hin : i = n
      · subst hin
        rw [if_pos rfl] at hst
        have hact := hst a.eval W ⟨fun _ => rfl, fun _ => rfl, fun _ => rfl⟩ (hbl hif) (facts_of hrd _ hr1.1.1) (outs_of hrd _ hr1.1.2)
        have hgn : o.guard = none := by rw [ho] at hg; simpa using hg
        have next : ∀ (v : Value) (W' : World), X W W' → (R.getD i Rel.none_) v W' → wpAny P .any ops Q fuel (listed.setIfInBounds i true) (a.put o.dst v) W' := by
          intro v W' hX hR
          refine ih _ _ _ (by simpa using hsz) (h.step1 hp hd' ho (htr _ _ _ h.ext hX) (fun j v hji _ hj => mono_x j v W W' hji hj hX) hR) (fun hf => ?_) hlist
          simp [Array.getD_eq_getD_getElem?, hil] at hf
        unfold wpOp
        simp only [ho]
        rw [if_pos (wanted_plain hgn)]
        refine .inl ?_
        unfold Oper.wp
        generalize (execOp a.eval o).run P W = res at hact
        match res, hact with
        | .ok (.value v) W', hk => exact next v W' hk.1 hk.2
        | .ok .skip W', hk => exact next undef W' hk.1 hk.2
        | .ok (.enter f args) W', hk =>
          obtain ⟨rfl, hc⟩ := hk
          refine Calls.mono hc ?_
          rintro e W'' ⟨v, rfl, h1, h2⟩
          exact next v W'' h1 h2
      · rw [if_neg hin] at hst
        refine wpOp_mono (fun a' W' hq => ?_) (step_of_turn ho hrow (hst a.eval W ⟨fun _ => rfl, fun _ => rfl, fun _ => rfl⟩ h.ext (facts_of hrd _ hr1.1.1) (outs_of hrd _ hr1.1.2)))
        obtain ⟨v, rfl, hX, hR⟩ := hq
        refine ih _ _ _ (by simpa using hsz) (h.step1 hp hd' ho (htr _ _ _ h.ext (hbx _ _ hX)) (fun j v _ _ hj => mono_below j v W W' hj hX) hR) (fun hf => ?_) hlist
        rw [getD_set_ne false hin] at hf
        exact below_trans' _ _ _ (hbl hf) hX
  refine key ops.size (Array.replicate ops.size false) a0 w0.drew (by simp) ⟨hbx _ _ (Below.refl _ _), rfl, rfl, fun _ _ => rfl, fun j d hj _ => ?_, fun j hj _ => ?_⟩ (fun _ => Below.refl _ _) ⟨List.range ops.size, by simp, fun j hj _ => List.mem_range.2 hj⟩
  · simp [Array.getD_eq_getD_getElem?, Array.getElem?_replicate] at hj; split at hj <;> simp at hj
  · simp [Array.getD_eq_getD_getElem?, Array.getElem?_replicate] at hj; split at hj <;> simp at hj
end
end Go.Proofs.YtodimanghmepoaaDoor
