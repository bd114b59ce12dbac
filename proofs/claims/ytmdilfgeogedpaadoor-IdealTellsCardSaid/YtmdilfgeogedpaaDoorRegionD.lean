/- A region that draws its order and holds one store into a block that was there. Printed by regd.py. -/
import Derived.Test.YtmdilfgeogedpaaDoorRegionB
import Derived.Test.YtmdilfgeogedpaaDoorHolds
namespace Go.Proofs.YtmdilfgeogedpaaDoor
open Go.RowKit
theorem wp_region_put {P : Program} {ops : Array Oper} {Q : Exit → Act → World → Prop} {a0 : Act} {w0 : World} {id : Nat} (X : World → World → Prop) (R : List Rel) (hm : P.follows .mixedOrders = true) (hp : plainOps ops = true) (hd : dstsFit ops a0.tmps.size = true)
    (hrefl : ∀ a, X a a) (htr : ∀ a b c, X a b → X b c → X a c) (hlen : (R.length == ops.size) = true) (hmono : ∀ i, ∀ v W W', (R.getD i Rel.none_) v W → X W W' → (R.getD i Rel.none_) v W')
    (hs : Steps P ops Q X R a0 w0.drew 0 ops.toList)
    (hf : ∀ (v : Nat → Value) (W : World), X w0.drew W → All v W 0 R → Q .normal (putAll v 0 ops.toList a0) W) :
    (Code.region id ops true).wp P Q a0 w0 := by
  refine wp_region_rel X R hm hp hrefl htr hmono (dsts_fit hd) hs ?_
  intro a W hX h1 h2 h3 h4 h5
  have hlen' : R.length = ops.size := by simpa using hlen
  have hpick : ∃ v : Nat → Value, (∀ j d, dstOf ops j = some d → v j = a.tmps.getD d undef) ∧ All v W 0 R := by
    have hc : ∀ j, ∃ u, (∀ d, dstOf ops j = some d → u = a.tmps.getD d undef) ∧ (j < ops.size → (R.getD j Rel.none_) u W) := by
      intro j
      rcases hj : dstOf ops j with _ | d
      · by_cases hjs : j < ops.size
        · obtain ⟨u, hu⟩ := h5 j hjs hj
          exact ⟨u, ⟨fun d hd => (by cases hd), fun _ => hu⟩⟩
        · exact ⟨undef, ⟨fun d hd => (by cases hd), fun h => absurd h hjs⟩⟩
      · exact ⟨a.tmps.getD d undef, ⟨fun d' hd' => (by injection hd' with hd'; rw [hd']), fun _ => h4 j d hj⟩⟩
    refine ⟨fun j => Classical.choose (hc j), fun j d hd => (Classical.choose_spec (hc j)).1 d hd, all_of R 0 fun j r hr => ?_⟩
    have hjs : j < ops.size := by
      rw [← hlen']
      exact (List.getElem?_eq_some_iff.1 hr).1
    have e : R.getD j Rel.none_ = r := by rw [List.getD_eq_getElem?_getD, hr]; rfl
    have h7 : ∀ u, (R.getD j Rel.none_) u W → r u W := fun u hu => by rw [e] at hu; exact hu
    rw [Nat.zero_add]
    exact h7 _ ((Classical.choose_spec (hc j)).2 hjs)
  obtain ⟨v, hv1, hv2⟩ := hpick
  have hfin := hf v W hX hv2
  have ha : putAll v 0 ops.toList a0 = a := by
    have e1 : (putAll v 0 ops.toList a0).tmps = a.tmps := by
      apply Array.ext
      · rw [putAll_size, h1]
      · intro t ht1 ht2
        have e : (putAll v 0 ops.toList a0).tmps.getD t undef = a.tmps.getD t undef := by
          by_cases hdst : isDst ops t = true
          · simp only [isDst, List.any_eq_true, List.mem_range, beq_iff_eq] at hdst
            obtain ⟨j, hj, hjd⟩ := hdst
            have hoj : ops.toList[j]? = some ops[j] := by simp [hj]
            have hod : (ops[j]).dst = some t := by simpa [dstOf, hj] using hjd
            rw [putAll_at v t ops.toList 0 j ops[j] a0 hoj hod (fun k o' hk hd' => plain_dst hp (d := t) (by simp [dstOf]; simp at hk; rw [hk]; exact hd') hjd) (dsts_fit hd j t hjd), Nat.zero_add]
            exact hv1 j t hjd
          · have hdst' : isDst ops t = false := by simpa using hdst
            rw [putAll_ne v t, h3 t hdst']
            intro o ho hod
            obtain ⟨j, hj⟩ := List.getElem?_of_mem ho
            have hjs : j < ops.size := by
              have := (List.getElem?_eq_some_iff.1 hj).1; simpa using this
            apply hdst
            simp only [isDst, List.any_eq_true, List.mem_range, beq_iff_eq]
            exact ⟨j, hjs, by simp at hj; simp [dstOf, hj, hod]⟩
        simpa [Array.getD_eq_getD_getElem?, ht1, ht2] using e
    have e2 : (putAll v 0 ops.toList a0).defers = a.defers := by rw [putAll_defers, h2]
    cases a
    cases hpa : putAll v 0 ops.toList a0
    rw [hpa] at e1 e2
    simp at e1 e2
    rw [e1, e2]
  rw [ha] at hfin
  exact hfin
/-- only the block g is written; what is done stays done -/
def Core (g : Nat) (Pre Done : World → Prop) (W W' : World) : Prop := W.grownBy W' (some g) ∧ (Pre W → Pre W') ∧ (Done W → Done W')
theorem Core.refl (g : Nat) (Pre Done : World → Prop) (W : World) : Core g Pre Done W W := ⟨grown_refl _ _, id, id⟩
theorem Core.trans {g : Nat} {Pre Done : World → Prop} {a b c : World} (h : Core g Pre Done a b) (k : Core g Pre Done b c) : Core g Pre Done a c := ⟨grown_trans h.1 k.1, fun x => k.2.1 (h.2.1 x), fun x => k.2.2 (h.2.2 x)⟩
theorem Core.of_below {g : Nat} {Pre Done : World → Prop} (hP : ∀ W W', Pre W → Below W.heap.size W W' → Pre W') (hD : ∀ W W', Done W → Below W.heap.size W W' → Done W') {W W' : World} (h : Below W.heap.size W W') : Core g Pre Done W W' := ⟨grown_below (grown_refl _ _) h, fun x => hP W W' x h, fun x => hD W W' x h⟩
def MonoG (g : Nat) (Pre Done : World → Prop) (r : Rel) : Prop := ∀ v W W', r v W → Core g Pre Done W W' → r v W'
def MonoAllG (g : Nat) (Pre Done : World → Prop) : List Rel → Prop
  | [] => True
  | r :: l => MonoG g Pre Done r ∧ MonoAllG g Pre Done l
theorem MonoAllG.getD {g : Nat} {Pre Done : World → Prop} : ∀ (l : List Rel) (i : Nat), MonoAllG g Pre Done l → MonoG g Pre Done (l.getD i Rel.none_)
  | [], _, _ => fun _ _ _ h _ => h
  | r :: _, 0, h => h.1
  | _ :: l, i + 1, h => MonoAllG.getD l i h.2
theorem mono_eqG {g : Nat} {Pre Done : World → Prop} (c : Value) : MonoG g Pre Done (is c) := fun _ _ _ h _ => h
def StepsG (P : Program) (g : Nat) (Pre Done : World → Prop) (R : List Rel) (a0 : Act) (w0 : World) (n : Nat) : Nat → List Oper → List Row → Prop
  | i, o :: l, r :: rs => (if i = n then (∀ (ρ : Operand → Value) (W : World), Env ρ → Core g Pre Done w0 W → FP R ρ W r.preds → FO a0 ρ r.outs → ∃ W', (execOp ρ o).run P W = .ok .skip W' ∧ Core g Pre Done W W' ∧ Done W')
      else (∀ (ρ : Operand → Value) (W : World), Env ρ → Core g Pre Done w0 W → FP R ρ W r.preds → FO a0 ρ r.outs → Turn P ρ W (R.getD i Rel.none_) o r.guard)) ∧ StepsG P g Pre Done R a0 w0 n (i + 1) l rs
  | _, _, _ => True
theorem steps_ofG {P : Program} {ops : Array Oper} {Q : Exit → Act → World → Prop} {R : List Rel} {a0 : Act} {w0 : World} {g n : Nat} {Pre Done : World → Prop} (hP : ∀ W W', Pre W → Below W.heap.size W W' → Pre W') (hD : ∀ W W', Done W → Below W.heap.size W W' → Done W') (hRn : ∀ v W, Done W → (R.getD n Rel.none_) v W) (hng : ∀ o, ops[n]? = some o → o.guard = none) : ∀ (l : List Oper) (rs : List Row) (i : Nat), (∀ j, l[j]? = ops[i + j]?) → rowsOk ops l rs = true →
    StepsG P g Pre Done R a0 w0 n i l rs → Steps P ops Q (Core g Pre Done) R a0 w0 i l
  | [], _, _, _, _, _ => trivial
  | o :: l, [], _, _, hr, _ => by simp [rowsOk] at hr
  | o :: l, r :: rs, i, hl, hr, h => by
    simp only [rowsOk, Bool.and_eq_true] at hr
    refine ⟨fun a W hX hrd => ?_, steps_ofG hP hD hRn hng l rs (i + 1) (fun j => by have := hl (j + 1); simpa [Nat.add_assoc, Nat.add_comm 1 j] using this) hr.2 h.2⟩
    have hr1 := hr.1
    simp only [rowOk, Bool.and_eq_true] at hr1
    have hoi : ops[i]? = some o := by simpa using (hl 0).symm
    have h1 := h.1
    by_cases hin : i = n
    · subst hin
      rw [if_pos rfl] at h1
      obtain ⟨W', hrun, hc, hdn⟩ := h1 a.eval W ⟨fun _ => rfl, fun _ => rfl, fun _ => rfl⟩ hX (facts_of hrd _ hr1.1.1) (outs_of hrd _ hr1.1.2)
      unfold wpOp
      simp only [hoi]
      rw [if_pos (wanted_plain (hng o hoi))]
      refine .inl ?_
      unfold Oper.wp
      rw [hrun]
      exact ⟨undef, rfl, hc, hRn _ _ hdn⟩
    · rw [if_neg hin] at h1
      refine wpOp_mono (fun a' W' hq => ?_) (step_of_turn hoi hr.1 (h1 a.eval W ⟨fun _ => rfl, fun _ => rfl, fun _ => rfl⟩ hX (facts_of hrd _ hr1.1.1) (outs_of hrd _ hr1.1.2)))
      obtain ⟨v, e, hb, hR⟩ := hq
      exact ⟨v, e, Core.of_below hP hD hb, hR⟩
/-- **a region that draws its order, with one store into an old block** -/
theorem wp_region_store {P : Program} {ops : Array Oper} {Q : Exit → Act → World → Prop} {a0 : Act} {w0 : World} {id : Nat} (n g : Nat) (Pre Done : World → Prop) (R : List Rel) (rows : List Row) (hm : P.follows .mixedOrders = true) (hp : plainOps ops = true) (hd : dstsFit ops a0.tmps.size = true)
    (hrows : rowsOk ops ops.toList rows = true) (hlen : (R.length == ops.size) = true) (hg : ((ops[n]?).all fun o => o.guard.isNone) = true)
    (hP : ∀ W W', Pre W → Below W.heap.size W W' → Pre W') (hD : ∀ W W', Done W → Below W.heap.size W W' → Done W') (hRn : ∀ v W, Done W → (R.getD n Rel.none_) v W) (hmono : MonoAllG g Pre Done R)
    (hs : StepsG P g Pre Done R a0 w0.drew n 0 ops.toList rows)
    (hf : ∀ (v : Nat → Value) (W : World), w0.grownBy W (some g) → All v W 0 R → Q .normal (putAll v 0 ops.toList a0) W) :
    (Code.region id ops true).wp P Q a0 w0 :=
  wp_region_put (Core g Pre Done) R hm hp hd (Core.refl g Pre Done) (fun _ _ _ => Core.trans) hlen (fun i v W W' h hX => MonoAllG.getD R i hmono v W W' h hX)
    (steps_ofG hP hD hRn (fun o ho => by rw [ho] at hg; simpa using hg) _ rows 0 (by simp) hrows hs) (fun v W hX hA => hf v W (grown_trans (grown_below (grown_refl _ _) (Below.refl _ _).drew) hX.1) hA)
end Go.Proofs.YtmdilfgeogedpaaDoor
