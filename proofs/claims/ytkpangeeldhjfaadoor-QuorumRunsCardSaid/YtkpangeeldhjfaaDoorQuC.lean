/- Layer 23: the tally: Came, Gone. -/
import Derived.Test.YtkpangeeldhjfaaDoorQuB
namespace Go.Proofs.YtkpangeeldhjfaaDoor
open Go.RowKit
/-- a set with one more -/
def qput (l : List Int) (id : Int) : List Int := SetM.elems (SetM.op 0 (SetM.bitsOf l) (SetM.bitsOf [id]))
section
variable {w w' : World} {q : Nat} {who inn gone : List Int} {need term went : Int} {Aw Ai Ag : Option Addr} {cw ci cg : Nat}
set_option maxRecDepth 100000 in
theorem qcame_nil (i : Int) (w : World) : Calls Tryd.prog 7 #[.pointer none, .int .i64 i] w fun e w' => e = .returned (.iface 52 (.int .i64 1)) ∧ w = w' := by
  go_enter Tryd.func7, Tryd.ntmps7
  go_wp2_with fail
  refine (qcan_nil _ _).mono ?_
  rintro e w1 ⟨rfl, rfl⟩
  go_wp2_with fail
  go_ret
  exact ⟨rfl, rfl⟩
set_option maxRecDepth 100000 in
set_option maxHeartbeats 2000000 in
theorem qcame_f (id : Int) (h : Qu w q who inn gone need term went Aw cw Ai ci Ag cg) (hk : canK who inn gone need term went id = 0) :
    Calls Tryd.prog 7 #[.pointer (some ⟨q, 0, none⟩), .int .i64 id] w fun e w' => e = .returned .nilIface ∧ w.grownBy w' (some q) ∧ ∃ A' c', Qu w' q who (qput inn id) gone need term went Aw cw A' c' Ag cg ∧ ∀ k, blk A' = some k → w.heap.size ≤ k := by
  have C := Lib.hid (qcan_any id h 0 hk)
  have QH := Lib.hid h
  have ltq := h.lay.lt
  clear hk h
  simp only [errK, if_true] at C
  go_enter Tryd.func7, Tryd.ntmps7
  go_wp2_with fail
  refine C.out.mono ?_
  rintro e w1 ⟨rfl, m, rfl⟩
  have BD := Lib.hid (below_drewN w m w.heap.size)
  have Q1 := Lib.hid (QH.out.drewN m)
  generalize w.drewN m = w1 at *
  have c1 := Q1.out.lay.cell 1
  simp only [List.getElem?_toArray, List.getElem?_cons_zero, List.getElem?_cons_succ] at c1
  clear C QH
  go_wp2_with fail
  have BL := Lib.hid ((Below.refl w1.heap.size w1).alloc (Nat.le_refl _) (.cells #[.int .i64 id] 3))
  refine (setEither_any Ai inn.length ci inn (some ⟨w1.heap.size, 0, none⟩) 1 1 [id] _ rfl (by have := Q1.out.leni; omega) (Q1.out.ati.later BL.out (Nat.le_refl _)) rfl (by decide) (show At _ _ [.int .i64 id] from At.lit _ _ _ _ _ rfl)).mono ?_
  rintro e w2 ⟨A3, c3, rfl, h3, h4, h5⟩
  have B2 := Lib.hid (BL.out.trans (h4.mono BL.out.size))
  have Q2 := Lib.hid (Q1.out.later B2.out)
  have H3 := Lib.hid h3
  have H5 := Lib.hid (show ∀ k, blk A3 = some k → w1.heap.size ≤ k ∧ k < w2.heap.size from fun k e => ⟨Nat.le_trans BL.out.size (h5 k e).1, (h5 k e).2⟩)
  have d1 := Q2.out.lay.cell 1
  have f1 := Q2.out.lay.frozen 1
  simp only [List.getElem?_toArray, List.getElem?_cons_zero, List.getElem?_cons_succ] at d1
  clear h3 h4 h5 c1 BL
  have hq1 := Q1.out.lay.lt
  obtain ⟨L, hL⟩ : ∃ L, SetM.elems (SetM.op 0 (SetM.bitsOf inn) (SetM.bitsOf [id])) = L := ⟨_, rfl⟩
  have hLL : L.length ≤ 64 := by rw [← hL]; exact SetM.elemsTo_length _ 64
  have hput : qput inn id = L := hL
  rw [hL] at H3
  rw [hL]
  clear hL
  go_wp2_with fail
  go_ret
  have hg : w2.grownBy (w2.setCell ⟨q, 1, none⟩ (.slice A3 L.length c3)) (some q) := grown_set (grown_refl _ _) 1 _
  rw [hput]
  have far : ∀ {A : Option Addr}, (∀ k, blk A = some k → k < w2.heap.size ∧ k ≠ q) → ∀ k, blk A = some k → k < (w2.setCell ⟨q, 1, none⟩ (.slice A3 L.length c3)).heap.size ∧ k ≠ q := fun hA k e => ⟨Nat.lt_of_lt_of_le (hA k e).1 hg.size, (hA k e).2⟩
  have keep : ∀ {A : Option Addr} {xs : List Value}, At w2 A xs → (∀ k, blk A = some k → k < w2.heap.size ∧ k ≠ q) → At (w2.setCell ⟨q, 1, none⟩ (.slice A3 L.length c3)) A xs := fun ha hA => ha.grown hg (by
    rename_i A xs
    cases e : blk A with
    | none => exact .inl rfl
    | some k => exact .inr (fun e2 => (hA k e).2 (by injection e2)))
  have f3 : ∀ k, blk A3 = some k → k < w2.heap.size ∧ k ≠ q := fun k e => ⟨(H5.out k e).2, by have := (H5.out k e).1; omega⟩
  have n3 : A3 = none → L.length = 0 := fun e => by
    rcases Nat.eq_zero_or_pos L.length with h | h
    · exact h
    · obtain ⟨b, o, e2, _⟩ := H3.out.int 0 h
      rw [e] at e2; cases e2
  exact ⟨rfl, grown_trans (⟨B2.out.os.trans BD.out.os, B2.out.tape.trans BD.out.tape, B2.out.output.trans BD.out.output, Nat.le_trans BD.out.size B2.out.size, fun k hk _ => (B2.out.block k (Nat.lt_of_lt_of_le hk BD.out.size)).trans (BD.out.block k hk)⟩ : w.grownBy w2 (some q)) hg, A3, c3, ⟨Q2.out.lay.set 1 _, keep Q2.out.atw Q2.out.farw, keep H3.out f3, keep Q2.out.atg Q2.out.farg, far Q2.out.farw, far f3, far Q2.out.farg, n3, Q2.out.lenw, by omega, Q2.out.leng⟩, fun k e => by have h1 := (H5.out k e).1; have h2 := BD.out.size; omega⟩
set_option maxRecDepth 100000 in
theorem qcame_0 (id : Int) (h : Qu w q who inn gone need term went Aw cw Ai ci Ag cg) (hk : canK who inn gone need term went id = 0) :
    Calls Tryd.prog 7 #[.pointer (some ⟨q, 0, none⟩), .int .i64 id] w fun e w' => e = .returned .nilIface ∧ w.grownBy w' (some q) ∧ ∃ A' c', Qu w' q who (qput inn id) gone need term went Aw cw A' c' Ag cg :=
  (qcame_f id h hk).mono fun e w' ⟨h1, h2, A', c', h3, _⟩ => ⟨h1, h2, A', c', h3⟩
set_option maxRecDepth 100000 in
set_option maxHeartbeats 2000000 in
theorem qcame_k (id : Int) (h : Qu w q who inn gone need term went Aw cw Ai ci Ag cg) (k : Int) (hk : canK who inn gone need term went id = k) (h0 : k ≠ 0) :
    Calls Tryd.prog 7 #[.pointer (some ⟨q, 0, none⟩), .int .i64 id] w fun e w' => e = .returned (.iface 52 (.int .i64 k)) ∧ ∃ m, w' = w.drewN m := by
  have C := Lib.hid (qcan_any id h k hk)
  have QH := Lib.hid h
  have ltq := h.lay.lt
  clear hk h
  rw [errK_ne h0] at C
  have H0 := Lib.hid h0
  clear h0
  go_enter Tryd.func7, Tryd.ntmps7
  go_wp2_with fail
  refine C.out.mono ?_
  rintro e w1 ⟨rfl, m, rfl⟩
  have Q1 := Lib.hid (QH.out.drewN m)
  go_wp2_with fail
  go_ret
  exact ⟨rfl, m, rfl⟩
set_option maxRecDepth 100000 in
theorem qgone_nil (i : Int) (w : World) : Calls Tryd.prog 8 #[.pointer none, .int .i64 i] w fun e w' => e = .returned (.iface 52 (.int .i64 1)) ∧ w = w' := by
  go_enter Tryd.func8, Tryd.ntmps8
  go_wp2_with fail
  refine (qcan_nil _ _).mono ?_
  rintro e w1 ⟨rfl, rfl⟩
  go_wp2_with fail
  go_ret
  exact ⟨rfl, rfl⟩
set_option maxRecDepth 100000 in
set_option maxHeartbeats 2000000 in
theorem qgone_f (id : Int) (h : Qu w q who inn gone need term went Aw cw Ai ci Ag cg) (hk : canK who inn gone need term went id = 0) :
    Calls Tryd.prog 8 #[.pointer (some ⟨q, 0, none⟩), .int .i64 id] w fun e w' => e = .returned .nilIface ∧ w.grownBy w' (some q) ∧ ∃ A' c', Qu w' q who inn (qput gone id) need term went Aw cw Ai ci A' c' ∧ ∀ k, blk A' = some k → w.heap.size ≤ k := by
  have C := Lib.hid (qcan_any id h 0 hk)
  have QH := Lib.hid h
  have ltq := h.lay.lt
  clear hk h
  simp only [errK, if_true] at C
  go_enter Tryd.func8, Tryd.ntmps8
  go_wp2_with fail
  refine C.out.mono ?_
  rintro e w1 ⟨rfl, m, rfl⟩
  have BD := Lib.hid (below_drewN w m w.heap.size)
  have Q1 := Lib.hid (QH.out.drewN m)
  generalize w.drewN m = w1 at *
  have c1 := Q1.out.lay.cell 2
  simp only [List.getElem?_toArray, List.getElem?_cons_zero, List.getElem?_cons_succ] at c1
  clear C QH
  go_wp2_with fail
  have BL := Lib.hid ((Below.refl w1.heap.size w1).alloc (Nat.le_refl _) (.cells #[.int .i64 id] 3))
  refine (setEither_any Ag gone.length cg gone (some ⟨w1.heap.size, 0, none⟩) 1 1 [id] _ rfl (by have := Q1.out.leng; omega) (Q1.out.atg.later BL.out (Nat.le_refl _)) rfl (by decide) (show At _ _ [.int .i64 id] from At.lit _ _ _ _ _ rfl)).mono ?_
  rintro e w2 ⟨A3, c3, rfl, h3, h4, h5⟩
  have B2 := Lib.hid (BL.out.trans (h4.mono BL.out.size))
  have Q2 := Lib.hid (Q1.out.later B2.out)
  have H3 := Lib.hid h3
  have H5 := Lib.hid (show ∀ k, blk A3 = some k → w1.heap.size ≤ k ∧ k < w2.heap.size from fun k e => ⟨Nat.le_trans BL.out.size (h5 k e).1, (h5 k e).2⟩)
  have d1 := Q2.out.lay.cell 2
  have f1 := Q2.out.lay.frozen 2
  simp only [List.getElem?_toArray, List.getElem?_cons_zero, List.getElem?_cons_succ] at d1
  clear h3 h4 h5 c1 BL
  have hq1 := Q1.out.lay.lt
  obtain ⟨L, hL⟩ : ∃ L, SetM.elems (SetM.op 0 (SetM.bitsOf gone) (SetM.bitsOf [id])) = L := ⟨_, rfl⟩
  have hLL : L.length ≤ 64 := by rw [← hL]; exact SetM.elemsTo_length _ 64
  have hput : qput gone id = L := hL
  rw [hL] at H3
  rw [hL]
  clear hL
  go_wp2_with fail
  go_ret
  have hg : w2.grownBy (w2.setCell ⟨q, 2, none⟩ (.slice A3 L.length c3)) (some q) := grown_set (grown_refl _ _) 2 _
  rw [hput]
  have far : ∀ {A : Option Addr}, (∀ k, blk A = some k → k < w2.heap.size ∧ k ≠ q) → ∀ k, blk A = some k → k < (w2.setCell ⟨q, 2, none⟩ (.slice A3 L.length c3)).heap.size ∧ k ≠ q := fun hA k e => ⟨Nat.lt_of_lt_of_le (hA k e).1 hg.size, (hA k e).2⟩
  have keep : ∀ {A : Option Addr} {xs : List Value}, At w2 A xs → (∀ k, blk A = some k → k < w2.heap.size ∧ k ≠ q) → At (w2.setCell ⟨q, 2, none⟩ (.slice A3 L.length c3)) A xs := fun ha hA => ha.grown hg (by
    rename_i A xs
    cases e : blk A with
    | none => exact .inl rfl
    | some k => exact .inr (fun e2 => (hA k e).2 (by injection e2)))
  have f3 : ∀ k, blk A3 = some k → k < w2.heap.size ∧ k ≠ q := fun k e => ⟨(H5.out k e).2, by have := (H5.out k e).1; omega⟩
  have n3 : A3 = none → L.length = 0 := fun e => by
    rcases Nat.eq_zero_or_pos L.length with h | h
    · exact h
    · obtain ⟨b, o, e2, _⟩ := H3.out.int 0 h
      rw [e] at e2; cases e2
  exact ⟨rfl, grown_trans (⟨B2.out.os.trans BD.out.os, B2.out.tape.trans BD.out.tape, B2.out.output.trans BD.out.output, Nat.le_trans BD.out.size B2.out.size, fun k hk _ => (B2.out.block k (Nat.lt_of_lt_of_le hk BD.out.size)).trans (BD.out.block k hk)⟩ : w.grownBy w2 (some q)) hg, A3, c3, ⟨Q2.out.lay.set 2 _, keep Q2.out.atw Q2.out.farw, keep Q2.out.ati Q2.out.fari, keep H3.out f3, far Q2.out.farw, far Q2.out.fari, far f3, Q2.out.nili, Q2.out.lenw, Q2.out.leni, by omega⟩, fun k e => by have h1 := (H5.out k e).1; have h2 := BD.out.size; omega⟩
set_option maxRecDepth 100000 in
theorem qgone_0 (id : Int) (h : Qu w q who inn gone need term went Aw cw Ai ci Ag cg) (hk : canK who inn gone need term went id = 0) :
    Calls Tryd.prog 8 #[.pointer (some ⟨q, 0, none⟩), .int .i64 id] w fun e w' => e = .returned .nilIface ∧ w.grownBy w' (some q) ∧ ∃ A' c', Qu w' q who inn (qput gone id) need term went Aw cw Ai ci A' c' :=
  (qgone_f id h hk).mono fun e w' ⟨h1, h2, A', c', h3, _⟩ => ⟨h1, h2, A', c', h3⟩
set_option maxRecDepth 100000 in
set_option maxHeartbeats 2000000 in
theorem qgone_k (id : Int) (h : Qu w q who inn gone need term went Aw cw Ai ci Ag cg) (k : Int) (hk : canK who inn gone need term went id = k) (h0 : k ≠ 0) :
    Calls Tryd.prog 8 #[.pointer (some ⟨q, 0, none⟩), .int .i64 id] w fun e w' => e = .returned (.iface 52 (.int .i64 k)) ∧ ∃ m, w' = w.drewN m := by
  have C := Lib.hid (qcan_any id h k hk)
  have QH := Lib.hid h
  have ltq := h.lay.lt
  clear hk h
  rw [errK_ne h0] at C
  have H0 := Lib.hid h0
  clear h0
  go_enter Tryd.func8, Tryd.ntmps8
  go_wp2_with fail
  refine C.out.mono ?_
  rintro e w1 ⟨rfl, m, rfl⟩
  have Q1 := Lib.hid (QH.out.drewN m)
  go_wp2_with fail
  go_ret
  exact ⟨rfl, m, rfl⟩
end
end Go.Proofs.YtkpangeeldhjfaaDoor
