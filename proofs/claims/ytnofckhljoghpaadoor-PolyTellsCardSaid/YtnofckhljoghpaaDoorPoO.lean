/- Layer 3, proved: PolyTells, with its card. For every input, no condition. -/
import Derived.Test.YtnofckhljoghpaaDoorDoor
import Derived.Test.YtnofckhljoghpaaDoorPoN
import Derived.Test.YtnofckhljoghpaaDoorPoJ
namespace Go.Proofs.YtnofckhljoghpaaDoor
open Go.ChangeShapes Go.WideShapes Go.ChangeAt Go.RowKit

section
variable {H : Type} {enc : TypeId × Value → H} {P : Program} {W : World}
/-- a struct of two numbers by value -/
theorem open_two {t : TypeId} {f0 f1 : Field} (ht : P.underlying t = some (.struct #[f0, f1])) (hct : P.cellsOf t = 2) (o0 : f0.offset = 0) (o1 : f1.offset = 1) {k0 k1 : IntKind} (h0 : P.underlying f0.type = some (.int k0)) (h1 : P.underlying f1.type = some (.int k1))
    (z0 : P.cellsOf f0.type = 1) (z1 : P.cellsOf f1.type = 1) {v : Value} {d : DataW H} {p : List MemPlace} {r : Reach} {b0 : Nat} (hv : Value.okWide P W r b0 t v) (h : DataW.Trod enc P W 0 (fun _ => true) true t v d p) :
    ∃ x y : Int, v = .agg #[.int k0 x, .int k1 y] ∧ (Lit.int k0 x).wf = true ∧ (Lit.int k1 y).wf = true := by
  obtain ⟨fuel, hf⟩ := h
  obtain ⟨cs, rfl, hsz⟩ := okWide_struct ht hv
  obtain ⟨c0, c1, rfl⟩ := Joins.array2 (hsz.trans hct)
  obtain ⟨xs, n', _, _, _, hxl, hxf⟩ := DataW.trod_struct ht hf
  obtain ⟨y0, y1, rfl⟩ : ∃ y0 y1, xs = [y0, y1] := by
    match xs, hxl with
    | [y0, y1], _ => exact ⟨y0, y1, rfl⟩
  have e0 := hxf 0 f0 rfl
  have e1 := hxf 1 f1 rfl
  rw [o0, z0] at e0
  rw [o1, z1] at e1
  simp [Value.cells] at e0 e1
  obtain ⟨x, ex, _, wx⟩ := DataW.trod_int h0 e0
  obtain ⟨y, ey, _, wy⟩ := DataW.trod_int h1 e1
  simp at ex ey
  subst ex; subst ey
  exact ⟨x, y, rfl, wx, wy⟩
/-- points that come in -/
theorem open_shs {t s : TypeId} {f0 f1 : Field} (ht : P.underlying t = some (.slice s)) (hs : P.underlying s = some (.struct #[f0, f1])) (hsz : P.cellsOf s = 2)
    (o0 : f0.offset = 0) (o1 : f1.offset = 1) (h0 : P.underlying f0.type = some (.int .u64)) (h1 : P.underlying f1.type = some (.int .u64)) (z0 : P.cellsOf f0.type = 1) (z1 : P.cellsOf f1.type = 1)
    {v : Value} {d : DataW H} {p : List MemPlace} {r : Reach} {b0 : Nat} (hv : Value.okWide P W r b0 t v) (h : DataW.Trod enc P W 0 (fun _ => true) true t v d p) :
    ∃ A n c xs ys, v = .slice A n c ∧ n ≤ c ∧ c ≤ maxLen ∧ xs.length = n ∧ Shs W A xs ys n ∧ (∀ i, xs.getD i 0 < 18446744073709551616) ∧ (∀ i, ys.getD i 0 < 18446744073709551616) := by
  obtain ⟨A, n, c, rfl⟩ := okWide_slice ht hv
  obtain ⟨fuel, hf⟩ := h
  rcases Deep.open_slice ht hf with ⟨hcs, _⟩ | ⟨ad, len, cap, m, fu, D, Pl, hcs, _, hl, hm, hmm, _, hi⟩
  · simp [Value.cells] at hcs
    obtain ⟨rfl, rfl, rfl⟩ := hcs
    exact ⟨none, 0, 0, [], [], rfl, Nat.le_refl _, by unfold maxLen; omega, rfl, fun i h => absurd h (Nat.not_lt_zero _), fun i => by simp, fun i => by simp⟩
  · simp [Value.cells] at hcs
    obtain ⟨rfl, rfl, rfl⟩ := hcs
    simp only [if_true] at hmm
    obtain ⟨b, off, spot⟩ := ad
    have key : ∀ i, i < n → ∃ x y : Nat, x < 18446744073709551616 ∧ y < 18446744073709551616 ∧ W.cell? ⟨b, off + i * 2, none⟩ = some (.int .u64 (x : Nat)) ∧ W.cell? ⟨b, off + i * 2 + 1, none⟩ = some (.int .u64 (y : Nat)) ∧ spot = none := by
      intro i hin
      obtain ⟨cs, hcs, htr⟩ := hi i (by omega)
      rw [hsz] at hcs
      obtain ⟨_, hlen, hcell⟩ := World.cells?_some hcs
      obtain ⟨xs, n', _, _, _, hxl, hxf⟩ := DataW.trod_struct hs htr
      obtain ⟨y0, y1, rfl⟩ : ∃ y0 y1, xs = [y0, y1] := by
        match xs, hxl with
        | [y0, y1], _ => exact ⟨y0, y1, rfl⟩
      have e0 := hxf 0 f0 rfl
      have e1 := hxf 1 f1 rfl
      obtain ⟨c0, c1, rfl⟩ : ∃ c0 c1, cs = [c0, c1] := by
        match cs, hlen with
        | [c0, c1], _ => exact ⟨c0, c1, rfl⟩
      rw [o0, z0] at e0
      rw [o1, z1] at e1
      simp at e0 e1
      obtain ⟨X, ex, _, wX⟩ := DataW.trod_int h0 e0
      obtain ⟨Y, ey, _, wY⟩ := DataW.trod_int h1 e1
      simp at ex ey
      subst ex; subst ey
      have hX := wf_u64_bd _ wX
      have hY := wf_u64_bd _ wY
      obtain ⟨x, rfl⟩ := Int.eq_ofNat_of_zero_le hX.1
      obtain ⟨y, rfl⟩ := Int.eq_ofNat_of_zero_le hY.1
      have q0 := hcell 0 (by omega)
      have q1 := hcell 1 (by omega)
      have hspot : spot = none := by
        obtain ⟨cs', hcs', _⟩ := hi 0 (by omega)
        rw [hsz] at hcs'
        obtain ⟨_, hlen', hcell'⟩ := World.cells?_some hcs'
        have := hcell' 0 (by omega)
        rw [List.getElem?_eq_getElem (by omega)] at this
        simpa [Addr.add] using World.cell?_spot this
      subst hspot
      rw [addr_add, addr_add] at q0 q1
      simp only [Nat.add_zero, List.getElem?_cons_zero, List.getElem?_cons_succ] at q0 q1
      exact ⟨x, y, Int.ofNat_lt.1 hX.2, Int.ofNat_lt.1 hY.2, q0, q1, rfl⟩
    let X : Nat → Nat := fun i => if h : i < n then (key i h).choose else 0
    let Y : Nat → Nat := fun i => if h : i < n then (key i h).choose_spec.choose else 0
    have hX : ∀ i, i < n → ((List.range n).map X).getD i 0 = X i := fun i h => map_range_getD X h
    have hY : ∀ i, i < n → ((List.range n).map Y).getD i 0 = Y i := fun i h => map_range_getD Y h
    have hXY : ∀ i, (h : i < n) → X i < 18446744073709551616 ∧ Y i < 18446744073709551616 ∧ W.cell? ⟨b, off + i * 2, none⟩ = some (.int .u64 (X i : Nat)) ∧ W.cell? ⟨b, off + i * 2 + 1, none⟩ = some (.int .u64 (Y i : Nat)) ∧ spot = none := by
      intro i h
      have e1 : X i = (key i h).choose := dif_pos h
      have e2 : Y i = (key i h).choose_spec.choose := dif_pos h
      rw [e1, e2]
      exact (key i h).choose_spec.choose_spec
    refine ⟨_, n, c, (List.range n).map X, (List.range n).map Y, rfl, hl, hm, by simp, fun i h => ?_, map_range_lt X n _ (by decide) fun i h => (hXY i h).1, map_range_lt Y n _ (by decide) fun i h => (hXY i h).2.1⟩
    obtain ⟨_, _, k1, k2, k3⟩ := hXY i h
    subst k3
    exact ⟨b, off, rfl, by rw [hX i h]; exact k1, by rw [hY i h]; exact k2⟩
end
theorem ptells_any (A0 : Option Addr) (nc c0 : Nat) (cl : List Nat) (A : Option Addr) (n c : Nat) (xs ys : List Nat) (z : Nat) (m : Int) (w : World) (hg : Glob w) (hl0 : cl.length = nc) (a0 : At w A0 (nats .u64 cl)) (b0 : ∀ i, cl.getD i 0 < 18446744073709551616)
    (hl : xs.length = n) (ha : Shs w A xs ys n) (hx : ∀ i, xs.getD i 0 < 18446744073709551616) (hy : ∀ i, ys.getD i 0 < 18446744073709551616) (hcc : n ≤ c) (hc9 : c ≤ 9223372036854775807) (hz : z < 18446744073709551616) :
    Calls Tryd.prog 3 #[.slice A0 nc c0, .slice A n c, .agg #[.int .u64 (z : Nat), .int .i64 m]] w fun e w' => e = .returned (.bool true) ∧ Below w.heap.size w w' := by
  by_cases h : 40 < nc ∨ (16 < n ∧ n ≤ 64) ∨ 100 < n
  · exact ptells_short A0 nc c0 cl A n c xs ys z m w hg h
  · exact ptells_in A0 nc c0 cl A n c xs ys z m w hg (by omega) (by omega) hl0 a0 b0 hl ha hx hy hcc hc9 hz
set_option maxRecDepth 100000 in
theorem polyTells_lifted (os : Os) (started : os.Started) (H : Type) (enc : TypeId × Value → H) :
    ReturnsInHanded {} Tryd.checked os 3 .any (fun w args => (Rows.polyTellsSpec.pre enc Tryd.prog Tryd.f3 [] false w args ∧ laidMetH Tryd.prog Lay w) ∧ sizedMet enc Tryd.prog Tryd.f3 (OpenSpec.ofChange Rows.polyTellsSpec) false w args) (Rows.polyTellsSpec.post enc Tryd.prog Tryd.f3 false true false false) := by
  refine returnsInHanded_of_change_and (C := Tryd.checked) (X := fun w _ => laidMetH Tryd.prog Lay w) (fun _ _ _ hh h => h.of_heap hh) own started (by kernel_rfl) Tryd.func3
    (ChangeSpec.witness_at (enc := enc) (C := Tryd.checked) (os := os) (X := fun w _ => laidMetH Tryd.prog Lay w) false (laidWorld os) #[.slice none 0 0, .slice none 0 0, .agg #[.int .u64 0, .int .i64 0]] 8 rfl (by kernel_rfl) (by kernel_rfl) (by kernel_rfl) (by kernel_rfl) (by kernel_rfl) (laidWorld_met os _)) ?_
  intro W base args ds gs before hval0 hW _ hsz0 hL _
  have hglob := glob_of_laid hL
  have hval : ∀ (j : Nat) t v, Tryd.f3.params[j]? = some t → args[j]? = some v → Value.okWide Tryd.prog W .any base t v := hval0
  have hW' := hW
  obtain ⟨p, q, hA0, hV, rfl, _, _⟩ := hW
  have hA : DataW.TrodAll enc Tryd.prog W 0 (fun _ => true) true Tryd.f3.params.toList args.toList ds p := hA0
  rw [Tryd.params3] at hA hval
  obtain ⟨v0, vs0, d0, ds0, p0, q0, hargs, rfl, rfl, h0, r0⟩ := trodAll_cons hA
  obtain ⟨v1, vs1, d1, ds1, p1, q1, rfl, rfl, rfl, h1, r1⟩ := trodAll_cons r0
  obtain ⟨v2, vs2, d2, ds2, p2, q2, rfl, rfl, rfl, h2, r2⟩ := trodAll_cons r1
  obtain ⟨rfl, rfl, rfl⟩ := trodAll_nil r2
  obtain rfl : args = #[v0, v1, v2] := by cases args; simp_all
  obtain ⟨rfl, rfl⟩ := trodVars_none hV
  clear hA0 hval0
  have lt0 : ∀ x ∈ p0, x.block < W.heap.size := fun x hx => by obtain ⟨m, hm⟩ := h0; exact DataW.trod_lt m _ _ _ hm x hx
  have lt1 : ∀ x ∈ p1, x.block < W.heap.size := fun x hx => by obtain ⟨m, hm⟩ := h1; exact DataW.trod_lt m _ _ _ hm x hx
  have lt2 : ∀ x ∈ p2, x.block < W.heap.size := fun x hx => by obtain ⟨m, hm⟩ := h2; exact DataW.trod_lt m _ _ _ hm x hx
  obtain ⟨A0, n0, c0, l0, rfl, e0, k0, m0, a0, b0, g0⟩ := open_nats wf_u64_bd (t := 22) (e := 24) (by kernel_rfl) (by kernel_rfl) (by kernel_rfl) (hval 0 _ _ rfl rfl) h0
  have y0 : A0 = none → n0 = 0 := fun e => e0 ▸ At.none_len a0 e
  unfold maxLen at m0
  obtain ⟨A1, n1, c1, xs1, ys1, rfl, k1, m1, e1, a1, bx1, bz1⟩ := open_shs (t := 23) (s := 41) (by kernel_rfl) Tryd.underlying41 (by kernel_rfl) rfl rfl (by kernel_rfl) (by kernel_rfl) (by kernel_rfl) (by kernel_rfl) (hval 1 _ _ rfl rfl) h1
  unfold maxLen at m1
  obtain ⟨x2, y2, rfl, wx2, wy2⟩ := open_two (t := 26) (k0 := .u64) (k1 := .i64) Tryd.underlying26 (by kernel_rfl) rfl rfl (by kernel_rfl) (by kernel_rfl) (by kernel_rfl) (by kernel_rfl) (hval 2 _ _ rfl rfl) h2
  obtain ⟨x2, rfl⟩ := Int.eq_ofNat_of_zero_le (wf_u64_bd _ wx2).1
  have zx2 := Int.ofNat_lt.1 (wf_u64_bd _ wx2).2
  refine (ptells_any A0 n0 c0 l0 A1 n1 c1 xs1 ys1 x2 y2 W hglob e0 a0 (fun i => Nat.lt_of_lt_of_le (b0 i) (by decide)) e1 a1 bx1 bz1 k1 (by omega) zx2).mono fun e W' ⟨he, bel⟩ => ?_
  subst he
  exact ⟨_, rfl, _, _, _, [], _, [], hW', trodAll_mk1 (shut_bool Tryd.underlying4 _), (trodAll_cons_mk (Below.trod laidOut (by kernel_rfl) (of_decide_eq_true (by kernel_rfl)) h0 bel lt0) (trodAll_cons_mk (Below.trod laidOut (by kernel_rfl) (of_decide_eq_true (by kernel_rfl)) h1 bel lt1) (trodAll_cons_mk (Below.trod laidOut (by kernel_rfl) (of_decide_eq_true (by kernel_rfl)) h2 bel lt2) trodAll_mk0))), rfl, bel.frame _, fun h => by cases h⟩
theorem polyTells_holds : Rows.PolyTellsSaid :=
  OpenClaim.holds_of_wide 3 Tryd.f3 rfl rfl rfl rfl rfl rfl rfl ⟨rfl, rfl, rfl, rfl, rfl⟩ rfl rfl rfl rfl rfl (by kernel_rfl) Tryd.func3 (by kernel_rfl)
    (of_decide_eq_true (by kernel_rfl)) (by unfold Func.isWrapper; first | (rw [if_pos (by decide +kernel)]; kernel_rfl) | (rw [if_neg (by decide +kernel)]; exact ⟨rfl, rfl⟩))
    (fun os started H enc _ => polyTells_lifted os started H enc)
theorem polyTells_card : Rows.PolyTellsCardSaid :=
  Claim7.holds_tied_plain_at .later [] [.handle] true (true, "78e2a75805954f771dc8ea51b248428cc2e48561e99428fac842b7c6ae2a7e33") true
    polyTells_holds (fun _ h => by cases h) (by kernel_rfl) (fun _ h => by cases h) polyTells_row_tie rfl ⟨rfl, rfl⟩ (by kernel_rfl) rfl
    (fun f fn hf hfn => by
      obtain rfl : f = 3 := Option.some.inj ((show Tryd.prog.funcNamed "caucus/caucuslaw03.PolyTells" = some 3 by kernel_rfl).symm.trans hf) |>.symm
      obtain rfl : fn = Tryd.f3 := (Option.some.inj (Tryd.func3.symm.trans hfn)).symm
      refine ⟨by kernel_rfl, fun j t ht => ?_⟩
      have hall : (Tryd.f3.params.toList.all fun t => !(Tryd.prog.wantsStandIn t)) = true := by kernel_rfl
      have hm : t ∈ Tryd.f3.params.toList := Array.mem_toList_iff.2 (Array.mem_of_getElem? ht)
      have h1 := List.all_eq_true.1 hall t hm
      have h2 : Tryd.prog.wantsStandIn t = false := by simpa using h1
      exact h2)
    (by kernel_rfl)
end Go.Proofs.YtnofckhljoghpaaDoor
