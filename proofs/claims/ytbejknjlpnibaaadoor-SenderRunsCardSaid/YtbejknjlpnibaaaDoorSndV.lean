/- Layer 17, proved: SenderRuns, with its card. For every input, no condition. -/
import Derived.Test.YtbejknjlpnibaaaDoorDoor
import Derived.Test.YtbejknjlpnibaaaDoorBods
import Derived.Test.YtbejknjlpnibaaaDoorSndW
namespace Go.Proofs.YtbejknjlpnibaaaDoor
open Go.ChangeShapes Go.WideShapes Go.ChangeAt Go.RowKit

section
variable {H : Type} {enc : TypeId × Value → H} {P : Program} {W : World}
/-- acts that come in -/
theorem open_act4 {t s u : TypeId} {f0 f1 f2 f3 : Field} (ht : P.underlying t = some (.slice s)) (hs : P.underlying s = some (.struct #[f0, f1, f2, f3])) (hsz : P.cellsOf s = 4)
    (o0 : f0.offset = 0) (o1 : f1.offset = 1) (o2 : f2.offset = 2) (o3 : f3.offset = 3) (h0 : P.underlying f0.type = some (.int .i64)) (h1 : P.underlying f1.type = some (.slice u)) (h2 : P.underlying f2.type = some (.int .i64)) (h3 : P.underlying f3.type = some (.int .i64)) (hu : P.underlying u = some (.int .u8))
    (z0 : P.cellsOf f0.type = 1) (z1 : P.cellsOf f1.type = 1) (z2 : P.cellsOf f2.type = 1) (z3 : P.cellsOf f3.type = 1) (zu : P.cellsOf u = 1)
    {v : Value} {d : DataW H} {p : List MemPlace} {r : Reach} {b0 : Nat} (hv : Value.okWide P W r b0 t v) (h : DataW.Trod enc P W 0 (fun _ => true) true t v d p) :
    ∃ A n c, v = .slice A n c ∧ n ≤ c ∧ c ≤ maxLen ∧ ∀ i, i < n → ActS W A i := by
  obtain ⟨A, n, c, rfl⟩ := okWide_slice ht hv
  obtain ⟨fuel, hf⟩ := h
  rcases Deep.open_slice ht hf with ⟨hcs, _⟩ | ⟨ad, len, cap, m, fu, D, Pl, hcs, _, hl, hm, hmm, _, hi⟩
  · simp [Value.cells] at hcs
    obtain ⟨rfl, rfl, rfl⟩ := hcs
    exact ⟨none, 0, 0, rfl, Nat.le_refl _, by unfold maxLen; omega, fun i h => absurd h (Nat.not_lt_zero _)⟩
  · simp [Value.cells] at hcs
    obtain ⟨rfl, rfl, rfl⟩ := hcs
    simp only [if_true] at hmm
    refine ⟨_, n, c, rfl, hl, hm, fun i hin => ?_⟩
    obtain ⟨cs, hcs, htr⟩ := hi i (by omega)
    rw [hsz] at hcs
    obtain ⟨_, hlen, hcell⟩ := World.cells?_some hcs
    obtain ⟨xs, n', _, _, _, hxl, hxf⟩ := DataW.trod_struct hs htr
    obtain ⟨y0, y1, y2, y3, rfl⟩ : ∃ y0 y1 y2 y3, xs = [y0, y1, y2, y3] := by
      match xs, hxl with
      | [y0, y1, y2, y3], _ => exact ⟨y0, y1, y2, y3, rfl⟩
    have e0 := hxf 0 f0 rfl
    have e1 := hxf 1 f1 rfl
    have e2 := hxf 2 f2 rfl
    have e3 := hxf 3 f3 rfl
    obtain ⟨c0, c1, c2, c3, rfl⟩ : ∃ c0 c1 c2 c3, cs = [c0, c1, c2, c3] := by
      match cs, hlen with
      | [c0, c1, c2, c3], _ => exact ⟨c0, c1, c2, c3, rfl⟩
    rw [o0, z0] at e0
    rw [o1, z1] at e1
    rw [o2, z2] at e2
    rw [o3, z3] at e3
    simp at e0 e1 e2 e3
    obtain ⟨K, ek, _, _⟩ := DataW.trod_int h0 e0
    obtain ⟨A2, n2, c2', l2, ev, hl2, _, _, ha2, hz2, _⟩ := cell_nats wf_u8_bd h1 hu zu e1
    obtain ⟨T, et, _, _⟩ := DataW.trod_int h2 e2
    obtain ⟨Q, eq, _, _⟩ := DataW.trod_int h3 e3
    simp at ek et eq
    subst ek; subst et; subst eq; subst ev; subst hl2
    have q0 := hcell 0 (by omega)
    have q1 := hcell 1 (by omega)
    have q2 := hcell 2 (by omega)
    have q3 := hcell 3 (by omega)
    obtain ⟨b, off, spot⟩ := ad
    have hspot : spot = none := by
      obtain ⟨cs', hcs', _⟩ := hi 0 (by omega)
      rw [hsz] at hcs'
      obtain ⟨_, hlen', hcell'⟩ := World.cells?_some hcs'
      have := hcell' 0 (by omega)
      rw [List.getElem?_eq_getElem (by omega)] at this
      simpa [Addr.add] using World.cell?_spot this
    subst hspot
    rw [addr_add, addr_add] at q0 q1 q2 q3
    simp only [Nat.add_zero, List.getD_cons_zero, List.getD_cons_succ, List.getElem?_cons_zero, List.getElem?_cons_succ] at q0 q1 q2 q3
    exact ⟨b, off, A2, c2', K, T, Q, l2, rfl, q0, q1, q2, q3, ha2, hz2, World.block_lt_of_cell? W _ q0⟩
end
theorem sruns_any (E : Int) (A1 : Option Addr) (n1 c1 : Nat) (w : World) (m1 : n1 ≤ 9223372036854775807) (a1 : ∀ i, i < n1 → ActS w A1 i) (hg : Glob w) :
    Calls Tryd.prog 3 #[.int .i64 E, .slice A1 n1 c1] w fun e w' => e = .returned (.bool true) ∧ Below w.heap.size w w' := by
  by_cases h : 1 ≤ E ∧ E ≤ 1073741824
  · exact sruns_in E A1 n1 c1 w m1 a1 hg h
  · exact sruns_bad E A1 n1 c1 w m1 a1 hg (by omega)
set_option maxRecDepth 100000 in
theorem senderRuns_lifted (os : Os) (started : os.Started) (H : Type) (enc : TypeId × Value → H) :
    ReturnsInHanded {} Tryd.checked os 3 .any (fun w args => (Rows.senderRunsSpec.pre enc Tryd.prog Tryd.f3 [] false w args ∧ laidMetH Tryd.prog Lay w) ∧ sizedMet enc Tryd.prog Tryd.f3 (OpenSpec.ofChange Rows.senderRunsSpec) false w args) (Rows.senderRunsSpec.post enc Tryd.prog Tryd.f3 false true false false) := by
  refine returnsInHanded_of_change_and (C := Tryd.checked) (X := fun w _ => laidMetH Tryd.prog Lay w) (fun _ _ _ hh h => h.of_heap hh) own started (by kernel_rfl) Tryd.func3
    (ChangeSpec.witness_at (enc := enc) (C := Tryd.checked) (os := os) (X := fun w _ => laidMetH Tryd.prog Lay w) false (laidWorld os) #[.int .i64 0, .slice none 0 0] 8 rfl (by kernel_rfl) (by kernel_rfl) (by kernel_rfl) (by kernel_rfl) (by kernel_rfl) (laidWorld_met os _)) ?_
  intro W base args ds gs before hval0 hW _ hsz0 hL _
  have hglob := glob_of_laid hL
  have hval : ∀ (j : Nat) t v, Tryd.f3.params[j]? = some t → args[j]? = some v → Value.okWide Tryd.prog W .any base t v := hval0
  have hW' := hW
  obtain ⟨p, q, hA0, hV, rfl, _, _⟩ := hW
  have hA : DataW.TrodAll enc Tryd.prog W 0 (fun _ => true) true Tryd.f3.params.toList args.toList ds p := hA0
  rw [Tryd.params3] at hA hval
  obtain ⟨v0, vs0, d0, ds0, p0, q0, hargs, rfl, rfl, h0, r0⟩ := trodAll_cons hA
  obtain ⟨v1, vs1, d1, ds1, p1, q1, rfl, rfl, rfl, h1, r1⟩ := trodAll_cons r0
  obtain ⟨rfl, rfl, rfl⟩ := trodAll_nil r1
  obtain rfl : args = #[v0, v1] := by cases args; simp_all
  obtain ⟨rfl, rfl⟩ := trodVars_none hV
  clear hA0 hval0
  have lt0 : ∀ x ∈ p0, x.block < W.heap.size := fun x hx => by obtain ⟨m, hm⟩ := h0; exact DataW.trod_lt m _ _ _ hm x hx
  have lt1 : ∀ x ∈ p1, x.block < W.heap.size := fun x hx => by obtain ⟨m, hm⟩ := h1; exact DataW.trod_lt m _ _ _ hm x hx
  obtain ⟨x0, rfl, _, _, wx0⟩ := open_int (k := .i64) (by kernel_rfl) (hval 0 _ _ rfl rfl) h0
  obtain ⟨A1, n1, c1, rfl, k1, m1, a1⟩ := open_act4 (t := 22) (s := 41) (u := 5) (by kernel_rfl) Tryd.underlying41 (by kernel_rfl) rfl rfl rfl rfl (by kernel_rfl) (by kernel_rfl) (by kernel_rfl) (by kernel_rfl) (by kernel_rfl) (by kernel_rfl) (by kernel_rfl) (by kernel_rfl) (by kernel_rfl) (by kernel_rfl) (hval 1 _ _ rfl rfl) h1
  unfold maxLen at m1
  refine (sruns_any x0 A1 n1 c1 W (by omega) a1 hglob).mono fun e W' ⟨he, bel⟩ => ?_
  subst he
  exact ⟨_, rfl, _, _, _, [], _, [], hW', trodAll_mk1 (shut_bool Tryd.underlying4 _), (trodAll_cons_mk (Below.trod laidOut (by kernel_rfl) (of_decide_eq_true (by kernel_rfl)) h0 bel lt0) (trodAll_cons_mk (Below.trod laidOut (by kernel_rfl) (of_decide_eq_true (by kernel_rfl)) h1 bel lt1) trodAll_mk0)), rfl, bel.frame _, fun h => by cases h⟩
theorem senderRuns_holds : Rows.SenderRunsSaid :=
  OpenClaim.holds_of_wide 3 Tryd.f3 rfl rfl rfl rfl rfl rfl rfl ⟨rfl, rfl, rfl, rfl, rfl⟩ rfl rfl rfl rfl rfl (by kernel_rfl) Tryd.func3 (by kernel_rfl)
    (of_decide_eq_true (by kernel_rfl)) (by unfold Func.isWrapper; first | (rw [if_pos (by decide +kernel)]; kernel_rfl) | (rw [if_neg (by decide +kernel)]; exact ⟨rfl, rfl⟩))
    (fun os started H enc _ => senderRuns_lifted os started H enc)
theorem senderRuns_card : Rows.SenderRunsCardSaid :=
  Claim7.holds_tied_plain_at .later [] [.handle] true (true, "e0a1e920065d5872e2e45cb756357f181eb1bd21279f09c0a5e2a31cc57f60f5") true
    senderRuns_holds (fun _ h => by cases h) (by kernel_rfl) (fun _ h => by cases h) senderRuns_row_tie rfl ⟨rfl, rfl⟩ (by kernel_rfl) rfl
    (fun f fn hf hfn => by
      obtain rfl : f = 3 := Option.some.inj ((show Tryd.prog.funcNamed "caucus/caucuslaw17.SenderRuns" = some 3 by kernel_rfl).symm.trans hf) |>.symm
      obtain rfl : fn = Tryd.f3 := (Option.some.inj (Tryd.func3.symm.trans hfn)).symm
      refine ⟨by kernel_rfl, fun j t ht => ?_⟩
      have hall : (Tryd.f3.params.toList.all fun t => !(Tryd.prog.wantsStandIn t)) = true := by kernel_rfl
      have hm : t ∈ Tryd.f3.params.toList := Array.mem_toList_iff.2 (Array.mem_of_getElem? ht)
      have h1 := List.all_eq_true.1 hall t hm
      have h2 : Tryd.prog.wantsStandIn t = false := by simpa using h1
      exact h2)
    (by kernel_rfl)
end Go.Proofs.YtbejknjlpnibaaaDoor
