/- Layer 23, proved: QuorumRuns, with its card. For every input, no condition. -/
import Derived.Test.YtkpangeeldhjfaaDoorDoor
import Derived.Test.YtkpangeeldhjfaaDoorOpenQ
import Derived.Test.YtkpangeeldhjfaaDoorQuF
import Derived.Test.YtkpangeeldhjfaaDoorQuQ
namespace Go.Proofs.YtkpangeeldhjfaaDoor
open Go.ChangeShapes Go.WideShapes Go.ChangeAt Go.RowKit

theorem At.none_ints {w : World} {A : Option Addr} {k : IntKind} {l : List Int} (h : At w A (ints k l)) (e : A = none) : l.length = 0 := by
  rcases Nat.eq_zero_or_pos l.length with h0 | h0
  · exact h0
  · obtain ⟨b, o, e2, _⟩ := h.int 0 h0
    rw [e] at e2; cases e2

set_option maxRecDepth 100000 in
theorem qruns_any (A0 : Option Addr) (n0 c0 : Nat) (l0 : List Int) (N T : Int) (A2 : Option Addr) (n2 c2 : Nat) (w : World) (e0 : l0.length = n0) (a0 : At w A0 (ints .i64 l0)) (y0 : A0 = none → n0 = 0) (m2 : n2 ≤ 9223372036854775807) (a2 : ∀ i, i < n2 → Act2 w A2 i) (hg : Glob w) :
    Calls Tryd.prog 3 #[.slice A0 n0 c0, .agg #[.int .i64 N, .int .i64 T], .slice A2 n2 c2] w fun e w' => e = .returned (.bool true) ∧ Below w.heap.size w w' := by
  by_cases h : 100 < n0
  · exact qruns_long A0 n0 c0 l0 N T A2 n2 c2 w e0 a0 y0 m2 a2 hg h
  · by_cases hm : mayT l0 N T = true
    · exact qruns_in A0 n0 c0 l0 N T A2 n2 c2 w e0 a0 y0 m2 a2 hg (by omega) hm
    · exact qruns_bad A0 n0 c0 l0 N T A2 n2 c2 w e0 a0 y0 m2 a2 hg (by omega) (by simpa using hm)
set_option maxRecDepth 100000 in
theorem quorumRuns_lifted (os : Os) (started : os.Started) (H : Type) (enc : TypeId × Value → H) :
    ReturnsInHanded {} Tryd.checked os 3 .any (fun w args => (Rows.quorumRunsSpec.pre enc Tryd.prog Tryd.f3 [] false w args ∧ laidMetH Tryd.prog Lay w) ∧ sizedMet enc Tryd.prog Tryd.f3 (OpenSpec.ofChange Rows.quorumRunsSpec) false w args) (Rows.quorumRunsSpec.post enc Tryd.prog Tryd.f3 false true false false) := by
  refine returnsInHanded_of_change_and (C := Tryd.checked) (X := fun w _ => laidMetH Tryd.prog Lay w) (fun _ _ _ hh h => h.of_heap hh) own started (by kernel_rfl) Tryd.func3
    (ChangeSpec.witness_at (enc := enc) (C := Tryd.checked) (os := os) (X := fun w _ => laidMetH Tryd.prog Lay w) false (laidWorld os) #[.slice none 0 0, .agg #[.int .i64 0, .int .i64 0], .slice none 0 0] 8 rfl (by kernel_rfl) (by kernel_rfl) (by kernel_rfl) (by kernel_rfl) (by kernel_rfl) (laidWorld_met os _)) ?_
  intro W base args ds gs before hval0 hW _ hsz0 hL _
  have hglob := glob_of_laid hL
  have hval : ∀ (j : Nat) t v, Tryd.f3.params[j]? = some t → args[j]? = some v → Value.okWide Tryd.prog W .any base t v := hval0
  have hW' := hW
  obtain ⟨p, q, hA0, hV, rfl, _, _⟩ := hW
  have hA : DataW.TrodAll enc Tryd.prog W 0 (fun _ => true) true Tryd.f3.params.toList args.toList ds p := hA0
  rw [Tryd.params3] at hA hval
  obtain ⟨v0, vs0, d0, ds0, p0, q0, hargs, rfl, rfl, h0, r0⟩ := trodAll_cons hA
  obtain ⟨v1, vs1, d1, ds1, p1, q1, rfl, rfl, rfl, h1, r1⟩ := trodAll_cons r0
  obtain ⟨v2, vs2, d2, ds2, p2, q2, rfl, rfl, rfl, h2, r2⟩ := trodAll_cons r1
  obtain ⟨rfl, rfl, rfl⟩ := trodAll_nil r2
  obtain rfl : args = #[v0, v1, v2] := by cases args; simp_all
  obtain ⟨rfl, rfl⟩ := trodVars_none hV
  clear hA0 hval0
  have lt0 : ∀ x ∈ p0, x.block < W.heap.size := fun x hx => by obtain ⟨m, hm⟩ := h0; exact DataW.trod_lt m _ _ _ hm x hx
  have lt1 : ∀ x ∈ p1, x.block < W.heap.size := fun x hx => by obtain ⟨m, hm⟩ := h1; exact DataW.trod_lt m _ _ _ hm x hx
  have lt2 : ∀ x ∈ p2, x.block < W.heap.size := fun x hx => by obtain ⟨m, hm⟩ := h2; exact DataW.trod_lt m _ _ _ hm x hx
  obtain ⟨A0, n0, c0, l0, rfl, e0, k0, m0, a0, b0⟩ := open_intz (k := .i64) (t := 22) (e := 3) (by kernel_rfl) (by kernel_rfl) (by kernel_rfl) (hval 0 _ _ rfl rfl) h0
  unfold maxLen at m0
  obtain ⟨x1, y1, rfl, wx1, wy1⟩ := open_pair (t := 23) (e := 3) (k := .i64) (by kernel_rfl) (by kernel_rfl) (by kernel_rfl) (by kernel_rfl) (hval 1 _ _ rfl rfl) h1
  obtain ⟨A2, n2, c2, rfl, k2, m2, a2⟩ := open_acts2 (t := 24) (s := 39) (by kernel_rfl) Tryd.underlying39 (by kernel_rfl) rfl rfl (by kernel_rfl) (by kernel_rfl) (by kernel_rfl) (by kernel_rfl) (hval 2 _ _ rfl rfl) h2
  unfold maxLen at m2
  have y0 : A0 = none → n0 = 0 := fun e => by have := At.none_ints a0 e; omega
  refine (qruns_any A0 n0 c0 l0 x1 y1 A2 n2 c2 W e0 a0 y0 (by omega) a2 hglob).mono fun e W' ⟨he, bel⟩ => ?_
  subst he
  exact ⟨_, rfl, _, _, _, [], _, [], hW', trodAll_mk1 (shut_bool Tryd.underlying4 _), (trodAll_cons_mk (Below.trod laidOut (by kernel_rfl) (of_decide_eq_true (by kernel_rfl)) h0 bel lt0) (trodAll_cons_mk (Below.trod laidOut (by kernel_rfl) (of_decide_eq_true (by kernel_rfl)) h1 bel lt1) (trodAll_cons_mk (Below.trod laidOut (by kernel_rfl) (of_decide_eq_true (by kernel_rfl)) h2 bel lt2) trodAll_mk0))), rfl, bel.frame _, fun h => by cases h⟩
theorem quorumRuns_holds : Rows.QuorumRunsSaid :=
  OpenClaim.holds_of_wide 3 Tryd.f3 rfl rfl rfl rfl rfl rfl rfl ⟨rfl, rfl, rfl, rfl, rfl⟩ rfl rfl rfl rfl rfl (by kernel_rfl) Tryd.func3 (by kernel_rfl)
    (of_decide_eq_true (by kernel_rfl)) (by unfold Func.isWrapper; first | (rw [if_pos (by decide +kernel)]; kernel_rfl) | (rw [if_neg (by decide +kernel)]; exact ⟨rfl, rfl⟩))
    (fun os started H enc _ => quorumRuns_lifted os started H enc)
theorem quorumRuns_card : Rows.QuorumRunsCardSaid :=
  Claim7.holds_tied_plain_at .later [] [.handle] true (true, "54e5d0a587db3475811c4927c1d816a2cb8e0511f79e0bfe7c1a9e0afc37df06") true
    quorumRuns_holds (fun _ h => by cases h) (by kernel_rfl) (fun _ h => by cases h) quorumRuns_row_tie rfl ⟨rfl, rfl⟩ (by kernel_rfl) rfl
    (fun f fn hf hfn => by
      obtain rfl : f = 3 := Option.some.inj ((show Tryd.prog.funcNamed "caucus/caucuslaw23.QuorumRuns" = some 3 by kernel_rfl).symm.trans hf) |>.symm
      obtain rfl : fn = Tryd.f3 := (Option.some.inj (Tryd.func3.symm.trans hfn)).symm
      refine ⟨by kernel_rfl, fun j t ht => ?_⟩
      have hall : (Tryd.f3.params.toList.all fun t => !(Tryd.prog.wantsStandIn t)) = true := by kernel_rfl
      have hm : t ∈ Tryd.f3.params.toList := Array.mem_toList_iff.2 (Array.mem_of_getElem? ht)
      have h1 := List.all_eq_true.1 hall t hm
      have h2 : Tryd.prog.wantsStandIn t = false := by simpa using h1
      exact h2)
    (by kernel_rfl)
end Go.Proofs.YtkpangeeldhjfaaDoor
