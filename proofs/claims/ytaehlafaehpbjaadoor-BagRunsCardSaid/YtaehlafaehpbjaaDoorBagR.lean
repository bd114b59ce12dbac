/- Layer 20: the acts that come in; BagRuns for every input. -/
import Derived.Test.YtaehlafaehpbjaaDoorBagQ
import Derived.Test.YtaehlafaehpbjaaDoorOpen
import Derived.Deep.Slices
import Derived.Deep.Strs
namespace Go.Proofs.YtaehlafaehpbjaaDoor
open Go.RowKit Go.ChangeShapes Go.WideShapes Go.ChangeAt
section
variable {H : Type} {enc : TypeId × Value → H} {P : Program} {W : World}
/-- a slice of numbers that stands in a cell -/
theorem cell_nats {t e : TypeId} {k : IntKind} {m : Nat} (hk : ∀ n : Int, (Lit.int k n).wf = true → 0 ≤ n ∧ n < m) (ht : P.underlying t = some (.slice e)) (he : P.underlying e = some (.int k)) (hc : P.cellsOf e = 1)
    {fuel : Nat} {v : Value} {x : DataW H × List MemPlace} (h : DataW.trod enc P W 0 (fun _ => true) true fuel t [v] = some x) :
    ∃ A n c l, v = .slice A n c ∧ l.length = n ∧ n ≤ c ∧ c ≤ maxLen ∧ At W A (nats k l) ∧ (A = none → n = 0) ∧ (∀ i, l.getD i 0 < max m 1) := by
  rcases open_ints ht he hc h with ⟨hcs, _⟩ | ⟨a, len, cap, zs, hcs, _, hl, hm, hz, hx, hcell, hwz⟩
  · simp at hcs
    subst hcs
    exact ⟨none, 0, 0, [], rfl, rfl, Nat.le_refl _, by unfold maxLen; omega, by simp [nats]; exact At.nil _ _, fun _ => rfl, by simp; omega⟩
  · simp at hcs
    subst hcs
    simp only [if_true] at hz
    have hlen : ((zs.take len).map Int.toNat).length = len := by simp; omega
    refine ⟨_, len, cap, (zs.take len).map Int.toNat, rfl, hlen, hl, hm, ?_, by simp, ?_⟩
    · intro i x hx
      have hi : i < len := by
        rcases Nat.lt_or_ge i len with h | h
        · exact h
        · rw [List.getElem?_eq_none (by rw [nats_length, hlen]; exact h)] at hx; cases hx
      have hiz : i < zs.length := by omega
      have hx' : x = .int k (zs[i]) := by
        have hb := hk _ (hwz zs[i] (List.getElem_mem hiz))
        simp [nats, List.getElem?_take, hi, List.getElem?_eq_getElem hiz] at hx
        rw [← hx]; congr 1; omega
      have h1 := hcell i hiz
      obtain ⟨b, off, spot⟩ := a
      have hspot : spot = none := by simpa [Addr.add] using World.cell?_spot (hcell 0 (by omega))
      subst hspot
      rw [addr_add] at h1
      refine ⟨b, off, rfl, ?_⟩
      rw [h1, hx']
      simp [List.getD_eq_getElem?_getD, List.getElem?_eq_getElem hiz]
    · intro i
      by_cases hi : i < len
      · have hiz : i < zs.length := by omega
        have hb := hk _ (hwz zs[i] (List.getElem_mem hiz))
        simp [List.getD_eq_getElem?_getD, List.getElem?_take, hi, List.getElem?_eq_getElem hiz]
        omega
      · rw [List.getD_eq_getElem?_getD, List.getElem?_eq_none (by rw [hlen]; omega)]; simp; omega
theorem At.blk_lt {w : World} {A : Option Addr} {k : IntKind} {l : List Nat} (h : At w A (nats k l)) : ∀ j, blk A = some j → j < w.heap.size ∨ l = [] := by
  intro j e
  by_cases h0 : l = []
  · exact .inr h0
  · left
    obtain ⟨b, o, rfl, hc⟩ := h.nat 0 (by cases l with | nil => exact absurd rfl h0 | cons _ _ => simp)
    simp [blk] at e
    subst e
    exact World.block_lt_of_cell? w _ hc
/-- acts that come in -/
theorem open_acts {t s u : TypeId} {f0 f1 f2 : Field} (ht : P.underlying t = some (.slice s)) (hs : P.underlying s = some (.struct #[f0, f1, f2])) (hsz : P.cellsOf s = 3)
    (o0 : f0.offset = 0) (o1 : f1.offset = 1) (o2 : f2.offset = 2) (h0 : P.underlying f0.type = some (.int .i64)) (h1 : P.underlying f1.type = some (.int .i64)) (h2 : P.underlying f2.type = some (.slice u)) (h3 : P.underlying u = some (.int .u8))
    (z0 : P.cellsOf f0.type = 1) (z1 : P.cellsOf f1.type = 1) (z2 : P.cellsOf f2.type = 1) (z3 : P.cellsOf u = 1)
    {v : Value} {d : DataW H} {p : List MemPlace} {r : Reach} {b0 : Nat} (hv : Value.okWide P W r b0 t v) (h : DataW.Trod enc P W 0 (fun _ => true) true t v d p) :
    ∃ A n c, v = .slice A n c ∧ n ≤ c ∧ c ≤ maxLen ∧ ∀ i, i < n → ActAt W A i := by
  obtain ⟨A, n, c, rfl⟩ := okWide_slice ht hv
  obtain ⟨fuel, hf⟩ := h
  rcases Deep.open_slice ht hf with ⟨hcs, _⟩ | ⟨ad, len, cap, m, fu, D, Pl, hcs, _, hl, hm, hmm, _, hi⟩
  · simp [Value.cells] at hcs
    obtain ⟨rfl, rfl, rfl⟩ := hcs
    exact ⟨none, 0, 0, rfl, Nat.le_refl _, by unfold maxLen; omega, fun i h => absurd h (Nat.not_lt_zero _)⟩
  · simp [Value.cells] at hcs
    obtain ⟨rfl, rfl, rfl⟩ := hcs
    simp only [if_true] at hmm
    refine ⟨_, n, c, rfl, hl, hm, fun i hin => ?_⟩
    obtain ⟨cs, hcs, htr⟩ := hi i (by omega)
    rw [hsz] at hcs
    obtain ⟨_, hlen, hcell⟩ := World.cells?_some hcs
    obtain ⟨y0, y1, y2, n', _, _, e0, e1, e2⟩ := Deep.trod_struct3 hs htr
    obtain ⟨c0, c1, c2, rfl⟩ : ∃ c0 c1 c2, cs = [c0, c1, c2] := by
      match cs, hlen with
      | [c0, c1, c2], _ => exact ⟨c0, c1, c2, rfl⟩
    rw [o0, z0] at e0
    rw [o1, z1] at e1
    rw [o2, z2] at e2
    simp at e0 e1 e2
    obtain ⟨K, ek, _, _⟩ := DataW.trod_int h0 e0
    obtain ⟨T, et, _, _⟩ := DataW.trod_int h1 e1
    obtain ⟨A2, n2, c2', l2, ev, hl2, _, _, ha2, hz2, _⟩ := cell_nats wf_u8_bd h2 h3 z3 e2
    simp at ek et
    subst ek; subst et; subst ev; subst hl2
    have q0 := hcell 0 (by omega)
    have q1 := hcell 1 (by omega)
    have q2 := hcell 2 (by omega)
    obtain ⟨b, off, spot⟩ := ad
    have hspot : spot = none := by
      obtain ⟨cs', hcs', _⟩ := hi 0 (by omega)
      rw [hsz] at hcs'
      obtain ⟨_, hlen', hcell'⟩ := World.cells?_some hcs'
      have := hcell' 0 (by omega)
      rw [List.getElem?_eq_getElem (by omega)] at this
      simpa [Addr.add] using World.cell?_spot this
    subst hspot
    rw [addr_add, addr_add] at q0 q1 q2
    simp only [Nat.add_zero, List.getD_cons_zero, List.getD_cons_succ, List.getElem?_cons_zero, List.getElem?_cons_succ] at q0 q1 q2
    exact ⟨b, off, A2, c2', K, T, l2, rfl, q0, q1, q2, ha2, hz2, ha2.blk_lt, World.block_lt_of_cell? W _ q0⟩
end
theorem bruns_any (M : Int) (A1 : Option Addr) (n1 c1 : Nat) (w : World) (hn1 : n1 ≤ 9223372036854775807) (hacts : ∀ i, i < n1 → ActAt w A1 i) (hg : Glob w) :
    Calls Tryd.prog 3 #[.int .i64 M, .slice A1 n1 c1] w fun e w' => e = .returned (.bool true) ∧ Below w.heap.size w w' := by
  by_cases h : 1 ≤ M ∧ M ≤ 4096
  · exact bruns_in M A1 n1 c1 w h hn1 hacts hg
  · exact bruns_bad M _ w (by omega) hg
end Go.Proofs.YtaehlafaehpbjaaDoor
