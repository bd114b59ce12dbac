/- What comes in, opened: slices of bytes, arrays of two numbers. -/
import Derived.Test.YtodimanghmepoaaDoorBase
import Derived.ProofKit
import Derived.OpenShut
import Derived.ChangeOld
import Derived.SizedLaws
import Derived.Carry
import Derived.Lib.SmallJoins
namespace Go.Proofs.YtodimanghmepoaaDoor
open Go.RowKit Go.ChangeShapes Go.WideShapes Go.ChangeAt

variable {H : Type} {enc : TypeId × Value → H} {P : Program} {W : World}
/-- a slice of numbers of one of the unsigned kinds that came in -/
theorem open_nats {t e : TypeId} {k : IntKind} {m : Nat} (hk : ∀ n : Int, (Lit.int k n).wf = true → 0 ≤ n ∧ n < m) (ht : P.underlying t = some (.slice e)) (he : P.underlying e = some (.int k)) (hc : P.cellsOf e = 1)
    {v : Value} {d : DataW H} {p : List MemPlace} {r : Reach} {b0 : Nat} (hv : Value.okWide P W r b0 t v) (h : DataW.Trod enc P W 0 (fun _ => true) true t v d p) :
    ∃ A n c l, v = .slice A n c ∧ l.length = n ∧ n ≤ c ∧ c ≤ maxLen ∧ At W A (nats k l) ∧ (∀ i, l.getD i 0 < max m 1) ∧ (n = 0 ∨ ∃ es sp, d = .slice es sp ∧ es.length + sp.length = c) := by
  obtain ⟨A, n, c, rfl⟩ := okWide_slice ht hv
  obtain ⟨fuel, hf⟩ := h
  rcases open_ints ht he hc hf with ⟨hcs, _⟩ | ⟨a, len, cap, zs, hcs, _, hl, hm, hz, hx, hcell, hwz⟩
  · simp [Value.cells] at hcs
    obtain ⟨rfl, rfl, rfl⟩ := hcs
    exact ⟨none, 0, 0, [], rfl, rfl, Nat.le_refl _, by unfold maxLen; omega, by simp [nats]; exact At.nil _ _, by simp; omega, .inl rfl⟩
  · simp [Value.cells] at hcs
    obtain ⟨rfl, rfl, rfl⟩ := hcs
    simp only [if_true] at hz
    simp only [Prod.mk.injEq] at hx
    obtain ⟨rfl, _⟩ := hx
    have hlen : ((zs.take n).map Int.toNat).length = n := by simp; omega
    refine ⟨_, n, c, (zs.take n).map Int.toNat, rfl, hlen, hl, hm, ?_, ?_, ?_⟩
    · intro i x hx
      have hi : i < n := by
        rcases Nat.lt_or_ge i n with h | h
        · exact h
        · rw [List.getElem?_eq_none (by rw [nats_length, hlen]; exact h)] at hx; cases hx
      have hiz : i < zs.length := by omega
      have hx' : x = .int k (zs[i]) := by
        have hb := hk _ (hwz zs[i] (List.getElem_mem hiz))
        simp [nats, List.getElem?_take, hi, List.getElem?_eq_getElem hiz] at hx
        rw [← hx]; congr 1; omega
      have h1 := hcell i hiz
      obtain ⟨b, off, spot⟩ := a
      have hspot : spot = none := by simpa [Addr.add] using World.cell?_spot (hcell 0 (by omega))
      subst hspot
      rw [addr_add] at h1
      refine ⟨b, off, rfl, ?_⟩
      rw [h1, hx']
      simp [List.getD_eq_getElem?_getD, List.getElem?_eq_getElem hiz]
    · intro i
      by_cases hi : i < n
      · have hiz : i < zs.length := by omega
        have hb := hk _ (hwz zs[i] (List.getElem_mem hiz))
        simp [List.getD_eq_getElem?_getD, List.getElem?_take, hi, List.getElem?_eq_getElem hiz]
        omega
      · rw [List.getD_eq_getElem?_getD, List.getElem?_eq_none (by rw [hlen]; omega)]; simp; omega
    · by_cases h0 : n = 0
      · exact .inl h0
      · exact .inr ⟨_, _, rfl, by simp [lits]; omega⟩
theorem At.none_len {w : World} {A : Option Addr} {k : IntKind} {l : List Nat} (h : At w A (nats k l)) (e : A = none) : l.length = 0 := by
  rcases Nat.eq_zero_or_pos l.length with h0 | h0
  · exact h0
  · obtain ⟨b, o, e2, _⟩ := h.nat 0 h0
    rw [e] at e2; cases e2
theorem wf_u8_bd (n : Int) (h : (Lit.int .u8 n).wf = true) : 0 ≤ n ∧ n < (256 : Nat) := by
  simp [Lit.wf, IntKind.min, IntKind.max, IntKind.signed, IntKind.bits] at h; omega
theorem wf_u32_bd (n : Int) (h : (Lit.int .u32 n).wf = true) : 0 ≤ n ∧ n < (4294967296 : Nat) := by
  simp [Lit.wf, IntKind.min, IntKind.max, IntKind.signed, IntKind.bits] at h; omega
theorem wf_u16_bd (n : Int) (h : (Lit.int .u16 n).wf = true) : 0 ≤ n ∧ n < (65536 : Nat) := by
  simp [Lit.wf, IntKind.min, IntKind.max, IntKind.signed, IntKind.bits] at h; omega
theorem wf_u64_bd (n : Int) (h : (Lit.int .u64 n).wf = true) : 0 ≤ n ∧ n < (18446744073709551616 : Nat) := by
  simp [Lit.wf, IntKind.min, IntKind.max, IntKind.signed, IntKind.bits] at h; omega
/-- an array of two numbers by value -/
theorem open_pair {t e : TypeId} {k : IntKind} (ht : P.underlying t = some (.array 2 e)) (he : P.underlying e = some (.int k)) (hc : P.cellsOf e = 1) (hct : P.cellsOf t = 2)
    {v : Value} {d : DataW H} {p : List MemPlace} {r : Reach} {b0 : Nat} (hv : Value.okWide P W r b0 t v) (h : DataW.Trod enc P W 0 (fun _ => true) true t v d p) :
    ∃ x y : Int, v = .agg #[.int k x, .int k y] ∧ (Lit.int k x).wf = true ∧ (Lit.int k y).wf = true := by
  obtain ⟨fuel, hf⟩ := h
  obtain ⟨xs, m, rfl, hx, hlen, hxs, hi⟩ := DataW.trod_array ht hf
  simp only [Value.okWide, ht] at hv
  obtain ⟨cs, rfl, hsz, _⟩ := hv
  obtain ⟨c0, c1, rfl⟩ := Joins.array2 (hsz.trans hct)
  have h0 := hi 0 (by omega)
  have h1 := hi 1 (by omega)
  obtain ⟨x0, h0x⟩ : ∃ x0, xs[0]? = some x0 := ⟨xs[0], by simp [hxs]⟩
  obtain ⟨x1, h1x⟩ : ∃ x1, xs[1]? = some x1 := ⟨xs[1], by simp [hxs]⟩
  rw [h0x] at h0
  rw [h1x] at h1
  simp [Value.cells, hc] at h0 h1
  obtain ⟨x, ex, _, wx⟩ := DataW.trod_int he h0
  obtain ⟨y, ey, _, wy⟩ := DataW.trod_int he h1
  simp at ex ey
  subst ex; subst ey
  exact ⟨x, y, rfl, wx, wy⟩
end Go.Proofs.YtodimanghmepoaaDoor
