/- What comes in, opened: a packet of layer 14 by value. -/
import Derived.Test.YtlimabhojocimaaDoorOpen
import Derived.Deep.Slices
import Derived.Deep.Strs
namespace Go.Proofs.YtlimabhojocimaaDoor
open Go.RowKit Go.ChangeShapes Go.WideShapes Go.ChangeAt
section
variable {H : Type} {enc : TypeId × Value → H} {P : Program} {W : World}
/-- a slice of numbers that stands in a cell -/
theorem cell_nats2 {t e : TypeId} {k : IntKind} {m : Nat} (hk : ∀ n : Int, (Lit.int k n).wf = true → 0 ≤ n ∧ n < m) (ht : P.underlying t = some (.slice e)) (he : P.underlying e = some (.int k)) (hc : P.cellsOf e = 1)
    {fuel : Nat} {v : Value} {x : DataW H × List MemPlace} (h : DataW.trod enc P W 0 (fun _ => true) true fuel t [v] = some x) :
    ∃ A n c l, v = .slice A n c ∧ l.length = n ∧ n ≤ c ∧ c ≤ maxLen ∧ At W A (nats k l) ∧ (∀ i, l.getD i 0 < max m 1) ∧ (n = 0 ∨ ∃ es sp, x.1 = .slice es sp ∧ es.length + sp.length = c) := by
  rcases open_ints ht he hc h with ⟨hcs, _⟩ | ⟨a, len, cap, zs, hcs, _, hl, hm, hz, hx, hcell, hwz⟩
  · simp at hcs
    subst hcs
    exact ⟨none, 0, 0, [], rfl, rfl, Nat.le_refl _, by unfold maxLen; omega, by simp [nats]; exact At.nil _ _, by simp; omega, .inl rfl⟩
  · simp at hcs
    subst hcs
    simp only [if_true] at hz
    have hlen : ((zs.take len).map Int.toNat).length = len := by simp; omega
    refine ⟨_, len, cap, (zs.take len).map Int.toNat, rfl, hlen, hl, hm, ?_, ?_, ?_⟩
    · intro i x hx
      have hi : i < len := by
        rcases Nat.lt_or_ge i len with h | h
        · exact h
        · rw [List.getElem?_eq_none (by rw [nats_length, hlen]; exact h)] at hx; cases hx
      have hiz : i < zs.length := by omega
      have hx' : x = .int k (zs[i]) := by
        have hb := hk _ (hwz zs[i] (List.getElem_mem hiz))
        simp [nats, List.getElem?_take, hi, List.getElem?_eq_getElem hiz] at hx
        rw [← hx]; congr 1; omega
      have h1 := hcell i hiz
      obtain ⟨b, off, spot⟩ := a
      have hspot : spot = none := by simpa [Addr.add] using World.cell?_spot (hcell 0 (by omega))
      subst hspot
      rw [addr_add] at h1
      refine ⟨b, off, rfl, ?_⟩
      rw [h1, hx']
      simp [List.getD_eq_getElem?_getD, List.getElem?_eq_getElem hiz]
    · intro i
      by_cases hi : i < len
      · have hiz : i < zs.length := by omega
        have hb := hk _ (hwz zs[i] (List.getElem_mem hiz))
        simp [List.getD_eq_getElem?_getD, List.getElem?_take, hi, List.getElem?_eq_getElem hiz]
        omega
      · rw [List.getD_eq_getElem?_getD, List.getElem?_eq_none (by rw [hlen]; omega)]; simp; omega
    · by_cases h0 : len = 0
      · exact .inl h0
      · exact .inr ⟨_, _, by rw [hx], by simp [lits]; omega⟩
/-- a packet that comes in -/
theorem open_packet {t u b : TypeId} {f0 f1 f2 f3 f4 f5 : Field} (hs : P.underlying t = some (.struct #[f0, f1, f2, f3, f4, f5])) (hsz : P.cellsOf t = 6)
    (o0 : f0.offset = 0) (o1 : f1.offset = 1) (o2 : f2.offset = 2) (o3 : f3.offset = 3) (o4 : f4.offset = 4) (o5 : f5.offset = 5)
    (h0 : P.underlying f0.type = some (.int .i64)) (h1 : P.underlying f1.type = some (.int .i64)) (h2 : P.underlying f2.type = some .bool) (h3 : P.underlying f3.type = some (.int .i64)) (h4 : P.underlying f4.type = some (.int .i64))
    (h5 : P.underlying f5.type = some (.slice u)) (hu : P.underlying u = some (.int .u8))
    (z0 : P.cellsOf f0.type = 1) (z1 : P.cellsOf f1.type = 1) (z2 : P.cellsOf f2.type = 1) (z3 : P.cellsOf f3.type = 1) (z4 : P.cellsOf f4.type = 1) (z5 : P.cellsOf f5.type = 1) (zu : P.cellsOf u = 1)
    {v : Value} {dd : DataW H} {p : List MemPlace} {r : Reach} {b0 : Nat} (hv : Value.okWide P W r b0 t v) (h : DataW.Trod enc P W 0 (fun _ => true) true t v dd p) :
    ∃ (f d : Int) (k : Bool) (e s : Int) (A : Option Addr) (n c : Nat) (l : List Nat), v = .agg #[.int .i64 f, .int .i64 d, .bool k, .int .i64 e, .int .i64 s, .slice A n c] ∧ l.length = n ∧ n ≤ c ∧ c ≤ maxLen ∧ At W A (nats .u8 l) ∧ (∀ i, l.getD i 0 < 256) ∧
      (n = 0 ∨ ∃ (d0 d1 d2 d3 d4 : DataW H) (es sp : List (DataW H)), dd = .agg [d0, d1, d2, d3, d4, .slice es sp] ∧ es.length + sp.length = c) := by
  obtain ⟨fuel, hf⟩ := h
  obtain ⟨xs, m, _, hx, hlen0, hxs, hi⟩ := DataW.trod_struct hs hf
  simp only [Value.okWide, hs] at hv
  obtain ⟨cs, rfl, hcsz, _⟩ := hv
  have hcs6 : cs.size = 6 := by simpa [hsz, Value.cells] using hlen0
  obtain ⟨c0, c1, c2, c3, c4, c5, rfl⟩ : ∃ c0 c1 c2 c3 c4 c5, cs = #[c0, c1, c2, c3, c4, c5] := by
    obtain ⟨l⟩ := cs
    match l, hcs6 with
    | [c0, c1, c2, c3, c4, c5], _ => exact ⟨c0, c1, c2, c3, c4, c5, rfl⟩
  match xs, hxs with
  | [y0, y1, y2, y3, y4, y5], _ =>
    have e0 := hi 0 f0 rfl
    have e1 := hi 1 f1 rfl
    have e2 := hi 2 f2 rfl
    have e3 := hi 3 f3 rfl
    have e4 := hi 4 f4 rfl
    have e5 := hi 5 f5 rfl
    simp [Value.cells, o0, z0] at e0
    simp [Value.cells, o1, z1] at e1
    simp [Value.cells, o2, z2] at e2
    simp [Value.cells, o3, z3] at e3
    simp [Value.cells, o4, z4] at e4
    simp [Value.cells, o5, z5] at e5
    obtain ⟨f, ef, _, _⟩ := DataW.trod_int h0 e0
    obtain ⟨d, ed, _, _⟩ := DataW.trod_int h1 e1
    obtain ⟨k, ek, _⟩ := DataW.trod_bool h2 e2
    obtain ⟨e, ee, _, _⟩ := DataW.trod_int h3 e3
    obtain ⟨s, es, _, _⟩ := DataW.trod_int h4 e4
    obtain ⟨A, n, c, l, ev, hl, hnc, hcm, hat, hb, hd⟩ := cell_nats2 wf_u8_bd h5 hu zu e5
    simp at ef ed ek ee es
    subst ef; subst ed; subst ek; subst ee; subst es; subst ev
    simp only [Prod.mk.injEq] at hx
    obtain ⟨rfl, _⟩ := hx
    refine ⟨f, d, k, e, s, A, n, c, l, rfl, hl, hnc, hcm, hat, fun i => hb i, ?_⟩
    rcases hd with hd | ⟨es, sp, hd, hc⟩
    · exact .inl hd
    · exact .inr ⟨y0.1, y1.1, y2.1, y3.1, y4.1, es, sp, by simp [hd], hc⟩
/-- a packet's body fits into a machine -/
theorem sized_packet {t u b : TypeId} {f0 f1 f2 f3 f4 f5 : Field} (hs : P.underlying t = some (.struct #[f0, f1, f2, f3, f4, f5])) (h5 : P.underlying f5.type = some (.slice u)) (hby : P.bytesOf u = 1)
    {ts : List TypeId} {ds : List (DataW H)} (h : (DataW.weightsEach P ts ds).all (· ≤ reachBytes) = true) {j : Nat} (ht : ts[j]? = some t) {d0 d1 d2 d3 d4 : DataW H} {es sp : List (DataW H)} (hd : ds[j]? = some (.agg [d0, d1, d2, d3, d4, .slice es sp])) : es.length + sp.length ≤ reachBytes := by
  have hw : (DataW.weightsEach P [f0.type, f1.type, f2.type, f3.type, f4.type, f5.type] [d0, d1, d2, d3, d4, .slice es sp]).all (· ≤ reachBytes) = true := by
    rw [List.all_eq_true] at h ⊢
    intro n hn
    refine h n (DataW.weights_mem_each ht hd n ?_)
    simpa [DataW.weights, hs] using hn
  have := sized_slice hw (j := 5) (t := f5.type) (e := u) (elems := es) (spare := sp) rfl rfl h5
  rw [hby, Nat.mul_one] at this
  exact this
end
end Go.Proofs.YtlimabhojocimaaDoor
