/- What comes in, opened: acts of layer 19, three numbers by value. -/
import Derived.Test.YtodimanghmepoaaDoorOpen
import Derived.Test.YtodimanghmepoaaDoorLtG
import Derived.Deep.Slices
import Derived.Deep.Strs
namespace Go.Proofs.YtodimanghmepoaaDoor
open Go.RowKit Go.ChangeShapes Go.WideShapes Go.ChangeAt
section
variable {H : Type} {enc : TypeId × Value → H} {P : Program} {W : World}
theorem cell_nats8 {t e : TypeId} {k : IntKind} {m : Nat} (hk : ∀ n : Int, (Lit.int k n).wf = true → 0 ≤ n ∧ n < m) (ht : P.underlying t = some (.slice e)) (he : P.underlying e = some (.int k)) (hc : P.cellsOf e = 1)
    {fuel : Nat} {v : Value} {x : DataW H × List MemPlace} (h : DataW.trod enc P W 0 (fun _ => true) true fuel t [v] = some x) :
    ∃ A n c l, v = .slice A n c ∧ l.length = n ∧ n ≤ c ∧ c ≤ maxLen ∧ At W A (nats k l) ∧ (A = none → n = 0) ∧ (∀ i, l.getD i 0 < max m 1) := by
  rcases open_ints ht he hc h with ⟨hcs, _⟩ | ⟨a, len, cap, zs, hcs, _, hl, hm, hz, hx, hcell, hwz⟩
  · simp at hcs
    subst hcs
    exact ⟨none, 0, 0, [], rfl, rfl, Nat.le_refl _, by unfold maxLen; omega, by simp [nats]; exact At.nil _ _, fun _ => rfl, by simp; omega⟩
  · simp at hcs
    subst hcs
    simp only [if_true] at hz
    have hlen : ((zs.take len).map Int.toNat).length = len := by simp; omega
    refine ⟨_, len, cap, (zs.take len).map Int.toNat, rfl, hlen, hl, hm, ?_, by simp, ?_⟩
    · intro i x hx
      have hi : i < len := by
        rcases Nat.lt_or_ge i len with h | h
        · exact h
        · rw [List.getElem?_eq_none (by rw [nats_length, hlen]; exact h)] at hx; cases hx
      have hiz : i < zs.length := by omega
      have hx' : x = .int k (zs[i]) := by
        have hb := hk _ (hwz zs[i] (List.getElem_mem hiz))
        simp [nats, List.getElem?_take, hi, List.getElem?_eq_getElem hiz] at hx
        rw [← hx]; congr 1; omega
      have h1 := hcell i hiz
      obtain ⟨b, off, spot⟩ := a
      have hspot : spot = none := by simpa [Addr.add] using World.cell?_spot (hcell 0 (by omega))
      subst hspot
      rw [addr_add] at h1
      refine ⟨b, off, rfl, ?_⟩
      rw [h1, hx']
      simp [List.getD_eq_getElem?_getD, List.getElem?_eq_getElem hiz]
    · intro i
      by_cases hi : i < len
      · have hiz : i < zs.length := by omega
        have hb := hk _ (hwz zs[i] (List.getElem_mem hiz))
        simp [List.getD_eq_getElem?_getD, List.getElem?_take, hi, List.getElem?_eq_getElem hiz]
        omega
      · rw [List.getD_eq_getElem?_getD, List.getElem?_eq_none (by rw [hlen]; omega)]; simp; omega
/-- a slice of slices of numbers that came in -/
theorem open_three {t e : TypeId} {k : IntKind} (ht : P.underlying t = some (.array 3 e)) (he : P.underlying e = some (.int k)) (hc : P.cellsOf e = 1) (hct : P.cellsOf t = 3)
    {v : Value} {d : DataW H} {p : List MemPlace} {r : Reach} {b0 : Nat} (hv : Value.okWide P W r b0 t v) (h : DataW.Trod enc P W 0 (fun _ => true) true t v d p) :
    ∃ x y z : Int, v = .agg #[.int k x, .int k y, .int k z] := by
  obtain ⟨fuel, hf⟩ := h
  obtain ⟨xs, m, rfl, hx, hlen, hxs, hi⟩ := DataW.trod_array ht hf
  simp only [Value.okWide, ht] at hv
  obtain ⟨cs, rfl, hsz, _⟩ := hv
  obtain ⟨c0, c1, c2, rfl⟩ : ∃ c0 c1 c2, cs = #[c0, c1, c2] := by
    obtain ⟨l⟩ := cs
    have h3 : l.length = 3 := by simpa using hsz.trans hct
    match l, h3 with
    | [c0, c1, c2], _ => exact ⟨c0, c1, c2, rfl⟩
  have h0 := hi 0 (by omega)
  have h1 := hi 1 (by omega)
  have h2 := hi 2 (by omega)
  obtain ⟨x0, h0x⟩ : ∃ x0, xs[0]? = some x0 := ⟨xs[0], by simp [hxs]⟩
  obtain ⟨x1, h1x⟩ : ∃ x1, xs[1]? = some x1 := ⟨xs[1], by simp [hxs]⟩
  obtain ⟨x2, h2x⟩ : ∃ x2, xs[2]? = some x2 := ⟨xs[2], by simp [hxs]⟩
  rw [h0x] at h0
  rw [h1x] at h1
  rw [h2x] at h2
  simp [Value.cells, hc] at h0 h1 h2
  obtain ⟨x, ex, _, wx⟩ := DataW.trod_int he h0
  obtain ⟨y, ey, _, wy⟩ := DataW.trod_int he h1
  obtain ⟨z, ez, _, wz⟩ := DataW.trod_int he h2
  simp at ex ey ez
  subst ex; subst ey; subst ez
  exact ⟨x, y, z, rfl⟩
/-- acts that come in -/
theorem open_act8 {t s u : TypeId} {f0 f1 f2 g0 g1 g2 g3 g4 g5 : Field} (ht : P.underlying t = some (.slice s)) (hs : P.underlying s = some (.struct #[f0, f1, f2])) (hsz : P.cellsOf s = 8)
    (o0 : f0.offset = 0) (o1 : f1.offset = 1) (o2 : f2.offset = 2) (h0 : P.underlying f0.type = some (.int .i64)) (h1 : P.underlying f1.type = some (.slice u)) (hu : P.underlying u = some (.int .u8))
    (z0 : P.cellsOf f0.type = 1) (z1 : P.cellsOf f1.type = 1) (z2 : P.cellsOf f2.type = 6) (zu : P.cellsOf u = 1)
    (hp : P.underlying f2.type = some (.struct #[g0, g1, g2, g3, g4, g5]))
    (p0 : g0.offset = 0) (p1 : g1.offset = 1) (p2 : g2.offset = 2) (p3 : g3.offset = 3) (p4 : g4.offset = 4) (p5 : g5.offset = 5)
    (k0 : P.underlying g0.type = some (.int .i64)) (k1 : P.underlying g1.type = some (.int .i64)) (k2 : P.underlying g2.type = some .bool) (k3 : P.underlying g3.type = some (.int .i64)) (k4 : P.underlying g4.type = some (.int .i64)) (k5 : P.underlying g5.type = some (.slice u))
    (y0 : P.cellsOf g0.type = 1) (y1 : P.cellsOf g1.type = 1) (y2 : P.cellsOf g2.type = 1) (y3 : P.cellsOf g3.type = 1) (y4 : P.cellsOf g4.type = 1) (y5 : P.cellsOf g5.type = 1)
    {v : Value} {d : DataW H} {p : List MemPlace} {r : Reach} {b0 : Nat} (hv : Value.okWide P W r b0 t v) (h : DataW.Trod enc P W 0 (fun _ => true) true t v d p) :
    ∃ A n c, v = .slice A n c ∧ n ≤ c ∧ c ≤ maxLen ∧ ∀ i, i < n → ActL W A i := by
  obtain ⟨A, n, c, rfl⟩ := okWide_slice ht hv
  obtain ⟨fuel, hf⟩ := h
  rcases Deep.open_slice ht hf with ⟨hcs, _⟩ | ⟨ad, len, cap, m, fu, D, Pl, hcs, _, hl, hm, hmm, _, hi⟩
  · simp [Value.cells] at hcs
    obtain ⟨rfl, rfl, rfl⟩ := hcs
    exact ⟨none, 0, 0, rfl, Nat.le_refl _, by unfold maxLen; omega, fun i h => absurd h (Nat.not_lt_zero _)⟩
  · simp [Value.cells] at hcs
    obtain ⟨rfl, rfl, rfl⟩ := hcs
    simp only [if_true] at hmm
    refine ⟨_, n, c, rfl, hl, hm, fun i hin => ?_⟩
    obtain ⟨cs, hcs, htr⟩ := hi i (by omega)
    rw [hsz] at hcs
    obtain ⟨_, hlen, hcell⟩ := World.cells?_some hcs
    obtain ⟨xs, n', _, _, _, hxl, hxf⟩ := DataW.trod_struct hs htr
    obtain ⟨a0, a1, a2, rfl⟩ : ∃ a0 a1 a2, xs = [a0, a1, a2] := by
      match xs, hxl with
      | [a0, a1, a2], _ => exact ⟨a0, a1, a2, rfl⟩
    have e0 := hxf 0 f0 rfl
    have e1 := hxf 1 f1 rfl
    have e2 := hxf 2 f2 rfl
    obtain ⟨c0, c1, c2, c3, c4, c5, c6, c7, rfl⟩ : ∃ c0 c1 c2 c3 c4 c5 c6 c7, cs = [c0, c1, c2, c3, c4, c5, c6, c7] := by
      match cs, hlen with
      | [c0, c1, c2, c3, c4, c5, c6, c7], _ => exact ⟨c0, c1, c2, c3, c4, c5, c6, c7, rfl⟩
    rw [o0, z0] at e0
    rw [o1, z1] at e1
    rw [o2, z2] at e2
    simp at e0 e1 e2
    obtain ⟨ys, n2, _, _, _, hyl, hyf⟩ := DataW.trod_struct hp e2
    obtain ⟨b0, b1, b2, b3, b4, b5, rfl⟩ : ∃ b0 b1 b2 b3 b4 b5, ys = [b0, b1, b2, b3, b4, b5] := by
      match ys, hyl with
      | [b0, b1, b2, b3, b4, b5], _ => exact ⟨b0, b1, b2, b3, b4, b5, rfl⟩
    have d0 := hyf 0 g0 rfl
    have d1 := hyf 1 g1 rfl
    have d2 := hyf 2 g2 rfl
    have d3 := hyf 3 g3 rfl
    have d4 := hyf 4 g4 rfl
    have d5 := hyf 5 g5 rfl
    rw [p0, y0] at d0
    rw [p1, y1] at d1
    rw [p2, y2] at d2
    rw [p3, y3] at d3
    rw [p4, y4] at d4
    rw [p5, y5] at d5
    simp at d0 d1 d2 d3 d4 d5
    obtain ⟨K, eK, _, _⟩ := DataW.trod_int h0 e0
    obtain ⟨A2, n2', c2', l2, ev2, hl2, hn2, hm2, ha2, hz2, hb2⟩ := cell_nats8 wf_u8_bd h1 hu zu e1
    obtain ⟨fr, ef, _, _⟩ := DataW.trod_int k0 d0
    obtain ⟨dt, ed, _, _⟩ := DataW.trod_int k1 d1
    obtain ⟨kk, ek, _⟩ := DataW.trod_bool k2 d2
    obtain ⟨ep, ee, _, _⟩ := DataW.trod_int k3 d3
    obtain ⟨sq, es, _, _⟩ := DataW.trod_int k4 d4
    obtain ⟨A3, n3', c3', l3, ev3, hl3, hn3, hm3, ha3, hz3, hb3⟩ := cell_nats8 wf_u8_bd k5 hu zu d5
    simp at eK ef ed ek ee es
    subst eK; subst ef; subst ed; subst ek; subst ee; subst es; subst ev2; subst hl2; subst ev3; subst hl3
    have q0 := hcell 0 (by omega)
    have q1 := hcell 1 (by omega)
    have q2 := hcell 2 (by omega)
    have q3 := hcell 3 (by omega)
    have q4 := hcell 4 (by omega)
    have q5 := hcell 5 (by omega)
    have q6 := hcell 6 (by omega)
    have q7 := hcell 7 (by omega)
    obtain ⟨b, off, spot⟩ := ad
    have hspot : spot = none := by
      obtain ⟨cs', hcs', _⟩ := hi 0 (by omega)
      rw [hsz] at hcs'
      obtain ⟨_, hlen', hcell'⟩ := World.cells?_some hcs'
      have := hcell' 0 (by omega)
      rw [List.getElem?_eq_getElem (by omega)] at this
      simpa [Addr.add] using World.cell?_spot this
    subst hspot
    rw [addr_add, addr_add] at q0 q1 q2 q3 q4 q5 q6 q7
    simp only [Nat.add_zero, List.getD_cons_zero, List.getD_cons_succ, List.getElem?_cons_zero, List.getElem?_cons_succ] at q0 q1 q2 q3 q4 q5 q6 q7
    exact ⟨b, off, K, fr, dt, kk, ep, sq, A2, c2', l2, A3, c3', l3, rfl, q0, q1, q2, q3, q4, q5, q6, q7, ha2, hz2, ⟨hn2, hm2⟩, all_of_getD (fun j => by simpa using hb2 j), ha3, all_of_getD (fun j => by simpa using hb3 j)⟩
end
end Go.Proofs.YtodimanghmepoaaDoor
