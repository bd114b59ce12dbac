/- Arrays of unsigned numbers by value that come in. -/
import Derived.Test.YtnofckhljoghpaaDoorOpen
import Derived.Deep.Slices
namespace Go.Proofs.YtnofckhljoghpaaDoor
open Go.RowKit Go.ChangeShapes Go.WideShapes Go.ChangeAt

variable {H : Type} {enc : TypeId × Value → H} {P : Program} {W : World}
def natOf : Option Value → Nat
  | some (.int _ z) => z.toNat
  | _ => 0
/-- an array of numbers by value -/
theorem open_arr {t e : TypeId} {n : Nat} {k : IntKind} {m : Nat} (hk : ∀ n : Int, (Lit.int k n).wf = true → 0 ≤ n ∧ n < m) (ht : P.underlying t = some (.array n e)) (he : P.underlying e = some (.int k)) (hc : P.cellsOf e = 1) (hct : P.cellsOf t = n)
    {v : Value} {d : DataW H} {p : List MemPlace} {r : Reach} {b0 : Nat} (hv : Value.okWide P W r b0 t v) (h : DataW.Trod enc P W 0 (fun _ => true) true t v d p) :
    ∃ l : List Nat, v = .agg (nats k l).toArray ∧ l.length = n ∧ ∀ x ∈ l, x < m := by
  obtain ⟨fuel, hf⟩ := h
  obtain ⟨xs, fu, rfl, hx, hlen, hxs, hi⟩ := DataW.trod_array ht hf
  simp only [Value.okWide, ht] at hv
  obtain ⟨cs, rfl, hsz, _⟩ := hv
  rw [hct] at hsz
  have key : ∀ i, i < n → ∃ y : Nat, cs[i]? = some (.int k (y : Int)) ∧ y < m := by
    intro i hin
    obtain ⟨x, hxi⟩ : ∃ x, xs[i]? = some x := ⟨xs[i], by simp [hxs, hin]⟩
    have h0 := hi i hin
    rw [hxi] at h0
    simp only [Value.cells, hc, Nat.mul_one] at h0
    have hcs : (cs.toList.drop i).take 1 = [cs[i]] := by
      rw [List.drop_eq_getElem_cons (by simpa using (by omega : i < cs.size))]
      simp
    rw [hcs] at h0
    obtain ⟨z, ez, _, wz⟩ := DataW.trod_int he h0
    have hb := hk _ wz
    obtain ⟨y, rfl⟩ := Int.eq_ofNat_of_zero_le hb.1
    refine ⟨y, ?_, by omega⟩
    simp at ez
    simp [ez, hsz, hin]
  refine ⟨(List.range n).map fun i => natOf cs[i]?, ?_, by simp, ?_⟩
  · congr 1
    apply Array.ext
    · simp [nats, hsz]
    · intro i h1 h2
      obtain ⟨y, hy, _⟩ := key i (by omega)
      have h3 : cs[i] = .int k (y : Int) := by
        rw [Array.getElem?_eq_getElem h1] at hy; injection hy
      simp [nats, natOf, hy, h3]
  · intro x hx
    obtain ⟨i, hi', rfl⟩ := List.mem_map.1 hx
    obtain ⟨y, hy, hlt⟩ := key i (List.mem_range.1 hi')
    simp [natOf, hy]; exact hlt
/-- the cells of an array of numbers -/
theorem arr_cells {a e : TypeId} {q : Nat} {k : IntKind} {m : Nat} (hk : ∀ n : Int, (Lit.int k n).wf = true → 0 ≤ n ∧ n < m) (ha : P.underlying a = some (.array q e)) (he : P.underlying e = some (.int k)) (hc : P.cellsOf e = 1)
    {fuel : Nat} {cs : List Value} {x : DataW H × List MemPlace} (hlen : cs.length = q) (h : DataW.trod enc P W 0 (fun _ => true) true fuel a cs = some x) : ∃ l : List Nat, cs = nats k l ∧ l.length = q ∧ ∀ y ∈ l, y < m := by
  obtain ⟨xs, fu, _, _, _, hxs, hi⟩ := DataW.trod_array ha h
  have key : ∀ i, i < q → ∃ y : Nat, cs[i]? = some (.int k (y : Int)) ∧ y < m := by
    intro i hin
    obtain ⟨x, hxi⟩ : ∃ x, xs[i]? = some x := ⟨xs[i], by simp [hxs, hin]⟩
    have h0 := hi i hin
    rw [hxi] at h0
    simp only [hc, Nat.mul_one] at h0
    have hcs : (cs.drop i).take 1 = [cs[i]'(by omega)] := by
      rw [List.drop_eq_getElem_cons (by omega)]
      rfl
    rw [hcs] at h0
    obtain ⟨z, ez, _, wz⟩ := DataW.trod_int he h0
    have hb := hk _ wz
    obtain ⟨y, rfl⟩ := Int.eq_ofNat_of_zero_le hb.1
    refine ⟨y, ?_, by omega⟩
    simp at ez
    simp [ez, hlen, hin]
  refine ⟨(List.range q).map fun i => natOf cs[i]?, ?_, by simp, ?_⟩
  · apply List.ext_getElem
    · simp [nats, hlen]
    · intro i h1 h2
      obtain ⟨y, hy, _⟩ := key i (by omega)
      have h3 : cs[i] = .int k (y : Int) := by
        rw [List.getElem?_eq_getElem h1] at hy; injection hy
      simp [nats, natOf, hy, h3]
  · intro x hx
    obtain ⟨i, hi', rfl⟩ := List.mem_map.1 hx
    obtain ⟨y, hy, hlt⟩ := key i (List.mem_range.1 hi')
    simp [natOf, hy]; exact hlt
theorem flat_get : ∀ (l : List (List Nat)) (q j : Nat), 0 < q → (∀ r ∈ l, r.length = q) → j < l.length * q → l.flatten[j]? = some ((l.getD (j / q) []).getD (j % q) 0)
  | [], q, j, _, _, h => by simp at h
  | r :: l, q, j, hq, hl, h => by
    have hr : r.length = q := hl r (by simp)
    rw [List.flatten_cons]
    rcases Nat.lt_or_ge j q with h1 | h1
    · rw [List.getElem?_append_left (by omega), Nat.div_eq_of_lt h1, Nat.mod_eq_of_lt h1]
      simp [List.getD_eq_getElem?_getD, List.getElem?_eq_getElem (show j < r.length by omega)]
    · have h2 : j - q < l.length * q := by
        rw [List.length_cons, Nat.add_mul, Nat.one_mul] at h; omega
      rw [List.getElem?_append_right (by omega), hr, flat_get l q (j - q) hq (fun x hx => hl x (by simp [hx])) h2]
      have e1 : j / q = (j - q) / q + 1 := by rw [← Nat.add_div_right _ hq]; congr 1; omega
      have e2 : j % q = (j - q) % q := by rw [← Nat.add_mod_right (j - q)]; congr 1; omega
      rw [e1, e2, List.getD_cons_succ]
theorem flat_len : ∀ (l : List (List Nat)) (q : Nat), (∀ r ∈ l, r.length = q) → l.flatten.length = l.length * q
  | [], q, _ => by simp
  | r :: l, q, hl => by
    rw [List.flatten_cons, List.length_append, hl r (by simp), flat_len l q (fun x hx => hl x (by simp [hx])), List.length_cons, Nat.add_mul]; omega
/-- a slice of arrays of numbers that came in -/
theorem open_arrs {t a e : TypeId} {q : Nat} {k : IntKind} {m : Nat} (hq : 0 < q) (hk : ∀ n : Int, (Lit.int k n).wf = true → 0 ≤ n ∧ n < m) (ht : P.underlying t = some (.slice a)) (ha : P.underlying a = some (.array q e)) (he : P.underlying e = some (.int k)) (hc : P.cellsOf e = 1) (hca : P.cellsOf a = q)
    {v : Value} {d : DataW H} {p : List MemPlace} {r : Reach} {b0 : Nat} (hv : Value.okWide P W r b0 t v) (h : DataW.Trod enc P W 0 (fun _ => true) true t v d p) :
    ∃ (A : Option Addr) (n c : Nat) (l : List (List Nat)), v = .slice A n c ∧ l.length = n ∧ n ≤ c ∧ c ≤ maxLen ∧ At W A (nats k l.flatten) ∧ (∀ r ∈ l, r.length = q) ∧ (∀ r ∈ l, ∀ x ∈ r, x < m) := by
  obtain ⟨A, n, c, rfl⟩ := okWide_slice ht hv
  obtain ⟨fuel, hf⟩ := h
  rcases Deep.open_slice ht hf with ⟨hcs, _⟩ | ⟨ad, len, cap, m', fu, D, Pl, hcs, _, hl, hm, hmm, _, hi⟩
  · simp [Value.cells] at hcs
    obtain ⟨rfl, rfl, rfl⟩ := hcs
    exact ⟨none, 0, 0, [], rfl, rfl, Nat.le_refl _, by unfold maxLen; omega, by simp [nats]; exact At.nil _ _, by simp, by simp⟩
  · simp [Value.cells] at hcs
    obtain ⟨rfl, rfl, rfl⟩ := hcs
    simp only [if_true] at hmm
    have key : ∀ i, i < n → ∃ row : List Nat, row.length = q ∧ (∀ y ∈ row, y < m) ∧ ∀ j, j < q → W.cell? ((ad.add (i * q)).add j) = some (.int k ((row.getD j 0 : Nat) : Int)) := by
      intro i hin
      obtain ⟨cs, hcs, htr⟩ := hi i (by omega)
      rw [hca] at hcs
      obtain ⟨_, hlen, hcell⟩ := World.cells?_some hcs
      obtain ⟨row, rfl, h1, h2⟩ := arr_cells hk ha he hc hlen htr
      refine ⟨row, h1, h2, fun j hj => ?_⟩
      have := hcell j (by first | exact hj | (rw [nats_length, h1]; exact hj))
      rw [this]
      simp [nats, List.getD_eq_getElem?_getD, List.getElem?_eq_getElem (show j < row.length by omega)]
    obtain ⟨f, hf⟩ := Deep.choose_lt key
    obtain ⟨b, off, spot⟩ := ad
    refine ⟨_, n, c, (List.range n).map f, rfl, by simp, hl, hm, ?_, ?_, ?_⟩
    · intro j x hx
      have hgl : ∀ r ∈ (List.range n).map f, r.length = q := by
        intro r hr; obtain ⟨i, hi, rfl⟩ := List.mem_map.1 hr; exact (hf i (List.mem_range.1 hi)).1
      have hfl := flat_len _ q hgl
      have hj : j < n * q := by
        rcases Nat.lt_or_ge j (n * q) with h | h
        · exact h
        · rw [List.getElem?_eq_none (by rw [nats_length, hfl]; simpa using h)] at hx; cases hx
      have hn0 : 0 < n := by
        rcases Nat.eq_zero_or_pos n with h | h
        · subst h; omega
        · exact h
      have hspot : spot = none := by simpa [Addr.add] using World.cell?_spot ((hf 0 hn0).2.2 0 hq)
      subst hspot
      have hjq : j / q < n := Nat.div_lt_of_lt_mul (by rw [Nat.mul_comm]; exact hj)
      have hc1 := (hf (j / q) hjq).2.2 (j % q) (Nat.mod_lt _ hq)
      rw [addr_add, addr_add] at hc1
      have hv2 := flat_get ((List.range n).map f) q j hq hgl (by simpa using hj)
      have e : j / q * q + j % q = j := by rw [Nat.mul_comm]; exact Nat.div_add_mod j q
      rw [Nat.add_assoc, e] at hc1
      refine ⟨b, off, rfl, ?_⟩
      rw [hc1]
      simp only [nats, List.getElem?_map, hv2, Option.map_some] at hx
      rw [← hx]
      simp [List.getD_eq_getElem?_getD, hjq]
    · intro r hr; obtain ⟨i, hi, rfl⟩ := List.mem_map.1 hr; exact (hf i (List.mem_range.1 hi)).1
    · intro r hr; obtain ⟨i, hi, rfl⟩ := List.mem_map.1 hr; exact (hf i (List.mem_range.1 hi)).2.1
end Go.Proofs.YtnofckhljoghpaaDoor
