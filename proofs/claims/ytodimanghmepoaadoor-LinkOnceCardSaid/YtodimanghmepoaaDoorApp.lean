/- Appends in place, clear: laws of no program. -/
import Derived.Test.YtodimanghmepoaaDoorBase
import Derived.Lib.SliceRun
import Derived.Laws.OwnMore
import Derived.Deep.RegionLaw
namespace Go.Proofs.YtodimanghmepoaaDoor
open Go.RowKit

theorem At.lit (w : World) (cs : Array Value) (e : TypeId) (m : Nat × Nat) (b : Nat) (hb : w.heap.size = b) : At (w.alloc (.cells cs e m)) (some ⟨b, 0, none⟩) cs.toList := by
  subst hb
  intro i x hx
  refine ⟨_, _, rfl, ?_⟩
  rw [Nat.zero_add, World.cell?_alloc_mark]
  simpa using hx
theorem Own.zero {w : World} {base : Nat} {e : TypeId} {size g : Nat} {n c : Nat} {xs : List Value} (h : Own w base e size (some ⟨g, 0, none⟩) n c xs) : Own w base e size (some ⟨g, 0, none⟩) 0 c [] := by
  rcases h.2 with ⟨h0, _⟩ | ⟨g', cap, cur, hv, hb, hh, hn, hm, hc, _⟩
  · cases h0
  · cases hv
    exact ⟨by simp, .inr ⟨g, c, cur, rfl, hb, hh, Nat.zero_le _, hm, hc, by simp⟩⟩
theorem Own.spare {w : World} {base : Nat} {e : TypeId} {g : Nat} {n c : Nat} {xs : List Value} (h : Own w base e 1 (some ⟨g, 0, none⟩) n c xs) (i : Nat) (hi : i < c) : (w.cell? ⟨g, i, none⟩).isSome = true ∧ w.frozen? ⟨g, i, none⟩ = false := by
  rcases h.2 with ⟨h0, _⟩ | ⟨g', cap, cur, hv, hb, hh, hn, hm, hc, _⟩
  · cases h0
  · cases hv
    simp only [World.cell?, World.frozen?, hh]
    simp
    omega
theorem Own.set_past {w : World} {base : Nat} {e : TypeId} {g : Nat} {n c : Nat} {xs : List Value} (h : Own w base e 1 (some ⟨g, 0, none⟩) n c xs) (i : Nat) (hi : n ≤ i) (u : Value) : Own (w.setCell ⟨g, i, none⟩ u) base e 1 (some ⟨g, 0, none⟩) n c xs := by
  refine ⟨h.1, ?_⟩
  rcases h.2 with ⟨h0, _⟩ | ⟨g', cap, cur, hv, hb, hh, hn, hm, hc, ht⟩
  · cases h0
  · cases hv
    refine .inr ⟨g, c, cur.setIfInBounds i u, rfl, hb, ?_, hn, hm, by simpa using hc, ?_⟩
    · simp [World.setCell, Array.getElem?_modify, hh]
    · rw [← ht]
      simp only [Array.toList_setIfInBounds, List.take_set, Nat.mul_one]
      exact List.set_eq_of_length_le (by simp; omega)
section
variable {P : Program} {w : World} {ops : Array Oper} {rest : List Oper} {o : Oper} {a : Act} {K : Act → World → Prop} {Q : Exit → Act → World → Prop} {E0 : Prop}
/-- append in place, at a step of a region that draws -/
theorem step_fits' (hgd : o.guard = none) {t e : TypeId} {z : Value} {size bytes : Nat} (E : Elt P t e z size bytes) (base : Nat) (s x : Operand)
    (ho : o.op = .call { callee := .builtin .append, args := #[s, x], argTypes := #[t, t] })
    {g n c : Nat} (xs : List Value) (hs : a.eval s = .slice (some ⟨g, 0, none⟩) n c) (hown : Own w base e size (some ⟨g, 0, none⟩) n c xs)
    {ad : Addr} {m c2 : Nat} (news : List Value) (hx : a.eval x = .slice (some ad) m c2) (hnews : At w (some ad) news) (hl : news.length = m * size) (h1 : ∀ u ∈ news, u.oneCell' = true)
    (hroom : n + m ≤ c)
    (h : ∀ w', Own w' base e size (some ⟨g, 0, none⟩) (n + m) c (xs ++ news) → w.grownBy w' (some g) → K (a.put o.dst (.slice (some ⟨g, 0, none⟩) (n + m) c)) w') :
    if Region.wanted o (yielded ops a.tmps) = true then Oper.wp P o a w K Q else E0 := by
  have hw : Region.wanted o (yielded ops a.tmps) = true := by simp [Region.wanted, hgd]
  rw [if_pos hw]
  obtain ⟨i, hi, hz, hsize, hby⟩ := E.hi
  obtain ⟨w', hr, h2, h3⟩ := run_append_fits (P := P) w base t o.type e i size E.ht hi hsize g n c xs hown ad m c2 news hl
    (fun j u hu => by obtain ⟨b', o', e', hc⟩ := hnews j u hu; injection e' with e'; subst e'; rw [addr_add]; exact hc) h1 hroom
  unfold Oper.wp execOp
  simp only [ho, resolve, invoke, builtin, Sem.run_bind, Sem.run_pure, Result.andThen_ok, List.map_toArray, List.map_cons, List.map_nil, hs, hx, hr]
  exact h w' h2 h3
/-- append, at a step of a region that draws -/
theorem step_app (hgd : o.guard = none) {t e : TypeId} {z : Value} {size bytes : Nat} (E : Elt P t e z size bytes) (base : Nat) (s x : Operand)
    (ho : o.op = .call { callee := .builtin .append, args := #[s, x], argTypes := #[t, t] })
    {A : Option Addr} {n c : Nat} (xs : List Value) (hs : a.eval s = .slice A n c) (hown : Own w base e size A n c xs)
    {A2 : Option Addr} {m c2 : Nat} (news : List Value) (hx : a.eval x = .slice A2 m c2) (hnews : At w A2 news) (hl : news.length = m * size) (h1 : ∀ u ∈ news, u.oneCell' = true)
    (h63 : n + m ≤ maxLen) (hbytes : (n + m) * bytes ≤ 140737488355328) (hbase : base ≤ w.heap.size)
    (h : ∀ A' c' w', Own w' base e size A' (n + m) c' (xs ++ news) → w.grownBy w' (blk A) → (blk A' = blk A ∨ blk A' = some w.heap.size) → K (a.put o.dst (.slice A' (n + m) c')) w') :
    if Region.wanted o (yielded ops a.tmps) = true then Oper.wp P o a w K Q else E0 := by
  have hw : Region.wanted o (yielded ops a.tmps) = true := by simp [Region.wanted, hgd]
  rw [if_pos hw]
  exact wp_app E base s x ho xs hs hown news hx hnews hl h1 h63 hbytes hbase h
/-- clear of a slice of one element, in a region without draws -/
theorem wpList_clear1 (hgd : Region.wanted o (yielded ops a.tmps) = true) {t e : TypeId} {z : Value} (ht : P.underlying t = some (.slice e)) (hv : ∀ w, (zeroValue e).run P w = .ok z w) (hz : z.cells = #[z]) (hz1 : z.oneCell' = true) (s : Operand)
    (ho : o.op = .call { callee := .builtin .clear, args := #[s], argTypes := #[t] })
    {b off c : Nat} (hs : a.eval s = .slice (some ⟨b, off, none⟩) 1 c) (hc : (w.cell? ⟨b, off, none⟩).isSome = true) (hf : w.frozen? ⟨b, off, none⟩ = false)
    (h : wpList P ops Q rest (a.put o.dst (.tuple #[])) (w.setCell ⟨b, off, none⟩ z)) : wpList P ops Q (o :: rest) a w :=
  wpList_step fun _ hK => by
    rw [if_pos hgd]
    have hc' : ∀ j, j < 1 → (w.cell? ⟨b, off + j, none⟩).isSome = true := by
      intro j hj
      obtain rfl : j = 0 := by omega
      exact hc
    have hf' : ∀ j, j < 1 → w.frozen? ⟨b, off + j, none⟩ = false := by
      intro j hj
      obtain rfl : j = 0 := by omega
      exact hf
    have hr := Lib.run_clear_slice (P := P) w t e o.type z ht hv hz hz1 b off 1 c (by omega) hc' hf'
    unfold Oper.wp execOp
    simp only [ho, resolve, invoke, builtin, Sem.run_bind, Sem.run_pure, Result.andThen_ok, List.map_toArray, List.map_cons, List.map_nil, hs, hr]
    exact hK _ _ h
end
end Go.Proofs.YtodimanghmepoaaDoor
