/- Layer 23: plain law of QuorumStays; the acts that come in. -/
import Derived.Test.YtkpangeeldhjfaaDoorQuE
import Derived.Test.YtkpangeeldhjfaaDoorOpen
import Derived.ChangeSame
import Derived.Deep.Slices
namespace Go.Proofs.YtkpangeeldhjfaaDoor
open Go.RowKit Go.ChangeShapes Go.WideShapes Go.ChangeAt
/-- 0, 3, 6 .. -/
def who3 (n : Nat) : List Int := (List.range n).map fun (i : Nat) => 3 * (i : Int)
theorem who3_len (n : Nat) : (who3 n).length = n := by simp [who3]
theorem who3_succ (n : Nat) : who3 (n + 1) = who3 n ++ [3 * (n : Int)] := by simp [who3, List.range_succ]
theorem who3_may : ∀ n, n ≤ 12 → SetM.may (who3 n) = true := by decide
theorem who3_elems : ∀ n, n ≤ 12 → SetM.elems (SetM.bitsOf (who3 n)) = who3 n := by decide
/-- those that came are a set of some of who -/
structure InW (who inn : List Int) : Prop where
  set : SetM.elems (SetM.bitsOf inn) = inn
  sub : ∀ i, (SetM.bitsOf inn).testBit i = true → (SetM.bitsOf who).testBit i = true
theorem InW.nil (who : List Int) : InW who [] := ⟨by decide, fun i h => by simp [SetM.bitsOf] at h⟩
theorem InW.put {who inn : List Int} {id : Int} (h : InW who inn) (hh : SetM.has who id = true) : InW who (qput inn id) := by
  have hlt := SetM.op_lt 0 (SetM.bitsOf_lt inn) (SetM.bitsOf_lt [id])
  refine ⟨?_, fun i hi => ?_⟩
  · unfold qput; rw [SetM.bitsOf_elems hlt]
  · unfold qput at hi
    rw [SetM.bitsOf_elems hlt, SetM.op_testBit 0 (SetM.bitsOf_lt inn) (SetM.bitsOf_lt [id])] at hi
    simp only [SetM.opb, if_true, Bool.or_eq_true] at hi
    rcases hi with hi | hi
    · exact h.sub i hi
    · rw [SetM.bitsOf_testBit] at hi
      simp at hi
      unfold SetM.has at hh
      simp only [Bool.and_eq_true] at hh
      have : id.toNat = i := by omega
      rw [← this]; exact hh.2
theorem InW.count {who inn : List Int} (h : InW who inn) (hw : SetM.elems (SetM.bitsOf who) = who) : inn.length + (SetM.elems (SetM.op 2 (SetM.bitsOf who) (SetM.bitsOf inn))).length = who.length := by
  have key : ∀ n, (SetM.elemsTo (SetM.bitsOf inn) n).length + (SetM.elemsTo (SetM.op 2 (SetM.bitsOf who) (SetM.bitsOf inn)) n).length = (SetM.elemsTo (SetM.bitsOf who) n).length := by
    intro n
    induction n with
    | zero => simp [SetM.elemsTo]
    | succ k ih =>
      rw [SetM.elemsTo_succ, SetM.elemsTo_succ, SetM.elemsTo_succ]
      have hb := SetM.op_testBit 2 (SetM.bitsOf_lt who) (SetM.bitsOf_lt inn) k
      have hs := h.sub k
      rw [hb]
      simp only [List.length_append]
      cases e1 : (SetM.bitsOf inn).testBit k <;> cases e2 : (SetM.bitsOf who).testBit k <;> simp [SetM.opb, e1, e2] at hs ⊢ <;> omega
  have := key 64
  have e1 : SetM.elemsTo (SetM.bitsOf inn) 64 = inn := h.set
  have e2 : SetM.elemsTo (SetM.bitsOf who) 64 = who := hw
  rw [e1, e2] at this
  exact this
theorem qst_zero {n m g : Nat} {need term went : Int} (h : qst n m g need term went = 0) : went < term := by
  unfold qst at h
  by_cases ha : (m : Int) = n
  · rw [if_pos ha] at h; cases h
  · rw [if_neg ha] at h
    rcases Int.lt_or_le went term with h1 | h1
    · exact h1
    · by_cases hb : need ≤ (m : Int)
      · rw [if_pos ⟨hb, .inl h1⟩] at h; cases h
      · rw [if_neg (fun x => hb x.1), if_pos ⟨by omega, .inl h1⟩] at h; cases h
theorem qst_one {n m g : Nat} {need term went : Int} (hn : need ≤ n) (h : qst n m g need term went = 1) : need ≤ (m : Int) := by
  unfold qst at h
  by_cases ha : (m : Int) = n
  · omega
  · rw [if_neg ha] at h
    by_cases hb : need ≤ (m : Int) ∧ (term ≤ went ∨ (n : Int) - m - g = 0)
    · exact hb.1
    · rw [if_neg hb] at h
      by_cases hc : (m : Int) < need ∧ (term ≤ went ∨ (m : Int) + ((n : Int) - m - g) < need)
      · rw [if_pos hc] at h; cases h
      · rw [if_neg hc] at h; cases h
theorem qst_two {n m g : Nat} {need term went : Int} (h : qst n m g need term went = 2) : (m : Int) < need := by
  unfold qst at h
  by_cases ha : (m : Int) = n
  · rw [if_pos ha] at h; cases h
  · rw [if_neg ha] at h
    by_cases hb : need ≤ (m : Int) ∧ (term ≤ went ∨ (n : Int) - m - g = 0)
    · rw [if_pos hb] at h; cases h
    · rw [if_neg hb] at h
      by_cases hc : (m : Int) < need ∧ (term ≤ went ∨ (m : Int) + ((n : Int) - m - g) < need)
      · exact hc.1
      · rw [if_neg hc] at h; cases h
theorem qst_cases (n m g : Nat) (need term went : Int) : qst n m g need term went = 0 ∨ qst n m g need term went = 1 ∨ qst n m g need term went = 2 := by
  unfold qst
  split
  · exact .inr (.inl rfl)
  · split
    · exact .inr (.inl rfl)
    · split
      · exact .inr (.inr rfl)
      · exact .inl rfl
theorem canK_zero {who inn gone : List Int} {need term went id : Int} (h : canK who inn gone need term went id = 0) : qst who.length inn.length gone.length need term went = 0 ∧ SetM.has who id = true := by
  unfold canK at h
  by_cases h1 : qst who.length inn.length gone.length need term went ≠ 0
  · rw [if_pos h1] at h; cases h
  · rw [if_neg h1] at h
    refine ⟨by simpa using h1, ?_⟩
    cases e : SetM.has who id
    · rw [e, if_pos rfl] at h; cases h
    · rfl
/-- what is done, of those that came in -/
def Act2 (w : World) (A1 : Option Addr) (i : Nat) : Prop :=
  ∃ b o K T, A1 = some ⟨b, o, none⟩ ∧ w.cell? ⟨b, o + i * 2, none⟩ = some (.int .i64 K) ∧ w.cell? ⟨b, o + i * 2 + 1, none⟩ = some (.int .i64 T) ∧ b < w.heap.size
section
variable {H : Type} {enc : TypeId × Value → H} {P : Program} {W : World}
theorem open_acts2 {t s : TypeId} {f0 f1 : Field} (ht : P.underlying t = some (.slice s)) (hs : P.underlying s = some (.struct #[f0, f1])) (hsz : P.cellsOf s = 2)
    (o0 : f0.offset = 0) (o1 : f1.offset = 1) (h0 : P.underlying f0.type = some (.int .i64)) (h1 : P.underlying f1.type = some (.int .i64)) (z0 : P.cellsOf f0.type = 1) (z1 : P.cellsOf f1.type = 1)
    {v : Value} {d : DataW H} {p : List MemPlace} {r : Reach} {b0 : Nat} (hv : Value.okWide P W r b0 t v) (h : DataW.Trod enc P W 0 (fun _ => true) true t v d p) :
    ∃ A n c, v = .slice A n c ∧ n ≤ c ∧ c ≤ maxLen ∧ ∀ i, i < n → Act2 W A i := by
  obtain ⟨A, n, c, rfl⟩ := okWide_slice ht hv
  obtain ⟨fuel, hf⟩ := h
  rcases Deep.open_slice ht hf with ⟨hcs, _⟩ | ⟨ad, len, cap, m, fu, D, Pl, hcs, _, hl, hm, hmm, _, hi⟩
  · simp [Value.cells] at hcs
    obtain ⟨rfl, rfl, rfl⟩ := hcs
    exact ⟨none, 0, 0, rfl, Nat.le_refl _, by unfold maxLen; omega, fun i h => absurd h (Nat.not_lt_zero _)⟩
  · simp [Value.cells] at hcs
    obtain ⟨rfl, rfl, rfl⟩ := hcs
    simp only [if_true] at hmm
    refine ⟨_, n, c, rfl, hl, hm, fun i hin => ?_⟩
    obtain ⟨cs, hcs, htr⟩ := hi i (by omega)
    rw [hsz] at hcs
    obtain ⟨_, hlen, hcell⟩ := World.cells?_some hcs
    obtain ⟨y0, y1, n', _, _, e0, e1⟩ := trod_struct2 hs htr
    obtain ⟨c0, c1, rfl⟩ : ∃ c0 c1, cs = [c0, c1] := by
      match cs, hlen with
      | [c0, c1], _ => exact ⟨c0, c1, rfl⟩
    rw [o0, z0] at e0
    rw [o1, z1] at e1
    simp at e0 e1
    obtain ⟨K, ek, _, _⟩ := DataW.trod_int h0 e0
    obtain ⟨T, et, _, _⟩ := DataW.trod_int h1 e1
    simp at ek et
    subst ek; subst et
    have q0 := hcell 0 (by omega)
    have q1 := hcell 1 (by omega)
    obtain ⟨b, off, spot⟩ := ad
    have hspot : spot = none := by
      obtain ⟨cs', hcs', _⟩ := hi 0 (by omega)
      rw [hsz] at hcs'
      obtain ⟨_, hlen', hcell'⟩ := World.cells?_some hcs'
      have := hcell' 0 (by omega)
      rw [List.getElem?_eq_getElem (by omega)] at this
      simpa [Addr.add] using World.cell?_spot this
    subst hspot
    rw [addr_add, addr_add] at q0 q1
    simp only [Nat.add_zero, List.getElem?_cons_zero, List.getElem?_cons_succ] at q0 q1
    exact ⟨b, off, K, T, rfl, q0, q1, World.block_lt_of_cell? W _ q0⟩
end
end Go.Proofs.YtkpangeeldhjfaaDoor
