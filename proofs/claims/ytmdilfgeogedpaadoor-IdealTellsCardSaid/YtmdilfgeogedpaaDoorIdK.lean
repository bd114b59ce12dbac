/- Layer 37: clear of a row of the call's own. -/
import Derived.Test.YtmdilfgeogedpaaDoorIdJ
namespace Go.Proofs.YtmdilfgeogedpaaDoor
open Go.RowKit
theorem run_clear_none {P : Program} (w : World) (t e ty : TypeId) (ht : P.underlying t = some (.slice e)) (A : Option Addr) (c : Nat) : (Builtin.clear_ #[t] ty #[.slice A 0 c]).run P w = .ok (.tuple #[]) w := by
  cases A <;> simp [Builtin.clear_, run_underlying ht]
section
variable {P : Program} {w : World} {ops : Array Oper} {rest : List Oper} {o : Oper} {a : Act} {Q : Exit → Act → World → Prop}
theorem wpList_clearO (hgd : Region.wanted o (yielded ops a.tmps) = true) {t e : TypeId} {z : Value} (ht : P.underlying t = some (.slice e)) (hv : ∀ w, (zeroValue e).run P w = .ok z w) (hz : z.cells = #[z]) (hz1 : z.oneCell' = true) (s : Operand)
    (ho : o.op = .call { callee := .builtin .clear, args := #[s], argTypes := #[t] })
    {A : Option Addr} {n c B : Nat} {xs : List Value} (hs : a.eval s = .slice A n c) (hown : Own w B e 1 A n c xs)
    (h : ∀ w', (n = 0 ∧ w' = w) ∨ (∃ g, A = some ⟨g, 0, none⟩ ∧ B ≤ g ∧ w' = w.setCells g 0 (List.replicate n z)) → wpList P ops Q rest (a.put o.dst (.tuple #[])) w') : wpList P ops Q (o :: rest) a w :=
  wpList_step fun _ hK => by
    rw [if_pos hgd]
    rcases Nat.eq_zero_or_pos n with h0 | h0
    · subst h0
      have hr := run_clear_none (P := P) w t e o.type ht A c
      unfold Oper.wp execOp
      simp only [ho, resolve, invoke, builtin, Sem.run_bind, Sem.run_pure, Result.andThen_ok, List.map_toArray, List.map_cons, List.map_nil, hs, hr]
      exact hK _ _ (h w (.inl ⟨rfl, rfl⟩))
    · rcases hown.lies with ⟨_, h1, _⟩ | ⟨g, rfl, hg, _⟩
      · omega
      · have hc := hown.cap.1
        have hr := Lib.run_clear_slice (P := P) w t e o.type z ht hv hz hz1 g 0 n c h0 (fun j hj => by rw [Nat.zero_add]; exact (hown.spare j (by omega)).1) (fun j hj => by rw [Nat.zero_add]; exact (hown.spare j (by omega)).2)
        unfold Oper.wp execOp
        simp only [ho, resolve, invoke, builtin, Sem.run_bind, Sem.run_pure, Result.andThen_ok, List.map_toArray, List.map_cons, List.map_nil, hs, hr]
        exact hK _ _ (h _ (.inr ⟨g, rfl, hg, rfl⟩))
end
theorem run_clearO {P : Program} {w : World} {t e : TypeId} {z : Value} (ty : TypeId) (ht : P.underlying t = some (.slice e)) (hv : ∀ w, (zeroValue e).run P w = .ok z w) (hz : z.cells = #[z]) (hz1 : z.oneCell' = true)
    {A : Option Addr} {n c B : Nat} {xs : List Value} (hown : Own w B e 1 A n c xs) :
    ∃ w', (Builtin.clear_ #[t] ty #[.slice A n c]).run P w = .ok (.tuple #[]) w' ∧ ((n = 0 ∧ w' = w) ∨ (∃ g, A = some ⟨g, 0, none⟩ ∧ B ≤ g ∧ w' = w.setCells g 0 (List.replicate n z))) := by
  rcases Nat.eq_zero_or_pos n with h0 | h0
  · subst h0
    exact ⟨w, run_clear_none w t e ty ht A c, .inl ⟨rfl, rfl⟩⟩
  · rcases hown.lies with ⟨_, h1, _⟩ | ⟨g, rfl, hg, _⟩
    · omega
    · have hc := hown.cap.1
      exact ⟨_, Lib.run_clear_slice (P := P) w t e ty z ht hv hz hz1 g 0 n c h0 (fun j hj => by rw [Nat.zero_add]; exact (hown.spare j (by omega)).1) (fun j hj => by rw [Nat.zero_add]; exact (hown.spare j (by omega)).2), .inr ⟨g, rfl, hg, rfl⟩⟩
/-- one piece of the family cleared: it is left, the others stay -/
theorem Fam.cleared {ι : Type} [DecidableEq ι] {w w' : World} {B : Nat} {D : ι → Pie} (h : Fam w B D) (p : ι) (z : Value) (hw : ((D p).n = 0 ∧ w' = w) ∨ (∃ g, (D p).A = some ⟨g, 0, none⟩ ∧ B ≤ g ∧ w' = w.setCells g 0 (List.replicate (D p).n z))) :
    Fam w' B (upd D p { D p with xs := List.replicate (D p).n z }) := by
  rcases hw with ⟨h0, rfl⟩ | ⟨g, hA, _, rfl⟩
  · have hx : (D p).xs = List.replicate (D p).n z := by
      have h1 := (h.own p).len
      rw [h0] at h1 ⊢
      exact List.eq_nil_of_length_eq_zero (by omega)
    have : upd D p { D p with xs := List.replicate (D p).n z } = D := by
      funext q
      by_cases e : q = p
      · subst e; rw [upd_same, ← hx]
      · rw [upd_other _ e]
    rw [this]
    exact h
  · exact h.clear p hA z
theorem Below.cleared {w w' w0 : World} {B C n : Nat} {A : Option Addr} {z : Value} (h : Below B w0 w) (hB : B ≤ C) (hw : (n = 0 ∧ w' = w) ∨ (∃ g, A = some ⟨g, 0, none⟩ ∧ C ≤ g ∧ w' = w.setCells g 0 (List.replicate n z))) : Below B w0 w' := by
  rcases hw with ⟨_, rfl⟩ | ⟨g, _, hg, rfl⟩
  · exact h
  · exact Below.setCells (Nat.le_trans hB hg) _ _ h
theorem Holds.cleared {w w' : World} {g' C n : Nat} {t : TypeId} {cs : Array Value} {A : Option Addr} {z : Value} (h : Holds w g' t cs) (hB : g' < C) (hw : (n = 0 ∧ w' = w) ∨ (∃ g, A = some ⟨g, 0, none⟩ ∧ C ≤ g ∧ w' = w.setCells g 0 (List.replicate n z))) : Holds w' g' t cs := by
  rcases hw with ⟨_, rfl⟩ | ⟨g, _, hg, rfl⟩
  · exact h
  · exact Holds.setCells (by omega) _ _ h
end Go.Proofs.YtmdilfgeogedpaaDoor
