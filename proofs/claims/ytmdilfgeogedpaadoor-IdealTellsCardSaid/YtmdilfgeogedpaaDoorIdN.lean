/- Layer 37: Shown of package ideal. -/
import Derived.Test.YtmdilfgeogedpaaDoorIdL
namespace Go.Proofs.YtmdilfgeogedpaaDoor
open Go.RowKit
/-- own rows, those ahead of i of who did not come cleared -/
def shO (came : List Int) (own : List (List Nat)) : Nat → List (List Nat)
  | 0 => own
  | i + 1 => if SetM.has came (i : Nat) then shO came own i else (shO came own i).set i (clr ((shO came own i).getD i []))
/-- the row i of pairs, the first j of them looked at -/
def shR (came : List Int) (i : Nat) (l : List (List Nat)) : Nat → List (List Nat)
  | 0 => l
  | j + 1 => if SetM.has came (i : Nat) = SetM.has came ((i + j + 1 : Nat) : Int) then (shR came i l j).set j (clr ((shR came i l j).getD j [])) else shR came i l j
def shP (came : List Int) (P : List (List (List Nat))) : Nat → List (List (List Nat))
  | 0 => P
  | i + 1 => (shP came P i).set i (shR came i ((shP came P i).getD i []) ((shP came P i).getD i []).length)
theorem shO_length (came : List Int) (own : List (List Nat)) : ∀ i, (shO came own i).length = own.length
  | 0 => rfl
  | i + 1 => by
    unfold shO
    split
    · exact shO_length came own i
    · rw [List.length_set]; exact shO_length came own i
theorem shR_length (came : List Int) (i : Nat) (l : List (List Nat)) : ∀ j, (shR came i l j).length = l.length
  | 0 => rfl
  | j + 1 => by
    unfold shR
    split
    · rw [List.length_set]; exact shR_length came i l j
    · exact shR_length came i l j
theorem shP_length (came : List Int) (P : List (List (List Nat))) : ∀ i, (shP came P i).length = P.length
  | 0 => rfl
  | i + 1 => by
    show ((shP came P i).set i _).length = _
    rw [List.length_set]; exact shP_length came P i
theorem shP_later (came : List Int) (P : List (List (List Nat))) (q : Nat) : ∀ i, i ≤ q → (shP came P i).getD q [] = P.getD q []
  | 0, _ => rfl
  | i + 1, h => by
    show ((shP came P i).set i _).getD q [] = _
    rw [List.getD_eq_getElem?_getD, List.getElem?_set_ne (by omega), ← List.getD_eq_getElem?_getD]
    exact shP_later came P q i (by omega)
theorem shP_start (came : List Int) (P : List (List (List Nat))) (k : Nat) : (shP came P k).set k (shR came k (P.getD k []) 0) = shP came P k := by
  show (shP came P k).set k (P.getD k []) = _
  rw [← shP_later came P k k (Nat.le_refl _)]
  apply List.ext_getElem?
  intro i
  rw [List.getElem?_set]
  by_cases e : k = i
  · subst e
    rw [if_pos rfl]
    by_cases h : k < (shP came P k).length
    · rw [if_pos h, List.getElem?_eq_getElem h]; simp [List.getD_eq_getElem?_getD, List.getElem?_eq_getElem h]
    · rw [if_neg h, List.getElem?_eq_none (by omega)]
  · rw [if_neg e]
theorem shP_end (came : List Int) (P : List (List (List Nat))) (k : Nat) : (shP came P k).set k (shR came k (P.getD k []) (P.getD k []).length) = shP came P (k + 1) := by
  show _ = (shP came P k).set k (shR came k ((shP came P k).getD k []) ((shP came P k).getD k []).length)
  rw [shP_later came P k k (Nat.le_refl _)]
theorem shP_yes (came : List Int) (P : List (List (List Nat))) (k m : Nat) (hk : k < P.length) (he : SetM.has came (k : Nat) = SetM.has came ((k + m + 1 : Nat) : Int)) :
    ((shP came P k).set k (shR came k (P.getD k []) m)).set k ((((shP came P k).set k (shR came k (P.getD k []) m)).getD k []).set m (clr ((((shP came P k).set k (shR came k (P.getD k []) m)).getD k []).getD m []))) = (shP came P k).set k (shR came k (P.getD k []) (m + 1)) := by
  have h : ((shP came P k).set k (shR came k (P.getD k []) m)).getD k [] = shR came k (P.getD k []) m := by
    rw [List.getD_eq_getElem?_getD, List.getElem?_set_self (by rw [shP_length]; exact hk)]; rfl
  rw [h, List.set_set]
  conv => rhs; unfold shR
  rw [if_pos he]
theorem shR_no (came : List Int) (l : List (List Nat)) (k m : Nat) (he : ¬ SetM.has came (k : Nat) = SetM.has came ((k + m + 1 : Nat) : Int)) : shR came k l (m + 1) = shR came k l m := by
  conv => lhs; unfold shR
  rw [if_neg he]
theorem Fam.cell {ι : Type} {w : World} {B : Nat} {D : ι → Pie} (h : Fam w B D) (p : ι) (i : Nat) (v : Value) (hv : (D p).xs[i]? = some v) : ∃ r, (D p).A = some ⟨r, 0, none⟩ ∧ w.cell? ⟨r, i, none⟩ = some v ∧ r < w.heap.size ∧ B ≤ r := by
  have h1 := h.own p
  rcases h1.lies with ⟨_, _, _, h2⟩ | ⟨r, h2, h3, h4⟩
  · rw [h2] at hv; simp at hv
  · obtain ⟨b, o, e, hc⟩ := h1.at_ i _ hv
    rw [h2] at e
    cases e
    rw [Nat.zero_add] at hc
    exact ⟨r, h2, hc, h4, h3⟩
end Go.Proofs.YtmdilfgeogedpaaDoor
