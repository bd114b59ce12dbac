/- Layer 20: the law's own list of letters, and the document's Out. -/
import Derived.Test.YtaehlafaehpbjaaDoorBagL
namespace Go.Proofs.YtaehlafaehpbjaaDoor
open Go.RowKit
set_option maxRecDepth 100000 in
theorem elt_let : Elt Tryd.prog 38 42 (.agg #[.int .i64 0, .slice none 0 0]) 2 32 where
  ht := by kernel_rfl
  hi := ⟨_, rfl, by kernel_rfl, by kernel_rfl, by kernel_rfl⟩
  hzs := rfl
  hsz := by decide
/-- bytes that were there at first -/
def LB (w : World) (lim : Nat) (v : Value) (b : List Nat) : Prop :=
  ∃ A1 c1, v = .slice A1 b.length c1 ∧ b.length ≤ 300 ∧ At w A1 (nats .u8 b) ∧ (A1 = none → b.length = 0) ∧ ∀ k, blk A1 = some k → k < lim ∨ b = []
theorem Own.one_block {w w' : World} {base : Nat} {e : TypeId} {size : Nat} {A : Option Addr} {n c k : Nat} {xs : List Value} (h : Own w base e size A n c xs) (hA : blk A = some k) (hb : w'.heap[k]? = w.heap[k]?) : Own w' base e size A n c xs := by
  refine ⟨h.1, ?_⟩
  rcases h.2 with hn | ⟨g, cap, cur, e1, hb2, hgg, rest⟩
  · exact .inl hn
  · refine .inr ⟨g, cap, cur, e1, hb2, ?_, rest⟩
    injection e1 with e1 e2 e3
    subst e1
    simp only [blk, Option.map_some, Option.some.injEq] at hA
    subst hA
    rw [hb]
    exact hgg
theorem Own.rebase {w : World} {base base' : Nat} {e : TypeId} {size : Nat} {A : Option Addr} {n c : Nat} {xs : List Value} (h : Own w base e size A n c xs) (hb : base' ≤ base) : Own w base' e size A n c xs := by
  refine ⟨h.1, ?_⟩
  rcases h.2 with hn | ⟨g, cap, cur, e1, hb2, rest⟩
  · exact .inl hn
  · exact .inr ⟨g, cap, cur, e1, by omega, rest⟩
structure Lets (w : World) (lim : Nat) (A : Option Addr) (n c : Nat) (vs : List (Int × Value)) (l : List (Int × List Nat)) : Prop where
  own : Own w lim 42 2 A n c (its vs)
  len : l.length = n
  bod : ∀ (i : Nat) (p : Int × Value) (q : Int × List Nat), vs[i]? = some p → l[i]? = some q → p.1 = q.1 ∧ LB w lim p.2 q.2
section
variable {w w' : World} {lim n c : Nat} {A : Option Addr} {vs : List (Int × Value)} {l : List (Int × List Nat)} {v : Value} {b : List Nat}
theorem LB.below (h : LB w lim v b) (hb : Below lim w w') : LB w' lim v b := by
  obtain ⟨A1, c1, rfl, hl, hat, hn, hk⟩ := h
  refine ⟨A1, c1, rfl, hl, ?_, hn, hk⟩
  by_cases h0 : b = []
  · subst h0; intro i x hx; simp [nats] at hx
  · exact hat.keep fun k o e i => World.cell?_of_block (a := ⟨k, o + i, none⟩) (hb.block k ((hk k (by subst e; rfl)).resolve_right h0))
theorem Lets.vlen (h : Lets w lim A n c vs l) : vs.length = n := by have := h.own.len; rw [its_length] at this; omega
theorem Lets.empty (w : World) (lim : Nat) : Lets w lim none 0 0 [] [] := ⟨Own.none_ _ _ _ _, rfl, fun i p q h1 _ => by simp at h1⟩
theorem Lets.grown {row : Option Nat} (h : Lets w lim A n c vs l) (hg : w.grownBy w' row) (hr : blk A = none ∨ blk A ≠ row) (hl : ∀ k, row = some k → lim ≤ k) (hz : lim ≤ w.heap.size) : Lets w' lim A n c vs l :=
  ⟨h.own.kept hg hr, h.len, fun i p q h1 h2 => ⟨(h.bod i p q h1 h2).1, (h.bod i p q h1 h2).2.below ⟨hg.os, hg.tape, hg.output, hg.size, fun k hk => hg.block k (by omega) (fun e => by have := hl k e.symm; omega)⟩⟩⟩
theorem Lets.below {B : Nat} (h : Lets w lim A n c vs l) (hb : Below B w w') (hB : w.heap.size ≤ B) (hz : lim ≤ B) : Lets w' lim A n c vs l :=
  ⟨h.own.below hb hB, h.len, fun i p q h1 h2 => ⟨(h.bod i p q h1 h2).1, (h.bod i p q h1 h2).2.below (hb.mono hz)⟩⟩
/-- the bag's own doings leave it -/
theorem Lets.moved {g : Nat} {A1 A2 : Option Addr} (h : Lets w lim A n c vs l) (hm : Moved g A1 A2 w w') (h1 : lim ≤ g) (h2 : ∀ k, blk A1 = some k → lim ≤ k) (h3 : lim ≤ w.heap.size) (h4 : ∀ k, blk A = some k → k ≠ g ∧ blk A1 ≠ some k) : Lets w' lim A n c vs l := by
  have hb := hm.below h1 h2 h3
  refine ⟨?_, h.len, fun i p q h1 h2 => ⟨(h.bod i p q h1 h2).1, (h.bod i p q h1 h2).2.below hb⟩⟩
  cases hA : blk A with
  | none =>
    rcases h.own.lies with ⟨rfl, rfl, rfl, e⟩ | ⟨g, rfl, _⟩
    · rw [e]; exact Own.none_ _ _ _ _
    · simp [blk] at hA
  | some k =>
    have hk := h4 k hA
    have hlt := (h.own.lt k hA).2
    exact Own.one_block h.own hA (hm.block k hlt hk.1 hk.2)
theorem Lets.item (h : Lets w lim A n c vs l) (i : Nat) (hi : i < n) : ∃ g2 A1 c1, A = some ⟨g2, 0, none⟩ ∧ lim ≤ g2 ∧ g2 < w.heap.size ∧ w.cell? ⟨g2, i * 2, none⟩ = some (.int .i64 (l.getD i (0, [])).1) ∧ w.cell? ⟨g2, i * 2 + 1, none⟩ = some (.slice A1 (l.getD i (0, [])).2.length c1) ∧ LB w lim (.slice A1 (l.getD i (0, [])).2.length c1) (l.getD i (0, [])).2 ∧ vs[i]? = some ((l.getD i (0, [])).1, .slice A1 (l.getD i (0, [])).2.length c1) := by
  have hv : i < vs.length := by rw [h.vlen]; exact hi
  have hl : i < l.length := by rw [h.len]; exact hi
  obtain ⟨h1, h2⟩ := h.bod i _ _ (List.getElem?_eq_getElem hv) (List.getElem?_eq_getElem hl)
  have eq_ : l.getD i (0, []) = l[i] := by simp [List.getD_eq_getElem?_getD, List.getElem?_eq_getElem hl]
  rw [eq_]
  rcases h.own.lies with ⟨_, h0, _⟩ | ⟨g2, e2, hb2, hlt2⟩
  · omega
  obtain ⟨A1, c1, ev, h3, h4, h5, h6⟩ := h2
  have hd : (its vs).drop (i * 2) = .int .i64 vs[i].1 :: vs[i].2 :: its (vs.drop (i + 1)) := by
    rw [its_drop, List.drop_eq_getElem_cons hv, its_cons]
  have c0 : (its vs)[i * 2]? = some (.int .i64 vs[i].1) := by
    have := congrArg (fun x => x[0]?) hd
    simpa [List.getElem?_drop] using this
  have c1' : (its vs)[i * 2 + 1]? = some vs[i].2 := by
    have := congrArg (fun x => x[1]?) hd
    simpa [List.getElem?_drop] using this
  have hat := h.own.at_
  obtain ⟨b0, o0, e0, q0⟩ := hat _ _ c0
  obtain ⟨b1, o1, e1, q1⟩ := hat _ _ c1'
  rw [e2] at e0 e1
  injection e0 with e0; injection e0 with x1 x2; subst x1; subst x2
  injection e1 with e1; injection e1 with x1 x2; subst x1; subst x2
  rw [Nat.zero_add] at q0 q1
  rw [h1] at q0
  rw [ev] at q1
  have e5 : vs[i]? = some (l[i].1, .slice A1 l[i].2.length c1) := by
    rw [List.getElem?_eq_getElem hv, ← h1, ← ev]
  exact ⟨g2, A1, c1, e2, hb2, hlt2, q0, q1, ⟨A1, c1, rfl, h3, h4, h5, h6⟩, e5⟩
/-- one letter more -/
theorem Lets.snoc {A2 A3 : Option Addr} {c2 c3 : Nat} {t : Int} {w2 w3 : World} (h : Lets w lim A n c vs l) (hz : lim ≤ w.heap.size) (h2 : Below w.heap.size w w2) (hb : LB w lim (.slice A2 b.length c2) b) (ho : Own w3 lim 42 2 A3 (n + 1) c3 (its vs ++ [.int .i64 t, .slice A2 b.length c2])) (hg : w2.grownBy w3 (blk A)) :
    Lets w3 lim A3 (n + 1) c3 (vs ++ [(t, .slice A2 b.length c2)]) (l ++ [(t, b)]) := by
  have b3 : Below lim w2 w3 := ⟨hg.os, hg.tape, hg.output, hg.size, fun k hk => hg.block k (by have := h2.size; omega) (fun e => by have := (h.own.lt k e.symm).1; omega)⟩
  have b0 : Below lim w w3 := (h2.mono hz).trans b3
  refine ⟨?_, by simp [h.len], ?_⟩
  · rw [its_append]; exact ho
  · intro i p q h1 h3
    have hvl := h.vlen
    have hll := h.len
    by_cases hi : i < n
    · rw [List.getElem?_append_left (by omega)] at h1 h3
      exact ⟨(h.bod i p q h1 h3).1, (h.bod i p q h1 h3).2.below b0⟩
    · have hi2 : i = n := by
        rcases Nat.lt_or_ge i (n + 1) with h | h
        · omega
        · rw [List.getElem?_eq_none (by simp; omega)] at h3; cases h3
      subst hi2
      rw [List.getElem?_append_right (by omega)] at h1 h3
      rw [hvl, Nat.sub_self] at h1
      rw [hll, Nat.sub_self] at h3
      simp at h1 h3
      subst h1; subst h3
      exact ⟨rfl, hb.below b0⟩
end
/-- a list without the one in a place -/
def outI {β : Type} (l : List β) (i : Int) : List β := if i < 0 then l else l.eraseIdx i.toNat
theorem outI_same {β : Type} (l : List β) (i : Int) (k : Nat) (hk : k < l.length) (h : (k : Int) = i) : outI (l.take (k + 1)) i = outI (l.take k) i := by
  subst h
  have hn : ¬ (k : Int) < 0 := by omega
  simp only [outI, hn, if_false, Int.toNat_natCast]
  rw [List.take_succ_eq_append_getElem hk, List.eraseIdx_append_of_length_le (by simp; omega), List.eraseIdx_of_length_le (l := l.take k) (by simp; omega)]
  have : k - (l.take k).length = 0 := by simp; omega
  rw [this]
  simp
theorem outI_other {β : Type} (l : List β) (i : Int) (k : Nat) (p : β) (hp : l[k]? = some p) (h : (k : Int) ≠ i) : outI (l.take (k + 1)) i = outI (l.take k) i ++ [p] := by
  have hk : k < l.length := by
    rcases Nat.lt_or_ge k l.length with h | h
    · exact h
    · rw [List.getElem?_eq_none h] at hp; cases hp
  rw [List.getElem?_eq_getElem hk] at hp
  injection hp with hp
  rw [List.take_succ_eq_append_getElem hk, hp]
  unfold outI
  by_cases hi : i < 0
  · simp only [hi, if_true]
  · simp only [hi, if_false]
    by_cases hlt : i.toNat < k
    · rw [List.eraseIdx_append_of_lt_length (by simp; omega)]
    · rw [List.eraseIdx_of_length_le (by simp; omega), List.eraseIdx_of_length_le (by simp; omega)]
theorem outI_all {β : Type} (l : List β) (i : Int) (h : ¬ (0 ≤ i ∧ i < l.length)) : outI l i = l := by
  unfold outI
  by_cases hi : i < 0
  · simp [hi]
  · simp only [hi, if_false]
    exact List.eraseIdx_of_length_le (by omega)
theorem outI_le {β : Type} (l : List β) (i : Int) : (outI l i).length ≤ l.length := by
  unfold outI
  split
  · exact Nat.le_refl _
  · exact List.length_eraseIdx_le _ _
section
variable {w : World} {lim n c : Nat} {A : Option Addr} {vs : List (Int × Value)} {l : List (Int × List Nat)}
theorem outI_get {β γ : Type} {vs : List β} {l : List γ} (i : Int) (j : Nat) {p : β} {q : γ} (hl : vs.length = l.length) (h1 : (outI vs i)[j]? = some p) (h2 : (outI l i)[j]? = some q) : ∃ k : Nat, vs[k]? = some p ∧ l[k]? = some q := by
  unfold outI at h1 h2
  by_cases hi : i < 0
  · simp only [hi, if_true] at h1 h2
    exact ⟨j, h1, h2⟩
  · simp only [hi, if_false] at h1 h2
    rw [List.getElem?_eraseIdx] at h1 h2
    by_cases hj : j < i.toNat
    · rw [if_pos hj] at h1 h2; exact ⟨j, h1, h2⟩
    · rw [if_neg hj] at h1 h2; exact ⟨j + 1, h1, h2⟩
theorem outI_len {β γ : Type} {vs : List β} {l : List γ} (i : Int) (hl : vs.length = l.length) : (outI vs i).length = (outI l i).length := by
  unfold outI
  split
  · exact hl
  · simp [List.length_eraseIdx, hl]
theorem Lets.out {w' : World} {A' : Option Addr} {n' c' : Nat} (h : Lets w lim A n c vs l) (i : Int) (hb : Below w.heap.size w w') (hz : lim ≤ w.heap.size) (ho : Own w' w.heap.size 42 2 A' n' c' (its (outI vs i))) : Lets w' lim A' n' c' (outI vs i) (outI l i) := by
  have hvl : vs.length = l.length := h.vlen.trans h.len.symm
  refine ⟨ho.rebase hz, ?_, fun j p q h1 h2 => ?_⟩
  · have := ho.len
    rw [its_length] at this
    rw [← outI_len i hvl]
    omega
  · obtain ⟨k, e1, e2⟩ := outI_get i j hvl h1 h2
    exact ⟨(h.bod k p q e1 e2).1, (h.bod k p q e1 e2).2.below (hb.mono hz)⟩
def Outs (w : World) (lim : Nat) (vs : List (Int × Value)) (l : List (Int × List Nat)) (e : Ending) (w' : World) : Prop :=
  ∃ A1 n1 c1, e = .returned (.slice A1 n1 c1) ∧ Lets w' lim A1 n1 c1 vs l ∧ Below w.heap.size w w' ∧ ∀ k, blk A1 = some k → w.heap.size ≤ k
set_option maxRecDepth 100000 in
set_option maxHeartbeats 2000000 in
theorem rout_any (i : Int) (h : Lets w lim A n c vs l) (hn : n ≤ 5000) (hz : lim ≤ w.heap.size) :
    Calls Tryd.prog 13 #[.slice A n c, .int .i64 i] w (Outs w lim (outI vs i) (outI l i)) := by
  have IT := Lib.hid h.item
  have HVL := Lib.hid h.vlen
  have HO := Lib.hid (fun (w' : World) (A' : Option Addr) (n' c' : Nat) hb ho => h.out (w' := w') (A' := A') (n' := n') (c' := c') i hb hz ho)
  clear h
  go_enter Tryd.func13, Tryd.ntmps13
  go_wp2_with fail
  go_loopw [5, 6] (fun s j wr => ∃ (k m : Nat) (A1 : Option Addr) (c1 : Nat), k ≤ n ∧ j = .int .i64 (k : Int) ∧ (outI (vs.take k) i).length = m ∧ s = .slice A1 m c1 ∧ Own wr w.heap.size 42 2 A1 m c1 (its (outI (vs.take k) i)) ∧ Below w.heap.size w wr) (fun _ j _ => n - (intOf j).toNat)
  case atStart => exact ⟨0, 0, none, 0, by omega, rfl, by simp [outI], rfl, by simpa [outI, its] using Own.none_ _ _ _ _, Below.refl _ _⟩
  case round =>
    obtain ⟨k, m, A1, c1, hk, rfl, hm, rfl, hown, hbel⟩ := hrel
    have HW := Lib.hid hown
    have HBL := Lib.hid hbel
    have hmk : m ≤ k := by have := outI_le (vs.take k) i; rw [List.length_take] at this; omega
    clear hown hbel
    by_cases hlt : k < n
    · obtain ⟨g2, A2, c2, rfl, hb2, hl2, q0, q1, _, hv⟩ := IT.out k hlt
      have q0' := (HBL.out.cell (p := ⟨g2, k * 2, none⟩) hl2).trans q0
      have q1' := (HBL.out.cell (p := ⟨g2, k * 2 + 1, none⟩) hl2).trans q1
      clear q0 q1
      generalize l.getD k (0, []) = q at *
      obtain ⟨t, b⟩ := q
      simp only at q0' q1' hv
      have k63 : (0 : Int) ≤ (k : Int) := by omega
      have hvk : k < vs.length := by rw [HVL.out]; exact hlt
      by_cases ht : (k : Int) = i
      · have E := Lib.hid (outI_same vs i k hvk ht)
        have hne : ((k : Int) != i) = false := by simpa using ht
        have HT := Lib.hid ht
        clear ht hv
        go_wp2_with fail
        go_round
        case rel => exact ⟨k + 1, m, A1, c1, by omega, by go_num, by rw [E.out]; exact hm, rfl, by rw [E.out]; exact HW.out, HBL.out⟩
        case measure => simp [intOf]; omega
      · have E := Lib.hid (outI_other vs i k _ hv ht)
        have hne : ((k : Int) != i) = true := by simpa using ht
        have HT := Lib.hid ht
        clear ht hv
        go_wp2_with (at_builtin; go_loud (refine wpList_app rfl elt_let w.heap.size (.tmp 16) (.tmp 21) rfl _ rfl (HW.out.alloc _) [.int .i64 t, .slice A2 b.length c2] rfl (At.lit _ _ _ _ _ rfl) rfl (by intro u hu; simp at hu; rcases hu with rfl | rfl <;> rfl) (by unfold maxLen; omega) (by omega) (by have := HBL.out.size; simp; omega) ?_); intro A3 c3 w3 own3 g3 _; have B3 := Lib.hid ((HBL.out.alloc HBL.out.size _).grown g3 (by have := HBL.out.size; simp; omega) (fun k hk => (HW.out.lt k hk).1)); have O3 := Lib.hid own3; clear own3 g3)
        go_round
        case rel => exact ⟨k + 1, m + 1, A3, c3, by omega, by go_num, by rw [E.out]; simp [hm], rfl, by rw [E.out, its_append]; exact O3.out, B3.out⟩
        case measure => simp [intOf]; omega
    · obtain rfl : k = n := by omega
      clear IT
      have hall : vs.take k = vs := List.take_of_length_le (by rw [HVL.out]; exact Nat.le_refl _)
      rw [hall] at hm HW
      clear hall
      go_wp2_with fail
      go_ret
      exact ⟨A1, m, c1, rfl, HO.out _ _ _ _ HBL.out HW.out, HBL.out, fun k hk => (HW.out.lt k hk).1⟩
end
end Go.Proofs.YtaehlafaehpbjaaDoor
