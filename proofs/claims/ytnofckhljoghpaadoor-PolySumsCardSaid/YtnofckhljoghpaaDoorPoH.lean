/- Layer 3: points that are given on; points whose values are turned. -/
import Derived.Test.YtnofckhljoghpaaDoorPoG
import Derived.ArgAppend
namespace Go.Proofs.YtnofckhljoghpaaDoor
open Go.RowKit
set_option maxRecDepth 100000 in
theorem elt_sh : Elt Tryd.prog 28 47 (.agg #[.int .u64 0, .int .u64 0]) 2 16 where
  ht := by kernel_rfl
  hi := ⟨_, rfl, by kernel_rfl, by kernel_rfl, by kernel_rfl⟩
  hzs := rfl
  hsz := by decide
set_option maxRecDepth 100000 in
theorem elt_rs : Elt Tryd.prog 23 41 (.agg #[.int .u64 0, .int .u64 0]) 2 16 where
  ht := by kernel_rfl
  hi := ⟨_, rfl, by kernel_rfl, by kernel_rfl, by kernel_rfl⟩
  hzs := rfl
  hsz := by decide
/-- points, cell by cell -/
def shs (xs ys : List Nat) : Nat → List Value
  | 0 => []
  | k + 1 => shs xs ys k ++ [.int .u64 (xs.getD k 0 : Nat), .int .u64 (ys.getD k 0 : Nat)]
theorem shs_length (xs ys : List Nat) : ∀ k, (shs xs ys k).length = k * 2
  | 0 => rfl
  | k + 1 => by rw [shs, List.length_append, shs_length xs ys k]; simp; omega
theorem shs_get (xs ys : List Nat) : ∀ k i, i < k → (shs xs ys k)[i * 2]? = some (.int .u64 (xs.getD i 0 : Nat)) ∧ (shs xs ys k)[i * 2 + 1]? = some (.int .u64 (ys.getD i 0 : Nat))
  | 0, i, h => absurd h (Nat.not_lt_zero _)
  | k + 1, i, h => by
    by_cases e : i < k
    · have ih := shs_get xs ys k i e
      have hl := shs_length xs ys k
      rw [shs, List.getElem?_append_left (by omega), List.getElem?_append_left (by omega)]
      exact ih
    · obtain rfl : i = k := by omega
      have hl := shs_length xs ys i
      rw [shs, List.getElem?_append_right (by omega), List.getElem?_append_right (by omega), hl, Nat.sub_self, show i * 2 + 1 - i * 2 = 1 by omega]
      exact ⟨rfl, rfl⟩
theorem shs_one (xs ys : List Nat) : ∀ k, ∀ u ∈ shs xs ys k, u.oneCell' = true
  | 0, u, h => by simp [shs] at h
  | k + 1, u, h => by
    rw [shs, List.mem_append] at h
    rcases h with h | h
    · exact shs_one xs ys k u h
    · simp at h; rcases h with rfl | rfl <;> rfl
theorem Shs.of_at {w : World} {A : Option Addr} {xs ys : List Nat} {n : Nat} (h : At w A (shs xs ys n)) : Shs w A xs ys n := by
  intro i hi
  obtain ⟨h1, h2⟩ := shs_get xs ys n i hi
  obtain ⟨b, o, rfl, h3⟩ := h _ _ h1
  obtain ⟨b', o', e', h4⟩ := h _ _ h2
  injection e' with e'; injection e' with a1 a2; subst a1; subst a2
  exact ⟨b, o, rfl, h3, h4⟩
theorem Shs.at_ {w : World} {A : Option Addr} {xs ys : List Nat} : ∀ {n : Nat}, Shs w A xs ys n → At w A (shs xs ys n)
  | 0, _ => At.nil _ _
  | k + 1, h => by
    intro i x hx
    have hl := shs_length xs ys k
    by_cases e : i < k * 2
    · rw [shs, List.getElem?_append_left (by omega)] at hx
      exact Shs.at_ (h.less (Nat.le_succ k)) i x hx
    · rw [shs, List.getElem?_append_right (by omega), hl] at hx
      obtain ⟨b, o, rfl, h1, h2⟩ := h k (by omega)
      have h0 : i - k * 2 = 0 ∨ i - k * 2 = 1 := by
        rcases Nat.lt_or_ge (i - k * 2) 2 with h | h
        · omega
        · rw [List.getElem?_eq_none (by simpa using h)] at hx; cases hx
      rcases h0 with h0 | h0
      · rw [h0] at hx
        injection hx with hx
        exact ⟨b, o, rfl, by rw [← hx, ← h1]; congr 2; omega⟩
      · rw [h0] at hx
        injection hx with hx
        exact ⟨b, o, rfl, by rw [← hx, ← h2]; congr 2; omega⟩
/-- what giveShares leaves -/
def GvP (xs ys : List Nat) (n : Nat) (w : World) (e : Ending) (w' : World) : Prop :=
  ∃ A' c', e = .returned (.slice A' n c') ∧ Shs w' A' xs ys n ∧ n ≤ c' ∧ c' ≤ maxLen ∧ Below w.heap.size w w'
set_option maxRecDepth 100000 in
set_option maxHeartbeats 1000000 in
theorem give_any (A : Option Addr) (n c : Nat) (xs ys : List Nat) (w : World) (hm : n ≤ 1000) (ha : Shs w A xs ys n) :
    Calls Tryd.prog 7 #[.slice A n c] w (GvP xs ys n w) := by
  have HA := Lib.hid ha
  clear ha
  go_enter Tryd.func7, Tryd.ntmps7
  go_wp2_with fail
  go_loopw [3, 4] (fun ov i wr => ∃ (k : Nat) (A' : Option Addr) (c' : Nat), k ≤ n ∧ ov = .slice A' k c' ∧ i = .int .i64 (k : Nat) ∧ Own wr w.heap.size 47 2 A' k c' (shs xs ys k) ∧ Below w.heap.size w wr) (fun _ i _ => n - (intOf i).toNat)
  case atStart => exact ⟨0, none, 0, Nat.zero_le _, rfl, rfl, Own.none_ w w.heap.size 47 2, Below.refl _ _⟩
  case round =>
    obtain ⟨k, A', c', hk, rfl, rfl, hown, hbel⟩ := hrel
    have HO := Lib.hid hown
    have HB := Lib.hid hbel
    clear hown hbel
    by_cases h0 : k < n
    · obtain ⟨b, o, rfl, h1, h2⟩ := (HA.out.later HB.out (Nat.le_refl _)) k h0
      have k0 : (0 : Int) ≤ (k : Int) := by omega
      have hst := (show shs xs ys (k + 1) = shs xs ys k ++ [.int .u64 (xs.getD k 0 : Nat), .int .u64 (ys.getD k 0 : Nat)] from rfl)
      obtain ⟨x, hx⟩ : ∃ x, xs.getD k 0 = x := ⟨_, rfl⟩
      obtain ⟨y, hy⟩ : ∃ y, ys.getD k 0 = y := ⟨_, rfl⟩
      rw [hx] at h1 hst
      rw [hy] at h2 hst
      have HST := Lib.hid hst
      clear hx hy hst
      go_wp2_with (at_builtin; go_loud (refine wpList_app rfl elt_sh w.heap.size (.tmp 11) (.tmp 16) rfl _ rfl (HO.out.alloc _) [.int .u64 (x : Nat), .int .u64 (y : Nat)] rfl (At.lit _ _ _ _ _ rfl) rfl (by intro u hu; simp at hu; rcases hu with rfl | rfl <;> rfl) (by unfold maxLen; omega) (by omega) (by have h5 := HB.out.size; simp; omega) ?_; intro A3 c3 w3 own3 g3 _; have B3 := Lib.hid ((HB.out.alloc HB.out.size (.cells #[.int .u64 (x : Nat), .int .u64 (y : Nat)] 47)).grown g3 (by have h5 := (HB.out.alloc HB.out.size (.cells #[.int .u64 (x : Nat), .int .u64 (y : Nat)] 47)).size; exact h5) (by intro j e; exact (HO.out.lt j e).1)); have O3 := Lib.hid own3; clear own3 g3))
      go_round
      case rel => exact ⟨k + 1, A3, c3, by omega, rfl, by go_num, (by rw [HST.out]; exact O3.out), B3.out⟩
      case measure => simp [intOf]; omega
    · obtain rfl : k = n := by omega
      go_wp2_with fail
      go_ret
      exact ⟨A', c', rfl, Shs.of_at HO.out.at_, HO.out.cap.1, HO.out.cap.2, HB.out⟩
/-- of a slice of the call's own: its block -/
theorem Own.holds {w : World} {base : Nat} {e : TypeId} {size : Nat} {A : Option Addr} {n c : Nat} {vs : List Value} (h : Own w base e size A n c vs) (h0 : 0 < n) :
    ∃ g cur, A = some ⟨g, 0, none⟩ ∧ base ≤ g ∧ Holds w g e cur ∧ ∀ (i : Nat) (x : Value), vs[i]? = some x → cur[i]? = some x := by
  rcases h.lies with ⟨_, h1, _⟩ | ⟨g, rfl, hb, _⟩
  · omega
  · rcases h.2 with ⟨h1, _⟩ | ⟨g', cap, cur, hv, hb', hh, hn, hm, hc, ht⟩
    · cases h1
    · injection hv with hv h2 h3; injection hv with hv; injection hv with hv
      subst hv
      refine ⟨g, cur, rfl, hb, hh, fun i x hx => ?_⟩
      obtain ⟨b', o', e', hc'⟩ := h.at_ i x hx
      injection e' with e'; injection e' with a1 a2; subst a1; subst a2
      have := (show Holds w g e cur from hh).cell (0 + i)
      rw [hc', Nat.zero_add] at this
      exact this.symm
/-- append where there is no room: what was there stays -/
theorem wpList_grow {P : Program} {w : World} {ops : Array Oper} {rest : List Oper} {o : Oper} {a : Act} {Q : Exit → Act → World → Prop} {t e : TypeId} {z : Value} {size bytes : Nat} (E : Elt P t e z size bytes)
    (hg : o.guard = none) (s x : Operand) (hop : o.op = .call { callee := .builtin .append, args := #[s, x], argTypes := #[t, t] })
    {A : Option Addr} {n c : Nat} (olds : List Value) (hs : a.eval s = .slice A n c) (hnone : A = none → n = 0 ∧ c = 0) (hlo : olds.length = n * size) (hat : At w A olds)
    {ad : Addr} {m c2 : Nat} (news : List Value) (hx : a.eval x = .slice (some ad) m c2) (hl : news.length = m * size) (hnews : At w (some ad) news) (h1 : ∀ u ∈ news, u.oneCell' = true)
    (hfull : c < n + m) (b1 : n + m ≤ maxLen) (b2 : (n + m) * bytes ≤ 140737488355328)
    (hK : ∀ A' c' w', Own w' w.heap.size e size A' (n + m) c' (olds ++ news) → w.grownBy w' none → wpList P ops Q rest (a.put o.dst (.slice A' (n + m) c')) w') : wpList P ops Q (o :: rest) a w := by
  obtain ⟨i, hi, hz, hsize, hby⟩ := E.hi
  have conv : ∀ {B : Option Addr} {l : List Value}, At w B l → ∀ b, B = some b → ∀ j u, l[j]? = some u → w.cell? (b.add j) = some u := by
    intro B l h b e j u hu
    obtain ⟨b', o', e', hc⟩ := h j u hu
    rw [e] at e'
    injection e' with e'; subst e'
    rw [addr_add]; exact hc
  refine wpList_append_grows w hg s x t hop e i z size bytes E.ht hi hz hsize hby E.hzs E.hsz A n c olds hs hnone hlo (conv hat) ad m c2 news hx hl (conv hnews ad rfl) h1 hfull b1 b2 ?_
  intro v' w' h2 h3
  have hf : ∃ A' c', v' = .slice A' (n + m) c' := by
    rcases h2.2 with ⟨h, h0⟩ | ⟨g, cap, cur, h, _⟩
    · exact ⟨none, 0, by rw [h, h0]⟩
    · exact ⟨_, _, h⟩
  obtain ⟨A', c', rfl⟩ := hf
  exact hK A' c' w' h2 h3
end Go.Proofs.YtnofckhljoghpaaDoor
