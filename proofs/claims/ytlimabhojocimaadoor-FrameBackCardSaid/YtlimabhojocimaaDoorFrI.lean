/- Layer 13: the reader's Bytes, and Read. -/
import Derived.Test.YtlimabhojocimaaDoorFrH
namespace Go.Proofs.YtlimabhojocimaaDoor
open Go.RowKit
theorem rd_cut2 {w : World} {g n c k : Nat} {A : Option Addr} {l : List Nat} {x : Bool} (hH : Holds w g 84 #[.slice A l.length c, .bool x]) (hn : l.length = n) (hat : At w A (nats .u8 l)) (h1 : n ≤ c) (h2 : c ≤ 9223372036854775807) (h3 : blk A ≠ some g) (h4 : ∀ y ∈ l, y < 256) (A' : Option Addr) (c' : Nat) (hA : (c = k ∧ A' = A) ∨ (¬ c = k ∧ A' = A.map (fun x => x.add k))) (hc : c' = c - k) (hk : k ≤ n) :
    Rd (w.setCell ⟨g, 0, none⟩ (.slice A' (n - k) c')) g (l.drop k) x ∧ w.grownBy (w.setCell ⟨g, 0, none⟩ (.slice A' (n - k) c')) (some g) := by
  have G := grown_set (grown_refl w (some g)) 0 (.slice A' (n - k) c')
  have hl : (l.drop k).length = n - k := by rw [List.length_drop, hn]
  have key : blk A' ≠ some g ∧ At w A' (nats .u8 (l.drop k)) := by
    rcases hA with ⟨e, rfl⟩ | ⟨e, rfl⟩
    · exact ⟨h3, by rw [List.drop_of_length_le (by omega)]; exact At.nil _ _⟩
    · cases A with
      | none => have := none_zero hat rfl
                exact ⟨by simp [blk], by rw [List.drop_of_length_le (by omega)]; exact At.nil _ _⟩
      | some a =>
        cases l with
        | nil => simp at hn; subst hn; exact ⟨by obtain ⟨b, o, m⟩ := a; simp [blk, Addr.add] at h3 ⊢; split <;> simpa using h3, by simp [nats]; exact At.nil _ _⟩
        | cons y r =>
          obtain ⟨b, o, ha, _⟩ := hat.nat 0 (by simp)
          injection ha with ha
          subst ha
          rw [Option.map_some, addr_add, nats_drop]
          exact ⟨by simpa [blk] using h3, hat.cut⟩
  refine ⟨⟨A', c', ?_, At.grown key.2 G (.inr key.1), by omega, by omega, key.1, fun y hy => h4 y (List.mem_of_mem_drop hy)⟩, G⟩
  rw [hl]; exact hH.set 0 _
section
variable {g : Nat} {l : List Nat} {x : Bool} {w : World}
/-- the bytes that are read, and what is left -/
def bb (l : List Nat) : List Nat := if bk l then (rl l 8192).take (rv l 8192) else []
def br (l : List Nat) : List Nat := if bk l then (rl l 8192).drop (rv l 8192) else []
def ByE (w : World) (g : Nat) (l : List Nat) (x : Bool) (e : Ending) (w' : World) : Prop :=
  ∃ A c, e = .returned (.slice A (bb l).length c) ∧ At w' A (nats .u8 (bb l)) ∧ Rd w' g (br l) (x || !bk l) ∧ w.grownBy w' (some g)
set_option maxRecDepth 100000 in
set_option maxHeartbeats 1000000 in
theorem rbytes_any (h : Rd w g l x) :
    Calls Tryd.prog 26 #[.pointer (some ⟨g, 0, none⟩), .int .i64 8192] w (ByE w g l x) := by
  have C := Lib.hid (rcount_any h)
  clear h
  have hle : bk l = true → rv l 8192 ≤ (rl l 8192).length := fun e => by
    unfold bk at e
    rw [Bool.and_eq_true] at e
    exact of_decide_eq_true e.2
  have hv := rv_le l 8192
  cases hb : bk l with
  | false =>
    rw [hb] at C
    have e1 : bb l = [] := by unfold bb; rw [hb]; rfl
    have e2 : br l = [] := by unfold br; rw [hb]; rfl
    have HE := Lib.hid (⟨e1, e2, hb⟩ : bb l = [] ∧ br l = [] ∧ bk l = false)
    clear e1 e2 hb hle
    go_enter Tryd.func26, Tryd.ntmps26
    go_wp2_with fail
    refine C.out.mono ?_
    rintro e w' ⟨rfl, h1, h2⟩
    have H1 := Lib.hid h1
    have H2 := Lib.hid h2
    clear h1 h2 C
    go_wp2_with fail
    go_ret
    refine ⟨none, 0, by rw [HE.out.1]; rfl, by rw [HE.out.1]; exact At.nil _ _, by rw [HE.out.2.1, HE.out.2.2]; simpa using H1.out, H2.out⟩
  | true =>
    rw [hb] at C
    have hle := hle hb
    have e1 : bb l = (rl l 8192).take (rv l 8192) := by unfold bb; rw [hb]; rfl
    have e2 : br l = (rl l 8192).drop (rv l 8192) := by unfold br; rw [hb]; rfl
    have HE := Lib.hid (⟨e1, e2, hb⟩ : bb l = _ ∧ br l = _ ∧ bk l = true)
    clear e1 e2 hb
    generalize rv l 8192 = v at *
    generalize rl l 8192 = r at *
    rw [if_pos rfl, if_pos rfl, Bool.not_true, Bool.or_false] at C
    obtain ⟨n, hn⟩ : ∃ n, r.length = n := ⟨_, rfl⟩
    rw [hn] at hle
    have HL := Lib.hid hn
    have hle' : (v : Int) ≤ n := by omega
    clear hn
    go_enter Tryd.func26, Tryd.ntmps26
    go_wp2_with fail
    refine C.out.mono ?_
    rintro e w1 ⟨rfl, h1, h2⟩
    have H2 := Lib.hid h2
    obtain ⟨A, c, H0, a0, a1, a2, a3, a4⟩ := h1
    have c0 := H0.cell 0
    simp at c0
    rw [HL.out] at c0 a1
    have hvc : v ≤ c := by omega
    have hvc' : (v : Int) ≤ c := by omega
    have htk : (r.take v).length = v := by rw [List.length_take, HL.out]; omega
    have CL := Lib.hid (clone_any A v c (r.take v) w1 htk (by omega) (by rw [nats_take]; exact a0.take) (fun e => by have := none_zero a0 e; rw [HL.out] at this; omega))
    have HH := Lib.hid H0
    have X0 := Lib.hid a0
    have X1 := Lib.hid a1
    have X2 := Lib.hid a2
    have X3 := Lib.hid a3
    have X4 := Lib.hid a4
    clear H0 a0 a1 a2 a3 a4 h2 C
    go_wp2_with fail
    refine CL.out.mono ?_
    rintro e w2 ⟨A', c', rfl, t2, _, t3, b2, _⟩
    have T3 := Lib.hid t3
    clear t3
    have T2 := Lib.hid t2
    have B2 := Lib.hid b2
    have H3 := Lib.hid (HH.out.later b2 (Nat.le_refl _))
    have c1 := H3.out.cell 0
    simp at c1
    rw [HL.out] at c1
    have f1 := H3.out.frozen 0
    clear t2 b2 c0 CL
    go_wp2_with fail
    · rename_i h
      have R := rd_cut2 H3.out HL.out (X0.out.later B2.out (Nat.le_refl _)) X1.out X2.out X3.out X4.out A 0 (.inl ⟨h, rfl⟩) (by omega) hle
      have N : blk A' ≠ some g := fun e => by have := (T3.out g e).1; have := HH.out.lt; omega
      go_ret
      exact ⟨A', c', by rw [HE.out.1, htk]; rfl, by rw [HE.out.1]; exact T2.out.grown R.2 (.inr N), by rw [HE.out.2.1, HE.out.2.2]; simpa using R.1, grown_trans (grown_below H2.out B2.out) R.2⟩
    · rename_i h
      have R := rd_cut2 H3.out HL.out (X0.out.later B2.out (Nat.le_refl _)) X1.out X2.out X3.out X4.out (Option.map (fun x => x.add v) A) (c - v) (.inr ⟨h, rfl⟩) rfl hle
      have N : blk A' ≠ some g := fun e => by have := (T3.out g e).1; have := HH.out.lt; omega
      go_ret
      exact ⟨A', c', by rw [HE.out.1, htk]; rfl, by rw [HE.out.1]; exact T2.out.grown R.2 (.inr N), by rw [HE.out.2.1, HE.out.2.2]; simpa using R.1, grown_trans (grown_below H2.out B2.out) R.2⟩
set_option maxRecDepth 100000 in
set_option maxHeartbeats 1000000 in
theorem read_any (A : Option Addr) (n c : Nat) (l : List Nat) (w : World) (hl : l.length = n) (hm : n ≤ 9000) (hr : At w A (nats .u8 l)) (hb : ∀ y ∈ l, y < 256) :
    Calls Tryd.prog 24 #[.slice A n c] w fun e w' => ∃ g, e = .returned (.pointer (some ⟨g, 0, none⟩)) ∧ w.heap.size ≤ g ∧ Rd w' g l false ∧ Below w.heap.size w w' := by
  have C := Lib.hid (clone_any A n c l w hl hm hr (fun e => by have := none_zero hr e; omega))
  have HL := Lib.hid hl
  have HB := Lib.hid hb
  clear hl hr hb
  go_enter Tryd.func24, Tryd.ntmps24
  go_wp2_with fail
  refine C.out.mono ?_
  rintro e w1 ⟨A', c', rfl, t1, t2, t3, b1, b3, b4⟩
  have B3 := Lib.hid b3
  have B4 := Lib.hid b4
  clear b3 b4
  have T1 := Lib.hid t1
  have T3 := Lib.hid t3
  have B1 := Lib.hid b1
  clear t1 t2 t3 b1 C
  go_wp2_with fail
  go_ret
  have HH := Holds.new w1 84 #[.slice A' n c', .bool false] w1.heap.size rfl
  have NB := (Below.refl w1.heap.size w1).alloc (Nat.le_refl _) (.cells #[.slice A' n c', .bool false] 84)
  refine ⟨w1.heap.size, rfl, B1.out.size, ⟨A', c', by rw [HL.out]; exact HH, T1.out.later NB (Nat.le_refl _), by rw [HL.out]; exact B3.out, by have := B4.out; unfold maxLen at this; omega, fun e => Nat.lt_irrefl _ (T3.out _ e).2, HB.out⟩, B1.out.trans (NB.mono B1.out.size)⟩
end
end Go.Proofs.YtlimabhojocimaaDoor
