/- Layer 13: the reader. Layer 13: the reader's Num, Bytes and Done; the library's Clone. Layer 13: the reader's count and Bytes, and Read. Layer 13: the reader's Bytes, and Read. -/
import Derived.Test.YtodimanghmepoaaDoorLfB
import Derived.Deep.QuietTactic
import Derived.RegionTactic
import Derived.Deep.RegionHeld3
namespace Go.Proofs.YtodimanghmepoaaDoor
open Go.RowKit
/-- a reader: what is left, and whether something was wrong -/
def Rd (w : World) (g : Nat) (l : List Nat) (x : Bool) : Prop :=
  ∃ A c, Holds w g 150 #[.slice A l.length c, .bool x] ∧ At w A (nats .u8 l) ∧ l.length ≤ c ∧ c ≤ 9223372036854775807 ∧ blk A ≠ some g ∧ ∀ y ∈ l, y < 256
theorem at_cut {w : World} {A : Option Addr} {l : List Nat} {b o c k : Nat} (hA : A = some ⟨b, o, none⟩) (h : At w A (nats .u8 l)) (hc : l.length ≤ c) : At w (if c = k then some ⟨b, o, none⟩ else some ⟨b, o + k, none⟩) (nats .u8 (l.drop k)) := by
  subst hA
  by_cases e : c = k
  · rw [if_pos e, List.drop_of_length_le (by omega)]; exact At.nil _ _
  · rw [if_neg e, nats_drop]; exact h.cut
theorem rd_cut {w : World} {g b o n c k : Nat} {l : List Nat} {x : Bool} (hH : Holds w g 150 #[.slice (some ⟨b, o, none⟩) l.length c, .bool x]) (hn : l.length = n) (hat : At w (some ⟨b, o, none⟩) (nats .u8 l)) (h1 : n ≤ c) (h2 : c ≤ 9223372036854775807) (h3 : blk (some ⟨b, o, none⟩) ≠ some g) (h4 : ∀ y ∈ l, y < 256) (A' : Option Addr) (c' : Nat) (hA : A' = if c = k then some ⟨b, o, none⟩ else some ⟨b, o + k, none⟩) (hc : c' = c - k) (hk : k ≤ n) :
    Rd (w.setCell ⟨g, 0, none⟩ (.slice A' (n - k) c')) g (l.drop k) x ∧ w.grownBy (w.setCell ⟨g, 0, none⟩ (.slice A' (n - k) c')) (some g) := by
  have G := grown_set (grown_refl w (some g)) 0 (.slice A' (n - k) c')
  have hb : blk A' ≠ some g := by
    rw [hA]
    by_cases e : c = k
    · rw [if_pos e]; exact h3
    · rw [if_neg e]; simpa [blk] using h3
  have hl : (l.drop k).length = n - k := by rw [List.length_drop, hn]
  refine ⟨⟨A', c', ?_, ?_, by omega, by omega, hb, fun y hy => h4 y (List.mem_of_mem_drop hy)⟩, G⟩
  · rw [hl]; exact hH.set 0 _
  · refine At.grown ?_ G (.inr hb)
    rw [hA]
    exact at_cut rfl hat (by omega)
section
variable {g : Nat} {l : List Nat} {x : Bool} {w : World}
set_option maxRecDepth 100000 in
set_option maxHeartbeats 1000000 in
theorem rfail_any (h : Rd w g l x) : Calls Tryd.prog 70 #[.pointer (some ⟨g, 0, none⟩)] w fun e w' => e = .returned (.tuple #[]) ∧ Rd w' g [] true ∧ w.grownBy w' (some g) := by
  obtain ⟨A, c, H0, _⟩ := h
  have c0 := H0.cell 0
  have c1 := H0.cell 1
  have f0 := H0.frozen 0
  have f1 := H0.frozen 1
  have H1 := H0.set 0 (.slice none 0 0)
  have d1 := H1.cell 1
  have e1 := H1.frozen 1
  simp at c0 c1 d1
  have HH := Lib.hid H0
  clear H0 H1
  go_enter Tryd.func70, Tryd.ntmps70
  go_wp2_with fail
  refine bodyPost_end (v := .tuple #[]) (by simp [results, Tryd.results70, go_sem]) rfl ⟨rfl, ⟨none, 0, (HH.out.set 0 _).set 1 _, At.nil _ _, Nat.le_refl _, by omega, by simp [blk], by simp⟩, grown_set (grown_set (grown_refl _ _) 0 _) 1 _⟩
set_option maxRecDepth 100000 in
set_option maxHeartbeats 1000000 in
theorem rnumber_no (most : Nat) (h : Rd w g l x) (hd : VM.dec l = none ∨ ∃ v k, VM.dec l = some (v, k) ∧ most < v) :
    Calls Tryd.prog 62 #[.pointer (some ⟨g, 0, none⟩), .int .u64 most] w fun e w' => e = .returned (.tuple #[.int .u64 0, .bool false]) ∧ Rd w' g [] true ∧ w.grownBy w' (some g) := by
  have HR := Lib.hid h
  obtain ⟨A, c, H0, hat, h1, h2, h3, h4⟩ := h
  have c0 := H0.cell 0
  simp at c0
  have V := Lib.hid (vget_any A l.length c l w rfl (by omega) h1 h2 hat h4)
  have CF := Lib.hid (rfail_any HR.out)
  clear H0 hat h1 h2 h3 h4
  rcases hd with hd | ⟨v, k, hd, hv⟩
  · rw [vgot_none hd] at V
    clear hd
    go_enter Tryd.func62, Tryd.ntmps62
    go_wp2_with fail
    refine V.out.mono ?_
    rintro e w' ⟨rfl, rfl⟩
    go_wp2_with fail
    refine CF.out.mono ?_
    rintro e w' ⟨rfl, h1, h2⟩
    have H1 := Lib.hid h1
    have H2 := Lib.hid h2
    clear h1 h2
    go_wp2_with fail
    exact bodyPost_ret (v := .tuple #[.int .u64 0, .bool false]) (by simp [results, Tryd.results62, go_sem]) rfl ⟨rfl, H1.out, H2.out⟩
  · rw [vgot_some hd] at V
    have hv' : decide ((most : Int) < v) = true := decide_eq_true (by omega)
    clear hd
    go_enter Tryd.func62, Tryd.ntmps62
    go_wp2_with fail
    refine V.out.mono ?_
    rintro e w' ⟨rfl, rfl⟩
    go_wp2_with fail
    refine CF.out.mono ?_
    rintro e w' ⟨rfl, h1, h2⟩
    have H1 := Lib.hid h1
    have H2 := Lib.hid h2
    clear h1 h2
    go_wp2_with fail
    exact bodyPost_ret (v := .tuple #[.int .u64 0, .bool false]) (by simp [results, Tryd.results62, go_sem]) rfl ⟨rfl, H1.out, H2.out⟩
set_option maxRecDepth 100000 in
set_option maxHeartbeats 1000000 in
theorem rnumber_yes (most v k : Nat) (h : Rd w g l x) (hd : VM.dec l = some (v, k)) (hv : v ≤ most) :
    Calls Tryd.prog 62 #[.pointer (some ⟨g, 0, none⟩), .int .u64 most] w fun e w' => e = .returned (.tuple #[.int .u64 v, .bool true]) ∧ Rd w' g (l.drop k) x ∧ w.grownBy w' (some g) := by
  obtain ⟨A, c, H0, hat, h1, h2, h3, h4⟩ := h
  have c0 := H0.cell 0
  have f0 := H0.frozen 0
  simp at c0
  have V := Lib.hid (vget_any A l.length c l w rfl (by omega) h1 h2 hat h4)
  rw [vgot_some hd] at V
  have hk := VM.dec_le hd
  obtain ⟨n, hn⟩ : ∃ n, l.length = n := ⟨_, rfl⟩
  obtain ⟨b, o, rfl, _⟩ := hat.nat 0 (by omega)
  rw [hn] at V c0 hk h1
  have hk1 : (k : Int) ≤ n := by omega
  have hk2 := hk.2
  have hv' : decide ((most : Int) < v) = false := decide_eq_false (by omega)
  have hv2 : ¬ most < v := by omega
  have HK := Lib.hid hk
  have HN := Lib.hid hn
  have HT := Lib.hid hat
  have HH := Lib.hid H0
  have X1 := Lib.hid h1
  have X2 := Lib.hid h2
  have X3 := Lib.hid h3
  have X4 := Lib.hid h4
  clear hd hk hn hat H0 h1 h2 h3 h4 hv
  go_enter Tryd.func62, Tryd.ntmps62
  go_wp2_with fail
  refine V.out.mono ?_
  rintro e w' ⟨rfl, rfl⟩
  go_wp2_with fail
  · rename_i h
    exact bodyPost_ret (v := .tuple #[.int .u64 v, .bool true]) (by simp [results, Tryd.results62, go_sem]) rfl ⟨rfl, rd_cut HH.out HN.out HT.out X1.out X2.out X3.out X4.out (some ⟨b, o, none⟩) 0 (by rw [if_pos h]) (by omega) HK.out.2⟩
  · rename_i h
    exact bodyPost_ret (v := .tuple #[.int .u64 v, .bool true]) (by simp [results, Tryd.results62, go_sem]) rfl ⟨rfl, rd_cut HH.out HN.out HT.out X1.out X2.out X3.out X4.out (some ⟨b, o + k, none⟩) (c - k) (by rw [if_neg h]) rfl HK.out.2⟩
end
end Go.Proofs.YtodimanghmepoaaDoor
namespace Go.Proofs.YtodimanghmepoaaDoor
open Go.RowKit
/-- what a Clone hands back -/
def Clo (w : World) (n : Nat) (l : List Nat) (e : Ending) (w' : World) : Prop :=
  ∃ A' c', e = .returned (.slice A' n c') ∧ At w' A' (nats .u8 l) ∧ (A' = none → n = 0) ∧ (∀ k, blk A' = some k → w.heap.size ≤ k ∧ k < w'.heap.size) ∧ Below w.heap.size w w' ∧ n ≤ c' ∧ c' ≤ maxLen
set_option maxRecDepth 100000 in
set_option maxHeartbeats 1000000 in
theorem clone_any (A : Option Addr) (n c : Nat) (l : List Nat) (w : World) (hl : l.length = n) (hm : n ≤ 9000) (hr : At w A (nats .u8 l)) (hz : A = none → n = 0) :
    Calls Tryd.prog 40 #[.slice A n c] w (Clo w n l) := by
  have HL := Lib.hid hl; clear hl
  cases A with
  | none =>
    have h0 := hz rfl
    clear hz
    subst h0
    have : l = [] := List.eq_nil_of_length_eq_zero HL.out
    subst this
    clear HL hr
    go_enter Tryd.func40, Tryd.ntmps40
    have hnil := Lib.run_eql_slice_nil (P := Tryd.prog) (t := 22) (e := 5)
    go_wp2_with fail
    go_ret
    exact ⟨none, 0, rfl, At.nil _ _, fun _ => rfl, by simp [blk], Below.refl _ _, Nat.le_refl _, by unfold maxLen; omega⟩
  | some a =>
    clear hz
    go_enter Tryd.func40, Tryd.ntmps40
    have hnil := Lib.run_eql_slice_nil (P := Tryd.prog) (t := 22) (e := 5)
    have B0 : Below w.heap.size w (w.alloc (.cells #[] 5)) := (Below.refl _ _).alloc (Nat.le_refl _) _
    have hr' := Lib.hid (fun (W : World) (hW : Below w.heap.size w W) => hr.later hW (Nat.le_refl _))
    clear hr
    go_wp2_with (at_builtin; go_loud (refine wpList_app rfl elt_u8 w.heap.size (.tmp 5) (.tmp 6) rfl [] rfl (Own.lit #[] 0 (Nat.le_refl _) (by unfold maxLen; omega) rfl) (nats .u8 l) rfl (hr'.out _ B0) (by rw [nats_length, Nat.mul_one]; exact HL.out) (nats_one _ _) (by unfold maxLen; omega) (by omega) (by simp) ?_); intro A' c' w1 own1 g1 _; have B1 := B0.grown g1 (by simp) (by simp [blk]); simp only [Nat.zero_add, List.nil_append] at own1)
    go_ret
    exact ⟨A', c', rfl, own1.at_, by rintro rfl; rcases own1.lies with ⟨_, h, _⟩ | ⟨g, h, _⟩ <;> simp_all, own1.lt, B1, own1.cap⟩
theorem none_zero {w : World} {A : Option Addr} {l : List Nat} (h : At w A (nats .u8 l)) : A = none → l.length = 0 := by
  intro e
  subst e
  cases l with
  | nil => rfl
  | cons x r => obtain ⟨b, o, h1, _⟩ := h.nat 0 (by simp); cases h1
/-- whether a number is there, the number, and what is left -/
def rk (l : List Nat) (most : Nat) : Bool := match VM.dec l with | some (v, _) => decide (v ≤ most) | none => false
def rv (l : List Nat) (most : Nat) : Nat := match VM.dec l with | some (v, _) => if v ≤ most then v else 0 | none => 0
def rl (l : List Nat) (most : Nat) : List Nat := match VM.dec l with | some (v, k) => if v ≤ most then l.drop k else [] | none => []
section
variable {g : Nat} {l : List Nat} {x : Bool} {w : World}
theorem rnumber_any (most : Nat) (h : Rd w g l x) :
    Calls Tryd.prog 62 #[.pointer (some ⟨g, 0, none⟩), .int .u64 most] w fun e w' => e = .returned (.tuple #[.int .u64 (rv l most : Nat), .bool (rk l most)]) ∧ Rd w' g (rl l most) (x || !rk l most) ∧ w.grownBy w' (some g) := by
  cases hd : VM.dec l with
  | none =>
    have h1 : rk l most = false := by unfold rk; rw [hd]
    have h2 : rv l most = 0 := by unfold rv; rw [hd]
    have h3 : rl l most = [] := by unfold rl; rw [hd]
    rw [h1, h2, h3, Bool.not_false, Bool.or_true]
    exact rnumber_no most h (.inl hd)
  | some vk =>
    obtain ⟨v, k⟩ := vk
    by_cases hv : v ≤ most
    · have h1 : rk l most = true := by unfold rk; rw [hd]; exact decide_eq_true hv
      have h2 : rv l most = v := by unfold rv; rw [hd]; exact if_pos hv
      have h3 : rl l most = l.drop k := by unfold rl; rw [hd]; exact if_pos hv
      rw [h1, h2, h3, Bool.not_true, Bool.or_false]
      exact rnumber_yes most v k h hd hv
    · have h1 : rk l most = false := by unfold rk; rw [hd]; exact decide_eq_false hv
      have h2 : rv l most = 0 := by unfold rv; rw [hd]; exact if_neg hv
      have h3 : rl l most = [] := by unfold rl; rw [hd]; exact if_neg hv
      rw [h1, h2, h3, Bool.not_false, Bool.or_true]
      exact rnumber_no most h (.inr ⟨v, k, hd, by omega⟩)
set_option maxRecDepth 100000 in
set_option maxHeartbeats 1000000 in
theorem rnum_any (most : Nat) (h : Rd w g l x) :
    Calls Tryd.prog 48 #[.pointer (some ⟨g, 0, none⟩), .int .u64 most] w fun e w' => e = .returned (.int .u64 (rv l most : Nat)) ∧ Rd w' g (rl l most) (x || !rk l most) ∧ w.grownBy w' (some g) := by
  have C := Lib.hid (rnumber_any most h)
  clear h
  generalize rv l most = v at *
  generalize rk l most = k at *
  generalize rl l most = r at *
  go_enter Tryd.func48, Tryd.ntmps48
  go_wp2_with fail
  refine C.out.mono ?_
  rintro e w' ⟨rfl, h1, h2⟩
  have H1 := Lib.hid h1
  have H2 := Lib.hid h2
  clear h1 h2
  go_wp2_with fail
  go_ret
  exact ⟨rfl, H1.out, H2.out⟩
set_option maxRecDepth 100000 in
set_option maxHeartbeats 1000000 in
theorem rdone_any (h : Rd w g l x) :
    Calls Tryd.prog 50 #[.pointer (some ⟨g, 0, none⟩)] w fun e w' => e = .returned (if x || !l.isEmpty then .iface 70 (.int .i64 3) else .nilIface) ∧ w = w' := by
  obtain ⟨A, c, H0, _⟩ := h
  have c0 := H0.cell 0
  have c1 := H0.cell 1
  simp at c0 c1
  clear H0
  cases x with
  | true =>
    go_enter Tryd.func50, Tryd.ntmps50
    go_wp2_with fail
    go_ret
    exact ⟨rfl, rfl⟩
  | false =>
    cases l with
    | nil =>
      simp at c0
      go_enter Tryd.func50, Tryd.ntmps50
      go_wp2_with fail
      go_ret
      exact ⟨rfl, rfl⟩
    | cons y r =>
      obtain ⟨n, hn⟩ : ∃ n, (y :: r).length = n := ⟨_, rfl⟩
      rw [hn] at c0
      have hn' : 0 < n := by rw [← hn]; simp
      clear hn
      go_enter Tryd.func50, Tryd.ntmps50
      go_wp2_with fail
      go_ret
      exact ⟨rfl, rfl⟩
end
end Go.Proofs.YtodimanghmepoaaDoor
namespace Go.Proofs.YtodimanghmepoaaDoor
open Go.RowKit
section
variable {g : Nat} {l : List Nat} {x : Bool} {w : World}
theorem rv_le (l : List Nat) (most : Nat) : rv l most ≤ most := by
  unfold rv; split
  · split
    · assumption
    · exact Nat.zero_le _
  · exact Nat.zero_le _
theorem rl_no {l : List Nat} {most : Nat} (h : rk l most = false) : rl l most = [] := by
  unfold rk at h
  unfold rl
  split
  · rename_i v k e
    rw [e] at h
    rw [if_neg (of_decide_eq_false h)]
  · rfl
def bk (l : List Nat) : Bool := rk l 8192 && decide (rv l 8192 ≤ (rl l 8192).length)
set_option maxRecDepth 100000 in
set_option maxHeartbeats 1000000 in
theorem rcount_any (h : Rd w g l x) :
    Calls Tryd.prog 63 #[.pointer (some ⟨g, 0, none⟩), .int .i64 8192, .int .i64 1] w fun e w' => e = .returned (.tuple #[.int .i64 (if bk l then (rv l 8192 : Nat) else 0), .bool (bk l)]) ∧ Rd w' g (if bk l then rl l 8192 else []) (x || !bk l) ∧ w.grownBy w' (some g) := by
  have C := Lib.hid (rnumber_any 8192 h)
  rw [show ((8192 : Nat) : Int) = 8192 from rfl] at C
  have hv := rv_le l 8192
  have hno := rl_no (l := l) (most := 8192)
  have hmx : max (8192 : Int) 0 = 8192 := by decide
  clear h
  unfold bk
  generalize rv l 8192 = v at *
  generalize rk l 8192 = k at *
  generalize rl l 8192 = r at *
  have m1 : (v : Int) % 18446744073709551616 = v := by omega
  have m2 : (r.length : Int).tdiv 1 = r.length := by simp
  cases k with
  | false =>
    obtain rfl := hno rfl
    have C := Lib.hid C.out
    clear hno
    go_enter Tryd.func63, Tryd.ntmps63
    go_wp2_with fail
    refine C.out.mono ?_
    rintro e w' ⟨rfl, h1, h2⟩
    have H1 := Lib.hid h1
    have H2 := Lib.hid h2
    clear h1 h2 C
    go_wp2_with fail
    exact bodyPost_ret (v := .tuple #[.int .i64 0, .bool false]) (by simp [results, Tryd.results63, go_sem]) rfl ⟨rfl, by simpa using H1.out, H2.out⟩
  | true =>
    clear hno
    by_cases hvr : v ≤ r.length
    · have hd : decide (v ≤ r.length) = true := decide_eq_true hvr
      rw [hd]
      clear hd
      have hn : ¬ r.length < v := by omega
      have hn2 : decide ((r.length : Int) < v) = false := decide_eq_false (by omega)
      obtain ⟨n, hn3⟩ : ∃ n, r.length = n := ⟨_, rfl⟩
      go_enter Tryd.func63, Tryd.ntmps63
      go_wp2_with fail
      refine C.out.mono ?_
      rintro e w' ⟨rfl, h1, h2⟩
      have H1 := Lib.hid h1
      have H2 := Lib.hid h2
      obtain ⟨A, c, H0, _, a1, a2, _⟩ := h1
      have c0 := H0.cell 0
      simp at c0
      have hb1 : (r.length : Int) ≤ 9223372036854775807 := by omega
      have m3 : IntKind.u64.wrap (wrap64 (r.length : Int)) = r.length := by rw [IntWalk.wrap64_in _ ⟨by omega, hb1⟩, IntWalk.u64_in _ ⟨by omega, by omega⟩]

      clear H0 h2 C hn3 a1 a2
      go_wp2_with fail
      exact bodyPost_ret (v := .tuple #[.int .i64 v, .bool true]) (by simp [results, Tryd.results63, go_sem]) rfl ⟨rfl, by simpa using H1.out, H2.out⟩
    · have hd : decide (v ≤ r.length) = false := decide_eq_false hvr
      rw [hd]
      clear hd
      have hn : r.length < v := by omega
      have hn2 : decide ((r.length : Int) < v) = true := decide_eq_true (by omega)
      go_enter Tryd.func63, Tryd.ntmps63
      go_wp2_with fail
      refine C.out.mono ?_
      rintro e w1 ⟨rfl, h1, h2⟩
      have F1 := Lib.hid (rfail_any h1)
      have H2 := Lib.hid h2
      obtain ⟨A, c, H0, _, a1, a2, _⟩ := h1
      have c0 := H0.cell 0
      simp at c0
      have hb1 : (r.length : Int) ≤ 9223372036854775807 := by omega
      have m3 : IntKind.u64.wrap (wrap64 (r.length : Int)) = r.length := by rw [IntWalk.wrap64_in _ ⟨by omega, hb1⟩, IntWalk.u64_in _ ⟨by omega, by omega⟩]

      clear H0 h2 C a1 a2
      go_wp2_with fail
      refine F1.out.mono ?_
      rintro e w2 ⟨rfl, h3, h4⟩
      have H3 := Lib.hid h3
      have H4 := Lib.hid h4
      clear h3 h4
      go_wp2_with fail
      exact bodyPost_ret (v := .tuple #[.int .i64 0, .bool false]) (by simp [results, Tryd.results63, go_sem]) rfl ⟨rfl, by simpa using H3.out, grown_trans H2.out H4.out⟩
end
end Go.Proofs.YtodimanghmepoaaDoor
namespace Go.Proofs.YtodimanghmepoaaDoor
open Go.RowKit
theorem rd_cut2 {w : World} {g n c k : Nat} {A : Option Addr} {l : List Nat} {x : Bool} (hH : Holds w g 150 #[.slice A l.length c, .bool x]) (hn : l.length = n) (hat : At w A (nats .u8 l)) (h1 : n ≤ c) (h2 : c ≤ 9223372036854775807) (h3 : blk A ≠ some g) (h4 : ∀ y ∈ l, y < 256) (A' : Option Addr) (c' : Nat) (hA : (c = k ∧ A' = A) ∨ (¬ c = k ∧ A' = A.map (fun x => x.add k))) (hc : c' = c - k) (hk : k ≤ n) :
    Rd (w.setCell ⟨g, 0, none⟩ (.slice A' (n - k) c')) g (l.drop k) x ∧ w.grownBy (w.setCell ⟨g, 0, none⟩ (.slice A' (n - k) c')) (some g) := by
  have G := grown_set (grown_refl w (some g)) 0 (.slice A' (n - k) c')
  have hl : (l.drop k).length = n - k := by rw [List.length_drop, hn]
  have key : blk A' ≠ some g ∧ At w A' (nats .u8 (l.drop k)) := by
    rcases hA with ⟨e, rfl⟩ | ⟨e, rfl⟩
    · exact ⟨h3, by rw [List.drop_of_length_le (by omega)]; exact At.nil _ _⟩
    · cases A with
      | none => have := none_zero hat rfl
                exact ⟨by simp [blk], by rw [List.drop_of_length_le (by omega)]; exact At.nil _ _⟩
      | some a =>
        cases l with
        | nil => simp at hn; subst hn; exact ⟨by obtain ⟨b, o, m⟩ := a; simp [blk, Addr.add] at h3 ⊢; split <;> simpa using h3, by simp [nats]; exact At.nil _ _⟩
        | cons y r =>
          obtain ⟨b, o, ha, _⟩ := hat.nat 0 (by simp)
          injection ha with ha
          subst ha
          rw [Option.map_some, addr_add, nats_drop]
          exact ⟨by simpa [blk] using h3, hat.cut⟩
  refine ⟨⟨A', c', ?_, At.grown key.2 G (.inr key.1), by omega, by omega, key.1, fun y hy => h4 y (List.mem_of_mem_drop hy)⟩, G⟩
  rw [hl]; exact hH.set 0 _
section
variable {g : Nat} {l : List Nat} {x : Bool} {w : World}
/-- the bytes that are read, and what is left -/
def bb (l : List Nat) : List Nat := if bk l then (rl l 8192).take (rv l 8192) else []
def br (l : List Nat) : List Nat := if bk l then (rl l 8192).drop (rv l 8192) else []
def ByE (w : World) (g : Nat) (l : List Nat) (x : Bool) (e : Ending) (w' : World) : Prop :=
  ∃ A c, e = .returned (.slice A (bb l).length c) ∧ At w' A (nats .u8 (bb l)) ∧ Rd w' g (br l) (x || !bk l) ∧ w.grownBy w' (some g) ∧ (∀ k, blk A = some k → w.heap.size ≤ k ∧ k < w'.heap.size)
set_option maxRecDepth 100000 in
set_option maxHeartbeats 1000000 in
theorem rbytes_any (h : Rd w g l x) :
    Calls Tryd.prog 49 #[.pointer (some ⟨g, 0, none⟩), .int .i64 8192] w (ByE w g l x) := by
  have C := Lib.hid (rcount_any h)
  clear h
  have hle : bk l = true → rv l 8192 ≤ (rl l 8192).length := fun e => by
    unfold bk at e
    rw [Bool.and_eq_true] at e
    exact of_decide_eq_true e.2
  have hv := rv_le l 8192
  cases hb : bk l with
  | false =>
    rw [hb] at C
    have e1 : bb l = [] := by unfold bb; rw [hb]; rfl
    have e2 : br l = [] := by unfold br; rw [hb]; rfl
    have HE := Lib.hid (⟨e1, e2, hb⟩ : bb l = [] ∧ br l = [] ∧ bk l = false)
    clear e1 e2 hb hle
    go_enter Tryd.func49, Tryd.ntmps49
    go_wp2_with fail
    refine C.out.mono ?_
    rintro e w' ⟨rfl, h1, h2⟩
    have H1 := Lib.hid h1
    have H2 := Lib.hid h2
    clear h1 h2 C
    go_wp2_with fail
    go_ret
    refine ⟨none, 0, by rw [HE.out.1]; rfl, by rw [HE.out.1]; exact At.nil _ _, by rw [HE.out.2.1, HE.out.2.2]; simpa using H1.out, H2.out, (fun k h => by cases h)⟩
  | true =>
    rw [hb] at C
    have hle := hle hb
    have e1 : bb l = (rl l 8192).take (rv l 8192) := by unfold bb; rw [hb]; rfl
    have e2 : br l = (rl l 8192).drop (rv l 8192) := by unfold br; rw [hb]; rfl
    have HE := Lib.hid (⟨e1, e2, hb⟩ : bb l = _ ∧ br l = _ ∧ bk l = true)
    clear e1 e2 hb
    generalize rv l 8192 = v at *
    generalize rl l 8192 = r at *
    rw [if_pos rfl, if_pos rfl, Bool.not_true, Bool.or_false] at C
    obtain ⟨n, hn⟩ : ∃ n, r.length = n := ⟨_, rfl⟩
    rw [hn] at hle
    have HL := Lib.hid hn
    have hle' : (v : Int) ≤ n := by omega
    clear hn
    go_enter Tryd.func49, Tryd.ntmps49
    go_wp2_with fail
    refine C.out.mono ?_
    rintro e w1 ⟨rfl, h1, h2⟩
    have H2 := Lib.hid h2
    obtain ⟨A, c, H0, a0, a1, a2, a3, a4⟩ := h1
    have c0 := H0.cell 0
    simp at c0
    rw [HL.out] at c0 a1
    have hvc : v ≤ c := by omega
    have hvc' : (v : Int) ≤ c := by omega
    have htk : (r.take v).length = v := by rw [List.length_take, HL.out]; omega
    have CL := Lib.hid (clone_any A v c (r.take v) w1 htk (by omega) (by rw [nats_take]; exact a0.take) (fun e => by have := none_zero a0 e; rw [HL.out] at this; omega))
    have HH := Lib.hid H0
    have X0 := Lib.hid a0
    have X1 := Lib.hid a1
    have X2 := Lib.hid a2
    have X3 := Lib.hid a3
    have X4 := Lib.hid a4
    clear H0 a0 a1 a2 a3 a4 h2 C
    go_wp2_with fail
    refine CL.out.mono ?_
    rintro e w2 ⟨A', c', rfl, t2, _, t3, b2, _⟩
    have T3 := Lib.hid t3
    clear t3
    have T2 := Lib.hid t2
    have B2 := Lib.hid b2
    have H3 := Lib.hid (HH.out.later b2 (Nat.le_refl _))
    have c1 := H3.out.cell 0
    simp at c1
    rw [HL.out] at c1
    have f1 := H3.out.frozen 0
    clear t2 b2 c0 CL
    go_wp2_with fail
    · rename_i h
      have R := rd_cut2 H3.out HL.out (X0.out.later B2.out (Nat.le_refl _)) X1.out X2.out X3.out X4.out A 0 (.inl ⟨h, rfl⟩) (by omega) hle
      have N : blk A' ≠ some g := fun e => by have := (T3.out g e).1; have := HH.out.lt; omega
      go_ret
      exact ⟨A', c', by rw [HE.out.1, htk]; rfl, by rw [HE.out.1]; exact T2.out.grown R.2 (.inr N), by rw [HE.out.2.1, HE.out.2.2]; simpa using R.1, grown_trans (grown_below H2.out B2.out) R.2, fun k e => ⟨Nat.le_trans H2.out.size (T3.out k e).1, Nat.lt_of_lt_of_le (T3.out k e).2 R.2.size⟩⟩
    · rename_i h
      have R := rd_cut2 H3.out HL.out (X0.out.later B2.out (Nat.le_refl _)) X1.out X2.out X3.out X4.out (Option.map (fun x => x.add v) A) (c - v) (.inr ⟨h, rfl⟩) rfl hle
      have N : blk A' ≠ some g := fun e => by have := (T3.out g e).1; have := HH.out.lt; omega
      go_ret
      exact ⟨A', c', by rw [HE.out.1, htk]; rfl, by rw [HE.out.1]; exact T2.out.grown R.2 (.inr N), by rw [HE.out.2.1, HE.out.2.2]; simpa using R.1, grown_trans (grown_below H2.out B2.out) R.2, fun k e => ⟨Nat.le_trans H2.out.size (T3.out k e).1, Nat.lt_of_lt_of_le (T3.out k e).2 R.2.size⟩⟩
set_option maxRecDepth 100000 in
set_option maxHeartbeats 1000000 in
theorem read_any (A : Option Addr) (n c : Nat) (l : List Nat) (w : World) (hl : l.length = n) (hm : n ≤ 9000) (hr : At w A (nats .u8 l)) (hb : ∀ y ∈ l, y < 256) :
    Calls Tryd.prog 47 #[.slice A n c] w fun e w' => ∃ g, e = .returned (.pointer (some ⟨g, 0, none⟩)) ∧ w.heap.size ≤ g ∧ Rd w' g l false ∧ Below w.heap.size w w' := by
  have C := Lib.hid (clone_any A n c l w hl hm hr (fun e => by have := none_zero hr e; omega))
  have HL := Lib.hid hl
  have HB := Lib.hid hb
  clear hl hr hb
  go_enter Tryd.func47, Tryd.ntmps47
  go_wp2_with fail
  refine C.out.mono ?_
  rintro e w1 ⟨A', c', rfl, t1, t2, t3, b1, b3, b4⟩
  have B3 := Lib.hid b3
  have B4 := Lib.hid b4
  clear b3 b4
  have T1 := Lib.hid t1
  have T3 := Lib.hid t3
  have B1 := Lib.hid b1
  clear t1 t2 t3 b1 C
  go_wp2_with fail
  go_ret
  have HH := Holds.new w1 150 #[.slice A' n c', .bool false] w1.heap.size rfl
  have NB := (Below.refl w1.heap.size w1).alloc (Nat.le_refl _) (.cells #[.slice A' n c', .bool false] 150)
  refine ⟨w1.heap.size, rfl, B1.out.size, ⟨A', c', by rw [HL.out]; exact HH, T1.out.later NB (Nat.le_refl _), by rw [HL.out]; exact B3.out, by have := B4.out; unfold maxLen at this; omega, fun e => Nat.lt_irrefl _ (T3.out _ e).2, HB.out⟩, B1.out.trans (NB.mono B1.out.size)⟩
end
end Go.Proofs.YtodimanghmepoaaDoor
