/- Layer 13: the reader. -/
import Derived.Test.YtlimabhojocimaaDoorFrE
namespace Go.Proofs.YtlimabhojocimaaDoor
open Go.RowKit
/-- a reader: what is left, and whether something was wrong -/
def Rd (w : World) (g : Nat) (l : List Nat) (x : Bool) : Prop :=
  ∃ A c, Holds w g 84 #[.slice A l.length c, .bool x] ∧ At w A (nats .u8 l) ∧ l.length ≤ c ∧ c ≤ 9223372036854775807 ∧ blk A ≠ some g ∧ ∀ y ∈ l, y < 256
theorem at_cut {w : World} {A : Option Addr} {l : List Nat} {b o c k : Nat} (hA : A = some ⟨b, o, none⟩) (h : At w A (nats .u8 l)) (hc : l.length ≤ c) : At w (if c = k then some ⟨b, o, none⟩ else some ⟨b, o + k, none⟩) (nats .u8 (l.drop k)) := by
  subst hA
  by_cases e : c = k
  · rw [if_pos e, List.drop_of_length_le (by omega)]; exact At.nil _ _
  · rw [if_neg e, nats_drop]; exact h.cut
theorem rd_cut {w : World} {g b o n c k : Nat} {l : List Nat} {x : Bool} (hH : Holds w g 84 #[.slice (some ⟨b, o, none⟩) l.length c, .bool x]) (hn : l.length = n) (hat : At w (some ⟨b, o, none⟩) (nats .u8 l)) (h1 : n ≤ c) (h2 : c ≤ 9223372036854775807) (h3 : blk (some ⟨b, o, none⟩) ≠ some g) (h4 : ∀ y ∈ l, y < 256) (A' : Option Addr) (c' : Nat) (hA : A' = if c = k then some ⟨b, o, none⟩ else some ⟨b, o + k, none⟩) (hc : c' = c - k) (hk : k ≤ n) :
    Rd (w.setCell ⟨g, 0, none⟩ (.slice A' (n - k) c')) g (l.drop k) x ∧ w.grownBy (w.setCell ⟨g, 0, none⟩ (.slice A' (n - k) c')) (some g) := by
  have G := grown_set (grown_refl w (some g)) 0 (.slice A' (n - k) c')
  have hb : blk A' ≠ some g := by
    rw [hA]
    by_cases e : c = k
    · rw [if_pos e]; exact h3
    · rw [if_neg e]; simpa [blk] using h3
  have hl : (l.drop k).length = n - k := by rw [List.length_drop, hn]
  refine ⟨⟨A', c', ?_, ?_, by omega, by omega, hb, fun y hy => h4 y (List.mem_of_mem_drop hy)⟩, G⟩
  · rw [hl]; exact hH.set 0 _
  · refine At.grown ?_ G (.inr hb)
    rw [hA]
    exact at_cut rfl hat (by omega)
section
variable {g : Nat} {l : List Nat} {x : Bool} {w : World}
set_option maxRecDepth 100000 in
set_option maxHeartbeats 1000000 in
theorem rfail_any (h : Rd w g l x) : Calls Tryd.prog 46 #[.pointer (some ⟨g, 0, none⟩)] w fun e w' => e = .returned (.tuple #[]) ∧ Rd w' g [] true ∧ w.grownBy w' (some g) := by
  obtain ⟨A, c, H0, _⟩ := h
  have c0 := H0.cell 0
  have c1 := H0.cell 1
  have f0 := H0.frozen 0
  have f1 := H0.frozen 1
  have H1 := H0.set 0 (.slice none 0 0)
  have d1 := H1.cell 1
  have e1 := H1.frozen 1
  simp at c0 c1 d1
  have HH := Lib.hid H0
  clear H0 H1
  go_enter Tryd.func46, Tryd.ntmps46
  go_wp2_with fail
  refine bodyPost_end (v := .tuple #[]) (by simp [results, Tryd.results46, go_sem]) rfl ⟨rfl, ⟨none, 0, (HH.out.set 0 _).set 1 _, At.nil _ _, Nat.le_refl _, by omega, by simp [blk], by simp⟩, grown_set (grown_set (grown_refl _ _) 0 _) 1 _⟩
set_option maxRecDepth 100000 in
set_option maxHeartbeats 1000000 in
theorem rnumber_no (most : Nat) (h : Rd w g l x) (hd : VM.dec l = none ∨ ∃ v k, VM.dec l = some (v, k) ∧ most < v) :
    Calls Tryd.prog 37 #[.pointer (some ⟨g, 0, none⟩), .int .u64 most] w fun e w' => e = .returned (.tuple #[.int .u64 0, .bool false]) ∧ Rd w' g [] true ∧ w.grownBy w' (some g) := by
  have HR := Lib.hid h
  obtain ⟨A, c, H0, hat, h1, h2, h3, h4⟩ := h
  have c0 := H0.cell 0
  simp at c0
  have V := Lib.hid (vget_any A l.length c l w rfl (by omega) h1 h2 hat h4)
  have CF := Lib.hid (rfail_any HR.out)
  clear H0 hat h1 h2 h3 h4
  rcases hd with hd | ⟨v, k, hd, hv⟩
  · rw [vgot_none hd] at V
    clear hd
    go_enter Tryd.func37, Tryd.ntmps37
    go_wp2_with fail
    refine V.out.mono ?_
    rintro e w' ⟨rfl, rfl⟩
    go_wp2_with fail
    refine CF.out.mono ?_
    rintro e w' ⟨rfl, h1, h2⟩
    have H1 := Lib.hid h1
    have H2 := Lib.hid h2
    clear h1 h2
    go_wp2_with fail
    exact bodyPost_ret (v := .tuple #[.int .u64 0, .bool false]) (by simp [results, Tryd.results37, go_sem]) rfl ⟨rfl, H1.out, H2.out⟩
  · rw [vgot_some hd] at V
    have hv' : decide ((most : Int) < v) = true := decide_eq_true (by omega)
    clear hd
    go_enter Tryd.func37, Tryd.ntmps37
    go_wp2_with fail
    refine V.out.mono ?_
    rintro e w' ⟨rfl, rfl⟩
    go_wp2_with fail
    refine CF.out.mono ?_
    rintro e w' ⟨rfl, h1, h2⟩
    have H1 := Lib.hid h1
    have H2 := Lib.hid h2
    clear h1 h2
    go_wp2_with fail
    exact bodyPost_ret (v := .tuple #[.int .u64 0, .bool false]) (by simp [results, Tryd.results37, go_sem]) rfl ⟨rfl, H1.out, H2.out⟩
set_option maxRecDepth 100000 in
set_option maxHeartbeats 1000000 in
theorem rnumber_yes (most v k : Nat) (h : Rd w g l x) (hd : VM.dec l = some (v, k)) (hv : v ≤ most) :
    Calls Tryd.prog 37 #[.pointer (some ⟨g, 0, none⟩), .int .u64 most] w fun e w' => e = .returned (.tuple #[.int .u64 v, .bool true]) ∧ Rd w' g (l.drop k) x ∧ w.grownBy w' (some g) := by
  obtain ⟨A, c, H0, hat, h1, h2, h3, h4⟩ := h
  have c0 := H0.cell 0
  have f0 := H0.frozen 0
  simp at c0
  have V := Lib.hid (vget_any A l.length c l w rfl (by omega) h1 h2 hat h4)
  rw [vgot_some hd] at V
  have hk := VM.dec_le hd
  obtain ⟨n, hn⟩ : ∃ n, l.length = n := ⟨_, rfl⟩
  obtain ⟨b, o, rfl, _⟩ := hat.nat 0 (by omega)
  rw [hn] at V c0 hk h1
  have hk1 : (k : Int) ≤ n := by omega
  have hk2 := hk.2
  have hv' : decide ((most : Int) < v) = false := decide_eq_false (by omega)
  have hv2 : ¬ most < v := by omega
  have HK := Lib.hid hk
  have HN := Lib.hid hn
  have HT := Lib.hid hat
  have HH := Lib.hid H0
  have X1 := Lib.hid h1
  have X2 := Lib.hid h2
  have X3 := Lib.hid h3
  have X4 := Lib.hid h4
  clear hd hk hn hat H0 h1 h2 h3 h4 hv
  go_enter Tryd.func37, Tryd.ntmps37
  go_wp2_with fail
  refine V.out.mono ?_
  rintro e w' ⟨rfl, rfl⟩
  go_wp2_with fail
  · rename_i h
    exact bodyPost_ret (v := .tuple #[.int .u64 v, .bool true]) (by simp [results, Tryd.results37, go_sem]) rfl ⟨rfl, rd_cut HH.out HN.out HT.out X1.out X2.out X3.out X4.out (some ⟨b, o, none⟩) 0 (by rw [if_pos h]) (by omega) HK.out.2⟩
  · rename_i h
    exact bodyPost_ret (v := .tuple #[.int .u64 v, .bool true]) (by simp [results, Tryd.results37, go_sem]) rfl ⟨rfl, rd_cut HH.out HN.out HT.out X1.out X2.out X3.out X4.out (some ⟨b, o + k, none⟩) (c - k) (by rw [if_neg h]) rfl HK.out.2⟩
end
end Go.Proofs.YtlimabhojocimaaDoor
