/- Layer 18: ReceiverOnce's walk. -/
import Derived.Test.YtmkehjgcilaicaaRecvC
import Derived.BigQuiet
namespace Go.Proofs.Ytmkehjgcilaicaa
open Go.RowKit

set_option maxRecDepth 100000 in
set_option maxHeartbeats 4000000 in
theorem recvOnce_any (A : Option Addr) (n c : Nat) (l : List (Int × Int)) (w : World) (hl : l.length = n) (hm : n ≤ 9223372036854775807) (hr : At w A (prs .u8 l))
    (hby : ∀ p ∈ l, (0 ≤ p.1 ∧ p.1 < 256) ∧ (0 ≤ p.2 ∧ p.2 < 256)) :
    Calls Try.prog 6 #[.slice A n c] w fun e w' => e = .returned (.bool true) ∧ Below w.heap.size w w' := by
  have HL := Lib.hid hl; clear hl
  go_enter Try.func6, Try.ntmps6
  go_wp2_with (go_at_call 17; refine (new_any _).mono ?_; rintro e w' ⟨rfl, rfl⟩)
  go_loopw [6, 4, 5] (fun i ep nx wr => ∃ (k : Nat) (E L : Int), k ≤ n ∧ k ≤ 200 ∧ i = .int .i64 k ∧ ep = .int .i64 E ∧ nx = .int .i64 (L + 1) ∧ (0 ≤ E ∧ E ≤ 3) ∧ (0 ≤ L ∧ L ≤ 6) ∧ Holds wr w.heap.size 49 (recvOf E L) ∧ Below w.heap.size w wr) (fun i _ _ _ => 200 - (intOf i).toNat)
  case atStart => exact ⟨0, 0, 0, by omega, by omega, rfl, rfl, rfl, by omega, by omega, Holds.new _ _ _ _ rfl, (Below.refl _ _).alloc (Nat.le_refl _) _⟩
  case round =>
    obtain ⟨k, E, L, hk, hk2, rfl, rfl, rfl, hE, hL, hH, hB⟩ := hrel
    by_cases hlt : k < n
    · by_cases hlt2 : k < 200
      · obtain ⟨b, o, rfl, q0, q1⟩ := (hr.later hB (Nat.le_refl _)).pair k (by rw [HL.out]; exact hlt)
        have hbd := hby _ (List.getElem_mem (by rw [HL.out]; exact hlt : k < l.length))
        obtain ⟨e1, he1⟩ : ∃ x, (l[k]'(by rw [HL.out]; exact hlt)).1 = x := ⟨_, rfl⟩
        obtain ⟨s1, hs1⟩ : ∃ x, (l[k]'(by rw [HL.out]; exact hlt)).2 = x := ⟨_, rfl⟩
        rw [he1] at q0 hbd
        rw [hs1] at q1 hbd
        clear he1 hs1
        have HH := Lib.hid hH
        have HB := Lib.hid hB
        clear hH hB hr hby
        go_wp2
        go_quiet (fail)
        have he : 1 ≤ 1 + e1 % 3 ∧ 1 + e1 % 3 ≤ 3 := by omega
        have hs : 1 ≤ 1 + s1 % 6 ∧ 1 + s1 % 6 ≤ 6 := by omega
        generalize 1 + e1 % 3 = e at he ⊢
        generalize 1 + s1 % 6 = s at hs ⊢
        have hH1 := HH.out.drewN nq
        have hB1 : Below w.heap.size w (wr.drewN nq) := ⟨HB.out.os, HB.out.tape, HB.out.output, HB.out.size, HB.out.block⟩
        clear q0 q1 hbd HH HB
        generalize wr.drewN nq = w1 at hH1 hB1 ⊢
        have HH := Lib.hid hH1
        have HB := Lib.hid hB1
        clear hH1 hB1
        have hE' : 0 ≤ E ∧ E ≤ 1073741824 := by omega
        have hL' : 0 ≤ L ∧ L ≤ 1073741824 := by omega
        have fin := Lib.hid (fun (w2 : World) (hG : w1.grownBy w2 (some w.heap.size)) => (show Below w.heap.size w w2 from HB.out.trans (below_of_grown hG (Nat.le_refl _) HB.out.size)))
        rcases Int.lt_trichotomy e E with h | h | h
        · have hrc : rc E L e s = ((E, L), false, -1) := by rw [rc, if_pos (Or.inl h)]
          have f1 : decide (E < e) = false := by simp; omega
          have f2 : decide (e = E) = false := by simp; omega
          have f3 : ¬ (E < e) := by omega
          have f4 : ¬ (e = E) := by omega
          go_wp2_with (go_at_call 14; refine (take_any w.heap.size _ L _ _ _ hE' hL' HH.out).mono ?_; rw [hrc]; rintro e w2 ⟨rfl, hH2, hG2⟩)
          refine ⟨⟨k + 1, E, L, by omega, by omega, by simp, rfl, by simp, by omega, by omega, hH2, fin.out _ hG2⟩, by simp only [intOf]; omega⟩
        · subst h
          by_cases h2 : s = L + 1
          · subst h2
            have hrc : rc e L e (L + 1) = ((e, L + 1), true, L + 1) := by rw [rc, if_neg (by omega), if_pos (by simp)]
            go_wp2_with (go_at_call 14; refine (take_any w.heap.size _ L _ _ _ hE' hL' HH.out).mono ?_; rw [hrc]; rintro e w2 ⟨rfl, hH2, hG2⟩)
            refine ⟨⟨k + 1, e, L + 1, by omega, by omega, by simp, rfl, by simp, by omega, by omega, hH2, fin.out _ hG2⟩, by simp only [intOf]; omega⟩
          · have hrc : rc e L e s = ((e, L), false, L) := by rw [rc, if_neg (by omega), if_neg (by simpa using h2)]; simp
            have f5 : decide (s = L + 1) = false := by simp; omega
            go_wp2_with (go_at_call 14; refine (take_any w.heap.size _ L _ _ _ hE' hL' HH.out).mono ?_; rw [hrc]; rintro e w2 ⟨rfl, hH2, hG2⟩)
            refine ⟨⟨k + 1, e, L, by omega, by omega, by simp, rfl, by simp, by omega, by omega, hH2, fin.out _ hG2⟩, by simp only [intOf]; omega⟩
        · have f1 : decide (e < E) = false := by simp; omega
          have f3 : ¬ (e < E) := by omega
          by_cases h2 : s = 1
          · subst h2
            have hrc : rc E L e 1 = ((e, 1), true, 1) := by rw [rc, if_neg (by omega), if_pos (by rw [if_pos h]; rfl)]
            go_wp2_with (go_at_call 14; refine (take_any w.heap.size _ L _ _ _ hE' hL' HH.out).mono ?_; rw [hrc]; rintro e w2 ⟨rfl, hH2, hG2⟩)
            refine ⟨⟨k + 1, e, 1, by omega, by omega, by simp, rfl, by simp, by omega, by omega, hH2, fin.out _ hG2⟩, by simp only [intOf]; omega⟩
          · have hrc : rc E L e s = ((e, 0), false, 0) := by rw [rc, if_neg (by omega), if_neg (by rw [if_pos h]; simpa using h2)]; simp [h]
            have f5 : decide (s = 1) = false := by simp; omega
            go_wp2_with (go_at_call 14; refine (take_any w.heap.size _ L _ _ _ hE' hL' HH.out).mono ?_; rw [hrc]; rintro e w2 ⟨rfl, hH2, hG2⟩)
            refine ⟨⟨k + 1, e, 0, by omega, by omega, by simp, rfl, by simp, by omega, by omega, hH2, fin.out _ hG2⟩, by simp only [intOf]; omega⟩
      · go_wp2_with (go_at_call 19; refine (sure18 _).mono ?_; rintro e w' ⟨rfl, hs⟩)
        go_ret
        exact ⟨rfl, hB.trans (hs.mono hB.size)⟩
    · go_wp2_with (go_at_call 19; refine (sure18 _).mono ?_; rintro e w' ⟨rfl, hs⟩)
      go_ret
      exact ⟨rfl, hB.trans (hs.mono hB.size)⟩
end Go.Proofs.Ytmkehjgcilaicaa
