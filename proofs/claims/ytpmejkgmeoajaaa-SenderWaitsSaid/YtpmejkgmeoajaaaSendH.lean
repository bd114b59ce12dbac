/- Layer 17: SenderWaits' walk. -/
import Derived.Test.YtpmejkgmeoajaaaSendG
import Derived.Test.YtpmejkgmeoajaaaPairs
import Derived.Laws.PanicsMore
namespace Go.Proofs.Ytpmejkgmeoajaaa
open Go.RowKit
theorem wrap_small (y : Int) (h : 0 ≤ y ∧ y < 9223372036854775808) : IntKind.i64.wrap y = y := by
  unfold IntKind.wrap
  simp [IntKind.signed, IntKind.bits]
  omega
theorem idx6 (w : World) (k : Nat) (hk : k < 6) : (Instr.index 37 (.agg #[.int .i64 3, .int .i64 6, .int .i64 12, .int .i64 24, .int .i64 24, .int .i64 24]) (.int .i64 k)).run Try.prog w = .ok (.int .i64 (3 * 2 ^ (min k 3) : Nat)) w := by
  have hi : ∃ i, (Try.prog).info? 3 = some i ∧ i.size = 1 := ⟨_, rfl, by kernel_rfl⟩
  obtain ⟨i, hi, hs⟩ := hi
  have hk6 : k = 0 ∨ k = 1 ∨ k = 2 ∨ k = 3 ∨ k = 4 ∨ k = 5 := by omega
  rcases hk6 with rfl | rfl | rfl | rfl | rfl | rfl <;> simp [Instr.index, run_underlying Try.underlying37, asIntOf, sizeOf, typeInfo, hi, hs, go_sem]
set_option maxRecDepth 100000 in
set_option maxHeartbeats 2000000 in
theorem waits17_any (A : Option Addr) (n c : Nat) (b : List Nat) (x : Nat) (A2 : Option Addr) (n2 c2 : Nat) (l2 : List (Int × Int)) (w : World) (hl : b.length = n) (hl2 : l2.length = n2) (hx : x < 256) (hm : n ≤ 9223372036854775807) (hm2 : n2 ≤ 9223372036854775807)
    (ha : At w A (nats .u8 b)) (hz : A = none → n = 0) (ha2 : At w A2 (prs .i64 l2)) :
    Calls Try.prog 4 #[.slice A n c, .int .u8 x, .slice A2 n2 c2] w fun e w' => e = .returned (.bool true) ∧ Below w.heap.size w w' := by
  have H0 := new_snd (1 + x) w w.heap.size (Nat.le_refl _)
  have B0 : Below w.heap.size w (w.alloc (.cells (sndOf (1 + x) 1 none 0 0 0 0) 43)) := (Below.refl _ _).alloc (Nat.le_refl _) _
  have HA := Lib.hid ha
  have HA2 := Lib.hid ha2
  have HZ := Lib.hid hz
  have HL := Lib.hid hl
  have HL2 := Lib.hid hl2
  clear ha ha2 hz hl hl2
  have hz0 : (w.alloc (.cells (sndOf (1 + x) 1 none 0 0 0 0) 43)).heap.size = w.heap.size + 1 := by simp
  by_cases hn : n ≤ 300
  · have hd : decide (300 < (n : Int)) = false := by simp; omega
    go_enter Try.func4, Try.ntmps4
    go_wp2_with (go_at_call 5; refine (new_any (1 + x) _ (by omega)).mono ?_; rintro e w' ⟨rfl, rfl⟩; generalize (w.alloc (.cells (sndOf (1 + x) 1 none 0 0 0 0) 43)) = w0 at *)
    have P0 := put_any _ H0 (by decide) (by decide) B0.size A c b (by have := HL.out; omega) (HA.out.later B0 (Nat.le_refl _)) (by rw [HL.out]; exact HZ.out)
    rw [HL.out] at P0
    refine P0.mono ?_
    rintro e w1 ⟨rfl, ⟨A1, n1, c1, v1, H1⟩, B1⟩
    have B01 := B0.trans B1
    have H1' : Snd w1 w.heap.size w.heap.size [] (1 + x) 1 A1 n1 c1 v1 [b] 0 0 := H1
    clear H0 B0 B1 H1 hz0 P0
    go_wp2_with fail
    go_loopw [9] (fun i wr => ∃ (k : Nat) (A' : Option Addr) (n' c' : Nat) (v' : List Value), k ≤ 6 ∧ i = .int .i64 k ∧ Snd wr w.heap.size w.heap.size [] (1 + x) 1 A' n' c' v' [b] ((min k 3 : Nat) : Int) 0 ∧ Below w.heap.size w wr) (fun i _ => 6 - (intOf i).toNat)
    case atStart => exact ⟨0, _, _, _, _, by omega, rfl, H1', B01⟩
    case round =>
      obtain ⟨k, A', n', c', v', hk, rfl, hS, hB⟩ := hrel
      clear H1' B01
      by_cases hlt : k < 6
      · obtain ⟨W, hWe⟩ : ∃ W, 3 * 2 ^ (min k 3) = W := ⟨_, rfl⟩
        have hW : W ≤ 24 := by
          have hk4 : min k 3 = 0 ∨ min k 3 = 1 ∨ min k 3 = 2 ∨ min k 3 = 3 := by omega
          rcases hk4 with h | h | h | h <;> rw [h] at hWe <;> omega
        have ki : ∀ V, (Instr.index 37 (.agg #[.int .i64 3, .int .i64 6, .int .i64 12, .int .i64 24, .int .i64 24, .int .i64 24]) (.int .i64 k)).run Try.prog V = .ok (.int .i64 W) V := fun V => hWe ▸ idx6 V k hlt
        have H2 : Snd wr w.heap.size w.heap.size [] (1 + x) 1 A' n' c' v' (b :: []) ((min k 3 : Nat) : Int) 0 := hS
        have O := out_some wr (min k 3) (by omega) H2 hB.size
        rw [hWe, show min (min k 3 + 1) 3 = min (k + 1) 3 by omega] at O
        have HB := Lib.hid hB
        have HO := Lib.hid O
        clear hS hB H2 hWe O
        go_wp2_with (go_at_call 8; refine HO.out.mono ?_; rintro e w5 ⟨A5, c5, rfl, at5, ⟨A6, n6, c6, v6, H6⟩, B5⟩; have kb : (convert 23 9 (.slice A5 b.length c5)).run Try.prog w5 = .ok (.string (strN b)) w5 := run_str (e := 5) w5 (by kernel_rfl) (by kernel_rfl) (by kernel_rfl) rfl at5; have kd : (convert 23 9 (.slice A n c)).run Try.prog w5 = .ok (.string (strN b)) w5 := run_str (e := 5) w5 (by kernel_rfl) (by kernel_rfl) (by kernel_rfl) HL.out (HA.out.later (HB.out.trans B5) (Nat.le_refl _)); have H6' := Lib.hid H6; have B5' := Lib.hid B5; clear H6 B5 at5)
        have H6a : Snd w5 w.heap.size w.heap.size [] (1 + x) 1 A6 n6 c6 v6 [b] ((min (k + 1) 3 : Nat) : Int) ((W : Int) - (0 : Nat)) := by
          have := H6'.out.less (ys := []) (by simp)
          simpa using this
        have B05 := HB.out.trans B5'.out
        clear kb kd H6' B5' HB ki HO
        go_loopw [14] (fun j wq => ∃ q : Nat, q ≤ W ∧ j = .int .i64 q ∧ Snd wq w.heap.size w.heap.size [] (1 + x) 1 A6 n6 c6 v6 [b] ((min (k + 1) 3 : Nat) : Int) ((W : Int) - q) ∧ Below w.heap.size w wq) (fun j _ => W - (intOf j).toNat)
        case atStart => exact ⟨0, by omega, rfl, H6a, B05⟩
        case round =>
          obtain ⟨q, hq, rfl, hS, hB⟩ := hrel
          have HS := Lib.hid hS
          have HB := Lib.hid hB
          clear hS hB H6a B05
          by_cases hq2 : q < W
          · have fin : ∀ nq, Calls Try.prog 9 #[.pointer (some ⟨w.heap.size, 0, none⟩)] (wr.drewN nq) fun e w4 => e = .returned (.tuple #[]) ∧ Snd w4 w.heap.size w.heap.size [] (1 + x) 1 A6 n6 c6 v6 [b] ((min (k + 1) 3 : Nat) : Int) ((W : Int) - (q + 1 : Nat)) ∧ Below w.heap.size w w4 := fun nq => by
              refine (tick_pos _ (HS.out.of_drewN (k := nq)) (by omega) (by omega)).mono ?_
              rintro e w4 ⟨rfl, hS4, g4⟩
              have B1 : Below w.heap.size wr (wr.drewN nq) := ⟨rfl, rfl, rfl, Nat.le_refl _, fun _ _ => rfl⟩
              exact ⟨rfl, by rw [show (W : Int) - (q + 1 : Nat) = (W : Int) - q - 1 by omega]; exact hS4, (HB.out.trans B1).trans (below_of_grown g4 (Nat.le_refl _) HB.out.size)⟩
            have FIN := Lib.hid fin
            clear fin
            go_wp2_with (go_at_call 8; refine (out_none _ HS.out (.inr (by omega))).mono ?_; rintro e w' ⟨rfl, rfl⟩)
            by_cases hn2 : q < n2
            · obtain ⟨bb, oo, rfl, r0, r1⟩ := (HA2.out.later HB.out (Nat.le_refl _)).pair q (by rw [HL2.out]; exact hn2)
              obtain ⟨e1, he1⟩ : ∃ x, (l2[q]'(by rw [HL2.out]; exact hn2)).1 = x := ⟨_, rfl⟩
              obtain ⟨s1, hs1⟩ : ∃ x, (l2[q]'(by rw [HL2.out]; exact hn2)).2 = x := ⟨_, rfl⟩
              rw [he1] at r0
              rw [hs1] at r1
              clear he1 hs1
              have hw1 := wrap_small (x : Int) (by omega)
              have hw2 := wrap_small (1 + (x : Int)) (by omega)
              by_cases c1 : e1 = 1 + x
              · subst c1
                by_cases c2 : s1 = 1
                · subst c2
                  go_quiet (fail)
                  go_wp2_with (go_at_call 9; refine (FIN.out _).mono ?_; rintro e w4 ⟨rfl, hS4, hB4⟩)
                  exact ⟨⟨q + 1, by omega, by simp, hS4, hB4⟩, by simp only [intOf]; omega⟩
                · have hd1 : decide (s1 = 1) = false := by simpa using c2
                  go_quiet (first | (go_at_call 10; refine Calls.quiet_of_same ((heard_no _ _ _ HS.out.of_drewN (.inr (.inl c2))).mono fun _ _ h => ⟨h.1, h.2.symm⟩)))
                  go_wp2_with (go_at_call 9; refine (FIN.out _).mono ?_; rintro e w4 ⟨rfl, hS4, hB4⟩)
                  exact ⟨⟨q + 1, by omega, by simp, hS4, hB4⟩, by simp only [intOf]; omega⟩
              · have hd1 : decide (e1 = 1 + (x : Int)) = false := by simpa using c1
                go_quiet (first | (go_at_call 10; refine Calls.quiet_of_same ((heard_no _ _ _ HS.out.of_drewN (.inl c1)).mono fun _ _ h => ⟨h.1, h.2.symm⟩)))
                go_wp2_with (go_at_call 9; refine (FIN.out _).mono ?_; rintro e w4 ⟨rfl, hS4, hB4⟩)
                exact ⟨⟨q + 1, by omega, by simp, hS4, hB4⟩, by simp only [intOf]; omega⟩
            · have hdq : decide ((q : Int) < (n2 : Int)) = false := by simp; omega
              go_quiet (fail)
              go_wp2_with (go_at_call 9; refine (FIN.out _).mono ?_; rintro e w4 ⟨rfl, hS4, hB4⟩)
              exact ⟨⟨q + 1, by omega, by simp, hS4, hB4⟩, by simp only [intOf]; omega⟩
          · obtain rfl : q = W := by omega
            go_wp2_with fail
            exact ⟨⟨k + 1, _, _, _, _, by omega, by simp, by have := HS.out; rwa [Int.sub_self] at this, HB.out⟩, by simp only [intOf]; omega⟩
      · obtain rfl : k = 6 := by omega
        have H2 : Snd wr w.heap.size w.heap.size [] (1 + x) 1 A' n' c' v' (b :: []) ((3 : Nat) : Int) 0 := hS
        have O := out_some wr 3 (by omega) H2 hB.size
        have HB := Lib.hid hB
        have HO := Lib.hid O
        clear hS hB H2 O hk hlt
        go_wp2_with fail
        refine HO.out.mono ?_
        rintro e w5 ⟨A5, c5, rfl, _, ⟨A6, n6, c6, v6, H6⟩, B5⟩
        have H6a := H6.less (ys := []) (by simp)
        have B05 := HB.out.trans B5
        have R := reset_any w5 H6a (by omega)
        have HB5 := Lib.hid B05
        have HR := Lib.hid R
        clear H6 H6a B5 B05 R HO HB
        go_wp2_with fail
        refine HR.out.mono ?_
        rintro e w6 ⟨rfl, H7, g7⟩
        have B06 := HB5.out.trans (below_of_grown g7 (Nat.le_refl _) HB5.out.size)
        have H7' : Snd w6 w.heap.size w.heap.size [] (1 + x + 1) 1 A6 n6 c6 v6 (b :: []) ((0 : Nat) : Int) 0 := H7
        have O := out_some w6 0 (by omega) H7' B06.size
        have HB6 := Lib.hid B06
        have HO := Lib.hid O
        clear H7 H7' g7 B06 O HB5 HR
        go_wp2_with fail
        refine HO.out.mono ?_
        rintro e w7 ⟨A8, c8, rfl, at8, ⟨A9, n9, c9, v9, H9⟩, B9⟩
        have hn9 : n9 = 1 := by have := H9.len; simp at this; omega
        subst hn9
        have B07 := HB6.out.trans B9
        have kb : (convert 23 9 (.slice A8 b.length c8)).run Try.prog w7 = .ok (.string (strN b)) w7 := run_str (e := 5) w7 (by kernel_rfl) (by kernel_rfl) (by kernel_rfl) rfl at8
        have kd : (convert 23 9 (.slice A n c)).run Try.prog w7 = .ok (.string (strN b)) w7 := run_str (e := 5) w7 (by kernel_rfl) (by kernel_rfl) (by kernel_rfl) HL.out (HA.out.later B07 (Nat.le_refl _))
        have H9' := Lib.hid H9
        have HB7 := Lib.hid B07
        clear H9 B07 B9 at8 HB6 HO
        have hw1 := wrap_small (x : Int) (by omega)
        have hw2 := wrap_small (2 + (x : Int)) (by omega)
        have he : ((1 + (x : Int) + 1) == (2 + (x : Int))) = true := by simp; omega
        go_wp2_with (first | (go_at_call 11; refine (waits_any _ H9'.out).mono ?_; rintro e w' ⟨rfl, rfl⟩) | (go_at_call 13; refine (epoch_any _ H9'.out).mono ?_; rintro e w' ⟨rfl, rfl⟩) | (go_at_call 6; refine (sure17 _).mono ?_; rintro e w8 ⟨rfl, B8⟩))
        go_ret
        exact ⟨rfl, HB7.out.trans (B8.mono HB7.out.size)⟩
  · have hd : 300 < (n : Int) := by omega
    go_enter Try.func4, Try.ntmps4
    go_wp2_with (first | (go_at_call 5; refine (new_any (1 + x) _ (by omega)).mono ?_; rintro e w' ⟨rfl, rfl⟩; generalize (w.alloc (.cells (sndOf (1 + x) 1 none 0 0 0 0) 43)) = w0 at *) | (go_at_call 6; refine (sure17 _).mono ?_; rintro e w2 ⟨rfl, B2⟩))
    go_ret
    exact ⟨rfl, B0.trans (B2.mono B0.size)⟩
end Go.Proofs.Ytpmejkgmeoajaaa
