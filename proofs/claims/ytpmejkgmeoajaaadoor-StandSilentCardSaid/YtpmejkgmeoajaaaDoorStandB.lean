/- Layer 31: StandSilent's walk. -/
import Derived.Test.YtpmejkgmeoajaaaDoorStand
import Derived.Test.YtpmejkgmeoajaaaDoorNum31
import Derived.Deep.DeepCutAuto
import Derived.Outline
namespace Go.Proofs.YtpmejkgmeoajaaaDoor
open Go.RowKit
theorem Wat.new (w : World) (sp li st si : Int) (gone : Bool) (g : Nat) (hg : w.heap.size = g) : Wat (w.alloc (.cells #[.int .i64 sp, .int .i64 li, .int .i64 st, .int .i64 si, .bool gone] 50)) g sp li st si gone := Holds.new _ _ _ _ hg
set_option maxRecDepth 100000 in
set_option maxHeartbeats 2000000 in
theorem sure31 (w : World) (hg : Glob w) : Calls Tryd.prog 12 #[] w fun e w' => e = .returned (.bool true) ∧ Below w.heap.size w w' := by
  obtain ⟨g, hgs⟩ : ∃ g, w.heap.size = g := ⟨_, rfl⟩
  have H0 := Wat.new w 1 2 0 0 false g hgs
  have B0 : Below w.heap.size w (w.alloc (.cells #[.int .i64 1, .int .i64 2, .int .i64 0, .int .i64 0, .bool false] 50)) := (Below.refl _ _).alloc (Nat.le_refl _) _
  have HS := Lib.hid hgs
  have HG := Lib.hid hg
  have N1 := standNew_ok 1 2 w (by decide) (by decide)
  rw [hgs] at N1 B0 ⊢
  have HN := Lib.hid N1
  have HH0 := Lib.hid H0
  have HB0 := Lib.hid B0
  clear hgs hg N1 H0 B0
  go_enter Tryd.func12, Tryd.ntmps12
  go_wp2_with fail
  refine HN.out.mono ?_
  rintro e w' ⟨rfl, rfl⟩
  generalize (w.alloc (.cells #[.int .i64 1, .int .i64 2, .int .i64 0, .int .i64 0, .bool false] 50)) = w0 at *
  clear HN
  go_wp2_with fail
  refine (standNew_32 _).mono ?_
  rintro e w' ⟨rfl, rfl⟩
  go_wp2_with fail
  have hsz := HS.out
  refine (standTick_wait (base := g) _ HH0.out (by decide) (by decide) (Nat.le_refl _) (by have := HB0.out.size; omega)).mono ?_
  rintro e w1 ⟨rfl, H1, B1⟩
  have HH1 := Lib.hid H1
  have HB1 := Lib.hid (HB0.out.trans B1)
  clear H1 B1 HH0 HB0 hsz
  go_wp2_with fail
  have hsz := HS.out
  refine (standHeard_ok (base := g) _ HH1.out (Nat.le_refl _) (by have := HB1.out.size; omega)).mono ?_
  rintro e w2 ⟨rfl, H2, B2⟩
  have HH2 := Lib.hid H2
  have HB2 := Lib.hid (HB1.out.trans B2)
  clear H2 B2 HH1 HB1 hsz
  go_wp2_with fail
  have hsz := HS.out
  refine (standTick_wait (base := g) _ HH2.out (by decide) (by decide) (Nat.le_refl _) (by have := HB2.out.size; omega)).mono ?_
  rintro e w3 ⟨rfl, H3, B3⟩
  have HH3 := Lib.hid H3
  have HB3 := Lib.hid (HB2.out.trans B3)
  clear H3 B3 HH2 HB2 hsz
  go_wp2_with fail
  have hsz := HS.out
  refine (standTick_step (base := g) _ HH3.out (by decide) (by decide) (by decide) (Nat.le_refl _) (by have := HB3.out.size; omega)).mono ?_
  rintro e w4 ⟨rfl, H4, B4⟩
  have HH4 := Lib.hid H4
  have HB4 := Lib.hid (HB3.out.trans B4)
  clear H4 B4 HH3 HB3 hsz
  go_wp2_with fail
  refine (standHeard_no _ 0 HH4.out (.inr (by decide))).mono ?_
  rintro e w' ⟨rfl, rfl⟩
  go_wp2_with fail
  refine (standStep_any _ HH4.out).mono ?_
  rintro e w' ⟨rfl, rfl⟩
  go_wp2_with fail
  have hsz := HS.out
  refine (standTick_wait (base := g) _ HH4.out (by decide) (by decide) (Nat.le_refl _) (by have := HB4.out.size; omega)).mono ?_
  rintro e w5 ⟨rfl, H5, B5⟩
  have HH5 := Lib.hid H5
  have HB5 := Lib.hid (HB4.out.trans B5)
  clear H5 B5 HH4 HB4 hsz
  go_wp2_with fail
  have hsz := HS.out
  refine (standTick_gone (base := g) _ HH5.out (by decide) (by decide) (by decide) (Nat.le_refl _) (by have := HB5.out.size; omega)).mono ?_
  rintro e w6 ⟨rfl, H6, B6⟩
  have HH6 := Lib.hid H6
  have HB6 := Lib.hid (HB5.out.trans B6)
  clear H6 B6 HH5 HB5 hsz
  go_wp2_with fail
  refine (standTick_done _ HH6.out).mono ?_
  rintro e w' ⟨rfl, rfl⟩
  go_wp2_with fail
  have hsz := HS.out
  refine (num31_err 1 _ (HG.out.later HB6.out (by omega))).mono ?_
  rintro e w7 ⟨rfl, B7⟩
  have HH7 := Lib.hid (HH6.out.below B7 (Nat.le_refl _))
  have HB7 := Lib.hid (HB6.out.trans (B7.mono (by have := HB6.out.size; omega)))
  clear B7 HH6 HB6 hsz
  go_wp2_with fail
  refine (standGone_any _ HH7.out).mono ?_
  rintro e w' ⟨rfl, rfl⟩
  go_wp2_with fail
  go_ret
  exact ⟨rfl, HB7.out⟩
set_option maxRecDepth 100000 in
set_option maxHeartbeats 2000000 in
theorem silent31_any (a b c : Nat) (w : World) (ha : a < 256) (hb : b < 256) (hc : c < 256) (hg : Glob w) :
    Calls Tryd.prog 3 #[.int .u8 a, .int .u8 b, .int .u8 c] w fun e w' => e = .returned (.bool true) ∧ Below w.heap.size w w' := by
  obtain ⟨g, hgs⟩ : ∃ g, w.heap.size = g := ⟨_, rfl⟩
  have HS := Lib.hid hgs
  have HG := Lib.hid hg
  clear hg
  rw [hgs]
  go_enter Tryd.func3, Tryd.ntmps3
  go_upto_region 1 with fail
  go_cut [7, 8] (fun v7 v8 wx => ∃ N M : Nat, N ≤ 2 ∧ 1 ≤ M ∧ M ≤ 20 ∧ v7 = .int .i64 N ∧ v8 = .int .i64 M ∧ wx = w)
  case first =>
    go_wp2_with fail
    go_meet
    exact ⟨a % 3, 1 + b % 20, by omega, by omega, by omega, by go_num, by go_num, rfl⟩
  case rest =>
    obtain ⟨N, M, hN, hM1, hM2, rfl, rfl, rfl⟩ := hcut
    have H0 := Wat.new wc N M 0 0 false g hgs
    have B0 : Below g wc (wc.alloc (.cells #[.int .i64 N, .int .i64 M, .int .i64 0, .int .i64 0, .bool false] 50)) := by rw [← hgs]; exact (Below.refl _ _).alloc (Nat.le_refl _) _
    have N1 := standNew_ok N M wc (by omega) (by omega)
    rw [hgs] at N1
    have HN := Lib.hid N1
    have HH0 := Lib.hid H0
    have HB0 := Lib.hid B0
    clear hgs N1 H0 B0
    go_wp2_with fail
    refine HN.out.mono ?_
    rintro e w' ⟨rfl, rfl⟩
    generalize (wc.alloc (.cells #[.int .i64 N, .int .i64 M, .int .i64 0, .int .i64 0, .bool false] 50)) = w0 at *
    clear HN
    obtain ⟨K, hK, hK2⟩ : ∃ K, c % 10 = K ∧ K < 10 := ⟨_, rfl, Nat.mod_lt _ (by decide)⟩
    go_wp2_with fail
    go_loopw [11] (fun i wr => ∃ k : Nat, k ≤ K ∧ i = .int .i64 k ∧ Wat wr g N M 0 0 false ∧ Below g wc wr) (fun i _ => K - (intOf i).toNat)
    case atStart => exact ⟨0, by omega, rfl, HH0.out, HB0.out⟩
    case round =>
      obtain ⟨k, hk, rfl, hW, hB⟩ := hrel
      clear HH0 HB0
      have HW := Lib.hid hW
      have HB := Lib.hid hB
      clear hW hB
      have hcc : (c : Int) % 10 = K := by omega
      by_cases hlt : k < K
      · have d1 : decide ((k : Int) < (c : Int) % 10) = true := by simp; omega
        clear hcc
        go_wp2_with fail
        go_loopw [12] (fun i wq => ∃ q : Nat, 1 ≤ q ∧ q ≤ M ∧ i = .int .i64 q ∧ Wat wq g N M 0 (q - 1 : Int) false ∧ Below g wc wq) (fun i _ => M - (intOf i).toNat)
        case atStart => exact ⟨1, by omega, by omega, rfl, HW.out, HB.out⟩
        case round =>
          obtain ⟨q, hq1, hq, rfl, hW2, hB2⟩ := hrel
          clear HW HB
          have HW := Lib.hid hW2
          have HB := Lib.hid hB2
          clear hW2 hB2
          by_cases hlt2 : q < M
          · have T := standTick_wait (base := g) _ HW.out (by omega) (by omega) (Nat.le_refl _) (by have := HB.out.size; have := HS.out; omega)
            have HT := Lib.hid T
            clear T
            go_wp2_with (go_at_call 8; refine HT.out.mono ?_; rintro e w4 ⟨rfl, H4, B4⟩; have HH4 := Lib.hid H4; have HB4 := Lib.hid (HB.out.trans B4); clear H4 B4 HT HW HB)
            exact ⟨⟨q + 1, by omega, by omega, by simp, by have := HH4.out; rw [show ((q + 1 : Nat) : Int) - 1 = (q : Int) - 1 + 1 by omega]; exact this, HB4.out⟩, by simp only [intOf]; omega⟩
          · go_wp2_with fail
            refine (standHeard_ok (base := g) _ HW.out (Nat.le_refl _) (by have := HB.out.size; have := HS.out; omega)).mono ?_
            rintro e w5 ⟨rfl, H5, B5⟩
            have HH5 := Lib.hid H5
            have HB5 := Lib.hid (HB.out.trans B5)
            clear H5 B5 HW HB
            go_wp2_with (first | (go_at_call 10; refine (standStep_any _ HH5.out).mono ?_; rintro e w' ⟨rfl, rfl⟩) | (go_at_call 11; refine (standGone_any _ HH5.out).mono ?_; rintro e w' ⟨rfl, rfl⟩))
            exact ⟨⟨k + 1, by omega, by simp, HH5.out, HB5.out⟩, by simp only [intOf]; omega⟩
      · have d1 : decide ((k : Int) < (c : Int) % 10) = false := by simp; omega
        clear hcc
        go_wp2_with fail
        go_loopw [13] (fun i wr => ∃ s : Nat, s ≤ N + 1 ∧ i = .int .i64 s ∧ ((s ≤ N ∧ Wat wr g N M s 0 false) ∨ (s = N + 1 ∧ Wat wr g N M N M true)) ∧ Below g wc wr) (fun i _ => N + 1 - (intOf i).toNat)
        case atStart => exact ⟨0, by omega, rfl, .inl ⟨by omega, HW.out⟩, HB.out⟩
        case round =>
          obtain ⟨s, hs, rfl, hW, hB⟩ := hrel
          clear HW HB
          have HB := Lib.hid hB
          clear hB
          rcases hW with ⟨hs1, hW⟩ | ⟨hs1, hW⟩
          · have HW := Lib.hid hW
            clear hW
            go_wp2_with fail
            go_loopw [14] (fun i wq => ∃ q : Nat, 1 ≤ q ∧ q ≤ M ∧ i = .int .i64 q ∧ Wat wq g N M s (q - 1 : Int) false ∧ Below g wc wq) (fun i _ => M - (intOf i).toNat)
            case atStart => exact ⟨1, by omega, by omega, rfl, HW.out, HB.out⟩
            case round =>
              obtain ⟨q, hq1, hq, rfl, hW2, hB2⟩ := hrel
              clear HW HB
              have HW := Lib.hid hW2
              have HB := Lib.hid hB2
              clear hW2 hB2
              by_cases hlt2 : q < M
              · have T := standTick_wait (base := g) _ HW.out (by omega) (by omega) (Nat.le_refl _) (by have := HB.out.size; have := HS.out; omega)
                have HT := Lib.hid T
                clear T
                go_wp2_with (first | (go_at_call 8; refine HT.out.mono ?_; rintro e w4 ⟨rfl, H4, B4⟩; have HH4 := Lib.hid H4; have HB4 := Lib.hid (HB.out.trans B4); clear H4 B4 HT HW HB) | (go_at_call 10; refine (standStep_any _ HH4.out).mono ?_; rintro e w' ⟨rfl, rfl⟩))
                exact ⟨⟨q + 1, by omega, by omega, by simp, by have := HH4.out; rw [show ((q + 1 : Nat) : Int) - 1 = (q : Int) - 1 + 1 by omega]; exact this, HB4.out⟩, by simp only [intOf]; omega⟩
              · by_cases hsN : s < N
                · have d2 : ((s : Int) == (N : Int)) = false := by simp; omega
                  have T := standTick_step (base := g) _ HW.out (by omega) (by omega) (by omega) (Nat.le_refl _) (by have := HB.out.size; have := HS.out; omega)
                  have HT := Lib.hid T
                  clear T
                  go_wp2_with (go_at_call 8; refine HT.out.mono ?_; rintro e w4 ⟨rfl, H4, B4⟩; have HH4 := Lib.hid H4; have HB4 := Lib.hid (HB.out.trans B4); clear H4 B4 HT HW HB)
                  exact ⟨⟨s + 1, by omega, by simp, .inl ⟨by omega, HH4.out⟩, HB4.out⟩, by simp only [intOf]; omega⟩
                · obtain rfl : s = N := by omega
                  have T := standTick_gone (base := g) _ HW.out (by omega) (by omega) (by omega) (Nat.le_refl _) (by have := HB.out.size; have := HS.out; omega)
                  have HT := Lib.hid T
                  clear T
                  go_wp2_with (go_at_call 8; refine HT.out.mono ?_; rintro e w4 ⟨rfl, H4, B4⟩; have HH4 := Lib.hid H4; have HB4 := Lib.hid (HB.out.trans B4); clear H4 B4 HT HW HB)
                  exact ⟨⟨s + 1, by omega, by simp, .inr ⟨rfl, by have := HH4.out; rwa [show (q : Int) - 1 + 1 = M by omega] at this⟩, HB4.out⟩, by simp only [intOf]; omega⟩
          · have HW := Lib.hid hW
            clear hW
            go_wp2_with fail
            refine (standGone_any _ HW.out).mono ?_
            rintro e w' ⟨rfl, rfl⟩
            go_wp2_with fail
            refine (standTick_done _ HW.out).mono ?_
            rintro e w' ⟨rfl, rfl⟩
            go_wp2_with fail
            refine (standHeard_no _ N HW.out (.inl rfl)).mono ?_
            rintro e w' ⟨rfl, rfl⟩
            go_wp2_with fail
            refine (standGone_any _ HW.out).mono ?_
            rintro e w' ⟨rfl, rfl⟩
            go_wp2_with fail
            have hsz := HS.out
            refine (sure31 _ (HG.out.later HB.out (by omega))).mono ?_
            rintro e w' ⟨rfl, B9⟩
            have HB9 := Lib.hid (HB.out.trans (B9.mono (by have := HB.out.size; omega)))
            clear B9 hsz
            go_wp2_with fail
            go_ret
            exact ⟨rfl, HB9.out⟩
end Go.Proofs.YtpmejkgmeoajaaaDoor
