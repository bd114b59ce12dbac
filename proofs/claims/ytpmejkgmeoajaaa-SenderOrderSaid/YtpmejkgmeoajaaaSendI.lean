/- Layer 17: SenderOrder's walk. -/
import Derived.Test.YtpmejkgmeoajaaaSendG
import Derived.Test.YtpmejkgmeoajaaaBods
import Derived.Laws.PanicsMore
import Derived.Deep.DeepCutAuto
namespace Go.Proofs.Ytpmejkgmeoajaaa
open Go.RowKit
/-- a sender whose times are small -/
def Wt (w : World) (g base : Nat) (S : Int) (l : List (List Nat)) : Prop :=
  ∃ st lf : Nat, st ≤ 3 ∧ lf ≤ 24 ∧ IsSnd w g base [] 1 S l st lf
/-- what Out told: the body, or nothing yet, for some ticks at most -/
def Turn (w : World) (g base : Nat) (S : Int) (b : List Nat) (rest : List (List Nat)) (m : Nat) (v1 v2 : Value) (is : Bool) : Prop :=
  if is = true then v1 = .int .i64 S ∧ (∃ A1 c1, v2 = .slice A1 b.length c1 ∧ At w A1 (nats .u8 b)) ∧ Wt w g base S (b :: rest)
  else v1 = .int .i64 0 ∧ ∃ st lf : Nat, st ≤ 3 ∧ 0 < lf ∧ lf + m ≤ 24 ∧ IsSnd w g base [] 1 S (b :: rest) st lf
/-- what Out hands back -/
def OutT (w : World) (g base : Nat) (S : Int) (b : List Nat) (rest : List (List Nat)) (m : Nat) (e : Ending) (w' : World) : Prop :=
  ∃ v1 v2 is, e = .returned (.tuple #[v1, v2, .bool is]) ∧ Turn w' g base S b rest m v1 v2 is ∧ Below base w w'
theorem out_any (w : World) (g base : Nat) (S : Int) (b : List Nat) (rest : List (List Nat)) (m st lf : Nat) (hst : st ≤ 3) (hlf : lf + m ≤ 24) (h : IsSnd w g base [] 1 S (b :: rest) st lf) (hw : base ≤ w.heap.size) :
    Calls Try.prog 8 #[.pointer (some ⟨g, 0, none⟩)] w (OutT w g base S b rest m) := by
  obtain ⟨A, n, c, vs, h⟩ := h
  by_cases h0 : lf = 0
  · subst h0
    refine (out_some w st hst h hw).mono ?_
    rintro e w' ⟨A1, c1, rfl, hat, ⟨A2, n2, c2, v2, hs⟩, hb⟩
    have hp : 3 * 2 ^ st ≤ 24 := by
      have h4 : st = 0 ∨ st = 1 ∨ st = 2 ∨ st = 3 := by omega
      rcases h4 with rfl | rfl | rfl | rfl <;> decide
    refine ⟨_, _, true, rfl, ?_, hb⟩
    unfold Turn
    rw [if_pos rfl]
    exact ⟨rfl, ⟨A1, c1, rfl, hat⟩, min (st + 1) 3, 3 * 2 ^ st, by omega, hp, A2, n2, c2, v2, hs.less (by simp)⟩
  · refine (out_none w h (.inr (by omega))).mono ?_
    rintro e w' ⟨rfl, rfl⟩
    refine ⟨_, _, false, rfl, ?_, Below.refl _ _⟩
    unfold Turn
    rw [if_neg (by decide)]
    exact ⟨rfl, st, lf, hst, by omega, hlf, A, n, c, vs, h⟩
/-- what a tick leaves -/
def TickT (w : World) (g base : Nat) (S : Int) (l : List (List Nat)) (m : Nat) (e : Ending) (w' : World) : Prop :=
  e = .returned (.tuple #[]) ∧ (∃ st lf : Nat, st ≤ 3 ∧ lf + m ≤ 24 ∧ IsSnd w' g base [] 1 S l st lf) ∧ Below base w w'
theorem tick_any (w : World) (g base : Nat) (S : Int) (l : List (List Nat)) (m st lf : Nat) (hst : st ≤ 3) (h0 : 0 < lf) (hlf : lf + m ≤ 24) (h : IsSnd w g base [] 1 S l st lf) (hw : base ≤ w.heap.size) :
    Calls Try.prog 9 #[.pointer (some ⟨g, 0, none⟩)] w (TickT w g base S l (m + 1)) := by
  obtain ⟨A, n, c, vs, h⟩ := h
  refine (tick_pos w h (by omega) (by omega)).mono ?_
  rintro e w' ⟨rfl, hs, hg⟩
  exact ⟨rfl, ⟨st, lf - 1, hst, by omega, A, n, c, vs, by rw [show ((lf - 1 : Nat) : Int) = (lf : Int) - 1 by omega]; exact hs⟩, below_of_grown hg h.ge hw⟩
def Wt1 (w : World) (g : Nat) (l : List (List Nat)) : Prop := IsSnd w g g [] 1 1 l 0 0
def WtB (w : World) (g : Nat) (k : Int) (l : List (List Nat)) : Prop := IsSnd w g g [] 1 (k + 1) l 0 0
theorem wrap_small' (y : Int) (h : 0 ≤ y ∧ y < 9223372036854775808) : IntKind.i64.wrap y = y := by
  unfold IntKind.wrap
  simp [IntKind.signed, IntKind.bits]
  omega
theorem drop_cons {l : List (List Nat)} {k : Nat} (h : k < l.length) : l.drop k = l.getD k [] :: l.drop (k + 1) := by
  rw [List.drop_eq_getElem_cons h]; simp [List.getD_eq_getElem?_getD, List.getElem?_eq_getElem h]
theorem take_snocL {l : List (List Nat)} {k : Nat} (h : k < l.length) : l.take (k + 1) = l.take k ++ [l.getD k []] := by
  rw [List.take_succ_eq_append_getElem h]; simp [List.getD_eq_getElem?_getD, List.getElem?_eq_getElem h]
set_option maxRecDepth 100000 in
set_option maxHeartbeats 2000000 in
theorem order17_any (A : Option Addr) (n c : Nat) (vs : List Value) (l : List (List Nat)) (A2 : Option Addr) (n2 c2 : Nat) (l2 : List Nat) (w : World) (hl : l.length = n) (hl2 : l2.length = n2) (hm : n ≤ 9223372036854775807) (hm2 : n2 ≤ 9223372036854775807)
    (ha : Bods w A vs l) (hy : ∀ i, l2.getD i 0 < 256) (ha2 : At w A2 (nats .u8 l2)) :
    Calls Try.prog 3 #[.slice A n c, .slice A2 n2 c2] w fun e w' => e = .returned (.bool true) ∧ Below w.heap.size w w' := by
  have H0 := new_snd 1 w w.heap.size (Nat.le_refl _)
  have B0 : Below w.heap.size w (w.alloc (.cells (sndOf 1 1 none 0 0 0 0) 43)) := (Below.refl _ _).alloc (Nat.le_refl _) _
  have HA := Lib.hid ha
  have HA2 := Lib.hid ha2
  have HL := Lib.hid hl
  have HL2 := Lib.hid hl2
  have HY := Lib.hid hy
  clear ha ha2 hl hl2 hy
  by_cases hn : n ≤ 30
  · have hd : decide (30 < (n : Int)) = false := by simp; omega
    go_enter Try.func3, Try.ntmps3
    go_wp2_with (go_at_call 5; refine (new_any 1 _ (by omega)).mono ?_; rintro e w' ⟨rfl, rfl⟩; generalize (w.alloc (.cells (sndOf 1 1 none 0 0 0 0) 43)) = w0 at *)
    have H0' : Wt1 w0 w.heap.size (l.take 0) := ⟨_, _, _, _, H0⟩
    clear H0
    go_loopw [7] (fun i wr => ∃ k : Nat, k ≤ n ∧ i = .int .i64 k ∧ Wt1 wr w.heap.size (l.take k) ∧ Below w.heap.size w wr) (fun i _ => n - (intOf i).toNat)
    case atStart => exact ⟨0, by omega, rfl, H0', B0⟩
    case round =>
      obtain ⟨k, hk, rfl, hS, hB⟩ := hrel
      clear H0' B0
      have HS := Lib.hid hS
      have HB := Lib.hid hB
      clear hS hB
      by_cases hlt : k < n
      · obtain ⟨bb, oo, Ak, ck, rfl, hc, hat, hz, hcc, hmc, hlt2⟩ := HA.out.get k (by rw [HL.out]; exact hlt)
        have hc1 := (HB.out.cell (p := ⟨bb, oo + k, none⟩) hlt2).trans hc
        have htk := take_snocL (l := l) (k := k) (by rw [HL.out]; exact hlt)
        obtain ⟨A', n', c', v', hS'⟩ := HS.out
        have hn' : n' ≤ k := by have := hS'.len; rw [List.length_take] at this; omega
        generalize hb : l.getD k [] = b at *
        have hat1 := hat.later HB.out (Nat.le_refl _)
        by_cases hq : b.length ≤ 300
        · have P := put_any wr hS' (by omega) (by omega) HB.out.size Ak ck b (by omega) hat1 hz
          obtain ⟨q, hq2⟩ : ∃ q, b.length = q := ⟨_, rfl⟩
          rw [hq2] at P hc1 hq
          have HP := Lib.hid P
          have HT := Lib.hid htk
          clear hat1 hat hz hc P hS' HS hq2 hcc hb htk
          go_wp2_with (go_at_call 7; refine HP.out.mono ?_; rintro e w1 ⟨rfl, H1, B1⟩)
          exact ⟨⟨k + 1, by omega, by simp, by rw [HT.out]; exact H1, HB.out.trans B1⟩, by simp only [intOf]; omega⟩
        · obtain ⟨q, hq2⟩ : ∃ q, b.length = q := ⟨_, rfl⟩
          rw [hq2] at hc1 hq hcc
          unfold maxLen at hmc
          have hq3 : 300 < (q : Int) := by omega
          clear hat1 hat hz hc hS' HS hq2 hb htk
          go_wp2_with (go_at_call 6; refine (sure17 _).mono ?_; rintro e w2 ⟨rfl, B2⟩)
          go_ret
          exact ⟨rfl, HB.out.trans (B2.mono HB.out.size)⟩
      · obtain rfl : k = n := by omega
        have hS2 : WtB wr w.heap.size ((0 : Nat) : Int) (l.drop 0) := by
          have := HS.out; rw [List.take_of_length_le (by have := HL.out; omega)] at this; exact this
        have hB2 := HB.out
        clear HS HB hlt hk
        go_wp2_with fail
        obtain ⟨n, rfl⟩ : ∃ n, n = k := ⟨_, rfl⟩
        obtain ⟨wo, rfl⟩ : ∃ wo : World, wo = wr := ⟨_, rfl⟩
        go_loopw [8] (fun i wr => ∃ k : Nat, k ≤ n ∧ i = .int .i64 k ∧ WtB wr w.heap.size (k : Int) (l.drop k) ∧ Below w.heap.size w wr) (fun i _ => n - (intOf i).toNat)
        case atStart => exact ⟨0, by omega, rfl, hS2, hB2⟩
        case round =>
          obtain ⟨k, hk, rfl, hS, hB⟩ := hrel
          clear hS2 hB2
          have HS := Lib.hid hS
          have HB := Lib.hid hB
          clear hS hB
          by_cases hlt : k < n
          · obtain ⟨bb, oo, Ak, ck, rfl, hc, hat, hz, hcc, hmc, hlt2'⟩ := HA.out.get k (by rw [HL.out]; exact hlt)
            have hdr := drop_cons (l := l) (k := k) (by rw [HL.out]; exact hlt)
            obtain ⟨rest, hrest⟩ : ∃ r, l.drop (k + 1) = r := ⟨_, rfl⟩
            have hrl : rest.length + k + 1 = n := by rw [← hrest, List.length_drop]; have := HL.out; omega
            rw [hrest] at hdr
            have HR := Lib.hid hrest
            clear hrest
            generalize hb : l.getD k [] = b at *
            clear hb
            have hS2 := HS.out
            rw [hdr] at hS2
            have HS2 := Lib.hid hS2
            have HAT := Lib.hid hat
            have HCK := Lib.hid hc
            have hr1 : rest.length + k + 1 ≤ n := by omega
            have hr2 : n ≤ rest.length + k + 1 := by omega
            clear hdr hS2 HS hat hc hz hcc hmc hrl
            go_upto_if 70 with (fail)
            go_cut [9] (fun v wx => ∃ many : Nat, many ≤ 5 ∧ v = .int .i64 many ∧ wx = wr)
            case first =>
              by_cases h0 : 0 < n2
              · have hmod : k % n2 < n2 := Nat.mod_lt _ h0
                obtain ⟨b2, o2, rfl, hc2⟩ := (HA2.out.later HB.out (Nat.le_refl _)).nat (k % n2) (by rw [HL2.out]; exact hmod)
                have hy2 := HY.out (k % n2)
                generalize l2.getD (k % n2) 0 = y at *
                go_wp2_with fail
                go_meet
                exact ⟨1 + y % 5, by omega, by go_num, rfl⟩
              · obtain rfl : n2 = 0 := by omega
                go_wp2_with fail
                go_meet
                exact ⟨1, by omega, rfl, rfl⟩
            case rest =>
              obtain ⟨many, hmany, rfl, rfl⟩ := hcut
              have hS3 : Wt wc w.heap.size w.heap.size ((k : Int) + 1) (b :: rest) := ⟨0, 0, by omega, by omega, HS2.out⟩
              have hB3 := HB.out
              clear HS2 HB
              go_wp2_with fail
              go_loopw [10] (fun j wq => ∃ q : Nat, q ≤ many ∧ j = .int .i64 q ∧ Wt wq w.heap.size w.heap.size ((k : Int) + 1) (b :: rest) ∧ Below w.heap.size w wq) (fun j _ => many - (intOf j).toNat)
              case atStart => exact ⟨0, by omega, rfl, hS3, hB3⟩
              case round =>
                obtain ⟨q, hq, rfl, hS, hB⟩ := hrel
                clear hS3 hB3
                have HB := Lib.hid hB
                by_cases hlt2 : q < many
                · obtain ⟨st, lf, hst, hlf, hI⟩ := hS
                  have O := out_any _ _ _ _ b rest 0 st lf hst (by omega) hI hB.size
                  have HO := Lib.hid O
                  clear O hI hB hlf
                  go_wp2_with (go_at_call 8; refine HO.out.mono ?_; rintro e w5 ⟨v1, v2, is, rfl, hT, B5⟩)
                  have hB5 := HB.out.trans B5
                  clear HB HO B5
                  go_loopw [11, 12, 13, 14] (fun v1 v2 v3 t wt => ∃ (m : Nat) (is : Bool), m ≤ 24 ∧ t = .int .i64 m ∧ v3 = .bool is ∧ Turn wt w.heap.size w.heap.size ((k : Int) + 1) b rest m v1 v2 is ∧ Below w.heap.size w wt) (fun _ _ _ t _ => 24 - (intOf t).toNat)
                  case atStart => exact ⟨0, is, by omega, rfl, rfl, hT, hB5⟩
                  case round =>
                    obtain ⟨m, is', hm24, rfl, rfl, hT', hB'⟩ := hrel
                    clear hT hB5
                    cases is' with
                    | false =>
                      unfold Turn at hT'
                      rw [if_neg (by decide)] at hT'
                      obtain ⟨rfl, st', lf', hst', hlf0, hlf', hI⟩ := hT'
                      have T := tick_any _ _ _ _ _ m st' lf' hst' hlf0 hlf' hI hB'.size
                      have HT := Lib.hid T
                      have HB' := Lib.hid hB'
                      clear T hI hB'
                      have hm3 : m < 24 := by omega
                      go_wp2_with fail
                      refine HT.out.mono ?_
                      rintro e w6 ⟨rfl, ⟨st2, lf2, hst2, hlf2, hI2⟩, B6⟩
                      have HB6 := Lib.hid (HB'.out.trans B6)
                      have O := out_any _ _ _ _ b rest (m + 1) st2 lf2 hst2 (by omega) hI2 HB6.out.size
                      have HO := Lib.hid O
                      clear O hI2 HB' B6 HT
                      go_wp2_with fail
                      refine HO.out.mono ?_
                      rintro e w7 ⟨v1', v2', is2, rfl, hT2, B7⟩
                      have HB7 := Lib.hid (HB6.out.trans B7)
                      have HT2 := Lib.hid hT2
                      clear HO HB6 hT2 B7
                      go_wp2_with fail
                      exact ⟨⟨m + 1, is2, by omega, by simp, rfl, HT2.out, HB7.out⟩, by simp only [intOf]; omega⟩
                    | true =>
                      unfold Turn at hT'
                      rw [if_pos rfl] at hT'
                      obtain ⟨rfl, ⟨A1, c1, rfl, hat1⟩, hW⟩ := hT'
                      have hc1 := (hB'.cell (p := ⟨bb, oo + k, none⟩) hlt2').trans HCK.out
                      have hatk : At wr Ak (nats .u8 b) := HAT.out.later hB' (Nat.le_refl _)
                      have kb : ∀ nq, (convert 23 9 (.slice A1 b.length c1)).run Try.prog (wr.drewN nq) = .ok (.string (strN b)) (wr.drewN nq) := fun nq => run_str (e := 5) _ (by kernel_rfl) (by kernel_rfl) (by kernel_rfl) rfl hat1
                      have kd : ∀ nq, (convert 23 9 (.slice Ak b.length ck)).run Try.prog (wr.drewN nq) = .ok (.string (strN b)) (wr.drewN nq) := fun nq => run_str (e := 5) _ (by kernel_rfl) (by kernel_rfl) (by kernel_rfl) rfl hatk
                      have HW := Lib.hid hW
                      have HB' := Lib.hid hB'
                      have hw1 := wrap_small' ((k : Int) + 1) (by omega)
                      clear hat1 hatk hW hB'
                      by_cases hm3 : m < 24
                      all_goals
                        go_wp2_with fail
                        go_quiet (fail)
                        go_wp2_with fail
                        obtain ⟨st3, lf3, h31, h32, A3, n3, c3, v3, h33⟩ := HW.out
                        exact ⟨⟨q + 1, by omega, by simp, ⟨st3, lf3, h31, h32, A3, n3, c3, v3, h33.of_drewN⟩, HB'.out.trans ⟨rfl, rfl, rfl, Nat.le_refl _, fun _ _ => rfl⟩⟩, by simp only [intOf]; omega⟩
                · obtain rfl : q = many := by omega
                  obtain ⟨st, lf, hst, hlf, A', n', c', v', hS'⟩ := hS
                  have hn' := hS'.len
                  have hn1 : n' + k ≤ n := by simp at hn'; omega
                  have hn2 : n ≤ n' + k := by simp at hn'; omega
                  have HY' := heard_yes wr hS' (by omega) hB.size
                  have HY := Lib.hid HY'
                  have HS' := Lib.hid hS'
                  clear hS' hn' HY' hB
                  go_wp2_with fail
                  refine (heard_no _ 1 k HS'.out (.inr (.inl (by omega)))).mono ?_
                  rintro e w' ⟨rfl, rfl⟩
                  go_wp2_with fail
                  refine (heard_no _ 1 (k + 2) HS'.out (.inr (.inl (by omega)))).mono ?_
                  rintro e w' ⟨rfl, rfl⟩
                  go_wp2_with fail
                  refine HY.out.mono ?_
                  rintro e w6 ⟨rfl, ⟨A6, n6, c6, v6, H6⟩, B6⟩
                  have hn6 := H6.len
                  have hn61 : n6 + k + 1 ≤ n := by omega
                  have hn62 : n ≤ n6 + k + 1 := by omega
                  have HH6 := Lib.hid H6
                  have HB6 := Lib.hid (HB.out.trans B6)
                  clear hn6 H6 B6 HB HY HS'
                  go_wp2_with (go_at_call 11; refine (waits_any _ HH6.out).mono ?_; rintro e w' ⟨rfl, rfl⟩)
                  exact ⟨⟨k + 1, by omega, by simp, by
                    rw [HR.out]
                    show IsSnd _ _ _ _ _ (((k + 1 : Nat) : Int) + 1) _ _ _
                    rw [show (((k + 1 : Nat) : Int) + 1) = (k : Int) + 1 + 1 by omega]
                    exact ⟨_, _, _, _, HH6.out⟩, HB6.out⟩, by simp only [intOf]; omega⟩
          · obtain rfl : k = n := by omega
            obtain ⟨A', n', c', v', hS'⟩ := HS.out
            obtain rfl : n' = 0 := by have := hS'.len; rw [List.length_drop] at this; have := HL.out; omega
            have HS' := Lib.hid hS'
            clear hS' HS
            go_wp2_with (first | (go_at_call 8; refine (out_none _ HS'.out (.inl rfl)).mono ?_; rintro e w' ⟨rfl, rfl⟩) | (go_at_call 6; refine (sure17 _).mono ?_; rintro e w2 ⟨rfl, B2⟩))
            go_ret
            exact ⟨rfl, HB.out.trans (B2.mono HB.out.size)⟩
  · have hd : 30 < (n : Int) := by omega
    go_enter Try.func3, Try.ntmps3
    go_wp2_with (first | (go_at_call 5; refine (new_any 1 _ (by omega)).mono ?_; rintro e w' ⟨rfl, rfl⟩; generalize (w.alloc (.cells (sndOf 1 1 none 0 0 0 0) 43)) = w0 at *) | (go_at_call 6; refine (sure17 _).mono ?_; rintro e w2 ⟨rfl, B2⟩))
    go_ret
    exact ⟨rfl, B0.trans (B2.mono B0.size)⟩
end Go.Proofs.Ytpmejkgmeoajaaa
