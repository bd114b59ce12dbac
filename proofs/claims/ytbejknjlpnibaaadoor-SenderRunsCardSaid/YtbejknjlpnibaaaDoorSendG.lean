/- Layer 17: what must come whatever the input is. -/
import Derived.Test.YtbejknjlpnibaaaDoorSendD
import Derived.Test.YtbejknjlpnibaaaDoorSendE
import Derived.Test.YtbejknjlpnibaaaDoorSendF
import Derived.Lib.SlBytesConst
namespace Go.Proofs.YtbejknjlpnibaaaDoor
open Go.RowKit
theorem run_conv_const {P : Program} (w : World) (t e : TypeId) (C : Array Value) (n c b : Nat) (hb : w.heap.size = b) (ht : P.underlying t = some (.slice e)) (he : P.underlying e = some (.int .u8)) :
    (convert t t (.slice (some ⟨b, 0, none⟩) n c)).run P (w.alloc (.cells C e)) = .ok (.slice (some ⟨b, 0, none⟩) n c) (w.alloc (.cells C e (C.size, C.size + 1))) := by
  subst hb; exact Lib.run_convert_bytes_const w t e C n c ht he
theorem put_lit {g base : Nat} {xs : List (Value × List Nat)} {E S : Int} {A : Option Addr} {n c : Nat} {vs : List Value} {l : List (List Nat)} {st lf : Int} (w : World) (x : Nat) (h : Snd w g base xs E S A n c vs l st lf) (hn : n < 64) (hS : 1 ≤ S ∧ S + n ≤ 1073741824) (hw : base ≤ w.heap.size) (b : Nat) (hb : w.heap.size = b) :
    Calls Tryd.prog 7 #[.pointer (some ⟨g, 0, none⟩), .slice (some ⟨b, 0, none⟩) 1 1] (w.alloc (.cells #[.int .u8 (x : Nat)] 5 (1, 2))) (Puts w g base xs E S (l ++ [[x]]) st lf) := by
  have hat : At (w.alloc (.cells #[.int .u8 (x : Nat)] 5 (1, 2))) (some ⟨b, 0, none⟩) (nats .u8 [x]) := At.lit _ _ _ _ _ hb
  have B : Below w.heap.size w (w.alloc (.cells #[.int .u8 (x : Nat)] 5 (1, 2))) := (Below.refl _ _).alloc (Nat.le_refl _) _
  have h' := h.below B (Nat.le_refl _)
  refine (put_any _ h' hn hS (by simp; omega) (some ⟨b, 0, none⟩) 1 [x] (by simp) hat (by simp)).mono ?_
  rintro e w' ⟨he, h2, h3⟩
  exact ⟨he, h2, (B.mono hw).trans h3⟩
set_option maxRecDepth 100000 in
set_option maxHeartbeats 2000000 in
theorem sure17 (w : World) : Calls Tryd.prog 14 #[] w fun e w' => e = .returned (.bool true) ∧ Below w.heap.size w w' := by
  have kc := fun (w : World) (C : Array Value) (n c b : Nat) (hb : w.heap.size = b) => run_conv_const (P := Tryd.prog) w 24 5 C n c b hb elt_u8.ht (by kernel_rfl)
  have H0 := new_snd 5 w w.heap.size (Nat.le_refl _)
  have B0 : Below w.heap.size w (w.alloc (.cells (sndOf 5 1 none 0 0 0 0) 52)) := (Below.refl _ _).alloc (Nat.le_refl _) _
  have hz0 : (w.alloc (.cells (sndOf 5 1 none 0 0 0 0) 52)).heap.size = w.heap.size + 1 := by simp
  have HZ0 := Lib.hid hz0
  clear hz0
  go_enter Tryd.func14, Tryd.ntmps14
  go_wp2_with (go_at_call 13; refine (new_any 5 _ (by decide)).mono ?_; rintro e w' ⟨rfl, rfl⟩)
  generalize (w.alloc (.cells (sndOf 5 1 none 0 0 0 0) 52)) = w0 at *
  generalize hg : w.heap.size = g at *
  have HG := Lib.hid hg; clear hg
  refine (put_lit w0 97 H0 (by decide) (by decide) (by have := B0.size; have := HG.out; omega) _ HZ0.out).mono ?_
  rintro e w1 ⟨rfl, ⟨A1, n1, c1, v1, H1⟩, B1⟩
  have B01 := B0.trans B1
  clear H0 B0 B1
  go_wp2_with fail
  refine (put_lit w1 98 H1 (by have := H1.len; simp at this; omega) (by have := H1.len; simp at this; omega) (by have := B01.size; have := HG.out; omega) _ rfl).mono ?_
  rintro e w2 ⟨rfl, ⟨A2, n2, c2, v2, H2⟩, B2⟩
  have B02 := B01.trans B2
  clear H1 B01 B2
  go_wp2_with fail
  refine (out_some w2 0 (by decide) (H2 : Snd _ _ _ _ _ _ _ _ _ _ ([97] :: [[98]]) _ _) (by have := B02.size; have := HG.out; omega)).mono ?_
  rintro e w3 ⟨A3, c3, rfl, _, ⟨A4, n4, c4, v4, H3⟩, B3⟩
  have B03 := B02.trans B3
  clear H2 B02 B3
  go_wp2_with fail
  refine (out_none w3 H3 (.inr (by decide))).mono ?_
  rintro e w' ⟨rfl, rfl⟩
  go_wp2_with fail
  have H3' : Snd w3 g g [(.slice A3 1 c3, [97])] 5 1 A4 n4 c4 v4 [[97], [98]] 1 3 := H3
  clear H3
  go_loopw [11] (fun i wr => ∃ k : Nat, k ≤ 3 ∧ i = .int .i64 k ∧ Snd wr g g [(.slice A3 1 c3, [97])] 5 1 A4 n4 c4 v4 [[97], [98]] 1 (3 - k) ∧ Below g w wr) (fun i _ => 3 - (intOf i).toNat)
  case atStart => exact ⟨0, by omega, rfl, H3', B03⟩
  case round =>
    obtain ⟨k, hk, rfl, hS, hB⟩ := hrel
    by_cases hlt : k < 3
    · go_wp2_with (go_at_call 4; refine (tick_pos _ hS (by omega) (by omega)).mono ?_; rintro e w4 ⟨rfl, hS4, g4⟩)
      refine ⟨⟨k + 1, by omega, by simp, by simpa [Int.sub_sub] using hS4, hB.trans (below_of_grown g4 (Nat.le_refl _) (by have := hB.size; have := HG.out; omega))⟩, by simp only [intOf]; omega⟩
    · obtain rfl : k = 3 := by omega
      have H4 : Snd _ g g [(.slice A3 1 c3, [97])] 5 1 A4 n4 c4 v4 ([97] :: [[98]]) ((1 : Nat) : Int) 0 := hS
      clear H3' B03 hS
      go_wp2_with fail
      refine (out_some _ 1 (by decide) H4 (by have := hB.size; have := HG.out; omega)).mono ?_
      rintro e w5 ⟨A5, c5, rfl, _, ⟨A6, n6, c6, v6, H5⟩, B5⟩
      have H5' := H5.less (ys := [(.slice A3 1 c3, [97])]) (by simp)
      have B05 := hB.trans B5
      clear H4 hB B5 H5
      go_wp2_with fail
      refine (heard_yes _ H5' (by decide) (by have := B05.size; have := HG.out; omega)).mono ?_
      rintro e w6 ⟨rfl, ⟨A7, n7, c7, v7, H6⟩, B6⟩
      have B06 := B05.trans B6
      clear H5' B05 B6
      go_wp2_with fail
      refine (out_some _ 0 (by decide) H6 (by have := B06.size; have := HG.out; omega)).mono ?_
      rintro e w7 ⟨A8, c8, rfl, at8, ⟨A9, n9, c9, v9, H7⟩, B7⟩
      have B07 := B06.trans B7
      clear H6 B06 B7
      obtain ⟨Ab, cb, eb, _, atb, _⟩ := H7.ext (.slice A3 1 c3, [97]) (by simp)
      injection eb with e1 e2 e3
      subst e1; subst e3
      clear e2
      have kb : (convert 24 9 (.slice A3 1 c3)).run Tryd.prog w7 = .ok (.string (strN [97])) w7 := run_str (e := 5) w7 (by kernel_rfl) (by kernel_rfl) (by kernel_rfl) rfl atb
      have kd : (convert 24 9 (.slice A8 1 c8)).run Tryd.prog w7 = .ok (.string (strN [98])) w7 := run_str (e := 5) w7 (by kernel_rfl) (by kernel_rfl) (by kernel_rfl) rfl at8
      rw [show strN [97] = (⟨#[97]⟩ : ByteArray) from by decide] at kb
      rw [show strN [98] = (⟨#[98]⟩ : ByteArray) from by decide] at kd
      have hn9 : n9 = 1 := by have := H7.len; simp at this; omega
      subst hn9
      have HH7 := Lib.hid H7
      have HB7 := Lib.hid B07
      clear H7 B07 at8 atb
      go_wp2_with (first | (go_at_call 12; refine (waits_any _ HH7.out).mono ?_; rintro e w' ⟨rfl, rfl⟩) | (go_at_call 8; refine (heard_no _ 4 2 HH7.out (.inl (by decide))).mono ?_; rintro e w' ⟨rfl, rfl⟩))
      go_ret
      exact ⟨rfl, by rw [HG.out]; exact HB7.out⟩
end Go.Proofs.YtbejknjlpnibaaaDoor
