/- Layer 14's law: what must come whatever the input is. -/
import Derived.Test.YtlimabhojocimaaDoorFrW
namespace Go.Proofs.YtlimabhojocimaaDoor
open Go.RowKit
theorem may_lit : FMay (1 : Nat) (2 : Nat) false (1 : Nat) (3 : Nat) ([120] : List Nat).length := by unfold FMay; simp
theorem encx_lit : encX 1 2 false 1 3 1 = 0 := by unfold encX; exact if_pos may_lit
theorem encl_lit : encL 1 2 false 1 3 [120] = fdat 1 2 0 1 3 [120] := by unfold encL; exact if_pos may_lit
theorem good_lit : Good (encL 1 2 false 1 3 [120]) 1 2 false 1 3 [120] := ⟨may_lit, encl_lit⟩
theorem len_lit : (encL 1 2 false 1 3 [120]).length = 13 := by
  rw [encl_lit, fdat_len, fhead_len]
  simp [VM.enc]
theorem encx_zero : encX 0 0 false 0 0 0 = 1 := by unfold encX; rw [if_neg (by unfold FMay; simp)]
theorem encl_zero : encL 0 0 false 0 0 [] = [] := by unfold encL; rw [if_neg (by unfold FMay; simp)]
theorem dres_nil : Dres [] 0 0 false 0 0 [] 3 := Dres.no (l := []) (fun _ _ _ _ _ _ h => by have := h.form.1; simp at this)
set_option maxRecDepth 100000 in
set_option maxHeartbeats 2000000 in
theorem sure14 (w : World) (hg : Glob w) : Calls Tryd.prog 5 #[] w fun e w' => e = .returned (.bool true) ∧ Below w.heap.size w w' := by
  have HG := Lib.hid hg
  clear hg
  have kc := fun (w : World) (C : Array Value) (n c : Nat) => Lib.run_convert_bytes_const (P := Tryd.prog) w 22 5 C n c (by kernel_rfl) (by kernel_rfl)
  go_enter Tryd.func5, Tryd.ntmps5
  go_wp2_with fail
  have B1 := Lib.hid ((Below.refl w.heap.size w).alloc (Nat.le_refl _) (.cells #[.int .u8 120] 5 (1, 2)))
  have S1 := Lib.hid (show At (w.alloc (.cells #[.int .u8 120] 5 (1, 2))) (some ⟨w.heap.size, 0, none⟩) (nats .u8 [120]) from At.lit w _ _ _ _ rfl)
  have Q := enc_any 1 2 false 1 3 (some ⟨w.heap.size, 0, none⟩) 1 1 [120] _ rfl S1.out
  rw [show ([120] : List Nat).length = 1 from rfl, encx_lit, erV_zero] at Q
  have HLN := Lib.hid len_lit
  have HGD := Lib.hid good_lit
  generalize encL 1 2 false 1 3 [120] = L at *
  unfold EncR at Q
  rw [HLN.out] at Q
  with_reducible refine Q.mono ?_
  clear Q
  rintro e w1 ⟨A1, c1, rfl, o1, b1⟩
  have O1 := Lib.hid o1
  have B2 := Lib.hid (B1.out.trans (b1.mono B1.out.size))
  clear o1 b1 S1 kc
  go_wp2_with fail
  have hby : ∀ y ∈ L, y < 256 := by
    rw [HGD.out.2]
    exact fdat_byte (by decide) (by decide) (by decide) (by decide) (by decide) (by decide) (by simp)
  with_reducible refine (dec_any A1 13 c1 L w1 HLN.out O1.out.cap.1 (by have := O1.out.cap.2; unfold maxLen at this; omega) O1.out.at_ hby).mono ?_
  rintro e w2 ⟨fr, dt, k, ep, sq, bd, x, A2, c2, rfl, t2, b2, hd⟩
  obtain ⟨rfl, rfl, rfl, rfl, rfl, rfl, rfl⟩ := Dres.uniq (.inl ⟨rfl, HGD.out⟩) hd
  have T2 := Lib.hid t2
  have B3 := Lib.hid (B2.out.trans (b2.mono B2.out.size))
  clear t2 b2 hd hby
  rw [erV_zero]
  unfold pkF
  go_wp2_with fail
  have NP := (Below.refl w2.heap.size w2).alloc (Nat.le_refl _) (.cells #[.int .i64 1, .int .i64 2, .bool false, .int .i64 1, .int .i64 3, .slice A2 1 c2] 30)
  have P2 := Lib.hid (Holds.new w2 30 #[.int .i64 1, .int .i64 2, .bool false, .int .i64 1, .int .i64 3, .slice A2 1 c2] w2.heap.size rfl)
  have T3 := Lib.hid (T2.out.later NP (Nat.le_refl _))
  have B4 := Lib.hid (B3.out.trans (NP.mono B3.out.size))
  clear NP T2 B3
  generalize w2.heap.size = g2 at *
  generalize w2.alloc (.cells #[.int .i64 1, .int .i64 2, .bool false, .int .i64 1, .int .i64 3, .slice A2 1 c2] 30) = w3 at *
  with_reducible refine (dec_any none 0 0 [] w3 rfl (Nat.le_refl _) (by decide) (At.nil _ _) (by simp)).mono ?_
  rintro e w4 ⟨fr, dt, k, ep, sq, bd, x, A4, c4, rfl, t4, b4, hd⟩
  obtain ⟨rfl, rfl, rfl, rfl, rfl, rfl, rfl⟩ := dres_nil.uniq hd
  rw [erV_ne (show (3 : Int) ≠ 0 by decide)]
  have P4 := Lib.hid (P2.out.later b4 (Nat.le_refl _))
  have T4 := Lib.hid (T3.out.later b4 (Nat.le_refl _))
  have B5 := Lib.hid (B4.out.trans (b4.mono B4.out.size))
  clear t4 b4 hd P2 T3 B4
  unfold pkF
  go_wp2_with fail
  have NP := (Below.refl w4.heap.size w4).alloc (Nat.le_refl _) (.cells #[.int .i64 0, .int .i64 0, .bool false, .int .i64 0, .int .i64 0, .slice A4 0 c4] 30)
  have P5 := Lib.hid (P4.out.later NP (Nat.le_refl _))
  have T5 := Lib.hid (T4.out.later NP (Nat.le_refl _))
  have B6 := Lib.hid (B5.out.trans (NP.mono B5.out.size))
  clear NP P4 T4 B5
  generalize w4.heap.size = g4 at *
  generalize w4.alloc (.cells #[.int .i64 0, .int .i64 0, .bool false, .int .i64 0, .int .i64 0, .slice A4 0 c4] 30) = w5 at *
  have Q := enc_any 0 0 false 0 0 none 0 0 [] w5 rfl (At.nil _ _)
  rw [show ([] : List Nat).length = 0 from rfl, encx_zero, encl_zero, erV_ne (show (1 : Int) ≠ 0 by decide)] at Q
  unfold EncR at Q
  rw [show ([] : List Nat).length = 0 from rfl] at Q
  with_reducible refine Q.mono ?_
  clear Q
  rintro e w6 ⟨A6, c6, rfl, _, b6⟩
  have P6 := Lib.hid (P5.out.later b6 (Nat.le_refl _))
  have T6 := Lib.hid (T5.out.later b6 (Nat.le_refl _))
  have B7 := Lib.hid (B6.out.trans (b6.mono B6.out.size))
  clear b6 P5 T5 B6
  have q4 : w6.cell? ⟨g2, 4, none⟩ = some (.int .i64 3) := P6.out.cell 4
  have q5 : w6.cell? ⟨g2, 5, none⟩ = some (.slice A2 1 c2) := P6.out.cell 5
  have kb := run_str (P := Tryd.prog) (src := 22) (dst := 9) (e := 5) w6 (by kernel_rfl) (by kernel_rfl) (by kernel_rfl) (c := c2) (show ([120] : List Nat).length = 1 from rfl) T6.out
  rw [show strN [120] = (⟨#[120]⟩ : ByteArray) from by decide] at kb
  have N3 := num_er 3 w6 (HG.out.later B7.out (Nat.le_refl _))
  rw [erV_ne (show (3 : Int) ≠ 0 by decide)] at N3
  have NN := Lib.hid N3
  clear N3
  go_wp2_with fail
  with_reducible refine NN.out.mono ?_
  rintro e w7 ⟨rfl, b7⟩
  have N1 := num_er 1 w7 (HG.out.later (B7.out.trans (b7.mono B7.out.size)) (Nat.le_refl _))
  rw [erV_ne (show (1 : Int) ≠ 0 by decide)] at N1
  have B8 := Lib.hid (B7.out.trans (b7.mono B7.out.size))
  have NM := Lib.hid N1
  clear N1 b7 kb q4 q5
  go_wp2_with fail
  with_reducible refine NM.out.mono ?_
  rintro e w8 ⟨rfl, b8⟩
  have B9 := Lib.hid (B8.out.trans (b8.mono B8.out.size))
  clear b8
  go_wp2_with fail
  go_ret
  exact ⟨rfl, B9.out⟩
end Go.Proofs.YtlimabhojocimaaDoor
