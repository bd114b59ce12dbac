/- Layer 14: the program's Encode. Printed by fre.py. -/
import Derived.Test.YtodimanghmepoaaDoorLfA
import Derived.Test.YtodimanghmepoaaDoorLcA
namespace Go.Proofs.YtodimanghmepoaaDoor
open Go.RowKit
/-- what a datagram's sum is of -/
def fhead (fr dt ak ep sq : Nat) (b : List Nat) : List Nat := 67 :: 85 :: (VM.enc fr ++ (VM.enc dt ++ (VM.enc ak ++ (VM.enc ep ++ (VM.enc sq ++ (VM.enc b.length ++ b))))))
def fdat (fr dt ak ep sq : Nat) (b : List Nat) : List Nat := fhead fr dt ak ep sq b ++ tl (Crc.sum (fhead fr dt ak ep sq b))
/-- a datagram, and no error -/
def EncE (w : World) (l : List Nat) (e : Ending) (w' : World) : Prop :=
  ∃ A c, e = .returned (.tuple #[.slice A l.length c, .nilIface]) ∧ Own w' w.heap.size 5 1 A l.length c (nats .u8 l) ∧ Below w.heap.size w w'
set_option maxRecDepth 100000 in
set_option maxHeartbeats 1000000 in
theorem fenc_no (fr dt : Int) (ack : Bool) (ep sq : Int) (A : Option Addr) (n c : Nat) (w : World) (hm : ¬ FMay fr dt ack ep sq n) :
    Calls Tryd.prog 23 #[.agg #[.int .i64 fr, .int .i64 dt, .bool ack, .int .i64 ep, .int .i64 sq, .slice A n c]] w fun e w' => e = .returned (.tuple #[.slice none 0 0, .iface 70 (.int .i64 1)]) ∧ Below w.heap.size w w' := by
  have HN := Lib.hid hm
  clear hm
  have B0 := Lib.hid ((Below.refl w.heap.size w).alloc (Nat.le_refl _) (.cells #[.int .i64 fr, .int .i64 dt, .bool ack, .int .i64 ep, .int .i64 sq, .slice A n c] 80))
  go_enter Tryd.func23, Tryd.ntmps23
  go_wp2_with fail
  refine (fcheck_any fr dt ack ep sq A n c _).mono ?_
  rintro e w1 ⟨h | h, b1⟩
  · exact absurd h.2 HN.out
  obtain ⟨rfl, _⟩ := h
  have B1 := Lib.hid (B0.out.trans (b1.mono (by simp)))
  clear b1
  go_wp2_with fail
  exact bodyPost_ret (v := .tuple #[.slice none 0 0, .iface 70 (.int .i64 1)]) (by simp [results, Tryd.results23, go_sem]) rfl ⟨rfl, B1.out⟩

set_option maxRecDepth 100000 in
set_option maxHeartbeats 4000000 in
theorem fenc_true (fr dt ep sq : Nat) (A : Option Addr) (c : Nat) (b : List Nat) (w : World) (hm : FMay fr dt true ep sq b.length) (hat : At w A (nats .u8 b)) :
    Calls Tryd.prog 23 #[.agg #[.int .i64 fr, .int .i64 dt, .bool true, .int .i64 ep, .int .i64 sq, .slice A b.length c]] w (EncE w (fdat fr dt 1 ep sq b)) := by
  have HM := Lib.hid hm
  have T0 := Lib.hid hat
  have H1 := Lib.hid (show fr ≤ 255 ∧ dt ≤ 255 ∧ ep ≤ 1073741824 ∧ sq ≤ 1073741824 ∧ b.length ≤ 8192 from by unfold FMay at hm; obtain ⟨h1, h2, h3, h4, h5, h6, h7⟩ := hm; first | (have := h6 rfl; omega) | (have := h7 rfl; omega))
  have m1 : (fr : Int) % 18446744073709551616 = fr := by have := H1.out; omega
  have m2 : (dt : Int) % 18446744073709551616 = dt := by have := H1.out; omega
  have m3 : (ep : Int) % 18446744073709551616 = ep := by have := H1.out; omega
  have m4 : (sq : Int) % 18446744073709551616 = sq := by have := H1.out; omega
  have Z1 := Lib.hid (VM.size_9 (v := fr) (by have := H1.out; omega))
  have Z2 := Lib.hid (VM.size_9 (v := dt) (by have := H1.out; omega))
  have Z3 := Lib.hid (VM.size_9 (v := ep) (by have := H1.out; omega))
  have Z4 := Lib.hid (VM.size_9 (v := sq) (by have := H1.out; omega))
  have Z5 := Lib.hid (VM.size_9 (v := b.length) (by have := H1.out; omega))
  have Z6 := Lib.hid (VM.size_9 (v := 1) (by omega))
  clear hm hat
  have B0 := Lib.hid ((Below.refl w.heap.size w).alloc (Nat.le_refl _) (.cells #[.int .i64 fr, .int .i64 dt, .bool true, .int .i64 ep, .int .i64 sq, .slice A b.length c] 80))
  have K0 := Lib.hid (Holds.new w 80 #[.int .i64 fr, .int .i64 dt, .bool true, .int .i64 ep, .int .i64 sq, .slice A b.length c] w.heap.size rfl)
  go_enter Tryd.func23, Tryd.ntmps23
  go_wp2_with fail
  refine (fcheck_any fr dt true ep sq A b.length c _).mono ?_
  rintro e w1 ⟨h | h, b1⟩
  rotate_left
  · exact absurd HM.out h.2
  obtain ⟨rfl, _⟩ := h
  have B1 := Lib.hid ((B0.out.trans (b1.mono (by simp))).alloc (by have := b1.size; simp at this; omega) (.cells #[.pointer none, .int .i64 0] 118))
  have K1 := Lib.hid ((K0.out.later b1 (Nat.le_refl _)).alloc (.cells #[.pointer none, .int .i64 0] 118))
  have gB := Lib.hid (show w.heap.size < w1.heap.size from by have := b1.size; simp at this; omega)
  have gB2 := Lib.hid (show some w1.heap.size ≠ some w.heap.size from by intro e; injection e with e; have := gB.out; omega)
  have W1 := Lib.hid (show Wr (w1.alloc (.cells #[.pointer none, .int .i64 0] 118)) w1.heap.size none [] from ⟨Holds.new w1 _ _ _ rfl, rfl⟩)
  have p0 := K1.out.cell 0
  simp at p0
  clear b1 B0 K0
  go_wp2_with fail
  have Q := wnum_any fr W1.out (by have := H1.out; omega) (by simp only [tot, List.map_cons, List.map_nil, List.sum_cons, List.sum_nil, VM.enc_length]; have := Z1.out; have := Z2.out; have := Z3.out; have := Z4.out; have := Z5.out; have := Z6.out; omega)
  with_reducible refine Q.mono ?_
  clear Q
  rintro e w2 ⟨rfl, p2, h2, g2⟩
  have W2 := Lib.hid h2
  have K2 := Lib.hid (K1.out.grown g2 gB2.out)
  have B2 := Lib.hid (B1.out.grown g2 B1.out.size (fun k hk => by injection hk with hk; have := gB.out; omega))
  have c1 := K2.out.cell 1
  simp at c1
  clear h2 g2
  go_wp2_with fail
  have Q := wnum_any dt W2.out (by have := H1.out; omega) (by simp only [tot, List.map_cons, List.map_nil, List.sum_cons, List.sum_nil, VM.enc_length]; have := Z1.out; have := Z2.out; have := Z3.out; have := Z4.out; have := Z5.out; have := Z6.out; omega)
  with_reducible refine Q.mono ?_
  clear Q
  rintro e w3 ⟨rfl, p3, h3, g3⟩
  have W3 := Lib.hid h3
  have K3 := Lib.hid (K2.out.grown g3 gB2.out)
  have B3 := Lib.hid (B2.out.grown g3 B2.out.size (fun k hk => by injection hk with hk; have := gB.out; omega))
  have c2 := K3.out.cell 2
  simp at c2
  clear h3 g3
  go_wp2_with fail
  have Q := wnum_any 1 W3.out (by have := H1.out; omega) (by simp only [tot, List.map_cons, List.map_nil, List.sum_cons, List.sum_nil, VM.enc_length]; have := Z1.out; have := Z2.out; have := Z3.out; have := Z4.out; have := Z5.out; have := Z6.out; omega); rw [show ((1 : Nat) : Int) = 1 from rfl] at Q
  with_reducible refine Q.mono ?_
  clear Q
  rintro e w4 ⟨rfl, p4, h4, g4⟩
  have W4 := Lib.hid h4
  have K4 := Lib.hid (K3.out.grown g4 gB2.out)
  have B4 := Lib.hid (B3.out.grown g4 B3.out.size (fun k hk => by injection hk with hk; have := gB.out; omega))
  have c3 := K4.out.cell 3
  simp at c3
  clear h4 g4
  go_wp2_with fail
  have Q := wnum_any ep W4.out (by have := H1.out; omega) (by simp only [tot, List.map_cons, List.map_nil, List.sum_cons, List.sum_nil, VM.enc_length]; have := Z1.out; have := Z2.out; have := Z3.out; have := Z4.out; have := Z5.out; have := Z6.out; omega)
  with_reducible refine Q.mono ?_
  clear Q
  rintro e w5 ⟨rfl, p5, h5, g5⟩
  have W5 := Lib.hid h5
  have K5 := Lib.hid (K4.out.grown g5 gB2.out)
  have B5 := Lib.hid (B4.out.grown g5 B4.out.size (fun k hk => by injection hk with hk; have := gB.out; omega))
  have c4 := K5.out.cell 4
  simp at c4
  clear h5 g5
  go_wp2_with fail
  have Q := wnum_any sq W5.out (by have := H1.out; omega) (by simp only [tot, List.map_cons, List.map_nil, List.sum_cons, List.sum_nil, VM.enc_length]; have := Z1.out; have := Z2.out; have := Z3.out; have := Z4.out; have := Z5.out; have := Z6.out; omega)
  with_reducible refine Q.mono ?_
  clear Q
  rintro e w6 ⟨rfl, p6, h6, g6⟩
  have W6 := Lib.hid h6
  have K6 := Lib.hid (K5.out.grown g6 gB2.out)
  have B6 := Lib.hid (B5.out.grown g6 B5.out.size (fun k hk => by injection hk with hk; have := gB.out; omega))
  have c5 := K6.out.cell 5
  simp at c5
  clear h6 g6
  go_wp2_with fail
  have Q := wbytes_any A c b W6.out (T0.out.later B6.out (Nat.le_refl _)) (by have := H1.out; omega) (by simp only [tot, List.map_cons, List.map_nil, List.sum_cons, List.sum_nil, VM.enc_length]; have := Z1.out; have := Z2.out; have := Z3.out; have := Z4.out; have := Z5.out; have := Z6.out; omega)
  with_reducible refine Q.mono ?_
  clear Q
  rintro e w7 ⟨rfl, p7, h7, g7⟩
  have B7 := Lib.hid (B6.out.grown g7 B6.out.size (fun k hk => by injection hk with hk; have := gB.out; omega))
  have W7 := Lib.hid (h7.later ((Below.refl _ _).alloc (Nat.le_refl _) (.cells #[.int .u8 67, .int .u8 85] 5)))
  have O7 := Lib.hid (Own.lit (w := w7) (base := w.heap.size) (e := 5) (size := 1) #[.int .u8 67, .int .u8 85] 2 B7.out.size (by decide) rfl)
  have B8 := Lib.hid (B7.out.alloc B7.out.size (.cells #[.int .u8 67, .int .u8 85] 5))
  clear h7 g7
  obtain ⟨l, hl⟩ : ∃ l, VM.enc fr ++ (VM.enc dt ++ (VM.enc 1 ++ (VM.enc ep ++ (VM.enc sq ++ (VM.enc b.length ++ b))))) = l := ⟨_, rfl⟩
  have HL := Lib.hid hl
  have hll : l.length ≤ 10000 := by rw [← hl]; simp only [List.length_append, VM.enc_length]; have := Z1.out; have := Z2.out; have := Z3.out; have := Z4.out; have := Z5.out; have := Z6.out; have := H1.out; omega
  have HF := Lib.hid (show fdat fr dt 1 ep sq b = 67 :: 85 :: l ++ tl (Crc.sum (67 :: 85 :: l)) from by rw [← hl]; rfl)
  clear hl
  go_wp2_with fail
  have Q := wall_any W7.out (by simp only [tot, List.map_cons, List.map_nil, List.sum_cons, List.sum_nil, VM.enc_length, List.length_append]; have := Z1.out; have := Z2.out; have := Z3.out; have := Z4.out; have := Z5.out; have := Z6.out; have := H1.out; omega)
  rw [show (((VM.enc b.length ++ b) :: [VM.enc sq, VM.enc ep, VM.enc 1, VM.enc dt, VM.enc fr]).reverse.flatten) = l from by rw [← HL.out]; simp] at Q
  with_reducible refine Q.mono ?_
  clear Q
  rintro e w9 ⟨A9, c9, rfl, t9, b9, _, _⟩
  have T9 := Lib.hid t9
  have O9 := Lib.hid (O7.out.below b9 (Nat.le_refl _))
  have B9 := Lib.hid (B8.out.trans (b9.mono B8.out.size))
  clear t9 b9
  go_wp2_with (at_builtin; go_loud (refine wpList_app rfl elt_u8 w.heap.size (.tmp 36) (.tmp 37) rfl _ rfl O9.out (nats .u8 l) rfl T9.out (by rw [nats_length, Nat.mul_one]) (nats_one _ _) (by unfold maxLen; omega) (by omega) B9.out.size ?_); intro A2 c2 w10 own2 g2 _; have O2 := Lib.hid own2; have B2 := Lib.hid (B9.out.grown g2 B9.out.size (fun k hk => (O9.out.lt k hk).1)); clear own2 g2)
  have Q := sum_any A2 (2 + l.length) c2 (67 :: 85 :: l) w10 (by simp; omega) (by omega) (by have := O2.out.at_; simpa [nats] using this)
  obtain ⟨v, hv⟩ : ∃ v, v = Crc.sum (67 :: 85 :: l) := ⟨_, rfl⟩
  rw [← hv] at Q
  have HV := Lib.hid hv
  clear hv
  refine Q.mono ?_
  rintro e w' ⟨rfl, rfl⟩
  clear Q
  obtain ⟨x, hx⟩ : ∃ x, v.toNat = x := ⟨_, rfl⟩
  have hx32 : x < 4294967296 := by have := v.isLt; omega
  have HX := Lib.hid hx
  rw [hx]
  clear hx
  have HT := Lib.hid (show nats .u8 (tl v) = [.int .u8 ((x : Int) / 16777216), .int .u8 ((x : Int) / 65536 % 256), .int .u8 ((x : Int) / 256 % 256), .int .u8 ((x : Int) % 256)] from by simp [nats, tl, HX.out])
  go_wp2_with (at_builtin; go_loud (refine wpList_app rfl elt_u8 w.heap.size (.tmp 41) (.tmp 53) rfl _ rfl (O2.out.alloc _) [.int .u8 ((x : Int) / 16777216), .int .u8 ((x : Int) / 65536 % 256), .int .u8 ((x : Int) / 256 % 256), .int .u8 ((x : Int) % 256)] rfl (At.lit _ _ _ _ _ rfl) rfl (by intro u hu; simp at hu; rcases hu with rfl | rfl | rfl | rfl <;> rfl) (by unfold maxLen; omega) (by omega) (by have := B2.out.size; simp; omega) ?_); intro A3 c3 w11 own3 g3 _; have O3 := Lib.hid own3; have B3 := Lib.hid ((B2.out.alloc B2.out.size _).grown g3 (by have := B2.out.size; simp; omega) (fun k hk => (O2.out.lt k hk).1)); clear own3 g3)
  have e1 : (fdat fr dt 1 ep sq b).length = 2 + l.length + 4 := by rw [HF.out]; simp [tl]; omega
  refine bodyPost_ret (v := .tuple #[.slice A3 (2 + l.length + 4) c3, .nilIface]) (by simp [results, Tryd.results23, go_sem]) rfl ?_
  refine ⟨A3, c3, by rw [e1], ?_, B3.out⟩
  rw [e1, HF.out, ← HV.out, nats_append, HT.out]
  have := O3.out
  simpa [nats] using this
set_option maxRecDepth 100000 in
set_option maxHeartbeats 4000000 in
theorem fenc_false (fr dt ep sq : Nat) (A : Option Addr) (c : Nat) (b : List Nat) (w : World) (hm : FMay fr dt false ep sq b.length) (hat : At w A (nats .u8 b)) :
    Calls Tryd.prog 23 #[.agg #[.int .i64 fr, .int .i64 dt, .bool false, .int .i64 ep, .int .i64 sq, .slice A b.length c]] w (EncE w (fdat fr dt 0 ep sq b)) := by
  have HM := Lib.hid hm
  have T0 := Lib.hid hat
  have H1 := Lib.hid (show fr ≤ 255 ∧ dt ≤ 255 ∧ ep ≤ 1073741824 ∧ sq ≤ 1073741824 ∧ b.length ≤ 8192 from by unfold FMay at hm; obtain ⟨h1, h2, h3, h4, h5, h6, h7⟩ := hm; first | (have := h6 rfl; omega) | (have := h7 rfl; omega))
  have m1 : (fr : Int) % 18446744073709551616 = fr := by have := H1.out; omega
  have m2 : (dt : Int) % 18446744073709551616 = dt := by have := H1.out; omega
  have m3 : (ep : Int) % 18446744073709551616 = ep := by have := H1.out; omega
  have m4 : (sq : Int) % 18446744073709551616 = sq := by have := H1.out; omega
  have Z1 := Lib.hid (VM.size_9 (v := fr) (by have := H1.out; omega))
  have Z2 := Lib.hid (VM.size_9 (v := dt) (by have := H1.out; omega))
  have Z3 := Lib.hid (VM.size_9 (v := ep) (by have := H1.out; omega))
  have Z4 := Lib.hid (VM.size_9 (v := sq) (by have := H1.out; omega))
  have Z5 := Lib.hid (VM.size_9 (v := b.length) (by have := H1.out; omega))
  have Z6 := Lib.hid (VM.size_9 (v := 0) (by omega))
  clear hm hat
  have B0 := Lib.hid ((Below.refl w.heap.size w).alloc (Nat.le_refl _) (.cells #[.int .i64 fr, .int .i64 dt, .bool false, .int .i64 ep, .int .i64 sq, .slice A b.length c] 80))
  have K0 := Lib.hid (Holds.new w 80 #[.int .i64 fr, .int .i64 dt, .bool false, .int .i64 ep, .int .i64 sq, .slice A b.length c] w.heap.size rfl)
  go_enter Tryd.func23, Tryd.ntmps23
  go_wp2_with fail
  refine (fcheck_any fr dt false ep sq A b.length c _).mono ?_
  rintro e w1 ⟨h | h, b1⟩
  rotate_left
  · exact absurd HM.out h.2
  obtain ⟨rfl, _⟩ := h
  have B1 := Lib.hid ((B0.out.trans (b1.mono (by simp))).alloc (by have := b1.size; simp at this; omega) (.cells #[.pointer none, .int .i64 0] 118))
  have K1 := Lib.hid ((K0.out.later b1 (Nat.le_refl _)).alloc (.cells #[.pointer none, .int .i64 0] 118))
  have gB := Lib.hid (show w.heap.size < w1.heap.size from by have := b1.size; simp at this; omega)
  have gB2 := Lib.hid (show some w1.heap.size ≠ some w.heap.size from by intro e; injection e with e; have := gB.out; omega)
  have W1 := Lib.hid (show Wr (w1.alloc (.cells #[.pointer none, .int .i64 0] 118)) w1.heap.size none [] from ⟨Holds.new w1 _ _ _ rfl, rfl⟩)
  have p0 := K1.out.cell 0
  simp at p0
  clear b1 B0 K0
  go_wp2_with fail
  have Q := wnum_any fr W1.out (by have := H1.out; omega) (by simp only [tot, List.map_cons, List.map_nil, List.sum_cons, List.sum_nil, VM.enc_length]; have := Z1.out; have := Z2.out; have := Z3.out; have := Z4.out; have := Z5.out; have := Z6.out; omega)
  with_reducible refine Q.mono ?_
  clear Q
  rintro e w2 ⟨rfl, p2, h2, g2⟩
  have W2 := Lib.hid h2
  have K2 := Lib.hid (K1.out.grown g2 gB2.out)
  have B2 := Lib.hid (B1.out.grown g2 B1.out.size (fun k hk => by injection hk with hk; have := gB.out; omega))
  have c1 := K2.out.cell 1
  simp at c1
  clear h2 g2
  go_wp2_with fail
  have Q := wnum_any dt W2.out (by have := H1.out; omega) (by simp only [tot, List.map_cons, List.map_nil, List.sum_cons, List.sum_nil, VM.enc_length]; have := Z1.out; have := Z2.out; have := Z3.out; have := Z4.out; have := Z5.out; have := Z6.out; omega)
  with_reducible refine Q.mono ?_
  clear Q
  rintro e w3 ⟨rfl, p3, h3, g3⟩
  have W3 := Lib.hid h3
  have K3 := Lib.hid (K2.out.grown g3 gB2.out)
  have B3 := Lib.hid (B2.out.grown g3 B2.out.size (fun k hk => by injection hk with hk; have := gB.out; omega))
  have c2 := K3.out.cell 2
  simp at c2
  clear h3 g3
  go_wp2_with fail
  have Q := wnum_any 0 W3.out (by have := H1.out; omega) (by simp only [tot, List.map_cons, List.map_nil, List.sum_cons, List.sum_nil, VM.enc_length]; have := Z1.out; have := Z2.out; have := Z3.out; have := Z4.out; have := Z5.out; have := Z6.out; omega); rw [show ((0 : Nat) : Int) = 0 from rfl] at Q
  with_reducible refine Q.mono ?_
  clear Q
  rintro e w4 ⟨rfl, p4, h4, g4⟩
  have W4 := Lib.hid h4
  have K4 := Lib.hid (K3.out.grown g4 gB2.out)
  have B4 := Lib.hid (B3.out.grown g4 B3.out.size (fun k hk => by injection hk with hk; have := gB.out; omega))
  have c3 := K4.out.cell 3
  simp at c3
  clear h4 g4
  go_wp2_with fail
  have Q := wnum_any ep W4.out (by have := H1.out; omega) (by simp only [tot, List.map_cons, List.map_nil, List.sum_cons, List.sum_nil, VM.enc_length]; have := Z1.out; have := Z2.out; have := Z3.out; have := Z4.out; have := Z5.out; have := Z6.out; omega)
  with_reducible refine Q.mono ?_
  clear Q
  rintro e w5 ⟨rfl, p5, h5, g5⟩
  have W5 := Lib.hid h5
  have K5 := Lib.hid (K4.out.grown g5 gB2.out)
  have B5 := Lib.hid (B4.out.grown g5 B4.out.size (fun k hk => by injection hk with hk; have := gB.out; omega))
  have c4 := K5.out.cell 4
  simp at c4
  clear h5 g5
  go_wp2_with fail
  have Q := wnum_any sq W5.out (by have := H1.out; omega) (by simp only [tot, List.map_cons, List.map_nil, List.sum_cons, List.sum_nil, VM.enc_length]; have := Z1.out; have := Z2.out; have := Z3.out; have := Z4.out; have := Z5.out; have := Z6.out; omega)
  with_reducible refine Q.mono ?_
  clear Q
  rintro e w6 ⟨rfl, p6, h6, g6⟩
  have W6 := Lib.hid h6
  have K6 := Lib.hid (K5.out.grown g6 gB2.out)
  have B6 := Lib.hid (B5.out.grown g6 B5.out.size (fun k hk => by injection hk with hk; have := gB.out; omega))
  have c5 := K6.out.cell 5
  simp at c5
  clear h6 g6
  go_wp2_with fail
  have Q := wbytes_any A c b W6.out (T0.out.later B6.out (Nat.le_refl _)) (by have := H1.out; omega) (by simp only [tot, List.map_cons, List.map_nil, List.sum_cons, List.sum_nil, VM.enc_length]; have := Z1.out; have := Z2.out; have := Z3.out; have := Z4.out; have := Z5.out; have := Z6.out; omega)
  with_reducible refine Q.mono ?_
  clear Q
  rintro e w7 ⟨rfl, p7, h7, g7⟩
  have B7 := Lib.hid (B6.out.grown g7 B6.out.size (fun k hk => by injection hk with hk; have := gB.out; omega))
  have W7 := Lib.hid (h7.later ((Below.refl _ _).alloc (Nat.le_refl _) (.cells #[.int .u8 67, .int .u8 85] 5)))
  have O7 := Lib.hid (Own.lit (w := w7) (base := w.heap.size) (e := 5) (size := 1) #[.int .u8 67, .int .u8 85] 2 B7.out.size (by decide) rfl)
  have B8 := Lib.hid (B7.out.alloc B7.out.size (.cells #[.int .u8 67, .int .u8 85] 5))
  clear h7 g7
  obtain ⟨l, hl⟩ : ∃ l, VM.enc fr ++ (VM.enc dt ++ (VM.enc 0 ++ (VM.enc ep ++ (VM.enc sq ++ (VM.enc b.length ++ b))))) = l := ⟨_, rfl⟩
  have HL := Lib.hid hl
  have hll : l.length ≤ 10000 := by rw [← hl]; simp only [List.length_append, VM.enc_length]; have := Z1.out; have := Z2.out; have := Z3.out; have := Z4.out; have := Z5.out; have := Z6.out; have := H1.out; omega
  have HF := Lib.hid (show fdat fr dt 0 ep sq b = 67 :: 85 :: l ++ tl (Crc.sum (67 :: 85 :: l)) from by rw [← hl]; rfl)
  clear hl
  go_wp2_with fail
  have Q := wall_any W7.out (by simp only [tot, List.map_cons, List.map_nil, List.sum_cons, List.sum_nil, VM.enc_length, List.length_append]; have := Z1.out; have := Z2.out; have := Z3.out; have := Z4.out; have := Z5.out; have := Z6.out; have := H1.out; omega)
  rw [show (((VM.enc b.length ++ b) :: [VM.enc sq, VM.enc ep, VM.enc 0, VM.enc dt, VM.enc fr]).reverse.flatten) = l from by rw [← HL.out]; simp] at Q
  with_reducible refine Q.mono ?_
  clear Q
  rintro e w9 ⟨A9, c9, rfl, t9, b9, _, _⟩
  have T9 := Lib.hid t9
  have O9 := Lib.hid (O7.out.below b9 (Nat.le_refl _))
  have B9 := Lib.hid (B8.out.trans (b9.mono B8.out.size))
  clear t9 b9
  go_wp2_with (at_builtin; go_loud (refine wpList_app rfl elt_u8 w.heap.size (.tmp 36) (.tmp 37) rfl _ rfl O9.out (nats .u8 l) rfl T9.out (by rw [nats_length, Nat.mul_one]) (nats_one _ _) (by unfold maxLen; omega) (by omega) B9.out.size ?_); intro A2 c2 w10 own2 g2 _; have O2 := Lib.hid own2; have B2 := Lib.hid (B9.out.grown g2 B9.out.size (fun k hk => (O9.out.lt k hk).1)); clear own2 g2)
  have Q := sum_any A2 (2 + l.length) c2 (67 :: 85 :: l) w10 (by simp; omega) (by omega) (by have := O2.out.at_; simpa [nats] using this)
  obtain ⟨v, hv⟩ : ∃ v, v = Crc.sum (67 :: 85 :: l) := ⟨_, rfl⟩
  rw [← hv] at Q
  have HV := Lib.hid hv
  clear hv
  refine Q.mono ?_
  rintro e w' ⟨rfl, rfl⟩
  clear Q
  obtain ⟨x, hx⟩ : ∃ x, v.toNat = x := ⟨_, rfl⟩
  have hx32 : x < 4294967296 := by have := v.isLt; omega
  have HX := Lib.hid hx
  rw [hx]
  clear hx
  have HT := Lib.hid (show nats .u8 (tl v) = [.int .u8 ((x : Int) / 16777216), .int .u8 ((x : Int) / 65536 % 256), .int .u8 ((x : Int) / 256 % 256), .int .u8 ((x : Int) % 256)] from by simp [nats, tl, HX.out])
  go_wp2_with (at_builtin; go_loud (refine wpList_app rfl elt_u8 w.heap.size (.tmp 41) (.tmp 53) rfl _ rfl (O2.out.alloc _) [.int .u8 ((x : Int) / 16777216), .int .u8 ((x : Int) / 65536 % 256), .int .u8 ((x : Int) / 256 % 256), .int .u8 ((x : Int) % 256)] rfl (At.lit _ _ _ _ _ rfl) rfl (by intro u hu; simp at hu; rcases hu with rfl | rfl | rfl | rfl <;> rfl) (by unfold maxLen; omega) (by omega) (by have := B2.out.size; simp; omega) ?_); intro A3 c3 w11 own3 g3 _; have O3 := Lib.hid own3; have B3 := Lib.hid ((B2.out.alloc B2.out.size _).grown g3 (by have := B2.out.size; simp; omega) (fun k hk => (O2.out.lt k hk).1)); clear own3 g3)
  have e1 : (fdat fr dt 0 ep sq b).length = 2 + l.length + 4 := by rw [HF.out]; simp [tl]; omega
  refine bodyPost_ret (v := .tuple #[.slice A3 (2 + l.length + 4) c3, .nilIface]) (by simp [results, Tryd.results23, go_sem]) rfl ?_
  refine ⟨A3, c3, by rw [e1], ?_, B3.out⟩
  rw [e1, HF.out, ← HV.out, nats_append, HT.out]
  have := O3.out
  simpa [nats] using this
end Go.Proofs.YtodimanghmepoaaDoor
