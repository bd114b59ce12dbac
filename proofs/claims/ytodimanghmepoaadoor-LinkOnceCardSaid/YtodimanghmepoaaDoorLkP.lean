/- Layer 19's law: what must come whatever the input is. Printed by lkp.py. -/
import Derived.Test.YtodimanghmepoaaDoorLkO
import Derived.Test.YtodimanghmepoaaDoorNum19
namespace Go.Proofs.YtodimanghmepoaaDoor
open Go.RowKit
set_option maxRecDepth 100000 in
set_option maxHeartbeats 4000000 in
theorem sure19 (w : World) (hg : Glob w) : Calls Tryd.prog 7 #[] w fun e w' => e = .returned (.bool true) ∧ Below w.heap.size w w' := by
  have HG := Lib.hid hg
  clear hg
  have M_d := (show FMay (1 : Nat) (2 : Nat) false (7 : Nat) (1 : Nat) ([120] : List Nat).length from by unfold FMay; simp)
  have G_d := enc_len M_d
  have V_d := (encL_good M_d).form.2.2.2.2
  have Y_d := encL_byte (fr := (1 : Nat)) (dt := (2 : Nat)) (k := false) (ep := (7 : Nat)) (sq := (1 : Nat)) (b := [120]) (by simp)
  have R1 := Lib.hid (show hearR (⟨2, 1, 9, 1, [], 0, 0, 0, 0, false, 0, 0⟩ : LSt) (encL (1 : Nat) (2 : Nat) false (7 : Nat) (1 : Nat) [120]) = ((⟨2, 1, 9, 1, [], 0, 0, 7, 1, true, 7, 1⟩ : LSt), [120], true, 0) from hear_data M_d rfl rfl (tk := true) (E2 := 7) (L2 := 1) (la := 1) (by decide))
  have R2 := Lib.hid (show hearR (⟨2, 1, 9, 1, [], 0, 0, 7, 1, true, 7, 1⟩ : LSt) (encL (1 : Nat) (2 : Nat) false (7 : Nat) (1 : Nat) [120]) = ((⟨2, 1, 9, 1, [], 0, 0, 7, 1, true, 7, 1⟩ : LSt), [], false, 0) from hear_data M_d rfl rfl (tk := false) (E2 := 7) (L2 := 1) (la := 1) (by decide))
  have R3 := Lib.hid (show hearR (⟨1, 2, 7, 2, [], 0, 0, 0, 0, false, 0, 0⟩ : LSt) (encL (1 : Nat) (2 : Nat) false (7 : Nat) (1 : Nat) [120]) = ((⟨1, 2, 7, 2, [], 0, 0, 0, 0, false, 0, 0⟩ : LSt), [], false, 1) from hear_wrong M_d (by decide))
  have Z_d : ∃ D, encL (1 : Nat) (2 : Nat) false (7 : Nat) (1 : Nat) [120] = D := ⟨_, rfl⟩
  obtain ⟨d_d, E_d⟩ := Z_d
  rw [E_d] at G_d Y_d V_d R1 R2 R3
  have EE_d := Lib.hid E_d
  have BY_d := Lib.hid Y_d
  obtain ⟨n_d, hn⟩ : ∃ n, d_d.length = n := ⟨_, rfl⟩
  rw [hn] at G_d
  have L_d := Lib.hid hn
  have LN_d := Lib.hid G_d
  have FT_d := Lib.hid V_d
  clear V_d M_d G_d Y_d E_d hn
  have M_v := (show FMay (2 : Nat) (1 : Nat) true (7 : Nat) (1 : Nat) ([] : List Nat).length from by unfold FMay; simp)
  have G_v := enc_len M_v
  have V_v := (encL_good M_v).form.2.2.2.2
  have Y_v := encL_byte (fr := (2 : Nat)) (dt := (1 : Nat)) (k := true) (ep := (7 : Nat)) (sq := (1 : Nat)) (b := []) (by simp)
  have R4 := Lib.hid (show hearR (⟨1, 2, 7, 1, [[120]], 1, 3, 0, 0, false, 0, 0⟩ : LSt) (encL (2 : Nat) (1 : Nat) true (7 : Nat) (1 : Nat) []) = ((⟨1, 2, 7, 2, [], 0, 0, 0, 0, false, 0, 0⟩ : LSt), [], false, 0) from hear_word M_v rfl rfl)
  have Z_v : ∃ D, encL (2 : Nat) (1 : Nat) true (7 : Nat) (1 : Nat) [] = D := ⟨_, rfl⟩
  obtain ⟨d_v, E_v⟩ := Z_v
  rw [E_v] at G_v Y_v V_v R4
  have EE_v := Lib.hid E_v
  have BY_v := Lib.hid Y_v
  obtain ⟨n_v, hn⟩ : ∃ n, d_v.length = n := ⟨_, rfl⟩
  rw [hn] at G_v
  have L_v := Lib.hid hn
  have LN_v := Lib.hid G_v
  have FT_v := Lib.hid V_v
  clear V_v M_v G_v Y_v E_v hn
  have O1 := Lib.hid (show outA (⟨1, 2, 7, 1, [[120]], 0, 0, 0, 0, false, 0, 0⟩ : LSt) ++ outB (⟨1, 2, 7, 1, [[120]], 0, 0, 0, 0, false, 0, 0⟩ : LSt) = [d_d] from by rw [← EE_d.out]; rfl)
  have O2 := Lib.hid (show outA (⟨2, 1, 9, 1, [], 0, 0, 7, 1, true, 7, 1⟩ : LSt) ++ outB (⟨2, 1, 9, 1, [], 0, 0, 7, 1, true, 7, 1⟩ : LSt) = [d_v] from by rw [← EE_v.out]; rfl)
  have kc := fun (w : World) (C : Array Value) (n c : Nat) => Lib.run_convert_bytes_const (P := Tryd.prog) w 22 5 C n c (by kernel_rfl) (by kernel_rfl)
  go_enter Tryd.func7, Tryd.ntmps7
  go_wp2_with fail
  with_reducible refine (wt_new0 w 1 2 7 (newS 0 0 0) (by decide) (by decide) (by decide) (by decide)).mono ?_
  rintro e w1 ⟨pa, F1, rfl, hw, hI⟩
  have HW := Lib.hid hw
  have HI := Lib.hid hI
  clear hw hI
  go_wp2_with fail
  with_reducible refine (wt_new1 HW.out HI.out 2 1 9 (by decide) (by decide) (by decide) (by decide)).mono ?_
  rintro e w2 ⟨pb, F2, rfl, hw, -⟩
  replace HW := Lib.hid (show Ways w w2 2 F2 (tri pa pb 0) (tri (⟨1, 2, 7, 1, [], 0, 0, 0, 0, false, 0, 0⟩ : LSt) (⟨2, 1, 9, 1, [], 0, 0, 0, 0, false, 0, 0⟩ : LSt) (newS 0 0 0)) from hw)
  clear hw HI
  go_wp2_with fail
  have bel := (Below.refl w2.heap.size w2).alloc (Nat.le_refl _) (.cells #[.int .u8 120] 5 (1, 2))
  have S1 := Lib.hid (show At (w2.alloc (.cells #[.int .u8 120] 5 (1, 2))) (some ⟨w2.heap.size, 0, none⟩) (nats .u8 [120]) from At.lit w2 _ _ _ _ rfl)
  replace HW := Lib.hid (HW.out.later bel)
  clear bel kc
  generalize w2.alloc (.cells #[.int .u8 120] 5 (1, 2)) = w3 at *
  generalize w2.heap.size = g2 at *
  with_reducible refine (wt_put0 HW.out (by decide) (by decide) (by decide) (some ⟨g2, 0, none⟩) 1 [120] (by decide) (by simp) S1.out (fun h => by cases h) (n := 1) rfl (s' := (⟨1, 2, 7, 1, [[120]], 0, 0, 0, 0, false, 0, 0⟩ : LSt)) rfl).mono ?_
  rintro e w4 ⟨F4, rfl, hw, hk⟩
  replace HW := Lib.hid hw
  clear hw hk S1
  go_wp2_with fail
  with_reducible refine (wt_out0 HW.out (by decide) O1.out (n := 1) rfl (s' := (⟨1, 2, 7, 1, [[120]], 1, 3, 0, 0, false, 0, 0⟩ : LSt)) rfl).mono ?_
  rintro e w5 ⟨A5, c5, vs5, F5, rfl, hw, hk, hd⟩
  replace HW := Lib.hid hw
  clear hw
  clear hk
  obtain ⟨b_l, o_l, A_l, c_l, rfl, hcel, hcap, hdat⟩ := hd.one
  have C_l := Lib.hid hcel
  have X_l := Lib.hid hcap
  have D_l := Lib.hid hdat
  clear hd hcel hcap hdat
  rw [L_d.out] at C_l
  have q_C_l := C_l.out.cell
  go_wp2_with fail
  with_reducible refine (wt_hear1 HW.out (by decide) A_l c_l d_d (by rw [L_d.out]; exact ⟨by have := X_l.out.1; rw [L_d.out] at this; exact this, X_l.out.2.1⟩) D_l.out.at_ BY_d.out (n := n_d) (m := 1) L_d.out R1.out rfl (v := .nilIface) erV_zero).mono ?_
  rintro e w6 ⟨Ab, cb, F6, rfl, hw, hk, hd⟩
  replace HW := Lib.hid hw
  clear hw
  clear q_C_l
  replace C_l := Lib.hid (C_l.out.keep hk)
  replace D_l := Lib.hid (D_l.out.keep hk)
  clear hk
  have BD := Lib.hid hd
  clear hd
  have q_C_l := C_l.out.cell
  go_wp2_with fail
  with_reducible refine (wt_hear1 HW.out (by decide) A_l c_l d_d (by rw [L_d.out]; exact ⟨by have := X_l.out.1; rw [L_d.out] at this; exact this, X_l.out.2.1⟩) D_l.out.at_ BY_d.out (n := n_d) (m := 0) L_d.out R2.out rfl (v := .nilIface) erV_zero).mono ?_
  rintro e w7 ⟨Ac, cc, F7, rfl, hw, hk, -⟩
  replace HW := Lib.hid hw
  clear hw
  clear q_C_l
  replace C_l := Lib.hid (C_l.out.keep hk)
  replace D_l := Lib.hid (D_l.out.keep hk)
  replace BD := Lib.hid (BD.out.keep hk)
  clear hk
  go_wp2_with fail
  with_reducible refine (wt_out1 HW.out (by decide) O2.out (n := 1) rfl (s' := (⟨2, 1, 9, 1, [], 0, 0, 7, 1, false, 7, 1⟩ : LSt)) rfl).mono ?_
  rintro e w8 ⟨A5, c5, vs5, F8, rfl, hw, hk, hd⟩
  replace HW := Lib.hid hw
  clear hw
  replace C_l := Lib.hid (C_l.out.keep hk)
  replace D_l := Lib.hid (D_l.out.keep hk)
  replace BD := Lib.hid (BD.out.keep hk)
  clear hk
  obtain ⟨b_m, o_m, A_m, c_m, rfl, hcel, hcap, hdat⟩ := hd.one
  have C_m := Lib.hid hcel
  have X_m := Lib.hid hcap
  have D_m := Lib.hid hdat
  clear hd hcel hcap hdat
  rw [L_v.out] at C_m
  have q_C_m := C_m.out.cell
  go_wp2_with fail
  with_reducible refine (wt_hear0 HW.out (by decide) A_m c_m d_v (by rw [L_v.out]; exact ⟨by have := X_m.out.1; rw [L_v.out] at this; exact this, X_m.out.2.1⟩) D_m.out.at_ BY_v.out (n := n_v) (m := 0) L_v.out R4.out rfl (v := .nilIface) erV_zero).mono ?_
  rintro e w9 ⟨Ad, cd, F9, rfl, hw, hk, -⟩
  replace HW := Lib.hid hw
  clear hw
  clear q_C_m
  replace C_l := Lib.hid (C_l.out.keep hk)
  replace D_l := Lib.hid (D_l.out.keep hk)
  replace BD := Lib.hid (BD.out.keep hk)
  replace C_m := Lib.hid (C_m.out.keep hk)
  replace D_m := Lib.hid (D_m.out.keep hk)
  clear hk
  have q_C_l := C_l.out.cell
  go_wp2_with fail
  with_reducible refine (wt_hear0 HW.out (by decide) A_l c_l d_d (by rw [L_d.out]; exact ⟨by have := X_l.out.1; rw [L_d.out] at this; exact this, X_l.out.2.1⟩) D_l.out.at_ BY_d.out (n := n_d) (m := 0) L_d.out R3.out rfl (v := (.iface 70 (.int .i64 1))) (erV_ne (by decide))).mono ?_
  rintro e w10 ⟨Ae, ce, F10, rfl, hw, hk, -⟩
  replace HW := Lib.hid hw
  clear hw
  clear q_C_l
  replace C_l := Lib.hid (C_l.out.keep hk)
  replace D_l := Lib.hid (D_l.out.keep hk)
  replace BD := Lib.hid (BD.out.keep hk)
  replace C_m := Lib.hid (C_m.out.keep hk)
  replace D_m := Lib.hid (D_m.out.keep hk)
  clear hk
  have kb := run_str (P := Tryd.prog) (src := 22) (dst := 9) (e := 5) w10 (by kernel_rfl) (by kernel_rfl) (by kernel_rfl) (c := cb) (show ([120] : List Nat).length = 1 from rfl) BD.out.at_
  rw [show strN [120] = (⟨#[120]⟩ : ByteArray) from by decide] at kb
  have NN := Lib.hid (num19_err 1 w10 (HG.out.later HW.out.bel (Nat.le_refl _)))
  go_wp2_with fail
  with_reducible refine NN.out.mono ?_
  rintro e w11 ⟨rfl, hb⟩
  replace HW := Lib.hid (HW.out.later hb)
  clear hb NN kb
  go_wp2_with fail
  with_reducible refine (wt_waits0 HW.out (by decide) (n := 0) rfl).mono ?_
  rintro e w11x ⟨rfl, rfl⟩
  go_wp2_with fail
  with_reducible refine (wt_out0 HW.out (by decide) (L := []) rfl (n := 0) rfl (s' := (⟨1, 2, 7, 2, [], 0, 0, 0, 0, false, 0, 0⟩ : LSt)) rfl).mono ?_
  rintro e w12 ⟨A5, c5, vs5, F12, rfl, hw, hk, -⟩
  replace HW := Lib.hid hw
  clear hw
  clear hk
  go_wp2_with fail
  go_ret
  exact ⟨rfl, HW.out.bel⟩
end Go.Proofs.YtodimanghmepoaaDoor
