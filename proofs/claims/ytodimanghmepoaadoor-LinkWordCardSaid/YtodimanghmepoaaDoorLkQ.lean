/- Layer 19: LinkWord. Printed by lkp.py. -/
import Derived.Test.YtodimanghmepoaaDoorLkP
import Derived.Test.YtodimanghmepoaaDoorLkBk
namespace Go.Proofs.YtodimanghmepoaaDoor
open Go.RowKit
section
variable (Ax : Option Addr) (nx cx : Nat) (x : List Nat) (Ay : Option Addr) (ny cy : Nat) (y : List Nat) (bit : Nat)
set_option maxRecDepth 100000 in
set_option maxHeartbeats 8000000 in
theorem lword_any (w : World) (hlx : x.length = nx) (hly : y.length = ny) (hax : At w Ax (nats .u8 x)) (hay : At w Ay (nats .u8 y)) (bx : ∀ z ∈ x, z < 256) (by_ : ∀ z ∈ y, z < 256) (zx : Ax = none → x.length = 0) (zy : Ay = none → y.length = 0) (hbit : bit < 65536) (hg : Glob w) :
    Calls Tryd.prog 3 #[.slice Ax nx cx, .slice Ay ny cy, .int .u16 bit] w fun e w' => e = .returned (.bool true) ∧ Below w.heap.size w w' := by
  have HG := Lib.hid hg
  have HLX := Lib.hid hlx
  have HLY := Lib.hid hly
  have HAX := Lib.hid hax
  have HAY := Lib.hid hay
  have HBX := Lib.hid bx
  have HBY := Lib.hid by_
  have HZX := Lib.hid zx
  have HZY := Lib.hid zy
  clear hg hax hay bx by_ zx zy
  by_cases hx : nx ≤ 300
  rotate_left
  · have d1 : decide ((300 : Int) < nx) = true := decide_eq_true (by omega)
    go_enter Tryd.func3, Tryd.ntmps3
    go_wp2_with fail
    with_reducible refine (wt_new0 w 3 9 4 (newS 0 0 0) (by decide) (by decide) (by decide) (by decide)).mono ?_
    rintro e w1 ⟨pa, F1, rfl, hw, hI⟩
    have HW := Lib.hid hw
    have HI := Lib.hid hI
    clear hw hI
    go_wp2_with fail
    with_reducible refine (wt_new1 HW.out HI.out 9 3 5 (by decide) (by decide) (by decide) (by decide)).mono ?_
    rintro e w2 ⟨pb, F2, rfl, hw, hI⟩
    replace HW := Lib.hid hw
    replace HI := Lib.hid hI
    clear hw hI
    go_wp2_with fail
    with_reducible refine (wt_new2 HW.out HI.out 8 3 5 (by decide) (by decide) (by decide) (by decide)).mono ?_
    rintro e w3 ⟨pc, F3, rfl, hw⟩
    replace HW := Lib.hid (show Ways w w3 3 F3 (tri pa pb pc) (tri (⟨3, 9, 4, 1, [], 0, 0, 0, 0, false, 0, 0⟩ : LSt) (⟨9, 3, 5, 1, [], 0, 0, 0, 0, false, 0, 0⟩ : LSt) (⟨8, 3, 5, 1, [], 0, 0, 0, 0, false, 0, 0⟩ : LSt)) from hw)
    clear hw HI
    have HS := Lib.hid (sure19 w3 (HG.out.later HW.out.bel (Nat.le_refl _)))
    go_wp2_with fail
    with_reducible refine HS.out.mono ?_
    rintro e w4 ⟨rfl, hb⟩
    replace HW := Lib.hid (HW.out.later hb)
    clear hb
    go_wp2_with fail
    go_ret
    exact ⟨rfl, HW.out.bel⟩
  have d1 : decide ((300 : Int) < nx) = false := decide_eq_false (by omega)
  by_cases hy : ny ≤ 300
  rotate_left
  · have d2 : decide ((300 : Int) < ny) = true := decide_eq_true (by omega)
    go_enter Tryd.func3, Tryd.ntmps3
    go_wp2_with fail
    with_reducible refine (wt_new0 w 3 9 4 (newS 0 0 0) (by decide) (by decide) (by decide) (by decide)).mono ?_
    rintro e w1 ⟨pa, F1, rfl, hw, hI⟩
    have HW := Lib.hid hw
    have HI := Lib.hid hI
    clear hw hI
    go_wp2_with fail
    with_reducible refine (wt_new1 HW.out HI.out 9 3 5 (by decide) (by decide) (by decide) (by decide)).mono ?_
    rintro e w2 ⟨pb, F2, rfl, hw, hI⟩
    replace HW := Lib.hid hw
    replace HI := Lib.hid hI
    clear hw hI
    go_wp2_with fail
    with_reducible refine (wt_new2 HW.out HI.out 8 3 5 (by decide) (by decide) (by decide) (by decide)).mono ?_
    rintro e w3 ⟨pc, F3, rfl, hw⟩
    replace HW := Lib.hid (show Ways w w3 3 F3 (tri pa pb pc) (tri (⟨3, 9, 4, 1, [], 0, 0, 0, 0, false, 0, 0⟩ : LSt) (⟨9, 3, 5, 1, [], 0, 0, 0, 0, false, 0, 0⟩ : LSt) (⟨8, 3, 5, 1, [], 0, 0, 0, 0, false, 0, 0⟩ : LSt)) from hw)
    clear hw HI
    have HS := Lib.hid (sure19 w3 (HG.out.later HW.out.bel (Nat.le_refl _)))
    go_wp2_with fail
    with_reducible refine HS.out.mono ?_
    rintro e w4 ⟨rfl, hb⟩
    replace HW := Lib.hid (HW.out.later hb)
    clear hb
    go_wp2_with fail
    go_ret
    exact ⟨rfl, HW.out.bel⟩
  have d2 : decide ((300 : Int) < ny) = false := decide_eq_false (by omega)
  have M_d := (show FMay (3 : Nat) (9 : Nat) false (4 : Nat) (1 : Nat) (x : List Nat).length from by unfold FMay; simp; omega)
  have G_d := enc_len M_d
  have V_d := (encL_good M_d).form.2.2.2.2
  have Y_d := encL_byte (fr := (3 : Nat)) (dt := (9 : Nat)) (k := false) (ep := (4 : Nat)) (sq := (1 : Nat)) (b := x) (HBX.out)
  have R1 := Lib.hid (show hearR (⟨9, 3, 5, 1, [], 0, 0, 0, 0, false, 0, 0⟩ : LSt) (encL (3 : Nat) (9 : Nat) false (4 : Nat) (1 : Nat) x) = ((⟨9, 3, 5, 1, [], 0, 0, 4, 1, true, 4, 1⟩ : LSt), x, true, 0) from hear_data M_d rfl rfl (tk := true) (E2 := 4) (L2 := 1) (la := 1) (by decide))
  have R2 := Lib.hid (show hearR (⟨9, 3, 5, 1, [], 0, 0, 4, 1, false, 4, 1⟩ : LSt) (encL (3 : Nat) (9 : Nat) false (4 : Nat) (1 : Nat) x) = ((⟨9, 3, 5, 1, [], 0, 0, 4, 1, true, 4, 1⟩ : LSt), [], false, 0) from hear_data M_d rfl rfl (tk := false) (E2 := 4) (L2 := 1) (la := 1) (by decide))
  have R3 := Lib.hid (show hearR (⟨8, 3, 5, 1, [], 0, 0, 0, 0, false, 0, 0⟩ : LSt) (encL (3 : Nat) (9 : Nat) false (4 : Nat) (1 : Nat) x) = ((⟨8, 3, 5, 1, [], 0, 0, 0, 0, false, 0, 0⟩ : LSt), [], false, 1) from hear_wrong M_d (by decide))
  have Z_d : ∃ D, encL (3 : Nat) (9 : Nat) false (4 : Nat) (1 : Nat) x = D := ⟨_, rfl⟩
  obtain ⟨d_d, E_d⟩ := Z_d
  rw [E_d] at G_d Y_d V_d R1 R2 R3
  have EE_d := Lib.hid E_d
  have BY_d := Lib.hid Y_d
  obtain ⟨n_d, hn⟩ : ∃ n, d_d.length = n := ⟨_, rfl⟩
  rw [hn] at G_d
  have L_d := Lib.hid hn
  have LN_d := Lib.hid G_d
  have FT_d := Lib.hid V_d
  clear V_d M_d G_d Y_d E_d hn
  have M_e := (show FMay (3 : Nat) (9 : Nat) false (4 : Nat) (2 : Nat) (y : List Nat).length from by unfold FMay; simp; omega)
  have G_e := enc_len M_e
  have V_e := (encL_good M_e).form.2.2.2.2
  have Y_e := encL_byte (fr := (3 : Nat)) (dt := (9 : Nat)) (k := false) (ep := (4 : Nat)) (sq := (2 : Nat)) (b := y) (HBY.out)
  have R5 := Lib.hid (show hearR (⟨9, 3, 5, 1, [], 0, 0, 4, 1, false, 4, 1⟩ : LSt) (encL (3 : Nat) (9 : Nat) false (4 : Nat) (2 : Nat) y) = ((⟨9, 3, 5, 1, [], 0, 0, 4, 2, true, 4, 2⟩ : LSt), y, true, 0) from hear_data M_e rfl rfl (tk := true) (E2 := 4) (L2 := 2) (la := 2) (by decide))
  have Z_e : ∃ D, encL (3 : Nat) (9 : Nat) false (4 : Nat) (2 : Nat) y = D := ⟨_, rfl⟩
  obtain ⟨d_e, E_e⟩ := Z_e
  rw [E_e] at G_e Y_e V_e R5
  have EE_e := Lib.hid E_e
  have BY_e := Lib.hid Y_e
  obtain ⟨n_e, hn⟩ : ∃ n, d_e.length = n := ⟨_, rfl⟩
  rw [hn] at G_e
  have L_e := Lib.hid hn
  have LN_e := Lib.hid G_e
  have FT_e := Lib.hid V_e
  clear V_e M_e G_e Y_e E_e hn
  have M_v := (show FMay (9 : Nat) (3 : Nat) true (4 : Nat) (1 : Nat) ([] : List Nat).length from by unfold FMay; simp)
  have G_v := enc_len M_v
  have V_v := (encL_good M_v).form.2.2.2.2
  have Y_v := encL_byte (fr := (9 : Nat)) (dt := (3 : Nat)) (k := true) (ep := (4 : Nat)) (sq := (1 : Nat)) (b := []) (by simp)
  have R4 := Lib.hid (show hearR (⟨3, 9, 4, 1, [x, y], 1, 3, 0, 0, false, 0, 0⟩ : LSt) (encL (9 : Nat) (3 : Nat) true (4 : Nat) (1 : Nat) []) = ((⟨3, 9, 4, 2, [y], 0, 0, 0, 0, false, 0, 0⟩ : LSt), [], false, 0) from hear_word M_v rfl rfl)
  have R6 := Lib.hid (show hearR (⟨3, 9, 4, 2, [y], 0, 0, 0, 0, false, 0, 0⟩ : LSt) (encL (9 : Nat) (3 : Nat) true (4 : Nat) (1 : Nat) []) = ((⟨3, 9, 4, 2, [y], 0, 0, 0, 0, false, 0, 0⟩ : LSt), [], false, 0) from hear_word M_v rfl rfl)
  have Z_v : ∃ D, encL (9 : Nat) (3 : Nat) true (4 : Nat) (1 : Nat) [] = D := ⟨_, rfl⟩
  obtain ⟨d_v, E_v⟩ := Z_v
  rw [E_v] at G_v Y_v V_v R4 R6
  have EE_v := Lib.hid E_v
  have BY_v := Lib.hid Y_v
  obtain ⟨n_v, hn⟩ : ∃ n, d_v.length = n := ⟨_, rfl⟩
  rw [hn] at G_v
  have L_v := Lib.hid hn
  have LN_v := Lib.hid G_v
  have FT_v := Lib.hid V_v
  clear V_v M_v G_v Y_v E_v hn
  have O1 := Lib.hid (show outA (⟨3, 9, 4, 1, [x, y], 0, 0, 0, 0, false, 0, 0⟩ : LSt) ++ outB (⟨3, 9, 4, 1, [x, y], 0, 0, 0, 0, false, 0, 0⟩ : LSt) = [d_d] from by rw [← EE_d.out]; rfl)
  have O2 := Lib.hid (show outA (⟨9, 3, 5, 1, [], 0, 0, 4, 1, true, 4, 1⟩ : LSt) ++ outB (⟨9, 3, 5, 1, [], 0, 0, 4, 1, true, 4, 1⟩ : LSt) = [d_v] from by rw [← EE_v.out]; rfl)
  have O3 := Lib.hid (show outA (⟨3, 9, 4, 2, [y], 0, 0, 0, 0, false, 0, 0⟩ : LSt) ++ outB (⟨3, 9, 4, 2, [y], 0, 0, 0, 0, false, 0, 0⟩ : LSt) = [d_e] from by rw [← EE_e.out]; rfl)
  go_enter Tryd.func3, Tryd.ntmps3
  go_wp2_with fail
  with_reducible refine (wt_new0 w 3 9 4 (newS 0 0 0) (by decide) (by decide) (by decide) (by decide)).mono ?_
  rintro e w1 ⟨pa, F1, rfl, hw, hI⟩
  have HW := Lib.hid hw
  have HI := Lib.hid hI
  clear hw hI
  go_wp2_with fail
  with_reducible refine (wt_new1 HW.out HI.out 9 3 5 (by decide) (by decide) (by decide) (by decide)).mono ?_
  rintro e w2 ⟨pb, F2, rfl, hw, hI⟩
  replace HW := Lib.hid hw
  replace HI := Lib.hid hI
  clear hw hI
  go_wp2_with fail
  with_reducible refine (wt_new2 HW.out HI.out 8 3 5 (by decide) (by decide) (by decide) (by decide)).mono ?_
  rintro e w3 ⟨pc, F3, rfl, hw⟩
  replace HW := Lib.hid (show Ways w w3 3 F3 (tri pa pb pc) (tri (⟨3, 9, 4, 1, [], 0, 0, 0, 0, false, 0, 0⟩ : LSt) (⟨9, 3, 5, 1, [], 0, 0, 0, 0, false, 0, 0⟩ : LSt) (⟨8, 3, 5, 1, [], 0, 0, 0, 0, false, 0, 0⟩ : LSt)) from hw)
  clear hw HI
  go_wp2_with fail
  with_reducible refine (wt_put0 HW.out (by decide) (by decide) (by decide) Ax cx x (by rw [HLX.out]; omega) HBX.out (HAX.out.later HW.out.bel (Nat.le_refl _)) HZX.out HLX.out (s' := (⟨3, 9, 4, 1, [x], 0, 0, 0, 0, false, 0, 0⟩ : LSt)) rfl).mono ?_
  rintro e w4 ⟨F4, rfl, hw, hk⟩
  replace HW := Lib.hid hw
  clear hw
  clear hk
  have PN : (⟨3, 9, 4, 1, [x], 0, 0, 0, 0, false, 0, 0⟩ : LSt).l.length < 64 := by show 1 < 64; decide
  have PS : (⟨3, 9, 4, 1, [x], 0, 0, 0, 0, false, 0, 0⟩ : LSt).S + (⟨3, 9, 4, 1, [x], 0, 0, 0, 0, false, 0, 0⟩ : LSt).l.length ≤ 1073741824 := by show (1 : Int) + (1 : Nat) ≤ 1073741824; decide
  go_wp2_with fail
  with_reducible refine (wt_put0 HW.out (by decide) PN PS Ay cy y (by rw [HLY.out]; omega) HBY.out (HAY.out.later HW.out.bel (Nat.le_refl _)) HZY.out HLY.out (s' := (⟨3, 9, 4, 1, [x, y], 0, 0, 0, 0, false, 0, 0⟩ : LSt)) rfl).mono ?_
  rintro e w5 ⟨F5, rfl, hw, hk⟩
  replace HW := Lib.hid hw
  clear hw
  clear hk
  go_wp2_with fail
  with_reducible refine (wt_out0 HW.out (by decide) O1.out (n := 1) rfl (s' := (⟨3, 9, 4, 1, [x, y], 1, 3, 0, 0, false, 0, 0⟩ : LSt)) rfl).mono ?_
  rintro e w6 ⟨A5, c5, vs5, F6, rfl, hw, hk, hd⟩
  replace HW := Lib.hid hw
  clear hw
  clear hk
  obtain ⟨b_l, o_l, A_l, c_l, rfl, hcel, hcap, hdat⟩ := hd.one
  have C_l := Lib.hid hcel
  have X_l := Lib.hid hcap
  have D_l := Lib.hid hdat
  clear hd hcel hcap hdat
  rw [L_d.out] at C_l
  have hn0 : 6 ≤ n_d := LN_d.out.1
  have hn1 : n_d ≤ 8300 := LN_d.out.2
  have hz : decide ((n_d : Int) = 0) = false := decide_eq_false (by omega)
  have q_C_l := C_l.out.cell
  have NB := (Below.refl w6.heap.size w6).alloc (Nat.le_refl _) (.cells #[] 5)
  have q2 := (C_l.out.keep (Keep.of_below _ NB)).cell
  go_upto_region 12 with (at_builtin; go_loud (refine wpList_app rfl elt_u8 w6.heap.size (.tmp 119) (.tmp 122) rfl [] rfl (Own.lit (w := w6) #[] 0 (Nat.le_refl _) (by unfold maxLen; omega) rfl) (nats .u8 d_d) rfl (D_l.out.at_.later NB (Nat.le_refl _)) (by simp [nats, L_d.out]) (nats_one _ _) (by unfold maxLen; omega) (by omega) (by simp) ?_); intro A7 c7 w7 own7 g7 hA7; have O7 := Lib.hid own7; have G7 := Lib.hid g7; clear own7 g7 hA7)
  clear q2 q_C_l
  go_upto_region 13 with fail
  have hq : (bit : Int) % (8 * (n_d : Int)) = ((bit % (8 * n_d) : Nat) : Int) := by push_cast; rfl
  rw [hq]
  have hqq : bit % (8 * n_d) < 8 * n_d := Nat.mod_lt _ (by omega)
  obtain ⟨q, hqe⟩ : ∃ q, bit % (8 * n_d) = q := ⟨_, rfl⟩
  rw [hqe] at hqq ⊢
  clear hq hqe
  have e1 : (q : Int) / 8 = ((q / 8 : Nat) : Int) := by push_cast; rfl
  have e2 : (q : Int) % 8 = ((q % 8 : Nat) : Int) := by push_cast; rfl
  have hi : q / 8 < n_d := by omega
  have hr : q % 8 < 8 := by omega
  obtain ⟨i, hie⟩ : ∃ i, q / 8 = i := ⟨_, rfl⟩
  obtain ⟨r, hre⟩ : ∃ r, q % 8 = r := ⟨_, rfl⟩
  rw [hie] at e1 hi
  rw [hre] at e2 hr
  have HQ := Lib.hid (show q = 8 * i + r from by omega)
  have HI := Lib.hid hi
  clear hie hre hqq
  have hi' : (i : Int) < n_d := by omega
  have o7 : Own w7 w6.heap.size 5 1 A7 n_d c7 (nats .u8 d_d) := by have h := O7.out; rw [Nat.zero_add, List.nil_append] at h; exact h
  rcases o7.lies with ⟨_, h, _⟩ | ⟨g7, rfl, hg7, hg7l⟩
  · omega
  have HO7 := Lib.hid o7
  have HG7 := Lib.hid hg7
  have hcap := o7.cap
  have f7 := (o7.spare i (by omega)).2
  have c7' : w7.cell? ⟨g7, i, none⟩ = some (.int .u8 (d_d.getD i 0 : Nat)) := by
    obtain ⟨b, o, e, h⟩ := o7.at_.nat i (by rw [L_d.out]; exact hi)
    injection e with e; injection e with e3 e4; subst e3; subst e4
    simpa using h
  clear o7 hg7 hg7l hcap
  go_upto_region 14 with fail
  have hbyt : Crc.Bytes d_d := fun j => getD_of_all (m := 255) BY_d.out j
  obtain ⟨hbf, hbb⟩ := flip_bad (i := i) hbyt (by rw [L_d.out]; omega) FT_d.out (by rw [L_d.out]; exact HI.out) hr
  have ho8 := own_flip HO7.out hbyt i r hr
  have hlen : (d_d.set i (d_d.getD i 0 ^^^ 128 / 2 ^ (7 - r))).length = n_d := by rw [List.length_set]; exact L_d.out
  have B8 := (NB.grown G7.out (by simp) (fun k hk => by cases hk; exact Nat.le_refl _)).setCell (p := ⟨g7, i, none⟩) HG7.out (.int .u8 (bits .xor .u8 ((d_d[i]?.getD 0 : Nat) : Int) (2 ^ r % 256)))
  clear c7' f7 NB e1 e2 HO7 O7 G7 hbyt
  generalize w7.setCell ⟨g7, i, none⟩ (.int .u8 (bits .xor .u8 ((d_d[i]?.getD 0 : Nat) : Int) (2 ^ r % 256))) = w8 at *
  obtain ⟨t8, ht8⟩ : ∃ t, d_d.set i (d_d.getD i 0 ^^^ 128 / 2 ^ (7 - r)) = t := ⟨_, rfl⟩
  rw [ht8] at hbf hbb ho8 hlen
  clear ht8
  have O8 := Lib.hid ho8
  have T8 := Lib.hid hlen
  have Y8 := Lib.hid (all_of_getD hbb)
  have R8 := Lib.hid (hear_bad (s := (⟨9, 3, 5, 1, [], 0, 0, 0, 0, false, 0, 0⟩ : LSt)) hbf)
  have EN8 := Lib.hid (errN_ne t8)
  obtain ⟨x8, hx8⟩ : ∃ x, errN t8 = x := ⟨_, rfl⟩
  rw [hx8] at R8 EN8
  clear hx8 hbf hbb ho8 hlen hi hr hi' HQ
  have hk := Keep.of_below F6 B8
  replace HW := Lib.hid (HW.out.later B8)
  clear B8
  replace C_l := Lib.hid (C_l.out.keep hk)
  replace D_l := Lib.hid (D_l.out.keep hk)
  clear hk
  go_wp2_with fail
  with_reducible refine (wt_hear1 HW.out (by decide) (some ⟨g7, 0, none⟩) c7 t8 (by rw [T8.out]; exact O8.out.cap) O8.out.at_ Y8.out (n := n_d) (m := 0) T8.out R8.out rfl (v := .iface 70 (.int .i64 x8)) (erV_ne EN8.out)).mono ?_
  rintro e w9 ⟨A9, c9, F9, rfl, hw, hk, -⟩
  replace HW := Lib.hid hw
  clear hw
  replace C_l := Lib.hid (C_l.out.keep hk)
  replace D_l := Lib.hid (D_l.out.keep hk)
  clear hk
  clear O8 T8 Y8 R8
  have q_C_l := C_l.out.cell
  go_wp2_with fail
  with_reducible refine (wt_hear2 HW.out (by decide) rfl A_l c_l d_d (by rw [L_d.out]; exact ⟨by have := X_l.out.1; rw [L_d.out] at this; exact this, X_l.out.2.1⟩) D_l.out.at_ BY_d.out (n := n_d) (m := 0) L_d.out R3.out rfl (v := (.iface 70 (.int .i64 1))) (erV_ne (by decide))).mono ?_
  rintro e w10 ⟨A10, c10, F10, rfl, hw, hk, -⟩
  replace HW := Lib.hid hw
  clear hw
  clear q_C_l
  replace C_l := Lib.hid (C_l.out.keep hk)
  replace D_l := Lib.hid (D_l.out.keep hk)
  clear hk
  have q_C_l := C_l.out.cell
  go_wp2_with fail
  with_reducible refine (wt_hear1 HW.out (by decide) A_l c_l d_d (by rw [L_d.out]; exact ⟨by have := X_l.out.1; rw [L_d.out] at this; exact this, X_l.out.2.1⟩) D_l.out.at_ BY_d.out (n := n_d) (m := nx) L_d.out R1.out HLX.out (v := .nilIface) erV_zero).mono ?_
  rintro e w11 ⟨A11, c11, F11, rfl, hw, hk, hd⟩
  replace HW := Lib.hid hw
  clear hw
  clear q_C_l
  replace C_l := Lib.hid (C_l.out.keep hk)
  replace D_l := Lib.hid (D_l.out.keep hk)
  clear hk
  have BX := Lib.hid hd
  clear hd
  go_wp2_with fail
  with_reducible refine (wt_out1 HW.out (by decide) O2.out (n := 1) rfl (s' := (⟨9, 3, 5, 1, [], 0, 0, 4, 1, false, 4, 1⟩ : LSt)) rfl).mono ?_
  rintro e w12 ⟨A12, c12, vs12, F12, rfl, hw, hk, hd⟩
  replace HW := Lib.hid hw
  clear hw
  replace C_l := Lib.hid (C_l.out.keep hk)
  replace D_l := Lib.hid (D_l.out.keep hk)
  replace BX := Lib.hid (BX.out.keep hk)
  clear hk
  obtain ⟨b_m, o_m, A_m, c_m, rfl, hcel, hcap, hdat⟩ := hd.one
  have C_m := Lib.hid hcel
  have X_m := Lib.hid hcap
  have D_m := Lib.hid hdat
  clear hd hcel hcap hdat
  rw [L_v.out] at C_m
  have q_C_l := C_l.out.cell
  go_wp2_with fail
  with_reducible refine (wt_hear1 HW.out (by decide) A_l c_l d_d (by rw [L_d.out]; exact ⟨by have := X_l.out.1; rw [L_d.out] at this; exact this, X_l.out.2.1⟩) D_l.out.at_ BY_d.out (n := n_d) (m := 0) L_d.out R2.out rfl (v := .nilIface) erV_zero).mono ?_
  rintro e w13 ⟨A13, c13, F13, rfl, hw, hk, -⟩
  replace HW := Lib.hid hw
  clear hw
  clear q_C_l
  replace C_l := Lib.hid (C_l.out.keep hk)
  replace D_l := Lib.hid (D_l.out.keep hk)
  replace BX := Lib.hid (BX.out.keep hk)
  replace C_m := Lib.hid (C_m.out.keep hk)
  replace D_m := Lib.hid (D_m.out.keep hk)
  clear hk
  go_wp2_with fail
  with_reducible refine (wt_out1 HW.out (by decide) O2.out (n := 1) rfl (s' := (⟨9, 3, 5, 1, [], 0, 0, 4, 1, false, 4, 1⟩ : LSt)) rfl).mono ?_
  rintro e w14 ⟨A14, c14, vs14, F14, rfl, hw, hk, hd⟩
  replace HW := Lib.hid hw
  clear hw
  replace C_l := Lib.hid (C_l.out.keep hk)
  replace D_l := Lib.hid (D_l.out.keep hk)
  replace BX := Lib.hid (BX.out.keep hk)
  replace C_m := Lib.hid (C_m.out.keep hk)
  replace D_m := Lib.hid (D_m.out.keep hk)
  clear hk
  obtain ⟨b_n, o_n, A_n, c_n, rfl, hcel, hcap, hdat⟩ := hd.one
  have C_n := Lib.hid hcel
  have X_n := Lib.hid hcap
  have D_n := Lib.hid hdat
  clear hd hcel hcap hdat
  rw [L_v.out] at C_n
  go_upto_region 20 with fail
  refine wp_region_below (is ?z0 :: is ?z1 :: is ?z2 :: is ?z3 :: is ?z4 :: is ?z5 :: is ?z6 :: is ?z7 :: is ?z8 :: is ?z9 :: is ?z10 :: is ?z11 :: is ?z12 :: is ?z13 :: is ?z14 :: is ?z15 :: is ?z16 :: is ?z17 :: is ?z18 :: [])
    [⟨[], [25], none⟩, ⟨[(182, 0)], [], none⟩, ⟨[(183, 1)], [], none⟩, ⟨[(184, 2)], [], none⟩, ⟨[(185, 3)], [29], some (185, false)⟩, ⟨[(186, 4), (185, 3)], [], some (185, false)⟩, ⟨[(187, 5), (185, 3)], [], some (185, false)⟩, ⟨[(185, 3), (188, 6)], [], none⟩, ⟨[(189, 7)], [], none⟩, ⟨[(190, 8)], [25], some (190, false)⟩, ⟨[(191, 9), (190, 8)], [], some (190, false)⟩, ⟨[(192, 10), (190, 8)], [], some (190, false)⟩, ⟨[(193, 11), (190, 8)], [], some (190, false)⟩, ⟨[(190, 8)], [29], some (190, false)⟩, ⟨[(195, 13), (190, 8)], [], some (190, false)⟩, ⟨[(196, 14), (190, 8)], [], some (190, false)⟩, ⟨[(197, 15), (190, 8)], [], some (190, false)⟩, ⟨[(194, 12), (198, 16), (190, 8)], [], some (190, false)⟩, ⟨[(190, 8), (199, 17)], [], none⟩] (by kernel_rfl) (by kernel_rfl) (by kernel_rfl) (by kernel_rfl) (by kernel_rfl) ?monoz ?stepsz ?finz
  case monoz => exact ⟨mono_eq _, mono_eq _, mono_eq _, mono_eq _, mono_eq _, mono_eq _, mono_eq _, mono_eq _, mono_eq _, mono_eq _, mono_eq _, mono_eq _, mono_eq _, mono_eq _, mono_eq _, mono_eq _, mono_eq _, mono_eq _, mono_eq _, trivial⟩
  case stepsz =>
    refine ⟨fun ρ W ⟨hcst, hglb, hfun⟩ hX hp ho => ?_, ?_⟩ -- 0: slot 182 := Op.move t25
    · obtain ⟨o25, -⟩ := ho
      change ρ (.tmp 25) = _ at o25
      refine turn_plain (ok_is ?_ rfl)
      simp only [execOp, o25]; go_simp; try exact rfl
    refine ⟨fun ρ W ⟨hcst, hglb, hfun⟩ hX hp ho => ?_, ?_⟩ -- 1: slot 183 := Op.call { builtin len, args := #[t182], argTypes := #[31] }
    · obtain ⟨p182, -⟩ := hp
      change ρ (.tmp 182) = _ at p182
      refine turn_plain (ok_is ?_ rfl)
      simp only [execOp, p182]; go_simp; try exact rfl
    refine ⟨fun ρ W ⟨hcst, hglb, hfun⟩ hX hp ho => ?_, ?_⟩ -- 2: slot 184 := Op.binOp BinOp.neq 3 t183 (const (1:i64)) 3
    · obtain ⟨p183, -⟩ := hp
      change ρ (.tmp 183) = _ at p183
      refine turn_plain (ok_is ?_ rfl)
      simp only [execOp, hcst, p183]; go_simp; try exact rfl
    refine ⟨fun ρ W ⟨hcst, hglb, hfun⟩ hX hp ho => ?_, ?_⟩ -- 3: slot 185 := Op.move t184
    · obtain ⟨p184, -⟩ := hp
      change ρ (.tmp 184) = _ at p184
      refine turn_plain (ok_is ?_ rfl)
      simp only [execOp, p184]; go_simp; try exact rfl
    refine ⟨fun ρ W ⟨hcst, hglb, hfun⟩ hX hp ho => ?_, ?_⟩ -- 4: slot 186 := Op.move t29   [guarded: some (3, false)]
    · obtain ⟨p185, -⟩ := hp
      change ρ (.tmp 185) = _ at p185
      obtain ⟨o29, -⟩ := ho
      change ρ (.tmp 29) = _ at o29
      refine turn_yes p185 (ok_is ?_ rfl)
      simp only [execOp, o29]; go_simp; try exact rfl
    refine ⟨fun ρ W ⟨hcst, hglb, hfun⟩ hX hp ho => ?_, ?_⟩ -- 5: slot 187 := Op.call { builtin len, args := #[t186], argTypes := #[31] }   [guarded: some (3, false)]
    · obtain ⟨p186, p185, -⟩ := hp
      change ρ (.tmp 186) = _ at p186
      change ρ (.tmp 185) = _ at p185
      refine turn_yes p185 (ok_is ?_ rfl)
      simp only [execOp, p186]; go_simp; try exact rfl
    refine ⟨fun ρ W ⟨hcst, hglb, hfun⟩ hX hp ho => ?_, ?_⟩ -- 6: slot 188 := Op.binOp BinOp.neq 3 t187 (const (1:i64)) 3   [guarded: some (3, false)]
    · obtain ⟨p187, p185, -⟩ := hp
      change ρ (.tmp 187) = _ at p187
      change ρ (.tmp 185) = _ at p185
      refine turn_yes p185 (ok_is ?_ rfl)
      simp only [execOp, hcst, p187]; go_simp; try exact rfl
    refine ⟨fun ρ W ⟨hcst, hglb, hfun⟩ hX hp ho => ?_, ?_⟩ -- 7: slot 189 := Op.pick t185 (const (Value.bool true)) t188
    · obtain ⟨p185, p188, -⟩ := hp
      change ρ (.tmp 185) = _ at p185
      change ρ (.tmp 188) = _ at p188
      refine turn_plain (ok_is ?_ rfl)
      simp only [execOp, hcst, p185, p188]; go_simp; try exact rfl
    refine ⟨fun ρ W ⟨hcst, hglb, hfun⟩ hX hp ho => ?_, ?_⟩ -- 8: slot 190 := Op.move t189
    · obtain ⟨p189, -⟩ := hp
      change ρ (.tmp 189) = _ at p189
      refine turn_plain (ok_is ?_ rfl)
      simp only [execOp, p189]; go_simp; try exact rfl
    refine ⟨fun ρ W ⟨hcst, hglb, hfun⟩ hX hp ho => ?_, ?_⟩ -- 9: slot 191 := Op.move t25   [guarded: some (8, false)]
    · obtain ⟨p190, -⟩ := hp
      change ρ (.tmp 190) = _ at p190
      obtain ⟨o25, -⟩ := ho
      change ρ (.tmp 25) = _ at o25
      refine turn_yes p190 (ok_is ?_ rfl)
      simp only [execOp, o25]; go_simp; try exact rfl
    refine ⟨fun ρ W ⟨hcst, hglb, hfun⟩ hX hp ho => ?_, ?_⟩ -- 10: slot 192 := Op.indexAddr 31 t191 (const (0:i64))   [guarded: some (8, false)]
    · obtain ⟨p191, p190, -⟩ := hp
      change ρ (.tmp 191) = _ at p191
      change ρ (.tmp 190) = _ at p190
      refine turn_yes p190 (ok_is ?_ rfl)
      simp only [execOp, hcst, p191]; go_simp; try exact rfl
    refine ⟨fun ρ W ⟨hcst, hglb, hfun⟩ hX hp ho => ?_, ?_⟩ -- 11: slot 193 := Op.load 22 t192   [guarded: some (8, false)]
    · obtain ⟨p192, p190, -⟩ := hp
      change ρ (.tmp 192) = _ at p192
      change ρ (.tmp 190) = _ at p190
      have q : W.cell? ⟨b_m, o_m, none⟩ = some (.slice A_m n_v c_m) := (C_m.out.keep (Keep.of_below F14 ((Below.refl _ _).drew.trans hX))).cell
      refine turn_yes p190 (ok_is ?_ rfl)
      simp only [execOp, p192]; go_simp; try exact rfl
    refine ⟨fun ρ W ⟨hcst, hglb, hfun⟩ hX hp ho => ?_, ?_⟩ -- 12: slot 194 := Op.convert 22 9 t193   [guarded: some (8, false)]
    · obtain ⟨p193, p190, -⟩ := hp
      change ρ (.tmp 193) = _ at p193
      change ρ (.tmp 190) = _ at p190
      have hW := (Below.refl _ _).drew.trans hX
      refine turn_yes p190 ?_
      refine ok_is (by simp only [execOp, p193]; rw [Sem.run_bind, run_str W elt_u8.ht (by kernel_rfl) (by kernel_rfl) L_v.out (D_m.out.keep (Keep.of_below F14 ((Below.refl _ _).drew.trans hX))).at_]; rfl) rfl
    refine ⟨fun ρ W ⟨hcst, hglb, hfun⟩ hX hp ho => ?_, ?_⟩ -- 13: slot 195 := Op.move t29   [guarded: some (8, false)]
    · obtain ⟨p190, -⟩ := hp
      change ρ (.tmp 190) = _ at p190
      obtain ⟨o29, -⟩ := ho
      change ρ (.tmp 29) = _ at o29
      refine turn_yes p190 (ok_is ?_ rfl)
      simp only [execOp, o29]; go_simp; try exact rfl
    refine ⟨fun ρ W ⟨hcst, hglb, hfun⟩ hX hp ho => ?_, ?_⟩ -- 14: slot 196 := Op.indexAddr 31 t195 (const (0:i64))   [guarded: some (8, false)]
    · obtain ⟨p195, p190, -⟩ := hp
      change ρ (.tmp 195) = _ at p195
      change ρ (.tmp 190) = _ at p190
      refine turn_yes p190 (ok_is ?_ rfl)
      simp only [execOp, hcst, p195]; go_simp; try exact rfl
    refine ⟨fun ρ W ⟨hcst, hglb, hfun⟩ hX hp ho => ?_, ?_⟩ -- 15: slot 197 := Op.load 22 t196   [guarded: some (8, false)]
    · obtain ⟨p196, p190, -⟩ := hp
      change ρ (.tmp 196) = _ at p196
      change ρ (.tmp 190) = _ at p190
      have q : W.cell? ⟨b_n, o_n, none⟩ = some (.slice A_n n_v c_n) := (C_n.out.keep (Keep.of_below F14 ((Below.refl _ _).drew.trans hX))).cell
      refine turn_yes p190 (ok_is ?_ rfl)
      simp only [execOp, p196]; go_simp; try exact rfl
    refine ⟨fun ρ W ⟨hcst, hglb, hfun⟩ hX hp ho => ?_, ?_⟩ -- 16: slot 198 := Op.convert 22 9 t197   [guarded: some (8, false)]
    · obtain ⟨p197, p190, -⟩ := hp
      change ρ (.tmp 197) = _ at p197
      change ρ (.tmp 190) = _ at p190
      have hW := (Below.refl _ _).drew.trans hX
      refine turn_yes p190 ?_
      refine ok_is (by simp only [execOp, p197]; rw [Sem.run_bind, run_str W elt_u8.ht (by kernel_rfl) (by kernel_rfl) L_v.out (D_n.out.keep (Keep.of_below F14 ((Below.refl _ _).drew.trans hX))).at_]; rfl) rfl
    refine ⟨fun ρ W ⟨hcst, hglb, hfun⟩ hX hp ho => ?_, ?_⟩ -- 17: slot 199 := Op.binOp BinOp.neq 9 t194 t198 9   [guarded: some (8, false)]
    · obtain ⟨p194, p198, p190, -⟩ := hp
      change ρ (.tmp 194) = _ at p194
      change ρ (.tmp 198) = _ at p198
      change ρ (.tmp 190) = _ at p190
      refine turn_yes p190 (ok_is ?_ rfl)
      simp only [execOp, p194, p198]; go_simp; try exact rfl
    refine ⟨fun ρ W ⟨hcst, hglb, hfun⟩ hX hp ho => ?_, ?_⟩ -- 18: slot 200 := Op.pick t190 (const (Value.bool true)) t199
    · obtain ⟨p190, p199, -⟩ := hp
      change ρ (.tmp 190) = _ at p190
      change ρ (.tmp 199) = _ at p199
      refine turn_plain (ok_is ?_ rfl)
      simp only [execOp, hcst, p190, p199]; go_simp; try exact rfl
    exact trivial
  case finz =>
    rintro v w15 hX ⟨f0, f1, f2, f3, f4, f5, f6, f7, f8, f9, f10, f11, f12, f13, f14, f15, f16, f17, f18, -⟩
    simp only [is] at f0 f1 f2 f3 f4 f5 f6 f7 f8 f9 f10 f11 f12 f13 f14 f15 f16 f17 f18
    simp only [putAll, Act.put, List.setIfInBounds_toArray, List.set_cons_succ, List.set_cons_zero, f0, f1, f2, f3, f4, f5, f6, f7, f8, f9, f10, f11, f12, f13, f14, f15, f16, f17, f18]
    clear f0 f1 f2 f3 f4 f5 f6 f7 f8 f9 f10 f11 f12 f13 f14 f15 f16 f17 f18
    have hk := Keep.of_below F14 hX
    replace HW := Lib.hid (HW.out.later hX)
    clear hX
    replace C_l := Lib.hid (C_l.out.keep hk)
    replace D_l := Lib.hid (D_l.out.keep hk)
    replace BX := Lib.hid (BX.out.keep hk)
    replace C_m := Lib.hid (C_m.out.keep hk)
    replace D_m := Lib.hid (D_m.out.keep hk)
    replace C_n := Lib.hid (C_n.out.keep hk)
    replace D_n := Lib.hid (D_n.out.keep hk)
    clear hk
    go_upto_region 22 with fail
    have q_C_m := C_m.out.cell
    go_wp2_with fail
    with_reducible refine (wt_hear0 HW.out (by decide) A_m c_m d_v (by rw [L_v.out]; exact ⟨by have := X_m.out.1; rw [L_v.out] at this; exact this, X_m.out.2.1⟩) D_m.out.at_ BY_v.out (n := n_v) (m := 0) L_v.out R4.out rfl (v := .nilIface) erV_zero).mono ?_
    rintro e w16 ⟨A15, c15, F16, rfl, hw, hk, -⟩
    replace HW := Lib.hid hw
    clear hw
    clear q_C_m
    replace C_l := Lib.hid (C_l.out.keep hk)
    replace D_l := Lib.hid (D_l.out.keep hk)
    replace BX := Lib.hid (BX.out.keep hk)
    replace C_m := Lib.hid (C_m.out.keep hk)
    replace D_m := Lib.hid (D_m.out.keep hk)
    replace C_n := Lib.hid (C_n.out.keep hk)
    replace D_n := Lib.hid (D_n.out.keep hk)
    clear hk
    have q_C_n := C_n.out.cell
    go_wp2_with fail
    with_reducible refine (wt_hear0 HW.out (by decide) A_n c_n d_v (by rw [L_v.out]; exact ⟨by have := X_n.out.1; rw [L_v.out] at this; exact this, X_n.out.2.1⟩) D_n.out.at_ BY_v.out (n := n_v) (m := 0) L_v.out R6.out rfl (v := .nilIface) erV_zero).mono ?_
    rintro e w17 ⟨A16, c16, F17, rfl, hw, hk, -⟩
    replace HW := Lib.hid hw
    clear hw
    clear q_C_n
    replace C_l := Lib.hid (C_l.out.keep hk)
    replace D_l := Lib.hid (D_l.out.keep hk)
    replace BX := Lib.hid (BX.out.keep hk)
    replace C_m := Lib.hid (C_m.out.keep hk)
    replace D_m := Lib.hid (D_m.out.keep hk)
    replace C_n := Lib.hid (C_n.out.keep hk)
    replace D_n := Lib.hid (D_n.out.keep hk)
    clear hk
    go_wp2_with fail
    with_reducible refine (wt_out0 HW.out (by decide) O3.out (n := 1) rfl (s' := (⟨3, 9, 4, 2, [y], 1, 3, 0, 0, false, 0, 0⟩ : LSt)) rfl).mono ?_
    rintro e w18 ⟨A17, c17, vs17, F18, rfl, hw, hk, hd⟩
    replace HW := Lib.hid hw
    clear hw
    replace C_l := Lib.hid (C_l.out.keep hk)
    replace D_l := Lib.hid (D_l.out.keep hk)
    replace BX := Lib.hid (BX.out.keep hk)
    replace C_m := Lib.hid (C_m.out.keep hk)
    replace D_m := Lib.hid (D_m.out.keep hk)
    replace C_n := Lib.hid (C_n.out.keep hk)
    replace D_n := Lib.hid (D_n.out.keep hk)
    clear hk
    obtain ⟨b_q, o_q, A_q, c_q, rfl, hcel, hcap, hdat⟩ := hd.one
    have C_q := Lib.hid hcel
    have X_q := Lib.hid hcap
    have D_q := Lib.hid hdat
    clear hd hcel hcap hdat
    rw [L_e.out] at C_q
    have q_C_q := C_q.out.cell
    go_wp2_with fail
    with_reducible refine (wt_hear1 HW.out (by decide) A_q c_q d_e (by rw [L_e.out]; exact ⟨by have := X_q.out.1; rw [L_e.out] at this; exact this, X_q.out.2.1⟩) D_q.out.at_ BY_e.out (n := n_e) (m := ny) L_e.out R5.out HLY.out (v := .nilIface) erV_zero).mono ?_
    rintro e w19 ⟨A18, c18, F19, rfl, hw, hk, hd⟩
    replace HW := Lib.hid hw
    clear hw
    clear q_C_q
    replace C_l := Lib.hid (C_l.out.keep hk)
    replace D_l := Lib.hid (D_l.out.keep hk)
    replace BX := Lib.hid (BX.out.keep hk)
    replace C_m := Lib.hid (C_m.out.keep hk)
    replace D_m := Lib.hid (D_m.out.keep hk)
    replace C_n := Lib.hid (C_n.out.keep hk)
    replace D_n := Lib.hid (D_n.out.keep hk)
    replace C_q := Lib.hid (C_q.out.keep hk)
    replace D_q := Lib.hid (D_q.out.keep hk)
    clear hk
    have BY := Lib.hid hd
    clear hd
    have k1 := run_str (P := Tryd.prog) (src := 22) (dst := 9) (e := 5) w19 (by kernel_rfl) (by kernel_rfl) (by kernel_rfl) (c := c11) HLX.out BX.out.at_
    have k2 := run_str (P := Tryd.prog) (src := 22) (dst := 9) (e := 5) w19 (by kernel_rfl) (by kernel_rfl) (by kernel_rfl) (c := cx) HLX.out (HAX.out.later HW.out.bel (Nat.le_refl _))
    have k3 := run_str (P := Tryd.prog) (src := 22) (dst := 9) (e := 5) w19 (by kernel_rfl) (by kernel_rfl) (by kernel_rfl) (c := c18) HLY.out BY.out.at_
    have k4 := run_str (P := Tryd.prog) (src := 22) (dst := 9) (e := 5) w19 (by kernel_rfl) (by kernel_rfl) (by kernel_rfl) (c := cy) HLY.out (HAY.out.later HW.out.bel (Nat.le_refl _))
    go_wp2_with fail
    with_reducible refine (wt_waits0 HW.out (by decide) (n := 1) rfl).mono ?_
    rintro e w19x ⟨rfl, rfl⟩
    have HS := Lib.hid (sure19 w19 (HG.out.later HW.out.bel (Nat.le_refl _)))
    go_wp2_with fail
    with_reducible refine HS.out.mono ?_
    rintro e wz ⟨rfl, hb⟩
    replace HW := Lib.hid (HW.out.later hb)
    clear hb
    go_wp2_with fail
    go_ret
    exact ⟨rfl, HW.out.bel⟩
end
end Go.Proofs.YtodimanghmepoaaDoor
