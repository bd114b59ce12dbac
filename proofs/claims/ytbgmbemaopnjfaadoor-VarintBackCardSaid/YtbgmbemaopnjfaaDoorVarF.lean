/- Layer 11: VarintBack's walk. -/
import Derived.Test.YtbgmbemaopnjfaaDoorVarE
import Derived.WalkLawsBesides
namespace Go.Proofs.YtbgmbemaopnjfaaDoor
open Go.RowKit
theorem less_strN (v w : Nat) (hv : v < 18446744073709551616) (hw : w < 18446744073709551616) : Op.bytesLess (strN (VM.enc v)).toList (strN (VM.enc w)).toList = decide (v < w) := by
  rw [strN_toList, strN_toList, VM.bytesLess_map _ _ (VM.enc_byte hv) (VM.enc_byte hw), VM.less_enc]
theorem lit_grown {w w5 : World} {o : Obj} (g5 : (w.alloc o).grownBy w5 (blk (some ⟨w.heap.size, 0, none⟩))) : Below w.heap.size w w5 :=
  ((Below.refl _ _).alloc (Nat.le_refl _) o).grown g5 (by simp) (fun k hk => by simp [blk] at hk; omega)
theorem lit_far {w : World} {o : Obj} {A5 : Option Addr} (k5 : blk A5 = blk (some ⟨w.heap.size, 0, none⟩) ∨ blk A5 = some (w.alloc o).heap.size) : ∀ k, blk A5 = some k → w.heap.size ≤ k := by
  intro k hk
  rw [hk] at k5
  simp [blk] at k5
  omega
set_option maxRecDepth 100000 in
set_option maxHeartbeats 4000000 in
theorem vback_true (A : Option Addr) (c : Nat) (l : List Nat) (v u : Nat) (w : World) (hl : l.length ≤ 300) (hnc : l.length ≤ c) (hc63 : c ≤ 9223372036854775807) (ha : At w A (nats .u8 l)) (hr : ∀ y ∈ l, y < 256) (hv : v < 18446744073709551616) (hu : u < 18446744073709551616) (hg : Glob w) (hvu : decide (v < u) = true) :
    Calls Tryd.prog 7 #[.int .u64 v, .int .u64 u, .slice A l.length c] w fun e w' => e = .returned (.bool true) ∧ Below w.heap.size w w' := by
  obtain ⟨s1, hs1⟩ : ∃ s, VM.size v = s + 1 := ⟨VM.size v - 1, by have := VM.size_9 hv; omega⟩
  obtain ⟨s2, hs2⟩ : ∃ s, VM.size u = s + 1 := ⟨VM.size u - 1, by have := VM.size_9 hu; omega⟩
  have h91 : s1 ≤ 8 := by have := VM.size_9 hv; omega
  have h92 : s2 ≤ 8 := by have := VM.size_9 hu; omega
  have hlv : (VM.enc v).length = s1 + 1 := by rw [VM.enc_length, hs1]
  have hlu : (VM.enc u).length = s2 + 1 := by rw [VM.enc_length, hs2]
  have hbl := less_strN v u hv hu
  rw [hvu] at hbl
  have hcut := VM.dec_cut v hv
  rw [hs1, Nat.add_sub_cancel] at hcut
  have hde := VM.dec_enc v hv l
  rw [hs1] at hde
  have CP := Lib.hid (slb_eq (VM.enc v) (s1 + 1) rfl hlv (vput_any none 0 0 [] v w rfl (by decide) (At.nil _ _) hv))
  have CQ := Lib.hid (fun W => slb_eq (VM.enc u) (s2 + 1) rfl hlu (vput_any none 0 0 [] u W rfl (by decide) (At.nil _ _) hu))
  have CS := Lib.hid (fun W => val_eq (.int .i64 (s1 + 1 : Int)) (by rw [hs1]; rfl) (vsize_any v W hv))
  have hb1 := VM.enc_byte hv
  generalize VM.enc v = E1 at *
  generalize VM.enc u = E2 at *
  have HG := Lib.hid hg
  have Sb := Lib.hid ha
  have HR := Lib.hid hr
  have HCUT := Lib.hid hcut
  have HDE := Lib.hid hde
  have HBL := Lib.hid hbl
  have HB1 := Lib.hid hb1
  have HLV := Lib.hid hlv
  have HLU := Lib.hid hlu
  clear hg ha hr hv hu hs1 hs2 hlv hlu hbl hcut hde hb1
  go_enter Tryd.func7, Tryd.ntmps7
  have HB := Lib.hid (Below.refl w.heap.size w)
  go_wp2_with fail
  refine (CP.out).mono ?_
  rintro e w1 ⟨A_p, c_p, rfl, hat, bel, cp1, cp2⟩
  replace HB := Lib.hid (HB.out.trans (bel.mono HB.out.size))
  replace Sb := Lib.hid (Sb.out.later bel (Nat.le_refl _))
  replace HG := Lib.hid (HG.out.later bel (Nat.le_refl _))
  have Sp := Lib.hid hat
  clear hat
  clear bel
  go_wp2_with fail
  refine (CQ.out _).mono ?_
  rintro e w2 ⟨A_q, c_q, rfl, hat, bel, -, -⟩
  replace HB := Lib.hid (HB.out.trans (bel.mono HB.out.size))
  replace Sb := Lib.hid (Sb.out.later bel (Nat.le_refl _))
  replace Sp := Lib.hid (Sp.out.later bel (Nat.le_refl _))
  replace HG := Lib.hid (HG.out.later bel (Nat.le_refl _))
  have Sq := Lib.hid hat
  clear hat
  clear bel
  unfold maxLen at cp2
  have HZ := Lib.hid HB.out.size
  go_wp2_with (first
    | (at_builtin; refine wpList_app rfl elt_u8 w.heap.size (.tmp 24) (.tmp 25) rfl _ rfl (Own.lit #[] 0 HZ.out (by decide) rfl) (nats .u8 E1) rfl (Sp.out.later ((Below.refl _ _).alloc (Nat.le_refl _) _) (Nat.le_refl _)) (by rw [nats_length, HLV.out, Nat.mul_one]) (nats_one _ _) (by unfold maxLen; omega) (by omega) (by have := HZ.out; simp; omega) ?_; intro A5 c5 w5 own5 g5 k5; have bel5 := Lib.hid (lit_grown g5); have K5 := Lib.hid (lit_far k5); simp only [Nat.zero_add] at own5; have O5 := Lib.hid own5; clear own5 g5 k5)
    | (at_builtin; refine wpList_app rfl elt_u8 w.heap.size (.tmp 26) (.tmp 27) rfl _ rfl O5.out (nats .u8 l) rfl (Sb.out.later bel5.out (Nat.le_refl _)) (by rw [nats_length, Nat.mul_one]) (nats_one _ _) (by unfold maxLen; omega) (by omega) (by have := HZ.out; have := bel5.out.size; omega) ?_; intro A6 c6 w6 own6 g6 _; have bel6 := Lib.hid (bel5.out.grown g6 bel5.out.size K5.out); have O6 := Lib.hid own6; clear own6 g6))
  clear bel5 K5 O5
  replace HB := Lib.hid (HB.out.trans (bel6.out.mono HB.out.size))
  replace Sb := Lib.hid (Sb.out.later bel6.out (Nat.le_refl _))
  replace Sp := Lib.hid (Sp.out.later bel6.out (Nat.le_refl _))
  replace Sq := Lib.hid (Sq.out.later bel6.out (Nat.le_refl _))
  replace HG := Lib.hid (HG.out.later bel6.out (Nat.le_refl _))
  have AT6 := Lib.hid (show At w6 A6 (nats .u8 (E1 ++ l)) from by have h := O6.out.at_; simpa [nats] using h)
  have cap6 := O6.out.cap
  unfold maxLen at cap6
  obtain ⟨k61, k62⟩ := cap6
  clear bel6
  refine (val_eq (.tuple #[.int .u64 (v : Nat), .int .i64 (s1 + 1 : Nat), .nilIface]) (vgot_some HDE.out) (vget_any A6 (s1 + 1 + l.length) c6 (E1 ++ l) _ (by rw [List.length_append, HLV.out]) (by omega) k61 k62 AT6.out (by intro y hy; rcases List.mem_append.1 hy with h | h; exact HB1.out y h; exact HR.out y h))).mono ?_
  rintro e w' ⟨rfl, rfl⟩
  clear AT6 O6
  obtain ⟨bp, op, hbp, _⟩ := Sp.out.nat 0 (by rw [HLV.out]; omega)
  subst hbp
  go_wp2_with fail
  refine (val_eq (.tuple #[.int .u64 0, .int .i64 0, .iface 87 (.int .i64 3)]) (vgot_none HCUT.out) (vget_any (some ⟨bp, op, none⟩) s1 c_p (E1.take s1) _ (by rw [List.length_take, HLV.out]; omega) (by omega) (by omega) cp2 (by rw [nats_take]; exact Sp.out.take) (fun y hy => HB1.out y (List.mem_of_mem_take hy)))).mono ?_
  rintro e w' ⟨rfl, rfl⟩
  go_wp2_with fail
  refine (CS.out _).mono ?_
  rintro e w' ⟨rfl, rfl⟩
  go_wp2_with fail
  refine (num11_err 3 _ HG.out).mono ?_
  rintro e w3 ⟨rfl, bel⟩
  replace HB := Lib.hid (HB.out.trans (bel.mono HB.out.size))
  replace Sb := Lib.hid (Sb.out.later bel (Nat.le_refl _))
  replace Sp := Lib.hid (Sp.out.later bel (Nat.le_refl _))
  replace Sq := Lib.hid (Sq.out.later bel (Nat.le_refl _))
  replace HG := Lib.hid (HG.out.later bel (Nat.le_refl _))
  clear bel
  have hbl := HBL.out
  have kb : (convert 36 9 (.slice (some ⟨bp, op, none⟩) (s1 + 1) c_p)).run Tryd.prog w3 = .ok (.string (strN E1)) w3 := run_str (e := 5) w3 (by kernel_rfl) (by kernel_rfl) (by kernel_rfl) HLV.out Sp.out
  have kd : (convert 36 9 (.slice A_q (s2 + 1) c_q)).run Tryd.prog w3 = .ok (.string (strN E2)) w3 := run_str (e := 5) w3 (by kernel_rfl) (by kernel_rfl) (by kernel_rfl) HLU.out Sq.out
  go_wp2_with fail
  refine (sure11 _ HG.out).mono ?_
  rintro e w4 ⟨rfl, bel⟩
  replace HB := Lib.hid (HB.out.trans (bel.mono HB.out.size))
  replace Sb := Lib.hid (Sb.out.later bel (Nat.le_refl _))
  replace Sp := Lib.hid (Sp.out.later bel (Nat.le_refl _))
  replace Sq := Lib.hid (Sq.out.later bel (Nat.le_refl _))
  replace HG := Lib.hid (HG.out.later bel (Nat.le_refl _))
  clear bel
  clear kb kd hbl
  go_wp2_with fail
  go_ret
  exact ⟨rfl, HB.out⟩
set_option maxRecDepth 100000 in
set_option maxHeartbeats 4000000 in
theorem vback_false (A : Option Addr) (c : Nat) (l : List Nat) (v u : Nat) (w : World) (hl : l.length ≤ 300) (hnc : l.length ≤ c) (hc63 : c ≤ 9223372036854775807) (ha : At w A (nats .u8 l)) (hr : ∀ y ∈ l, y < 256) (hv : v < 18446744073709551616) (hu : u < 18446744073709551616) (hg : Glob w) (hvu : decide (v < u) = false) :
    Calls Tryd.prog 7 #[.int .u64 v, .int .u64 u, .slice A l.length c] w fun e w' => e = .returned (.bool true) ∧ Below w.heap.size w w' := by
  obtain ⟨s1, hs1⟩ : ∃ s, VM.size v = s + 1 := ⟨VM.size v - 1, by have := VM.size_9 hv; omega⟩
  obtain ⟨s2, hs2⟩ : ∃ s, VM.size u = s + 1 := ⟨VM.size u - 1, by have := VM.size_9 hu; omega⟩
  have h91 : s1 ≤ 8 := by have := VM.size_9 hv; omega
  have h92 : s2 ≤ 8 := by have := VM.size_9 hu; omega
  have hlv : (VM.enc v).length = s1 + 1 := by rw [VM.enc_length, hs1]
  have hlu : (VM.enc u).length = s2 + 1 := by rw [VM.enc_length, hs2]
  have hbl := less_strN v u hv hu
  rw [hvu] at hbl
  have hcut := VM.dec_cut v hv
  rw [hs1, Nat.add_sub_cancel] at hcut
  have hde := VM.dec_enc v hv l
  rw [hs1] at hde
  have CP := Lib.hid (slb_eq (VM.enc v) (s1 + 1) rfl hlv (vput_any none 0 0 [] v w rfl (by decide) (At.nil _ _) hv))
  have CQ := Lib.hid (fun W => slb_eq (VM.enc u) (s2 + 1) rfl hlu (vput_any none 0 0 [] u W rfl (by decide) (At.nil _ _) hu))
  have CS := Lib.hid (fun W => val_eq (.int .i64 (s1 + 1 : Int)) (by rw [hs1]; rfl) (vsize_any v W hv))
  have hb1 := VM.enc_byte hv
  generalize VM.enc v = E1 at *
  generalize VM.enc u = E2 at *
  have HG := Lib.hid hg
  have Sb := Lib.hid ha
  have HR := Lib.hid hr
  have HCUT := Lib.hid hcut
  have HDE := Lib.hid hde
  have HBL := Lib.hid hbl
  have HB1 := Lib.hid hb1
  have HLV := Lib.hid hlv
  have HLU := Lib.hid hlu
  clear hg ha hr hv hu hs1 hs2 hlv hlu hbl hcut hde hb1
  go_enter Tryd.func7, Tryd.ntmps7
  have HB := Lib.hid (Below.refl w.heap.size w)
  go_wp2_with fail
  refine (CP.out).mono ?_
  rintro e w1 ⟨A_p, c_p, rfl, hat, bel, cp1, cp2⟩
  replace HB := Lib.hid (HB.out.trans (bel.mono HB.out.size))
  replace Sb := Lib.hid (Sb.out.later bel (Nat.le_refl _))
  replace HG := Lib.hid (HG.out.later bel (Nat.le_refl _))
  have Sp := Lib.hid hat
  clear hat
  clear bel
  go_wp2_with fail
  refine (CQ.out _).mono ?_
  rintro e w2 ⟨A_q, c_q, rfl, hat, bel, -, -⟩
  replace HB := Lib.hid (HB.out.trans (bel.mono HB.out.size))
  replace Sb := Lib.hid (Sb.out.later bel (Nat.le_refl _))
  replace Sp := Lib.hid (Sp.out.later bel (Nat.le_refl _))
  replace HG := Lib.hid (HG.out.later bel (Nat.le_refl _))
  have Sq := Lib.hid hat
  clear hat
  clear bel
  unfold maxLen at cp2
  have HZ := Lib.hid HB.out.size
  go_wp2_with (first
    | (at_builtin; refine wpList_app rfl elt_u8 w.heap.size (.tmp 24) (.tmp 25) rfl _ rfl (Own.lit #[] 0 HZ.out (by decide) rfl) (nats .u8 E1) rfl (Sp.out.later ((Below.refl _ _).alloc (Nat.le_refl _) _) (Nat.le_refl _)) (by rw [nats_length, HLV.out, Nat.mul_one]) (nats_one _ _) (by unfold maxLen; omega) (by omega) (by have := HZ.out; simp; omega) ?_; intro A5 c5 w5 own5 g5 k5; have bel5 := Lib.hid (lit_grown g5); have K5 := Lib.hid (lit_far k5); simp only [Nat.zero_add] at own5; have O5 := Lib.hid own5; clear own5 g5 k5)
    | (at_builtin; refine wpList_app rfl elt_u8 w.heap.size (.tmp 26) (.tmp 27) rfl _ rfl O5.out (nats .u8 l) rfl (Sb.out.later bel5.out (Nat.le_refl _)) (by rw [nats_length, Nat.mul_one]) (nats_one _ _) (by unfold maxLen; omega) (by omega) (by have := HZ.out; have := bel5.out.size; omega) ?_; intro A6 c6 w6 own6 g6 _; have bel6 := Lib.hid (bel5.out.grown g6 bel5.out.size K5.out); have O6 := Lib.hid own6; clear own6 g6))
  clear bel5 K5 O5
  replace HB := Lib.hid (HB.out.trans (bel6.out.mono HB.out.size))
  replace Sb := Lib.hid (Sb.out.later bel6.out (Nat.le_refl _))
  replace Sp := Lib.hid (Sp.out.later bel6.out (Nat.le_refl _))
  replace Sq := Lib.hid (Sq.out.later bel6.out (Nat.le_refl _))
  replace HG := Lib.hid (HG.out.later bel6.out (Nat.le_refl _))
  have AT6 := Lib.hid (show At w6 A6 (nats .u8 (E1 ++ l)) from by have h := O6.out.at_; simpa [nats] using h)
  have cap6 := O6.out.cap
  unfold maxLen at cap6
  obtain ⟨k61, k62⟩ := cap6
  clear bel6
  refine (val_eq (.tuple #[.int .u64 (v : Nat), .int .i64 (s1 + 1 : Nat), .nilIface]) (vgot_some HDE.out) (vget_any A6 (s1 + 1 + l.length) c6 (E1 ++ l) _ (by rw [List.length_append, HLV.out]) (by omega) k61 k62 AT6.out (by intro y hy; rcases List.mem_append.1 hy with h | h; exact HB1.out y h; exact HR.out y h))).mono ?_
  rintro e w' ⟨rfl, rfl⟩
  clear AT6 O6
  obtain ⟨bp, op, hbp, _⟩ := Sp.out.nat 0 (by rw [HLV.out]; omega)
  subst hbp
  go_wp2_with fail
  refine (val_eq (.tuple #[.int .u64 0, .int .i64 0, .iface 87 (.int .i64 3)]) (vgot_none HCUT.out) (vget_any (some ⟨bp, op, none⟩) s1 c_p (E1.take s1) _ (by rw [List.length_take, HLV.out]; omega) (by omega) (by omega) cp2 (by rw [nats_take]; exact Sp.out.take) (fun y hy => HB1.out y (List.mem_of_mem_take hy)))).mono ?_
  rintro e w' ⟨rfl, rfl⟩
  go_wp2_with fail
  refine (CS.out _).mono ?_
  rintro e w' ⟨rfl, rfl⟩
  go_wp2_with fail
  refine (num11_err 3 _ HG.out).mono ?_
  rintro e w3 ⟨rfl, bel⟩
  replace HB := Lib.hid (HB.out.trans (bel.mono HB.out.size))
  replace Sb := Lib.hid (Sb.out.later bel (Nat.le_refl _))
  replace Sp := Lib.hid (Sp.out.later bel (Nat.le_refl _))
  replace Sq := Lib.hid (Sq.out.later bel (Nat.le_refl _))
  replace HG := Lib.hid (HG.out.later bel (Nat.le_refl _))
  clear bel
  have hbl := HBL.out
  have kb : (convert 36 9 (.slice (some ⟨bp, op, none⟩) (s1 + 1) c_p)).run Tryd.prog w3 = .ok (.string (strN E1)) w3 := run_str (e := 5) w3 (by kernel_rfl) (by kernel_rfl) (by kernel_rfl) HLV.out Sp.out
  have kd : (convert 36 9 (.slice A_q (s2 + 1) c_q)).run Tryd.prog w3 = .ok (.string (strN E2)) w3 := run_str (e := 5) w3 (by kernel_rfl) (by kernel_rfl) (by kernel_rfl) HLU.out Sq.out
  go_wp2_with fail
  refine (sure11 _ HG.out).mono ?_
  rintro e w4 ⟨rfl, bel⟩
  replace HB := Lib.hid (HB.out.trans (bel.mono HB.out.size))
  replace Sb := Lib.hid (Sb.out.later bel (Nat.le_refl _))
  replace Sp := Lib.hid (Sp.out.later bel (Nat.le_refl _))
  replace Sq := Lib.hid (Sq.out.later bel (Nat.le_refl _))
  replace HG := Lib.hid (HG.out.later bel (Nat.le_refl _))
  clear bel
  clear kb kd hbl
  go_wp2_with fail
  go_ret
  exact ⟨rfl, HB.out⟩
set_option maxRecDepth 100000 in
theorem vback_big (A : Option Addr) (n c : Nat) (v u : Nat) (w : World) (hl : 300 < n) (hn : n ≤ 9223372036854775807) (hg : Glob w) :
    Calls Tryd.prog 7 #[.int .u64 v, .int .u64 u, .slice A n c] w fun e w' => e = .returned (.bool true) ∧ Below w.heap.size w w' := by
  have HG := Lib.hid hg
  clear hg
  go_enter Tryd.func7, Tryd.ntmps7
  go_wp2_with fail
  refine (sure11 _ HG.out).mono ?_
  rintro e w1 ⟨rfl, bel⟩
  go_wp2_with fail
  go_ret
  exact ⟨rfl, bel⟩
theorem vback_any (A : Option Addr) (c : Nat) (l : List Nat) (v u : Nat) (w : World) (hnc : l.length ≤ c) (hc63 : c ≤ 9223372036854775807) (ha : At w A (nats .u8 l)) (hr : ∀ y ∈ l, y < 256) (hv : v < 18446744073709551616) (hu : u < 18446744073709551616) (hg : Glob w) :
    Calls Tryd.prog 7 #[.int .u64 v, .int .u64 u, .slice A l.length c] w fun e w' => e = .returned (.bool true) ∧ Below w.heap.size w w' := by
  by_cases hl : l.length ≤ 300
  · cases hd : decide (v < u) with
    | true => exact vback_true A c l v u w hl hnc hc63 ha hr hv hu hg hd
    | false => exact vback_false A c l v u w hl hnc hc63 ha hr hv hu hg hd
  · exact vback_big A l.length c v u w (by omega) (by omega) hg
end Go.Proofs.YtbgmbemaopnjfaaDoor
