/- Layer 2: VecTells' walk, the rows of as many numbers. -/
import Derived.Test.YtbgmbemaopnjfaaDoorVecF
namespace Go.Proofs.YtbgmbemaopnjfaaDoor
open Go.RowKit
set_option maxRecDepth 100000 in
set_option maxHeartbeats 8000000 in
theorem vtells_ok1 (A : Option Addr) (c : Nat) (l : List Nat) (A2 : Option Addr) (c2 : Nat) (l2 : List Nat) (x0 x1 : Nat) (w : World) (hl : l.length ≤ 100) (hl2 : l2.length ≤ 100) (ha : At w A (nats .u32 l)) (ha2 : At w A2 (nats .u32 l2)) (hr : ∀ x ∈ l, x < 4294967296) (hr2 : ∀ x ∈ l2, x < 4294967296) (hx0 : x0 < 4294967296) (hx1 : x1 < 4294967296) (hg : Glob w) (h32 : l.length ≤ 32) (hnn : l.length = l2.length) (hq : x1 % 40 ≤ 32) :
    Calls Tryd.prog 10 #[.slice A l.length c, .slice A2 l2.length c2, .agg #[.int .u32 x0, .int .u32 x1]] w fun e w' => e = .returned (.bool true) ∧ Below w.heap.size w w' := by
  have HG := Lib.hid hg
  have Sa := Lib.hid ha
  have Sb := Lib.hid ha2
  have HR := Lib.hid hr
  have HR2 := Lib.hid hr2
  have Na := Lib.hid (show l.length ≤ 9223372036854775807 by omega)
  have Nb := Lib.hid (show l2.length ≤ 9223372036854775807 by omega)
  obtain ⟨q, hqe⟩ : ∃ q, x1 % 40 = q := ⟨_, rfl⟩
  rw [hqe] at hq
  have HQI := Lib.hid (show (x1 : Int) % 40 = (q : Int) by omega)
  have HX0 := Lib.hid hx0
  obtain ⟨r, hrr⟩ : ∃ r, decide (l = l2) = r := ⟨_, rfl⟩
  have HRR := Lib.hid hrr
  have HNN := Lib.hid hnn
  have HNN2 := Lib.hid hnn.symm
  have hlen1 : (VE.lin 1 l l2).length = l.length := by rw [VE.lin_length, ← hnn]; omega
  have hlen2 : (VE.lin 4294967295 l l2).length = l.length := by rw [VE.lin_length, ← hnn]; omega
  obtain ⟨L1, hL1⟩ : ∃ L, VE.lin 1 l l2 = L := ⟨_, rfl⟩
  obtain ⟨L2, hL2⟩ : ∃ L, VE.lin 4294967295 l l2 = L := ⟨_, rfl⟩
  rw [hL1] at hlen1
  rw [hL2] at hlen2
  have HL1 := Lib.hid hL1
  have HL2 := Lib.hid hL2
  have HLE1 := Lib.hid hlen1
  have HLE2 := Lib.hid hlen2
  clear hL1 hL2 hlen1 hlen2 hnn
  obtain ⟨L3, hL3⟩ : ∃ L, VE.times x0 l = L := ⟨_, rfl⟩
  have HL3 := Lib.hid hL3
  have HL4 := Lib.hid ((VE.lin_zero x0 l).trans hL3)
  have HLE3 := Lib.hid (show L3.length = l.length by rw [← hL3, VE.times_length])
  clear hL3
  clear hg ha ha2 hr hr2 hx0 hx1 hqe hrr
  go_enter Tryd.func10, Tryd.ntmps10
  have bel0 := Lib.hid (show Below w.heap.size w ((w.alloc (.cells #[.int .u32 (x0 : Int), .int .u32 (x1 : Int)] 59)).alloc (.cells #[] 34)) from ((Below.refl _ _).alloc (by simp) _).alloc (by simp) _)
  have Sbox := Lib.hid ((show At (w.alloc (.cells #[.int .u32 (x0 : Int), .int .u32 (x1 : Int)] 59)) (some ⟨w.heap.size, 0, none⟩) (nats .u32 [x0, x1]) from At.lit _ _ _ _ _ rfl).later ((Below.refl _ _).alloc (Nat.le_refl _) (.cells #[] 34)) (Nat.le_refl _))
  go_wp2_with (at_builtin; refine wpList_app rfl elt_u32 w.heap.size (.tmp 33) (.tmp 34) rfl _ rfl (Own.lit' #[] 0 (by simp) (by simp) (by decide) rfl) (nats .u32 l) rfl (Sa.out.later bel0.out (Nat.le_refl _)) (by rw [nats_length, Nat.mul_one]) (nats_one _ _) (by unfold maxLen; omega) (by omega) (by simp; omega) ?_; intro A_x c_x w1 own1 g1 _; have hbox := Lib.hid (Sbox.out.grown g1 (.inr (by simp [blk]))); have bel := (bel0.out.grown g1 (by simp; omega) (fun k hk => by simp [blk] at hk; omega)); have hown := Lib.hid own1.at_; clear own1 g1 bel0 Sbox)
  have HB := Lib.hid bel
  replace Sa := Lib.hid (Sa.out.later bel (Nat.le_refl _))
  replace Sb := Lib.hid (Sb.out.later bel (Nat.le_refl _))
  replace HG := Lib.hid (HG.out.later bel (Nat.le_refl _))
  have Sx := Lib.hid (show At w1 A_x (nats .u32 l) from by simpa using hown.out)
  clear hown
  have So := Lib.hid hbox.out
  clear hbox bel
  have Nx := Na
  have No := Na
  try simp only [Nat.zero_add]
  go_wp2_with fail
  refine (rowe_eq L1 l.length HL1.out HLE1.out (vadd_ok A_x l.length c_x l A2 l2.length c2 l2 _ rfl rfl Nx.out Nb.out Sx.out Sb.out HR.out HR2.out (by omega) HNN.out)).mono ?_
  rintro e w2 ⟨A_s, c_s, rfl, hat, bel⟩
  replace HB := Lib.hid (HB.out.trans (bel.mono HB.out.size))
  replace Sa := Lib.hid (Sa.out.later bel (Nat.le_refl _))
  replace Sb := Lib.hid (Sb.out.later bel (Nat.le_refl _))
  replace Sx := Lib.hid (Sx.out.later bel (Nat.le_refl _))
  replace So := Lib.hid (So.out.later bel (Nat.le_refl _))
  replace HG := Lib.hid (HG.out.later bel (Nat.le_refl _))
  have Ss := Lib.hid hat
  clear hat
  have Ns := Na
  clear bel
  go_wp2_with fail
  refine (rowt_eq L1 l.length HL1.out HLE1.out (radd_ok A l.length c l A2 l2.length c2 l2 1 _ rfl rfl (by omega) Sa.out Sb.out HR.out HR2.out HNN.out (by decide))).mono ?_
  rintro e w3 ⟨A_t, c_t, rfl, hat, bel⟩
  replace HB := Lib.hid (HB.out.trans (bel.mono HB.out.size))
  replace Sa := Lib.hid (Sa.out.later bel (Nat.le_refl _))
  replace Sb := Lib.hid (Sb.out.later bel (Nat.le_refl _))
  replace Sx := Lib.hid (Sx.out.later bel (Nat.le_refl _))
  replace So := Lib.hid (So.out.later bel (Nat.le_refl _))
  replace Ss := Lib.hid (Ss.out.later bel (Nat.le_refl _))
  replace HG := Lib.hid (HG.out.later bel (Nat.le_refl _))
  have St := Lib.hid hat
  clear hat
  have Nt := Na
  clear bel
  go_wp2_with fail
  refine (rowe_eq L2 l.length HL2.out HLE2.out (vsub_ok A_x l.length c_x l A2 l2.length c2 l2 _ rfl rfl Nx.out Nb.out Sx.out Sb.out HR.out HR2.out (by omega) HNN.out)).mono ?_
  rintro e w4 ⟨A_d, c_d, rfl, hat, bel⟩
  replace HB := Lib.hid (HB.out.trans (bel.mono HB.out.size))
  replace Sa := Lib.hid (Sa.out.later bel (Nat.le_refl _))
  replace Sb := Lib.hid (Sb.out.later bel (Nat.le_refl _))
  replace Sx := Lib.hid (Sx.out.later bel (Nat.le_refl _))
  replace So := Lib.hid (So.out.later bel (Nat.le_refl _))
  replace Ss := Lib.hid (Ss.out.later bel (Nat.le_refl _))
  replace St := Lib.hid (St.out.later bel (Nat.le_refl _))
  replace HG := Lib.hid (HG.out.later bel (Nat.le_refl _))
  have Sd := Lib.hid hat
  clear hat
  have Nd := Na
  clear bel
  go_wp2_with fail
  refine (rowt_eq L2 l.length HL2.out HLE2.out (radd_ok A l.length c l A2 l2.length c2 l2 4294967295 _ rfl rfl (by omega) Sa.out Sb.out HR.out HR2.out HNN.out (by decide))).mono ?_
  rintro e w5 ⟨A_u, c_u, rfl, hat, bel⟩
  replace HB := Lib.hid (HB.out.trans (bel.mono HB.out.size))
  replace Sa := Lib.hid (Sa.out.later bel (Nat.le_refl _))
  replace Sb := Lib.hid (Sb.out.later bel (Nat.le_refl _))
  replace Sx := Lib.hid (Sx.out.later bel (Nat.le_refl _))
  replace So := Lib.hid (So.out.later bel (Nat.le_refl _))
  replace Ss := Lib.hid (Ss.out.later bel (Nat.le_refl _))
  replace St := Lib.hid (St.out.later bel (Nat.le_refl _))
  replace Sd := Lib.hid (Sd.out.later bel (Nat.le_refl _))
  replace HG := Lib.hid (HG.out.later bel (Nat.le_refl _))
  have Su := Lib.hid hat
  clear hat
  have Nu := Na
  clear bel
  have oc0 : w5.cell? ⟨w.heap.size, 0, none⟩ = some (.int .u32 (x0 : Int)) := So.out.nat' 0 (by simp)
  have oc1 : w5.cell? ⟨w.heap.size, 0 + 1, none⟩ = some (.int .u32 (x1 : Int)) := So.out.nat' 1 (by simp)
  rw [Nat.zero_add] at oc1
  go_wp2_with fail
  refine (rowe_eq L3 l.length HL3.out HLE3.out (vtimes_ok A_x l.length c_x l x0 _ rfl h32 Sx.out HR.out HX0.out)).mono ?_
  rintro e w6 ⟨A_m, c_m, rfl, hat, bel⟩
  replace HB := Lib.hid (HB.out.trans (bel.mono HB.out.size))
  replace Sa := Lib.hid (Sa.out.later bel (Nat.le_refl _))
  replace Sb := Lib.hid (Sb.out.later bel (Nat.le_refl _))
  replace Sx := Lib.hid (Sx.out.later bel (Nat.le_refl _))
  replace So := Lib.hid (So.out.later bel (Nat.le_refl _))
  replace Ss := Lib.hid (Ss.out.later bel (Nat.le_refl _))
  replace St := Lib.hid (St.out.later bel (Nat.le_refl _))
  replace Sd := Lib.hid (Sd.out.later bel (Nat.le_refl _))
  replace Su := Lib.hid (Su.out.later bel (Nat.le_refl _))
  replace HG := Lib.hid (HG.out.later bel (Nat.le_refl _))
  have Sm := Lib.hid hat
  clear hat
  have Nm := Na
  clear bel
  clear oc0 oc1
  have oc0 : w6.cell? ⟨w.heap.size, 0, none⟩ = some (.int .u32 (x0 : Int)) := So.out.nat' 0 (by simp)
  have oc1 : w6.cell? ⟨w.heap.size, 0 + 1, none⟩ = some (.int .u32 (x1 : Int)) := So.out.nat' 1 (by simp)
  rw [Nat.zero_add] at oc1
  have hi0 : (x0 : Int) ≤ 4294967295 := by have := HX0.out; omega
  go_wp2_with (at_make; refine wpList_mkn elt_u32 rfl rfl (.tmp 68) (.tmp 68) rfl .i64 .i64 _ l.length rfl rfl rfl (by omega) (by unfold maxLen; omega) ?_; intro w7 h1 bel z1; have hz := (mkn_nats h1).at_; replace HB := Lib.hid (HB.out.trans (bel.mono HB.out.size)); replace Sa := Lib.hid (Sa.out.later bel (Nat.le_refl _)); replace Sb := Lib.hid (Sb.out.later bel (Nat.le_refl _)); replace Sx := Lib.hid (Sx.out.later bel (Nat.le_refl _)); replace So := Lib.hid (So.out.later bel (Nat.le_refl _)); replace Ss := Lib.hid (Ss.out.later bel (Nat.le_refl _)); replace St := Lib.hid (St.out.later bel (Nat.le_refl _)); replace Sd := Lib.hid (Sd.out.later bel (Nat.le_refl _)); replace Su := Lib.hid (Su.out.later bel (Nat.le_refl _)); replace Sm := Lib.hid (Sm.out.later bel (Nat.le_refl _)); replace HG := Lib.hid (HG.out.later bel (Nat.le_refl _)); have Sz := Lib.hid hz; have oc0 : w7.cell? ⟨w.heap.size, 0, none⟩ = some (.int .u32 (x0 : Int)) := So.out.nat' 0 (by simp); clear h1 bel z1 hz)
  have Nz := Na
  refine (rowt_eq L3 l.length HL4.out HLE3.out (radd_ok (some ⟨w6.heap.size, 0, none⟩) l.length l.length (VE.zero l.length) A l.length c l x0 _ (VE.zero_length _) rfl h32 Sz.out Sa.out (VE.zero_lt _) HR.out rfl HX0.out)).mono ?_
  rintro e w8 ⟨A_v, c_v, rfl, hat, bel⟩
  replace HB := Lib.hid (HB.out.trans (bel.mono HB.out.size))
  replace Sa := Lib.hid (Sa.out.later bel (Nat.le_refl _))
  replace Sb := Lib.hid (Sb.out.later bel (Nat.le_refl _))
  replace Sx := Lib.hid (Sx.out.later bel (Nat.le_refl _))
  replace So := Lib.hid (So.out.later bel (Nat.le_refl _))
  replace Ss := Lib.hid (Ss.out.later bel (Nat.le_refl _))
  replace St := Lib.hid (St.out.later bel (Nat.le_refl _))
  replace Sd := Lib.hid (Sd.out.later bel (Nat.le_refl _))
  replace Su := Lib.hid (Su.out.later bel (Nat.le_refl _))
  replace Sm := Lib.hid (Sm.out.later bel (Nat.le_refl _))
  replace Sz := Lib.hid (Sz.out.later bel (Nat.le_refl _))
  replace HG := Lib.hid (HG.out.later bel (Nat.le_refl _))
  have Sv := Lib.hid hat
  have Nv := Na
  clear hat bel oc0 oc1
  clear Sz Nz
  clear hi0
  go_wp2_with fail
  refine (valB_eq (.bool true) (by simp) (rsame_any A_s l.length c_s L1 A_t l.length c_t L1 _ HLE1.out Ns.out Ss.out HLE1.out Nt.out St.out)).mono ?_
  rintro e w9 ⟨rfl, bel⟩
  replace HB := Lib.hid (HB.out.trans (bel.mono HB.out.size))
  replace Sa := Lib.hid (Sa.out.later bel (Nat.le_refl _))
  replace Sb := Lib.hid (Sb.out.later bel (Nat.le_refl _))
  replace Sx := Lib.hid (Sx.out.later bel (Nat.le_refl _))
  replace So := Lib.hid (So.out.later bel (Nat.le_refl _))
  replace Ss := Lib.hid (Ss.out.later bel (Nat.le_refl _))
  replace St := Lib.hid (St.out.later bel (Nat.le_refl _))
  replace Sd := Lib.hid (Sd.out.later bel (Nat.le_refl _))
  replace Su := Lib.hid (Su.out.later bel (Nat.le_refl _))
  replace Sm := Lib.hid (Sm.out.later bel (Nat.le_refl _))
  replace Sv := Lib.hid (Sv.out.later bel (Nat.le_refl _))
  replace HG := Lib.hid (HG.out.later bel (Nat.le_refl _))
  clear bel
  go_wp2_with fail
  refine (valB_eq (.bool true) (by simp) (rsame_any A_d l.length c_d L2 A_u l.length c_u L2 _ HLE2.out Nd.out Sd.out HLE2.out Nu.out Su.out)).mono ?_
  rintro e w10 ⟨rfl, bel⟩
  replace HB := Lib.hid (HB.out.trans (bel.mono HB.out.size))
  replace Sa := Lib.hid (Sa.out.later bel (Nat.le_refl _))
  replace Sb := Lib.hid (Sb.out.later bel (Nat.le_refl _))
  replace Sx := Lib.hid (Sx.out.later bel (Nat.le_refl _))
  replace So := Lib.hid (So.out.later bel (Nat.le_refl _))
  replace Ss := Lib.hid (Ss.out.later bel (Nat.le_refl _))
  replace St := Lib.hid (St.out.later bel (Nat.le_refl _))
  replace Sd := Lib.hid (Sd.out.later bel (Nat.le_refl _))
  replace Su := Lib.hid (Su.out.later bel (Nat.le_refl _))
  replace Sm := Lib.hid (Sm.out.later bel (Nat.le_refl _))
  replace Sv := Lib.hid (Sv.out.later bel (Nat.le_refl _))
  replace HG := Lib.hid (HG.out.later bel (Nat.le_refl _))
  clear bel
  go_wp2_with fail
  refine (valB_eq (.bool true) (by simp) (rsame_any A_m l.length c_m L3 A_v l.length c_v L3 _ HLE3.out Nm.out Sm.out HLE3.out Nv.out Sv.out)).mono ?_
  rintro e w11 ⟨rfl, bel⟩
  replace HB := Lib.hid (HB.out.trans (bel.mono HB.out.size))
  replace Sa := Lib.hid (Sa.out.later bel (Nat.le_refl _))
  replace Sb := Lib.hid (Sb.out.later bel (Nat.le_refl _))
  replace Sx := Lib.hid (Sx.out.later bel (Nat.le_refl _))
  replace So := Lib.hid (So.out.later bel (Nat.le_refl _))
  replace Ss := Lib.hid (Ss.out.later bel (Nat.le_refl _))
  replace St := Lib.hid (St.out.later bel (Nat.le_refl _))
  replace Sd := Lib.hid (Sd.out.later bel (Nat.le_refl _))
  replace Su := Lib.hid (Su.out.later bel (Nat.le_refl _))
  replace Sm := Lib.hid (Sm.out.later bel (Nat.le_refl _))
  replace Sv := Lib.hid (Sv.out.later bel (Nat.le_refl _))
  replace HG := Lib.hid (HG.out.later bel (Nat.le_refl _))
  clear bel
  clear Ss Ns
  clear St Nt
  clear Sd Nd
  clear Su Nu
  clear Sm Nm
  clear Sv Nv
  have oc0 : w11.cell? ⟨w.heap.size, 0, none⟩ = some (.int .u32 (x0 : Int)) := So.out.nat' 0 (by simp)
  have oc1 : w11.cell? ⟨w.heap.size, 0 + 1, none⟩ = some (.int .u32 (x1 : Int)) := So.out.nat' 1 (by simp)
  rw [Nat.zero_add] at oc1
  have hqi := HQI.out
  go_wp2_with fail
  refine (vzero_ok q _ hq).mono ?_
  rintro e w12 ⟨rfl, hn, bel, -⟩
  replace HB := Lib.hid (HB.out.trans (bel.mono HB.out.size))
  replace Sa := Lib.hid (Sa.out.later bel (Nat.le_refl _))
  replace Sb := Lib.hid (Sb.out.later bel (Nat.le_refl _))
  replace Sx := Lib.hid (Sx.out.later bel (Nat.le_refl _))
  replace So := Lib.hid (So.out.later bel (Nat.le_refl _))
  replace HG := Lib.hid (HG.out.later bel (Nat.le_refl _))
  have Sk := Lib.hid hn.at_
  clear hn bel oc0 oc1
  have Nk := Lib.hid (show q ≤ 9223372036854775807 by omega)
  go_wp2_with (at_make; refine wpList_mkn elt_u32 rfl rfl (.tmp 169) (.tmp 169) rfl .i64 .i64 _ q rfl rfl rfl (by omega) (by unfold maxLen; omega) ?_; intro w13 h1 bel z1; have hz := (mkn_nats h1).at_; replace HB := Lib.hid (HB.out.trans (bel.mono HB.out.size)); replace Sa := Lib.hid (Sa.out.later bel (Nat.le_refl _)); replace Sb := Lib.hid (Sb.out.later bel (Nat.le_refl _)); replace Sx := Lib.hid (Sx.out.later bel (Nat.le_refl _)); replace So := Lib.hid (So.out.later bel (Nat.le_refl _)); replace Sk := Lib.hid (Sk.out.later bel (Nat.le_refl _)); replace HG := Lib.hid (HG.out.later bel (Nat.le_refl _)); have Sz := Lib.hid hz; clear h1 bel z1 hz)
  refine (valB_eq (.bool true) (by simp) (rsame_any (some ⟨w11.heap.size, 0, none⟩) q q (VE.zero q) (some ⟨w12.heap.size, 0, none⟩) q q (VE.zero q) _ (VE.zero_length _) Nk.out Sk.out (VE.zero_length _) Nk.out Sz.out)).mono ?_
  rintro e w14 ⟨rfl, bel⟩
  replace HB := Lib.hid (HB.out.trans (bel.mono HB.out.size))
  replace Sa := Lib.hid (Sa.out.later bel (Nat.le_refl _))
  replace Sb := Lib.hid (Sb.out.later bel (Nat.le_refl _))
  replace Sx := Lib.hid (Sx.out.later bel (Nat.le_refl _))
  replace So := Lib.hid (So.out.later bel (Nat.le_refl _))
  replace Sk := Lib.hid (Sk.out.later bel (Nat.le_refl _))
  replace HG := Lib.hid (HG.out.later bel (Nat.le_refl _))
  clear bel Sz
  clear Sk Nk
  clear hqi
  go_wp2_with fail
  refine (valB_eq (.bool r) (by rw [HRR.out]) (vsame_any A l.length c l A2 l2.length c2 l2 _ rfl Na.out Sa.out rfl Nb.out Sb.out)).mono ?_
  rintro e w15 ⟨rfl, bel⟩
  replace HB := Lib.hid (HB.out.trans (bel.mono HB.out.size))
  replace Sa := Lib.hid (Sa.out.later bel (Nat.le_refl _))
  replace Sb := Lib.hid (Sb.out.later bel (Nat.le_refl _))
  replace Sx := Lib.hid (Sx.out.later bel (Nat.le_refl _))
  replace So := Lib.hid (So.out.later bel (Nat.le_refl _))
  replace HG := Lib.hid (HG.out.later bel (Nat.le_refl _))
  clear bel
  go_wp2_with fail
  refine (valB_eq (.bool r) (by rw [HRR.out]) (rsame_any A l.length c l A2 l2.length c2 l2 _ rfl Na.out Sa.out rfl Nb.out Sb.out)).mono ?_
  rintro e w16 ⟨rfl, bel⟩
  replace HB := Lib.hid (HB.out.trans (bel.mono HB.out.size))
  replace Sa := Lib.hid (Sa.out.later bel (Nat.le_refl _))
  replace Sb := Lib.hid (Sb.out.later bel (Nat.le_refl _))
  replace Sx := Lib.hid (Sx.out.later bel (Nat.le_refl _))
  replace So := Lib.hid (So.out.later bel (Nat.le_refl _))
  replace HG := Lib.hid (HG.out.later bel (Nat.le_refl _))
  clear bel
  go_wp2_with fail
  refine (valB_eq (.bool true) (by simp) (rsame_any A_x l.length c_x l A l.length c l _ rfl Nx.out Sx.out rfl Na.out Sa.out)).mono ?_
  rintro e w17 ⟨rfl, bel⟩
  replace HB := Lib.hid (HB.out.trans (bel.mono HB.out.size))
  replace Sa := Lib.hid (Sa.out.later bel (Nat.le_refl _))
  replace Sb := Lib.hid (Sb.out.later bel (Nat.le_refl _))
  replace Sx := Lib.hid (Sx.out.later bel (Nat.le_refl _))
  replace So := Lib.hid (So.out.later bel (Nat.le_refl _))
  replace HG := Lib.hid (HG.out.later bel (Nat.le_refl _))
  clear bel
  go_wp2_with fail
  refine (sure02 _ HG.out).mono ?_
  rintro e w18 ⟨rfl, bel⟩
  replace HB := Lib.hid (HB.out.trans (bel.mono HB.out.size))
  replace Sa := Lib.hid (Sa.out.later bel (Nat.le_refl _))
  replace Sb := Lib.hid (Sb.out.later bel (Nat.le_refl _))
  replace Sx := Lib.hid (Sx.out.later bel (Nat.le_refl _))
  replace So := Lib.hid (So.out.later bel (Nat.le_refl _))
  replace HG := Lib.hid (HG.out.later bel (Nat.le_refl _))
  clear bel
  go_wp2_with fail
  go_ret
  exact ⟨rfl, HB.out⟩
set_option maxRecDepth 100000 in
set_option maxHeartbeats 8000000 in
theorem vtells_ok0 (A : Option Addr) (c : Nat) (l : List Nat) (A2 : Option Addr) (c2 : Nat) (l2 : List Nat) (x0 x1 : Nat) (w : World) (hl : l.length ≤ 100) (hl2 : l2.length ≤ 100) (ha : At w A (nats .u32 l)) (ha2 : At w A2 (nats .u32 l2)) (hr : ∀ x ∈ l, x < 4294967296) (hr2 : ∀ x ∈ l2, x < 4294967296) (hx0 : x0 < 4294967296) (hx1 : x1 < 4294967296) (hg : Glob w) (h32 : l.length ≤ 32) (hnn : l.length = l2.length) (hq : 32 < x1 % 40) :
    Calls Tryd.prog 10 #[.slice A l.length c, .slice A2 l2.length c2, .agg #[.int .u32 x0, .int .u32 x1]] w fun e w' => e = .returned (.bool true) ∧ Below w.heap.size w w' := by
  have HG := Lib.hid hg
  have Sa := Lib.hid ha
  have Sb := Lib.hid ha2
  have HR := Lib.hid hr
  have HR2 := Lib.hid hr2
  have Na := Lib.hid (show l.length ≤ 9223372036854775807 by omega)
  have Nb := Lib.hid (show l2.length ≤ 9223372036854775807 by omega)
  obtain ⟨q, hqe⟩ : ∃ q, x1 % 40 = q := ⟨_, rfl⟩
  rw [hqe] at hq
  have HQI := Lib.hid (show (x1 : Int) % 40 = (q : Int) by omega)
  have HX0 := Lib.hid hx0
  obtain ⟨r, hrr⟩ : ∃ r, decide (l = l2) = r := ⟨_, rfl⟩
  have HRR := Lib.hid hrr
  have HNN := Lib.hid hnn
  have HNN2 := Lib.hid hnn.symm
  have hlen1 : (VE.lin 1 l l2).length = l.length := by rw [VE.lin_length, ← hnn]; omega
  have hlen2 : (VE.lin 4294967295 l l2).length = l.length := by rw [VE.lin_length, ← hnn]; omega
  obtain ⟨L1, hL1⟩ : ∃ L, VE.lin 1 l l2 = L := ⟨_, rfl⟩
  obtain ⟨L2, hL2⟩ : ∃ L, VE.lin 4294967295 l l2 = L := ⟨_, rfl⟩
  rw [hL1] at hlen1
  rw [hL2] at hlen2
  have HL1 := Lib.hid hL1
  have HL2 := Lib.hid hL2
  have HLE1 := Lib.hid hlen1
  have HLE2 := Lib.hid hlen2
  clear hL1 hL2 hlen1 hlen2 hnn
  obtain ⟨L3, hL3⟩ : ∃ L, VE.times x0 l = L := ⟨_, rfl⟩
  have HL3 := Lib.hid hL3
  have HL4 := Lib.hid ((VE.lin_zero x0 l).trans hL3)
  have HLE3 := Lib.hid (show L3.length = l.length by rw [← hL3, VE.times_length])
  clear hL3
  clear hg ha ha2 hr hr2 hx0 hx1 hqe hrr
  go_enter Tryd.func10, Tryd.ntmps10
  have bel0 := Lib.hid (show Below w.heap.size w ((w.alloc (.cells #[.int .u32 (x0 : Int), .int .u32 (x1 : Int)] 59)).alloc (.cells #[] 34)) from ((Below.refl _ _).alloc (by simp) _).alloc (by simp) _)
  have Sbox := Lib.hid ((show At (w.alloc (.cells #[.int .u32 (x0 : Int), .int .u32 (x1 : Int)] 59)) (some ⟨w.heap.size, 0, none⟩) (nats .u32 [x0, x1]) from At.lit _ _ _ _ _ rfl).later ((Below.refl _ _).alloc (Nat.le_refl _) (.cells #[] 34)) (Nat.le_refl _))
  go_wp2_with (at_builtin; refine wpList_app rfl elt_u32 w.heap.size (.tmp 33) (.tmp 34) rfl _ rfl (Own.lit' #[] 0 (by simp) (by simp) (by decide) rfl) (nats .u32 l) rfl (Sa.out.later bel0.out (Nat.le_refl _)) (by rw [nats_length, Nat.mul_one]) (nats_one _ _) (by unfold maxLen; omega) (by omega) (by simp; omega) ?_; intro A_x c_x w1 own1 g1 _; have hbox := Lib.hid (Sbox.out.grown g1 (.inr (by simp [blk]))); have bel := (bel0.out.grown g1 (by simp; omega) (fun k hk => by simp [blk] at hk; omega)); have hown := Lib.hid own1.at_; clear own1 g1 bel0 Sbox)
  have HB := Lib.hid bel
  replace Sa := Lib.hid (Sa.out.later bel (Nat.le_refl _))
  replace Sb := Lib.hid (Sb.out.later bel (Nat.le_refl _))
  replace HG := Lib.hid (HG.out.later bel (Nat.le_refl _))
  have Sx := Lib.hid (show At w1 A_x (nats .u32 l) from by simpa using hown.out)
  clear hown
  have So := Lib.hid hbox.out
  clear hbox bel
  have Nx := Na
  have No := Na
  try simp only [Nat.zero_add]
  go_wp2_with fail
  refine (rowe_eq L1 l.length HL1.out HLE1.out (vadd_ok A_x l.length c_x l A2 l2.length c2 l2 _ rfl rfl Nx.out Nb.out Sx.out Sb.out HR.out HR2.out (by omega) HNN.out)).mono ?_
  rintro e w2 ⟨A_s, c_s, rfl, hat, bel⟩
  replace HB := Lib.hid (HB.out.trans (bel.mono HB.out.size))
  replace Sa := Lib.hid (Sa.out.later bel (Nat.le_refl _))
  replace Sb := Lib.hid (Sb.out.later bel (Nat.le_refl _))
  replace Sx := Lib.hid (Sx.out.later bel (Nat.le_refl _))
  replace So := Lib.hid (So.out.later bel (Nat.le_refl _))
  replace HG := Lib.hid (HG.out.later bel (Nat.le_refl _))
  have Ss := Lib.hid hat
  clear hat
  have Ns := Na
  clear bel
  go_wp2_with fail
  refine (rowt_eq L1 l.length HL1.out HLE1.out (radd_ok A l.length c l A2 l2.length c2 l2 1 _ rfl rfl (by omega) Sa.out Sb.out HR.out HR2.out HNN.out (by decide))).mono ?_
  rintro e w3 ⟨A_t, c_t, rfl, hat, bel⟩
  replace HB := Lib.hid (HB.out.trans (bel.mono HB.out.size))
  replace Sa := Lib.hid (Sa.out.later bel (Nat.le_refl _))
  replace Sb := Lib.hid (Sb.out.later bel (Nat.le_refl _))
  replace Sx := Lib.hid (Sx.out.later bel (Nat.le_refl _))
  replace So := Lib.hid (So.out.later bel (Nat.le_refl _))
  replace Ss := Lib.hid (Ss.out.later bel (Nat.le_refl _))
  replace HG := Lib.hid (HG.out.later bel (Nat.le_refl _))
  have St := Lib.hid hat
  clear hat
  have Nt := Na
  clear bel
  go_wp2_with fail
  refine (rowe_eq L2 l.length HL2.out HLE2.out (vsub_ok A_x l.length c_x l A2 l2.length c2 l2 _ rfl rfl Nx.out Nb.out Sx.out Sb.out HR.out HR2.out (by omega) HNN.out)).mono ?_
  rintro e w4 ⟨A_d, c_d, rfl, hat, bel⟩
  replace HB := Lib.hid (HB.out.trans (bel.mono HB.out.size))
  replace Sa := Lib.hid (Sa.out.later bel (Nat.le_refl _))
  replace Sb := Lib.hid (Sb.out.later bel (Nat.le_refl _))
  replace Sx := Lib.hid (Sx.out.later bel (Nat.le_refl _))
  replace So := Lib.hid (So.out.later bel (Nat.le_refl _))
  replace Ss := Lib.hid (Ss.out.later bel (Nat.le_refl _))
  replace St := Lib.hid (St.out.later bel (Nat.le_refl _))
  replace HG := Lib.hid (HG.out.later bel (Nat.le_refl _))
  have Sd := Lib.hid hat
  clear hat
  have Nd := Na
  clear bel
  go_wp2_with fail
  refine (rowt_eq L2 l.length HL2.out HLE2.out (radd_ok A l.length c l A2 l2.length c2 l2 4294967295 _ rfl rfl (by omega) Sa.out Sb.out HR.out HR2.out HNN.out (by decide))).mono ?_
  rintro e w5 ⟨A_u, c_u, rfl, hat, bel⟩
  replace HB := Lib.hid (HB.out.trans (bel.mono HB.out.size))
  replace Sa := Lib.hid (Sa.out.later bel (Nat.le_refl _))
  replace Sb := Lib.hid (Sb.out.later bel (Nat.le_refl _))
  replace Sx := Lib.hid (Sx.out.later bel (Nat.le_refl _))
  replace So := Lib.hid (So.out.later bel (Nat.le_refl _))
  replace Ss := Lib.hid (Ss.out.later bel (Nat.le_refl _))
  replace St := Lib.hid (St.out.later bel (Nat.le_refl _))
  replace Sd := Lib.hid (Sd.out.later bel (Nat.le_refl _))
  replace HG := Lib.hid (HG.out.later bel (Nat.le_refl _))
  have Su := Lib.hid hat
  clear hat
  have Nu := Na
  clear bel
  have oc0 : w5.cell? ⟨w.heap.size, 0, none⟩ = some (.int .u32 (x0 : Int)) := So.out.nat' 0 (by simp)
  have oc1 : w5.cell? ⟨w.heap.size, 0 + 1, none⟩ = some (.int .u32 (x1 : Int)) := So.out.nat' 1 (by simp)
  rw [Nat.zero_add] at oc1
  go_wp2_with fail
  refine (rowe_eq L3 l.length HL3.out HLE3.out (vtimes_ok A_x l.length c_x l x0 _ rfl h32 Sx.out HR.out HX0.out)).mono ?_
  rintro e w6 ⟨A_m, c_m, rfl, hat, bel⟩
  replace HB := Lib.hid (HB.out.trans (bel.mono HB.out.size))
  replace Sa := Lib.hid (Sa.out.later bel (Nat.le_refl _))
  replace Sb := Lib.hid (Sb.out.later bel (Nat.le_refl _))
  replace Sx := Lib.hid (Sx.out.later bel (Nat.le_refl _))
  replace So := Lib.hid (So.out.later bel (Nat.le_refl _))
  replace Ss := Lib.hid (Ss.out.later bel (Nat.le_refl _))
  replace St := Lib.hid (St.out.later bel (Nat.le_refl _))
  replace Sd := Lib.hid (Sd.out.later bel (Nat.le_refl _))
  replace Su := Lib.hid (Su.out.later bel (Nat.le_refl _))
  replace HG := Lib.hid (HG.out.later bel (Nat.le_refl _))
  have Sm := Lib.hid hat
  clear hat
  have Nm := Na
  clear bel
  clear oc0 oc1
  have oc0 : w6.cell? ⟨w.heap.size, 0, none⟩ = some (.int .u32 (x0 : Int)) := So.out.nat' 0 (by simp)
  have oc1 : w6.cell? ⟨w.heap.size, 0 + 1, none⟩ = some (.int .u32 (x1 : Int)) := So.out.nat' 1 (by simp)
  rw [Nat.zero_add] at oc1
  have hi0 : (x0 : Int) ≤ 4294967295 := by have := HX0.out; omega
  go_wp2_with (at_make; refine wpList_mkn elt_u32 rfl rfl (.tmp 68) (.tmp 68) rfl .i64 .i64 _ l.length rfl rfl rfl (by omega) (by unfold maxLen; omega) ?_; intro w7 h1 bel z1; have hz := (mkn_nats h1).at_; replace HB := Lib.hid (HB.out.trans (bel.mono HB.out.size)); replace Sa := Lib.hid (Sa.out.later bel (Nat.le_refl _)); replace Sb := Lib.hid (Sb.out.later bel (Nat.le_refl _)); replace Sx := Lib.hid (Sx.out.later bel (Nat.le_refl _)); replace So := Lib.hid (So.out.later bel (Nat.le_refl _)); replace Ss := Lib.hid (Ss.out.later bel (Nat.le_refl _)); replace St := Lib.hid (St.out.later bel (Nat.le_refl _)); replace Sd := Lib.hid (Sd.out.later bel (Nat.le_refl _)); replace Su := Lib.hid (Su.out.later bel (Nat.le_refl _)); replace Sm := Lib.hid (Sm.out.later bel (Nat.le_refl _)); replace HG := Lib.hid (HG.out.later bel (Nat.le_refl _)); have Sz := Lib.hid hz; have oc0 : w7.cell? ⟨w.heap.size, 0, none⟩ = some (.int .u32 (x0 : Int)) := So.out.nat' 0 (by simp); clear h1 bel z1 hz)
  have Nz := Na
  refine (rowt_eq L3 l.length HL4.out HLE3.out (radd_ok (some ⟨w6.heap.size, 0, none⟩) l.length l.length (VE.zero l.length) A l.length c l x0 _ (VE.zero_length _) rfl h32 Sz.out Sa.out (VE.zero_lt _) HR.out rfl HX0.out)).mono ?_
  rintro e w8 ⟨A_v, c_v, rfl, hat, bel⟩
  replace HB := Lib.hid (HB.out.trans (bel.mono HB.out.size))
  replace Sa := Lib.hid (Sa.out.later bel (Nat.le_refl _))
  replace Sb := Lib.hid (Sb.out.later bel (Nat.le_refl _))
  replace Sx := Lib.hid (Sx.out.later bel (Nat.le_refl _))
  replace So := Lib.hid (So.out.later bel (Nat.le_refl _))
  replace Ss := Lib.hid (Ss.out.later bel (Nat.le_refl _))
  replace St := Lib.hid (St.out.later bel (Nat.le_refl _))
  replace Sd := Lib.hid (Sd.out.later bel (Nat.le_refl _))
  replace Su := Lib.hid (Su.out.later bel (Nat.le_refl _))
  replace Sm := Lib.hid (Sm.out.later bel (Nat.le_refl _))
  replace Sz := Lib.hid (Sz.out.later bel (Nat.le_refl _))
  replace HG := Lib.hid (HG.out.later bel (Nat.le_refl _))
  have Sv := Lib.hid hat
  have Nv := Na
  clear hat bel oc0 oc1
  clear Sz Nz
  clear hi0
  go_wp2_with fail
  refine (valB_eq (.bool true) (by simp) (rsame_any A_s l.length c_s L1 A_t l.length c_t L1 _ HLE1.out Ns.out Ss.out HLE1.out Nt.out St.out)).mono ?_
  rintro e w9 ⟨rfl, bel⟩
  replace HB := Lib.hid (HB.out.trans (bel.mono HB.out.size))
  replace Sa := Lib.hid (Sa.out.later bel (Nat.le_refl _))
  replace Sb := Lib.hid (Sb.out.later bel (Nat.le_refl _))
  replace Sx := Lib.hid (Sx.out.later bel (Nat.le_refl _))
  replace So := Lib.hid (So.out.later bel (Nat.le_refl _))
  replace Ss := Lib.hid (Ss.out.later bel (Nat.le_refl _))
  replace St := Lib.hid (St.out.later bel (Nat.le_refl _))
  replace Sd := Lib.hid (Sd.out.later bel (Nat.le_refl _))
  replace Su := Lib.hid (Su.out.later bel (Nat.le_refl _))
  replace Sm := Lib.hid (Sm.out.later bel (Nat.le_refl _))
  replace Sv := Lib.hid (Sv.out.later bel (Nat.le_refl _))
  replace HG := Lib.hid (HG.out.later bel (Nat.le_refl _))
  clear bel
  go_wp2_with fail
  refine (valB_eq (.bool true) (by simp) (rsame_any A_d l.length c_d L2 A_u l.length c_u L2 _ HLE2.out Nd.out Sd.out HLE2.out Nu.out Su.out)).mono ?_
  rintro e w10 ⟨rfl, bel⟩
  replace HB := Lib.hid (HB.out.trans (bel.mono HB.out.size))
  replace Sa := Lib.hid (Sa.out.later bel (Nat.le_refl _))
  replace Sb := Lib.hid (Sb.out.later bel (Nat.le_refl _))
  replace Sx := Lib.hid (Sx.out.later bel (Nat.le_refl _))
  replace So := Lib.hid (So.out.later bel (Nat.le_refl _))
  replace Ss := Lib.hid (Ss.out.later bel (Nat.le_refl _))
  replace St := Lib.hid (St.out.later bel (Nat.le_refl _))
  replace Sd := Lib.hid (Sd.out.later bel (Nat.le_refl _))
  replace Su := Lib.hid (Su.out.later bel (Nat.le_refl _))
  replace Sm := Lib.hid (Sm.out.later bel (Nat.le_refl _))
  replace Sv := Lib.hid (Sv.out.later bel (Nat.le_refl _))
  replace HG := Lib.hid (HG.out.later bel (Nat.le_refl _))
  clear bel
  go_wp2_with fail
  refine (valB_eq (.bool true) (by simp) (rsame_any A_m l.length c_m L3 A_v l.length c_v L3 _ HLE3.out Nm.out Sm.out HLE3.out Nv.out Sv.out)).mono ?_
  rintro e w11 ⟨rfl, bel⟩
  replace HB := Lib.hid (HB.out.trans (bel.mono HB.out.size))
  replace Sa := Lib.hid (Sa.out.later bel (Nat.le_refl _))
  replace Sb := Lib.hid (Sb.out.later bel (Nat.le_refl _))
  replace Sx := Lib.hid (Sx.out.later bel (Nat.le_refl _))
  replace So := Lib.hid (So.out.later bel (Nat.le_refl _))
  replace Ss := Lib.hid (Ss.out.later bel (Nat.le_refl _))
  replace St := Lib.hid (St.out.later bel (Nat.le_refl _))
  replace Sd := Lib.hid (Sd.out.later bel (Nat.le_refl _))
  replace Su := Lib.hid (Su.out.later bel (Nat.le_refl _))
  replace Sm := Lib.hid (Sm.out.later bel (Nat.le_refl _))
  replace Sv := Lib.hid (Sv.out.later bel (Nat.le_refl _))
  replace HG := Lib.hid (HG.out.later bel (Nat.le_refl _))
  clear bel
  clear Ss Ns
  clear St Nt
  clear Sd Nd
  clear Su Nu
  clear Sm Nm
  clear Sv Nv
  have oc0 : w11.cell? ⟨w.heap.size, 0, none⟩ = some (.int .u32 (x0 : Int)) := So.out.nat' 0 (by simp)
  have oc1 : w11.cell? ⟨w.heap.size, 0 + 1, none⟩ = some (.int .u32 (x1 : Int)) := So.out.nat' 1 (by simp)
  rw [Nat.zero_add] at oc1
  have hqi := HQI.out
  go_wp2_with fail
  refine (vzero_no q _ (.inr (by omega)) (by omega)).mono ?_
  rintro e w' ⟨rfl, rfl⟩
  clear oc0 oc1
  go_wp2_with fail
  refine (num02_err 1 _ HG.out).mono ?_
  rintro e w12 ⟨rfl, bel⟩
  replace HB := Lib.hid (HB.out.trans (bel.mono HB.out.size))
  replace Sa := Lib.hid (Sa.out.later bel (Nat.le_refl _))
  replace Sb := Lib.hid (Sb.out.later bel (Nat.le_refl _))
  replace Sx := Lib.hid (Sx.out.later bel (Nat.le_refl _))
  replace So := Lib.hid (So.out.later bel (Nat.le_refl _))
  replace HG := Lib.hid (HG.out.later bel (Nat.le_refl _))
  clear bel
  clear hqi
  go_wp2_with fail
  refine (valB_eq (.bool r) (by rw [HRR.out]) (vsame_any A l.length c l A2 l2.length c2 l2 _ rfl Na.out Sa.out rfl Nb.out Sb.out)).mono ?_
  rintro e w13 ⟨rfl, bel⟩
  replace HB := Lib.hid (HB.out.trans (bel.mono HB.out.size))
  replace Sa := Lib.hid (Sa.out.later bel (Nat.le_refl _))
  replace Sb := Lib.hid (Sb.out.later bel (Nat.le_refl _))
  replace Sx := Lib.hid (Sx.out.later bel (Nat.le_refl _))
  replace So := Lib.hid (So.out.later bel (Nat.le_refl _))
  replace HG := Lib.hid (HG.out.later bel (Nat.le_refl _))
  clear bel
  go_wp2_with fail
  refine (valB_eq (.bool r) (by rw [HRR.out]) (rsame_any A l.length c l A2 l2.length c2 l2 _ rfl Na.out Sa.out rfl Nb.out Sb.out)).mono ?_
  rintro e w14 ⟨rfl, bel⟩
  replace HB := Lib.hid (HB.out.trans (bel.mono HB.out.size))
  replace Sa := Lib.hid (Sa.out.later bel (Nat.le_refl _))
  replace Sb := Lib.hid (Sb.out.later bel (Nat.le_refl _))
  replace Sx := Lib.hid (Sx.out.later bel (Nat.le_refl _))
  replace So := Lib.hid (So.out.later bel (Nat.le_refl _))
  replace HG := Lib.hid (HG.out.later bel (Nat.le_refl _))
  clear bel
  go_wp2_with fail
  refine (valB_eq (.bool true) (by simp) (rsame_any A_x l.length c_x l A l.length c l _ rfl Nx.out Sx.out rfl Na.out Sa.out)).mono ?_
  rintro e w15 ⟨rfl, bel⟩
  replace HB := Lib.hid (HB.out.trans (bel.mono HB.out.size))
  replace Sa := Lib.hid (Sa.out.later bel (Nat.le_refl _))
  replace Sb := Lib.hid (Sb.out.later bel (Nat.le_refl _))
  replace Sx := Lib.hid (Sx.out.later bel (Nat.le_refl _))
  replace So := Lib.hid (So.out.later bel (Nat.le_refl _))
  replace HG := Lib.hid (HG.out.later bel (Nat.le_refl _))
  clear bel
  go_wp2_with fail
  refine (sure02 _ HG.out).mono ?_
  rintro e w16 ⟨rfl, bel⟩
  replace HB := Lib.hid (HB.out.trans (bel.mono HB.out.size))
  replace Sa := Lib.hid (Sa.out.later bel (Nat.le_refl _))
  replace Sb := Lib.hid (Sb.out.later bel (Nat.le_refl _))
  replace Sx := Lib.hid (Sx.out.later bel (Nat.le_refl _))
  replace So := Lib.hid (So.out.later bel (Nat.le_refl _))
  replace HG := Lib.hid (HG.out.later bel (Nat.le_refl _))
  clear bel
  go_wp2_with fail
  go_ret
  exact ⟨rfl, HB.out⟩
end Go.Proofs.YtbgmbemaopnjfaaDoor
