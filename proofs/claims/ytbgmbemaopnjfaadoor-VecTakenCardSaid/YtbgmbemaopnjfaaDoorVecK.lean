/- Layer 2: VecTaken's walk. -/
import Derived.Test.YtbgmbemaopnjfaaDoorVecF
import Derived.Test.YtbgmbemaopnjfaaDoorVecN
namespace Go.Proofs.YtbgmbemaopnjfaaDoor
open Go.RowKit
theorem below_drewN (w : World) (n : Nat) : Below w.heap.size w (w.drewN n) := ⟨rfl, rfl, rfl, Nat.le_refl _, fun _ _ => rfl⟩
set_option maxRecDepth 100000 in
set_option maxHeartbeats 8000000 in
theorem vtaken_any (x y : List Nat) (k : Nat) (w : World) (hx : x.length = 6) (hy : y.length = 6) (bx : ∀ v ∈ x, v < 4294967296) (bz : ∀ v ∈ y, v < 4294967296) (hk : k < 256) (hg : Glob w) :
    Calls Tryd.prog 13 #[.agg (nats .u32 x).toArray, .agg (nats .u32 y).toArray, .int .u8 k] w fun e w' => e = .returned (.bool true) ∧ Below w.heap.size w w' := by
  have HG := Lib.hid hg
  have HX := Lib.hid hx
  have HY := Lib.hid hy
  have BX := Lib.hid bx
  have BY := Lib.hid bz
  obtain ⟨q, hqe⟩ : ∃ q, k % 9 = q := ⟨_, rfl⟩
  have hqi : (k : Int) % 9 = (q : Int) := by omega
  have hq9 : q < 9 := by omega
  have E1 := Lib.hid (VE.self_less hx)
  have E2 := Lib.hid (VE.plus_zero hx bx)
  have E3 := Lib.hid (VE.less_zero hx bx)
  have E4 := Lib.hid (VE.turned hx hy bx bz)
  obtain ⟨U, hU⟩ : ∃ U, VE.lin 4294967295 x y = U := ⟨_, rfl⟩
  obtain ⟨V, hV⟩ : ∃ V, VE.lin 4294967295 y x = V := ⟨_, rfl⟩
  obtain ⟨T, hT⟩ : ∃ T, VE.times q x = T := ⟨_, rfl⟩
  have HU := Lib.hid hU
  have HV := Lib.hid hV
  have HT := Lib.hid hT
  have LU := Lib.hid (show U.length = 6 by rw [← hU, VE.lin_length, hx, hy]; rfl)
  have LV := Lib.hid (show V.length = 6 by rw [← hV, VE.lin_length, hx, hy]; rfl)
  have LT := Lib.hid (show T.length = 6 by rw [← hT, VE.times_length, hx])
  have BV := Lib.hid (show ∀ v ∈ V, v < 4294967296 by rw [← hV]; exact VE.lin_lt _ _ _)
  have E5 := Lib.hid (show VE.lin 4294967295 (VE.zero 6) V = U by rw [← hV, ← hU]; exact E4.out)
  have E6 := Lib.hid (show VE.zero 6 = VE.times 0 x from (VE.times_zero' hx).symm)
  have E7 := Lib.hid (fun c => VE.times_succ c x)
  have LC := Lib.hid (fun c => (VE.times_length c x).trans hx)
  have BC := Lib.hid (fun c => VE.times_lt c x)
  have Nx := Lib.hid (show (6 : Nat) ≤ 9223372036854775807 by decide)
  have LZ := Lib.hid (show (VE.zero 6).length = 6 from rfl)
  have BZ := Lib.hid (VE.zero_lt 6)
  clear hg hx hy bx bz hqe hU hV hT E4
  go_enter Tryd.func13, Tryd.ntmps13
  go_wp2_with fail
  have bel := (show Below w.heap.size w ((w.alloc (.cells (nats .u32 x).toArray 75)).alloc (.cells (nats .u32 y).toArray 75)) from ((Below.refl _ _).alloc (by simp) _).alloc (by simp) _)
  have Sx := Lib.hid ((show At (w.alloc (.cells (nats .u32 x).toArray 75)) (some ⟨w.heap.size, 0, none⟩) (nats .u32 x) from At.lit _ _ _ _ _ rfl).later ((Below.refl _ _).alloc (Nat.le_refl _) (.cells (nats .u32 y).toArray 75)) (Nat.le_refl _))
  have Sy := Lib.hid (show At ((w.alloc (.cells (nats .u32 x).toArray 75)).alloc (.cells (nats .u32 y).toArray 75)) (some ⟨w.heap.size + 1, 0, none⟩) (nats .u32 y) from At.lit _ _ _ _ _ (by simp))
  generalize ((w.alloc (.cells (nats .u32 x).toArray 75)).alloc (.cells (nats .u32 y).toArray 75)) = w1 at bel Sx Sy ⊢
  replace HG := Lib.hid (HG.out.later bel (Nat.le_refl _))
  have HB := Lib.hid bel
  clear bel
  go_quiet (fail)
  have bel := below_drewN w1 nq
  generalize w1.drewN nq = w2 at bel ⊢
  replace HB := Lib.hid (HB.out.trans (bel.mono HB.out.size))
  have Ny := Nx
  replace Sx := Lib.hid (Sx.out.later bel (Nat.le_refl _))
  replace Sy := Lib.hid (Sy.out.later bel (Nat.le_refl _))
  replace HG := Lib.hid (HG.out.later bel (Nat.le_refl _))
  clear bel
  go_wp2_with fail
  refine (vzero_ok 6 _ (by decide)).mono ?_
  rintro e w3 ⟨rfl, hn, bel, -⟩
  replace HB := Lib.hid (HB.out.trans (bel.mono HB.out.size))
  replace Sx := Lib.hid (Sx.out.later bel (Nat.le_refl _))
  replace Sy := Lib.hid (Sy.out.later bel (Nat.le_refl _))
  replace HG := Lib.hid (HG.out.later bel (Nat.le_refl _))
  have Sz := Lib.hid (show At w3 (some ⟨w2.heap.size, 0, none⟩) (nats .u32 (VE.zero 6)) from hn.at_)
  clear hn bel
  have Nz := Nx
  go_wp2_with fail
  refine (rowe_eq (VE.zero 6) 6 E1.out LZ.out (vsub_ok (some ⟨w.heap.size, 0, none⟩) 6 6 x (some ⟨w.heap.size, 0, none⟩) 6 6 x _ HX.out HX.out Nx.out Nx.out Sx.out Sx.out BX.out BX.out (by decide) rfl)).mono ?_
  rintro e w4 ⟨A_d, c_d, rfl, hat, bel⟩
  replace HB := Lib.hid (HB.out.trans (bel.mono HB.out.size))
  replace Sx := Lib.hid (Sx.out.later bel (Nat.le_refl _))
  replace Sy := Lib.hid (Sy.out.later bel (Nat.le_refl _))
  replace Sz := Lib.hid (Sz.out.later bel (Nat.le_refl _))
  replace HG := Lib.hid (HG.out.later bel (Nat.le_refl _))
  have Sd := Lib.hid hat
  clear hat
  have Nd := Nx
  clear bel
  go_wp2_with fail
  refine (rowe_eq x 6 E2.out HX.out (vadd_ok (some ⟨w.heap.size, 0, none⟩) 6 6 x (some ⟨w2.heap.size, 0, none⟩) 6 6 (VE.zero 6) _ HX.out LZ.out Nx.out Nz.out Sx.out Sz.out BX.out BZ.out (by decide) rfl)).mono ?_
  rintro e w5 ⟨A_s, c_s, rfl, hat, bel⟩
  replace HB := Lib.hid (HB.out.trans (bel.mono HB.out.size))
  replace Sx := Lib.hid (Sx.out.later bel (Nat.le_refl _))
  replace Sy := Lib.hid (Sy.out.later bel (Nat.le_refl _))
  replace Sz := Lib.hid (Sz.out.later bel (Nat.le_refl _))
  replace Sd := Lib.hid (Sd.out.later bel (Nat.le_refl _))
  replace HG := Lib.hid (HG.out.later bel (Nat.le_refl _))
  have Ss := Lib.hid hat
  clear hat
  have Ns := Nx
  clear bel
  go_wp2_with fail
  refine (rowe_eq x 6 E3.out HX.out (vsub_ok (some ⟨w.heap.size, 0, none⟩) 6 6 x (some ⟨w2.heap.size, 0, none⟩) 6 6 (VE.zero 6) _ HX.out LZ.out Nx.out Nz.out Sx.out Sz.out BX.out BZ.out (by decide) rfl)).mono ?_
  rintro e w6 ⟨A_t, c_t, rfl, hat, bel⟩
  replace HB := Lib.hid (HB.out.trans (bel.mono HB.out.size))
  replace Sx := Lib.hid (Sx.out.later bel (Nat.le_refl _))
  replace Sy := Lib.hid (Sy.out.later bel (Nat.le_refl _))
  replace Sz := Lib.hid (Sz.out.later bel (Nat.le_refl _))
  replace Sd := Lib.hid (Sd.out.later bel (Nat.le_refl _))
  replace Ss := Lib.hid (Ss.out.later bel (Nat.le_refl _))
  replace HG := Lib.hid (HG.out.later bel (Nat.le_refl _))
  have St := Lib.hid hat
  clear hat
  have Nt := Nx
  clear bel
  go_wp2_with fail
  refine (rowe_eq U 6 HU.out LU.out (vsub_ok (some ⟨w.heap.size, 0, none⟩) 6 6 x (some ⟨w.heap.size + 1, 0, none⟩) 6 6 y _ HX.out HY.out Nx.out Ny.out Sx.out Sy.out BX.out BY.out (by decide) rfl)).mono ?_
  rintro e w7 ⟨A_u, c_u, rfl, hat, bel⟩
  replace HB := Lib.hid (HB.out.trans (bel.mono HB.out.size))
  replace Sx := Lib.hid (Sx.out.later bel (Nat.le_refl _))
  replace Sy := Lib.hid (Sy.out.later bel (Nat.le_refl _))
  replace Sz := Lib.hid (Sz.out.later bel (Nat.le_refl _))
  replace Sd := Lib.hid (Sd.out.later bel (Nat.le_refl _))
  replace Ss := Lib.hid (Ss.out.later bel (Nat.le_refl _))
  replace St := Lib.hid (St.out.later bel (Nat.le_refl _))
  replace HG := Lib.hid (HG.out.later bel (Nat.le_refl _))
  have Su := Lib.hid hat
  clear hat
  have Nu := Nx
  clear bel
  go_wp2_with fail
  refine (rowe_eq V 6 HV.out LV.out (vsub_ok (some ⟨w.heap.size + 1, 0, none⟩) 6 6 y (some ⟨w.heap.size, 0, none⟩) 6 6 x _ HY.out HX.out Ny.out Nx.out Sy.out Sx.out BY.out BX.out (by decide) rfl)).mono ?_
  rintro e w8 ⟨A_v, c_v, rfl, hat, bel⟩
  replace HB := Lib.hid (HB.out.trans (bel.mono HB.out.size))
  replace Sx := Lib.hid (Sx.out.later bel (Nat.le_refl _))
  replace Sy := Lib.hid (Sy.out.later bel (Nat.le_refl _))
  replace Sz := Lib.hid (Sz.out.later bel (Nat.le_refl _))
  replace Sd := Lib.hid (Sd.out.later bel (Nat.le_refl _))
  replace Ss := Lib.hid (Ss.out.later bel (Nat.le_refl _))
  replace St := Lib.hid (St.out.later bel (Nat.le_refl _))
  replace Su := Lib.hid (Su.out.later bel (Nat.le_refl _))
  replace HG := Lib.hid (HG.out.later bel (Nat.le_refl _))
  have Sv := Lib.hid hat
  clear hat
  have Nv := Nx
  clear bel
  go_wp2_with fail
  refine (rowe_eq U 6 E5.out LU.out (vsub_ok (some ⟨w2.heap.size, 0, none⟩) 6 6 (VE.zero 6) A_v 6 c_v V _ LZ.out LV.out Nz.out Nv.out Sz.out Sv.out BZ.out BV.out (by decide) rfl)).mono ?_
  rintro e w9 ⟨A_w, c_w, rfl, hat, bel⟩
  replace HB := Lib.hid (HB.out.trans (bel.mono HB.out.size))
  replace Sx := Lib.hid (Sx.out.later bel (Nat.le_refl _))
  replace Sy := Lib.hid (Sy.out.later bel (Nat.le_refl _))
  replace Sz := Lib.hid (Sz.out.later bel (Nat.le_refl _))
  replace Sd := Lib.hid (Sd.out.later bel (Nat.le_refl _))
  replace Ss := Lib.hid (Ss.out.later bel (Nat.le_refl _))
  replace St := Lib.hid (St.out.later bel (Nat.le_refl _))
  replace Su := Lib.hid (Su.out.later bel (Nat.le_refl _))
  replace Sv := Lib.hid (Sv.out.later bel (Nat.le_refl _))
  replace HG := Lib.hid (HG.out.later bel (Nat.le_refl _))
  have Sw := Lib.hid hat
  clear hat
  have Nw := Nx
  clear bel
  go_wp2_with fail
  refine (rowe_eq T 6 HT.out LT.out (vtimes_ok (some ⟨w.heap.size, 0, none⟩) 6 6 x q _ HX.out (by decide) Sx.out BX.out (by omega))).mono ?_
  rintro e w10 ⟨A_n, c_n, rfl, hat, bel⟩
  replace HB := Lib.hid (HB.out.trans (bel.mono HB.out.size))
  replace Sx := Lib.hid (Sx.out.later bel (Nat.le_refl _))
  replace Sy := Lib.hid (Sy.out.later bel (Nat.le_refl _))
  replace Sz := Lib.hid (Sz.out.later bel (Nat.le_refl _))
  replace Sd := Lib.hid (Sd.out.later bel (Nat.le_refl _))
  replace Ss := Lib.hid (Ss.out.later bel (Nat.le_refl _))
  replace St := Lib.hid (St.out.later bel (Nat.le_refl _))
  replace Su := Lib.hid (Su.out.later bel (Nat.le_refl _))
  replace Sv := Lib.hid (Sv.out.later bel (Nat.le_refl _))
  replace Sw := Lib.hid (Sw.out.later bel (Nat.le_refl _))
  replace HG := Lib.hid (HG.out.later bel (Nat.le_refl _))
  have Sn := Lib.hid hat
  clear hat
  have Nn := Nx
  clear bel
  go_wp2_with fail
  refine (vzero_ok 6 _ (by decide)).mono ?_
  rintro e w11 ⟨rfl, hn, bel, -⟩
  replace HB := Lib.hid (HB.out.trans (bel.mono HB.out.size))
  replace Sx := Lib.hid (Sx.out.later bel (Nat.le_refl _))
  replace Sy := Lib.hid (Sy.out.later bel (Nat.le_refl _))
  replace Sz := Lib.hid (Sz.out.later bel (Nat.le_refl _))
  replace Sd := Lib.hid (Sd.out.later bel (Nat.le_refl _))
  replace Ss := Lib.hid (Ss.out.later bel (Nat.le_refl _))
  replace St := Lib.hid (St.out.later bel (Nat.le_refl _))
  replace Su := Lib.hid (Su.out.later bel (Nat.le_refl _))
  replace Sv := Lib.hid (Sv.out.later bel (Nat.le_refl _))
  replace Sw := Lib.hid (Sw.out.later bel (Nat.le_refl _))
  replace Sn := Lib.hid (Sn.out.later bel (Nat.le_refl _))
  replace HG := Lib.hid (HG.out.later bel (Nat.le_refl _))
  have Sm := Lib.hid (show At w11 (some ⟨w10.heap.size, 0, none⟩) (nats .u32 (VE.times 0 x)) from E6.out ▸ hn.at_)
  clear hn bel
  have Nm := Nx
  go_wp2_with fail
  have Tx := Sx
  have Ty := Sy
  have Tz := Sz
  have Td := Sd
  have Ts := Ss
  have Tt := St
  have Tu := Su
  have Tv := Sv
  have Tw := Sw
  have Tn := Sn
  have Tm := Sm
  obtain ⟨wo, hwo⟩ : ∃ wo : World, wo = w11 := ⟨_, rfl⟩
  clear hwo wo
  go_loopw [25, 26, 27] (fun s e i wr => ∃ (j : Nat) (A : Option Addr) (cc : Nat), j ≤ q ∧ i = .int .i64 j ∧ e = .nilIface ∧ s = .slice A 6 cc ∧ At wr A (nats .u32 (VE.times j x)) ∧ Below w11.heap.size w11 wr) (fun _ _ i _ => q - (intOf i).toNat)
  case atStart => exact ⟨0, (some ⟨w10.heap.size, 0, none⟩), 6, by omega, rfl, rfl, rfl, Sm.out, Below.refl _ _⟩
  case round =>
    obtain ⟨j, A_m, c_m, hj, rfl, rfl, rfl, hat, bel⟩ := hrel
    clear Sm
    clear Tx
    clear Ty
    clear Tz
    clear Td
    clear Ts
    clear Tt
    clear Tu
    clear Tv
    clear Tw
    clear Tn
    clear Tm
    have Sm := Lib.hid hat
    have HBJ := Lib.hid bel
    replace HB := Lib.hid (HB.out.trans (bel.mono HB.out.size))
    replace Sx := Lib.hid (Sx.out.later bel (Nat.le_refl _))
    replace Sy := Lib.hid (Sy.out.later bel (Nat.le_refl _))
    replace Sz := Lib.hid (Sz.out.later bel (Nat.le_refl _))
    replace Sd := Lib.hid (Sd.out.later bel (Nat.le_refl _))
    replace Ss := Lib.hid (Ss.out.later bel (Nat.le_refl _))
    replace St := Lib.hid (St.out.later bel (Nat.le_refl _))
    replace Su := Lib.hid (Su.out.later bel (Nat.le_refl _))
    replace Sv := Lib.hid (Sv.out.later bel (Nat.le_refl _))
    replace Sw := Lib.hid (Sw.out.later bel (Nat.le_refl _))
    replace Sn := Lib.hid (Sn.out.later bel (Nat.le_refl _))
    replace HG := Lib.hid (HG.out.later bel (Nat.le_refl _))
    clear hat bel
    by_cases hlt : j < q
    · have C := Lib.hid (rowe_eq (VE.times (j + 1) x) 6 (E7.out j) (LC.out (j + 1)) (vadd_ok A_m 6 c_m (VE.times j x) (some ⟨w.heap.size, 0, none⟩) 6 6 x wr (LC.out j) HX.out Nx.out Nx.out Sm.out Sx.out (BC.out j) BX.out (by decide) rfl))
      go_wp2_with fail
      refine C.out.mono ?_
      rintro e w2' ⟨A_m2, c_m2, rfl, hat, bel⟩
      have HT2 := Lib.hid hat
      have HB2 := Lib.hid (HBJ.out.trans (bel.mono HBJ.out.size))
      clear hat bel C
      go_wp2_with fail
      exact ⟨⟨j + 1, A_m2, c_m2, by omega, by simp, rfl, rfl, HT2.out, HB2.out⟩, by simp only [intOf]; omega⟩
    · obtain rfl : j = q := by omega
      replace Sm := Lib.hid (show At wr A_m (nats .u32 T) from HT.out ▸ Sm.out)
      clear HBJ hlt hj
      have Nm := Nx
      go_wp2_with fail
      refine (valB_eq (.bool true) (by simp) (vsame_any A_d 6 c_d (VE.zero 6) (some ⟨w2.heap.size, 0, none⟩) 6 6 (VE.zero 6) _ LZ.out Nd.out Sd.out LZ.out Nz.out Sz.out)).mono ?_
      rintro e w12 ⟨rfl, bel⟩
      replace HB := Lib.hid (HB.out.trans (bel.mono HB.out.size))
      replace Sx := Lib.hid (Sx.out.later bel (Nat.le_refl _))
      replace Sy := Lib.hid (Sy.out.later bel (Nat.le_refl _))
      replace Sz := Lib.hid (Sz.out.later bel (Nat.le_refl _))
      replace Sd := Lib.hid (Sd.out.later bel (Nat.le_refl _))
      replace Ss := Lib.hid (Ss.out.later bel (Nat.le_refl _))
      replace St := Lib.hid (St.out.later bel (Nat.le_refl _))
      replace Su := Lib.hid (Su.out.later bel (Nat.le_refl _))
      replace Sv := Lib.hid (Sv.out.later bel (Nat.le_refl _))
      replace Sw := Lib.hid (Sw.out.later bel (Nat.le_refl _))
      replace Sn := Lib.hid (Sn.out.later bel (Nat.le_refl _))
      replace Sm := Lib.hid (Sm.out.later bel (Nat.le_refl _))
      replace HG := Lib.hid (HG.out.later bel (Nat.le_refl _))
      clear bel
      go_wp2_with fail
      refine (valB_eq (.bool true) (by simp) (vsame_any A_s 6 c_s x (some ⟨w.heap.size, 0, none⟩) 6 6 x _ HX.out Ns.out Ss.out HX.out Nx.out Sx.out)).mono ?_
      rintro e w13 ⟨rfl, bel⟩
      replace HB := Lib.hid (HB.out.trans (bel.mono HB.out.size))
      replace Sx := Lib.hid (Sx.out.later bel (Nat.le_refl _))
      replace Sy := Lib.hid (Sy.out.later bel (Nat.le_refl _))
      replace Sz := Lib.hid (Sz.out.later bel (Nat.le_refl _))
      replace Sd := Lib.hid (Sd.out.later bel (Nat.le_refl _))
      replace Ss := Lib.hid (Ss.out.later bel (Nat.le_refl _))
      replace St := Lib.hid (St.out.later bel (Nat.le_refl _))
      replace Su := Lib.hid (Su.out.later bel (Nat.le_refl _))
      replace Sv := Lib.hid (Sv.out.later bel (Nat.le_refl _))
      replace Sw := Lib.hid (Sw.out.later bel (Nat.le_refl _))
      replace Sn := Lib.hid (Sn.out.later bel (Nat.le_refl _))
      replace Sm := Lib.hid (Sm.out.later bel (Nat.le_refl _))
      replace HG := Lib.hid (HG.out.later bel (Nat.le_refl _))
      clear bel
      go_wp2_with fail
      refine (valB_eq (.bool true) (by simp) (vsame_any A_t 6 c_t x (some ⟨w.heap.size, 0, none⟩) 6 6 x _ HX.out Nt.out St.out HX.out Nx.out Sx.out)).mono ?_
      rintro e w14 ⟨rfl, bel⟩
      replace HB := Lib.hid (HB.out.trans (bel.mono HB.out.size))
      replace Sx := Lib.hid (Sx.out.later bel (Nat.le_refl _))
      replace Sy := Lib.hid (Sy.out.later bel (Nat.le_refl _))
      replace Sz := Lib.hid (Sz.out.later bel (Nat.le_refl _))
      replace Sd := Lib.hid (Sd.out.later bel (Nat.le_refl _))
      replace Ss := Lib.hid (Ss.out.later bel (Nat.le_refl _))
      replace St := Lib.hid (St.out.later bel (Nat.le_refl _))
      replace Su := Lib.hid (Su.out.later bel (Nat.le_refl _))
      replace Sv := Lib.hid (Sv.out.later bel (Nat.le_refl _))
      replace Sw := Lib.hid (Sw.out.later bel (Nat.le_refl _))
      replace Sn := Lib.hid (Sn.out.later bel (Nat.le_refl _))
      replace Sm := Lib.hid (Sm.out.later bel (Nat.le_refl _))
      replace HG := Lib.hid (HG.out.later bel (Nat.le_refl _))
      clear bel
      go_wp2_with fail
      refine (valB_eq (.bool true) (by simp) (vsame_any A_u 6 c_u U A_w 6 c_w U _ LU.out Nu.out Su.out LU.out Nw.out Sw.out)).mono ?_
      rintro e w15 ⟨rfl, bel⟩
      replace HB := Lib.hid (HB.out.trans (bel.mono HB.out.size))
      replace Sx := Lib.hid (Sx.out.later bel (Nat.le_refl _))
      replace Sy := Lib.hid (Sy.out.later bel (Nat.le_refl _))
      replace Sz := Lib.hid (Sz.out.later bel (Nat.le_refl _))
      replace Sd := Lib.hid (Sd.out.later bel (Nat.le_refl _))
      replace Ss := Lib.hid (Ss.out.later bel (Nat.le_refl _))
      replace St := Lib.hid (St.out.later bel (Nat.le_refl _))
      replace Su := Lib.hid (Su.out.later bel (Nat.le_refl _))
      replace Sv := Lib.hid (Sv.out.later bel (Nat.le_refl _))
      replace Sw := Lib.hid (Sw.out.later bel (Nat.le_refl _))
      replace Sn := Lib.hid (Sn.out.later bel (Nat.le_refl _))
      replace Sm := Lib.hid (Sm.out.later bel (Nat.le_refl _))
      replace HG := Lib.hid (HG.out.later bel (Nat.le_refl _))
      clear bel
      go_wp2_with fail
      refine (valB_eq (.bool true) (by simp) (vsame_any A_n 6 c_n T A_m 6 c_m T _ LT.out Nn.out Sn.out LT.out Nm.out Sm.out)).mono ?_
      rintro e w16 ⟨rfl, bel⟩
      replace HB := Lib.hid (HB.out.trans (bel.mono HB.out.size))
      replace Sx := Lib.hid (Sx.out.later bel (Nat.le_refl _))
      replace Sy := Lib.hid (Sy.out.later bel (Nat.le_refl _))
      replace Sz := Lib.hid (Sz.out.later bel (Nat.le_refl _))
      replace Sd := Lib.hid (Sd.out.later bel (Nat.le_refl _))
      replace Ss := Lib.hid (Ss.out.later bel (Nat.le_refl _))
      replace St := Lib.hid (St.out.later bel (Nat.le_refl _))
      replace Su := Lib.hid (Su.out.later bel (Nat.le_refl _))
      replace Sv := Lib.hid (Sv.out.later bel (Nat.le_refl _))
      replace Sw := Lib.hid (Sw.out.later bel (Nat.le_refl _))
      replace Sn := Lib.hid (Sn.out.later bel (Nat.le_refl _))
      replace Sm := Lib.hid (Sm.out.later bel (Nat.le_refl _))
      replace HG := Lib.hid (HG.out.later bel (Nat.le_refl _))
      clear bel
      go_wp2_with fail
      refine (sure02 _ HG.out).mono ?_
      rintro e w17 ⟨rfl, bel⟩
      replace HB := Lib.hid (HB.out.trans (bel.mono HB.out.size))
      replace Sx := Lib.hid (Sx.out.later bel (Nat.le_refl _))
      replace Sy := Lib.hid (Sy.out.later bel (Nat.le_refl _))
      replace Sz := Lib.hid (Sz.out.later bel (Nat.le_refl _))
      replace Sd := Lib.hid (Sd.out.later bel (Nat.le_refl _))
      replace Ss := Lib.hid (Ss.out.later bel (Nat.le_refl _))
      replace St := Lib.hid (St.out.later bel (Nat.le_refl _))
      replace Su := Lib.hid (Su.out.later bel (Nat.le_refl _))
      replace Sv := Lib.hid (Sv.out.later bel (Nat.le_refl _))
      replace Sw := Lib.hid (Sw.out.later bel (Nat.le_refl _))
      replace Sn := Lib.hid (Sn.out.later bel (Nat.le_refl _))
      replace Sm := Lib.hid (Sm.out.later bel (Nat.le_refl _))
      replace HG := Lib.hid (HG.out.later bel (Nat.le_refl _))
      clear bel
      go_wp2_with fail
      go_ret
      exact ⟨rfl, HB.out⟩
end Go.Proofs.YtbgmbemaopnjfaaDoor
