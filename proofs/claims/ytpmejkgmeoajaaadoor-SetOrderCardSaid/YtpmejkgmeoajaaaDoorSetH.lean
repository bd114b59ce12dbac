/- Layer 15: SetParts' walk. -/
import Derived.Test.YtpmejkgmeoajaaaDoorSetG
namespace Go.Proofs.YtpmejkgmeoajaaaDoor
open Go.RowKit
namespace SetM
theorem eq_bits {v w : Nat} (h : ∀ i, v.testBit i = w.testBit i) : v = w := Nat.eq_of_testBit_eq h
section
variable {v w : Nat} (hv : v < 2 ^ 64) (hw : w < 2 ^ 64)
include hv hw
theorem parts1 : op 0 (op 0 (op 2 v w) (op 1 v w)) (op 2 w v) = op 0 v w := eq_bits fun i => by
  rw [op_testBit 0 (op_lt 0 (op_lt 2 hv hw) (op_lt 1 hv hw)) (op_lt 2 hw hv), op_testBit 0 (op_lt 2 hv hw) (op_lt 1 hv hw), op_testBit 2 hv hw, op_testBit 1 hv hw, op_testBit 2 hw hv, op_testBit 0 hv hw]
  cases v.testBit i <;> cases w.testBit i <;> rfl
theorem parts2 : op 0 (op 2 v w) (op 1 v w) = v := eq_bits fun i => by
  rw [op_testBit 0 (op_lt 2 hv hw) (op_lt 1 hv hw), op_testBit 2 hv hw, op_testBit 1 hv hw]
  cases v.testBit i <;> cases w.testBit i <;> rfl
theorem parts3 : op 1 (op 2 v w) w = 0 := eq_bits fun i => by
  rw [op_testBit 1 (op_lt 2 hv hw) hw, op_testBit 2 hv hw, Nat.zero_testBit]
  cases v.testBit i <;> cases w.testBit i <;> rfl
theorem parts4 : op 2 (op 0 v w) w = op 2 v w := eq_bits fun i => by
  rw [op_testBit 2 (op_lt 0 hv hw) hw, op_testBit 0 hv hw, op_testBit 2 hv hw]
  cases v.testBit i <;> cases w.testBit i <;> rfl
theorem parts5 : (elems (op 2 v w)).length + (elems (op 1 v w)).length + (elems (op 2 w v)).length = (elems (op 0 v w)).length := by
  unfold elems elemsTo
  rw [List.length_map, List.length_map, List.length_map, List.length_map]
  refine part_length _ _ _ _ (fun i => ?_) (fun i => ?_) (fun i => ?_) (fun i => ?_) _ <;>
    simp only [op_testBit _ hv hw, op_testBit _ hw hv] <;> cases v.testBit i <;> cases w.testBit i <;> decide
end
theorem has_elems {v : Nat} (hv : v < 2 ^ 64) (k : Nat) (hk : k < 64) : has (elems v) k = v.testBit k := by rw [has_nat _ _ hk, bitsOf_elems hv]
theorem elems_zero : elems 0 = [] := by decide
end SetM
set_option maxRecDepth 100000 in
set_option maxHeartbeats 4000000 in
theorem parts_11 (v w0 n : Nat) (w : World) (hv : v < 18446744073709551616) (hw : w0 < 18446744073709551616) (hn : n < 256) (hg : Glob w) (hp : v.testBit (n % 64) = true) (hq : w0.testBit (n % 64) = true) :
    Calls Tryd.prog 5 #[.int .u64 v, .int .u64 w0, .int .u8 n] w fun e w' => e = .returned (.bool true) ∧ Below w.heap.size w w' := by
  have HG := Lib.hid hg
  have hk : n % 64 < 64 := Nat.mod_lt _ (by decide)
  obtain ⟨La, hLa⟩ : ∃ L, SetM.elems (v) = L := ⟨_, rfl⟩
  have hba : SetM.bitsOf La = v := by rw [← hLa, SetM.bitsOf_elems hv]
  have HBa := Lib.hid hba
  have HLa := Lib.hid hLa
  have Na := Lib.hid (hLa ▸ elems_len _ : La.length ≤ 9223372036854775807)
  obtain ⟨Lb, hLb⟩ : ∃ L, SetM.elems (w0) = L := ⟨_, rfl⟩
  have hbb : SetM.bitsOf Lb = w0 := by rw [← hLb, SetM.bitsOf_elems hw]
  have HBb := Lib.hid hbb
  have HLb := Lib.hid hLb
  have Nb := Lib.hid (hLb ▸ elems_len _ : Lb.length ≤ 9223372036854775807)
  obtain ⟨Lx, hLx⟩ : ∃ L, SetM.elems (SetM.op 2 v w0) = L := ⟨_, rfl⟩
  have hbx : SetM.bitsOf Lx = SetM.op 2 v w0 := by rw [← hLx, SetM.bitsOf_elems (SetM.op_lt 2 hv hw)]
  have HBx := Lib.hid hbx
  have HLx := Lib.hid hLx
  have Nx := Lib.hid (hLx ▸ elems_len _ : Lx.length ≤ 9223372036854775807)
  obtain ⟨Ly, hLy⟩ : ∃ L, SetM.elems (SetM.op 1 v w0) = L := ⟨_, rfl⟩
  have hby : SetM.bitsOf Ly = SetM.op 1 v w0 := by rw [← hLy, SetM.bitsOf_elems (SetM.op_lt 1 hv hw)]
  have HBy := Lib.hid hby
  have HLy := Lib.hid hLy
  have Ny := Lib.hid (hLy ▸ elems_len _ : Ly.length ≤ 9223372036854775807)
  obtain ⟨Lz, hLz⟩ : ∃ L, SetM.elems (SetM.op 2 w0 v) = L := ⟨_, rfl⟩
  have hbz : SetM.bitsOf Lz = SetM.op 2 w0 v := by rw [← hLz, SetM.bitsOf_elems (SetM.op_lt 2 hw hv)]
  have HBz := Lib.hid hbz
  have HLz := Lib.hid hLz
  have Nz := Lib.hid (hLz ▸ elems_len _ : Lz.length ≤ 9223372036854775807)
  obtain ⟨Lu, hLu⟩ : ∃ L, SetM.elems (SetM.op 0 v w0) = L := ⟨_, rfl⟩
  have hbu : SetM.bitsOf Lu = SetM.op 0 v w0 := by rw [← hLu, SetM.bitsOf_elems (SetM.op_lt 0 hv hw)]
  have HBu := Lib.hid hbu
  have HLu := Lib.hid hLu
  have Nu := Lib.hid (hLu ▸ elems_len _ : Lu.length ≤ 9223372036854775807)
  have Ex := Lib.hid (show SetM.elems (SetM.op 2 (SetM.bitsOf La) (SetM.bitsOf Lb)) = Lx by rw [hba, hbb, hLx])
  have Ey := Lib.hid (show SetM.elems (SetM.op 1 (SetM.bitsOf La) (SetM.bitsOf Lb)) = Ly by rw [hba, hbb, hLy])
  have Ez := Lib.hid (show SetM.elems (SetM.op 2 (SetM.bitsOf Lb) (SetM.bitsOf La)) = Lz by rw [hbb, hba, hLz])
  have Eu := Lib.hid (show SetM.elems (SetM.op 0 (SetM.bitsOf La) (SetM.bitsOf Lb)) = Lu by rw [hba, hbb, hLu])
  have Exy := Lib.hid (show SetM.elems (SetM.op 0 (SetM.bitsOf Lx) (SetM.bitsOf Ly)) = La by rw [hbx, hby, SetM.parts2 hv hw, hLa])
  have Exyz := Lib.hid (show SetM.elems (SetM.op 0 (SetM.bitsOf La) (SetM.bitsOf Lz)) = Lu by
    have h := SetM.parts1 hv hw
    rw [SetM.parts2 hv hw] at h
    rw [hba, hbz, h, hLu])
  have Exb := Lib.hid (show SetM.elems (SetM.op 1 (SetM.bitsOf Lx) (SetM.bitsOf Lb)) = [] by rw [hbx, hbb, SetM.parts3 hv hw, SetM.elems_zero])
  have Eub := Lib.hid (show SetM.elems (SetM.op 2 (SetM.bitsOf Lu) (SetM.bitsOf Lb)) = Lx by rw [hbu, hbb, SetM.parts4 hv hw, hLx])
  have hlen : Lx.length + Ly.length + Lz.length = Lu.length := by rw [← hLx, ← hLy, ← hLz, ← hLu]; exact SetM.parts5 hv hw
  have Ma := Lib.hid (show SetM.may La = true by rw [← hLa]; exact SetM.may_elems _)
  have Mu := Lib.hid (show SetM.may Lu = true by rw [← hLu]; exact SetM.may_elems _)
  have hx64 : Lx.length ≤ 64 := by rw [← hLx]; exact SetM.elemsTo_length _ 64
  have hy64 : Ly.length ≤ 64 := by rw [← hLy]; exact SetM.elemsTo_length _ 64
  have hz64 : Lz.length ≤ 64 := by rw [← hLz]; exact SetM.elemsTo_length _ 64
  have hl1 : Lx.length + Ly.length + Lz.length ≤ Lu.length := by omega
  have hl2 : Lu.length ≤ Lx.length + Ly.length + Lz.length := by omega
  have Ku := Lib.hid (show SetM.has Lu ((n % 64 : Nat) : Int) = true by rw [← hLu, SetM.has_elems (SetM.op_lt 0 hv hw) _ hk, SetM.op_testBit 0 hv hw, hp, hq]; rfl)
  have Ka := Lib.hid (show SetM.has La ((n % 64 : Nat) : Int) = true by rw [← hLa, SetM.has_elems hv _ hk, hp])
  have Kb := Lib.hid (show SetM.has Lb ((n % 64 : Nat) : Int) = true by rw [← hLb, SetM.has_elems hw _ hk, hq])
  have Ky := Lib.hid (show SetM.has Ly ((n % 64 : Nat) : Int) = true by rw [← hLy, SetM.has_elems (SetM.op_lt 1 hv hw) _ hk, SetM.op_testBit 1 hv hw, hp, hq]; rfl)
  have Fa := Lib.hid (fun W => setFrom_any v W hv)
  have Fb := Lib.hid (fun W => setFrom_any w0 W hw)
  have HVV := Lib.hid hba
  clear hp hq hg hlen hv hw hba hbb hbx hby hbz hbu hLa hLb hLx hLy hLz hLu
  go_enter Tryd.func5, Tryd.ntmps5
  have HB := Lib.hid (Below.refl w.heap.size w)
  go_wp2_with fail
  refine (sl_eq (P := fun _ _ => True) La La.length HLa.out rfl (Fa.out _)).mono ?_
  rintro e w1 ⟨A_a, c_a, rfl, hat, bel⟩
  replace HB := Lib.hid (HB.out.trans (bel.mono HB.out.size))
  replace HG := Lib.hid (HG.out.later bel (Nat.le_refl _))
  have Sa := Lib.hid hat
  clear hat
  clear bel
  go_wp2_with fail
  refine (sl_eq (P := fun _ _ => True) Lb Lb.length HLb.out rfl (Fb.out _)).mono ?_
  rintro e w2 ⟨A_b, c_b, rfl, hat, bel⟩
  replace HB := Lib.hid (HB.out.trans (bel.mono HB.out.size))
  replace Sa := Lib.hid (Sa.out.later bel (Nat.le_refl _))
  replace HG := Lib.hid (HG.out.later bel (Nat.le_refl _))
  have Sb := Lib.hid hat
  clear hat
  clear bel
  go_wp2_with fail
  refine (sl_eq (P := fun _ _ => True) Lx Lx.length Ex.out rfl (setLess_any A_a La.length c_a La A_b Lb.length c_b Lb _ rfl Na.out Sa.out rfl Nb.out Sb.out)).mono ?_
  rintro e w3 ⟨A_x, c_x, rfl, hat, bel⟩
  replace HB := Lib.hid (HB.out.trans (bel.mono HB.out.size))
  replace Sa := Lib.hid (Sa.out.later bel (Nat.le_refl _))
  replace Sb := Lib.hid (Sb.out.later bel (Nat.le_refl _))
  replace HG := Lib.hid (HG.out.later bel (Nat.le_refl _))
  have Sx := Lib.hid hat
  clear hat
  clear bel
  go_wp2_with fail
  refine (sl_eq (P := fun _ _ => True) Ly Ly.length Ey.out rfl (setBoth_any A_a La.length c_a La A_b Lb.length c_b Lb _ rfl Na.out Sa.out rfl Nb.out Sb.out)).mono ?_
  rintro e w4 ⟨A_y, c_y, rfl, hat, bel⟩
  replace HB := Lib.hid (HB.out.trans (bel.mono HB.out.size))
  replace Sa := Lib.hid (Sa.out.later bel (Nat.le_refl _))
  replace Sb := Lib.hid (Sb.out.later bel (Nat.le_refl _))
  replace Sx := Lib.hid (Sx.out.later bel (Nat.le_refl _))
  replace HG := Lib.hid (HG.out.later bel (Nat.le_refl _))
  have Sy := Lib.hid hat
  clear hat
  clear bel
  go_wp2_with fail
  refine (sl_eq (P := fun _ _ => True) Lz Lz.length Ez.out rfl (setLess_any A_b Lb.length c_b Lb A_a La.length c_a La _ rfl Nb.out Sb.out rfl Na.out Sa.out)).mono ?_
  rintro e w5 ⟨A_z, c_z, rfl, hat, bel⟩
  replace HB := Lib.hid (HB.out.trans (bel.mono HB.out.size))
  replace Sa := Lib.hid (Sa.out.later bel (Nat.le_refl _))
  replace Sb := Lib.hid (Sb.out.later bel (Nat.le_refl _))
  replace Sx := Lib.hid (Sx.out.later bel (Nat.le_refl _))
  replace Sy := Lib.hid (Sy.out.later bel (Nat.le_refl _))
  replace HG := Lib.hid (HG.out.later bel (Nat.le_refl _))
  have Sz := Lib.hid hat
  clear hat
  clear bel
  go_wp2_with fail
  refine (sl_eq (P := fun _ _ => True) Lu Lu.length Eu.out rfl (setEither_any A_a La.length c_a La A_b Lb.length c_b Lb _ rfl Na.out Sa.out rfl Nb.out Sb.out)).mono ?_
  rintro e w6 ⟨A_u, c_u, rfl, hat, bel⟩
  replace HB := Lib.hid (HB.out.trans (bel.mono HB.out.size))
  replace Sa := Lib.hid (Sa.out.later bel (Nat.le_refl _))
  replace Sb := Lib.hid (Sb.out.later bel (Nat.le_refl _))
  replace Sx := Lib.hid (Sx.out.later bel (Nat.le_refl _))
  replace Sy := Lib.hid (Sy.out.later bel (Nat.le_refl _))
  replace Sz := Lib.hid (Sz.out.later bel (Nat.le_refl _))
  replace HG := Lib.hid (HG.out.later bel (Nat.le_refl _))
  have Su := Lib.hid hat
  clear hat
  clear bel
  go_wp2_with fail
  refine (val_eq .nilIface (by rw [Ma.out]; rfl) (setCheck_any A_a La.length c_a La _ rfl Na.out Sa.out)).mono ?_
  rintro e w' ⟨rfl, rfl⟩
  go_wp2_with fail
  refine (val_eq .nilIface (by rw [Mu.out]; rfl) (setCheck_any A_u Lu.length c_u Lu _ rfl Nu.out Su.out)).mono ?_
  rintro e w' ⟨rfl, rfl⟩
  go_wp2_with fail
  refine (val_eq (.int .u64 (v : Nat)) (by rw [HVV.out]) (setBits_any A_a La.length c_a La _ rfl Na.out Sa.out)).mono ?_
  rintro e w' ⟨rfl, rfl⟩
  go_wp2_with fail
  refine (sl_eq (P := fun _ _ => True) La La.length Exy.out rfl (setEither_any A_x Lx.length c_x Lx A_y Ly.length c_y Ly _ rfl Nx.out Sx.out rfl Ny.out Sy.out)).mono ?_
  rintro e w7 ⟨A_p, c_p, rfl, hat, bel⟩
  replace HB := Lib.hid (HB.out.trans (bel.mono HB.out.size))
  replace Sa := Lib.hid (Sa.out.later bel (Nat.le_refl _))
  replace Sb := Lib.hid (Sb.out.later bel (Nat.le_refl _))
  replace Sx := Lib.hid (Sx.out.later bel (Nat.le_refl _))
  replace Sy := Lib.hid (Sy.out.later bel (Nat.le_refl _))
  replace Sz := Lib.hid (Sz.out.later bel (Nat.le_refl _))
  replace Su := Lib.hid (Su.out.later bel (Nat.le_refl _))
  replace HG := Lib.hid (HG.out.later bel (Nat.le_refl _))
  have Sp := Lib.hid hat
  clear hat
  have Np := Na
  clear bel
  go_wp2_with fail
  refine (sl_eq (P := fun _ _ => True) Lu Lu.length Exyz.out rfl (setEither_any A_p La.length c_p La A_z Lz.length c_z Lz _ rfl Np.out Sp.out rfl Nz.out Sz.out)).mono ?_
  rintro e w8 ⟨A_q, c_q, rfl, hat, bel⟩
  replace HB := Lib.hid (HB.out.trans (bel.mono HB.out.size))
  replace Sa := Lib.hid (Sa.out.later bel (Nat.le_refl _))
  replace Sb := Lib.hid (Sb.out.later bel (Nat.le_refl _))
  replace Sx := Lib.hid (Sx.out.later bel (Nat.le_refl _))
  replace Sy := Lib.hid (Sy.out.later bel (Nat.le_refl _))
  replace Sz := Lib.hid (Sz.out.later bel (Nat.le_refl _))
  replace Su := Lib.hid (Su.out.later bel (Nat.le_refl _))
  replace Sp := Lib.hid (Sp.out.later bel (Nat.le_refl _))
  replace HG := Lib.hid (HG.out.later bel (Nat.le_refl _))
  have Sq := Lib.hid hat
  clear hat
  have Nq := Nu
  clear bel
  go_wp2_with fail
  refine (valB_eq (.bool true) (by simp) (ints15_any A_q Lu.length c_q Lu A_u Lu.length c_u Lu _ rfl Nq.out Sq.out rfl Nu.out Su.out)).mono ?_
  rintro e w9 ⟨rfl, bel⟩
  replace HB := Lib.hid (HB.out.trans (bel.mono HB.out.size))
  replace Sa := Lib.hid (Sa.out.later bel (Nat.le_refl _))
  replace Sb := Lib.hid (Sb.out.later bel (Nat.le_refl _))
  replace Sx := Lib.hid (Sx.out.later bel (Nat.le_refl _))
  replace Sy := Lib.hid (Sy.out.later bel (Nat.le_refl _))
  replace Sz := Lib.hid (Sz.out.later bel (Nat.le_refl _))
  replace Su := Lib.hid (Su.out.later bel (Nat.le_refl _))
  replace Sp := Lib.hid (Sp.out.later bel (Nat.le_refl _))
  replace Sq := Lib.hid (Sq.out.later bel (Nat.le_refl _))
  replace HG := Lib.hid (HG.out.later bel (Nat.le_refl _))
  clear bel
  clear Sp Np
  clear Sq Nq
  go_wp2_with fail
  refine (sl_eq (P := fun _ _ => True) La La.length Exy.out rfl (setEither_any A_x Lx.length c_x Lx A_y Ly.length c_y Ly _ rfl Nx.out Sx.out rfl Ny.out Sy.out)).mono ?_
  rintro e w10 ⟨A_p, c_p, rfl, hat, bel⟩
  replace HB := Lib.hid (HB.out.trans (bel.mono HB.out.size))
  replace Sa := Lib.hid (Sa.out.later bel (Nat.le_refl _))
  replace Sb := Lib.hid (Sb.out.later bel (Nat.le_refl _))
  replace Sx := Lib.hid (Sx.out.later bel (Nat.le_refl _))
  replace Sy := Lib.hid (Sy.out.later bel (Nat.le_refl _))
  replace Sz := Lib.hid (Sz.out.later bel (Nat.le_refl _))
  replace Su := Lib.hid (Su.out.later bel (Nat.le_refl _))
  replace HG := Lib.hid (HG.out.later bel (Nat.le_refl _))
  have Sp := Lib.hid hat
  clear hat
  have Np := Na
  clear bel
  go_wp2_with fail
  refine (valB_eq (.bool true) (by simp) (ints15_any A_p La.length c_p La A_a La.length c_a La _ rfl Np.out Sp.out rfl Na.out Sa.out)).mono ?_
  rintro e w11 ⟨rfl, bel⟩
  replace HB := Lib.hid (HB.out.trans (bel.mono HB.out.size))
  replace Sa := Lib.hid (Sa.out.later bel (Nat.le_refl _))
  replace Sb := Lib.hid (Sb.out.later bel (Nat.le_refl _))
  replace Sx := Lib.hid (Sx.out.later bel (Nat.le_refl _))
  replace Sy := Lib.hid (Sy.out.later bel (Nat.le_refl _))
  replace Sz := Lib.hid (Sz.out.later bel (Nat.le_refl _))
  replace Su := Lib.hid (Su.out.later bel (Nat.le_refl _))
  replace Sp := Lib.hid (Sp.out.later bel (Nat.le_refl _))
  replace HG := Lib.hid (HG.out.later bel (Nat.le_refl _))
  clear bel
  clear Sp Np
  go_wp2_with fail
  refine (sl_eq (P := fun _ _ => True) [] 0 Exb.out rfl (setBoth_any A_x Lx.length c_x Lx A_b Lb.length c_b Lb _ rfl Nx.out Sx.out rfl Nb.out Sb.out)).mono ?_
  rintro e w12 ⟨A_p, c_p, rfl, hat, bel⟩
  replace HB := Lib.hid (HB.out.trans (bel.mono HB.out.size))
  replace Sa := Lib.hid (Sa.out.later bel (Nat.le_refl _))
  replace Sb := Lib.hid (Sb.out.later bel (Nat.le_refl _))
  replace Sx := Lib.hid (Sx.out.later bel (Nat.le_refl _))
  replace Sy := Lib.hid (Sy.out.later bel (Nat.le_refl _))
  replace Sz := Lib.hid (Sz.out.later bel (Nat.le_refl _))
  replace Su := Lib.hid (Su.out.later bel (Nat.le_refl _))
  replace HG := Lib.hid (HG.out.later bel (Nat.le_refl _))
  have Sp := Lib.hid hat
  clear hat
  have Np := Lib.hid (show (0 : Nat) ≤ 9223372036854775807 by decide)
  clear bel
  clear Sp Np
  go_wp2_with fail
  refine (val_eq (.bool true) (by rw [Ku.out]) (setHas_any A_u Lu.length c_u Lu ((n % 64 : Nat) : Int) _ rfl Nu.out Su.out)).mono ?_
  rintro e w' ⟨rfl, rfl⟩
  go_wp2_with fail
  refine (val_eq (.bool true) (by rw [Ka.out]) (setHas_any A_a La.length c_a La ((n % 64 : Nat) : Int) _ rfl Na.out Sa.out)).mono ?_
  rintro e w' ⟨rfl, rfl⟩
  go_wp2_with fail
  refine (val_eq (.bool true) (by rw [Ky.out]) (setHas_any A_y Ly.length c_y Ly ((n % 64 : Nat) : Int) _ rfl Ny.out Sy.out)).mono ?_
  rintro e w' ⟨rfl, rfl⟩
  go_wp2_with fail
  refine (val_eq (.bool true) (by rw [Ka.out]) (setHas_any A_a La.length c_a La ((n % 64 : Nat) : Int) _ rfl Na.out Sa.out)).mono ?_
  rintro e w' ⟨rfl, rfl⟩
  go_wp2_with fail
  refine (val_eq (.bool true) (by rw [Kb.out]) (setHas_any A_b Lb.length c_b Lb ((n % 64 : Nat) : Int) _ rfl Nb.out Sb.out)).mono ?_
  rintro e w' ⟨rfl, rfl⟩
  go_wp2_with fail
  refine (sl_eq (P := fun _ _ => True) Lx Lx.length Eub.out rfl (setLess_any A_u Lu.length c_u Lu A_b Lb.length c_b Lb _ rfl Nu.out Su.out rfl Nb.out Sb.out)).mono ?_
  rintro e w13 ⟨A_p, c_p, rfl, hat, bel⟩
  replace HB := Lib.hid (HB.out.trans (bel.mono HB.out.size))
  replace Sa := Lib.hid (Sa.out.later bel (Nat.le_refl _))
  replace Sb := Lib.hid (Sb.out.later bel (Nat.le_refl _))
  replace Sx := Lib.hid (Sx.out.later bel (Nat.le_refl _))
  replace Sy := Lib.hid (Sy.out.later bel (Nat.le_refl _))
  replace Sz := Lib.hid (Sz.out.later bel (Nat.le_refl _))
  replace Su := Lib.hid (Su.out.later bel (Nat.le_refl _))
  replace HG := Lib.hid (HG.out.later bel (Nat.le_refl _))
  have Sp := Lib.hid hat
  clear hat
  have Np := Nx
  clear bel
  go_wp2_with fail
  refine (valB_eq (.bool true) (by simp) (ints15_any A_p Lx.length c_p Lx A_x Lx.length c_x Lx _ rfl Np.out Sp.out rfl Nx.out Sx.out)).mono ?_
  rintro e w14 ⟨rfl, bel⟩
  replace HB := Lib.hid (HB.out.trans (bel.mono HB.out.size))
  replace Sa := Lib.hid (Sa.out.later bel (Nat.le_refl _))
  replace Sb := Lib.hid (Sb.out.later bel (Nat.le_refl _))
  replace Sx := Lib.hid (Sx.out.later bel (Nat.le_refl _))
  replace Sy := Lib.hid (Sy.out.later bel (Nat.le_refl _))
  replace Sz := Lib.hid (Sz.out.later bel (Nat.le_refl _))
  replace Su := Lib.hid (Su.out.later bel (Nat.le_refl _))
  replace Sp := Lib.hid (Sp.out.later bel (Nat.le_refl _))
  replace HG := Lib.hid (HG.out.later bel (Nat.le_refl _))
  clear bel
  clear Sp Np
  go_wp2_with fail
  refine (sure15 _ HG.out).mono ?_
  rintro e w15 ⟨rfl, bel⟩
  replace HB := Lib.hid (HB.out.trans (bel.mono HB.out.size))
  replace Sa := Lib.hid (Sa.out.later bel (Nat.le_refl _))
  replace Sb := Lib.hid (Sb.out.later bel (Nat.le_refl _))
  replace Sx := Lib.hid (Sx.out.later bel (Nat.le_refl _))
  replace Sy := Lib.hid (Sy.out.later bel (Nat.le_refl _))
  replace Sz := Lib.hid (Sz.out.later bel (Nat.le_refl _))
  replace Su := Lib.hid (Su.out.later bel (Nat.le_refl _))
  replace HG := Lib.hid (HG.out.later bel (Nat.le_refl _))
  clear bel
  go_wp2_with fail
  go_ret
  exact ⟨rfl, HB.out⟩
set_option maxRecDepth 100000 in
set_option maxHeartbeats 4000000 in
theorem parts_10 (v w0 n : Nat) (w : World) (hv : v < 18446744073709551616) (hw : w0 < 18446744073709551616) (hn : n < 256) (hg : Glob w) (hp : v.testBit (n % 64) = true) (hq : w0.testBit (n % 64) = false) :
    Calls Tryd.prog 5 #[.int .u64 v, .int .u64 w0, .int .u8 n] w fun e w' => e = .returned (.bool true) ∧ Below w.heap.size w w' := by
  have HG := Lib.hid hg
  have hk : n % 64 < 64 := Nat.mod_lt _ (by decide)
  obtain ⟨La, hLa⟩ : ∃ L, SetM.elems (v) = L := ⟨_, rfl⟩
  have hba : SetM.bitsOf La = v := by rw [← hLa, SetM.bitsOf_elems hv]
  have HBa := Lib.hid hba
  have HLa := Lib.hid hLa
  have Na := Lib.hid (hLa ▸ elems_len _ : La.length ≤ 9223372036854775807)
  obtain ⟨Lb, hLb⟩ : ∃ L, SetM.elems (w0) = L := ⟨_, rfl⟩
  have hbb : SetM.bitsOf Lb = w0 := by rw [← hLb, SetM.bitsOf_elems hw]
  have HBb := Lib.hid hbb
  have HLb := Lib.hid hLb
  have Nb := Lib.hid (hLb ▸ elems_len _ : Lb.length ≤ 9223372036854775807)
  obtain ⟨Lx, hLx⟩ : ∃ L, SetM.elems (SetM.op 2 v w0) = L := ⟨_, rfl⟩
  have hbx : SetM.bitsOf Lx = SetM.op 2 v w0 := by rw [← hLx, SetM.bitsOf_elems (SetM.op_lt 2 hv hw)]
  have HBx := Lib.hid hbx
  have HLx := Lib.hid hLx
  have Nx := Lib.hid (hLx ▸ elems_len _ : Lx.length ≤ 9223372036854775807)
  obtain ⟨Ly, hLy⟩ : ∃ L, SetM.elems (SetM.op 1 v w0) = L := ⟨_, rfl⟩
  have hby : SetM.bitsOf Ly = SetM.op 1 v w0 := by rw [← hLy, SetM.bitsOf_elems (SetM.op_lt 1 hv hw)]
  have HBy := Lib.hid hby
  have HLy := Lib.hid hLy
  have Ny := Lib.hid (hLy ▸ elems_len _ : Ly.length ≤ 9223372036854775807)
  obtain ⟨Lz, hLz⟩ : ∃ L, SetM.elems (SetM.op 2 w0 v) = L := ⟨_, rfl⟩
  have hbz : SetM.bitsOf Lz = SetM.op 2 w0 v := by rw [← hLz, SetM.bitsOf_elems (SetM.op_lt 2 hw hv)]
  have HBz := Lib.hid hbz
  have HLz := Lib.hid hLz
  have Nz := Lib.hid (hLz ▸ elems_len _ : Lz.length ≤ 9223372036854775807)
  obtain ⟨Lu, hLu⟩ : ∃ L, SetM.elems (SetM.op 0 v w0) = L := ⟨_, rfl⟩
  have hbu : SetM.bitsOf Lu = SetM.op 0 v w0 := by rw [← hLu, SetM.bitsOf_elems (SetM.op_lt 0 hv hw)]
  have HBu := Lib.hid hbu
  have HLu := Lib.hid hLu
  have Nu := Lib.hid (hLu ▸ elems_len _ : Lu.length ≤ 9223372036854775807)
  have Ex := Lib.hid (show SetM.elems (SetM.op 2 (SetM.bitsOf La) (SetM.bitsOf Lb)) = Lx by rw [hba, hbb, hLx])
  have Ey := Lib.hid (show SetM.elems (SetM.op 1 (SetM.bitsOf La) (SetM.bitsOf Lb)) = Ly by rw [hba, hbb, hLy])
  have Ez := Lib.hid (show SetM.elems (SetM.op 2 (SetM.bitsOf Lb) (SetM.bitsOf La)) = Lz by rw [hbb, hba, hLz])
  have Eu := Lib.hid (show SetM.elems (SetM.op 0 (SetM.bitsOf La) (SetM.bitsOf Lb)) = Lu by rw [hba, hbb, hLu])
  have Exy := Lib.hid (show SetM.elems (SetM.op 0 (SetM.bitsOf Lx) (SetM.bitsOf Ly)) = La by rw [hbx, hby, SetM.parts2 hv hw, hLa])
  have Exyz := Lib.hid (show SetM.elems (SetM.op 0 (SetM.bitsOf La) (SetM.bitsOf Lz)) = Lu by
    have h := SetM.parts1 hv hw
    rw [SetM.parts2 hv hw] at h
    rw [hba, hbz, h, hLu])
  have Exb := Lib.hid (show SetM.elems (SetM.op 1 (SetM.bitsOf Lx) (SetM.bitsOf Lb)) = [] by rw [hbx, hbb, SetM.parts3 hv hw, SetM.elems_zero])
  have Eub := Lib.hid (show SetM.elems (SetM.op 2 (SetM.bitsOf Lu) (SetM.bitsOf Lb)) = Lx by rw [hbu, hbb, SetM.parts4 hv hw, hLx])
  have hlen : Lx.length + Ly.length + Lz.length = Lu.length := by rw [← hLx, ← hLy, ← hLz, ← hLu]; exact SetM.parts5 hv hw
  have Ma := Lib.hid (show SetM.may La = true by rw [← hLa]; exact SetM.may_elems _)
  have Mu := Lib.hid (show SetM.may Lu = true by rw [← hLu]; exact SetM.may_elems _)
  have hx64 : Lx.length ≤ 64 := by rw [← hLx]; exact SetM.elemsTo_length _ 64
  have hy64 : Ly.length ≤ 64 := by rw [← hLy]; exact SetM.elemsTo_length _ 64
  have hz64 : Lz.length ≤ 64 := by rw [← hLz]; exact SetM.elemsTo_length _ 64
  have hl1 : Lx.length + Ly.length + Lz.length ≤ Lu.length := by omega
  have hl2 : Lu.length ≤ Lx.length + Ly.length + Lz.length := by omega
  have Ku := Lib.hid (show SetM.has Lu ((n % 64 : Nat) : Int) = true by rw [← hLu, SetM.has_elems (SetM.op_lt 0 hv hw) _ hk, SetM.op_testBit 0 hv hw, hp, hq]; rfl)
  have Ka := Lib.hid (show SetM.has La ((n % 64 : Nat) : Int) = true by rw [← hLa, SetM.has_elems hv _ hk, hp])
  have Kb := Lib.hid (show SetM.has Lb ((n % 64 : Nat) : Int) = false by rw [← hLb, SetM.has_elems hw _ hk, hq])
  have Ky := Lib.hid (show SetM.has Ly ((n % 64 : Nat) : Int) = false by rw [← hLy, SetM.has_elems (SetM.op_lt 1 hv hw) _ hk, SetM.op_testBit 1 hv hw, hp, hq]; rfl)
  have Fa := Lib.hid (fun W => setFrom_any v W hv)
  have Fb := Lib.hid (fun W => setFrom_any w0 W hw)
  have HVV := Lib.hid hba
  clear hp hq hg hlen hv hw hba hbb hbx hby hbz hbu hLa hLb hLx hLy hLz hLu
  go_enter Tryd.func5, Tryd.ntmps5
  have HB := Lib.hid (Below.refl w.heap.size w)
  go_wp2_with fail
  refine (sl_eq (P := fun _ _ => True) La La.length HLa.out rfl (Fa.out _)).mono ?_
  rintro e w1 ⟨A_a, c_a, rfl, hat, bel⟩
  replace HB := Lib.hid (HB.out.trans (bel.mono HB.out.size))
  replace HG := Lib.hid (HG.out.later bel (Nat.le_refl _))
  have Sa := Lib.hid hat
  clear hat
  clear bel
  go_wp2_with fail
  refine (sl_eq (P := fun _ _ => True) Lb Lb.length HLb.out rfl (Fb.out _)).mono ?_
  rintro e w2 ⟨A_b, c_b, rfl, hat, bel⟩
  replace HB := Lib.hid (HB.out.trans (bel.mono HB.out.size))
  replace Sa := Lib.hid (Sa.out.later bel (Nat.le_refl _))
  replace HG := Lib.hid (HG.out.later bel (Nat.le_refl _))
  have Sb := Lib.hid hat
  clear hat
  clear bel
  go_wp2_with fail
  refine (sl_eq (P := fun _ _ => True) Lx Lx.length Ex.out rfl (setLess_any A_a La.length c_a La A_b Lb.length c_b Lb _ rfl Na.out Sa.out rfl Nb.out Sb.out)).mono ?_
  rintro e w3 ⟨A_x, c_x, rfl, hat, bel⟩
  replace HB := Lib.hid (HB.out.trans (bel.mono HB.out.size))
  replace Sa := Lib.hid (Sa.out.later bel (Nat.le_refl _))
  replace Sb := Lib.hid (Sb.out.later bel (Nat.le_refl _))
  replace HG := Lib.hid (HG.out.later bel (Nat.le_refl _))
  have Sx := Lib.hid hat
  clear hat
  clear bel
  go_wp2_with fail
  refine (sl_eq (P := fun _ _ => True) Ly Ly.length Ey.out rfl (setBoth_any A_a La.length c_a La A_b Lb.length c_b Lb _ rfl Na.out Sa.out rfl Nb.out Sb.out)).mono ?_
  rintro e w4 ⟨A_y, c_y, rfl, hat, bel⟩
  replace HB := Lib.hid (HB.out.trans (bel.mono HB.out.size))
  replace Sa := Lib.hid (Sa.out.later bel (Nat.le_refl _))
  replace Sb := Lib.hid (Sb.out.later bel (Nat.le_refl _))
  replace Sx := Lib.hid (Sx.out.later bel (Nat.le_refl _))
  replace HG := Lib.hid (HG.out.later bel (Nat.le_refl _))
  have Sy := Lib.hid hat
  clear hat
  clear bel
  go_wp2_with fail
  refine (sl_eq (P := fun _ _ => True) Lz Lz.length Ez.out rfl (setLess_any A_b Lb.length c_b Lb A_a La.length c_a La _ rfl Nb.out Sb.out rfl Na.out Sa.out)).mono ?_
  rintro e w5 ⟨A_z, c_z, rfl, hat, bel⟩
  replace HB := Lib.hid (HB.out.trans (bel.mono HB.out.size))
  replace Sa := Lib.hid (Sa.out.later bel (Nat.le_refl _))
  replace Sb := Lib.hid (Sb.out.later bel (Nat.le_refl _))
  replace Sx := Lib.hid (Sx.out.later bel (Nat.le_refl _))
  replace Sy := Lib.hid (Sy.out.later bel (Nat.le_refl _))
  replace HG := Lib.hid (HG.out.later bel (Nat.le_refl _))
  have Sz := Lib.hid hat
  clear hat
  clear bel
  go_wp2_with fail
  refine (sl_eq (P := fun _ _ => True) Lu Lu.length Eu.out rfl (setEither_any A_a La.length c_a La A_b Lb.length c_b Lb _ rfl Na.out Sa.out rfl Nb.out Sb.out)).mono ?_
  rintro e w6 ⟨A_u, c_u, rfl, hat, bel⟩
  replace HB := Lib.hid (HB.out.trans (bel.mono HB.out.size))
  replace Sa := Lib.hid (Sa.out.later bel (Nat.le_refl _))
  replace Sb := Lib.hid (Sb.out.later bel (Nat.le_refl _))
  replace Sx := Lib.hid (Sx.out.later bel (Nat.le_refl _))
  replace Sy := Lib.hid (Sy.out.later bel (Nat.le_refl _))
  replace Sz := Lib.hid (Sz.out.later bel (Nat.le_refl _))
  replace HG := Lib.hid (HG.out.later bel (Nat.le_refl _))
  have Su := Lib.hid hat
  clear hat
  clear bel
  go_wp2_with fail
  refine (val_eq .nilIface (by rw [Ma.out]; rfl) (setCheck_any A_a La.length c_a La _ rfl Na.out Sa.out)).mono ?_
  rintro e w' ⟨rfl, rfl⟩
  go_wp2_with fail
  refine (val_eq .nilIface (by rw [Mu.out]; rfl) (setCheck_any A_u Lu.length c_u Lu _ rfl Nu.out Su.out)).mono ?_
  rintro e w' ⟨rfl, rfl⟩
  go_wp2_with fail
  refine (val_eq (.int .u64 (v : Nat)) (by rw [HVV.out]) (setBits_any A_a La.length c_a La _ rfl Na.out Sa.out)).mono ?_
  rintro e w' ⟨rfl, rfl⟩
  go_wp2_with fail
  refine (sl_eq (P := fun _ _ => True) La La.length Exy.out rfl (setEither_any A_x Lx.length c_x Lx A_y Ly.length c_y Ly _ rfl Nx.out Sx.out rfl Ny.out Sy.out)).mono ?_
  rintro e w7 ⟨A_p, c_p, rfl, hat, bel⟩
  replace HB := Lib.hid (HB.out.trans (bel.mono HB.out.size))
  replace Sa := Lib.hid (Sa.out.later bel (Nat.le_refl _))
  replace Sb := Lib.hid (Sb.out.later bel (Nat.le_refl _))
  replace Sx := Lib.hid (Sx.out.later bel (Nat.le_refl _))
  replace Sy := Lib.hid (Sy.out.later bel (Nat.le_refl _))
  replace Sz := Lib.hid (Sz.out.later bel (Nat.le_refl _))
  replace Su := Lib.hid (Su.out.later bel (Nat.le_refl _))
  replace HG := Lib.hid (HG.out.later bel (Nat.le_refl _))
  have Sp := Lib.hid hat
  clear hat
  have Np := Na
  clear bel
  go_wp2_with fail
  refine (sl_eq (P := fun _ _ => True) Lu Lu.length Exyz.out rfl (setEither_any A_p La.length c_p La A_z Lz.length c_z Lz _ rfl Np.out Sp.out rfl Nz.out Sz.out)).mono ?_
  rintro e w8 ⟨A_q, c_q, rfl, hat, bel⟩
  replace HB := Lib.hid (HB.out.trans (bel.mono HB.out.size))
  replace Sa := Lib.hid (Sa.out.later bel (Nat.le_refl _))
  replace Sb := Lib.hid (Sb.out.later bel (Nat.le_refl _))
  replace Sx := Lib.hid (Sx.out.later bel (Nat.le_refl _))
  replace Sy := Lib.hid (Sy.out.later bel (Nat.le_refl _))
  replace Sz := Lib.hid (Sz.out.later bel (Nat.le_refl _))
  replace Su := Lib.hid (Su.out.later bel (Nat.le_refl _))
  replace Sp := Lib.hid (Sp.out.later bel (Nat.le_refl _))
  replace HG := Lib.hid (HG.out.later bel (Nat.le_refl _))
  have Sq := Lib.hid hat
  clear hat
  have Nq := Nu
  clear bel
  go_wp2_with fail
  refine (valB_eq (.bool true) (by simp) (ints15_any A_q Lu.length c_q Lu A_u Lu.length c_u Lu _ rfl Nq.out Sq.out rfl Nu.out Su.out)).mono ?_
  rintro e w9 ⟨rfl, bel⟩
  replace HB := Lib.hid (HB.out.trans (bel.mono HB.out.size))
  replace Sa := Lib.hid (Sa.out.later bel (Nat.le_refl _))
  replace Sb := Lib.hid (Sb.out.later bel (Nat.le_refl _))
  replace Sx := Lib.hid (Sx.out.later bel (Nat.le_refl _))
  replace Sy := Lib.hid (Sy.out.later bel (Nat.le_refl _))
  replace Sz := Lib.hid (Sz.out.later bel (Nat.le_refl _))
  replace Su := Lib.hid (Su.out.later bel (Nat.le_refl _))
  replace Sp := Lib.hid (Sp.out.later bel (Nat.le_refl _))
  replace Sq := Lib.hid (Sq.out.later bel (Nat.le_refl _))
  replace HG := Lib.hid (HG.out.later bel (Nat.le_refl _))
  clear bel
  clear Sp Np
  clear Sq Nq
  go_wp2_with fail
  refine (sl_eq (P := fun _ _ => True) La La.length Exy.out rfl (setEither_any A_x Lx.length c_x Lx A_y Ly.length c_y Ly _ rfl Nx.out Sx.out rfl Ny.out Sy.out)).mono ?_
  rintro e w10 ⟨A_p, c_p, rfl, hat, bel⟩
  replace HB := Lib.hid (HB.out.trans (bel.mono HB.out.size))
  replace Sa := Lib.hid (Sa.out.later bel (Nat.le_refl _))
  replace Sb := Lib.hid (Sb.out.later bel (Nat.le_refl _))
  replace Sx := Lib.hid (Sx.out.later bel (Nat.le_refl _))
  replace Sy := Lib.hid (Sy.out.later bel (Nat.le_refl _))
  replace Sz := Lib.hid (Sz.out.later bel (Nat.le_refl _))
  replace Su := Lib.hid (Su.out.later bel (Nat.le_refl _))
  replace HG := Lib.hid (HG.out.later bel (Nat.le_refl _))
  have Sp := Lib.hid hat
  clear hat
  have Np := Na
  clear bel
  go_wp2_with fail
  refine (valB_eq (.bool true) (by simp) (ints15_any A_p La.length c_p La A_a La.length c_a La _ rfl Np.out Sp.out rfl Na.out Sa.out)).mono ?_
  rintro e w11 ⟨rfl, bel⟩
  replace HB := Lib.hid (HB.out.trans (bel.mono HB.out.size))
  replace Sa := Lib.hid (Sa.out.later bel (Nat.le_refl _))
  replace Sb := Lib.hid (Sb.out.later bel (Nat.le_refl _))
  replace Sx := Lib.hid (Sx.out.later bel (Nat.le_refl _))
  replace Sy := Lib.hid (Sy.out.later bel (Nat.le_refl _))
  replace Sz := Lib.hid (Sz.out.later bel (Nat.le_refl _))
  replace Su := Lib.hid (Su.out.later bel (Nat.le_refl _))
  replace Sp := Lib.hid (Sp.out.later bel (Nat.le_refl _))
  replace HG := Lib.hid (HG.out.later bel (Nat.le_refl _))
  clear bel
  clear Sp Np
  go_wp2_with fail
  refine (sl_eq (P := fun _ _ => True) [] 0 Exb.out rfl (setBoth_any A_x Lx.length c_x Lx A_b Lb.length c_b Lb _ rfl Nx.out Sx.out rfl Nb.out Sb.out)).mono ?_
  rintro e w12 ⟨A_p, c_p, rfl, hat, bel⟩
  replace HB := Lib.hid (HB.out.trans (bel.mono HB.out.size))
  replace Sa := Lib.hid (Sa.out.later bel (Nat.le_refl _))
  replace Sb := Lib.hid (Sb.out.later bel (Nat.le_refl _))
  replace Sx := Lib.hid (Sx.out.later bel (Nat.le_refl _))
  replace Sy := Lib.hid (Sy.out.later bel (Nat.le_refl _))
  replace Sz := Lib.hid (Sz.out.later bel (Nat.le_refl _))
  replace Su := Lib.hid (Su.out.later bel (Nat.le_refl _))
  replace HG := Lib.hid (HG.out.later bel (Nat.le_refl _))
  have Sp := Lib.hid hat
  clear hat
  have Np := Lib.hid (show (0 : Nat) ≤ 9223372036854775807 by decide)
  clear bel
  clear Sp Np
  go_wp2_with fail
  refine (val_eq (.bool true) (by rw [Ku.out]) (setHas_any A_u Lu.length c_u Lu ((n % 64 : Nat) : Int) _ rfl Nu.out Su.out)).mono ?_
  rintro e w' ⟨rfl, rfl⟩
  go_wp2_with fail
  refine (val_eq (.bool true) (by rw [Ka.out]) (setHas_any A_a La.length c_a La ((n % 64 : Nat) : Int) _ rfl Na.out Sa.out)).mono ?_
  rintro e w' ⟨rfl, rfl⟩
  go_wp2_with fail
  refine (val_eq (.bool false) (by rw [Ky.out]) (setHas_any A_y Ly.length c_y Ly ((n % 64 : Nat) : Int) _ rfl Ny.out Sy.out)).mono ?_
  rintro e w' ⟨rfl, rfl⟩
  go_wp2_with fail
  refine (val_eq (.bool true) (by rw [Ka.out]) (setHas_any A_a La.length c_a La ((n % 64 : Nat) : Int) _ rfl Na.out Sa.out)).mono ?_
  rintro e w' ⟨rfl, rfl⟩
  go_wp2_with fail
  refine (val_eq (.bool false) (by rw [Kb.out]) (setHas_any A_b Lb.length c_b Lb ((n % 64 : Nat) : Int) _ rfl Nb.out Sb.out)).mono ?_
  rintro e w' ⟨rfl, rfl⟩
  go_wp2_with fail
  refine (sl_eq (P := fun _ _ => True) Lx Lx.length Eub.out rfl (setLess_any A_u Lu.length c_u Lu A_b Lb.length c_b Lb _ rfl Nu.out Su.out rfl Nb.out Sb.out)).mono ?_
  rintro e w13 ⟨A_p, c_p, rfl, hat, bel⟩
  replace HB := Lib.hid (HB.out.trans (bel.mono HB.out.size))
  replace Sa := Lib.hid (Sa.out.later bel (Nat.le_refl _))
  replace Sb := Lib.hid (Sb.out.later bel (Nat.le_refl _))
  replace Sx := Lib.hid (Sx.out.later bel (Nat.le_refl _))
  replace Sy := Lib.hid (Sy.out.later bel (Nat.le_refl _))
  replace Sz := Lib.hid (Sz.out.later bel (Nat.le_refl _))
  replace Su := Lib.hid (Su.out.later bel (Nat.le_refl _))
  replace HG := Lib.hid (HG.out.later bel (Nat.le_refl _))
  have Sp := Lib.hid hat
  clear hat
  have Np := Nx
  clear bel
  go_wp2_with fail
  refine (valB_eq (.bool true) (by simp) (ints15_any A_p Lx.length c_p Lx A_x Lx.length c_x Lx _ rfl Np.out Sp.out rfl Nx.out Sx.out)).mono ?_
  rintro e w14 ⟨rfl, bel⟩
  replace HB := Lib.hid (HB.out.trans (bel.mono HB.out.size))
  replace Sa := Lib.hid (Sa.out.later bel (Nat.le_refl _))
  replace Sb := Lib.hid (Sb.out.later bel (Nat.le_refl _))
  replace Sx := Lib.hid (Sx.out.later bel (Nat.le_refl _))
  replace Sy := Lib.hid (Sy.out.later bel (Nat.le_refl _))
  replace Sz := Lib.hid (Sz.out.later bel (Nat.le_refl _))
  replace Su := Lib.hid (Su.out.later bel (Nat.le_refl _))
  replace Sp := Lib.hid (Sp.out.later bel (Nat.le_refl _))
  replace HG := Lib.hid (HG.out.later bel (Nat.le_refl _))
  clear bel
  clear Sp Np
  go_wp2_with fail
  refine (sure15 _ HG.out).mono ?_
  rintro e w15 ⟨rfl, bel⟩
  replace HB := Lib.hid (HB.out.trans (bel.mono HB.out.size))
  replace Sa := Lib.hid (Sa.out.later bel (Nat.le_refl _))
  replace Sb := Lib.hid (Sb.out.later bel (Nat.le_refl _))
  replace Sx := Lib.hid (Sx.out.later bel (Nat.le_refl _))
  replace Sy := Lib.hid (Sy.out.later bel (Nat.le_refl _))
  replace Sz := Lib.hid (Sz.out.later bel (Nat.le_refl _))
  replace Su := Lib.hid (Su.out.later bel (Nat.le_refl _))
  replace HG := Lib.hid (HG.out.later bel (Nat.le_refl _))
  clear bel
  go_wp2_with fail
  go_ret
  exact ⟨rfl, HB.out⟩
set_option maxRecDepth 100000 in
set_option maxHeartbeats 4000000 in
theorem parts_01 (v w0 n : Nat) (w : World) (hv : v < 18446744073709551616) (hw : w0 < 18446744073709551616) (hn : n < 256) (hg : Glob w) (hp : v.testBit (n % 64) = false) (hq : w0.testBit (n % 64) = true) :
    Calls Tryd.prog 5 #[.int .u64 v, .int .u64 w0, .int .u8 n] w fun e w' => e = .returned (.bool true) ∧ Below w.heap.size w w' := by
  have HG := Lib.hid hg
  have hk : n % 64 < 64 := Nat.mod_lt _ (by decide)
  obtain ⟨La, hLa⟩ : ∃ L, SetM.elems (v) = L := ⟨_, rfl⟩
  have hba : SetM.bitsOf La = v := by rw [← hLa, SetM.bitsOf_elems hv]
  have HBa := Lib.hid hba
  have HLa := Lib.hid hLa
  have Na := Lib.hid (hLa ▸ elems_len _ : La.length ≤ 9223372036854775807)
  obtain ⟨Lb, hLb⟩ : ∃ L, SetM.elems (w0) = L := ⟨_, rfl⟩
  have hbb : SetM.bitsOf Lb = w0 := by rw [← hLb, SetM.bitsOf_elems hw]
  have HBb := Lib.hid hbb
  have HLb := Lib.hid hLb
  have Nb := Lib.hid (hLb ▸ elems_len _ : Lb.length ≤ 9223372036854775807)
  obtain ⟨Lx, hLx⟩ : ∃ L, SetM.elems (SetM.op 2 v w0) = L := ⟨_, rfl⟩
  have hbx : SetM.bitsOf Lx = SetM.op 2 v w0 := by rw [← hLx, SetM.bitsOf_elems (SetM.op_lt 2 hv hw)]
  have HBx := Lib.hid hbx
  have HLx := Lib.hid hLx
  have Nx := Lib.hid (hLx ▸ elems_len _ : Lx.length ≤ 9223372036854775807)
  obtain ⟨Ly, hLy⟩ : ∃ L, SetM.elems (SetM.op 1 v w0) = L := ⟨_, rfl⟩
  have hby : SetM.bitsOf Ly = SetM.op 1 v w0 := by rw [← hLy, SetM.bitsOf_elems (SetM.op_lt 1 hv hw)]
  have HBy := Lib.hid hby
  have HLy := Lib.hid hLy
  have Ny := Lib.hid (hLy ▸ elems_len _ : Ly.length ≤ 9223372036854775807)
  obtain ⟨Lz, hLz⟩ : ∃ L, SetM.elems (SetM.op 2 w0 v) = L := ⟨_, rfl⟩
  have hbz : SetM.bitsOf Lz = SetM.op 2 w0 v := by rw [← hLz, SetM.bitsOf_elems (SetM.op_lt 2 hw hv)]
  have HBz := Lib.hid hbz
  have HLz := Lib.hid hLz
  have Nz := Lib.hid (hLz ▸ elems_len _ : Lz.length ≤ 9223372036854775807)
  obtain ⟨Lu, hLu⟩ : ∃ L, SetM.elems (SetM.op 0 v w0) = L := ⟨_, rfl⟩
  have hbu : SetM.bitsOf Lu = SetM.op 0 v w0 := by rw [← hLu, SetM.bitsOf_elems (SetM.op_lt 0 hv hw)]
  have HBu := Lib.hid hbu
  have HLu := Lib.hid hLu
  have Nu := Lib.hid (hLu ▸ elems_len _ : Lu.length ≤ 9223372036854775807)
  have Ex := Lib.hid (show SetM.elems (SetM.op 2 (SetM.bitsOf La) (SetM.bitsOf Lb)) = Lx by rw [hba, hbb, hLx])
  have Ey := Lib.hid (show SetM.elems (SetM.op 1 (SetM.bitsOf La) (SetM.bitsOf Lb)) = Ly by rw [hba, hbb, hLy])
  have Ez := Lib.hid (show SetM.elems (SetM.op 2 (SetM.bitsOf Lb) (SetM.bitsOf La)) = Lz by rw [hbb, hba, hLz])
  have Eu := Lib.hid (show SetM.elems (SetM.op 0 (SetM.bitsOf La) (SetM.bitsOf Lb)) = Lu by rw [hba, hbb, hLu])
  have Exy := Lib.hid (show SetM.elems (SetM.op 0 (SetM.bitsOf Lx) (SetM.bitsOf Ly)) = La by rw [hbx, hby, SetM.parts2 hv hw, hLa])
  have Exyz := Lib.hid (show SetM.elems (SetM.op 0 (SetM.bitsOf La) (SetM.bitsOf Lz)) = Lu by
    have h := SetM.parts1 hv hw
    rw [SetM.parts2 hv hw] at h
    rw [hba, hbz, h, hLu])
  have Exb := Lib.hid (show SetM.elems (SetM.op 1 (SetM.bitsOf Lx) (SetM.bitsOf Lb)) = [] by rw [hbx, hbb, SetM.parts3 hv hw, SetM.elems_zero])
  have Eub := Lib.hid (show SetM.elems (SetM.op 2 (SetM.bitsOf Lu) (SetM.bitsOf Lb)) = Lx by rw [hbu, hbb, SetM.parts4 hv hw, hLx])
  have hlen : Lx.length + Ly.length + Lz.length = Lu.length := by rw [← hLx, ← hLy, ← hLz, ← hLu]; exact SetM.parts5 hv hw
  have Ma := Lib.hid (show SetM.may La = true by rw [← hLa]; exact SetM.may_elems _)
  have Mu := Lib.hid (show SetM.may Lu = true by rw [← hLu]; exact SetM.may_elems _)
  have hx64 : Lx.length ≤ 64 := by rw [← hLx]; exact SetM.elemsTo_length _ 64
  have hy64 : Ly.length ≤ 64 := by rw [← hLy]; exact SetM.elemsTo_length _ 64
  have hz64 : Lz.length ≤ 64 := by rw [← hLz]; exact SetM.elemsTo_length _ 64
  have hl1 : Lx.length + Ly.length + Lz.length ≤ Lu.length := by omega
  have hl2 : Lu.length ≤ Lx.length + Ly.length + Lz.length := by omega
  have Ku := Lib.hid (show SetM.has Lu ((n % 64 : Nat) : Int) = true by rw [← hLu, SetM.has_elems (SetM.op_lt 0 hv hw) _ hk, SetM.op_testBit 0 hv hw, hp, hq]; rfl)
  have Ka := Lib.hid (show SetM.has La ((n % 64 : Nat) : Int) = false by rw [← hLa, SetM.has_elems hv _ hk, hp])
  have Kb := Lib.hid (show SetM.has Lb ((n % 64 : Nat) : Int) = true by rw [← hLb, SetM.has_elems hw _ hk, hq])
  have Ky := Lib.hid (show SetM.has Ly ((n % 64 : Nat) : Int) = false by rw [← hLy, SetM.has_elems (SetM.op_lt 1 hv hw) _ hk, SetM.op_testBit 1 hv hw, hp, hq]; rfl)
  have Fa := Lib.hid (fun W => setFrom_any v W hv)
  have Fb := Lib.hid (fun W => setFrom_any w0 W hw)
  have HVV := Lib.hid hba
  clear hp hq hg hlen hv hw hba hbb hbx hby hbz hbu hLa hLb hLx hLy hLz hLu
  go_enter Tryd.func5, Tryd.ntmps5
  have HB := Lib.hid (Below.refl w.heap.size w)
  go_wp2_with fail
  refine (sl_eq (P := fun _ _ => True) La La.length HLa.out rfl (Fa.out _)).mono ?_
  rintro e w1 ⟨A_a, c_a, rfl, hat, bel⟩
  replace HB := Lib.hid (HB.out.trans (bel.mono HB.out.size))
  replace HG := Lib.hid (HG.out.later bel (Nat.le_refl _))
  have Sa := Lib.hid hat
  clear hat
  clear bel
  go_wp2_with fail
  refine (sl_eq (P := fun _ _ => True) Lb Lb.length HLb.out rfl (Fb.out _)).mono ?_
  rintro e w2 ⟨A_b, c_b, rfl, hat, bel⟩
  replace HB := Lib.hid (HB.out.trans (bel.mono HB.out.size))
  replace Sa := Lib.hid (Sa.out.later bel (Nat.le_refl _))
  replace HG := Lib.hid (HG.out.later bel (Nat.le_refl _))
  have Sb := Lib.hid hat
  clear hat
  clear bel
  go_wp2_with fail
  refine (sl_eq (P := fun _ _ => True) Lx Lx.length Ex.out rfl (setLess_any A_a La.length c_a La A_b Lb.length c_b Lb _ rfl Na.out Sa.out rfl Nb.out Sb.out)).mono ?_
  rintro e w3 ⟨A_x, c_x, rfl, hat, bel⟩
  replace HB := Lib.hid (HB.out.trans (bel.mono HB.out.size))
  replace Sa := Lib.hid (Sa.out.later bel (Nat.le_refl _))
  replace Sb := Lib.hid (Sb.out.later bel (Nat.le_refl _))
  replace HG := Lib.hid (HG.out.later bel (Nat.le_refl _))
  have Sx := Lib.hid hat
  clear hat
  clear bel
  go_wp2_with fail
  refine (sl_eq (P := fun _ _ => True) Ly Ly.length Ey.out rfl (setBoth_any A_a La.length c_a La A_b Lb.length c_b Lb _ rfl Na.out Sa.out rfl Nb.out Sb.out)).mono ?_
  rintro e w4 ⟨A_y, c_y, rfl, hat, bel⟩
  replace HB := Lib.hid (HB.out.trans (bel.mono HB.out.size))
  replace Sa := Lib.hid (Sa.out.later bel (Nat.le_refl _))
  replace Sb := Lib.hid (Sb.out.later bel (Nat.le_refl _))
  replace Sx := Lib.hid (Sx.out.later bel (Nat.le_refl _))
  replace HG := Lib.hid (HG.out.later bel (Nat.le_refl _))
  have Sy := Lib.hid hat
  clear hat
  clear bel
  go_wp2_with fail
  refine (sl_eq (P := fun _ _ => True) Lz Lz.length Ez.out rfl (setLess_any A_b Lb.length c_b Lb A_a La.length c_a La _ rfl Nb.out Sb.out rfl Na.out Sa.out)).mono ?_
  rintro e w5 ⟨A_z, c_z, rfl, hat, bel⟩
  replace HB := Lib.hid (HB.out.trans (bel.mono HB.out.size))
  replace Sa := Lib.hid (Sa.out.later bel (Nat.le_refl _))
  replace Sb := Lib.hid (Sb.out.later bel (Nat.le_refl _))
  replace Sx := Lib.hid (Sx.out.later bel (Nat.le_refl _))
  replace Sy := Lib.hid (Sy.out.later bel (Nat.le_refl _))
  replace HG := Lib.hid (HG.out.later bel (Nat.le_refl _))
  have Sz := Lib.hid hat
  clear hat
  clear bel
  go_wp2_with fail
  refine (sl_eq (P := fun _ _ => True) Lu Lu.length Eu.out rfl (setEither_any A_a La.length c_a La A_b Lb.length c_b Lb _ rfl Na.out Sa.out rfl Nb.out Sb.out)).mono ?_
  rintro e w6 ⟨A_u, c_u, rfl, hat, bel⟩
  replace HB := Lib.hid (HB.out.trans (bel.mono HB.out.size))
  replace Sa := Lib.hid (Sa.out.later bel (Nat.le_refl _))
  replace Sb := Lib.hid (Sb.out.later bel (Nat.le_refl _))
  replace Sx := Lib.hid (Sx.out.later bel (Nat.le_refl _))
  replace Sy := Lib.hid (Sy.out.later bel (Nat.le_refl _))
  replace Sz := Lib.hid (Sz.out.later bel (Nat.le_refl _))
  replace HG := Lib.hid (HG.out.later bel (Nat.le_refl _))
  have Su := Lib.hid hat
  clear hat
  clear bel
  go_wp2_with fail
  refine (val_eq .nilIface (by rw [Ma.out]; rfl) (setCheck_any A_a La.length c_a La _ rfl Na.out Sa.out)).mono ?_
  rintro e w' ⟨rfl, rfl⟩
  go_wp2_with fail
  refine (val_eq .nilIface (by rw [Mu.out]; rfl) (setCheck_any A_u Lu.length c_u Lu _ rfl Nu.out Su.out)).mono ?_
  rintro e w' ⟨rfl, rfl⟩
  go_wp2_with fail
  refine (val_eq (.int .u64 (v : Nat)) (by rw [HVV.out]) (setBits_any A_a La.length c_a La _ rfl Na.out Sa.out)).mono ?_
  rintro e w' ⟨rfl, rfl⟩
  go_wp2_with fail
  refine (sl_eq (P := fun _ _ => True) La La.length Exy.out rfl (setEither_any A_x Lx.length c_x Lx A_y Ly.length c_y Ly _ rfl Nx.out Sx.out rfl Ny.out Sy.out)).mono ?_
  rintro e w7 ⟨A_p, c_p, rfl, hat, bel⟩
  replace HB := Lib.hid (HB.out.trans (bel.mono HB.out.size))
  replace Sa := Lib.hid (Sa.out.later bel (Nat.le_refl _))
  replace Sb := Lib.hid (Sb.out.later bel (Nat.le_refl _))
  replace Sx := Lib.hid (Sx.out.later bel (Nat.le_refl _))
  replace Sy := Lib.hid (Sy.out.later bel (Nat.le_refl _))
  replace Sz := Lib.hid (Sz.out.later bel (Nat.le_refl _))
  replace Su := Lib.hid (Su.out.later bel (Nat.le_refl _))
  replace HG := Lib.hid (HG.out.later bel (Nat.le_refl _))
  have Sp := Lib.hid hat
  clear hat
  have Np := Na
  clear bel
  go_wp2_with fail
  refine (sl_eq (P := fun _ _ => True) Lu Lu.length Exyz.out rfl (setEither_any A_p La.length c_p La A_z Lz.length c_z Lz _ rfl Np.out Sp.out rfl Nz.out Sz.out)).mono ?_
  rintro e w8 ⟨A_q, c_q, rfl, hat, bel⟩
  replace HB := Lib.hid (HB.out.trans (bel.mono HB.out.size))
  replace Sa := Lib.hid (Sa.out.later bel (Nat.le_refl _))
  replace Sb := Lib.hid (Sb.out.later bel (Nat.le_refl _))
  replace Sx := Lib.hid (Sx.out.later bel (Nat.le_refl _))
  replace Sy := Lib.hid (Sy.out.later bel (Nat.le_refl _))
  replace Sz := Lib.hid (Sz.out.later bel (Nat.le_refl _))
  replace Su := Lib.hid (Su.out.later bel (Nat.le_refl _))
  replace Sp := Lib.hid (Sp.out.later bel (Nat.le_refl _))
  replace HG := Lib.hid (HG.out.later bel (Nat.le_refl _))
  have Sq := Lib.hid hat
  clear hat
  have Nq := Nu
  clear bel
  go_wp2_with fail
  refine (valB_eq (.bool true) (by simp) (ints15_any A_q Lu.length c_q Lu A_u Lu.length c_u Lu _ rfl Nq.out Sq.out rfl Nu.out Su.out)).mono ?_
  rintro e w9 ⟨rfl, bel⟩
  replace HB := Lib.hid (HB.out.trans (bel.mono HB.out.size))
  replace Sa := Lib.hid (Sa.out.later bel (Nat.le_refl _))
  replace Sb := Lib.hid (Sb.out.later bel (Nat.le_refl _))
  replace Sx := Lib.hid (Sx.out.later bel (Nat.le_refl _))
  replace Sy := Lib.hid (Sy.out.later bel (Nat.le_refl _))
  replace Sz := Lib.hid (Sz.out.later bel (Nat.le_refl _))
  replace Su := Lib.hid (Su.out.later bel (Nat.le_refl _))
  replace Sp := Lib.hid (Sp.out.later bel (Nat.le_refl _))
  replace Sq := Lib.hid (Sq.out.later bel (Nat.le_refl _))
  replace HG := Lib.hid (HG.out.later bel (Nat.le_refl _))
  clear bel
  clear Sp Np
  clear Sq Nq
  go_wp2_with fail
  refine (sl_eq (P := fun _ _ => True) La La.length Exy.out rfl (setEither_any A_x Lx.length c_x Lx A_y Ly.length c_y Ly _ rfl Nx.out Sx.out rfl Ny.out Sy.out)).mono ?_
  rintro e w10 ⟨A_p, c_p, rfl, hat, bel⟩
  replace HB := Lib.hid (HB.out.trans (bel.mono HB.out.size))
  replace Sa := Lib.hid (Sa.out.later bel (Nat.le_refl _))
  replace Sb := Lib.hid (Sb.out.later bel (Nat.le_refl _))
  replace Sx := Lib.hid (Sx.out.later bel (Nat.le_refl _))
  replace Sy := Lib.hid (Sy.out.later bel (Nat.le_refl _))
  replace Sz := Lib.hid (Sz.out.later bel (Nat.le_refl _))
  replace Su := Lib.hid (Su.out.later bel (Nat.le_refl _))
  replace HG := Lib.hid (HG.out.later bel (Nat.le_refl _))
  have Sp := Lib.hid hat
  clear hat
  have Np := Na
  clear bel
  go_wp2_with fail
  refine (valB_eq (.bool true) (by simp) (ints15_any A_p La.length c_p La A_a La.length c_a La _ rfl Np.out Sp.out rfl Na.out Sa.out)).mono ?_
  rintro e w11 ⟨rfl, bel⟩
  replace HB := Lib.hid (HB.out.trans (bel.mono HB.out.size))
  replace Sa := Lib.hid (Sa.out.later bel (Nat.le_refl _))
  replace Sb := Lib.hid (Sb.out.later bel (Nat.le_refl _))
  replace Sx := Lib.hid (Sx.out.later bel (Nat.le_refl _))
  replace Sy := Lib.hid (Sy.out.later bel (Nat.le_refl _))
  replace Sz := Lib.hid (Sz.out.later bel (Nat.le_refl _))
  replace Su := Lib.hid (Su.out.later bel (Nat.le_refl _))
  replace Sp := Lib.hid (Sp.out.later bel (Nat.le_refl _))
  replace HG := Lib.hid (HG.out.later bel (Nat.le_refl _))
  clear bel
  clear Sp Np
  go_wp2_with fail
  refine (sl_eq (P := fun _ _ => True) [] 0 Exb.out rfl (setBoth_any A_x Lx.length c_x Lx A_b Lb.length c_b Lb _ rfl Nx.out Sx.out rfl Nb.out Sb.out)).mono ?_
  rintro e w12 ⟨A_p, c_p, rfl, hat, bel⟩
  replace HB := Lib.hid (HB.out.trans (bel.mono HB.out.size))
  replace Sa := Lib.hid (Sa.out.later bel (Nat.le_refl _))
  replace Sb := Lib.hid (Sb.out.later bel (Nat.le_refl _))
  replace Sx := Lib.hid (Sx.out.later bel (Nat.le_refl _))
  replace Sy := Lib.hid (Sy.out.later bel (Nat.le_refl _))
  replace Sz := Lib.hid (Sz.out.later bel (Nat.le_refl _))
  replace Su := Lib.hid (Su.out.later bel (Nat.le_refl _))
  replace HG := Lib.hid (HG.out.later bel (Nat.le_refl _))
  have Sp := Lib.hid hat
  clear hat
  have Np := Lib.hid (show (0 : Nat) ≤ 9223372036854775807 by decide)
  clear bel
  clear Sp Np
  go_wp2_with fail
  refine (val_eq (.bool true) (by rw [Ku.out]) (setHas_any A_u Lu.length c_u Lu ((n % 64 : Nat) : Int) _ rfl Nu.out Su.out)).mono ?_
  rintro e w' ⟨rfl, rfl⟩
  go_wp2_with fail
  refine (val_eq (.bool false) (by rw [Ka.out]) (setHas_any A_a La.length c_a La ((n % 64 : Nat) : Int) _ rfl Na.out Sa.out)).mono ?_
  rintro e w' ⟨rfl, rfl⟩
  go_wp2_with fail
  refine (val_eq (.bool true) (by rw [Kb.out]) (setHas_any A_b Lb.length c_b Lb ((n % 64 : Nat) : Int) _ rfl Nb.out Sb.out)).mono ?_
  rintro e w' ⟨rfl, rfl⟩
  go_wp2_with fail
  refine (val_eq (.bool false) (by rw [Ky.out]) (setHas_any A_y Ly.length c_y Ly ((n % 64 : Nat) : Int) _ rfl Ny.out Sy.out)).mono ?_
  rintro e w' ⟨rfl, rfl⟩
  go_wp2_with fail
  refine (val_eq (.bool false) (by rw [Ka.out]) (setHas_any A_a La.length c_a La ((n % 64 : Nat) : Int) _ rfl Na.out Sa.out)).mono ?_
  rintro e w' ⟨rfl, rfl⟩
  go_wp2_with fail
  refine (sl_eq (P := fun _ _ => True) Lx Lx.length Eub.out rfl (setLess_any A_u Lu.length c_u Lu A_b Lb.length c_b Lb _ rfl Nu.out Su.out rfl Nb.out Sb.out)).mono ?_
  rintro e w13 ⟨A_p, c_p, rfl, hat, bel⟩
  replace HB := Lib.hid (HB.out.trans (bel.mono HB.out.size))
  replace Sa := Lib.hid (Sa.out.later bel (Nat.le_refl _))
  replace Sb := Lib.hid (Sb.out.later bel (Nat.le_refl _))
  replace Sx := Lib.hid (Sx.out.later bel (Nat.le_refl _))
  replace Sy := Lib.hid (Sy.out.later bel (Nat.le_refl _))
  replace Sz := Lib.hid (Sz.out.later bel (Nat.le_refl _))
  replace Su := Lib.hid (Su.out.later bel (Nat.le_refl _))
  replace HG := Lib.hid (HG.out.later bel (Nat.le_refl _))
  have Sp := Lib.hid hat
  clear hat
  have Np := Nx
  clear bel
  go_wp2_with fail
  refine (valB_eq (.bool true) (by simp) (ints15_any A_p Lx.length c_p Lx A_x Lx.length c_x Lx _ rfl Np.out Sp.out rfl Nx.out Sx.out)).mono ?_
  rintro e w14 ⟨rfl, bel⟩
  replace HB := Lib.hid (HB.out.trans (bel.mono HB.out.size))
  replace Sa := Lib.hid (Sa.out.later bel (Nat.le_refl _))
  replace Sb := Lib.hid (Sb.out.later bel (Nat.le_refl _))
  replace Sx := Lib.hid (Sx.out.later bel (Nat.le_refl _))
  replace Sy := Lib.hid (Sy.out.later bel (Nat.le_refl _))
  replace Sz := Lib.hid (Sz.out.later bel (Nat.le_refl _))
  replace Su := Lib.hid (Su.out.later bel (Nat.le_refl _))
  replace Sp := Lib.hid (Sp.out.later bel (Nat.le_refl _))
  replace HG := Lib.hid (HG.out.later bel (Nat.le_refl _))
  clear bel
  clear Sp Np
  go_wp2_with fail
  refine (sure15 _ HG.out).mono ?_
  rintro e w15 ⟨rfl, bel⟩
  replace HB := Lib.hid (HB.out.trans (bel.mono HB.out.size))
  replace Sa := Lib.hid (Sa.out.later bel (Nat.le_refl _))
  replace Sb := Lib.hid (Sb.out.later bel (Nat.le_refl _))
  replace Sx := Lib.hid (Sx.out.later bel (Nat.le_refl _))
  replace Sy := Lib.hid (Sy.out.later bel (Nat.le_refl _))
  replace Sz := Lib.hid (Sz.out.later bel (Nat.le_refl _))
  replace Su := Lib.hid (Su.out.later bel (Nat.le_refl _))
  replace HG := Lib.hid (HG.out.later bel (Nat.le_refl _))
  clear bel
  go_wp2_with fail
  go_ret
  exact ⟨rfl, HB.out⟩
set_option maxRecDepth 100000 in
set_option maxHeartbeats 4000000 in
theorem parts_00 (v w0 n : Nat) (w : World) (hv : v < 18446744073709551616) (hw : w0 < 18446744073709551616) (hn : n < 256) (hg : Glob w) (hp : v.testBit (n % 64) = false) (hq : w0.testBit (n % 64) = false) :
    Calls Tryd.prog 5 #[.int .u64 v, .int .u64 w0, .int .u8 n] w fun e w' => e = .returned (.bool true) ∧ Below w.heap.size w w' := by
  have HG := Lib.hid hg
  have hk : n % 64 < 64 := Nat.mod_lt _ (by decide)
  obtain ⟨La, hLa⟩ : ∃ L, SetM.elems (v) = L := ⟨_, rfl⟩
  have hba : SetM.bitsOf La = v := by rw [← hLa, SetM.bitsOf_elems hv]
  have HBa := Lib.hid hba
  have HLa := Lib.hid hLa
  have Na := Lib.hid (hLa ▸ elems_len _ : La.length ≤ 9223372036854775807)
  obtain ⟨Lb, hLb⟩ : ∃ L, SetM.elems (w0) = L := ⟨_, rfl⟩
  have hbb : SetM.bitsOf Lb = w0 := by rw [← hLb, SetM.bitsOf_elems hw]
  have HBb := Lib.hid hbb
  have HLb := Lib.hid hLb
  have Nb := Lib.hid (hLb ▸ elems_len _ : Lb.length ≤ 9223372036854775807)
  obtain ⟨Lx, hLx⟩ : ∃ L, SetM.elems (SetM.op 2 v w0) = L := ⟨_, rfl⟩
  have hbx : SetM.bitsOf Lx = SetM.op 2 v w0 := by rw [← hLx, SetM.bitsOf_elems (SetM.op_lt 2 hv hw)]
  have HBx := Lib.hid hbx
  have HLx := Lib.hid hLx
  have Nx := Lib.hid (hLx ▸ elems_len _ : Lx.length ≤ 9223372036854775807)
  obtain ⟨Ly, hLy⟩ : ∃ L, SetM.elems (SetM.op 1 v w0) = L := ⟨_, rfl⟩
  have hby : SetM.bitsOf Ly = SetM.op 1 v w0 := by rw [← hLy, SetM.bitsOf_elems (SetM.op_lt 1 hv hw)]
  have HBy := Lib.hid hby
  have HLy := Lib.hid hLy
  have Ny := Lib.hid (hLy ▸ elems_len _ : Ly.length ≤ 9223372036854775807)
  obtain ⟨Lz, hLz⟩ : ∃ L, SetM.elems (SetM.op 2 w0 v) = L := ⟨_, rfl⟩
  have hbz : SetM.bitsOf Lz = SetM.op 2 w0 v := by rw [← hLz, SetM.bitsOf_elems (SetM.op_lt 2 hw hv)]
  have HBz := Lib.hid hbz
  have HLz := Lib.hid hLz
  have Nz := Lib.hid (hLz ▸ elems_len _ : Lz.length ≤ 9223372036854775807)
  obtain ⟨Lu, hLu⟩ : ∃ L, SetM.elems (SetM.op 0 v w0) = L := ⟨_, rfl⟩
  have hbu : SetM.bitsOf Lu = SetM.op 0 v w0 := by rw [← hLu, SetM.bitsOf_elems (SetM.op_lt 0 hv hw)]
  have HBu := Lib.hid hbu
  have HLu := Lib.hid hLu
  have Nu := Lib.hid (hLu ▸ elems_len _ : Lu.length ≤ 9223372036854775807)
  have Ex := Lib.hid (show SetM.elems (SetM.op 2 (SetM.bitsOf La) (SetM.bitsOf Lb)) = Lx by rw [hba, hbb, hLx])
  have Ey := Lib.hid (show SetM.elems (SetM.op 1 (SetM.bitsOf La) (SetM.bitsOf Lb)) = Ly by rw [hba, hbb, hLy])
  have Ez := Lib.hid (show SetM.elems (SetM.op 2 (SetM.bitsOf Lb) (SetM.bitsOf La)) = Lz by rw [hbb, hba, hLz])
  have Eu := Lib.hid (show SetM.elems (SetM.op 0 (SetM.bitsOf La) (SetM.bitsOf Lb)) = Lu by rw [hba, hbb, hLu])
  have Exy := Lib.hid (show SetM.elems (SetM.op 0 (SetM.bitsOf Lx) (SetM.bitsOf Ly)) = La by rw [hbx, hby, SetM.parts2 hv hw, hLa])
  have Exyz := Lib.hid (show SetM.elems (SetM.op 0 (SetM.bitsOf La) (SetM.bitsOf Lz)) = Lu by
    have h := SetM.parts1 hv hw
    rw [SetM.parts2 hv hw] at h
    rw [hba, hbz, h, hLu])
  have Exb := Lib.hid (show SetM.elems (SetM.op 1 (SetM.bitsOf Lx) (SetM.bitsOf Lb)) = [] by rw [hbx, hbb, SetM.parts3 hv hw, SetM.elems_zero])
  have Eub := Lib.hid (show SetM.elems (SetM.op 2 (SetM.bitsOf Lu) (SetM.bitsOf Lb)) = Lx by rw [hbu, hbb, SetM.parts4 hv hw, hLx])
  have hlen : Lx.length + Ly.length + Lz.length = Lu.length := by rw [← hLx, ← hLy, ← hLz, ← hLu]; exact SetM.parts5 hv hw
  have Ma := Lib.hid (show SetM.may La = true by rw [← hLa]; exact SetM.may_elems _)
  have Mu := Lib.hid (show SetM.may Lu = true by rw [← hLu]; exact SetM.may_elems _)
  have hx64 : Lx.length ≤ 64 := by rw [← hLx]; exact SetM.elemsTo_length _ 64
  have hy64 : Ly.length ≤ 64 := by rw [← hLy]; exact SetM.elemsTo_length _ 64
  have hz64 : Lz.length ≤ 64 := by rw [← hLz]; exact SetM.elemsTo_length _ 64
  have hl1 : Lx.length + Ly.length + Lz.length ≤ Lu.length := by omega
  have hl2 : Lu.length ≤ Lx.length + Ly.length + Lz.length := by omega
  have Ku := Lib.hid (show SetM.has Lu ((n % 64 : Nat) : Int) = false by rw [← hLu, SetM.has_elems (SetM.op_lt 0 hv hw) _ hk, SetM.op_testBit 0 hv hw, hp, hq]; rfl)
  have Ka := Lib.hid (show SetM.has La ((n % 64 : Nat) : Int) = false by rw [← hLa, SetM.has_elems hv _ hk, hp])
  have Kb := Lib.hid (show SetM.has Lb ((n % 64 : Nat) : Int) = false by rw [← hLb, SetM.has_elems hw _ hk, hq])
  have Ky := Lib.hid (show SetM.has Ly ((n % 64 : Nat) : Int) = false by rw [← hLy, SetM.has_elems (SetM.op_lt 1 hv hw) _ hk, SetM.op_testBit 1 hv hw, hp, hq]; rfl)
  have Fa := Lib.hid (fun W => setFrom_any v W hv)
  have Fb := Lib.hid (fun W => setFrom_any w0 W hw)
  have HVV := Lib.hid hba
  clear hp hq hg hlen hv hw hba hbb hbx hby hbz hbu hLa hLb hLx hLy hLz hLu
  go_enter Tryd.func5, Tryd.ntmps5
  have HB := Lib.hid (Below.refl w.heap.size w)
  go_wp2_with fail
  refine (sl_eq (P := fun _ _ => True) La La.length HLa.out rfl (Fa.out _)).mono ?_
  rintro e w1 ⟨A_a, c_a, rfl, hat, bel⟩
  replace HB := Lib.hid (HB.out.trans (bel.mono HB.out.size))
  replace HG := Lib.hid (HG.out.later bel (Nat.le_refl _))
  have Sa := Lib.hid hat
  clear hat
  clear bel
  go_wp2_with fail
  refine (sl_eq (P := fun _ _ => True) Lb Lb.length HLb.out rfl (Fb.out _)).mono ?_
  rintro e w2 ⟨A_b, c_b, rfl, hat, bel⟩
  replace HB := Lib.hid (HB.out.trans (bel.mono HB.out.size))
  replace Sa := Lib.hid (Sa.out.later bel (Nat.le_refl _))
  replace HG := Lib.hid (HG.out.later bel (Nat.le_refl _))
  have Sb := Lib.hid hat
  clear hat
  clear bel
  go_wp2_with fail
  refine (sl_eq (P := fun _ _ => True) Lx Lx.length Ex.out rfl (setLess_any A_a La.length c_a La A_b Lb.length c_b Lb _ rfl Na.out Sa.out rfl Nb.out Sb.out)).mono ?_
  rintro e w3 ⟨A_x, c_x, rfl, hat, bel⟩
  replace HB := Lib.hid (HB.out.trans (bel.mono HB.out.size))
  replace Sa := Lib.hid (Sa.out.later bel (Nat.le_refl _))
  replace Sb := Lib.hid (Sb.out.later bel (Nat.le_refl _))
  replace HG := Lib.hid (HG.out.later bel (Nat.le_refl _))
  have Sx := Lib.hid hat
  clear hat
  clear bel
  go_wp2_with fail
  refine (sl_eq (P := fun _ _ => True) Ly Ly.length Ey.out rfl (setBoth_any A_a La.length c_a La A_b Lb.length c_b Lb _ rfl Na.out Sa.out rfl Nb.out Sb.out)).mono ?_
  rintro e w4 ⟨A_y, c_y, rfl, hat, bel⟩
  replace HB := Lib.hid (HB.out.trans (bel.mono HB.out.size))
  replace Sa := Lib.hid (Sa.out.later bel (Nat.le_refl _))
  replace Sb := Lib.hid (Sb.out.later bel (Nat.le_refl _))
  replace Sx := Lib.hid (Sx.out.later bel (Nat.le_refl _))
  replace HG := Lib.hid (HG.out.later bel (Nat.le_refl _))
  have Sy := Lib.hid hat
  clear hat
  clear bel
  go_wp2_with fail
  refine (sl_eq (P := fun _ _ => True) Lz Lz.length Ez.out rfl (setLess_any A_b Lb.length c_b Lb A_a La.length c_a La _ rfl Nb.out Sb.out rfl Na.out Sa.out)).mono ?_
  rintro e w5 ⟨A_z, c_z, rfl, hat, bel⟩
  replace HB := Lib.hid (HB.out.trans (bel.mono HB.out.size))
  replace Sa := Lib.hid (Sa.out.later bel (Nat.le_refl _))
  replace Sb := Lib.hid (Sb.out.later bel (Nat.le_refl _))
  replace Sx := Lib.hid (Sx.out.later bel (Nat.le_refl _))
  replace Sy := Lib.hid (Sy.out.later bel (Nat.le_refl _))
  replace HG := Lib.hid (HG.out.later bel (Nat.le_refl _))
  have Sz := Lib.hid hat
  clear hat
  clear bel
  go_wp2_with fail
  refine (sl_eq (P := fun _ _ => True) Lu Lu.length Eu.out rfl (setEither_any A_a La.length c_a La A_b Lb.length c_b Lb _ rfl Na.out Sa.out rfl Nb.out Sb.out)).mono ?_
  rintro e w6 ⟨A_u, c_u, rfl, hat, bel⟩
  replace HB := Lib.hid (HB.out.trans (bel.mono HB.out.size))
  replace Sa := Lib.hid (Sa.out.later bel (Nat.le_refl _))
  replace Sb := Lib.hid (Sb.out.later bel (Nat.le_refl _))
  replace Sx := Lib.hid (Sx.out.later bel (Nat.le_refl _))
  replace Sy := Lib.hid (Sy.out.later bel (Nat.le_refl _))
  replace Sz := Lib.hid (Sz.out.later bel (Nat.le_refl _))
  replace HG := Lib.hid (HG.out.later bel (Nat.le_refl _))
  have Su := Lib.hid hat
  clear hat
  clear bel
  go_wp2_with fail
  refine (val_eq .nilIface (by rw [Ma.out]; rfl) (setCheck_any A_a La.length c_a La _ rfl Na.out Sa.out)).mono ?_
  rintro e w' ⟨rfl, rfl⟩
  go_wp2_with fail
  refine (val_eq .nilIface (by rw [Mu.out]; rfl) (setCheck_any A_u Lu.length c_u Lu _ rfl Nu.out Su.out)).mono ?_
  rintro e w' ⟨rfl, rfl⟩
  go_wp2_with fail
  refine (val_eq (.int .u64 (v : Nat)) (by rw [HVV.out]) (setBits_any A_a La.length c_a La _ rfl Na.out Sa.out)).mono ?_
  rintro e w' ⟨rfl, rfl⟩
  go_wp2_with fail
  refine (sl_eq (P := fun _ _ => True) La La.length Exy.out rfl (setEither_any A_x Lx.length c_x Lx A_y Ly.length c_y Ly _ rfl Nx.out Sx.out rfl Ny.out Sy.out)).mono ?_
  rintro e w7 ⟨A_p, c_p, rfl, hat, bel⟩
  replace HB := Lib.hid (HB.out.trans (bel.mono HB.out.size))
  replace Sa := Lib.hid (Sa.out.later bel (Nat.le_refl _))
  replace Sb := Lib.hid (Sb.out.later bel (Nat.le_refl _))
  replace Sx := Lib.hid (Sx.out.later bel (Nat.le_refl _))
  replace Sy := Lib.hid (Sy.out.later bel (Nat.le_refl _))
  replace Sz := Lib.hid (Sz.out.later bel (Nat.le_refl _))
  replace Su := Lib.hid (Su.out.later bel (Nat.le_refl _))
  replace HG := Lib.hid (HG.out.later bel (Nat.le_refl _))
  have Sp := Lib.hid hat
  clear hat
  have Np := Na
  clear bel
  go_wp2_with fail
  refine (sl_eq (P := fun _ _ => True) Lu Lu.length Exyz.out rfl (setEither_any A_p La.length c_p La A_z Lz.length c_z Lz _ rfl Np.out Sp.out rfl Nz.out Sz.out)).mono ?_
  rintro e w8 ⟨A_q, c_q, rfl, hat, bel⟩
  replace HB := Lib.hid (HB.out.trans (bel.mono HB.out.size))
  replace Sa := Lib.hid (Sa.out.later bel (Nat.le_refl _))
  replace Sb := Lib.hid (Sb.out.later bel (Nat.le_refl _))
  replace Sx := Lib.hid (Sx.out.later bel (Nat.le_refl _))
  replace Sy := Lib.hid (Sy.out.later bel (Nat.le_refl _))
  replace Sz := Lib.hid (Sz.out.later bel (Nat.le_refl _))
  replace Su := Lib.hid (Su.out.later bel (Nat.le_refl _))
  replace Sp := Lib.hid (Sp.out.later bel (Nat.le_refl _))
  replace HG := Lib.hid (HG.out.later bel (Nat.le_refl _))
  have Sq := Lib.hid hat
  clear hat
  have Nq := Nu
  clear bel
  go_wp2_with fail
  refine (valB_eq (.bool true) (by simp) (ints15_any A_q Lu.length c_q Lu A_u Lu.length c_u Lu _ rfl Nq.out Sq.out rfl Nu.out Su.out)).mono ?_
  rintro e w9 ⟨rfl, bel⟩
  replace HB := Lib.hid (HB.out.trans (bel.mono HB.out.size))
  replace Sa := Lib.hid (Sa.out.later bel (Nat.le_refl _))
  replace Sb := Lib.hid (Sb.out.later bel (Nat.le_refl _))
  replace Sx := Lib.hid (Sx.out.later bel (Nat.le_refl _))
  replace Sy := Lib.hid (Sy.out.later bel (Nat.le_refl _))
  replace Sz := Lib.hid (Sz.out.later bel (Nat.le_refl _))
  replace Su := Lib.hid (Su.out.later bel (Nat.le_refl _))
  replace Sp := Lib.hid (Sp.out.later bel (Nat.le_refl _))
  replace Sq := Lib.hid (Sq.out.later bel (Nat.le_refl _))
  replace HG := Lib.hid (HG.out.later bel (Nat.le_refl _))
  clear bel
  clear Sp Np
  clear Sq Nq
  go_wp2_with fail
  refine (sl_eq (P := fun _ _ => True) La La.length Exy.out rfl (setEither_any A_x Lx.length c_x Lx A_y Ly.length c_y Ly _ rfl Nx.out Sx.out rfl Ny.out Sy.out)).mono ?_
  rintro e w10 ⟨A_p, c_p, rfl, hat, bel⟩
  replace HB := Lib.hid (HB.out.trans (bel.mono HB.out.size))
  replace Sa := Lib.hid (Sa.out.later bel (Nat.le_refl _))
  replace Sb := Lib.hid (Sb.out.later bel (Nat.le_refl _))
  replace Sx := Lib.hid (Sx.out.later bel (Nat.le_refl _))
  replace Sy := Lib.hid (Sy.out.later bel (Nat.le_refl _))
  replace Sz := Lib.hid (Sz.out.later bel (Nat.le_refl _))
  replace Su := Lib.hid (Su.out.later bel (Nat.le_refl _))
  replace HG := Lib.hid (HG.out.later bel (Nat.le_refl _))
  have Sp := Lib.hid hat
  clear hat
  have Np := Na
  clear bel
  go_wp2_with fail
  refine (valB_eq (.bool true) (by simp) (ints15_any A_p La.length c_p La A_a La.length c_a La _ rfl Np.out Sp.out rfl Na.out Sa.out)).mono ?_
  rintro e w11 ⟨rfl, bel⟩
  replace HB := Lib.hid (HB.out.trans (bel.mono HB.out.size))
  replace Sa := Lib.hid (Sa.out.later bel (Nat.le_refl _))
  replace Sb := Lib.hid (Sb.out.later bel (Nat.le_refl _))
  replace Sx := Lib.hid (Sx.out.later bel (Nat.le_refl _))
  replace Sy := Lib.hid (Sy.out.later bel (Nat.le_refl _))
  replace Sz := Lib.hid (Sz.out.later bel (Nat.le_refl _))
  replace Su := Lib.hid (Su.out.later bel (Nat.le_refl _))
  replace Sp := Lib.hid (Sp.out.later bel (Nat.le_refl _))
  replace HG := Lib.hid (HG.out.later bel (Nat.le_refl _))
  clear bel
  clear Sp Np
  go_wp2_with fail
  refine (sl_eq (P := fun _ _ => True) [] 0 Exb.out rfl (setBoth_any A_x Lx.length c_x Lx A_b Lb.length c_b Lb _ rfl Nx.out Sx.out rfl Nb.out Sb.out)).mono ?_
  rintro e w12 ⟨A_p, c_p, rfl, hat, bel⟩
  replace HB := Lib.hid (HB.out.trans (bel.mono HB.out.size))
  replace Sa := Lib.hid (Sa.out.later bel (Nat.le_refl _))
  replace Sb := Lib.hid (Sb.out.later bel (Nat.le_refl _))
  replace Sx := Lib.hid (Sx.out.later bel (Nat.le_refl _))
  replace Sy := Lib.hid (Sy.out.later bel (Nat.le_refl _))
  replace Sz := Lib.hid (Sz.out.later bel (Nat.le_refl _))
  replace Su := Lib.hid (Su.out.later bel (Nat.le_refl _))
  replace HG := Lib.hid (HG.out.later bel (Nat.le_refl _))
  have Sp := Lib.hid hat
  clear hat
  have Np := Lib.hid (show (0 : Nat) ≤ 9223372036854775807 by decide)
  clear bel
  clear Sp Np
  go_wp2_with fail
  refine (val_eq (.bool false) (by rw [Ku.out]) (setHas_any A_u Lu.length c_u Lu ((n % 64 : Nat) : Int) _ rfl Nu.out Su.out)).mono ?_
  rintro e w' ⟨rfl, rfl⟩
  go_wp2_with fail
  refine (val_eq (.bool false) (by rw [Ka.out]) (setHas_any A_a La.length c_a La ((n % 64 : Nat) : Int) _ rfl Na.out Sa.out)).mono ?_
  rintro e w' ⟨rfl, rfl⟩
  go_wp2_with fail
  refine (val_eq (.bool false) (by rw [Kb.out]) (setHas_any A_b Lb.length c_b Lb ((n % 64 : Nat) : Int) _ rfl Nb.out Sb.out)).mono ?_
  rintro e w' ⟨rfl, rfl⟩
  go_wp2_with fail
  refine (val_eq (.bool false) (by rw [Ky.out]) (setHas_any A_y Ly.length c_y Ly ((n % 64 : Nat) : Int) _ rfl Ny.out Sy.out)).mono ?_
  rintro e w' ⟨rfl, rfl⟩
  go_wp2_with fail
  refine (val_eq (.bool false) (by rw [Ka.out]) (setHas_any A_a La.length c_a La ((n % 64 : Nat) : Int) _ rfl Na.out Sa.out)).mono ?_
  rintro e w' ⟨rfl, rfl⟩
  go_wp2_with fail
  refine (sl_eq (P := fun _ _ => True) Lx Lx.length Eub.out rfl (setLess_any A_u Lu.length c_u Lu A_b Lb.length c_b Lb _ rfl Nu.out Su.out rfl Nb.out Sb.out)).mono ?_
  rintro e w13 ⟨A_p, c_p, rfl, hat, bel⟩
  replace HB := Lib.hid (HB.out.trans (bel.mono HB.out.size))
  replace Sa := Lib.hid (Sa.out.later bel (Nat.le_refl _))
  replace Sb := Lib.hid (Sb.out.later bel (Nat.le_refl _))
  replace Sx := Lib.hid (Sx.out.later bel (Nat.le_refl _))
  replace Sy := Lib.hid (Sy.out.later bel (Nat.le_refl _))
  replace Sz := Lib.hid (Sz.out.later bel (Nat.le_refl _))
  replace Su := Lib.hid (Su.out.later bel (Nat.le_refl _))
  replace HG := Lib.hid (HG.out.later bel (Nat.le_refl _))
  have Sp := Lib.hid hat
  clear hat
  have Np := Nx
  clear bel
  go_wp2_with fail
  refine (valB_eq (.bool true) (by simp) (ints15_any A_p Lx.length c_p Lx A_x Lx.length c_x Lx _ rfl Np.out Sp.out rfl Nx.out Sx.out)).mono ?_
  rintro e w14 ⟨rfl, bel⟩
  replace HB := Lib.hid (HB.out.trans (bel.mono HB.out.size))
  replace Sa := Lib.hid (Sa.out.later bel (Nat.le_refl _))
  replace Sb := Lib.hid (Sb.out.later bel (Nat.le_refl _))
  replace Sx := Lib.hid (Sx.out.later bel (Nat.le_refl _))
  replace Sy := Lib.hid (Sy.out.later bel (Nat.le_refl _))
  replace Sz := Lib.hid (Sz.out.later bel (Nat.le_refl _))
  replace Su := Lib.hid (Su.out.later bel (Nat.le_refl _))
  replace Sp := Lib.hid (Sp.out.later bel (Nat.le_refl _))
  replace HG := Lib.hid (HG.out.later bel (Nat.le_refl _))
  clear bel
  clear Sp Np
  go_wp2_with fail
  refine (sure15 _ HG.out).mono ?_
  rintro e w15 ⟨rfl, bel⟩
  replace HB := Lib.hid (HB.out.trans (bel.mono HB.out.size))
  replace Sa := Lib.hid (Sa.out.later bel (Nat.le_refl _))
  replace Sb := Lib.hid (Sb.out.later bel (Nat.le_refl _))
  replace Sx := Lib.hid (Sx.out.later bel (Nat.le_refl _))
  replace Sy := Lib.hid (Sy.out.later bel (Nat.le_refl _))
  replace Sz := Lib.hid (Sz.out.later bel (Nat.le_refl _))
  replace Su := Lib.hid (Su.out.later bel (Nat.le_refl _))
  replace HG := Lib.hid (HG.out.later bel (Nat.le_refl _))
  clear bel
  go_wp2_with fail
  go_ret
  exact ⟨rfl, HB.out⟩
theorem parts15_any (v w0 n : Nat) (w : World) (hv : v < 18446744073709551616) (hw : w0 < 18446744073709551616) (hn : n < 256) (hg : Glob w) :
    Calls Tryd.prog 5 #[.int .u64 v, .int .u64 w0, .int .u8 n] w fun e w' => e = .returned (.bool true) ∧ Below w.heap.size w w' := by
  cases hp : v.testBit (n % 64) <;> cases hq : w0.testBit (n % 64)
  · exact parts_00 v w0 n w hv hw hn hg hp hq
  · exact parts_01 v w0 n w hv hw hn hg hp hq
  · exact parts_10 v w0 n w hv hw hn hg hp hq
  · exact parts_11 v w0 n w hv hw hn hg hp hq
end Go.Proofs.YtpmejkgmeoajaaaDoor
