/- Layer 11: VarintRow's walk. -/
import Derived.Test.YtbgmbemaopnjfaaDoorVarE
namespace Go.Proofs.YtbgmbemaopnjfaaDoor
open Go.RowKit
def catE (l : List Nat) : List Nat := l.flatMap VM.enc
theorem catE_snoc {l : List Nat} {k : Nat} (h : k < l.length) : catE (l.take (k + 1)) = catE (l.take k) ++ VM.enc (l.getD k 0) := by
  rw [take_snoc h]; simp [catE]
theorem catE_drop {l : List Nat} {k : Nat} (h : k < l.length) : (catE l).drop (catE (l.take k)).length = VM.enc (l.getD k 0) ++ catE (l.drop (k + 1)) := by
  have e : l = l.take k ++ (l.getD k 0 :: l.drop (k + 1)) := by
    rw [getD_lt h, List.getElem_cons_drop h, List.take_append_drop]
  have e2 : catE l = catE (l.take k) ++ (VM.enc (l.getD k 0) ++ catE (l.drop (k + 1))) := by
    calc catE l = catE (l.take k ++ (l.getD k 0 :: l.drop (k + 1))) := by rw [← e]
      _ = _ := by simp [catE]
  rw [e2, List.drop_left]
theorem catE_len : ∀ (l : List Nat), (∀ x ∈ l, x < 18446744073709551616) → (catE l).length ≤ 9 * l.length
  | [], _ => by simp [catE]
  | x :: l, h => by
    have h1 := catE_len l (fun y hy => h y (by simp [hy]))
    have h2 := VM.size_9 (h x (by simp))
    simp only [catE, List.flatMap_cons, List.length_append, VM.enc_length, List.length_cons] at *
    omega
theorem catE_byte (l : List Nat) (h : ∀ x ∈ l, x < 18446744073709551616) : ∀ y ∈ catE l, y < 256 := by
  intro y hy
  obtain ⟨x, hx, hy⟩ := List.mem_flatMap.1 hy
  exact VM.enc_byte (h x hx) y hy
def SlRC (L : List Nat) : Rel := fun v W => ∃ A c, v = .slice A L.length c ∧ At W A (nats .u8 L) ∧ L.length ≤ c ∧ c ≤ maxLen
theorem mono_slc (L : List Nat) : Mono (SlRC L) := fun _ _ _ h hX => by obtain ⟨A, c, h1, h2, h3⟩ := h; exact ⟨A, c, h1, h2.later hX (Nat.le_refl _), h3⟩
theorem At.nat' {w : World} {b o : Nat} {k : IntKind} {l : List Nat} (h : At w (some ⟨b, o, none⟩) (nats k l)) (i : Nat) (hi : i < l.length) : w.cell? ⟨b, o + i, none⟩ = some (.int k ((l.getD i 0 : Nat) : Int)) := by
  obtain ⟨b', o', e, hc⟩ := h.nat i hi
  injection e with e; injection e with e1 e2 e3; subst e1; subst e2
  exact hc
set_option maxRecDepth 100000 in
theorem vrow_big (A : Option Addr) (n c : Nat) (w : World) (hl : 60 < n) (hn : n ≤ 9223372036854775807) (hg : Glob w) :
    Calls Tryd.prog 8 #[.slice A n c] w fun e w' => e = .returned (.bool true) ∧ Below w.heap.size w w' := by
  have HG := Lib.hid hg
  clear hg
  go_enter Tryd.func8, Tryd.ntmps8
  go_wp2_with fail
  refine (sure11 _ HG.out).mono ?_
  rintro e w1 ⟨rfl, bel⟩
  go_wp2_with fail
  go_ret
  exact ⟨rfl, bel⟩
set_option maxRecDepth 100000 in
set_option maxHeartbeats 8000000 in
theorem vrow_some (b o c : Nat) (l : List Nat) (w : World) (hl : l.length ≤ 60) (h0 : 0 < l.length) (ha : At w (some ⟨b, o, none⟩) (nats .u64 l)) (hr : ∀ y ∈ l, y < 18446744073709551616) (hg : Glob w) :
    Calls Tryd.prog 8 #[.slice (some ⟨b, o, none⟩) l.length c] w fun e w' => e = .returned (.bool true) ∧ Below w.heap.size w w' := by
  have HA0 := Lib.hid ha
  have HR := Lib.hid hr
  have HG0 := Lib.hid hg
  have HTL := Lib.hid (show l.take l.length = l from List.take_length)
  have hrt : ∀ k, ∀ y ∈ l.take k, y < 18446744073709551616 := fun k y hy => hr y (List.mem_of_mem_take hy)
  have HRT := Lib.hid hrt
  have HSN := Lib.hid (fun k (h : k < l.length) => catE_snoc (l := l) h)
  have HDR := Lib.hid (fun k (h : k < l.length) => catE_drop (l := l) h)
  have HLN := Lib.hid (fun k => catE_len (l.take k) (hrt k))
  generalize hn : l.length = n at *
  have HN := Lib.hid hn
  clear ha hr hg hrt hn
  go_enter Tryd.func8, Tryd.ntmps8
  go_wp2
  go_loopw [3, 4] (fun s i wr => ∃ (k : Nat) (Ab : Option Addr) (cb : Nat), k ≤ n ∧ i = .int .i64 k ∧ s = .slice Ab (catE (l.take k)).length cb ∧ At wr Ab (nats .u8 (catE (l.take k))) ∧ (catE (l.take k)).length ≤ cb ∧ cb ≤ 9223372036854775807 ∧ Below w.heap.size w wr) (fun _ i _ => n - (intOf i).toNat)
  case atStart => exact ⟨0, none, 0, by omega, rfl, rfl, At.nil _ _, Nat.le_refl _, by omega, Below.refl _ _⟩
  case round =>
    obtain ⟨k, Ab, cb, hk, rfl, rfl, hat, hcb1, hcb2, hbel⟩ := hrel
    have HAT := Lib.hid hat
    have HBB := Lib.hid hbel
    clear hat hbel
    by_cases hlt : k < n
    · have hsn := HSN.out k hlt
      have hln := HLN.out k
      have hln2 : (l.take k).length ≤ 60 := by have := List.length_take_le k l; omega
      have hx : l.getD k 0 < 18446744073709551616 := by rw [getD_lt (by rw [HN.out]; exact hlt)]; exact HR.out _ (List.getElem_mem _)
      have hce := (HA0.out.later HBB.out (Nat.le_refl _)).nat' k (by rw [HN.out]; exact hlt)
      have HS := Lib.hid hsn
      clear hsn
      have hL : (catE (l.take k)).length ≤ 540 := by omega
      clear hln hln2
      generalize catE (l.take k) = L at *
      generalize l.getD k 0 = x at *
      have CP := Lib.hid (vput_any Ab L.length cb L x wr rfl (by omega) HAT.out hx)
      go_wp2_with fail
      refine CP.out.mono ?_
      rintro e w1 ⟨A1, c1, rfl, hat, bel, q1, q2⟩
      have HQ1 := Lib.hid q1
      have HQ2 := Lib.hid q2
      have HT1 := Lib.hid hat
      have HB1 := Lib.hid (HBB.out.trans (bel.mono HBB.out.size))
      clear hat bel q1 q2 CP
      go_wp2_with fail
      exact ⟨⟨k + 1, A1, c1, by omega, by simp, by rw [HS.out, List.length_append], by rw [HS.out]; exact HT1.out, by rw [HS.out]; exact HQ1.out, HQ2.out, HB1.out⟩, by simp only [intOf]; omega⟩
    · obtain rfl : k = n := by omega
      rw [HTL.out] at HAT hcb1 ⊢
      clear hlt hk
      have hN0 : 0 < (catE l).length := by
        have h := HDR.out 0 h0
        have h1 := congrArg List.length h
        have h2 := VM.size_9 (v := l.getD 0 0) (by rw [getD_lt (by rw [HN.out]; exact h0)]; exact HR.out _ (List.getElem_mem _))
        rw [List.length_drop, List.length_append, VM.enc_length] at h1
        omega
      have hN : (catE l).length ≤ 540 := by have := catE_len l HR.out; rw [HN.out] at this; omega
      obtain ⟨bb, ob, rfl, _⟩ := HAT.out.nat 0 hN0
      have HCB := Lib.hid (catE_byte l HR.out)
      have HHZ := Lib.hid HBB.out.size
      go_wp2_with fail
      obtain ⟨wo, rfl⟩ : ∃ wo : World, wo = wr := ⟨_, rfl⟩
      go_loopw [5, 6] (fun a i wr => ∃ k' : Nat, k' ≤ k ∧ i = .int .i64 k' ∧ a = .int .i64 ((catE (l.take k')).length : Nat) ∧ Below wo.heap.size wo wr) (fun _ i _ => k - (intOf i).toNat)
      case atStart => exact ⟨0, by omega, rfl, rfl, Below.refl _ _⟩
      case round =>
        obtain ⟨j, hj, rfl, rfl, hbel⟩ := hrel
        have HBJ := Lib.hid hbel
        clear hbel
        by_cases hlt : j < k
        · have hsn := HSN.out j hlt
          have hdr := HDR.out j hlt
          have hx : l.getD j 0 < 18446744073709551616 := by rw [getD_lt (by rw [HN.out]; exact hlt)]; exact HR.out _ (List.getElem_mem _)
          have hx0 : l.getD 0 0 < 18446744073709551616 := by rw [getD_lt (by rw [HN.out]; exact h0)]; exact HR.out _ (List.getElem_mem _)
          have hbelw := HBB.out.trans (HBJ.out.mono HHZ.out)
          have HA := Lib.hid (HA0.out.later hbelw (Nat.le_refl _))
          have hce := HA.out.nat' j (by rw [HN.out]; exact hlt)
          have HBW := Lib.hid hbelw
          have HGJ := Lib.hid (HG0.out.later hbelw (Nat.le_refl _))
          have hATJ := (HAT.out.later HBJ.out (Nat.le_refl _))
          have hcut := hATJ.cut (m := (catE (l.take j)).length)
          rw [← nats_drop, hdr] at hcut
          have hl1 := congrArg List.length hdr
          rw [List.length_drop, List.length_append, VM.enc_length] at hl1
          have hs9 := VM.size_9 hx
          have hl2 : (catE (l.take (j + 1))).length = (catE (l.take j)).length + VM.size (l.getD j 0) := by rw [hsn, List.length_append, VM.enc_length]
          have hby : ∀ y ∈ VM.enc (l.getD j 0) ++ catE (l.drop (j + 1)), y < 256 := fun y hy => HCB.out y (List.mem_of_mem_drop (hdr ▸ hy))
          have HL2 := Lib.hid hl2
          have hal : (catE (l.take j)).length < (catE l).length := by omega
          clear hdr hsn hATJ hbelw hl2
          generalize (catE (l.take j)).length = a at *
          generalize (catE l).length = N at *
          have C := vget_any (some ⟨bb, ob + a, none⟩) (N - a) (cb - a) (VM.enc (l.getD j 0) ++ catE (l.drop (j + 1))) wr (by rw [List.length_append, VM.enc_length]; omega) (by omega) (by omega) (by omega) hcut hby
          have C1 := Lib.hid (val_eq (.tuple #[.int .u64 (l.getD j 0 : Nat), .int .i64 (VM.size (l.getD j 0) : Nat), .nilIface]) (vgot_some (VM.dec_enc _ hx _)) C)
          have hcap : ¬ cb = a := by omega
          clear C hcut hby hl1
          have HKL := Lib.hid (show j < l.length by rw [HN.out]; exact hlt)
          have HK0 := Lib.hid (show 0 < l.length by rw [HN.out]; exact h0)
          generalize hxe : l.getD j 0 = x at *
          generalize hxe0 : l.getD 0 0 = x0 at *
          have HX := Lib.hid hxe
          have HX0 := Lib.hid hxe0
          have HVx := Lib.hid hx
          have HVx0 := Lib.hid hx0
          have HNEQ := Lib.hid (show (VM.enc x0).length < (VM.enc x).length → ((strN (VM.enc x0)).toList == (strN ((VM.enc x).take (VM.enc x0).length)).toList) = false from fun h => strN_ne (VM.enc_byte hx0) (fun y hy => VM.enc_byte hx y (List.mem_of_mem_take hy)) fun e => VM.prefix_no hx0 hx (by rw [VM.enc_length] at e; exact e) (by rw [VM.enc_length, VM.enc_length] at h; exact h))
          have HLE1 := Lib.hid (VM.enc_length x)
          have HLE0 := Lib.hid (VM.enc_length x0)
          have hs90 := VM.size_9 hx0
          have CS := Lib.hid (vsize_any x wr hx)
          clear hxe hxe0 hx hx0
          generalize VM.size x = sx at *
          go_wp2_with fail
          refine C1.out.mono ?_
          rintro e w' ⟨rfl, rfl⟩
          go_wp2_with fail
          refine CS.out.mono ?_
          rintro e w' ⟨rfl, rfl⟩
          clear C1 CS
          go_wp2_with fail
          refine wp_region_below [is ?g0, is ?g1, is ?g2, SlRC (VM.enc x0), is ?g4, is ?g5, is ?g6, is ?g7, SlRC (VM.enc x), SlRC (VM.enc x0), SlRC (VM.enc x)]
            [⟨[], [0], none⟩, ⟨[(61, 0)], [], none⟩, ⟨[(62, 1)], [], none⟩, ⟨[(63, 2)], [], none⟩, ⟨[], [0], none⟩, ⟨[], [6], none⟩, ⟨[(65, 4), (66, 5)], [], none⟩, ⟨[(67, 6)], [], none⟩, ⟨[(68, 7)], [], none⟩, ⟨[(64, 3)], [], none⟩, ⟨[(69, 8)], [], none⟩] (by kernel_rfl) (by kernel_rfl) (by kernel_rfl) (by kernel_rfl) (by kernel_rfl) ?monog ?stepsg ?fing
          case monog => exact ⟨mono_eq _, mono_eq _, mono_eq _, mono_slc _, mono_eq _, mono_eq _, mono_eq _, mono_eq _, mono_slc _, mono_slc _, mono_slc _, trivial⟩
          case stepsg =>
            refine ⟨fun ρ W ⟨hcst, hglb, hfun⟩ hX hp ho => ?_, ?_⟩ -- 0: slot 61 := Op.move t0
            · obtain ⟨o0, -⟩ := ho
              change ρ (.tmp 0) = _ at o0
              refine turn_plain (ok_is ?_ rfl)
              simp only [execOp, o0]; go_simp; try exact rfl
            refine ⟨fun ρ W ⟨hcst, hglb, hfun⟩ hX hp ho => ?_, ?_⟩ -- 1: slot 62 := Op.indexAddr 45 t61 (const (0:i64))
            · obtain ⟨p61, -⟩ := hp
              change ρ (.tmp 61) = _ at p61
              refine turn_plain (ok_is ?_ rfl)
              simp only [execOp, hcst, p61]; go_simp; try exact rfl
            refine ⟨fun ρ W ⟨hcst, hglb, hfun⟩ hX hp ho => ?_, ?_⟩ -- 2: slot 63 := Op.load 22 t62
            · obtain ⟨p62, -⟩ := hp
              change ρ (.tmp 62) = _ at p62
              have hW := (Below.refl _ _).drew.trans hX
              have hce := (HA.out.later hW (Nat.le_refl _)).nat' 0 HK0.out
              rw [Nat.add_zero, HX0.out] at hce
              refine turn_plain (ok_is ?_ rfl)
              simp only [execOp, p62]; go_simp; try exact rfl
            refine ⟨fun ρ W ⟨hcst, hglb, hfun⟩ hX hp ho => ?_, ?_⟩ -- 3: slot 64 := Op.call { value (Operand.func 33), args := #[const (Value.slice none 0 0), t63], argTypes 
            · obtain ⟨p63, -⟩ := hp
              change ρ (.tmp 63) = _ at p63
              have hW := (Below.refl _ _).drew.trans hX
              refine turn_plain ?_
              have ce := @enter_of Tryd.prog 33 _ Tryd.func33 (by kernel_rfl) (by kernel_rfl)
              refine ok_call (op_call2 hfun ce (by exact rfl) (hcst _) p63) ?_
              refine (vput_any none 0 0 [] x0 W rfl (by omega) (At.nil _ _) HVx0.out).mono ?_
              rintro e W' ⟨A', c', rfl, hat, bel, q1, q2⟩
              exact ⟨_, rfl, bel, ⟨A', c', rfl, hat, q1, q2⟩⟩
            refine ⟨fun ρ W ⟨hcst, hglb, hfun⟩ hX hp ho => ?_, ?_⟩ -- 4: slot 65 := Op.move t0
            · obtain ⟨o0, -⟩ := ho
              change ρ (.tmp 0) = _ at o0
              refine turn_plain (ok_is ?_ rfl)
              simp only [execOp, o0]; go_simp; try exact rfl
            refine ⟨fun ρ W ⟨hcst, hglb, hfun⟩ hX hp ho => ?_, ?_⟩ -- 5: slot 66 := Op.move t6
            · obtain ⟨o6, -⟩ := ho
              change ρ (.tmp 6) = _ at o6
              refine turn_plain (ok_is ?_ rfl)
              simp only [execOp, o6]; go_simp; try exact rfl
            refine ⟨fun ρ W ⟨hcst, hglb, hfun⟩ hX hp ho => ?_, ?_⟩ -- 6: slot 67 := Op.indexAddr 45 t65 t66
            · obtain ⟨p65, p66, -⟩ := hp
              change ρ (.tmp 65) = _ at p65
              change ρ (.tmp 66) = _ at p66
              refine turn_plain (ok_is ?_ rfl)
              simp only [execOp, p65, p66]; go_simp; try exact rfl
            refine ⟨fun ρ W ⟨hcst, hglb, hfun⟩ hX hp ho => ?_, ?_⟩ -- 7: slot 68 := Op.load 22 t67
            · obtain ⟨p67, -⟩ := hp
              change ρ (.tmp 67) = _ at p67
              have hW := (Below.refl _ _).drew.trans hX
              have hce := (HA.out.later hW (Nat.le_refl _)).nat' j HKL.out
              rw [HX.out] at hce
              refine turn_plain (ok_is ?_ rfl)
              simp only [execOp, p67]; go_simp; try exact rfl
            refine ⟨fun ρ W ⟨hcst, hglb, hfun⟩ hX hp ho => ?_, ?_⟩ -- 8: slot 69 := Op.call { value (Operand.func 33), args := #[const (Value.slice none 0 0), t68], argTypes 
            · obtain ⟨p68, -⟩ := hp
              change ρ (.tmp 68) = _ at p68
              have hW := (Below.refl _ _).drew.trans hX
              refine turn_plain ?_
              have ce := @enter_of Tryd.prog 33 _ Tryd.func33 (by kernel_rfl) (by kernel_rfl)
              refine ok_call (op_call2 hfun ce (by exact rfl) (hcst _) p68) ?_
              refine (vput_any none 0 0 [] x W rfl (by omega) (At.nil _ _) HVx.out).mono ?_
              rintro e W' ⟨A', c', rfl, hat, bel, q1, q2⟩
              exact ⟨_, rfl, bel, ⟨A', c', rfl, hat, q1, q2⟩⟩
            refine ⟨fun ρ W ⟨hcst, hglb, hfun⟩ hX hp ho => ?_, ?_⟩ -- 9: slot 10 := Op.assign t64
            · obtain ⟨p64, -⟩ := hp
              obtain ⟨A64, c64, p64, hat64, ca64, cb64⟩ := p64
              change ρ (.tmp 64) = _ at p64
              have hW := (Below.refl _ _).drew.trans hX
              refine turn_plain ?_
              exact ok_same (op_assign (by exact rfl) p64) ⟨A64, c64, rfl, hat64, ca64, cb64⟩
            refine ⟨fun ρ W ⟨hcst, hglb, hfun⟩ hX hp ho => ?_, ?_⟩ -- 10: slot 11 := Op.assign t69
            · obtain ⟨p69, -⟩ := hp
              obtain ⟨A69, c69, p69, hat69, ca69, cb69⟩ := p69
              change ρ (.tmp 69) = _ at p69
              have hW := (Below.refl _ _).drew.trans hX
              refine turn_plain ?_
              exact ok_same (op_assign (by exact rfl) p69) ⟨A69, c69, rfl, hat69, ca69, cb69⟩
            exact trivial
          case fing =>
            rintro v W hX ⟨f0, f1, f2, f3, f4, f5, f6, f7, f8, f9, f10, -⟩
            obtain ⟨A_3, c_3, f3, hat_3, ca_3, cb_3⟩ := f3
            obtain ⟨A_8, c_8, f8, hat_8, ca_8, cb_8⟩ := f8
            obtain ⟨A_9, c_9, f9, hat_9, ca_9, cb_9⟩ := f9
            obtain ⟨A_10, c_10, f10, hat_10, ca_10, cb_10⟩ := f10
            simp only [is] at f0 f1 f2 f4 f5 f6 f7
            simp only [putAll, Act.put, List.setIfInBounds_toArray, List.set_cons_succ, List.set_cons_zero, f0, f1, f2, f3, f4, f5, f6, f7, f8, f9, f10]
            clear f0 f1 f2 f3 f4 f5 f6 f7 f8 f9 f10
            have HW1 := Lib.hid hX
            have HS0 := Lib.hid hat_9
            clear hX hat_3 hat_8
            obtain ⟨by1, oy1, eA, _⟩ := hat_10.nat 0 (by rw [HLE1.out]; omega)
            subst eA
            have HS1 := Lib.hid hat_10
            clear hat_9 hat_10
            unfold maxLen at cb_9 cb_10
            by_cases hlt2 : (VM.enc x0).length < (VM.enc x).length
            · skip
              have hdl : decide ((VM.enc x0).length < (VM.enc x).length) = true := by simpa using hlt2
              have HNE := Lib.hid (HNEQ.out hlt2)
              clear HNEQ
              generalize VM.enc x0 = E0 at *
              generalize VM.enc x = E1 at *
              have hc10 : E0.length ≤ c_10 := by omega
              have HST := Lib.hid (show At _ _ (nats .u8 (E1.take E0.length)) from by rw [nats_take]; exact HS1.out.take)
              have HLT := Lib.hid (show (E1.take E0.length).length = E0.length by rw [List.length_take]; omega)
              generalize E1.take E0.length = T at *
              go_wp2_with fail
              refine wp_region_below [is ?h0, is ?h1, is ?h2, is ?h3, is ?h4, is ?h5, is ?h6, is ?h7, is ?h8, is ?h9, is ?h10, is ?h11, is ?h12, is ?h13, is ?h14]
                [⟨[], [10], none⟩, ⟨[(70, 0)], [], none⟩, ⟨[], [11], none⟩, ⟨[(72, 2)], [], none⟩, ⟨[(71, 1), (73, 3)], [], none⟩, ⟨[(74, 4)], [], none⟩, ⟨[(75, 5)], [10], some (75, true)⟩, ⟨[(76, 6), (75, 5)], [], some (75, true)⟩, ⟨[(75, 5)], [11], some (75, true)⟩, ⟨[(75, 5)], [10], some (75, true)⟩, ⟨[(79, 9), (75, 5)], [], some (75, true)⟩, ⟨[(78, 8), (80, 10), (75, 5)], [], some (75, true)⟩, ⟨[(81, 11), (75, 5)], [], some (75, true)⟩, ⟨[(77, 7), (82, 12), (75, 5)], [], some (75, true)⟩, ⟨[(75, 5), (83, 13)], [], none⟩] (by kernel_rfl) (by kernel_rfl) (by kernel_rfl) (by kernel_rfl) (by kernel_rfl) ?monoh ?stepsh ?finh
              case monoh => exact ⟨mono_eq _, mono_eq _, mono_eq _, mono_eq _, mono_eq _, mono_eq _, mono_eq _, mono_eq _, mono_eq _, mono_eq _, mono_eq _, mono_eq _, mono_eq _, mono_eq _, mono_eq _, trivial⟩
              case stepsh =>
                refine ⟨fun ρ W ⟨hcst, hglb, hfun⟩ hX hp ho => ?_, ?_⟩ -- 0: slot 70 := Op.move t10
                · obtain ⟨o10, -⟩ := ho
                  change ρ (.tmp 10) = _ at o10
                  refine turn_plain (ok_is ?_ rfl)
                  simp only [execOp, o10]; go_simp; try exact rfl
                refine ⟨fun ρ W ⟨hcst, hglb, hfun⟩ hX hp ho => ?_, ?_⟩ -- 1: slot 71 := Op.call { builtin len, args := #[t70], argTypes := #[36] }
                · obtain ⟨p70, -⟩ := hp
                  change ρ (.tmp 70) = _ at p70
                  refine turn_plain (ok_is ?_ rfl)
                  simp only [execOp, p70]; go_simp; try exact rfl
                refine ⟨fun ρ W ⟨hcst, hglb, hfun⟩ hX hp ho => ?_, ?_⟩ -- 2: slot 72 := Op.move t11
                · obtain ⟨o11, -⟩ := ho
                  change ρ (.tmp 11) = _ at o11
                  refine turn_plain (ok_is ?_ rfl)
                  simp only [execOp, o11]; go_simp; try exact rfl
                refine ⟨fun ρ W ⟨hcst, hglb, hfun⟩ hX hp ho => ?_, ?_⟩ -- 3: slot 73 := Op.call { builtin len, args := #[t72], argTypes := #[36] }
                · obtain ⟨p72, -⟩ := hp
                  change ρ (.tmp 72) = _ at p72
                  refine turn_plain (ok_is ?_ rfl)
                  simp only [execOp, p72]; go_simp; try exact rfl
                refine ⟨fun ρ W ⟨hcst, hglb, hfun⟩ hX hp ho => ?_, ?_⟩ -- 4: slot 74 := Op.binOp BinOp.lss 3 t71 t73 3
                · obtain ⟨p71, p73, -⟩ := hp
                  change ρ (.tmp 71) = _ at p71
                  change ρ (.tmp 73) = _ at p73
                  refine turn_plain (ok_is ?_ rfl)
                  simp only [execOp, p71, p73]; go_simp; try exact rfl
                refine ⟨fun ρ W ⟨hcst, hglb, hfun⟩ hX hp ho => ?_, ?_⟩ -- 5: slot 75 := Op.move t74
                · obtain ⟨p74, -⟩ := hp
                  change ρ (.tmp 74) = _ at p74
                  refine turn_plain (ok_is ?_ rfl)
                  simp only [execOp, p74]; go_simp; try exact rfl
                refine ⟨fun ρ W ⟨hcst, hglb, hfun⟩ hX hp ho => ?_, ?_⟩ -- 6: slot 76 := Op.move t10   [guarded: some (5, true)]
                · obtain ⟨p75, -⟩ := hp
                  change ρ (.tmp 75) = _ at p75
                  obtain ⟨o10, -⟩ := ho
                  change ρ (.tmp 10) = _ at o10
                  refine turn_yes p75 (ok_is ?_ rfl)
                  simp only [execOp, o10]; go_simp; try exact rfl
                refine ⟨fun ρ W ⟨hcst, hglb, hfun⟩ hX hp ho => ?_, ?_⟩ -- 7: slot 77 := Op.convert 36 9 t76   [guarded: some (5, true)]
                · obtain ⟨p76, p75, -⟩ := hp
                  change ρ (.tmp 76) = _ at p76
                  change ρ (.tmp 75) = _ at p75
                  have hW := (Below.refl _ _).drew.trans hX
                  refine turn_yes p75 ?_
                  refine ok_is (by simp only [execOp, p76]; rw [Sem.run_bind, run_str W elt_u8.ht (by kernel_rfl) (by kernel_rfl) rfl (HS0.out.later hW (Nat.le_refl _))]; rfl) rfl
                refine ⟨fun ρ W ⟨hcst, hglb, hfun⟩ hX hp ho => ?_, ?_⟩ -- 8: slot 78 := Op.move t11   [guarded: some (5, true)]
                · obtain ⟨p75, -⟩ := hp
                  change ρ (.tmp 75) = _ at p75
                  obtain ⟨o11, -⟩ := ho
                  change ρ (.tmp 11) = _ at o11
                  refine turn_yes p75 (ok_is ?_ rfl)
                  simp only [execOp, o11]; go_simp; try exact rfl
                refine ⟨fun ρ W ⟨hcst, hglb, hfun⟩ hX hp ho => ?_, ?_⟩ -- 9: slot 79 := Op.move t10   [guarded: some (5, true)]
                · obtain ⟨p75, -⟩ := hp
                  change ρ (.tmp 75) = _ at p75
                  obtain ⟨o10, -⟩ := ho
                  change ρ (.tmp 10) = _ at o10
                  refine turn_yes p75 (ok_is ?_ rfl)
                  simp only [execOp, o10]; go_simp; try exact rfl
                refine ⟨fun ρ W ⟨hcst, hglb, hfun⟩ hX hp ho => ?_, ?_⟩ -- 10: slot 80 := Op.call { builtin len, args := #[t79], argTypes := #[36] }   [guarded: some (5, true)]
                · obtain ⟨p79, p75, -⟩ := hp
                  change ρ (.tmp 79) = _ at p79
                  change ρ (.tmp 75) = _ at p75
                  refine turn_yes p75 (ok_is ?_ rfl)
                  simp only [execOp, p79]; go_simp; try exact rfl
                refine ⟨fun ρ W ⟨hcst, hglb, hfun⟩ hX hp ho => ?_, ?_⟩ -- 11: slot 81 := Op.slice 36 t78 none (some t80) none   [guarded: some (5, true)]
                · obtain ⟨p78, p80, p75, -⟩ := hp
                  change ρ (.tmp 78) = _ at p78
                  change ρ (.tmp 80) = _ at p80
                  change ρ (.tmp 75) = _ at p75
                  refine turn_yes p75 (ok_is ?_ rfl)
                  simp only [execOp, p78, p80]; go_simp; try exact rfl
                refine ⟨fun ρ W ⟨hcst, hglb, hfun⟩ hX hp ho => ?_, ?_⟩ -- 12: slot 82 := Op.convert 36 9 t81   [guarded: some (5, true)]
                · obtain ⟨p81, p75, -⟩ := hp
                  change ρ (.tmp 81) = _ at p81
                  change ρ (.tmp 75) = _ at p75
                  have hW := (Below.refl _ _).drew.trans hX
                  refine turn_yes p75 ?_
                  refine ok_is (by simp only [execOp, p81]; rw [Sem.run_bind, run_str W elt_u8.ht (by kernel_rfl) (by kernel_rfl) HLT.out (HST.out.later hW (Nat.le_refl _))]; rfl) rfl
                refine ⟨fun ρ W ⟨hcst, hglb, hfun⟩ hX hp ho => ?_, ?_⟩ -- 13: slot 83 := Op.binOp BinOp.eql 9 t77 t82 9   [guarded: some (5, true)]
                · obtain ⟨p77, p82, p75, -⟩ := hp
                  change ρ (.tmp 77) = _ at p77
                  change ρ (.tmp 82) = _ at p82
                  change ρ (.tmp 75) = _ at p75
                  have hb := HNE.out
                  refine turn_yes p75 (ok_is ?_ rfl)
                  simp only [execOp, p77, p82]; go_simp; try exact rfl
                refine ⟨fun ρ W ⟨hcst, hglb, hfun⟩ hX hp ho => ?_, ?_⟩ -- 14: slot 84 := Op.pick t75 t83 (const (Value.bool false))
                · obtain ⟨p75, p83, -⟩ := hp
                  change ρ (.tmp 75) = _ at p75
                  change ρ (.tmp 83) = _ at p83
                  refine turn_plain (ok_is ?_ rfl)
                  simp only [execOp, hcst, p75, p83]; go_simp; try exact rfl
                exact trivial
              case finh =>
                rintro v W hX ⟨f0, f1, f2, f3, f4, f5, f6, f7, f8, f9, f10, f11, f12, f13, f14, -⟩
                simp only [is] at f0 f1 f2 f3 f4 f5 f6 f7 f8 f9 f10 f11 f12 f13 f14
                simp only [putAll, Act.put, List.setIfInBounds_toArray, List.set_cons_succ, List.set_cons_zero, f0, f1, f2, f3, f4, f5, f6, f7, f8, f9, f10, f11, f12, f13, f14]
                clear f0 f1 f2 f3 f4 f5 f6 f7 f8 f9 f10 f11 f12 f13 f14
                have HW2 := Lib.hid (HW1.out.trans (hX.mono HW1.out.size))
                clear hX
                go_wp2_with fail
                exact ⟨⟨j + 1, by omega, by simp, by rw [HL2.out]; push_cast; rfl, HBJ.out.trans (HW2.out.mono HBJ.out.size)⟩, by simp only [intOf]; omega⟩
            · skip
              have hdl : decide ((VM.enc x0).length < (VM.enc x).length) = false := by simpa using hlt2
              clear HNEQ hlt2
              generalize VM.enc x0 = E0 at *
              generalize VM.enc x = E1 at *
              go_wp2_with fail
              refine wp_region_below [is ?i0, is ?i1, is ?i2, is ?i3, is ?i4, is ?i5, is (undef), is (undef), is (undef), is (undef), is (undef), is (undef), is (undef), is (undef), is ?i14]
                [⟨[], [10], none⟩, ⟨[(70, 0)], [], none⟩, ⟨[], [11], none⟩, ⟨[(72, 2)], [], none⟩, ⟨[(71, 1), (73, 3)], [], none⟩, ⟨[(74, 4)], [], none⟩, ⟨[(75, 5)], [10], some (75, true)⟩, ⟨[(76, 6), (75, 5)], [], some (75, true)⟩, ⟨[(75, 5)], [11], some (75, true)⟩, ⟨[(75, 5)], [10], some (75, true)⟩, ⟨[(79, 9), (75, 5)], [], some (75, true)⟩, ⟨[(78, 8), (80, 10), (75, 5)], [], some (75, true)⟩, ⟨[(81, 11), (75, 5)], [], some (75, true)⟩, ⟨[(77, 7), (82, 12), (75, 5)], [], some (75, true)⟩, ⟨[(75, 5), (83, 13)], [], none⟩] (by kernel_rfl) (by kernel_rfl) (by kernel_rfl) (by kernel_rfl) (by kernel_rfl) ?monoi ?stepsi ?fini
              case monoi => exact ⟨mono_eq _, mono_eq _, mono_eq _, mono_eq _, mono_eq _, mono_eq _, mono_eq _, mono_eq _, mono_eq _, mono_eq _, mono_eq _, mono_eq _, mono_eq _, mono_eq _, mono_eq _, trivial⟩
              case stepsi =>
                refine ⟨fun ρ W ⟨hcst, hglb, hfun⟩ hX hp ho => ?_, ?_⟩ -- 0: slot 70 := Op.move t10
                · obtain ⟨o10, -⟩ := ho
                  change ρ (.tmp 10) = _ at o10
                  refine turn_plain (ok_is ?_ rfl)
                  simp only [execOp, o10]; go_simp; try exact rfl
                refine ⟨fun ρ W ⟨hcst, hglb, hfun⟩ hX hp ho => ?_, ?_⟩ -- 1: slot 71 := Op.call { builtin len, args := #[t70], argTypes := #[36] }
                · obtain ⟨p70, -⟩ := hp
                  change ρ (.tmp 70) = _ at p70
                  refine turn_plain (ok_is ?_ rfl)
                  simp only [execOp, p70]; go_simp; try exact rfl
                refine ⟨fun ρ W ⟨hcst, hglb, hfun⟩ hX hp ho => ?_, ?_⟩ -- 2: slot 72 := Op.move t11
                · obtain ⟨o11, -⟩ := ho
                  change ρ (.tmp 11) = _ at o11
                  refine turn_plain (ok_is ?_ rfl)
                  simp only [execOp, o11]; go_simp; try exact rfl
                refine ⟨fun ρ W ⟨hcst, hglb, hfun⟩ hX hp ho => ?_, ?_⟩ -- 3: slot 73 := Op.call { builtin len, args := #[t72], argTypes := #[36] }
                · obtain ⟨p72, -⟩ := hp
                  change ρ (.tmp 72) = _ at p72
                  refine turn_plain (ok_is ?_ rfl)
                  simp only [execOp, p72]; go_simp; try exact rfl
                refine ⟨fun ρ W ⟨hcst, hglb, hfun⟩ hX hp ho => ?_, ?_⟩ -- 4: slot 74 := Op.binOp BinOp.lss 3 t71 t73 3
                · obtain ⟨p71, p73, -⟩ := hp
                  change ρ (.tmp 71) = _ at p71
                  change ρ (.tmp 73) = _ at p73
                  refine turn_plain (ok_is ?_ rfl)
                  simp only [execOp, p71, p73]; go_simp; try exact rfl
                refine ⟨fun ρ W ⟨hcst, hglb, hfun⟩ hX hp ho => ?_, ?_⟩ -- 5: slot 75 := Op.move t74
                · obtain ⟨p74, -⟩ := hp
                  change ρ (.tmp 74) = _ at p74
                  refine turn_plain (ok_is ?_ rfl)
                  simp only [execOp, p74]; go_simp; try exact rfl
                refine ⟨fun ρ W ⟨hcst, hglb, hfun⟩ hX hp ho => ?_, ?_⟩ -- 6: slot 76 := Op.move t10   [guarded: some (5, true)]
                · obtain ⟨p75, -⟩ := hp
                  change ρ (.tmp 75) = _ at p75
                  obtain ⟨o10, -⟩ := ho
                  change ρ (.tmp 10) = _ at o10
                  exact turn_skip p75 (by decide) rfl
                refine ⟨fun ρ W ⟨hcst, hglb, hfun⟩ hX hp ho => ?_, ?_⟩ -- 7: slot 77 := Op.convert 36 9 t76   [guarded: some (5, true)]
                · obtain ⟨p76, p75, -⟩ := hp
                  change ρ (.tmp 76) = _ at p76
                  change ρ (.tmp 75) = _ at p75
                  exact turn_skip p75 (by decide) rfl
                refine ⟨fun ρ W ⟨hcst, hglb, hfun⟩ hX hp ho => ?_, ?_⟩ -- 8: slot 78 := Op.move t11   [guarded: some (5, true)]
                · obtain ⟨p75, -⟩ := hp
                  change ρ (.tmp 75) = _ at p75
                  obtain ⟨o11, -⟩ := ho
                  change ρ (.tmp 11) = _ at o11
                  exact turn_skip p75 (by decide) rfl
                refine ⟨fun ρ W ⟨hcst, hglb, hfun⟩ hX hp ho => ?_, ?_⟩ -- 9: slot 79 := Op.move t10   [guarded: some (5, true)]
                · obtain ⟨p75, -⟩ := hp
                  change ρ (.tmp 75) = _ at p75
                  obtain ⟨o10, -⟩ := ho
                  change ρ (.tmp 10) = _ at o10
                  exact turn_skip p75 (by decide) rfl
                refine ⟨fun ρ W ⟨hcst, hglb, hfun⟩ hX hp ho => ?_, ?_⟩ -- 10: slot 80 := Op.call { builtin len, args := #[t79], argTypes := #[36] }   [guarded: some (5, true)]
                · obtain ⟨p79, p75, -⟩ := hp
                  change ρ (.tmp 79) = _ at p79
                  change ρ (.tmp 75) = _ at p75
                  exact turn_skip p75 (by decide) rfl
                refine ⟨fun ρ W ⟨hcst, hglb, hfun⟩ hX hp ho => ?_, ?_⟩ -- 11: slot 81 := Op.slice 36 t78 none (some t80) none   [guarded: some (5, true)]
                · obtain ⟨p78, p80, p75, -⟩ := hp
                  change ρ (.tmp 78) = _ at p78
                  change ρ (.tmp 80) = _ at p80
                  change ρ (.tmp 75) = _ at p75
                  exact turn_skip p75 (by decide) rfl
                refine ⟨fun ρ W ⟨hcst, hglb, hfun⟩ hX hp ho => ?_, ?_⟩ -- 12: slot 82 := Op.convert 36 9 t81   [guarded: some (5, true)]
                · obtain ⟨p81, p75, -⟩ := hp
                  change ρ (.tmp 81) = _ at p81
                  change ρ (.tmp 75) = _ at p75
                  exact turn_skip p75 (by decide) rfl
                refine ⟨fun ρ W ⟨hcst, hglb, hfun⟩ hX hp ho => ?_, ?_⟩ -- 13: slot 83 := Op.binOp BinOp.eql 9 t77 t82 9   [guarded: some (5, true)]
                · obtain ⟨p77, p82, p75, -⟩ := hp
                  change ρ (.tmp 77) = _ at p77
                  change ρ (.tmp 82) = _ at p82
                  change ρ (.tmp 75) = _ at p75
                  exact turn_skip p75 (by decide) rfl
                refine ⟨fun ρ W ⟨hcst, hglb, hfun⟩ hX hp ho => ?_, ?_⟩ -- 14: slot 84 := Op.pick t75 t83 (const (Value.bool false))
                · obtain ⟨p75, p83, -⟩ := hp
                  change ρ (.tmp 75) = _ at p75
                  change ρ (.tmp 83) = _ at p83
                  refine turn_plain (ok_is ?_ rfl)
                  simp only [execOp, hcst, p75, p83]; go_simp; try exact rfl
                exact trivial
              case fini =>
                rintro v W hX ⟨f0, f1, f2, f3, f4, f5, f6, f7, f8, f9, f10, f11, f12, f13, f14, -⟩
                simp only [is] at f0 f1 f2 f3 f4 f5 f6 f7 f8 f9 f10 f11 f12 f13 f14
                simp only [putAll, Act.put, List.setIfInBounds_toArray, List.set_cons_succ, List.set_cons_zero, f0, f1, f2, f3, f4, f5, f6, f7, f8, f9, f10, f11, f12, f13, f14]
                clear f0 f1 f2 f3 f4 f5 f6 f7 f8 f9 f10 f11 f12 f13 f14
                have HW2 := Lib.hid (HW1.out.trans (hX.mono HW1.out.size))
                clear hX
                go_wp2_with fail
                exact ⟨⟨j + 1, by omega, by simp, by rw [HL2.out]; push_cast; rfl, HBJ.out.trans (HW2.out.mono HBJ.out.size)⟩, by simp only [intOf]; omega⟩
        · obtain rfl : j = k := by omega
          rw [HTL.out]
          have HGJ := Lib.hid (HG0.out.later (HBB.out.trans (HBJ.out.mono HHZ.out)) (Nat.le_refl _))
          have HBW := Lib.hid (HBB.out.trans (HBJ.out.mono HHZ.out))
          clear hlt hj
          generalize (catE l).length = N at *
          go_wp2_with fail
          refine (sure11 _ HGJ.out).mono ?_
          rintro e w2 ⟨rfl, bel⟩
          go_wp2_with fail
          go_ret
          exact ⟨rfl, HBW.out.trans (bel.mono HBW.out.size)⟩
set_option maxRecDepth 100000 in
theorem vrow_nil (A : Option Addr) (c : Nat) (w : World) (hg : Glob w) :
    Calls Tryd.prog 8 #[.slice A 0 c] w fun e w' => e = .returned (.bool true) ∧ Below w.heap.size w w' := by
  have HG := Lib.hid hg
  clear hg
  go_enter Tryd.func8, Tryd.ntmps8
  go_wp2
  go_loopw [3, 4] (fun s i wr => s = .slice none 0 0 ∧ i = .int .i64 0 ∧ w = wr) (fun _ _ _ => 0)
  case atStart => exact ⟨rfl, rfl, rfl⟩
  case round =>
    obtain ⟨rfl, rfl, rfl⟩ := hrel
    go_wp2_with fail
    go_loopw [5, 6] (fun a i wr => a = .int .i64 0 ∧ i = .int .i64 0 ∧ w = wr) (fun _ _ _ => 0)
    case atStart => exact ⟨rfl, rfl, rfl⟩
    case round =>
      obtain ⟨rfl, rfl, rfl⟩ := hrel
      go_wp2_with fail
      refine (sure11 _ HG.out).mono ?_
      rintro e w2 ⟨rfl, bel⟩
      go_wp2_with fail
      go_ret
      exact ⟨rfl, bel⟩
theorem vrow_any (A : Option Addr) (c : Nat) (l : List Nat) (w : World) (hnc : l.length ≤ c) (hc63 : c ≤ 9223372036854775807) (ha : At w A (nats .u64 l)) (hr : ∀ y ∈ l, y < 18446744073709551616) (hg : Glob w) :
    Calls Tryd.prog 8 #[.slice A l.length c] w fun e w' => e = .returned (.bool true) ∧ Below w.heap.size w w' := by
  by_cases hl : l.length ≤ 60
  · cases l with
    | nil => exact vrow_nil A c w hg
    | cons x l =>
      obtain ⟨b, o, rfl, _⟩ := ha.nat 0 (by simp)
      exact vrow_some b o c (x :: l) w hl (by simp) ha hr hg
  · exact vrow_big A l.length c w (by omega) (by omega) hg
theorem all_u64 {l : List Nat} (h : ∀ i, l.getD i 0 < max 18446744073709551616 1) : ∀ y ∈ l, y < 18446744073709551616 := by
  intro y hy
  obtain ⟨i, hi, rfl⟩ := List.mem_iff_getElem.1 hy
  have := h i
  rw [getD_lt hi] at this
  omega
end Go.Proofs.YtbgmbemaopnjfaaDoor
