/- Layer 13: all that was written. -/
import Derived.Test.YtlimabhojocimaaDoorFrC
import Derived.Laws.CopyOwn
import Derived.Laws.MakeOwn
import Derived.Deep.RegionLaw
import Derived.Deep.CutRange
namespace Go.Proofs.YtlimabhojocimaaDoor
open Go.RowKit
theorem wpList_mkn {P : Program} {w : World} {ops : Array Oper} {rest : List Oper} {o : Oper} {a : Act} {Q : Exit → Act → World → Prop} {t e : TypeId} {z : Value} {bytes : Nat} (E : Elt P t e z 1 bytes) (hz1 : z.cells = #[z])
    (hgd : Region.wanted o (yielded ops a.tmps) = true) (l c : Operand) (hop : o.op = Op.makeSlice t l c) (kl kc : IntKind) (C : Int) (n : Nat) (hl : a.eval l = .int kl C) (hc : a.eval c = .int kc C) (hC : C = (n : Int)) (b2 : bytes * n ≤ 281474976710656) (b3 : n ≤ maxLen)
    (hK : ∀ w', Holds w' w.heap.size e (List.replicate n z).toArray → Below w.heap.size w w' → w.heap.size < w'.heap.size → wpList P ops Q rest (a.put o.dst (.slice (some ⟨w.heap.size, 0, none⟩) n n)) w') :
    wpList P ops Q (o :: rest) a w := by
  obtain ⟨i, hi, hz, hs, hb⟩ := E.hi
  have h63 : (n : Int) ≤ 9223372036854775807 := by unfold maxLen at b3; omega
  have hb' : (i.bytes : Int) * (n : Int) ≤ 281474976710656 := by
    have h : ((i.bytes * n : Nat) : Int) ≤ 281474976710656 := by rw [hb]; omega
    rwa [Int.natCast_mul] at h
  have hr := run_make (P := P) w t e i z E.ht hi hz kl kc n n (by omega) (Int.le_refl _) hb' h63
  simp only [Int.toNat_natCast, hs, Nat.mul_one, hz1] at hr
  have e1 : madeCells #[z] n = (List.replicate n z).toArray := by
    rw [← toList_madeCells_one, Array.toArray_toList]
  rw [e1] at hr
  refine wpList_step fun K hK' => ?_
  rw [if_pos hgd]
  subst hC
  unfold Oper.wp
  simp [execOp, hop, hl, hc, hr, Result.andThen]
  exact hK' _ _ (hK _ (Holds.new w e _ _ rfl) ((Below.refl _ _).alloc (Nat.le_refl _) _) (by simp))
def atM (v : Value) : Nat := match v with | .pointer (some a) => a.block + 1 | _ => 0
section
variable {g : Nat} {p : Option Addr} {fs : List (List Nat)} {w : World}
set_option maxRecDepth 100000 in
set_option maxHeartbeats 1000000 in
theorem wall_any (h : Wr w g p fs) (hm : tot fs ≤ 1000000) :
    Calls Tryd.prog 17 #[.pointer (some ⟨g, 0, none⟩)] w (SlN w fs.reverse.flatten) := by
  obtain ⟨n, hn⟩ : ∃ n, tot fs = n := ⟨_, rfl⟩
  have H0 := h.blk_
  rw [hn] at hm H0
  have HC := Lib.hid h.ch
  have HN := Lib.hid hn
  have c0 : w.cell? ⟨g, 0, none⟩ = some (.pointer p) := H0.cell 0
  have c1 : w.cell? ⟨g, 1, none⟩ = some (.int .i64 (n : Nat)) := H0.cell 1
  have HH := Lib.hid H0
  clear h hn H0
  go_enter Tryd.func17, Tryd.ntmps17
  go_wp2_with (at_make; refine wpList_mkn elt_u8 rfl rfl (.tmp 11) (.tmp 11) rfl .i64 .i64 _ n rfl rfl rfl (by omega) (by unfold maxLen; omega) ?_; intro w1 h1 b1 s1; have H1 := Lib.hid h1; have B1 := Lib.hid b1; have HL := HH.out.lt; have c10 : w1.cell? ⟨g, 0, none⟩ = some (.pointer p) := (HH.out.later b1 (Nat.le_refl _)).cell 0; have c11 : w1.cell? ⟨g, 1, none⟩ = some (.int .i64 (n : Nat)) := (HH.out.later b1 (Nat.le_refl _)).cell 1; clear h1 b1 c0 c1)
  go_loopw [4, 5] (fun e f wr => ∃ (rs dn : List (List Nat)) (q : Option Addr) (m : Nat) (cur : List Value), fs = dn ++ rs ∧ tot rs = m ∧ m ≤ n ∧ e = .int .i64 (m : Nat) ∧ f = .pointer q ∧ Chain w g q rs ∧ Holds wr w.heap.size 5 cur.toArray ∧ cur.length = n ∧ cur.drop m = nats .u8 dn.reverse.flatten ∧ Below w.heap.size w wr) (fun _ f _ => atM f)
  case atStart => exact ⟨fs, [], p, n, _, rfl, HN.out, Nat.le_refl _, rfl, rfl, HC.out, H1.out, by simp, by simp [nats], B1.out⟩
  case round =>
    obtain ⟨rs, dn, q, m, cur, hfs, hm', hmn, rfl, rfl, hch, hcur, hlen, hdrop, hbel⟩ := hrel
    have HF := Lib.hid hfs
    have HM := Lib.hid hm'
    have HCU := Lib.hid hcur
    have HLE := Lib.hid hlen
    have HD := Lib.hid hdrop
    have HB := Lib.hid hbel
    clear hfs hm' hcur hlen hdrop hbel
    rcases rs with _ | ⟨b, rs⟩
    · obtain rfl : q = none := hch
      obtain rfl : m = 0 := by have := HM.out; simpa [tot] using this.symm
      have X := Lib.hid (show nats .u8 fs.reverse.flatten = cur from by rw [HF.out, List.append_nil, ← HD.out, List.drop_zero])
      have XL : fs.reverse.flatten.length = n := by have := congrArg List.length X.out; rw [nats_length, HLE.out] at this; exact this
      go_wp2
      go_ret
      refine ⟨some ⟨w.heap.size, 0, none⟩, n, by rw [XL]; rfl, ?_, HB.out, by omega, by unfold maxLen; omega⟩
      rw [X.out]
      intro i x hx
      refine ⟨w.heap.size, 0, rfl, ?_⟩
      rw [Nat.zero_add]
      have := HCU.out.cell i
      rw [this, List.getElem?_toArray]
      exact hx
    · obtain ⟨k, q', A, c, rfl, hk1, hk2, hk3, hk4, hk5, hk6⟩ := hch
      have d0 : wr.cell? ⟨k, 0, none⟩ = some (.pointer q') := (hk4.later HB.out (Nat.le_refl _)).cell 0
      have d1 : wr.cell? ⟨k, 1, none⟩ = some (.slice A b.length c) := (hk4.later HB.out (Nat.le_refl _)).cell 1
      obtain ⟨m', hm2⟩ : ∃ m', m' = tot rs := ⟨_, rfl⟩
      have hmm : m = b.length + m' := by have := HM.out; rw [tot_cons] at this; omega
      have hsub : (m : Int) - (b.length : Int) = (m' : Nat) := by omega
      have hmn' : m' ≤ n := by omega
      have hmnI : (m' : Int) ≤ n := by omega
      have HM2 := Lib.hid hm2
      have HMM := Lib.hid hmm
      have K4 := Lib.hid hk4
      have K5 := Lib.hid hk5
      have K6 := Lib.hid hk6
      have K1 := Lib.hid hk1
      clear hm2 hmm hk4 hk5 hk6 hk1
      go_upto_region 9 with fail
      have hmm := HMM.out
      have HP := Lib.hid (show 0 < (nats .u8 b).length → (if n = m' then some (⟨w.heap.size, 0, none⟩ : Addr) else some ⟨w.heap.size, m', none⟩) = some ⟨w.heap.size, m', none⟩ ∧ ∃ ad, A = some ad ∧ ∀ j v, (nats .u8 b)[j]? = some v → wr.drew.cell? (ad.add j) = some v from by
        intro h0
        rw [nats_length] at h0
        refine ⟨if_neg (by omega), ?_⟩
        have X := K5.out.later HB.out (Nat.le_refl _)
        obtain ⟨b', o', hA, _⟩ := X.nat 0 h0
        refine ⟨⟨b', o', none⟩, hA, fun j v hj => ?_⟩
        rw [addr_add]
        obtain ⟨b2, o2, hA2, h2⟩ := X j v hj
        rw [hA] at hA2
        injection hA2 with hA2
        injection hA2 with h3 h4
        subst h3; subst h4
        exact h2)
      have HQ := Lib.hid (show (nats .u8 b).length = Nat.min b.length (n - m') from (nats_length _ _).trans (Nat.min_eq_left (show b.length ≤ n - m' from by omega)).symm)
      have HR := Lib.hid (show m' + (nats .u8 b).length ≤ cur.length from by rw [nats_length, HLE.out]; omega)
      clear hmm
      go_region_law ((go_loud (refine step_copy_splice rfl (.tmp 36) (.tmp 40) 22 22 rfl 5 (by kernel_rfl) (by kernel_rfl) (if n = m' then some (⟨w.heap.size, 0, none⟩ : Addr) else some ⟨w.heap.size, m', none⟩) A (n - m') (n - m') b.length c rfl rfl w.heap.size m' cur 5 HCU.out.drew (nats .u8 b) HQ.out HP.out HR.out (nats_one _ _) w.heap.size w HB.out.drew (Nat.le_refl _) ?_)); intro w4 hg4 hb4; have G4 := Lib.hid hg4; have B4 := Lib.hid hb4; have d2 : w4.cell? ⟨k, 0, none⟩ = some (.pointer q') := (K4.out.later hb4 (Nat.le_refl _)).cell 0; clear hg4 hb4 d0 d1)
      go_wp2
      go_round
      case rel =>
        refine ⟨rs, dn ++ [b], q', m', splice cur m' (nats .u8 b), by rw [HF.out]; simp, HM2.out.symm, hmn', rfl, rfl, K6.out, G4.out.out, ?_, ?_, B4.out⟩
        · rw [length_splice _ _ _ HR.out, HLE.out]
        · have e1 : (cur.take m').length = m' := by rw [List.length_take, HLE.out]; omega
          have e2 : m' + (nats .u8 b).length = m := by rw [nats_length, HMM.out]; omega
          have e3 : List.drop m' (splice cur m' (nats .u8 b)) = nats .u8 b ++ cur.drop (m' + (nats .u8 b).length) := by
            unfold splice; rw [List.drop_append_of_le_length (by rw [e1]; exact Nat.le_refl _), List.drop_of_length_le (by rw [e1]; exact Nat.le_refl _), List.nil_append]
          rw [e3, e2, HD.out]
          simp [nats]
      case measure =>
        have h := K1.out
        cases q' with
        | none => simp [atM]
        | some a => have := h a.block rfl; simp [atM]; omega
end
end Go.Proofs.YtlimabhojocimaaDoor
