/- Layer 13, the document: Put of a number, and of bytes. Layer 14, the document: Encode. Layer 13, the document: num. -/
import Derived.Test.YtodimanghmepoaaDoorLfD
import Derived.Lib.SlBytesConst
namespace Go.Proofs.YtodimanghmepoaaDoor
open Go.RowKit
theorem Own.base_ {w : World} {B B' : Nat} {e : TypeId} {size : Nat} {A : Option Addr} {n c : Nat} {xs : List Value} (h : Own w B e size A n c xs) (hb : B' ≤ B) : Own w B' e size A n c xs := by
  refine ⟨h.1, ?_⟩
  rcases h.2 with h0 | ⟨g, cap, cur, h1, h2, h3⟩
  · exact .inl h0
  · exact .inr ⟨g, cap, cur, h1, Nat.le_trans hb h2, h3⟩
/-- a field as a value -/
def fldV (k : Int) (n : Int) (B : Value) (many : Int) (most : Int) : Value := .agg #[.int .u8 k, .int .u64 n, .slice none 0 0, B, .int .u8 0, .int .u8 0, .int .u8 0, .int .u8 0, .int .u8 0, .int .u8 0, .int .u8 0, .int .u8 0, .int .u8 0, .int .u8 0, .int .u8 0, .int .u8 0, .int .u8 0, .int .u8 0, .int .u8 0, .int .u8 0, .int .u8 0, .int .u8 0, .int .u8 0, .int .u8 0, .int .u8 0, .int .u8 0, .int .u8 0, .int .u8 0, .int .u8 0, .int .u8 0, .int .u8 0, .int .u8 0, .int .u8 0, .int .u8 0, .int .u8 0, .int .u8 0, .slice none 0 0, .int .i64 many, .int .u64 most]
set_option maxRecDepth 100000 in
set_option maxHeartbeats 1000000 in
theorem kput_num (A : Option Addr) (n c : Nat) (l : List Nat) (v : Nat) (w : World) (hl : l.length = n) (hn : n ≤ 2000) (ha : At w A (nats .u8 l)) (hv : v < 18446744073709551616) :
    Calls Tryd.prog 34 #[.slice A n c, fldV 0 v (.slice none 0 0) 0 0] w (SlO w (l ++ VM.enc v)) := by
  have HA := Lib.hid ha
  have HV := Lib.hid hv
  have HL := Lib.hid hl
  clear ha hv hl
  unfold fldV
  go_enter Tryd.func34, Tryd.ntmps34
  go_upto_region 3 with fail
  go_wp2_with fail
  refine (oref_any A n c l v _ HL.out hn (HA.out.later ((Below.refl _ _).alloc (Nat.le_refl _) _) (Nat.le_refl _)) HV.out).mono ?_
  rintro e w1 ⟨A1, c1, rfl, o1, b1⟩
  have O1 := Lib.hid o1
  have B1 := Lib.hid b1
  clear o1 b1
  go_wp2_with fail
  go_ret
  have b0 := (Below.refl w.heap.size w).alloc (Nat.le_refl _) (.cells #[.int .u8 (0 : Nat), .int .u64 v, .slice none 0 0, .slice none 0 0, .int .u8 0, .int .u8 0, .int .u8 0, .int .u8 0, .int .u8 0, .int .u8 0, .int .u8 0, .int .u8 0, .int .u8 0, .int .u8 0, .int .u8 0, .int .u8 0, .int .u8 0, .int .u8 0, .int .u8 0, .int .u8 0, .int .u8 0, .int .u8 0, .int .u8 0, .int .u8 0, .int .u8 0, .int .u8 0, .int .u8 0, .int .u8 0, .int .u8 0, .int .u8 0, .int .u8 0, .int .u8 0, .int .u8 0, .int .u8 0, .int .u8 0, .int .u8 0, .slice none 0 0, .int .i64 0, .int .u64 0] 100)
  refine ⟨A1, c1, by simp, O1.out.base_ (by simp), ?_⟩
  have := B1.out
  exact Below.trans ((Below.refl w.heap.size w).alloc (Nat.le_refl _) _) (this.mono (by simp))
set_option maxRecDepth 100000 in
set_option maxHeartbeats 2000000 in
theorem kput_bytes (A : Option Addr) (n c : Nat) (l : List Nat) (A2 : Option Addr) (m c2 : Nat) (r : List Nat) (w : World) (hl : l.length = n) (hn : n ≤ 2000) (ha : At w A (nats .u8 l)) (hr : r.length = m) (hm : m ≤ 10000) (ha2 : At w A2 (nats .u8 r)) :
    Calls Tryd.prog 34 #[.slice A n c, fldV 2 0 (.slice A2 m c2) 0 0] w (SlO w (l ++ (VM.enc m ++ r))) := by
  have HA := Lib.hid ha
  have HA2 := Lib.hid ha2
  have HL := Lib.hid hl
  have HR := Lib.hid hr
  have HS := Lib.hid (VM.size_9 (v := m) (by omega))
  have hm1 : (m : Int) % 18446744073709551616 = m := by omega
  have hm2 : IntKind.u64.wrap (m : Int) = m := by simp [IntKind.wrap, go_sem]; omega
  clear ha ha2 hl hr
  unfold fldV
  go_enter Tryd.func34, Tryd.ntmps34
  go_upto_region 12 with fail
  have HBB := Lib.hid ((Below.refl w.heap.size w).alloc (Nat.le_refl _) (.cells #[.int .u8 2, .int .u64 0, .slice none 0 0, .slice A2 m c2, .int .u8 0, .int .u8 0, .int .u8 0, .int .u8 0, .int .u8 0, .int .u8 0, .int .u8 0, .int .u8 0, .int .u8 0, .int .u8 0, .int .u8 0, .int .u8 0, .int .u8 0, .int .u8 0, .int .u8 0, .int .u8 0, .int .u8 0, .int .u8 0, .int .u8 0, .int .u8 0, .int .u8 0, .int .u8 0, .int .u8 0, .int .u8 0, .int .u8 0, .int .u8 0, .int .u8 0, .int .u8 0, .int .u8 0, .int .u8 0, .int .u8 0, .int .u8 0, .slice none 0 0, .int .i64 0, .int .u64 0] 100))
  have HK := Lib.hid (Holds.new w 100 #[.int .u8 2, .int .u64 0, .slice none 0 0, .slice A2 m c2, .int .u8 0, .int .u8 0, .int .u8 0, .int .u8 0, .int .u8 0, .int .u8 0, .int .u8 0, .int .u8 0, .int .u8 0, .int .u8 0, .int .u8 0, .int .u8 0, .int .u8 0, .int .u8 0, .int .u8 0, .int .u8 0, .int .u8 0, .int .u8 0, .int .u8 0, .int .u8 0, .int .u8 0, .int .u8 0, .int .u8 0, .int .u8 0, .int .u8 0, .int .u8 0, .int .u8 0, .int .u8 0, .int .u8 0, .int .u8 0, .int .u8 0, .int .u8 0, .slice none 0 0, .int .i64 0, .int .u64 0] w.heap.size rfl)
  obtain ⟨k, hk⟩ : ∃ k, (l ++ VM.enc m).length = k := ⟨_, rfl⟩
  have hk9 : k ≤ n + 9 := by rw [← hk, List.length_append, HL.out, VM.enc_length]; have := HS.out; omega
  have hkm : ((l ++ (VM.enc m ++ r)).length) = k + m := by rw [← List.append_assoc, List.length_append, hk, HR.out]
  have HKL := Lib.hid hk
  have HKM := Lib.hid hkm
  clear hk hkm
  go_region_law (first
    | ((refine step_app rfl elt_u8 w.heap.size (.tmp 46) (.tmp 48) rfl _ rfl O1.out (nats .u8 r) rfl T1.out (by rw [nats_length, HR.out, Nat.mul_one]) (nats_one _ _) (by unfold maxLen; omega) (by omega) hle ?_); intro A3 c3 w3 own3 g3 _; have O3 := Lib.hid own3; have B3 := Lib.hid (B1.out.grown g3 hle (fun k hk => (O1.out.lt k hk).1)); clear own3 g3)
    | (go_simp; go_at_call 56; go_loud (have CC := oref_any A n c l m _ HL.out hn (HA.out.later HBB.out.drew (Nat.le_refl _)) (by omega)); go_loud (with_reducible refine CC.mono ?_); clear CC; rintro e w1 ⟨A1, c1, he, o1, b1⟩; go_loud (rw [HKL.out] at he o1; subst he); go_loud (have T1 := Lib.hid (HA2.out.later (HBB.out.drew.trans (b1.mono (by simp))) (Nat.le_refl _))); go_loud (have B1 := Lib.hid (HBB.out.drew.trans (b1.mono (by simp)))); have hle : w.heap.size ≤ w1.heap.size := B1.out.size; go_loud (have p3 := (HK.out.drew.later b1 (Nat.le_refl _)).cell 3; simp at p3); go_loud (have O1 := Lib.hid (o1.base_ (B' := w.heap.size) (by simp))); clear o1 b1))
  all_goals
    go_wp2_with fail
    go_ret
    exact ⟨A3, c3, by rw [HKM.out]; rfl, by rw [HKM.out]; have := O3.out; rw [← nats_append, List.append_assoc] at this; exact this, B3.out⟩
end Go.Proofs.YtodimanghmepoaaDoor
namespace Go.Proofs.YtodimanghmepoaaDoor
open Go.RowKit
/-- what a datagram's head is, as far as j of its five numbers -/
def kh (ns : List Nat) (j : Nat) : List Nat := 67 :: 85 :: ((ns.take j).map VM.enc).flatten
theorem kh_succ {ns : List Nat} {j : Nat} (h : j < ns.length) : kh ns (j + 1) = kh ns j ++ VM.enc (ns.getD j 0) := by
  unfold kh; rw [take_snoc h]; simp
theorem enc_le {v : Nat} (h : v < 18446744073709551616) : (VM.enc v).length ≤ 9 := by rw [VM.enc_length]; exact (VM.size_9 h).2
theorem kh_len {ns : List Nat} (h : ∀ x ∈ ns, x < 18446744073709551616) : ∀ j, (kh ns j).length ≤ 2 + 9 * j := by
  intro j
  have : ∀ l : List Nat, (∀ x ∈ l, x < 18446744073709551616) → ((l.map VM.enc).flatten).length ≤ 9 * l.length := by
    intro l
    induction l with
    | nil => intro _; simp
    | cons x r ih => intro h; have h1 := enc_le (h x (by simp)); have h2 := ih (fun y hy => h y (by simp [hy])); simp at *; omega
  have h1 := this (ns.take j) (fun x hx => h x (List.mem_of_mem_take hx))
  have h2 : (ns.take j).length ≤ j := by rw [List.length_take]; omega
  unfold kh
  simp only [List.length_cons]
  omega
theorem kh_all (fr dt ak ep sq : Nat) (b : List Nat) : kh [fr, dt, ak, ep, sq] 5 ++ (VM.enc b.length ++ b) = fhead fr dt ak ep sq b := by simp [kh, fhead]
/-- a datagram of the document's, and no error -/
def KenE (w : World) (l : List Nat) (e : Ending) (w' : World) : Prop :=
  ∃ A c, e = .returned (.tuple #[.slice A l.length c, .int .i64 0]) ∧ Own w' w.heap.size 5 1 A l.length c (nats .u8 l) ∧ Below w.heap.size w w'
set_option maxRecDepth 100000 in
set_option maxHeartbeats 1000000 in
theorem kenc_no (fr dt : Int) (ack : Bool) (ep sq : Int) (A : Option Addr) (n c : Nat) (w : World) (hm : ¬ FMay fr dt ack ep sq n) :
    Calls Tryd.prog 17 #[.agg #[.int .i64 fr, .int .i64 dt, .bool ack, .int .i64 ep, .int .i64 sq, .slice A n c]] w fun e w' => e = .returned (.tuple #[.slice none 0 0, .int .i64 1]) ∧ Below w.heap.size w w' := by
  have HN := Lib.hid hm
  clear hm
  have B0 := Lib.hid ((Below.refl w.heap.size w).alloc (Nat.le_refl _) (.cells #[.int .i64 fr, .int .i64 dt, .bool ack, .int .i64 ep, .int .i64 sq, .slice A n c] 50))
  go_enter Tryd.func17, Tryd.ntmps17
  go_wp2_with fail
  refine (fmay_any fr dt ack ep sq A n c _).mono ?_
  rintro e w1 ⟨h | h, b1⟩
  · exact absurd h.2 HN.out
  obtain ⟨rfl, _⟩ := h
  have B1 := Lib.hid (B0.out.trans (b1.mono (by simp)))
  clear b1
  go_wp2_with fail
  exact bodyPost_ret (v := .tuple #[.slice none 0 0, .int .i64 1]) (by simp [results, Tryd.results17, go_sem]) rfl ⟨rfl, B1.out⟩
set_option maxRecDepth 100000 in
set_option maxHeartbeats 4000000 in
theorem kenc_yes (fr dt ep sq : Nat) (ack : Bool) (A : Option Addr) (c : Nat) (b : List Nat) (w : World) (hm : FMay fr dt ack ep sq b.length) (hb9 : b.length ≤ 900) (hat : At w A (nats .u8 b)) (hby : ∀ y ∈ b, y < 256) :
    Calls Tryd.prog 17 #[.agg #[.int .i64 fr, .int .i64 dt, .bool ack, .int .i64 ep, .int .i64 sq, .slice A b.length c]] w (KenE w (fdat fr dt (if ack then 1 else 0) ep sq b)) := by
  have H1 := Lib.hid (show fr ≤ 255 ∧ dt ≤ 255 ∧ ep ≤ 1073741824 ∧ sq ≤ 1073741824 from by unfold FMay at hm; omega)
  obtain ⟨ak, hak⟩ : ∃ ak : Nat, (if ack then 1 else 0) = ak := ⟨_, rfl⟩
  rw [hak]
  have hak1 : ak ≤ 1 := by rw [← hak]; split <;> omega
  obtain ⟨ns, hns⟩ : ∃ ns : List Nat, [fr, dt, ak, ep, sq] = ns := ⟨_, rfl⟩
  have hlt : ∀ x ∈ ns, x < 18446744073709551616 := by
    rw [← hns]; have := H1.out; intro x hx; simp at hx; omega
  have HLT := Lib.hid hlt
  have HLen := Lib.hid (kh_len hlt)
  have hn5 : ns.length = 5 := by rw [← hns]; rfl
  have HD := Lib.hid (show fdat fr dt ak ep sq b = kh ns 5 ++ (VM.enc b.length ++ b) ++ tl (Crc.sum (kh ns 5 ++ (VM.enc b.length ++ b))) from by rw [← hns, kh_all]; rfl)
  obtain ⟨D, hD⟩ : ∃ D, fdat fr dt ak ep sq b = D := ⟨_, rfl⟩
  rw [hD]
  rw [hD] at HD
  clear hD
  have HBy := Lib.hid hby
  have HM := Lib.hid hm
  have T0 := Lib.hid hat
  have HN5 := Lib.hid hn5
  have HNS := Lib.hid hns
  have HAK := Lib.hid hak
  have m1 : (fr : Int) % 18446744073709551616 = fr := by have := H1.out; omega
  have m2 : (dt : Int) % 18446744073709551616 = dt := by have := H1.out; omega
  have m3 : (ep : Int) % 18446744073709551616 = ep := by have := H1.out; omega
  have m4 : (sq : Int) % 18446744073709551616 = sq := by have := H1.out; omega
  clear hm hat hby hlt hn5 hns hak
  have B0 := Lib.hid ((Below.refl w.heap.size w).alloc (Nat.le_refl _) (.cells #[.int .i64 fr, .int .i64 dt, .bool ack, .int .i64 ep, .int .i64 sq, .slice A b.length c] 50))
  have K0 := Lib.hid (Holds.new w 50 #[.int .i64 fr, .int .i64 dt, .bool ack, .int .i64 ep, .int .i64 sq, .slice A b.length c] w.heap.size rfl)
  go_enter Tryd.func17, Tryd.ntmps17
  go_wp2_with fail
  refine (fmay_any fr dt ack ep sq A b.length c _).mono ?_
  rintro e w1 ⟨h | h, b1⟩
  rotate_left
  · exact absurd HM.out h.2
  obtain ⟨rfl, _⟩ := h
  have B1 := Lib.hid (B0.out.trans (b1.mono (by simp)))
  have K1 := Lib.hid (K0.out.later b1 (Nat.le_refl _))
  have p0 := K1.out.cell 0
  have p1 := K1.out.cell 1
  have p2 := K1.out.cell 2
  have p3 := K1.out.cell 3
  have p4 := K1.out.cell 4
  simp at p0 p1 p2 p3 p4
  clear b1 B0 K0
  have kc := fun (w : World) (C : Array Value) (n c : Nat) => Lib.run_convert_bytes_const (P := Tryd.prog) w 22 5 C n c (by kernel_rfl) (by kernel_rfl)
  cases ack with
  | true =>
    obtain rfl : ak = 1 := by simpa using HAK.out.symm
    go_upto_region 7 with fail
    have NB := (Below.refl w1.heap.size w1).alloc (Nat.le_refl _) (.cells #[.int .u8 67, .int .u8 85] 5 (2, 3))
    have K2 := Lib.hid (K1.out.alloc (.cells #[.int .u8 67, .int .u8 85] 5 (2, 3)))
    have B2 := Lib.hid (B1.out.trans (NB.mono B1.out.size))
    have S0 := Lib.hid (show At (w1.alloc (.cells #[.int .u8 67, .int .u8 85] 5 (2, 3))) (some ⟨w1.heap.size, 0, none⟩) (nats .u8 (kh ns 0)) from At.lit w1 _ _ _ _ rfl)
    clear NB p0 p1 p2 p3 p4 K1
    generalize w1.heap.size = g5 at *
    generalize w1.alloc (.cells #[.int .u8 67, .int .u8 85] 5 (2, 3)) = w2 at *
    have p0 := K2.out.cell 0
    have p1 := K2.out.cell 1
    have p3 := K2.out.cell 3
    have p4 := K2.out.cell 4
    simp at p0 p1 p3 p4
    go_wp2_with fail
    have NB := (Below.refl w2.heap.size w2).alloc (Nat.le_refl _) (.cells #[.int .u64 fr, .int .u64 dt, .int .u64 1, .int .u64 ep, .int .u64 sq] 94)
    have K3 := Lib.hid (K2.out.later NB (Nat.le_refl _))
    have B3 := Lib.hid (B2.out.trans (NB.mono B2.out.size))
    have S1 := Lib.hid (S0.out.later NB (Nat.le_refl _))
    have KA := Lib.hid (show Holds (w2.alloc (.cells #[.int .u64 fr, .int .u64 dt, .int .u64 1, .int .u64 ep, .int .u64 sq] 94)) w2.heap.size 94 (nats .u64 ns).toArray from by rw [← HNS.out]; exact Holds.new w2 _ _ _ rfl)
    clear NB p0 p1 p3 p4 K2 B2 S0
    generalize w2.heap.size = g6 at *
    generalize w2.alloc (.cells #[.int .u64 fr, .int .u64 dt, .int .u64 1, .int .u64 ep, .int .u64 sq] 94) = w3 at *
    go_loopw [5, 7] (fun s i wr => ∃ (j n : Nat) (Ab : Option Addr) (cb : Nat), j ≤ 5 ∧ (kh ns j).length = n ∧ i = .int .i64 j ∧ s = .slice Ab n cb ∧ At wr Ab (nats .u8 (kh ns j)) ∧ Below w3.heap.size w3 wr) (fun _ i _ => (5 - intOf i).toNat)
    case atStart => exact ⟨0, 2, _, 2, by omega, rfl, rfl, rfl, S1.out, Below.refl _ _⟩
    case round =>
      obtain ⟨j, n, Ab, cb, hj, hn, rfl, rfl, hat, hbel⟩ := hrel
      have HN := Lib.hid hn
      have AB := Lib.hid hat
      have BB := Lib.hid hbel
      have HL2 := Lib.hid (show n ≤ 47 from by have := HLen.out j; rw [← hn]; omega)
      clear hn hat hbel
      by_cases hj5 : j < 5
      · obtain ⟨v, hv⟩ : ∃ v, ns.getD j 0 = v := ⟨_, rfl⟩
        have cj : wr.cell? ⟨g6, j, none⟩ = some (.int .u64 (v : Nat)) := by
          have := (KA.out.later BB.out (Nat.le_refl _)).cell j
          rw [this, ← hv]
          have h5 := HN5.out
          simp [nats, List.getD_eq_getElem?_getD, List.getElem?_eq_getElem (show j < ns.length by omega)]
        have hvl : v < 18446744073709551616 := by rw [← hv]; exact HLT.out _ (by rw [getD_lt (show j < ns.length by have := HN5.out; omega)]; exact List.getElem_mem _)
        have Q := kput_num Ab n cb (kh ns j) v wr HN.out (by have := HL2.out; omega) AB.out hvl
        rw [← hv, ← kh_succ (by have := HN5.out; omega), hv] at Q
        have hv' := Lib.hid hv
        have QQ := Lib.hid Q
        clear Q hv hvl
        go_wp2_with fail
        have Q := QQ.out
        unfold fldV at Q
        with_reducible refine Q.mono ?_
        clear Q QQ
        rintro e w4 ⟨A1, c1, rfl, o1, b1⟩
        have O1 := Lib.hid o1.at_
        have B4 := Lib.hid (BB.out.trans (b1.mono BB.out.size))
        obtain ⟨n', hn'⟩ : ∃ n', (kh ns (j + 1)).length = n' := ⟨_, rfl⟩
        rw [hn']
        have HN2 := Lib.hid hn'
        clear o1 b1 hn' cj
        go_wp2_with fail
        exact ⟨⟨j + 1, n', A1, c1, by omega, HN2.out, by simp, rfl, O1.out, B4.out⟩, by simp only [intOf]; omega⟩
      · obtain rfl : j = 5 := by omega
        clear hj5 hj
        have p5 : wr.cell? ⟨w.heap.size, 5, none⟩ = some (.slice A b.length c) := (K3.out.later BB.out (Nat.le_refl _)).cell 5
        have T1 := Lib.hid (T0.out.later (B3.out.trans (BB.out.mono B3.out.size)) (Nat.le_refl _))
        have Q := kput_bytes Ab n cb (kh ns 5) A b.length c b wr HN.out (by have := HL2.out; omega) AB.out rfl (by omega) T1.out
        obtain ⟨L, hL⟩ : ∃ L, kh ns 5 ++ (VM.enc b.length ++ b) = L := ⟨_, rfl⟩
        rw [hL] at Q
        have HD2 := Lib.hid (show D = L ++ tl (Crc.sum L) from by rw [HD.out, hL])
        have hLl : L.length ≤ 956 := by rw [← hL]; simp only [List.length_append]; have h1 := HLen.out 5; have h2 := enc_le (v := b.length) (by omega); omega
        have hLb : Crc.Bytes L := by
          have h2 : ∀ y ∈ L, y < 256 := by
            rw [← hL]
            intro y hy
            rcases List.mem_append.1 hy with h | h
            · unfold kh at h
              simp only [List.mem_cons, List.mem_flatten, List.mem_map] at h
              rcases h with h | h | ⟨_, ⟨x, hx, rfl⟩, hy⟩
              · omega
              · omega
              · exact VM.enc_byte (HLT.out x (List.mem_of_mem_take hx)) y hy
            · rcases List.mem_append.1 h with h | h
              · exact VM.enc_byte (by omega) y h
              · exact HBy.out y h
          exact fun i => getD_of_all (m := 255) h2 i
        have HLB := Lib.hid hLb
        have B5 := Lib.hid (B3.out.trans (BB.out.mono B3.out.size))
        have QQ := Lib.hid Q
        clear Q hL hLb
        go_wp2_with fail
        have Q := QQ.out
        unfold fldV at Q
        with_reducible refine Q.mono ?_
        clear Q QQ p5
        rintro e w4 ⟨A1, c1, rfl, o1, b1⟩
        have O1 := Lib.hid (o1.base_ B5.out.size)
        have B6 := Lib.hid (B5.out.trans (b1.mono B5.out.size))
        clear o1 b1
        obtain ⟨m, hm⟩ : ∃ m, L.length = m := ⟨_, rfl⟩
        rw [hm] at O1 hLl ⊢
        have HLM := Lib.hid hm
        clear hm
        go_wp2_with fail
        have Q := refMore0 A1 m c1 L w4 HLM.out (by omega) O1.out.at_ HLB.out
        obtain ⟨v, hv⟩ : ∃ v, Crc.sum L = v := ⟨_, rfl⟩
        rw [hv] at Q
        have HV := Lib.hid hv
        clear hv
        with_reducible refine Q.mono ?_
        clear Q
        rintro e w5 ⟨rfl, rfl⟩
        go_wp2_with fail
        with_reducible refine (tail_own v w4).mono ?_
        rintro e w5 ⟨rfl, o2, b2, _⟩
        have T2 := Lib.hid o2.at_
        have O3 := Lib.hid (O1.out.below b2 (Nat.le_refl _))
        have B7 := Lib.hid (B6.out.trans (b2.mono B6.out.size))
        clear o2 b2
        go_wp2_with (at_builtin; refine wpList_app rfl elt_u8 w.heap.size (.tmp 44) (.tmp 47) rfl _ rfl O3.out (nats .u8 (tl v)) rfl T2.out rfl (nats_one _ _) (by unfold maxLen; omega) (by omega) B7.out.size ?_; intro A3 c3 w6 own3 g3 _; have O4 := Lib.hid own3; have B8 := Lib.hid (B7.out.grown g3 B7.out.size (fun k hk => (O3.out.lt k hk).1)); clear own3 g3)
        refine bodyPost_ret (v := .tuple #[.slice A3 (m + 4) c3, .int .i64 0]) (by simp [results, Tryd.results17, go_sem]) rfl ⟨A3, c3, ?_, ?_, B8.out⟩
        · rw [HD2.out, List.length_append, HLM.out, HV.out]; rfl
        · rw [HD2.out, List.length_append, HLM.out, HV.out, nats_append]; exact O4.out
  | false =>
    obtain rfl : ak = 0 := by simpa using HAK.out.symm
    go_upto_region 7 with fail
    have NB := (Below.refl w1.heap.size w1).alloc (Nat.le_refl _) (.cells #[.int .u8 67, .int .u8 85] 5 (2, 3))
    have K2 := Lib.hid (K1.out.alloc (.cells #[.int .u8 67, .int .u8 85] 5 (2, 3)))
    have B2 := Lib.hid (B1.out.trans (NB.mono B1.out.size))
    have S0 := Lib.hid (show At (w1.alloc (.cells #[.int .u8 67, .int .u8 85] 5 (2, 3))) (some ⟨w1.heap.size, 0, none⟩) (nats .u8 (kh ns 0)) from At.lit w1 _ _ _ _ rfl)
    clear NB p0 p1 p2 p3 p4 K1
    generalize w1.heap.size = g5 at *
    generalize w1.alloc (.cells #[.int .u8 67, .int .u8 85] 5 (2, 3)) = w2 at *
    have p0 := K2.out.cell 0
    have p1 := K2.out.cell 1
    have p3 := K2.out.cell 3
    have p4 := K2.out.cell 4
    simp at p0 p1 p3 p4
    go_wp2_with fail
    have NB := (Below.refl w2.heap.size w2).alloc (Nat.le_refl _) (.cells #[.int .u64 fr, .int .u64 dt, .int .u64 0, .int .u64 ep, .int .u64 sq] 94)
    have K3 := Lib.hid (K2.out.later NB (Nat.le_refl _))
    have B3 := Lib.hid (B2.out.trans (NB.mono B2.out.size))
    have S1 := Lib.hid (S0.out.later NB (Nat.le_refl _))
    have KA := Lib.hid (show Holds (w2.alloc (.cells #[.int .u64 fr, .int .u64 dt, .int .u64 0, .int .u64 ep, .int .u64 sq] 94)) w2.heap.size 94 (nats .u64 ns).toArray from by rw [← HNS.out]; exact Holds.new w2 _ _ _ rfl)
    clear NB p0 p1 p3 p4 K2 B2 S0
    generalize w2.heap.size = g6 at *
    generalize w2.alloc (.cells #[.int .u64 fr, .int .u64 dt, .int .u64 0, .int .u64 ep, .int .u64 sq] 94) = w3 at *
    go_loopw [5, 7] (fun s i wr => ∃ (j n : Nat) (Ab : Option Addr) (cb : Nat), j ≤ 5 ∧ (kh ns j).length = n ∧ i = .int .i64 j ∧ s = .slice Ab n cb ∧ At wr Ab (nats .u8 (kh ns j)) ∧ Below w3.heap.size w3 wr) (fun _ i _ => (5 - intOf i).toNat)
    case atStart => exact ⟨0, 2, _, 2, by omega, rfl, rfl, rfl, S1.out, Below.refl _ _⟩
    case round =>
      obtain ⟨j, n, Ab, cb, hj, hn, rfl, rfl, hat, hbel⟩ := hrel
      have HN := Lib.hid hn
      have AB := Lib.hid hat
      have BB := Lib.hid hbel
      have HL2 := Lib.hid (show n ≤ 47 from by have := HLen.out j; rw [← hn]; omega)
      clear hn hat hbel
      by_cases hj5 : j < 5
      · obtain ⟨v, hv⟩ : ∃ v, ns.getD j 0 = v := ⟨_, rfl⟩
        have cj : wr.cell? ⟨g6, j, none⟩ = some (.int .u64 (v : Nat)) := by
          have := (KA.out.later BB.out (Nat.le_refl _)).cell j
          rw [this, ← hv]
          have h5 := HN5.out
          simp [nats, List.getD_eq_getElem?_getD, List.getElem?_eq_getElem (show j < ns.length by omega)]
        have hvl : v < 18446744073709551616 := by rw [← hv]; exact HLT.out _ (by rw [getD_lt (show j < ns.length by have := HN5.out; omega)]; exact List.getElem_mem _)
        have Q := kput_num Ab n cb (kh ns j) v wr HN.out (by have := HL2.out; omega) AB.out hvl
        rw [← hv, ← kh_succ (by have := HN5.out; omega), hv] at Q
        have hv' := Lib.hid hv
        have QQ := Lib.hid Q
        clear Q hv hvl
        go_wp2_with fail
        have Q := QQ.out
        unfold fldV at Q
        with_reducible refine Q.mono ?_
        clear Q QQ
        rintro e w4 ⟨A1, c1, rfl, o1, b1⟩
        have O1 := Lib.hid o1.at_
        have B4 := Lib.hid (BB.out.trans (b1.mono BB.out.size))
        obtain ⟨n', hn'⟩ : ∃ n', (kh ns (j + 1)).length = n' := ⟨_, rfl⟩
        rw [hn']
        have HN2 := Lib.hid hn'
        clear o1 b1 hn' cj
        go_wp2_with fail
        exact ⟨⟨j + 1, n', A1, c1, by omega, HN2.out, by simp, rfl, O1.out, B4.out⟩, by simp only [intOf]; omega⟩
      · obtain rfl : j = 5 := by omega
        clear hj5 hj
        have p5 : wr.cell? ⟨w.heap.size, 5, none⟩ = some (.slice A b.length c) := (K3.out.later BB.out (Nat.le_refl _)).cell 5
        have T1 := Lib.hid (T0.out.later (B3.out.trans (BB.out.mono B3.out.size)) (Nat.le_refl _))
        have Q := kput_bytes Ab n cb (kh ns 5) A b.length c b wr HN.out (by have := HL2.out; omega) AB.out rfl (by omega) T1.out
        obtain ⟨L, hL⟩ : ∃ L, kh ns 5 ++ (VM.enc b.length ++ b) = L := ⟨_, rfl⟩
        rw [hL] at Q
        have HD2 := Lib.hid (show D = L ++ tl (Crc.sum L) from by rw [HD.out, hL])
        have hLl : L.length ≤ 956 := by rw [← hL]; simp only [List.length_append]; have h1 := HLen.out 5; have h2 := enc_le (v := b.length) (by omega); omega
        have hLb : Crc.Bytes L := by
          have h2 : ∀ y ∈ L, y < 256 := by
            rw [← hL]
            intro y hy
            rcases List.mem_append.1 hy with h | h
            · unfold kh at h
              simp only [List.mem_cons, List.mem_flatten, List.mem_map] at h
              rcases h with h | h | ⟨_, ⟨x, hx, rfl⟩, hy⟩
              · omega
              · omega
              · exact VM.enc_byte (HLT.out x (List.mem_of_mem_take hx)) y hy
            · rcases List.mem_append.1 h with h | h
              · exact VM.enc_byte (by omega) y h
              · exact HBy.out y h
          exact fun i => getD_of_all (m := 255) h2 i
        have HLB := Lib.hid hLb
        have B5 := Lib.hid (B3.out.trans (BB.out.mono B3.out.size))
        have QQ := Lib.hid Q
        clear Q hL hLb
        go_wp2_with fail
        have Q := QQ.out
        unfold fldV at Q
        with_reducible refine Q.mono ?_
        clear Q QQ p5
        rintro e w4 ⟨A1, c1, rfl, o1, b1⟩
        have O1 := Lib.hid (o1.base_ B5.out.size)
        have B6 := Lib.hid (B5.out.trans (b1.mono B5.out.size))
        clear o1 b1
        obtain ⟨m, hm⟩ : ∃ m, L.length = m := ⟨_, rfl⟩
        rw [hm] at O1 hLl ⊢
        have HLM := Lib.hid hm
        clear hm
        go_wp2_with fail
        have Q := refMore0 A1 m c1 L w4 HLM.out (by omega) O1.out.at_ HLB.out
        obtain ⟨v, hv⟩ : ∃ v, Crc.sum L = v := ⟨_, rfl⟩
        rw [hv] at Q
        have HV := Lib.hid hv
        clear hv
        with_reducible refine Q.mono ?_
        clear Q
        rintro e w5 ⟨rfl, rfl⟩
        go_wp2_with fail
        with_reducible refine (tail_own v w4).mono ?_
        rintro e w5 ⟨rfl, o2, b2, _⟩
        have T2 := Lib.hid o2.at_
        have O3 := Lib.hid (O1.out.below b2 (Nat.le_refl _))
        have B7 := Lib.hid (B6.out.trans (b2.mono B6.out.size))
        clear o2 b2
        go_wp2_with (at_builtin; refine wpList_app rfl elt_u8 w.heap.size (.tmp 44) (.tmp 47) rfl _ rfl O3.out (nats .u8 (tl v)) rfl T2.out rfl (nats_one _ _) (by unfold maxLen; omega) (by omega) B7.out.size ?_; intro A3 c3 w6 own3 g3 _; have O4 := Lib.hid own3; have B8 := Lib.hid (B7.out.grown g3 B7.out.size (fun k hk => (O3.out.lt k hk).1)); clear own3 g3)
        refine bodyPost_ret (v := .tuple #[.slice A3 (m + 4) c3, .int .i64 0]) (by simp [results, Tryd.results17, go_sem]) rfl ⟨A3, c3, ?_, ?_, B8.out⟩
        · rw [HD2.out, List.length_append, HLM.out, HV.out]; rfl
        · rw [HD2.out, List.length_append, HLM.out, HV.out, nats_append]; exact O4.out
end Go.Proofs.YtodimanghmepoaaDoor
namespace Go.Proofs.YtodimanghmepoaaDoor
open Go.RowKit
/-- a place in bytes: what is left behind it; below 0: something was wrong -/
def KPos (l : List Nat) (a : Int) (i : List Nat) (x : Bool) : Prop := (a = -1 ∧ i = [] ∧ x = true) ∨ ∃ p : Nat, a = p ∧ p ≤ l.length ∧ i = l.drop p ∧ x = false
theorem rv_nil (most : Nat) : rv [] most = 0 := rfl
theorem rl_nil (most : Nat) : rl [] most = [] := rfl
theorem rk_nil (most : Nat) : rk [] most = false := rfl
theorem KPos.num {l : List Nat} {p : Nat} (hp : p ≤ l.length) (most : Nat) : KPos l (if rk (l.drop p) most then ((p + (match VM.dec (l.drop p) with | some (_, k) => k | none => 0) : Nat) : Int) else -1) (rl (l.drop p) most) (false || !rk (l.drop p) most) := by
  unfold rk rl
  cases hd : VM.dec (l.drop p) with
  | none => exact .inl ⟨by simp, rfl, by simp⟩
  | some vk =>
    obtain ⟨v, k⟩ := vk
    have hk := VM.dec_le hd
    rw [List.length_drop] at hk
    by_cases h : v ≤ most
    · refine .inr ⟨p + k, by simp [h], by omega, by simp [h], by simp [h]⟩
    · exact .inl ⟨by simp [h], by simp [h], by simp [h]⟩
set_option maxRecDepth 100000 in
set_option maxHeartbeats 1000000 in
theorem knum_any (b o n c : Nat) (l : List Nat) (a : Int) (i : List Nat) (x : Bool) (most : Nat) (w : World) (hl : l.length = n) (hn : n ≤ 8294) (hc : n ≤ c) (hc2 : c ≤ 9223372036854775807) (hat : At w (some ⟨b, o, none⟩) (nats .u8 l)) (hb : ∀ y ∈ l, y < 256) (hp : KPos l a i x) :
    Calls Tryd.prog 67 #[.slice (some ⟨b, o, none⟩) n c, .int .i64 a, .int .u64 most] w fun e w' => ∃ a' : Int, e = .returned (.tuple #[.int .u64 (rv i most : Nat), .int .i64 a']) ∧ KPos l a' (rl i most) (x || !rk i most) ∧ Below w.heap.size w w' := by
  rcases hp with ⟨rfl, rfl, rfl⟩ | ⟨p, rfl, hpl, rfl, rfl⟩
  · have HK := Lib.hid (show KPos l (-1) (rl [] most) (true || !rk [] most) from .inl ⟨rfl, rfl, rfl⟩)
    clear hat hb
    go_enter Tryd.func67, Tryd.ntmps67
    go_wp2_with fail
    exact bodyPost_ret (v := .tuple #[.int .u64 0, .int .i64 (-1)]) (by simp [results, Tryd.results67, go_sem]) rfl ⟨-1, by rw [rv_nil]; rfl, HK.out, Below.refl _ _⟩
  · have HK := Lib.hid (KPos.num hpl most)
    have V : ∀ (A' : Option Addr) (c' : Nat), A' = (if c = p then some ⟨b, o, none⟩ else some ⟨b, o + p, none⟩) → c' = c - p → Calls Tryd.prog 71 #[.slice A' (n - p) c'] w fun e w' => e = .returned (rgot (l.drop p)) ∧ Below w.heap.size w w' := by
      rintro A' c' rfl rfl
      exact rget_any _ (n - p) (c - p) (l.drop p) w (by rw [List.length_drop, hl]) (by omega) (by omega) (by omega) (at_cut rfl hat (by omega)) (fun y hy => hb y (List.mem_of_mem_drop hy))
    have hpn : p ≤ n := by omega
    have hpc : (p : Int) ≤ c := by omega
    have hpi : (p : Int) ≤ n := by omega
    cases hd : VM.dec (l.drop p) with
    | none =>
      have h1 : rv (l.drop p) most = 0 := by unfold rv; rw [hd]
      have h2 : rk (l.drop p) most = false := by unfold rk; rw [hd]
      rw [h2, if_neg (by decide)] at HK
      rw [rgot_none hd] at V
      rw [h1, h2]
      have VV := Lib.hid V
      clear V hd hat hb hl hpl h1 h2
      go_enter Tryd.func67, Tryd.ntmps67
      go_wp2_with fail
      · with_reducible refine (VV.out _ _ (by rw [if_pos (by assumption)]) (by omega)).mono ?_
        rintro e w1 ⟨rfl, b1⟩
        have B1 := Lib.hid b1
        clear b1
        go_wp2_with fail
        exact bodyPost_ret (v := .tuple #[.int .u64 0, .int .i64 (-1)]) (by simp [results, Tryd.results67, go_sem]) rfl ⟨-1, rfl, HK.out, B1.out⟩
      · with_reducible refine (VV.out _ _ (by rw [if_neg (by assumption)]) (by omega)).mono ?_
        rintro e w1 ⟨rfl, b1⟩
        have B1 := Lib.hid b1
        clear b1
        go_wp2_with fail
        exact bodyPost_ret (v := .tuple #[.int .u64 0, .int .i64 (-1)]) (by simp [results, Tryd.results67, go_sem]) rfl ⟨-1, rfl, HK.out, B1.out⟩
    | some vk =>
      obtain ⟨v, k⟩ := vk
      have hk := VM.dec_le hd
      rw [List.length_drop] at hk
      rw [rgot_some hd] at V
      by_cases hv : v ≤ most
      · have h1 : rv (l.drop p) most = v := by unfold rv; rw [hd]; exact if_pos hv
        have h2 : rk (l.drop p) most = true := by unfold rk; rw [hd]; exact decide_eq_true hv
        rw [h2, if_pos rfl, hd] at HK
        rw [h1, h2]
        have d1 : decide ((most : Int) < v) = false := decide_eq_false (by omega)
        have d2 : ¬ most < v := by omega
        have hpk : p + k ≤ 8294 := by omega
        have VV := Lib.hid V
        clear V hd hat hb hl hpl h1 h2 hk hv
        go_enter Tryd.func67, Tryd.ntmps67
        go_wp2_with fail
        · with_reducible refine (VV.out _ _ (by rw [if_pos (by assumption)]) (by omega)).mono ?_
          rintro e w1 ⟨rfl, b1⟩
          have B1 := Lib.hid b1
          clear b1
          go_wp2_with fail
          exact bodyPost_ret (v := .tuple #[.int .u64 v, .int .i64 ((p : Int) + k)]) (by simp [results, Tryd.results67, go_sem]) rfl ⟨_, rfl, HK.out, B1.out⟩
        · with_reducible refine (VV.out _ _ (by rw [if_neg (by assumption)]) (by omega)).mono ?_
          rintro e w1 ⟨rfl, b1⟩
          have B1 := Lib.hid b1
          clear b1
          go_wp2_with fail
          exact bodyPost_ret (v := .tuple #[.int .u64 v, .int .i64 ((p : Int) + k)]) (by simp [results, Tryd.results67, go_sem]) rfl ⟨_, rfl, HK.out, B1.out⟩
      · have h1 : rv (l.drop p) most = 0 := by unfold rv; rw [hd]; exact if_neg hv
        have h2 : rk (l.drop p) most = false := by unfold rk; rw [hd]; exact decide_eq_false hv
        rw [h2, if_neg (by decide)] at HK
        rw [h1, h2]
        have d1 : decide ((most : Int) < v) = true := decide_eq_true (by omega)
        have d2 : most < v := by omega
        have VV := Lib.hid V
        clear V hd hat hb hl hpl h1 h2 hk hv
        go_enter Tryd.func67, Tryd.ntmps67
        go_wp2_with fail
        · with_reducible refine (VV.out _ _ (by rw [if_pos (by assumption)]) (by omega)).mono ?_
          rintro e w1 ⟨rfl, b1⟩
          have B1 := Lib.hid b1
          clear b1
          go_wp2_with fail
          exact bodyPost_ret (v := .tuple #[.int .u64 0, .int .i64 (-1)]) (by simp [results, Tryd.results67, go_sem]) rfl ⟨-1, rfl, HK.out, B1.out⟩
        · with_reducible refine (VV.out _ _ (by rw [if_neg (by assumption)]) (by omega)).mono ?_
          rintro e w1 ⟨rfl, b1⟩
          have B1 := Lib.hid b1
          clear b1
          go_wp2_with fail
          exact bodyPost_ret (v := .tuple #[.int .u64 0, .int .i64 (-1)]) (by simp [results, Tryd.results67, go_sem]) rfl ⟨-1, rfl, HK.out, B1.out⟩
end Go.Proofs.YtodimanghmepoaaDoor
