/- Layer 2: the walks of Same and of the document's Add, Sum, Same. -/
import Derived.Test.YtmdilfgeogedpaaDoorIVecC
namespace Go.Proofs.YtmdilfgeogedpaaDoor
open Go.RowKit
theorem valB_eq {w : World} {v : Value} (v' : Value) (h : v = v') {f : FuncId} {args : Array Value} {Q : Program} (hc : Calls Q f args w fun e w' => e = .returned v ∧ Below w.heap.size w w') : Calls Q f args w fun e w' => e = .returned v' ∧ Below w.heap.size w w' := by
  subst h; exact hc
set_option maxRecDepth 100000 in
theorem eq32_any (A : Option Addr) (n c : Nat) (l : List Nat) (A2 : Option Addr) (n2 c2 : Nat) (l2 : List Nat) (w : World) (hl : l.length = n) (hm : n ≤ 9223372036854775807) (ha : At w A (nats .u32 l)) (hl2 : l2.length = n2) (hm2 : n2 ≤ 9223372036854775807) (ha2 : At w A2 (nats .u32 l2)) :
    Calls Tryd.prog 47 #[.slice A n c, .slice A2 n2 c2] w fun e w' => e = .returned (.bool (decide (l = l2))) ∧ Below w.heap.size w w' := by
  have HL := Lib.hid hl
  have HA := Lib.hid ha
  have HL2 := Lib.hid hl2
  have HA2 := Lib.hid ha2
  clear hl ha hl2 ha2
  obtain ⟨r, hr⟩ : ∃ r, decide (l = l2) = r := ⟨_, rfl⟩
  rw [hr]
  have HR0 := Lib.hid hr
  clear hr
  by_cases hn : n = n2
  · subst hn
    go_enter Tryd.func47, Tryd.ntmps47
    go_wp2
    go_loopw [13] (fun i wr => ∃ k m : Nat, k ≤ n ∧ i = .int .i64 k ∧ l.take k = l2.take k ∧ wr = w.drewN m) (fun i _ => n - (intOf i).toNat)
    case atStart => exact ⟨0, 0, by omega, rfl, rfl, rfl⟩
    case round =>
      obtain ⟨k, m, hk, rfl, hrm, rfl⟩ := hrel
      have HR := Lib.hid hrm
      clear hrm
      by_cases hlt : k < n
      · obtain ⟨b, o, rfl, hc⟩ := HA.out.nat k (by rw [HL.out]; exact hlt)
        obtain ⟨b2, o2, rfl, hc2⟩ := HA2.out.nat k (by rw [HL2.out]; exact hlt)
        have ht := take_snoc (l := l) (k := k) (by rw [HL.out]; exact hlt)
        have ht2 := take_snoc (l := l2) (k := k) (by rw [HL2.out]; exact hlt)
        obtain ⟨x, hx⟩ : ∃ x, l.getD k 0 = x := ⟨_, rfl⟩
        obtain ⟨x2, hx2⟩ : ∃ x, l2.getD k 0 = x := ⟨_, rfl⟩
        rw [hx] at hc ht
        rw [hx2] at hc2 ht2
        by_cases hxx : x = x2
        · subst hxx
          have hr2 : l.take (k + 1) = l2.take (k + 1) := by rw [ht, ht2, HR.out]
          have HR2 := Lib.hid hr2
          clear hx hx2 ht ht2 hr2
          go_wp2_with fail
          go_quiet (fail)
          go_wp2_with fail
          exact ⟨⟨k + 1, m + nq, by omega, by simp, HR2.out, rfl⟩, by simp only [intOf]; omega⟩
        · have hne : r = false := by
            rw [← HR0.out, decide_eq_false_iff_not]; rintro rfl; exact hxx (hx.symm.trans hx2)
          subst hne
          have hd : ((x : Int) != (x2 : Int)) = true := by simp; omega
          clear hx hx2 ht ht2 hxx HR0
          go_wp2_with fail
          go_quiet (fail)
          go_wp2_with fail
          go_ret
          exact ⟨rfl, rfl, rfl, rfl, Nat.le_refl _, fun _ _ => rfl⟩
      · obtain rfl : k = n := by omega
        have he : r = true := by
          have := HR.out
          rw [List.take_of_length_le (by rw [HL.out]; omega), List.take_of_length_le (by rw [HL2.out]; omega)] at this
          rw [← HR0.out]; simpa using this
        subst he
        clear HR0
        go_wp2
        go_ret
        exact ⟨rfl, rfl, rfl, rfl, Nat.le_refl _, fun _ _ => rfl⟩
  · have hne : r = false := by
      rw [← HR0.out, decide_eq_false_iff_not]; rintro rfl; exact hn (HL.out.symm.trans HL2.out)
    subst hne
    have hd2 : ((n : Int) != (n2 : Int)) = true := by simp; omega
    clear HR0
    go_enter Tryd.func47, Tryd.ntmps47
    go_wp2
    go_ret
    exact ⟨rfl, Below.refl _ _⟩
set_option maxRecDepth 100000 in
theorem vsame_any (A : Option Addr) (n c : Nat) (l : List Nat) (A2 : Option Addr) (n2 c2 : Nat) (l2 : List Nat) (w : World) (hl : l.length = n) (hm : n ≤ 9223372036854775807) (ha : At w A (nats .u32 l)) (hl2 : l2.length = n2) (hm2 : n2 ≤ 9223372036854775807) (ha2 : At w A2 (nats .u32 l2)) :
    Calls Tryd.prog 36 #[.slice A n c, .slice A2 n2 c2] w fun e w' => e = .returned (.bool (decide (l = l2))) ∧ Below w.heap.size w w' := by
  have C := Lib.hid (eq32_any A n c l A2 n2 c2 l2 w hl hm ha hl2 hm2 ha2)
  clear ha ha2 hl hl2
  generalize decide (l = l2) = r at *
  go_enter Tryd.func36, Tryd.ntmps36
  go_wp2_with fail
  refine C.out.mono ?_
  rintro e w' ⟨rfl, bel⟩
  go_wp2_with fail
  go_ret
  exact ⟨rfl, bel⟩
set_option maxRecDepth 100000 in
theorem rsame_any (A : Option Addr) (n c : Nat) (l : List Nat) (A2 : Option Addr) (n2 c2 : Nat) (l2 : List Nat) (w : World) (hl : l.length = n) (hm : n ≤ 9223372036854775807) (ha : At w A (nats .u32 l)) (hl2 : l2.length = n2) (hm2 : n2 ≤ 9223372036854775807) (ha2 : At w A2 (nats .u32 l2)) :
    Calls Tryd.prog 23 #[.slice A n c, .slice A2 n2 c2] w fun e w' => e = .returned (.bool (decide (l = l2))) ∧ Below w.heap.size w w' := by
  have HL := Lib.hid hl
  have HA := Lib.hid ha
  have HL2 := Lib.hid hl2
  have HA2 := Lib.hid ha2
  clear hl ha hl2 ha2
  obtain ⟨r, hr⟩ : ∃ r, decide (l = l2) = r := ⟨_, rfl⟩
  rw [hr]
  have HR0 := Lib.hid hr
  clear hr
  by_cases hn : n = n2
  · subst hn
    go_enter Tryd.func23, Tryd.ntmps23
    go_wp2
    go_loopw [5] (fun i wr => ∃ k m : Nat, k ≤ n ∧ i = .int .i64 k ∧ l.take k = l2.take k ∧ wr = w.drewN m) (fun i _ => n - (intOf i).toNat)
    case atStart => exact ⟨0, 0, by omega, rfl, rfl, rfl⟩
    case round =>
      obtain ⟨k, m, hk, rfl, hrm, rfl⟩ := hrel
      have HR := Lib.hid hrm
      clear hrm
      by_cases hlt : k < n
      · obtain ⟨b, o, rfl, hc⟩ := HA.out.nat k (by rw [HL.out]; exact hlt)
        obtain ⟨b2, o2, rfl, hc2⟩ := HA2.out.nat k (by rw [HL2.out]; exact hlt)
        have ht := take_snoc (l := l) (k := k) (by rw [HL.out]; exact hlt)
        have ht2 := take_snoc (l := l2) (k := k) (by rw [HL2.out]; exact hlt)
        obtain ⟨x, hx⟩ : ∃ x, l.getD k 0 = x := ⟨_, rfl⟩
        obtain ⟨x2, hx2⟩ : ∃ x, l2.getD k 0 = x := ⟨_, rfl⟩
        rw [hx] at hc ht
        rw [hx2] at hc2 ht2
        by_cases hxx : x = x2
        · subst hxx
          have hr2 : l.take (k + 1) = l2.take (k + 1) := by rw [ht, ht2, HR.out]
          have HR2 := Lib.hid hr2
          clear hx hx2 ht ht2 hr2
          go_wp2_with fail
          go_quiet (fail)
          go_wp2_with fail
          exact ⟨⟨k + 1, m + nq, by omega, by simp, HR2.out, rfl⟩, by simp only [intOf]; omega⟩
        · have hne : r = false := by
            rw [← HR0.out, decide_eq_false_iff_not]; rintro rfl; exact hxx (hx.symm.trans hx2)
          subst hne
          have hd : ((x : Int) != (x2 : Int)) = true := by simp; omega
          clear hx hx2 ht ht2 hxx HR0
          go_wp2_with fail
          go_quiet (fail)
          go_wp2_with fail
          go_ret
          exact ⟨rfl, rfl, rfl, rfl, Nat.le_refl _, fun _ _ => rfl⟩
      · obtain rfl : k = n := by omega
        have he : r = true := by
          have := HR.out
          rw [List.take_of_length_le (by rw [HL.out]; omega), List.take_of_length_le (by rw [HL2.out]; omega)] at this
          rw [← HR0.out]; simpa using this
        subst he
        clear HR0
        go_wp2
        go_ret
        exact ⟨rfl, rfl, rfl, rfl, Nat.le_refl _, fun _ _ => rfl⟩
  · have hne : r = false := by
      rw [← HR0.out, decide_eq_false_iff_not]; rintro rfl; exact hn (HL.out.symm.trans HL2.out)
    subst hne
    have hd2 : ((n : Int) != (n2 : Int)) = true := by simp; omega
    clear HR0
    go_enter Tryd.func23, Tryd.ntmps23
    go_wp2
    go_ret
    exact ⟨rfl, Below.refl _ _⟩
theorem ref_val (x y q : Nat) (hx : x < 4294967296) (hy : y < 4294967296) : IntKind.u32.wrap ((IntKind.u64.wrap (IntKind.u64.wrap (x : Int) + IntKind.u64.wrap ((q : Int) * IntKind.u64.wrap (y : Int)))).tmod 4294967296) = (((x + q * y) % 4294967296 : Nat) : Int) := by
  have h1 : IntKind.u64.wrap (x : Int) = x := by simp [IntKind.wrap, IntKind.signed, IntKind.bits]; omega
  have h2 : IntKind.u64.wrap (y : Int) = y := by simp [IntKind.wrap, IntKind.signed, IntKind.bits]; omega
  have h3 : (q : Int) * (y : Int) = ((q * y : Nat) : Int) := by push_cast; rfl
  rw [h1, h2, h3]
  generalize q * y = p
  have h4 : ∀ z : Nat, IntKind.u64.wrap (z : Int) = ((z % 18446744073709551616 : Nat) : Int) := by intro z; simp [IntKind.wrap, IntKind.signed, IntKind.bits]
  have h5 : ∀ z : Nat, IntKind.u32.wrap (z : Int) = ((z % 4294967296 : Nat) : Int) := by intro z; simp [IntKind.wrap, IntKind.signed, IntKind.bits]
  rw [h4, ← Int.natCast_add, h4]
  have h6 : ∀ z : Nat, (z : Int).tmod 4294967296 = ((z % 4294967296 : Nat) : Int) := by intro z; rfl
  rw [h6, h5]
  congr 1
  omega
set_option maxRecDepth 100000 in
set_option maxHeartbeats 4000000 in
theorem radd_ok (A : Option Addr) (n c : Nat) (l : List Nat) (A2 : Option Addr) (n2 c2 : Nat) (l2 : List Nat) (q : Nat) (w : World) (hl : l.length = n) (hl2 : l2.length = n2) (hn : n ≤ 32) (ha : At w A (nats .u32 l)) (ha2 : At w A2 (nats .u32 l2)) (hr : ∀ x ∈ l, x < 4294967296) (hr2 : ∀ x ∈ l2, x < 4294967296) (hnn : n = n2) (hq : q < 4294967296) :
    Calls Tryd.prog 22 #[.slice A n c, .slice A2 n2 c2, .int .u64 q] w (RowT w (VE.lin q l l2)) := by
  subst hnn
  obtain ⟨B, hB⟩ : ∃ B, w.heap.size = B := ⟨_, rfl⟩
  have HBB := Lib.hid hB
  have HL := Lib.hid hl
  have HL2 := Lib.hid hl2
  have HA := Lib.hid ha
  have HA2 := Lib.hid ha2
  have HR := Lib.hid hr
  have HR2 := Lib.hid hr2
  have HLL := Lib.hid (show (VE.lin q l l2).length = n by rw [VE.lin_length, hl, hl2]; omega)
  clear hl hl2 ha ha2 hr hr2 hB
  go_enter Tryd.func22, Tryd.ntmps22
  go_wp2
  go_loopw [8, 9] (fun s i wr => ∃ (k : Nat) (Ao : Option Addr) (co : Nat), k ≤ n ∧ i = .int .i64 k ∧ s = .slice Ao k co ∧ Own wr B 61 1 Ao k co (nats .u32 ((VE.lin q l l2).take k)) ∧ Below B w wr) (fun _ i _ => n - (intOf i).toNat)
  case atStart => exact ⟨0, none, 0, by omega, rfl, rfl, Own.none_ _ _ _ _, Below.refl _ _⟩
  case round =>
    obtain ⟨k, Ao, co, hk, rfl, rfl, hown, hbel⟩ := hrel
    have O0 := Lib.hid hown
    have B0 := Lib.hid hbel
    clear hown hbel
    by_cases hlt : k < n
    · obtain ⟨b, o, rfl, hc⟩ := (HA.out.later B0.out (Nat.le_of_eq HBB.out)).nat k (by rw [HL.out]; exact hlt)
      obtain ⟨b2, o2, rfl, hc2⟩ := (HA2.out.later B0.out (Nat.le_of_eq HBB.out)).nat k (by rw [HL2.out]; exact hlt)
      have hx : l.getD k 0 < 4294967296 := by rw [getD_lt (by rw [HL.out]; exact hlt)]; exact HR.out _ (List.getElem_mem _)
      have hy : l2.getD k 0 < 4294967296 := by rw [getD_lt (by rw [HL2.out]; exact hlt)]; exact HR2.out _ (List.getElem_mem _)
      have hsn := VE.lin_snoc (k := q) (m := k) (a := l) (b := l2) (by rw [HL.out]; exact hlt) (by rw [HL2.out]; exact hlt)
      have HSN := Lib.hid hsn
      clear hsn
      generalize l.getD k 0 = x at *
      generalize l2.getD k 0 = y at *
      have hxi : (x : Int) < 4294967296 := by omega
      have hyi : (y : Int) < 4294967296 := by omega
      have hqi : (q : Int) < 4294967296 := by omega
      have HXY := Lib.hid (And.intro hx hy)
      clear hx hy
      go_wp2_with fail
      go_region_law (refine step_app rfl elt_u32 B (.tmp 26) (.tmp 42) rfl _ rfl (O0.out.drew.alloc _) _ rfl (At.lit _ _ _ _ _ rfl) rfl (by intro u hu; simp at hu; subst hu; rfl) (by unfold maxLen; omega) (by omega) (by have := B0.out.size; have := HBB.out; simp; omega) ?_; intro A3 c3 w3 own3 g3 _; have B3 := Lib.hid ((B0.out.drew.alloc (by have := B0.out.size; have := HBB.out; simp; omega) _).grown g3 (by have := B0.out.size; have := HBB.out; simp; omega) (fun j hj => (O0.out.lt j hj).1)); have O3 := Lib.hid own3; clear own3 g3)
      all_goals
        go_wp2_with fail
        refine ⟨⟨k + 1, A3, c3, by omega, by simp, rfl, ?_, B3.out⟩, by simp only [intOf]; omega⟩
        rw [HSN.out, nats_append]
        have o := O3.out
        rw [ref_val x y q HXY.out.1 HXY.out.2] at o
        exact o
    · obtain rfl : k = n := by omega
      go_wp2
      go_ret2
      have e : (VE.lin q l l2).take k = VE.lin q l l2 := List.take_of_length_le (by rw [HLL.out]; omega)
      have o := O0.out
      rw [e] at o
      exact ⟨Ao, co, by rw [HLL.out]; rfl, o.at_, by rw [HBB.out]; exact B0.out⟩
set_option maxRecDepth 100000 in
theorem radd_no (A : Option Addr) (n c : Nat) (A2 : Option Addr) (n2 c2 : Nat) (v : Value) (w : World) (hn : n ≤ 9223372036854775807) (hn2 : n2 ≤ 9223372036854775807) (h : 32 < n ∨ n ≠ n2) :
    Calls Tryd.prog 22 #[.slice A n c, .slice A2 n2 c2, v] w fun e w' => e = .returned (.tuple #[.slice none 0 0, .bool false]) ∧ w = w' := by
  by_cases h32 : 32 < n
  · clear h
    go_enter Tryd.func22, Tryd.ntmps22
    go_wp2
    go_ret2
    exact ⟨rfl, rfl⟩
  · have hd : ((n : Int) != (n2 : Int)) = true := by simp; omega
    clear h
    go_enter Tryd.func22, Tryd.ntmps22
    go_wp2
    go_ret2
    exact ⟨rfl, rfl⟩
set_option maxRecDepth 100000 in
set_option maxHeartbeats 4000000 in
theorem rsum_in (A : Option Addr) (m c : Nat) (vs : List Value) (l : List (List Nat)) (n : Nat) (w : World) (hl : l.length = m) (hm : m ≤ 9223372036854775807) (hrows : Rows_ w .u32 A vs l) (hr : ∀ r ∈ l, ∀ x ∈ r, x < 4294967296) (hlen : ∀ r ∈ l, r.length ≤ 9223372036854775807) (hn : n ≤ 32) :
    Calls Tryd.prog 21 #[.slice A m c, .int .i64 n] w (EndB w (VE.sums n l)) := by
  have HL := Lib.hid hl
  have HRW := Lib.hid hrows
  have HR := Lib.hid hr
  have HLE := Lib.hid hlen
  obtain ⟨res, hres⟩ : ∃ res, VE.sums n l = res := ⟨_, rfl⟩
  rw [hres]
  have HRES := Lib.hid hres
  obtain ⟨g, hg⟩ : ∃ g, w.heap.size = g := ⟨_, rfl⟩
  have HGG := Lib.hid hg
  clear hl hrows hr hres hlen hg
  go_enter Tryd.func21, Tryd.ntmps21
  go_wp2_with (at_make; refine wpList_mkn elt_u32 rfl rfl (.tmp 16) (.tmp 16) rfl .i64 .i64 _ n rfl rfl rfl (by omega) (by unfold maxLen; omega) ?_; intro w1 h1 b1 z1; have H1 := Lib.hid (mkn_nats h1); have B1 := Lib.hid b1; clear h1 b1 z1)
  rw [HGG.out] at H1 B1
  go_loopw [6, 7] (fun s i wr => ∃ (k : Nat) (Ao : Option Addr) (co : Nat), k ≤ m ∧ i = .int .i64 k ∧ s = .slice Ao n co ∧ VE.good n (l.take k) ∧ At wr Ao (nats .u32 (VE.acc n (l.take k))) ∧ Below g w wr) (fun _ i _ => m - (intOf i).toNat)
  case atStart => exact ⟨0, some ⟨w.heap.size, 0, none⟩, n, by omega, rfl, rfl, (by intro r hr; simp at hr), by rw [HGG.out]; exact H1.out.at_, B1.out⟩
  case round =>
    obtain ⟨k, Ao, co, hk, rfl, rfl, hgd, hh, hb⟩ := hrel
    have HGD := Lib.hid hgd
    have HH := Lib.hid hh
    have HB := Lib.hid hb
    clear hgd hh hb H1 B1
    by_cases hlt : k < m
    · obtain ⟨b, o, A1, c1, rfl, hc0, hat, h5, h6, h7, h8⟩ := HRW.out.get k (by rw [HL.out]; exact hlt)
      have hc := (HB.out.cell (p := ⟨b, o + k, none⟩) (HGG.out ▸ h8)).trans hc0
      have HAT := Lib.hid (hat.later HB.out (Nat.le_of_eq HGG.out))
      clear hat h5 h8 hc0 h6 h7
      have HBY := Lib.hid (byt l k HR.out)
      have HNG := Lib.hid (fun h => not_good (n := n) (l := l) (k := k) (by rw [HL.out]; exact hlt) h)
      have HAC := Lib.hid (VE.acc_snoc (n := n) (k := k) (l := l) (by rw [HL.out]; exact hlt))
      have HGS := Lib.hid (fun h => VE.good_snoc (n := n) (k := k) (l := l) (by rw [HL.out]; exact hlt) HGD.out h)
      have HAL := Lib.hid (VE.acc_length _ HGD.out)
      have HAB := Lib.hid (VE.acc_lt (n := n) (l.take k))
      have hr63 : (l.getD k []).length ≤ 9223372036854775807 := by
        rw [show l.getD k [] = l[k]'(by rw [HL.out]; exact hlt) by simp [List.getD_eq_getElem?_getD, List.getElem?_eq_getElem (show k < l.length by rw [HL.out]; exact hlt)]]
        exact HLE.out _ (List.getElem_mem _)
      generalize l.getD k [] = r at *
      generalize VE.acc n (l.take k) = a at *
      by_cases hrn : r.length = n
      · have HRN := Lib.hid hrn
        have HLT := Lib.hid (show (VE.lin 1 a r).length = n by rw [VE.lin_length, HAL.out, hrn]; omega)
        have C := Lib.hid (radd_ok Ao n co a A1 r.length c1 r 1 wr HAL.out rfl hn HH.out HAT.out HAB.out HBY.out hrn.symm (by decide))
        clear hrn
        go_wp2_with fail
        refine C.out.mono ?_
        rintro e w2 ⟨A2, c2, rfl, hat, bel⟩
        have HT := Lib.hid hat
        have HB2 := Lib.hid (HB.out.trans (bel.mono (HGG.out ▸ HB.out.size)))
        clear hat bel C
        go_wp2_with fail
        exact ⟨⟨k + 1, A2, c2, by omega, by simp, by rw [HLT.out], HGS.out HRN.out, by rw [HAC.out]; exact HT.out, HB2.out⟩, by simp only [intOf]; omega⟩
      · have C := Lib.hid (radd_no Ao n co A1 r.length c1 (.int .u64 1) wr (by omega) hr63 (.inr (fun e => hrn e.symm)))
        have HNN := Lib.hid (HNG.out hrn)
        clear hrn
        go_wp2_with fail
        refine C.out.mono ?_
        rintro e w2 ⟨rfl, rfl⟩
        clear C
        go_wp2_with fail
        go_ret2
        have e : res = none := by rw [← HRES.out]; exact VE.sums_no (fun h => HNN.out (by simpa using h.2.2))
        subst e
        exact ⟨rfl, by rw [HGG.out]; exact HB.out⟩
    · obtain rfl : k = m := by omega
      have htl : l.take k = l := List.take_of_length_le (by rw [HL.out]; omega)
      have h1 := HGD.out
      have h2 := HH.out
      rw [htl] at h1 h2
      have e : res = some (VE.acc n l) := by rw [← HRES.out]; exact VE.sums_ok hn h1
      have HAL := VE.acc_length _ h1
      have HE := Lib.hid e
      have HG2 := Lib.hid h2
      have HG3 := Lib.hid HAL
      clear h1 h2 htl e HAL
      go_wp2
      go_ret2
      rw [HE.out]
      exact ⟨Ao, co, by rw [HG3.out]; rfl, HG2.out, by rw [HGG.out]; exact HB.out⟩
set_option maxRecDepth 100000 in
theorem rsum_out (A : Option Addr) (m c : Nat) (n : Int) (w : World) (h : n < 0 ∨ 32 < n) (h63 : n ≤ 9223372036854775807) :
    Calls Tryd.prog 21 #[.slice A m c, .int .i64 n] w (EndB w none) := by
  rcases h with h | h
  · go_enter Tryd.func21, Tryd.ntmps21
    go_wp2
    go_ret2
    exact ⟨rfl, Below.refl _ _⟩
  · have h0 : ¬ n < 0 := by omega
    go_enter Tryd.func21, Tryd.ntmps21
    go_wp2
    go_ret2
    exact ⟨rfl, Below.refl _ _⟩
theorem rsum_any (A : Option Addr) (m c : Nat) (vs : List Value) (l : List (List Nat)) (n : Int) (w : World) (hl : l.length = m) (hm : m ≤ 9223372036854775807) (hrows : Rows_ w .u32 A vs l) (hr : ∀ r ∈ l, ∀ x ∈ r, x < 4294967296) (hlen : ∀ r ∈ l, r.length ≤ 9223372036854775807) (h63 : n ≤ 9223372036854775807) :
    Calls Tryd.prog 21 #[.slice A m c, .int .i64 n] w (EndB w (VE.sums n l)) := by
  by_cases h : 0 ≤ n ∧ n ≤ 32
  · obtain ⟨k, rfl⟩ := Int.eq_ofNat_of_zero_le h.1
    exact rsum_in A m c vs l k w hl hm hrows hr hlen (by omega)
  · rw [VE.sums_no (fun h2 => h ⟨h2.1, h2.2.1⟩)]
    exact rsum_out A m c n w (by omega) h63
end Go.Proofs.YtmdilfgeogedpaaDoor
