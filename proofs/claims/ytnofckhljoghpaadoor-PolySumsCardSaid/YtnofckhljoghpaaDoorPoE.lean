/- Layer 3: the curve through points, and whether points lie on one: the document's. -/
import Derived.Test.YtnofckhljoghpaaDoorPoD
namespace Go.Proofs.YtnofckhljoghpaaDoor
open Go.RowKit
open PoM (ml ad sb iv)
theorem nv1_step (ns xs : List Nat) (x j : Nat) : (PoM.nv ns xs x (j + 1)).1 = ad (PoM.nv ns xs x j).1 (ml (ns.getD j 0) (PoM.nv ns xs x j).2) := rfl
theorem nv2_step (ns xs : List Nat) (x j : Nat) : (PoM.nv ns xs x (j + 1)).2 = ml (PoM.nv ns xs x j).2 (sb x (xs.getD j 0)) := rfl
theorem nw_step (xs ys : List Nat) (k : Nat) : PoM.nw xs ys (k + 1) = PoM.nw xs ys k ++ [ml (sb (ys.getD k 0) (PoM.nv (PoM.nw xs ys k) xs (xs.getD k 0) k).1) (iv (PoM.nv (PoM.nw xs ys k) xs (xs.getD k 0) k).2)] := rfl
theorem snoc_lt {l : List Nat} {q B : Nat} (h : ∀ i, l.getD i 0 < B) (hq : q < B) : ∀ i, (l ++ [q]).getD i 0 < B := by
  intro i
  by_cases hi : i < l.length
  · rw [List.getD_eq_getElem?_getD, List.getElem?_append_left hi, ← List.getD_eq_getElem?_getD]; exact h i
  · rw [List.getD_eq_getElem?_getD, List.getElem?_append_right (by omega)]
    rcases Nat.eq_zero_or_pos (i - l.length) with h0 | h0
    · rw [h0]; exact hq
    · rw [List.getElem?_eq_none (by simp; omega)]; exact Nat.lt_of_le_of_lt (Nat.zero_le _) hq
theorem nw_lt (xs ys : List Nat) : ∀ k i, (PoM.nw xs ys k).getD i 0 < FpM.p
  | 0, i => by
    have : PoM.nw xs ys 0 = [] := rfl
    rw [this]; exact FpM.p_pos
  | k + 1, i => by
    rw [nw_step]
    exact snoc_lt (nw_lt xs ys k) (PoM.ml_lt _ _) i
section
variable (A : Option Addr) (n c : Nat) (xs ys : List Nat) (w : World)
set_option maxRecDepth 100000 in
set_option maxHeartbeats 2000000 in
theorem rthrough_bad (z : Nat) (f : Int) (hB : Bad xs n f) (hl : xs.length = n) (hm : n ≤ 1000) (ha : Shs w A xs ys n) :
    Calls Tryd.prog 9 #[.slice A n c, .int .u64 z] w fun e w' => e = .returned (.tuple #[.int .u64 0, .int .i64 f]) ∧ Below w.heap.size w w' := by
  have C := Lib.hid (rxs_any A n c xs ys w hl hm ha)
  have HB := Lib.hid hB
  have HL := Lib.hid hl
  have hf : f = 1 ∨ f = 8 := by rcases hB with ⟨h, _⟩ | ⟨h, _⟩ <;> omega
  clear hB hl ha
  go_enter Tryd.func9, Tryd.ntmps9
  go_wp2_with fail
  refine C.out.mono ?_
  rintro e w1 ⟨A1, c1, rfl, h1, b1⟩
  have B1 := Lib.hid b1
  have H1 := Lib.hid h1
  clear b1 h1 C
  go_wp2_with fail
  refine (rapart_bad A1 n c1 xs w1 f HB.out HL.out H1.out).mono ?_
  rintro e w2 ⟨rfl, b2⟩
  have B2 := Lib.hid (B1.out.trans (b2.mono B1.out.size))
  clear b2 HB
  rcases hf with rfl | rfl
  · go_wp2_with fail
    exact bodyPost_ret (v := .tuple #[.int .u64 0, .int .i64 1]) (by simp [results, Tryd.results9, go_sem]) rfl ⟨rfl, B2.out⟩
  · go_wp2_with fail
    exact bodyPost_ret (v := .tuple #[.int .u64 0, .int .i64 8]) (by simp [results, Tryd.results9, go_sem]) rfl ⟨rfl, B2.out⟩
set_option maxRecDepth 100000 in
set_option maxHeartbeats 2000000 in
theorem rthrough_ok (z : Nat) (hz : z < 18446744073709551616) (hd : PoM.Dif xs) (h : n ≤ 64) (hl : xs.length = n) (ha : Shs w A xs ys n) (hb : ∀ i, xs.getD i 0 < 18446744073709551616) (hy : ∀ i, ys.getD i 0 < 18446744073709551616) :
    Calls Tryd.prog 9 #[.slice A n c, .int .u64 z] w fun e w' => e = .returned (.tuple #[.int .u64 (PoM.sm xs ys z n : Nat), .int .i64 0]) ∧ Below w.heap.size w w' := by
  have C := Lib.hid (rxs_any A n c xs ys w hl (by omega) ha)
  have HSV0 := Lib.hid (show PoM.sm xs ys z n = (PoM.nv (PoM.nw xs ys n) xs z n).1 from by have e := PoM.sm_nv (ys := ys) hd z; rwa [hl] at e)
  have HD := Lib.hid hd
  have HL := Lib.hid hl
  have HA := Lib.hid ha
  have HB64 := Lib.hid hb
  have HY64 := Lib.hid hy
  clear hd hl ha hb hy
  go_enter Tryd.func9, Tryd.ntmps9
  go_wp2_with fail
  refine C.out.mono ?_
  rintro e w1 ⟨A1, c1, rfl, h1, b1⟩
  have B1 := Lib.hid b1
  have H1 := Lib.hid h1
  clear b1 h1 C
  go_wp2_with fail
  refine (rapart_ok A1 n c1 xs w1 HD.out h HL.out H1.out).mono ?_
  rintro e w2 ⟨rfl, b2⟩
  have B2 := Lib.hid (B1.out.trans (b2.mono B1.out.size))
  clear b2 B1 H1
  go_wp2_with fail
  go_loopw [7, 8] (fun ov i wr => ∃ (k : Nat) (A' : Option Addr) (c' : Nat), k ≤ n ∧ ov = .slice A' k c' ∧ i = .int .i64 (k : Nat) ∧ Own wr w.heap.size 24 1 A' k c' (nats .u64 (PoM.nw xs ys k)) ∧ Below w.heap.size w wr) (fun _ i _ => n - (intOf i).toNat)
  case atStart => exact ⟨0, none, 0, Nat.zero_le _, rfl, rfl, Own.none_ w2 w.heap.size 24 1, B2.out⟩
  case round =>
    obtain ⟨k, A', c', hk, rfl, rfl, hown, hbel⟩ := hrel
    have HO := Lib.hid hown
    have HB := Lib.hid hbel
    have k0 : (0 : Int) ≤ (k : Int) := by omega
    clear hown hbel B2
    by_cases h0 : k < n
    · obtain ⟨b, o, rfl, g1, g9⟩ := (HA.out.later HB.out (Nat.le_refl _)) k h0
      clear g9
      have hx64 := HB64.out k
      obtain ⟨x, hx⟩ : ∃ x, xs.getD k 0 = x := ⟨_, rfl⟩
      rw [hx] at g1 hx64
      have HX := Lib.hid hx
      clear hx
      go_wp2_with fail
      go_loopw [10, 11, 12] (fun u v i wq => ∃ j : Nat, j ≤ k ∧ u = .int .u64 ((PoM.nv (PoM.nw xs ys k) xs x j).1 : Nat) ∧ v = .int .u64 ((PoM.nv (PoM.nw xs ys k) xs x j).2 : Nat) ∧ i = .int .i64 (j : Nat) ∧ wr = wq) (fun _ _ i _ => k - (intOf i).toNat)
      case atStart => exact ⟨0, Nat.zero_le _, rfl, rfl, rfl, rfl⟩
      case round =>
        obtain ⟨j, hj, rfl, rfl, rfl, rfl⟩ := hrel
        have hu64 := lt64 (PoM.nv1_lt (PoM.nw xs ys k) xs x j)
        have hv64 := lt64 (PoM.nv2_lt (PoM.nw xs ys k) xs x j)
        by_cases h1 : j < k
        · obtain ⟨b', o', e', g1, g2⟩ := (HA.out.later HB.out (Nat.le_refl _)) j (by omega)
          obtain ⟨b3, o3, rfl, g3⟩ := HO.out.at_.nat j (by rw [PoM.nw_length]; exact h1)
          have j0 : (0 : Int) ≤ (j : Int) := by omega
          have s1 := nv1_step (PoM.nw xs ys k) xs x j
          have s2 := nv2_step (PoM.nw xs ys k) xs x j
          have hy64 := HB64.out j
          have hn64 := lt64 (nw_lt xs ys k j)
          injection e' with e'; injection e' with a1 a2; subst a1; subst a2
          obtain ⟨y, hy⟩ : ∃ y, xs.getD j 0 = y := ⟨_, rfl⟩
          obtain ⟨nn, hnn⟩ : ∃ nn, (PoM.nw xs ys k).getD j 0 = nn := ⟨_, rfl⟩
          rw [hy] at g1 hy64 s2
          rw [hnn] at g3 hn64 s1
          obtain ⟨u, hu⟩ : ∃ u, (PoM.nv (PoM.nw xs ys k) xs x j).1 = u := ⟨_, rfl⟩
          obtain ⟨v, hv⟩ : ∃ v, (PoM.nv (PoM.nw xs ys k) xs x j).2 = v := ⟨_, rfl⟩
          rw [hu] at s1 hu64
          rw [hv] at s1 s2 hv64
          rw [hu, hv]
          have S1 := Lib.hid s1
          have S2 := Lib.hid s2
          clear hu hv hy hnn s1 s2 g2
          go_wp2_with fail
          refine (rml nn v _ hn64 hv64).mono ?_
          rintro e w' ⟨rfl, rfl⟩
          go_wp2_with fail
          refine (rad u _ _ hu64 (lt64 (PoM.ml_lt _ _))).mono ?_
          rintro e w' ⟨rfl, rfl⟩
          go_wp2_with fail
          refine (rsb x y _ hx64 hy64).mono ?_
          rintro e w' ⟨rfl, rfl⟩
          go_wp2_with fail
          refine (rml v _ _ hv64 (lt64 (PoM.sb_lt _ _))).mono ?_
          rintro e w' ⟨rfl, rfl⟩
          go_wp2_with fail
          go_round
          case rel => exact ⟨j + 1, by omega, by rw [S1.out], by rw [S2.out], by go_num, trivial⟩
          case measure => simp [intOf]; omega
        · obtain rfl : j = k := by omega
          have hnz := PoM.nv2_ne HD.out (PoM.nw xs ys j) (i := j) (by rw [HL.out]; exact h0)
          have hst := nw_step xs ys j
          rw [HX.out] at hnz hst
          obtain ⟨u, hu⟩ : ∃ u, (PoM.nv (PoM.nw xs ys j) xs x j).1 = u := ⟨_, rfl⟩
          obtain ⟨v, hv⟩ : ∃ v, (PoM.nv (PoM.nw xs ys j) xs x j).2 = v := ⟨_, rfl⟩
          rw [hu] at hu64 hst
          rw [hv] at hv64 hst hnz
          rw [hu, hv]
          obtain ⟨b', o', e', g1, g2⟩ := (HA.out.later HB.out (Nat.le_refl _)) j h0
          injection e' with e'; injection e' with a1 a2; subst a1; subst a2
          have hy64 := HY64.out j
          obtain ⟨y, hy⟩ : ∃ y, ys.getD j 0 = y := ⟨_, rfl⟩
          rw [hy] at g2 hy64 hst
          have CS := rsb y u wr hy64 hu64
          have hs64 := lt64 (PoM.sb_lt y u)
          obtain ⟨s, hs⟩ : ∃ s, sb y u = s := ⟨_, rfl⟩
          rw [hs] at CS hst hs64
          have CI := riv v wr hv64 hnz
          have hi64 := lt64 (PoM.iv_lt v)
          obtain ⟨t, ht⟩ : ∃ t, iv v = t := ⟨_, rfl⟩
          rw [ht] at CI hst hi64
          have CM := rml s t wr hs64 hi64
          obtain ⟨q, hq⟩ : ∃ q, ml s t = q := ⟨_, rfl⟩
          rw [hq] at CM hst
          have HST := Lib.hid hst
          have HCS := Lib.hid CS
          have HCI := Lib.hid CI
          have HCM := Lib.hid CM
          have hjn : ((j : Int) == (n : Int)) = false := by simp; omega
          have hjn2 : (j == n) = false := by simp; omega
          have hjn3 : decide (j = n) = false := by simp; omega
          clear hu hv hy hs ht hq CS CI CM hnz hst g1
          go_wp2_with fail
          with_reducible refine HCS.out.mono ?_
          rintro e w' ⟨rfl, rfl⟩
          go_wp2_with fail
          with_reducible refine HCI.out.mono ?_
          rintro e w' ⟨rfl, rfl⟩
          go_wp2_with fail
          with_reducible refine HCM.out.mono ?_
          rintro e w' ⟨rfl, rfl⟩
          go_wp2_with (at_builtin; refine wpList_app rfl elt_u64 w.heap.size (.tmp 62) (.tmp 73) rfl _ rfl (HO.out.alloc _) [.int .u64 (q : Nat)] rfl (At.lit _ _ _ _ _ rfl) rfl (by intro u hu; simp at hu; subst hu; rfl) (by unfold maxLen; omega) (by omega) (by have h5 := HB.out.size; simp; omega) ?_; intro A3 c3 w3 own3 g3 _; have B3 := Lib.hid ((HB.out.alloc HB.out.size (.cells #[.int .u64 (q : Nat)] 24)).grown g3 (by have h5 := (HB.out.alloc HB.out.size (.cells #[.int .u64 (q : Nat)] 24)).size; exact h5) (by intro j e; exact (HO.out.lt j e).1)); have O3 := Lib.hid own3; clear own3 g3)
          go_round
          case rel => exact ⟨j + 1, A3, c3, by omega, rfl, by go_num, (by rw [HST.out, nats_append]; exact O3.out), B3.out⟩
          case measure => simp [intOf]; omega
    · obtain rfl : k = n := by omega
      obtain ⟨x, hx⟩ : ∃ x, z = x := ⟨_, rfl⟩
      have hx64 := hz
      rw [hx] at hx64
      have SV := Lib.hid (show PoM.sm xs ys x k = (PoM.nv (PoM.nw xs ys k) xs x k).1 from by rw [← hx]; exact HSV0.out)
      subst hx
      clear HSV0
      go_wp2_with fail
      go_loopw [10, 11, 12] (fun u v i wq => ∃ j : Nat, j ≤ k ∧ u = .int .u64 ((PoM.nv (PoM.nw xs ys k) xs z j).1 : Nat) ∧ v = .int .u64 ((PoM.nv (PoM.nw xs ys k) xs z j).2 : Nat) ∧ i = .int .i64 (j : Nat) ∧ wr = wq) (fun _ _ i _ => k - (intOf i).toNat)
      case atStart => exact ⟨0, Nat.zero_le _, rfl, rfl, rfl, rfl⟩
      case round =>
        obtain ⟨j, hj, rfl, rfl, rfl, rfl⟩ := hrel
        have hu64 := lt64 (PoM.nv1_lt (PoM.nw xs ys k) xs z j)
        have hv64 := lt64 (PoM.nv2_lt (PoM.nw xs ys k) xs z j)
        by_cases h1 : j < k
        · obtain ⟨b', o', e', g1, g2⟩ := (HA.out.later HB.out (Nat.le_refl _)) j (by omega)
          obtain ⟨b3, o3, rfl, g3⟩ := HO.out.at_.nat j (by rw [PoM.nw_length]; exact h1)
          have j0 : (0 : Int) ≤ (j : Int) := by omega
          have s1 := nv1_step (PoM.nw xs ys k) xs z j
          have s2 := nv2_step (PoM.nw xs ys k) xs z j
          have hy64 := HB64.out j
          have hn64 := lt64 (nw_lt xs ys k j)
          subst e'
          obtain ⟨y, hy⟩ : ∃ y, xs.getD j 0 = y := ⟨_, rfl⟩
          obtain ⟨nn, hnn⟩ : ∃ nn, (PoM.nw xs ys k).getD j 0 = nn := ⟨_, rfl⟩
          rw [hy] at g1 hy64 s2
          rw [hnn] at g3 hn64 s1
          obtain ⟨u, hu⟩ : ∃ u, (PoM.nv (PoM.nw xs ys k) xs z j).1 = u := ⟨_, rfl⟩
          obtain ⟨v, hv⟩ : ∃ v, (PoM.nv (PoM.nw xs ys k) xs z j).2 = v := ⟨_, rfl⟩
          rw [hu] at s1 hu64
          rw [hv] at s1 s2 hv64
          rw [hu, hv]
          have S1 := Lib.hid s1
          have S2 := Lib.hid s2
          clear hu hv hy hnn s1 s2 g2
          go_wp2_with fail
          refine (rml nn v _ hn64 hv64).mono ?_
          rintro e w' ⟨rfl, rfl⟩
          go_wp2_with fail
          refine (rad u _ _ hu64 (lt64 (PoM.ml_lt _ _))).mono ?_
          rintro e w' ⟨rfl, rfl⟩
          go_wp2_with fail
          refine (rsb z y _ hx64 hy64).mono ?_
          rintro e w' ⟨rfl, rfl⟩
          go_wp2_with fail
          refine (rml v _ _ hv64 (lt64 (PoM.sb_lt _ _))).mono ?_
          rintro e w' ⟨rfl, rfl⟩
          go_wp2_with fail
          go_round
          case rel => exact ⟨j + 1, by omega, by rw [S1.out], by rw [S2.out], by go_num, trivial⟩
          case measure => simp [intOf]; omega
        · obtain rfl : j = k := by omega
          have HSV := Lib.hid (SV.out : PoM.sm xs ys z j = (PoM.nv (PoM.nw xs ys j) xs z j).1)
          obtain ⟨u, hu⟩ : ∃ u, (PoM.nv (PoM.nw xs ys j) xs z j).1 = u := ⟨_, rfl⟩
          have HSU := Lib.hid (HSV.out.trans hu)
          rw [hu]
          clear hu
          go_wp2_with fail
          exact bodyPost_ret (v := .tuple #[.int .u64 (u : Nat), .int .i64 0]) (by simp [results, Tryd.results9, go_sem]) rfl ⟨by rw [HSU.out], HB.out⟩
end
end Go.Proofs.YtnofckhljoghpaaDoor
