/- Layer 3: what places are worth, the curve through points, whether points lie on one: the program's. -/
import Derived.Test.YtnofckhljoghpaaDoorPoB
namespace Go.Proofs.YtnofckhljoghpaaDoor
open Go.RowKit
open PoM (ml ad sb iv)
/-- why places may not be -/
def Bad (xs : List Nat) (n : Nat) (f : Int) : Prop := (f = 1 ∧ 64 < n) ∨ (f = 8 ∧ n ≤ 64 ∧ ¬ PoM.Dif xs)
section
variable (A : Option Addr) (n c : Nat) (xs ys : List Nat) (w : World)
theorem check_bad (f : Int) (hB : Bad xs n f) (hl : xs.length = n) (ha : At w A (nats .u64 xs)) (hb : ∀ i, xs.getD i 0 < 18446744073709551616) :
    Calls Tryd.prog 25 #[.slice A n c] w fun e w' => e = .returned (.iface 57 (.int .i64 f)) ∧ Below w.heap.size w w' := by
  rcases hB with ⟨rfl, h⟩ | ⟨rfl, h, hd⟩
  · exact (check_long A n c w h).mono fun e w' ⟨h1, h2⟩ => by subst h2; exact ⟨h1, Below.refl _ _⟩
  · refine (check_any A n c xs w hl h ha hb).mono ?_
    rintro e w' ⟨v, rfl, h1, h2⟩
    rcases h1 with ⟨rfl, h1⟩ | ⟨rfl, h1⟩
    · exact absurd h1 hd
    · exact ⟨rfl, h2⟩
theorem check_ok (hd : PoM.Dif xs) (h : n ≤ 64) (hl : xs.length = n) (ha : At w A (nats .u64 xs)) (hb : ∀ i, xs.getD i 0 < 18446744073709551616) :
    Calls Tryd.prog 25 #[.slice A n c] w fun e w' => e = .returned .nilIface ∧ Below w.heap.size w w' := by
  refine (check_any A n c xs w hl h ha hb).mono ?_
  rintro e w' ⟨v, rfl, h1, h2⟩
  rcases h1 with ⟨rfl, h1⟩ | ⟨rfl, h1⟩
  · exact ⟨rfl, h2⟩
  · exact absurd hd h1
theorem rapart_bad (f : Int) (hB : Bad xs n f) (hl : xs.length = n) (ha : At w A (nats .u64 xs)) :
    Calls Tryd.prog 21 #[.slice A n c] w fun e w' => e = .returned (.int .i64 f) ∧ Below w.heap.size w w' := by
  rcases hB with ⟨rfl, h⟩ | ⟨rfl, h, hd⟩
  · exact (rapart_long A n c w h).mono fun e w' ⟨h1, h2⟩ => by subst h2; exact ⟨h1, Below.refl _ _⟩
  · refine (rapart_any A n c xs w hl h ha).mono ?_
    rintro e w' ⟨v, rfl, h1, m, rfl⟩
    rcases h1 with ⟨rfl, h1⟩ | ⟨rfl, h1⟩
    · exact absurd h1 hd
    · exact ⟨rfl, below_drewN _ _ _⟩
theorem rapart_ok (hd : PoM.Dif xs) (h : n ≤ 64) (hl : xs.length = n) (ha : At w A (nats .u64 xs)) :
    Calls Tryd.prog 21 #[.slice A n c] w fun e w' => e = .returned (.int .i64 0) ∧ Below w.heap.size w w' := by
  refine (rapart_any A n c xs w hl h ha).mono ?_
  rintro e w' ⟨v, rfl, h1, m, rfl⟩
  rcases h1 with ⟨rfl, h1⟩ | ⟨rfl, h1⟩
  · exact ⟨rfl, below_drewN _ _ _⟩
  · exact absurd hd h1
set_option maxRecDepth 100000 in
set_option maxHeartbeats 2000000 in
theorem weights_bad (z : Nat) (f : Int) (hB : Bad xs n f) (hl : xs.length = n) (ha : At w A (nats .u64 xs)) (hb : ∀ i, xs.getD i 0 < 18446744073709551616) :
    Calls Tryd.prog 12 #[.slice A n c, .int .u64 z] w fun e w' => e = .returned (.tuple #[.slice none 0 0, .iface 57 (.int .i64 f)]) ∧ Below w.heap.size w w' := by
  have C := Lib.hid (check_bad A n c xs w f hB hl ha hb)
  clear hB hl ha hb
  go_enter Tryd.func12, Tryd.ntmps12
  go_wp2_with fail
  refine C.out.mono ?_
  rintro e w1 ⟨rfl, b1⟩
  have B1 := Lib.hid b1
  clear b1 C
  go_wp2_with fail
  exact bodyPost_ret (v := .tuple #[.slice none 0 0, .iface 57 (.int .i64 f)]) (by simp [results, Tryd.results12, go_sem]) rfl ⟨rfl, B1.out⟩
/-- what places are worth, one by one -/
def wl (xs : List Nat) (z n : Nat) : List Nat := (List.range n).map (PoM.wt xs z)
theorem wl_length (xs : List Nat) (z n : Nat) : (wl xs z n).length = n := by simp [wl]
theorem map_range_getD (f : Nat → Nat) {n i : Nat} (h : i < n) : ((List.range n).map f).getD i 0 = f i := by
  simp [List.getD_eq_getElem?_getD, List.getElem?_map, List.getElem?_range h]
theorem wl_getD (xs : List Nat) (z : Nat) {n i : Nat} (h : i < n) : (wl xs z n).getD i 0 = PoM.wt xs z i := map_range_getD (PoM.wt xs z) h
set_option maxRecDepth 100000 in
set_option maxHeartbeats 2000000 in
theorem weights_ok (z : Nat) (hz : z < 18446744073709551616) (hd : PoM.Dif xs) (h : n ≤ 64) (hl : xs.length = n) (ha : At w A (nats .u64 xs)) (hb : ∀ i, xs.getD i 0 < 18446744073709551616) :
    Calls Tryd.prog 12 #[.slice A n c, .int .u64 z] w fun e w' => ∃ A' c', e = .returned (.tuple #[.slice A' n c', .nilIface]) ∧ At w' A' (nats .u64 (wl xs z n)) ∧ Below w.heap.size w w' := by
  have C := Lib.hid (check_ok A n c xs w hd h hl ha hb)
  have HL := Lib.hid hl
  have HA := Lib.hid ha
  have HD := Lib.hid hd
  have HB64 := Lib.hid hb
  clear hl ha hb hd
  go_enter Tryd.func12, Tryd.ntmps12
  go_wp2_with fail
  refine C.out.mono ?_
  rintro e w1 ⟨rfl, b1⟩
  have B1 := Lib.hid b1
  clear b1 C
  go_wp2_with (at_make; refine wpList_mk elt_u64 rfl w.heap.size _ (.tmp 22) rfl .i64 .i64 _ n rfl rfl rfl (by omega) (by unfold maxLen; omega) B1.out.size ?_; intro w2 own2 g2; have B2 := Lib.hid (B1.out.grown g2 B1.out.size (fun k hk => by cases hk)); have O2 := Lib.hid own2; clear own2 g2)
  go_loopw [7, 26] (fun ov i wr => ∃ (k : Nat) (A' : Option Addr) (c' : Nat), k ≤ n ∧ ov = .slice A' k c' ∧ i = .int .i64 (k : Nat) ∧ Own wr w.heap.size 24 1 A' k c' (nats .u64 ((wl xs z n).take k)) ∧ Below w.heap.size w wr) (fun _ i _ => n - (intOf i).toNat)
  case atStart => exact ⟨0, _, _, Nat.zero_le _, rfl, rfl, by simpa [nats] using O2.out, B2.out⟩
  case round =>
    obtain ⟨k, A', c', hk, rfl, rfl, hown, hbel⟩ := hrel
    have HO := Lib.hid hown
    have HB := Lib.hid hbel
    clear hown hbel O2 B2
    by_cases h0 : k < n
    · obtain ⟨b, o, rfl, hc⟩ := (HA.out.later HB.out (Nat.le_refl _)).nat k (by rw [HL.out]; exact h0)
      have k0 : (0 : Int) ≤ (k : Int) := by omega
      have hx64 := HB64.out k
      obtain ⟨x, hx⟩ : ∃ x, xs.getD k 0 = x := ⟨_, rfl⟩
      rw [hx] at hc hx64
      have HX := Lib.hid hx
      clear hx
      go_wp2_with fail
      go_loopw [10, 11, 33] (fun u v i wq => ∃ j : Nat, j ≤ n ∧ u = .int .u64 (PoM.prd xs k z j : Nat) ∧ v = .int .u64 (PoM.prd xs k x j : Nat) ∧ i = .int .i64 (j : Nat) ∧ wr = wq) (fun _ _ i _ => n - (intOf i).toNat)
      case atStart => exact ⟨0, Nat.zero_le _, rfl, rfl, rfl, rfl⟩
      case round =>
        obtain ⟨j, hj, rfl, rfl, rfl, rfl⟩ := hrel
        have hu64 := lt64 (PoM.prd_lt xs k z j)
        have hv64 := lt64 (PoM.prd_lt xs k x j)
        by_cases h1 : j < n
        · obtain ⟨b', o', e', hc2⟩ := (HA.out.later HB.out (Nat.le_refl _)).nat j (by rw [HL.out]; exact h1)
          injection e' with e'; injection e' with a1 a2; subst a1; subst a2
          have j0 : (0 : Int) ≤ (j : Int) := by omega
          have hy64 := HB64.out j
          have s1 := (show PoM.prd xs k z (j + 1) = if j = k then PoM.prd xs k z j else ml (PoM.prd xs k z j) (sb z (xs.getD j 0)) from rfl)
          have s2 := (show PoM.prd xs k x (j + 1) = if j = k then PoM.prd xs k x j else ml (PoM.prd xs k x j) (sb x (xs.getD j 0)) from rfl)
          obtain ⟨y, hy⟩ : ∃ y, xs.getD j 0 = y := ⟨_, rfl⟩
          rw [hy] at hc2 hy64 s1 s2
          clear hy
          obtain ⟨u, hu⟩ : ∃ u, PoM.prd xs k z j = u := ⟨_, rfl⟩
          obtain ⟨v, hv⟩ : ∃ v, PoM.prd xs k x j = v := ⟨_, rfl⟩
          rw [hu] at s1 hu64
          rw [hv] at s2 hv64
          rw [hu, hv]
          clear hu hv
          by_cases e : j = k
          · have S1 := Lib.hid (s1.trans (if_pos e))
            have S2 := Lib.hid (s2.trans (if_pos e))
            have d1 : ((j : Int) == (k : Int)) = true := by simp [e]
            have d2 : (j == k) = true := by simp [e]
            have d3 : decide ((j : Int) = (k : Int)) = true := by simp [e]
            have d4 : decide (j = k) = true := by simp [e]
            clear s1 s2 e
            go_wp2_with fail
            go_round
            case rel => exact ⟨j + 1, by omega, by rw [S1.out], by rw [S2.out], by go_num, trivial⟩
            case measure => simp [intOf]; omega
          · have S1 := Lib.hid (s1.trans (if_neg e))
            have S2 := Lib.hid (s2.trans (if_neg e))
            have d1 : ((j : Int) == (k : Int)) = false := by simp; omega
            have d2 : (j == k) = false := by simp; omega
            have d3 : decide ((j : Int) = (k : Int)) = false := by simp; omega
            have d4 : decide (j = k) = false := by simp; omega
            clear s1 s2 e
            go_wp2_with fail
            refine (csb z y _ hz hy64).mono ?_
            rintro e w' ⟨rfl, rfl⟩
            go_wp2_with fail
            refine (cml u _ _ hu64 (lt64 (PoM.sb_lt _ _))).mono ?_
            rintro e w' ⟨rfl, rfl⟩
            go_wp2_with fail
            refine (csb x y _ hx64 hy64).mono ?_
            rintro e w' ⟨rfl, rfl⟩
            go_wp2_with fail
            refine (cml v _ _ hv64 (lt64 (PoM.sb_lt _ _))).mono ?_
            rintro e w' ⟨rfl, rfl⟩
            go_wp2_with fail
            go_round
            case rel => exact ⟨j + 1, by omega, by rw [S1.out], by rw [S2.out], by go_num, trivial⟩
            case measure => simp [intOf]; omega
        · obtain rfl : j = n := by omega
          have hnz := PoM.prd_ne HD.out (i := k) (by rw [HL.out]; exact h0)
          have hwt : ml (PoM.prd xs k z j) (iv (PoM.prd xs k x j)) = (wl xs z j).getD k 0 := by
            rw [wl_getD xs z h0]
            show _ = ml (PoM.prd xs k z xs.length) (iv (PoM.prd xs k (xs.getD k 0) xs.length))
            rw [HX.out, HL.out]
          rw [HX.out, HL.out] at hnz
          have hsn := nats_snoc (wl xs z j) k (by rw [wl_length]; exact h0)
          rw [← hwt] at hsn
          have HSN := Lib.hid hsn
          have HNZ := Lib.hid hnz
          clear hsn hwt hnz
          obtain ⟨u, hu⟩ : ∃ u, PoM.prd xs k z j = u := ⟨_, rfl⟩
          obtain ⟨v, hv⟩ : ∃ v, PoM.prd xs k x j = v := ⟨_, rfl⟩
          rw [hu] at hu64 HSN
          rw [hv] at hv64 HSN HNZ
          rw [hu, hv]
          have CD := cdv u v wr hu64 hv64 HNZ.out
          obtain ⟨q, hq⟩ : ∃ q, ml u (iv v) = q := ⟨_, rfl⟩
          rw [hq] at CD HSN
          have CDH := Lib.hid CD
          clear hu hv hq CD HNZ
          go_wp2_with fail
          refine CDH.out.mono ?_
          rintro e w' ⟨rfl, rfl⟩
          go_wp2_with (at_builtin; refine wpList_app rfl elt_u64 w.heap.size (.tmp 61) (.tmp 63) rfl _ rfl (HO.out.alloc _) [.int .u64 (q : Nat)] rfl (At.lit _ _ _ _ _ rfl) rfl (by intro u hu; simp at hu; subst hu; rfl) (by unfold maxLen; omega) (by omega) (by have h5 := HB.out.size; simp; omega) ?_; intro A3 c3 w3 own3 g3 _; have B3 := Lib.hid ((HB.out.alloc HB.out.size (.cells #[.int .u64 (q : Nat)] 24)).grown g3 (by have h5 := (HB.out.alloc HB.out.size (.cells #[.int .u64 (q : Nat)] 24)).size; exact h5) (by intro j e; exact (HO.out.lt j e).1)); have O3 := Lib.hid own3; clear own3 g3)
          go_round
          case rel => exact ⟨k + 1, A3, c3, by omega, rfl, by go_num, HSN.out ▸ O3.out, B3.out⟩
          case measure => simp [intOf]; omega
    · obtain rfl : k = n := by omega
      have HO2 := Lib.hid (show Own wr w.heap.size 24 1 A' k c' (nats .u64 (wl xs z k)) from by have h := HO.out; rwa [List.take_of_length_le (by rw [wl_length]; exact Nat.le_refl _)] at h)
      clear HO
      go_wp2_with fail
      exact bodyPost_ret (v := .tuple #[.slice A' k c', .nilIface]) (by simp [results, Tryd.results12, go_sem]) rfl ⟨A', c', rfl, HO2.out.at_, HB.out⟩
end
end Go.Proofs.YtnofckhljoghpaaDoor
