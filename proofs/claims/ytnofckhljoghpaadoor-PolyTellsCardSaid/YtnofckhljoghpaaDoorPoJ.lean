/- Layer 3: PolyKnown. -/
import Derived.Test.YtnofckhljoghpaaDoorPoI
import Derived.Deep.CutRange
namespace Go.Proofs.YtnofckhljoghpaaDoor
open Go.RowKit
open PoM (ml ad sb iv)
/-- places in a row, and a curve's values there -/
def px (s m : Nat) : List Nat := (List.range m).map fun i => i + s
def py (cl : List Nat) (s m : Nat) : List Nat := (List.range m).map fun i => PoM.hor cl (i + s)
theorem px_length (s m : Nat) : (px s m).length = m := by simp [px]
theorem px_getD (s m i : Nat) (h : i < m) : (px s m).getD i 0 = i + s := map_range_getD (fun i => i + s) h
theorem py_getD (cl : List Nat) (s m i : Nat) (h : i < m) : (py cl s m).getD i 0 = PoM.hor cl (i + s) := map_range_getD (fun i => PoM.hor cl (i + s)) h
theorem map_range_lt (f : Nat → Nat) (m B : Nat) (hB : 0 < B) (h : ∀ i, i < m → f i < B) : ∀ i, ((List.range m).map f).getD i 0 < B := by
  intro i
  by_cases hi : i < m
  · rw [map_range_getD f hi]; exact h i hi
  · rw [List.getD_eq_getElem?_getD, List.getElem?_eq_none (by simp; omega)]; exact hB
theorem px_lt (s m : Nat) (h : s + m < 18446744073709551616) : ∀ i, (px s m).getD i 0 < 18446744073709551616 := map_range_lt _ m _ (by decide) fun i hi => by omega
theorem py_lt (cl : List Nat) (s m : Nat) : ∀ i, (py cl s m).getD i 0 < 18446744073709551616 := map_range_lt _ m _ (by decide) fun i _ => lt64 (PoM.hor_lt cl _)
theorem px_dif (s m : Nat) (h : s + m < FpM.p) : PoM.Dif (px s m) := by
  intro i j hi hj e
  rw [px_length] at hi hj
  rw [px_getD s m i hi, px_getD s m j hj, Nat.mod_eq_of_lt (by omega), Nat.mod_eq_of_lt (by omega)]
  omega
theorem known (cl xs ys : List Nat) (n : Nat) (hx : xs.length = n) (hd : PoM.Dif xs) (hc : cl.length = n) (hy : ∀ i, i < n → ys.getD i 0 = PoM.hor cl (xs.getD i 0)) (z : Nat) : PoM.sm xs ys z n = PoM.hor cl z := by
  subst hx
  refine PoM.Eq.nat (PoM.sm_lt _ _ _ _) (PoM.hor_lt _ _) ?_
  have h := PoM.hor_curve cl
  rw [hc] at h
  refine (PoM.sm_curve hd h (fun i hi => ?_) z).trans (PoM.hor_eq cl z).symm
  rw [hy i hi]
  exact PoM.hor_eq cl _
theorem known1 (cl : List Nat) (s n : Nat) (hc : cl.length = n) (h : s + n < FpM.p) (z : Nat) : PoM.sm (px s n) (py cl s n) z n = PoM.hor cl z :=
  known cl _ _ n (px_length s n) (px_dif s n h) hc (fun i hi => by rw [py_getD cl s n i hi, px_getD s n i hi]) z
/-- the values, the last one turned -/
def pz (cl : List Nat) (s n : Nat) (v : Nat) : List Nat := (List.range (n + 2)).map fun i => if i = n + 1 then v else PoM.hor cl (i + s)
theorem pz_getD (cl : List Nat) (s n v i : Nat) (h : i < n + 2) : (pz cl s n v).getD i 0 = if i = n + 1 then v else PoM.hor cl (i + s) := map_range_getD _ h
theorem lv_known (cl ys : List Nat) (s n i : Nat) (hc : cl.length = n) (h : s + (n + 2) < FpM.p) (hi : i < n + 2) (hy : ∀ j, j < n → ys.getD j 0 = PoM.hor cl (j + s)) : lv (px s (n + 2)) ys n i = PoM.hor cl (i + s) := by
  unfold lv
  rw [px_getD s (n + 2) i hi]
  refine known cl _ _ n (by rw [List.length_take, px_length]; omega) (Dif_take (px_dif s (n + 2) h) n) hc (fun j hj => ?_) _
  rw [take_getD _ hj, take_getD _ hj, hy j hj, px_getD s (n + 2) j (by omega)]
theorem all_on {cl : List Nat} {s n : Nat} {bb : Bool} (hc : cl.length = n) (h : s + (n + 2) < FpM.p) (hb : bb = true ↔ ∀ i, n ≤ i → i < n + 2 → lv (px s (n + 2)) (py cl s (n + 2)) n i = (py cl s (n + 2)).getD i 0 % FpM.p) : bb = true :=
  hb.2 fun i _ h2 => by
    rw [lv_known cl _ s n i hc h h2 (fun j hj => py_getD cl s (n + 2) j (by omega)), py_getD cl s (n + 2) i h2, Nat.mod_eq_of_lt (PoM.hor_lt _ _)]
theorem one_off {cl : List Nat} {s n v : Nat} {bb : Bool} (hc : cl.length = n) (h : s + (n + 2) < FpM.p) (hv : (PoM.hor cl (n + 1 + s) + 1) % FpM.p = v) (hb : bb = true ↔ ∀ i, n ≤ i → i < n + 2 → lv (px s (n + 2)) (pz cl s n v) n i = (pz cl s n v).getD i 0 % FpM.p) : bb = false := by
  cases bb with
  | false => rfl
  | true =>
    exfalso
    have h1 := hb.1 rfl (n + 1) (by omega) (by omega)
    rw [lv_known cl _ s n (n + 1) hc h (by omega) (fun j hj => by rw [pz_getD cl s n v j (by omega), if_neg (by omega)]), pz_getD cl s n v (n + 1) (by omega), if_pos rfl, ← hv, Nat.mod_mod] at h1
    have h2 := PoM.hor_lt cl (n + 1 + s)
    rw [PoM.p_num] at h1 h2
    omega
theorem below_grown {w a b : World} {k B : Nat} (h : Below B w a) (g : a.grownBy b (some k)) (hk : B ≤ k) (hB : B ≤ a.heap.size) : Below B w b :=
  h.trans (below_of_grown g hk hB)
theorem peval_I (z : Int) (A : Option Addr) (n c : Nat) (l : List Nat) (x : Nat) (w : World) (hz : z = (x : Int)) (hl : l.length = n) (hm : n ≤ 1000) (ha : At w A (nats .u64 l)) (hb : ∀ i, l.getD i 0 < 18446744073709551616) (hx : x < 18446744073709551616) :
    Calls Tryd.prog 13 #[.slice A n c, .int .u64 z] w fun e w' => e = .returned (.int .u64 (PoM.hor l x : Nat)) ∧ ∃ m, w.drewN m = w' := by
  subst hz; exact peval_any A n c l x w hl hm ha hb hx
set_option maxRecDepth 100000 in
set_option maxHeartbeats 2000000 in
theorem pknown_short (A : Option Addr) (n c : Nat) (v0 v1 : Value) (w : World) (hg : Glob w) (h : 10 < n ∨ n = 0) :
    Calls Tryd.prog 4 #[.slice A n c, v0, v1] w fun e w' => e = .returned (.bool true) ∧ Below w.heap.size w w' := by
  have HG := Lib.hid hg
  clear hg
  by_cases h1 : 10 < n
  · have d1 : decide (10 < (n : Int)) = true := decide_eq_true (by omega)
    go_enter Tryd.func4, Tryd.ntmps4
    go_wp2_with fail
    refine (sure03 w HG.out).mono ?_
    rintro e w1 ⟨rfl, b1⟩
    go_wp2_with fail
    go_ret
    exact ⟨rfl, b1⟩
  · obtain rfl : n = 0 := by omega
    go_enter Tryd.func4, Tryd.ntmps4
    go_wp2_with fail
    refine (sure03 w HG.out).mono ?_
    rintro e w1 ⟨rfl, b1⟩
    go_wp2_with fail
    go_ret
    exact ⟨rfl, b1⟩
set_option maxRecDepth 100000 in
set_option maxHeartbeats 2000000 in
theorem pknown_in (A : Option Addr) (n c : Nat) (cl : List Nat) (z t : Nat) (w : World) (hg : Glob w) (h1 : n ≤ 10) (h0 : 0 < n) (hl : cl.length = n) (ha : At w A (nats .u64 cl)) (hb : ∀ i, cl.getD i 0 < 18446744073709551616) (hz : z < 18446744073709551616) (ht : t < 256) :
    Calls Tryd.prog 4 #[.slice A n c, .int .u64 (z : Nat), .int .u8 (t : Nat)] w fun e w' => e = .returned (.bool true) ∧ Below w.heap.size w w' := by
  have HG := Lib.hid hg
  have HL := Lib.hid hl
  have HA := Lib.hid ha
  have HB64 := Lib.hid hb
  have d1 : decide (10 < (n : Int)) = false := decide_eq_false (by omega)
  have d2 : ((n : Int) == 0) = false := by simp; omega
  have d3 : (n == 0) = false := by simp; omega
  have d4 : decide (n = 0) = false := by simp; omega
  have hpp : t + 1 + (n + 2) < FpM.p := Nat.lt_trans (show t + 1 + (n + 2) < 1000 by omega) (by decide)
  have HPP := Lib.hid hpp
  clear hg hl ha hb hpp
  go_enter Tryd.func4, Tryd.ntmps4
  go_wp2_with fail
  go_loopw [7, 8] (fun ov i wr => ∃ (k : Nat) (A' : Option Addr) (c' : Nat), k ≤ n + 2 ∧ ov = .slice A' k c' ∧ i = .int .i64 (k : Nat) ∧ Own wr w.heap.size 47 2 A' k c' (shs (px (t + 1) (n + 2)) (py cl (t + 1) (n + 2)) k) ∧ Below w.heap.size w wr) (fun _ i _ => n + 2 - (intOf i).toNat)
  case atStart => exact ⟨0, none, 0, Nat.zero_le _, rfl, rfl, Own.none_ w w.heap.size 47 2, Below.refl _ _⟩
  case round =>
    obtain ⟨k, A', c', hk, rfl, rfl, hown, hbel⟩ := hrel
    have HO := Lib.hid hown
    have HB := Lib.hid hbel
    clear hown hbel
    have k0 : (0 : Int) ≤ (k : Int) := by omega
    by_cases hlt : k < n + 2
    · have hst := (show shs (px (t + 1) (n + 2)) (py cl (t + 1) (n + 2)) (k + 1) = shs (px (t + 1) (n + 2)) (py cl (t + 1) (n + 2)) k ++ [.int .u64 ((px (t + 1) (n + 2)).getD k 0 : Nat), .int .u64 ((py cl (t + 1) (n + 2)).getD k 0 : Nat)] from rfl)
      rw [px_getD _ _ _ hlt, py_getD _ _ _ _ hlt] at hst
      obtain ⟨x, hx⟩ : ∃ x, k + (t + 1) = x := ⟨_, rfl⟩
      rw [hx] at hst
      have hxx : (k : Int) + 1 + (t : Int) = (x : Int) := by omega
      have hx64 : x < 18446744073709551616 := by omega
      obtain ⟨y, hy⟩ : ∃ y, PoM.hor cl x = y := ⟨_, rfl⟩
      rw [hy] at hst
      have PE := peval_any A n c cl x wr HL.out (by omega) (HA.out.later HB.out (Nat.le_refl _)) HB64.out hx64
      rw [hy] at PE
      have HST := Lib.hid hst
      have HPE := Lib.hid PE
      clear hst hy PE hx
      go_wp2_with fail
      with_reducible refine HPE.out.mono ?_
      rintro e w2 ⟨rfl, m2, rfl⟩
      have O1 := Lib.hid (HO.out.drewN m2)
      have B1 := Lib.hid (HB.out.trans (below_drewN _ wr m2))
      clear HO HB HPE
      generalize wr.drewN m2 = wd at *
      go_wp2_with (at_builtin; go_loud (refine wpList_app rfl elt_sh w.heap.size (.tmp 40) (.tmp 46) rfl _ rfl (O1.out.alloc _) [.int .u64 (x : Nat), .int .u64 (y : Nat)] rfl (At.lit _ _ _ _ _ rfl) rfl (by intro u hu; simp at hu; rcases hu with rfl | rfl <;> rfl) (by unfold maxLen; omega) (by omega) (by have h5 := B1.out.size; simp; omega) ?_; intro A3 c3 w3 own3 g3 _; have B3 := Lib.hid ((B1.out.alloc B1.out.size (.cells #[.int .u64 (x : Nat), .int .u64 (y : Nat)] 47)).grown g3 (by have h5 := (B1.out.alloc B1.out.size (.cells #[.int .u64 (x : Nat), .int .u64 (y : Nat)] 47)).size; exact h5) (by intro j e; exact (O1.out.lt j e).1)); have O3 := Lib.hid own3; clear own3 g3))
      go_round
      case rel => exact ⟨k + 1, A3, c3, by omega, rfl, by go_num, (by rw [HST.out]; exact O3.out), B3.out⟩
      case measure => simp [intOf]; omega
    · obtain rfl : k = n + 2 := by omega
      obtain ⟨g, cur, rfl, hbg, hhold, hcur⟩ := HO.out.holds (by omega)
      have hcap := HO.out.cap
      have hmx := hcap.2
      unfold maxLen at hmx
      have hcc : n + 2 ≤ c' := hcap.1
      have S := Lib.hid (Shs.of_at HO.out.at_)
      have S1 := Lib.hid (show Shs wr (some ⟨g, 0, none⟩) (px (t + 1) n) (py cl (t + 1) n) n from fun i hi => by
        obtain ⟨b, o, e, h1, h2⟩ := S.out i (by omega)
        rw [px_getD _ _ _ (by omega)] at h1
        rw [py_getD _ _ _ _ (by omega)] at h2
        exact ⟨b, o, e, by rw [px_getD _ _ _ hi]; exact h1, by rw [py_getD _ _ _ _ hi]; exact h2⟩)
      have S2 := Lib.hid (show Shs wr (some ⟨g, 4, none⟩) (px (t + 3) n) (py cl (t + 3) n) n from fun i hi => by
        obtain ⟨b, o, e, h1, h2⟩ := S.out (i + 2) (by omega)
        injection e with e; injection e with a1 a2; subst a1; subst a2
        rw [px_getD _ _ _ (by omega)] at h1
        rw [py_getD _ _ _ _ (by omega)] at h2
        exact ⟨g, 4, rfl, by rw [px_getD _ _ _ hi, show i + (t + 3) = i + 2 + (t + 1) by omega, show 4 + i * 2 = 0 + (i + 2) * 2 by omega]; exact h1, by rw [py_getD _ _ _ _ hi, show i + (t + 3) = i + 2 + (t + 1) by omega, show 4 + i * 2 + 1 = 0 + (i + 2) * 2 + 1 by omega]; exact h2⟩)
      have hp1 : t + 1 + n < FpM.p := Nat.lt_of_le_of_lt (by omega) HPP.out
      have hp3 : t + 3 + n < FpM.p := Nat.lt_of_le_of_lt (by omega) HPP.out
      have T1 := fun (W : World) (hW : Below wr.heap.size wr W) => through_ok (some ⟨g, 0, none⟩) n c' (px (t + 1) n) (py cl (t + 1) n) W z hz (px_dif _ _ hp1) (by omega) (px_length _ _) (S1.out.later hW (Nat.le_refl _)) (px_lt _ _ (by omega)) (py_lt _ _ _)
      have T2 := fun (W : World) (hW : Below wr.heap.size wr W) => through_ok (some ⟨g, 4, none⟩) n (c' - 2) (px (t + 3) n) (py cl (t + 3) n) W z hz (px_dif _ _ hp3) (by omega) (px_length _ _) (S2.out.later hW (Nat.le_refl _)) (px_lt _ _ (by omega)) (py_lt _ _ _)
      rw [known1 cl (t + 1) n HL.out hp1 z] at T1
      rw [known1 cl (t + 3) n HL.out hp3 z] at T2
      have PE := fun (W : World) (hW : Below w.heap.size w W) => peval_any A n c cl z W HL.out (by omega) (HA.out.later hW (Nat.le_refl _)) HB64.out hz
      have hq64 := PoM.hor_lt cl z
      obtain ⟨q, hq⟩ : ∃ q, PoM.hor cl z = q := ⟨_, rfl⟩
      rw [hq] at T1 T2 PE hq64
      have HT1 := Lib.hid T1
      have HT2 := Lib.hid T2
      have HPE := Lib.hid PE
      have HH := Lib.hid hhold
      have HC := Lib.hid hcur
      have HBW := Lib.hid HB.out
      clear T1 T2 PE hhold hcur hq hcap S1 S2 hp1 hp3 HO HB
      have hn0 : (0 : Int) ≤ (n : Int) := by omega
      have hnc : n ≤ c' := by omega
      have hn2 : (n : Int) ≤ (n : Int) + 2 := by omega
      have h2c : 2 ≤ c' := by omega
      have hne2 : ¬ c' = 2 := by omega
      have h2n : (2 : Int) ≤ (n : Int) + 2 := by omega
      go_wp2_with fail
      with_reducible refine (HT1.out wr (Below.refl _ _)).mono ?_
      rintro e w3 ⟨rfl, b3⟩
      have B3 := Lib.hid b3
      clear b3
      go_wp2_with fail
      with_reducible refine (HT2.out w3 B3.out).mono ?_
      rintro e w4 ⟨rfl, b4⟩
      have B4 := Lib.hid (B3.out.trans (b4.mono B3.out.size))
      clear b4 B3 HT1 HT2
      go_wp2_with fail
      refine (line_ok (some ⟨g, 0, none⟩) (n + 2) c' (px (t + 1) (n + 2)) (py cl (t + 1) (n + 2)) w4 n (by omega) hcc hmx (px_dif _ _ HPP.out) (by omega) (px_length _ _) (S.out.later B4.out (Nat.le_refl _)) (px_lt _ _ (by omega)) (py_lt _ _ _)).mono ?_
      rintro e w5 ⟨bb, rfl, hbb, b5⟩
      obtain rfl := all_on HL.out HPP.out hbb
      have B5 := Lib.hid (B4.out.trans (b5.mono B4.out.size))
      clear b5 hbb B4 S
      have H5 := Lib.hid (HH.out.later B5.out (Nat.le_refl _))
      have hy9 := HC.out _ _ (shs_get (px (t + 1) (n + 2)) (py cl (t + 1) (n + 2)) (n + 2) (n + 1) (by omega)).2
      rw [py_getD _ _ _ _ (by omega)] at hy9
      have hyl := PoM.hor_lt cl (n + 1 + (t + 1))
      obtain ⟨y, hy⟩ : ∃ y, PoM.hor cl (n + 1 + (t + 1)) = y := ⟨_, rfl⟩
      rw [hy] at hy9 hyl
      have hc9 := (H5.out.cell ((n + 1) * 2 + 1)).trans hy9
      have hf9 := H5.out.frozen ((n + 1) * 2 + 1)
      obtain ⟨v, hv⟩ : ∃ v, (y + 1) % FpM.p = v := ⟨_, rfl⟩
      have hy64 := lt64 hyl
      have ev : ((y : Int) + 1).tmod 2305843009213693951 = (v : Int) := by
        rw [Int.tmod_eq_emod_of_nonneg (by omega)]
        rw [PoM.p_num] at hv
        omega
      have hyl2 : y + 1 < 18446744073709551616 := by rw [PoM.p_num] at hyl; omega
      have HV := Lib.hid hv
      have HY := Lib.hid hy
      have HY9 := Lib.hid hy9
      have e1 : (n : Int) + 2 - 1 = ((n + 1 : Nat) : Int) := by omega
      clear hv hy hyl
      go_wp2_with fail
      have H6 := Lib.hid (H5.out.set ((n + 1) * 2 + 1) (.int .u64 (v : Nat)))
      have B6 := Lib.hid (below_grown (B := w.heap.size) (HBW.out.trans (B5.out.mono HBW.out.size)) (grown_set (grown_refl w5 (some g)) ((n + 1) * 2 + 1) (.int .u64 (v : Nat))) hbg (HBW.out.trans (B5.out.mono HBW.out.size)).size)
      generalize w5.setCell ⟨g, (n + 1) * 2 + 1, none⟩ (.int .u64 (v : Nat)) = w6 at *
      have hsz : (n + 1) * 2 + 1 < cur.size := (Array.getElem?_eq_some_iff.1 hy9).1
      have S6 := Lib.hid (show Shs w6 (some ⟨g, 0, none⟩) (px (t + 1) (n + 2)) (pz cl (t + 1) n v) (n + 2) from fun i hi => by
        obtain ⟨k1, k2⟩ := shs_get (px (t + 1) (n + 2)) (py cl (t + 1) (n + 2)) (n + 2) i hi
        have k3 := HC.out _ _ k1
        have k4 := HC.out _ _ k2
        refine ⟨g, 0, rfl, ?_, ?_⟩
        · rw [H6.out.cell (0 + i * 2), Nat.zero_add, Array.getElem?_setIfInBounds_ne (by omega)]; exact k3
        · rw [H6.out.cell (0 + i * 2 + 1), Nat.zero_add, pz_getD _ _ _ _ _ hi]
          by_cases e : i = n + 1
          · subst e
            rw [if_pos rfl, Array.getElem?_setIfInBounds_self_of_lt hsz]
          · rw [if_neg e, Array.getElem?_setIfInBounds_ne (by omega)]
            rw [py_getD _ _ _ _ hi] at k4
            exact k4)
      clear hc9 hf9 hy9 hsz H5 H6 ev
      have hvl : v < 18446744073709551616 := by rw [← HV.out]; exact lt64 (Nat.mod_lt _ FpM.p_pos)
      refine (line_ok (some ⟨g, 0, none⟩) (n + 2) c' (px (t + 1) (n + 2)) (pz cl (t + 1) n v) w6 n (by omega) hcc hmx (px_dif _ _ HPP.out) (by omega) (px_length _ _) S6.out (px_lt _ _ (by omega)) (map_range_lt _ _ _ (by decide) fun i _ => by split; exact hvl; exact lt64 (PoM.hor_lt cl _))).mono ?_
      rintro e w7 ⟨bb, rfl, hbb, b7⟩
      obtain rfl := one_off HL.out HPP.out (by rw [HY.out]; exact HV.out) hbb
      have B7 := Lib.hid (B6.out.trans (b7.mono B6.out.size))
      have G7 := Lib.hid (HG.out.later B7.out (Nat.le_refl _))
      clear b7 hbb S6 B6
      go_wp2_with fail
      with_reducible refine (HPE.out w7 B7.out).mono ?_
      rintro e w8 ⟨rfl, m8, rfl⟩
      have G8 := Lib.hid (G7.out.later (below_drewN _ w7 m8) (Nat.le_refl _))
      have B8 := Lib.hid (B7.out.trans (below_drewN _ w7 m8))
      generalize w7.drewN m8 = w8 at *
      clear B7 G7
      go_wp2_with fail
      refine (sure03 w8 G8.out).mono ?_
      rintro e w9 ⟨rfl, b9⟩
      have B9 := Lib.hid (B8.out.trans (b9.mono B8.out.size))
      clear b9
      go_wp2_with fail
      go_ret
      exact ⟨rfl, B9.out⟩
end Go.Proofs.YtnofckhljoghpaaDoor
