/- Layer 3: places; whether they are all different, the program's way (a map) and the document's. -/
import Derived.Test.YtnofckhljoghpaaDoorPoA
import Derived.Test.YtnofckhljoghpaaDoorApp
import Derived.Maps.OwnOps
import Derived.Maps.Views
import Derived.WalkArith
import Derived.RegionTactic
namespace Go.Proofs.YtnofckhljoghpaaDoor
open Go.RowKit Go.Maps
theorem wpList_mk {P : Program} {w : World} {ops : Array Oper} {rest : List Oper} {o : Oper} {a : Act} {Q : Exit → Act → World → Prop} {t e : TypeId} {z : Value} {size bytes : Nat} (E : Elt P t e z size bytes)
    (hg : o.guard = none) (base : Nat) (l c : Operand) (hop : o.op = Op.makeSlice t l c) (kl kc : IntKind) (C : Int) (n : Nat) (hl : a.eval l = .int kl 0) (hc : a.eval c = .int kc C) (hC : C = (n : Int)) (b2 : bytes * n ≤ 281474976710656) (b3 : n ≤ maxLen) (b4 : base ≤ w.heap.size)
    (hK : ∀ w', Own w' base e size (some ⟨w.heap.size, 0, none⟩) 0 n [] → w.grownBy w' none → wpList P ops Q rest (a.put o.dst (.slice (some ⟨w.heap.size, 0, none⟩) 0 n)) w') :
    wpList P ops Q (o :: rest) a w := by
  obtain ⟨i, hi, hz, hs, hb⟩ := E.hi
  exact wpList_make_own w hg l c t hop base e i z size E.ht hi hz hs kl kc C n hl hc hC (by rw [hb]; exact b2) b3 b4 hK
theorem At.grownNone {w w' : World} {A : Option Addr} {xs : List Value} (h : At w A xs) (hg : w.grownBy w' none) : At w' A xs := by
  refine h.grown hg ?_
  cases blk A with
  | none => exact .inl rfl
  | some k => exact .inr (by simp)
set_option maxRecDepth 100000 in
theorem elt_u64 : Elt Tryd.prog 22 24 (.int .u64 0) 1 8 where
  ht := by kernel_rfl
  hi := ⟨_, rfl, by kernel_rfl, by kernel_rfl, by kernel_rfl⟩
  hzs := rfl
  hsz := by decide
/-- points that lie somewhere -/
def Shs (w : World) (A : Option Addr) (xs ys : List Nat) (n : Nat) : Prop :=
  ∀ i, i < n → ∃ b o, A = some ⟨b, o, none⟩ ∧ w.cell? ⟨b, o + i * 2, none⟩ = some (.int .u64 (xs.getD i 0 : Nat)) ∧ w.cell? ⟨b, o + i * 2 + 1, none⟩ = some (.int .u64 (ys.getD i 0 : Nat))
theorem Shs.later {w w' : World} {B : Nat} {A : Option Addr} {xs ys : List Nat} {n : Nat} (h : Shs w A xs ys n) (hb : Below B w w') (hB : w.heap.size ≤ B) : Shs w' A xs ys n := by
  intro i hi
  obtain ⟨b, o, e, h1, h2⟩ := h i hi
  have hl : b < w.heap.size := World.block_lt_of_cell? w _ h1
  exact ⟨b, o, e, (hb.cell (p := ⟨b, o + i * 2, none⟩) (Nat.lt_of_lt_of_le hl hB)).trans h1, (hb.cell (p := ⟨b, o + i * 2 + 1, none⟩) (Nat.lt_of_lt_of_le hl hB)).trans h2⟩
theorem Shs.less {w : World} {A : Option Addr} {xs ys : List Nat} {n m : Nat} (h : Shs w A xs ys n) (hm : m ≤ n) : Shs w A xs ys m := fun i hi => h i (by omega)
theorem nats_snoc (l : List Nat) (k : Nat) (hk : k < l.length) : nats .u64 (l.take k) ++ [.int .u64 (l.getD k 0 : Nat)] = nats .u64 (l.take (k + 1)) := by
  have e : l.take (k + 1) = l.take k ++ [l.getD k 0] := by
    rw [List.take_add_one, List.getElem?_eq_getElem hk, List.getD_eq_getElem?_getD, List.getElem?_eq_getElem hk]
    rfl
  rw [e, nats_append]
  rfl
def SlU (w : World) (l : List Nat) (n : Nat) (e : Ending) (w' : World) : Prop := ∃ A c, e = .returned (.slice A n c) ∧ At w' A (nats .u64 l) ∧ Below w.heap.size w w'
set_option maxRecDepth 100000 in
set_option maxHeartbeats 1000000 in
theorem places_any (A : Option Addr) (n c : Nat) (xs ys : List Nat) (w : World) (hl : xs.length = n) (hm : n ≤ 1000) (ha : Shs w A xs ys n) :
    Calls Tryd.prog 18 #[.slice A n c] w (SlU w xs n) := by
  have HL := Lib.hid hl
  have HA := Lib.hid ha
  clear hl ha
  go_enter Tryd.func18, Tryd.ntmps18
  go_wp2_with (at_make; refine wpList_mk elt_u64 rfl w.heap.size _ (.tmp 7) rfl .i64 .i64 _ n rfl rfl rfl (by omega) (by unfold maxLen; omega) (Nat.le_refl _) ?_; intro w1 own1 g1; have B1 := Lib.hid ((Below.refl w.heap.size w).grown g1 (Nat.le_refl _) (fun k hk => by cases hk)); have O1 := Lib.hid own1; clear own1 g1)
  go_loopw [3, 11] (fun ov i wr => ∃ (k : Nat) (A' : Option Addr) (c' : Nat), k ≤ n ∧ ov = .slice A' k c' ∧ i = .int .i64 (k : Nat) ∧ Own wr w.heap.size 24 1 A' k c' (nats .u64 (xs.take k)) ∧ Below w.heap.size w wr) (fun _ i _ => n - (intOf i).toNat)
  case atStart => exact ⟨0, _, _, Nat.zero_le _, rfl, rfl, by simpa [nats] using O1.out, B1.out⟩
  case round =>
    obtain ⟨k, A', c', hk, rfl, rfl, hown, hbel⟩ := hrel
    have HO := Lib.hid hown
    have HB := Lib.hid hbel
    clear hown hbel
    by_cases h0 : k < n
    · obtain ⟨b, o, rfl, h1, h2⟩ := (HA.out.later HB.out (Nat.le_refl _)) k h0
      have k0 : (0 : Int) ≤ (k : Int) := by omega
      have hsn := nats_snoc xs k (by rw [HL.out]; exact h0)
      obtain ⟨x, hx⟩ : ∃ x, xs.getD k 0 = x := ⟨_, rfl⟩
      obtain ⟨y, hy⟩ : ∃ y, ys.getD k 0 = y := ⟨_, rfl⟩
      rw [hx] at h1 hsn
      rw [hy] at h2
      have HSN := Lib.hid hsn
      clear hsn hx hy
      have HW1 := Lib.hid ((HB.out.alloc HB.out.size (.cells #[.int .u64 (x : Nat), .int .u64 (y : Nat)] 47)))
      have HO1 := Lib.hid (HO.out.alloc (.cells #[.int .u64 (x : Nat), .int .u64 (y : Nat)] 47))
      go_wp2_with (at_builtin; go_loud (refine wpList_app rfl elt_u64 w.heap.size (.tmp 15) (.tmp 18) rfl _ rfl (HO1.out.alloc _) [.int .u64 (x : Nat)] rfl (At.lit _ _ _ _ _ (by simp)) rfl (by intro u hu; simp at hu; subst hu; rfl) (by unfold maxLen; omega) (by omega) (by have h5 := HW1.out.size; simp at h5 ⊢; omega) ?_; intro A3 c3 w3 own3 g3 _; have B3 := Lib.hid ((HW1.out.alloc HW1.out.size (.cells #[.int .u64 (x : Nat)] 24)).grown g3 (by have h5 := (HW1.out.alloc HW1.out.size (.cells #[.int .u64 (x : Nat)] 24)).size; exact h5) (by intro j e; exact (HO.out.lt j e).1)); have O3 := Lib.hid own3; clear own3 g3))
      go_round
      case rel => exact ⟨k + 1, A3, c3, by omega, rfl, by go_num, HSN.out ▸ O3.out, B3.out⟩
      case measure => simp [intOf]; omega
    · obtain rfl : k = n := by omega
      have HO2 := Lib.hid (show Own wr w.heap.size 24 1 A' k c' (nats .u64 xs) from by have h := HO.out; rwa [List.take_of_length_le (by rw [HL.out]; exact Nat.le_refl _)] at h)
      clear HO
      go_wp2_with fail
      go_ret
      exact ⟨A', c', rfl, HO2.out.at_, HB.out⟩
set_option maxRecDepth 100000 in
set_option maxHeartbeats 1000000 in
theorem rxs_any (A : Option Addr) (n c : Nat) (xs ys : List Nat) (w : World) (hl : xs.length = n) (hm : n ≤ 1000) (ha : Shs w A xs ys n) :
    Calls Tryd.prog 22 #[.slice A n c] w (SlU w xs n) := by
  have HL := Lib.hid hl
  have HA := Lib.hid ha
  clear hl ha
  go_enter Tryd.func22, Tryd.ntmps22
  go_wp2_with fail
  go_loopw [3, 4] (fun ov i wr => ∃ (k : Nat) (A' : Option Addr) (c' : Nat), k ≤ n ∧ ov = .slice A' k c' ∧ i = .int .i64 (k : Nat) ∧ Own wr w.heap.size 24 1 A' k c' (nats .u64 (xs.take k)) ∧ Below w.heap.size w wr) (fun _ i _ => n - (intOf i).toNat)
  case atStart => exact ⟨0, none, 0, Nat.zero_le _, rfl, rfl, by simpa [nats] using Own.none_ w w.heap.size 24 1, Below.refl _ _⟩
  case round =>
    obtain ⟨k, A', c', hk, rfl, rfl, hown, hbel⟩ := hrel
    have HO := Lib.hid hown
    have HB := Lib.hid hbel
    clear hown hbel
    by_cases h0 : k < n
    · obtain ⟨b, o, rfl, h1, h2⟩ := (HA.out.later HB.out (Nat.le_refl _)) k h0
      have k0 : (0 : Int) ≤ (k : Int) := by omega
      have hsn := nats_snoc xs k (by rw [HL.out]; exact h0)
      obtain ⟨x, hx⟩ : ∃ x, xs.getD k 0 = x := ⟨_, rfl⟩
      obtain ⟨y, hy⟩ : ∃ y, ys.getD k 0 = y := ⟨_, rfl⟩
      rw [hx] at h1 hsn
      rw [hy] at h2
      have HSN := Lib.hid hsn
      clear hsn hx hy
      go_wp2_with (at_builtin; go_loud (refine wpList_app rfl elt_u64 w.heap.size (.tmp 11) (.tmp 17) rfl _ rfl (HO.out.alloc _) [.int .u64 (x : Nat)] rfl (At.lit _ _ _ _ _ rfl) rfl (by intro u hu; simp at hu; subst hu; rfl) (by unfold maxLen; omega) (by omega) (by have h5 := HB.out.size; simp; omega) ?_; intro A3 c3 w3 own3 g3 _; have B3 := Lib.hid ((HB.out.alloc HB.out.size (.cells #[.int .u64 (x : Nat)] 24)).grown g3 (by have h5 := (HB.out.alloc HB.out.size (.cells #[.int .u64 (x : Nat)] 24)).size; exact h5) (by intro j e; exact (HO.out.lt j e).1)); have O3 := Lib.hid own3; clear own3 g3))
      go_round
      case rel => exact ⟨k + 1, A3, c3, by omega, rfl, by go_num, HSN.out ▸ O3.out, B3.out⟩
      case measure => simp [intOf]; omega
    · obtain rfl : k = n := by omega
      have HO2 := Lib.hid (show Own wr w.heap.size 24 1 A' k c' (nats .u64 xs) from by have h := HO.out; rwa [List.take_of_length_le (by rw [HL.out]; exact Nat.le_refl _)] at h)
      clear HO
      go_wp2_with fail
      go_ret
      exact ⟨A', c', rfl, HO2.out.at_, HB.out⟩
/-- what the two tests tell -/
def Tells (xs : List Nat) (v v0 v8 : Value) : Prop := (v = v0 ∧ PoM.Dif xs) ∨ (v = v8 ∧ ¬ PoM.Dif xs)
set_option maxRecDepth 100000 in
set_option maxHeartbeats 1000000 in
theorem rapart_long (A : Option Addr) (n c : Nat) (w : World) (h : 64 < n) : Calls Tryd.prog 21 #[.slice A n c] w fun e w' => e = .returned (.int .i64 1) ∧ w = w' := by
  have hd : decide (64 < (n : Int)) = true := decide_eq_true (by omega)
  go_enter Tryd.func21, Tryd.ntmps21
  go_wp2_with fail
  go_ret
  exact ⟨rfl, rfl⟩
set_option maxRecDepth 100000 in
set_option maxHeartbeats 1000000 in
theorem rapart_any (A : Option Addr) (n c : Nat) (xs : List Nat) (w : World) (hl : xs.length = n) (h : n ≤ 64) (ha : At w A (nats .u64 xs)) :
    Calls Tryd.prog 21 #[.slice A n c] w fun e w' => ∃ v, e = .returned v ∧ Tells xs v (.int .i64 0) (.int .i64 8) ∧ ∃ m, w.drewN m = w' := by
  have hd : decide (64 < (n : Int)) = false := decide_eq_false (by omega)
  have HL := Lib.hid hl
  have HA := Lib.hid ha
  clear hl ha
  go_enter Tryd.func21, Tryd.ntmps21
  go_wp2_with fail
  go_loopw [3] (fun i wr => ∃ k : Nat, k ≤ n ∧ i = .int .i64 (k : Nat) ∧ (∀ a b, a < k → b < a → xs.getD a 0 % FpM.p ≠ xs.getD b 0 % FpM.p) ∧ ∃ m, w.drewN m = wr) (fun i _ => n - (intOf i).toNat)
  case atStart => exact ⟨0, Nat.zero_le _, rfl, fun a b h1 => absurd h1 (Nat.not_lt_zero _), 0, rfl⟩
  case round =>
    obtain ⟨k, hk, rfl, hdf, hmm⟩ := hrel
    have HDF := Lib.hid hdf
    have HMM := Lib.hid hmm
    clear hdf hmm
    by_cases h0 : k < n
    · go_wp2_with fail
      go_loopw [4] (fun i wr => ∃ j : Nat, j ≤ k ∧ i = .int .i64 (j : Nat) ∧ (∀ b, b < j → xs.getD k 0 % FpM.p ≠ xs.getD b 0 % FpM.p) ∧ ∃ m, w.drewN m = wr) (fun i _ => k - (intOf i).toNat)
      case atStart => exact ⟨0, Nat.zero_le _, rfl, fun b h1 => absurd h1 (Nat.not_lt_zero _), HMM.out⟩
      case round =>
        clear HMM
        obtain ⟨j, hj, rfl, hdj, hmm⟩ := hrel
        have HDJ := Lib.hid hdj
        have HMM := Lib.hid hmm
        clear hdj hmm
        by_cases h1 : j < k
        · obtain ⟨b, o, rfl, hc1⟩ := HA.out.nat k (by rw [HL.out]; exact h0)
          obtain ⟨b', o', e', hc2⟩ := HA.out.nat j (by rw [HL.out]; omega)
          injection e' with e'; injection e' with a1 a2; subst a1; subst a2
          have k0 : (0 : Int) ≤ (k : Int) := by omega
          have j0 : (0 : Int) ≤ (j : Int) := by omega
          have hjn : j < n := by omega
          have r1 : wr.cell? ⟨b, o + k, none⟩ = some (.int .u64 (xs.getD k 0 : Nat)) := by
            obtain ⟨m, rfl⟩ := HMM.out
            exact hc1
          have r2 : wr.cell? ⟨b, o + j, none⟩ = some (.int .u64 (xs.getD j 0 : Nat)) := by
            obtain ⟨m, rfl⟩ := HMM.out
            exact hc2
          clear hc1 hc2
          obtain ⟨x, hx⟩ : ∃ x, xs.getD k 0 = x := ⟨_, rfl⟩
          obtain ⟨y, hy⟩ : ∃ y, xs.getD j 0 = y := ⟨_, rfl⟩
          rw [hx] at r1
          rw [hy] at r2
          have HX := Lib.hid hx
          have HY := Lib.hid hy
          clear hx hy
          obtain ⟨u, hu⟩ : ∃ u, x % 2305843009213693951 = u := ⟨_, rfl⟩
          obtain ⟨v, hv⟩ : ∃ v, y % 2305843009213693951 = v := ⟨_, rfl⟩
          have ex : (x : Int).tmod 2305843009213693951 = (u : Int) := by rw [Int.tmod_eq_emod_of_nonneg (by omega)]; omega
          have ey : (y : Int).tmod 2305843009213693951 = (v : Int) := by rw [Int.tmod_eq_emod_of_nonneg (by omega)]; omega
          have HU := Lib.hid hu
          have HV := Lib.hid hv
          clear hu hv
          by_cases he : u = v
          · have HE := Lib.hid he
            have hq : ((u : Int) == (v : Int)) = true := by simp [he]
            have hq2 : (u == v) = true := by simp [he]
            clear he
            go_wp2_with fail
            go_quiet (fail)
            go_wp2_with fail
            go_ret
            exact ⟨_, rfl, .inr ⟨rfl, fun hd => hd k j (by rw [HL.out]; exact h0) (by rw [HL.out]; exact hjn) (by omega) (by rw [HX.out, HY.out]; exact HU.out.trans (HE.out.trans HV.out.symm))⟩, by obtain ⟨m, rfl⟩ := HMM.out; exact ⟨_, (World.drewN_drewN _ _ _).symm⟩⟩
          · have HE := Lib.hid he
            have hq : ((u : Int) == (v : Int)) = false := by simp; omega
            have hq2 : (u == v) = false := by simpa using he
            clear he
            go_wp2_with fail
            go_quiet (fail)
            go_wp2_with fail
            go_round
            case rel => exact ⟨j + 1, by omega, by go_num, fun b h2 => by
                by_cases e : b = j
                · subst e
                  rw [HX.out, HY.out]
                  exact fun h3 => HE.out (HU.out.symm.trans (h3.trans HV.out))
                · exact HDJ.out b (by omega), by obtain ⟨m, rfl⟩ := HMM.out; exact ⟨_, (World.drewN_drewN _ _ _).symm⟩⟩
            case measure => simp [intOf]; omega
        · obtain rfl : j = k := by omega
          go_wp2_with fail
          go_round
          case rel => exact ⟨j + 1, by omega, by go_num, fun a b h2 h3 => by
              by_cases e : a = j
              · subst e; exact HDJ.out b h3
              · exact HDF.out a b (by omega) h3, HMM.out⟩
          case measure => simp [intOf]; omega
    · obtain rfl : k = n := by omega
      go_wp2_with fail
      go_ret
      exact ⟨_, rfl, .inl ⟨rfl, fun i j hi hj e => by
        rw [HL.out] at hi hj
        rcases Nat.lt_or_gt_of_ne e with h2 | h2
        · exact (HDF.out j i hj h2).symm
        · exact HDF.out i j hi h2⟩, HMM.out⟩
/-- the map of the first k places' remainders, each once -/
def MapInv (D : DataW Unit) (xs : List Nat) (k : Nat) : Prop := IsMap D ∧ ∀ r : Nat, r < FpM.p → ∀ c : Int, D.atKey (.int .u64 r) (.lit (.int .i64 0)) = .lit (.int .i64 c) → c = if ∃ i, i < k ∧ xs.getD i 0 % FpM.p = r then 1 else 0
theorem key_wf {r : Nat} (h : r < FpM.p) : (Lit.int .u64 (r : Int)).wf = true := WalkArith.wf_u64 (by have h1 := lt64 h; omega)
theorem MapInv.start (xs : List Nat) : MapInv (.map []) xs 0 := ⟨⟨_, rfl⟩, fun r hr c h => by
  rw [if_neg (by rintro ⟨i, hi, _⟩; omega)]
  injection h with h; injection h with h1 h; exact h.symm⟩
theorem MapInv.step {D : DataW Unit} {xs : List Nat} {k : Nat} (h : MapInv D xs k) {r : Nat} (hr : xs.getD k 0 % FpM.p = r) : MapInv (D.put (.int .u64 r) (.lit (.int .i64 1))) xs (k + 1) := by
  have hrp : r < FpM.p := by rw [← hr]; exact Nat.mod_lt _ FpM.p_pos
  refine ⟨IsMap.put h.1 _ _, fun q hq c hc => ?_⟩
  by_cases e : q = r
  · subst e
    rw [Maps.atKey_put_same h.1 (show WideAt.IsKeyLit (.int .u64 (q : Int)) from trivial)] at hc
    rw [if_pos ⟨k, by omega, hr⟩]
    injection hc with hc; injection hc with h1 hc; exact hc.symm
  · rw [Maps.atKey_put_other (by intro e2; injection e2 with h1 h2; exact e (by omega))] at hc
    rw [h.2 q hq c hc]
    by_cases h3 : ∃ i, i < k ∧ xs.getD i 0 % FpM.p = q
    · rw [if_pos h3, if_pos (by obtain ⟨i, h4, h5⟩ := h3; exact ⟨i, by omega, h5⟩)]
    · rw [if_neg h3, if_neg (by
        rintro ⟨i, h4, h5⟩
        by_cases h6 : i = k
        · subst h6; exact e (h5.symm.trans hr)
        · exact h3 ⟨i, by omega, h5⟩)]
set_option maxRecDepth 100000 in
set_option maxHeartbeats 1000000 in
theorem check_long (A : Option Addr) (n c : Nat) (w : World) (h : 64 < n) : Calls Tryd.prog 25 #[.slice A n c] w fun e w' => e = .returned (.iface 57 (.int .i64 1)) ∧ w = w' := by
  have hd : decide (64 < (n : Int)) = true := decide_eq_true (by omega)
  go_enter Tryd.func25, Tryd.ntmps25
  go_wp2_with fail
  go_ret
  exact ⟨rfl, rfl⟩
theorem make64 (w : World) (n : Int) : (Instr.makeMap 65 (some (.int .i64 n))).run Tryd.prog w = .ok (.map (some w.heap.size)) (w.alloc (.map #[] 0)) := by
  simp [Instr.makeMap, run_underlying Tryd.underlying65, asInt, asIntOf, Result.andThen]
theorem law64 : Keyed Tryd.prog 24 := int_keyed Tryd.underlying24
theorem zero64 (w : World) : (zeroValue 3).run Tryd.prog w = .ok (.int .i64 0) w := by kernel_rfl
set_option maxRecDepth 100000 in
set_option maxHeartbeats 1000000 in
theorem check_any (A : Option Addr) (n c : Nat) (xs : List Nat) (w : World) (hl : xs.length = n) (h : n ≤ 64) (ha : At w A (nats .u64 xs)) (hb : ∀ i, xs.getD i 0 < 18446744073709551616) :
    Calls Tryd.prog 25 #[.slice A n c] w fun e w' => ∃ v, e = .returned v ∧ Tells xs v .nilIface (.iface 57 (.int .i64 8)) ∧ Below w.heap.size w w' := by
  have hd : decide (64 < (n : Int)) = false := decide_eq_false (by omega)
  have HL := Lib.hid hl
  have HA := Lib.hid ha
  have HB64 := Lib.hid hb
  have hmm := make64
  clear hl ha hb
  go_enter Tryd.func25, Tryd.ntmps25
  go_wp2_with fail
  go_loopw [15] (fun i wr => ∃ (k : Nat) (D : DataW Unit), k ≤ n ∧ i = .int .i64 (k : Nat) ∧ wr.ownsMap Tryd.prog 24 (plainElem Tryd.prog 3) w.heap.size k D ∧ MapInv D xs k ∧ (∀ a b, a < k → b < a → xs.getD a 0 % FpM.p ≠ xs.getD b 0 % FpM.p) ∧ Below w.heap.size w wr) (fun i _ => n - (intOf i).toNat)
  case atStart => exact ⟨0, _, Nat.zero_le _, rfl, World.ownsMap_made _ _ _ _, MapInv.start xs, fun a b h1 => absurd h1 (Nat.not_lt_zero _), (Below.refl _ _).alloc (Nat.le_refl _) _⟩
  case round =>
    obtain ⟨k, D, hk, rfl, hown, hmi, hdf, hbel⟩ := hrel
    have HO := Lib.hid hown
    have HMI := Lib.hid hmi
    have HDF := Lib.hid hdf
    have HB := Lib.hid hbel
    clear hown hmi hdf hbel
    by_cases h0 : k < n
    · obtain ⟨b, o, rfl, hc⟩ := (HA.out.later HB.out (Nat.le_refl _)).nat k (by rw [HL.out]; exact h0)
      have k0 : (0 : Int) ≤ (k : Int) := by omega
      have hx64 := HB64.out k
      obtain ⟨x, hx⟩ : ∃ x, xs.getD k 0 = x := ⟨_, rfl⟩
      rw [hx] at hc hx64
      have C := fpOf_any x
      obtain ⟨r, hr⟩ : ∃ r, x % 2305843009213693951 = r := ⟨_, rfl⟩
      rw [hr] at C
      have hxr : xs.getD k 0 % FpM.p = r := by rw [hx]; exact hr
      have hrp : r < FpM.p := by rw [← hxr]; exact Nat.mod_lt _ FpM.p_pos
      have CC := Lib.hid C
      have HXR := Lib.hid hxr
      have hkey : keyOf Tryd.prog 24 (.int .u64 (r : Int)) = some (.int .u64 (r : Int)) := keyOf_int_mk Tryd.underlying24 (key_wf hrp)
      clear hx hr C hxr
      by_cases hd : ∃ i, i < k ∧ xs.getD i 0 % FpM.p = r
      · have HD := Lib.hid hd
        clear hd
        go_wp2_with fail
        refine (CC.out _ hx64).mono ?_
        rintro e w' ⟨rfl, rfl⟩
        go_wp2_with (first
          | (at_lookup; refine wpList_lookup_own_int _ rfl _ _ 65 rfl 24 3 .i64 law64 Tryd.underlying65 Tryd.underlying3 (zero64 _) w.heap.size k _ rfl HO.out _ _ rfl hkey ?_; intro cc hat hwc; obtain rfl : cc = 1 := (HMI.out.2 r hrp cc hat).trans (if_pos HD.out); clear hat hwc)
          | (at_mapUpdate; refine wpList_mapUpdate_own _ rfl _ _ _ 65 rfl 24 3 law64 Tryd.underlying65 _ w.heap.size k _ rfl HO.out (by unfold maxLen; omega) _ _ _ rfl rfl hkey (.lit (.int .i64 2)) [] (plainElem_int Tryd.underlying3 (by decide)) ?_; intro w1 hown1 hgrow1; have HO1 := Lib.hid hown1; have HG1 := Lib.hid hgrow1; clear hown1 hgrow1))
        refine (CC.out _ hx64).mono ?_
        rintro e w' ⟨rfl, rfl⟩
        go_wp2_with (at_lookup; refine wpList_lookup_own_int _ rfl _ _ 65 rfl 24 3 .i64 law64 Tryd.underlying65 Tryd.underlying3 (zero64 _) w.heap.size (k + 1) _ rfl HO1.out _ _ rfl hkey ?_; intro cc hat hwc; obtain rfl : cc = 2 := (by rw [Maps.atKey_put_same HMI.out.1 (show WideAt.IsKeyLit (.int .u64 (r : Int)) from trivial)] at hat; injection hat with hat; injection hat with _ hat; exact hat.symm); clear hat hwc)
        go_ret
        refine ⟨_, rfl, .inr ⟨rfl, fun hdif => ?_⟩, HB.out.grown HG1.out HB.out.size (fun j e => by injection e with e; omega)⟩
        obtain ⟨i, hi, he⟩ := HD.out
        exact hdif i k (by rw [HL.out]; omega) (by rw [HL.out]; exact h0) (by omega) (he.trans HXR.out.symm)
      · have HD := Lib.hid hd
        clear hd
        go_wp2_with fail
        refine (CC.out _ hx64).mono ?_
        rintro e w' ⟨rfl, rfl⟩
        go_wp2_with (first
          | (at_lookup; refine wpList_lookup_own_int _ rfl _ _ 65 rfl 24 3 .i64 law64 Tryd.underlying65 Tryd.underlying3 (zero64 _) w.heap.size k _ rfl HO.out _ _ rfl hkey ?_; intro cc hat hwc; obtain rfl : cc = 0 := (HMI.out.2 r hrp cc hat).trans (if_neg HD.out); clear hat hwc)
          | (at_mapUpdate; refine wpList_mapUpdate_own _ rfl _ _ _ 65 rfl 24 3 law64 Tryd.underlying65 _ w.heap.size k _ rfl HO.out (by unfold maxLen; omega) _ _ _ rfl rfl hkey (.lit (.int .i64 1)) [] (plainElem_int Tryd.underlying3 (by decide)) ?_; intro w1 hown1 hgrow1; have HO1 := Lib.hid hown1; have HG1 := Lib.hid hgrow1; clear hown1 hgrow1))
        refine (CC.out _ hx64).mono ?_
        rintro e w' ⟨rfl, rfl⟩
        go_wp2_with (at_lookup; refine wpList_lookup_own_int _ rfl _ _ 65 rfl 24 3 .i64 law64 Tryd.underlying65 Tryd.underlying3 (zero64 _) w.heap.size (k + 1) _ rfl HO1.out _ _ rfl hkey ?_; intro cc hat hwc; obtain rfl : cc = 1 := (by rw [Maps.atKey_put_same HMI.out.1 (show WideAt.IsKeyLit (.int .u64 (r : Int)) from trivial)] at hat; injection hat with hat; injection hat with _ hat; exact hat.symm); clear hat hwc)
        go_round
        case rel => exact ⟨k + 1, _, by omega, by go_num, HO1.out, HMI.out.step HXR.out, fun a b h2 h3 => by
            by_cases e : a = k
            · subst e; rw [HXR.out]; exact fun h4 => HD.out ⟨b, h3, h4.symm⟩
            · exact HDF.out a b (by omega) h3, HB.out.grown HG1.out HB.out.size (fun j e => by injection e with e; omega)⟩
        case measure => simp [intOf]; omega
    · obtain rfl : k = n := by omega
      go_wp2_with fail
      go_ret
      exact ⟨_, rfl, .inl ⟨rfl, fun i j hi hj e => by
        rw [HL.out] at hi hj
        rcases Nat.lt_or_gt_of_ne e with h2 | h2
        · exact (HDF.out j i hj h2).symm
        · exact HDF.out i j hi h2⟩, HB.out⟩
end Go.Proofs.YtnofckhljoghpaaDoor
