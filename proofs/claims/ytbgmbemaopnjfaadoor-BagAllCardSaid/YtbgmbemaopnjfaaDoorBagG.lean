/- Layer 20: BagAll's walk. -/
import Derived.Test.YtbgmbemaopnjfaaDoorBagF
import Derived.Deep.RegionHeld3
namespace Go.Proofs.YtbgmbemaopnjfaaDoor
open Go.RowKit
theorem bel_drewN {B : Nat} {a w : World} (h : Below B a w) (n : Nat) : Below B a (w.drewN n) := ⟨h.os, h.tape, h.output, h.size, h.block⟩
theorem ctr_equal_d (d : Nat) (f : Nat → Nat) (w : World) : (Op.equalIn (d + 1 + 1) 51 (.agg (ctr f)) (.agg (ctr f))).run Tryd.prog w = .ok true w := by
  have hu : Tryd.prog.underlying 51 = some (.array 256 3) := by kernel_rfl
  have hi : (Tryd.prog.info? 3).isSome = true := by kernel_rfl
  obtain ⟨i, hi⟩ := Option.isSome_iff_exists.1 hi
  rw [run_equalIn_array w (d + 1) (ctr f) (ctr f) hu hi]
  exact eq_ints d (by kernel_rfl) (by kernel_rfl) f w _ (by intro i hi; exact List.mem_range.1 hi)
theorem ctr_equal (f : Nat → Nat) (w : World) : (Op.equalIn 10000 51 (.agg (ctr f)) (.agg (ctr f))).run Tryd.prog w = .ok true w := ctr_equal_d 9998 f w
theorem At.bool {w : World} {A : Option Addr} {l : List Bool} (h : At w A (l.map Value.bool)) (i : Nat) (hi : i < l.length) : ∃ b o, A = some ⟨b, o, none⟩ ∧ w.cell? ⟨b, o + i, none⟩ = some (.bool (l.getD i false)) := by
  apply h i
  simp [List.getD_eq_getElem?_getD, List.getElem?_eq_getElem hi]
theorem Run.snoc {w wr : World} {gb x q : Nat} {S : List Nat} {g : Nat → Nat} (h : Run w wr gb (S ++ [x]) (fun v => S.count v) g) (hq : S.count x = q) : Run w (wr.setCell ⟨gb + 1, x, none⟩ (.int .i64 ((q : Int) + 1))) gb (S ++ [x]) (fun v => (S ++ [x]).count v) g := by
  refine h.setWant (x := x) (y := q + 1) (fun v _ => ?_)
  show (S ++ [x]).count v = if v = x then q + 1 else S.count v
  rw [count_snoc]
  by_cases e : v = x
  · rw [if_pos e, if_pos e, e, hq]
  · rw [if_neg e, if_neg e]
theorem snoc_lt {S : List Nat} {x : Nat} (h : ∀ y ∈ S, y < 256) (hx : x < 256) : ∀ y ∈ S ++ [x], y < 256 := by
  intro y hy
  rcases List.mem_append.1 hy with e | e
  · exact h y e
  · rw [List.mem_singleton.1 e]; exact hx
theorem Run.came {w wr : World} {gb x q : Nat} {S : List Nat} {f g : Nat → Nat} (h : Run w wr gb S f g) (hq : g x = q) : Run w (wr.setCell ⟨gb + 1 + 1, x, none⟩ (.int .i64 ((q : Int) + 1))) gb S f (fun v => if v = x then q + 1 else g v) :=
  h.setGot (x := x) (y := q + 1) (fun v _ => rfl)
theorem came_count {S S' : List Nat} {g : Nat → Nat} {k x q : Nat} (h : ∀ v, v < 256 → g v + S'.count v = S.count v) (hk : k < S'.length) (hx : S'.getD k 0 = x) (hq : g x = q) : ∀ v, v < 256 → (if v = x then q + 1 else g v) + (S'.eraseIdx k).count v = S.count v := by
  intro v hv
  have h1 := h v hv
  have h2 := count_erase S' k v hk
  rw [hx] at h2
  by_cases e : v = x
  · subst e; simp only [if_true] at h2 ⊢; omega
  · rw [if_neg (fun e2 => e e2.symm)] at h2; rw [if_neg e]; omega
theorem Bag.takes {w : World} {g base : Nat} {M : Int} {A : Option Addr} {n c : Nat} {vs : List (Int × Value)} {S : List Nat} (h : Bag w g base M A n c vs (lst S)) (i x : Nat) (hi : i < n) (hx : S.getD i 0 = x) (hw : base ≤ w.heap.size) :
    Calls Tryd.prog 41 #[.pointer (some ⟨g, 0, none⟩), .int .i64 i] w (Takes w g base M (lst (S.eraseIdx i)) (x : Int) [x]) := by
  have t := btake_any w i h hi hw h.c63
  rw [lst_getD _ _ (by rw [← lst_length, h.len]; exact hi), lst_erase, hx] at t
  exact t
set_option maxRecDepth 100000 in
theorem blen_c (w : World) {g n c : Nat} {A : Option Addr} (hc : w.cell? ⟨g, 1, none⟩ = some (.slice A n c)) :
    Calls Tryd.prog 40 #[.pointer (some ⟨g, 0, none⟩)] w fun e w' => e = .returned (.int .i64 n) ∧ w' = w := by
  go_enter Tryd.func40, Tryd.ntmps40
  go_wp2
  go_ret
  exact ⟨rfl, rfl⟩
set_option maxRecDepth 100000 in
set_option maxHeartbeats 1000000 in
theorem ball_in (A0 : Option Addr) (n0 c0 : Nat) (l : List Nat) (A1 : Option Addr) (n1 c1 : Nat) (t : List Bool) (A2 : Option Addr) (n2 c2 : Nat) (a : List Nat) (w : World) (hl : l.length = n0) (hn0 : n0 ≤ 100) (ha0 : At w A0 (nats .u8 l)) (hr0 : ∀ x ∈ l, x < 256) (ht : t.length = n1) (hn1 : n1 ≤ 9223372036854775807) (ha1 : At w A1 (t.map Value.bool)) (h2 : a.length = n2) (hn2 : n2 ≤ 9223372036854775807) (ha2 : At w A2 (nats .u8 a)) (hr2 : ∀ x ∈ a, x < 256) (hg : Glob w) :
    Calls Tryd.prog 9 #[.slice A0 n0 c0, .slice A1 n1 c1, .slice A2 n2 c2] w fun e w' => e = .returned (.bool true) ∧ Below w.heap.size w w' := by
  have HL := Lib.hid hl
  have HA0 := Lib.hid ha0
  have HR0 := Lib.hid hr0
  have HT := Lib.hid ht
  have HA1 := Lib.hid ha1
  have H2 := Lib.hid h2
  have HA2 := Lib.hid ha2
  have HR2 := Lib.hid hr2
  have HG := Lib.hid hg
  have R0 := Lib.hid (run_start w)
  obtain ⟨gb, hgb⟩ : ∃ gb, w.heap.size = gb := ⟨_, rfl⟩
  have HGB := Lib.hid hgb
  have hz1 : (w.alloc (.cells #[.int .i64 300, .slice none 0 0] 95)).heap.size = gb + 1 := by rw [← hgb]; simp
  have HZ1 := Lib.hid hz1
  clear hl ha0 hr0 ht ha1 h2 ha2 hr2 hg hz1 hgb
  go_enter Tryd.func9, Tryd.ntmps9
  go_wp2_with fail
  refine (bnew_ok 300 w (by decide)).mono ?_
  rintro e w1 ⟨rfl, rfl⟩
  generalize hw1 : (w.alloc (.cells #[.int .i64 300, .slice none 0 0] 95)) = w1 at *
  clear hw1
  go_wp2_with fail
  rw [ctr_zero]
  generalize hw2 : ((w1.alloc (.cells (ctr fun _ => 0) 51)).alloc (.cells (ctr fun _ => 0) 51)) = w2 at *
  clear hw2
  rw [HGB.out] at R0
  simp only [HGB.out, HZ1.out]
  go_loopw [11, 12] (fun s i wr => ∃ (j : Nat) (S : List Nat), j ≤ n0 ∧ i = .int .i64 j ∧ s = .int .i64 (S.length : Nat) ∧ S.length ≤ 2 * j ∧ (∀ x ∈ S, x < 256) ∧ Run w wr gb S (fun v => S.count v) (fun _ => 0)) (fun _ i _ => n0 - (intOf i).toNat)
  case atStart => exact ⟨0, [], by omega, rfl, rfl, by simp, by simp, R0.out⟩
  case round =>
    obtain ⟨j, S, hj, rfl, rfl, hS, hSb, hrun⟩ := hrel
    have R := Lib.hid hrun
    have SB := Lib.hid hSb
    clear hrun hSb R0
    by_cases hlt : j < n0
    · obtain ⟨b0, o0, rfl, hc⟩ := (HA0.out.later R.out.bel (Nat.le_of_eq HGB.out)).nat j (by rw [HL.out]; exact hlt)
      have hb0 : b0 < wr.heap.size := by
        have := At.lt HA0.out (by intro e; have := congrArg List.length e; rw [nats_length, HL.out] at this; simp at this; omega) b0 rfl
        have := R.out.size; have := HGB.out; omega
      have hx : l.getD j 0 < 256 := by rw [getD_lt (by rw [HL.out]; exact hlt)]; exact HR0.out _ (List.getElem_mem _)
      obtain ⟨x, hxe⟩ : ∃ x, l.getD j 0 = x := ⟨_, rfl⟩
      rw [hxe] at hc hx
      have HXE := Lib.hid hxe
      obtain ⟨A, n, c, vs, hbag⟩ := R.out.bag
      obtain rfl : n = S.length := by rw [← hbag.len, lst_length]
      have HBAG := Lib.hid hbag
      have HZR := Lib.hid R.out.size
      clear hbag hxe
      go_wp2_with fail
      have hb0g : b0 < gb := by
        have := At.lt HA0.out (by intro e; have := congrArg List.length e; rw [nats_length, HL.out] at this; simp at this; omega) b0 rfl
        have := HGB.out; omega
      have lit := ((Below.refl wr.heap.size wr).alloc (Nat.le_refl _) (.cells #[.int .u8 (x : Int)] 5)).drew
      have KF := Lib.hid (fun (W : World) (hW : Below wr.heap.size wr W) => (show W.cell? ⟨b0, o0 + j, none⟩ = some (.int .u8 (x : Int)) from (hW.cell (p := ⟨b0, o0 + j, none⟩) hb0).trans hc))
      have KP := Lib.hid (fun (W : World) (hW : Kept (gb + 3) gb (wr.alloc (.cells #[.int .u8 (x : Int)] 5)).drew W) => (show W.cell? ⟨b0, o0 + j, none⟩ = some (.int .u8 (x : Int)) from (World.cell?_of_block (a := ⟨b0, o0 + j, none⟩) (hW.block b0 (by omega) (by omega))).trans ((lit.cell (p := ⟨b0, o0 + j, none⟩) hb0).trans hc)))
      have HLIT := Lib.hid lit
      have HC0 := Lib.hid ((R.out.bel.cell (p := ⟨b0, o0 + j, none⟩) hb0g).symm.trans hc)
      clear lit hc
      have hwr : IntKind.i64.wrap (x : Int) = (x : Int) := by simp [IntKind.wrap, IntKind.signed, IntKind.bits]; omega
      go_region_held3 (fun W => W.cell? ⟨b0, o0 + j, none⟩ = some (.int .u8 (x : Int)))
        (first | exact KF.out _ (Below.refl _ _).drew | exact KF.out _ HLIT.out | exact KP.out _ kel3)
        (first | (go_at_call 38; refine (bput_any _ (x : Int) (HBAG.out.below HLIT.out (Nat.le_refl _)) (by omega) (by decide) (by have := HZR.out; simp; omega) (some ⟨wr.heap.size, 0, none⟩) 1 [x] (by simp) (At.lit _ _ _ _ _ rfl) (by simp)).mono ?_; rintro e w3 ⟨rfl, hk3, kel3⟩))
      rename_i hc3
      have R3 := Lib.hid ((R.out.later HLIT.out).kept kel3 (by rw [lst_snoc] at hk3; exact hk3))
      have CW := (R3.out.want.cell x).trans (ctr_get _ x hx)
      have hfz : w3.frozen? ⟨gb + 1, x, none⟩ = false := R3.out.want.frozen x
      have hq : S.count x ≤ S.length := List.count_le_length
      obtain ⟨q, hqe⟩ : ∃ q, S.count x = q := ⟨_, rfl⟩
      rw [hqe] at CW hq
      have HQE := Lib.hid hqe
      obtain ⟨m, hm⟩ : ∃ m, S.length = m := ⟨_, rfl⟩
      rw [hm] at hq hS
      have HM := Lib.hid hm
      simp only [hm]
      clear hk3 kel3 KF KP HLIT HBAG hqe hm hwr
      have R4 := Lib.hid (R3.out.snoc HQE.out)
      have SB4 := Lib.hid (snoc_lt SB.out hx)
      have hm4 : (S ++ [x]).length = m + 1 := by simp [HM.out]
      have HM4 := Lib.hid hm4
      clear hm4
      by_cases hj1 : j < n1
      · obtain ⟨b1, o1, rfl, hcb⟩ := At.bool HA1.out j (by rw [HT.out]; exact hj1)
        have hb1 : b1 < w.heap.size := At.lt HA1.out (by intro e; have := congrArg List.length e; rw [List.length_map, HT.out] at this; simp at this; omega) b1 rfl
        have hcb3 : w3.cell? ⟨b1, o1 + j, none⟩ = some (.bool (t.getD j false)) := (R3.out.bel.cell (p := ⟨b1, o1 + j, none⟩) (by rw [← HGB.out]; exact hb1)).trans hcb
        have hne1 : b1 ≠ gb + 1 := by have := HGB.out; omega
        clear hcb hb1
        cases htb : t.getD j false
        · rw [htb] at hcb3
          go_wp2_with fail
          case roundEnd =>
            refine ⟨⟨j + 1, S ++ [x], by omega, by simp, by rw [HM4.out]; simp, by rw [HM4.out]; omega, SB4.out, R4.out⟩, ?_⟩
            simp [intOf]; omega
        · rw [htb] at hcb3
          have hk0 : (((lst (S ++ [x])).getD m (0, []))) = ((x : Int), [x]) := by
            rw [lst_getD _ _ (by rw [HM4.out]; omega)]
            simp [← HM.out]
          have HK0 := Lib.hid hk0
          clear hk0
          go_wp2_with fail
          generalize hw4 : w3.setCell { block := gb + 1, off := x } (Value.int IntKind.i64 (↑q + 1)) = w4 at *
          clear hw4 hcb3 hc3 CW hfz
          obtain ⟨A4, n4, c4, vs4, hbag4⟩ := R4.out.bag
          obtain rfl : n4 = m + 1 := by rw [← hbag4.len, lst_length, HM4.out]
          have HBAG4 := Lib.hid hbag4
          clear hbag4
          refine (blen_any w4 HBAG4.out).mono ?_
          rintro e w5 ⟨rfl, rfl⟩
          go_wp2_with fail
          refine (bdouble_any w4 m HBAG4.out (by omega) (by omega) (by decide) R4.out.size).mono ?_
          rintro e w5 ⟨rfl, hk5, kel5⟩
          rw [HK0.out, lst_snoc] at hk5
          have R5 := Lib.hid (R4.out.kept kel5 hk5)
          have hc5 : w5.cell? ⟨b0, o0 + j, none⟩ = some (.int .u8 (x : Int)) := (R5.out.bel.cell (p := ⟨b0, o0 + j, none⟩) hb0g).trans HC0.out
          have CW5 := (R5.out.want.cell x).trans (ctr_get _ x hx)
          have hfz5 : w5.frozen? ⟨gb + 1, x, none⟩ = false := R5.out.want.frozen x
          have hq5 : (S ++ [x]).count x = q + 1 := by rw [count_snoc, if_pos rfl, HQE.out]
          rw [hq5] at CW5
          have R6 := Lib.hid (R5.out.snoc hq5)
          have SB6 := Lib.hid (snoc_lt SB4.out hx)
          clear hk5 kel5 hq5
          go_wp2_with fail
          case roundEnd =>
            refine ⟨⟨j + 1, S ++ [x] ++ [x], by omega, by simp, by rw [List.length_append, HM4.out]; simp <;> omega, by rw [List.length_append, HM4.out]; simp; omega, SB6.out, R6.out⟩, ?_⟩
            simp [intOf]; omega
      · go_wp2_with fail
        case roundEnd =>
          refine ⟨⟨j + 1, S ++ [x], by omega, by simp, by rw [HM4.out]; simp, by rw [HM4.out]; omega, SB4.out, R4.out⟩, ?_⟩
          simp [intOf]; omega
    · obtain ⟨m, hm⟩ : ∃ m, S.length = m := ⟨_, rfl⟩
      rw [hm] at hS
      have HM := Lib.hid hm
      simp only [hm]
      clear hm
      go_wp2_with fail
      go_loopw [13] (fun i wq => ∃ (p : Nat) (S' : List Nat) (g : Nat → Nat), p + S'.length = m ∧ i = .int .i64 p ∧ (∀ x ∈ S', x < 256) ∧ (∀ v, v < 256 → g v + S'.count v = S.count v) ∧ Run w wq gb S' (fun v => S.count v) g) (fun i _ => m - (intOf i).toNat)
      case atStart => exact ⟨0, S, fun _ => 0, by rw [HM.out]; omega, rfl, SB.out, by simp, R.out⟩
      case round =>
        obtain ⟨p, S', g, hp, rfl, hSb', hcnt, hrun'⟩ := hrel
        have R' := Lib.hid hrun'
        have SB' := Lib.hid hSb'
        have CN' := Lib.hid hcnt
        clear hrun' hSb' hcnt R SB
        obtain ⟨m', hm'⟩ : ∃ m', S'.length = m' := ⟨_, rfl⟩
        rw [hm'] at hp
        have HM' := Lib.hid hm'
        clear hm'
        obtain ⟨A, n, c, vs, hbag⟩ := R'.out.bag
        obtain rfl : n = m' := by rw [← hbag.len, lst_length, HM'.out]
        have HBAG := Lib.hid hbag
        clear hbag
        by_cases hlt' : p < m
        · by_cases hn20 : ¬ 0 < n2
          · obtain ⟨x, hxe⟩ : ∃ x, S'.getD 0 0 = x := ⟨_, rfl⟩
            have hx : x < 256 := by rw [← hxe, getD_lt (by rw [HM'.out]; omega)]; exact SB'.out _ (List.getElem_mem _)
            go_wp2_with fail
            refine (HBAG.out.takes 0 x (by omega) hxe R'.out.size).mono ?_
            rintro e w5 ⟨A5, c5, rfl, hat5, hk5, kel5⟩
            have R5 := Lib.hid (R'.out.kept kel5 hk5)
            obtain ⟨b5, o5, rfl, hc5⟩ := hat5.nat 0 (by simp)
            simp only [Nat.add_zero, List.getD_cons_zero] at hc5
            obtain ⟨q, hqe⟩ : ∃ q, g x = q := ⟨_, rfl⟩
            have hqm : q ≤ m := by have := CN'.out x hx; have := List.count_le_length (l := S) (a := x); have := HM.out; omega
            have CW5 := (show w5.cell? ⟨gb + 1 + 1, x, none⟩ = _ from (R5.out.got.cell x)).trans (ctr_get _ x hx)
            have hfz5 : w5.frozen? ⟨gb + 1 + 1, x, none⟩ = false := R5.out.got.frozen x
            rw [hqe] at CW5
            have R6 := Lib.hid (R5.out.came hqe)
            have CN6 := Lib.hid (came_count CN'.out (by rw [HM'.out]; omega) hxe hqe)
            have SB6 := Lib.hid (fun y (hy : y ∈ S'.eraseIdx 0) => SB'.out y (List.mem_of_mem_eraseIdx hy))
            have HL6 := Lib.hid (List.length_eraseIdx_of_lt (l := S') (i := 0) (by rw [HM'.out]; omega))
            clear hat5 hk5 kel5 hqe
            go_wp2_with fail
            case roundEnd =>
              refine ⟨⟨p + 1, S'.eraseIdx 0, _, by rw [HL6.out, HM'.out]; omega, by simp, SB6.out, CN6.out, R6.out⟩, ?_⟩
              simp [intOf]; omega
          · have hn2p : 0 < n2 := by omega
            have hpi : p % n2 < n2 := Nat.mod_lt _ hn2p
            have hA2 := HA2.out.later R'.out.bel (Nat.le_of_eq HGB.out)
            obtain ⟨b2, o2, rfl, hc2⟩ := hA2.nat (p % n2) (by rw [H2.out]; exact hpi)
            have hz : a.getD (p % n2) 0 < 256 := by rw [getD_lt (by rw [H2.out]; exact hpi)]; exact HR2.out _ (List.getElem_mem _)
            obtain ⟨z, hze⟩ : ∃ z, a.getD (p % n2) 0 = z := ⟨_, rfl⟩
            rw [hze] at hc2 hz
            obtain ⟨k, hke⟩ : ∃ k, z % n = k := ⟨_, rfl⟩
            have hkn : k < n := by rw [← hke]; exact Nat.mod_lt _ (by omega)
            obtain ⟨pm, hpm⟩ : ∃ pm, p % n2 = pm := ⟨_, rfl⟩
            have hr1 : Int.tmod (p : Int) (n2 : Int) = (pm : Int) := by rw [← hpm]; rfl
            have hr2 : Int.tmod (z : Int) (n : Int) = (k : Int) := by rw [← hke]; rfl
            rw [hpm] at hc2 hpi
            have hz1 : IntKind.i64.wrap (z : Int) = (z : Int) := by simp [IntKind.wrap, IntKind.signed, IntKind.bits]; omega
            have hif : (if (1 : Int) < (n : Int) then (n : Int) else 1) = (n : Int) := by split <;> omega
            have hke2 : (z : Int) % (n : Int) = (k : Int) := by rw [← hke]; rfl
            clear hA2 hze hpm hke
            have p1 : wr.cell? ⟨gb, 1, none⟩ = some (.slice A n c) := HBAG.out.blk_.cell 1
            have hmx : max (1 : Int) (n : Int) = (n : Int) := by omega
            have hn0' : (n : Int) ≠ 0 := by omega
            have hn20' : (n2 : Int) ≠ 0 := by omega
            go_wp2_with fail
            go_quiet ((go_at_call 40; exact Calls.quiet_of_same (blen_c _ (by first | exact p1 | simpa using p1))))
            try simp only [hif, hke2]
            have bq : Below wr.heap.size wr (wr.drewN nq) := bel_drewN (Below.refl _ _) nq
            have RQ := Lib.hid (R'.out.later bq)
            have HBQ := Lib.hid (HBAG.out.below bq (Nat.le_refl _))
            clear R' HBAG bq hc2 p1
            have R' := RQ
            have HBAG := HBQ
            clear RQ HBQ
            generalize wr.drewN nq = wr at *
            obtain ⟨x, hxe⟩ : ∃ x, S'.getD k 0 = x := ⟨_, rfl⟩
            have hx : x < 256 := by rw [← hxe, getD_lt (by rw [HM'.out]; omega)]; exact SB'.out _ (List.getElem_mem _)
            clear hz hr1 hr2 hz1 hke2 hif hmx hn0' hn20' hpi
            go_wp2_with fail
            refine (HBAG.out.takes k x (by omega) hxe R'.out.size).mono ?_
            rintro e w5 ⟨A5, c5, rfl, hat5, hk5, kel5⟩
            have R5 := Lib.hid (R'.out.kept kel5 hk5)
            obtain ⟨b5, o5, rfl, hc5⟩ := hat5.nat 0 (by simp)
            simp only [Nat.add_zero, List.getD_cons_zero] at hc5
            obtain ⟨q, hqe⟩ : ∃ q, g x = q := ⟨_, rfl⟩
            have hqm : q ≤ m := by have := CN'.out x hx; have := List.count_le_length (l := S) (a := x); have := HM.out; omega
            have CW5 := (show w5.cell? ⟨gb + 1 + 1, x, none⟩ = _ from (R5.out.got.cell x)).trans (ctr_get _ x hx)
            have hfz5 : w5.frozen? ⟨gb + 1 + 1, x, none⟩ = false := R5.out.got.frozen x
            rw [hqe] at CW5
            have R6 := Lib.hid (R5.out.came hqe)
            have CN6 := Lib.hid (came_count CN'.out (by rw [HM'.out]; omega) hxe hqe)
            have SB6 := Lib.hid (fun y (hy : y ∈ S'.eraseIdx k) => SB'.out y (List.mem_of_mem_eraseIdx hy))
            have HL6 := Lib.hid (List.length_eraseIdx_of_lt (l := S') (i := k) (by rw [HM'.out]; omega))
            clear hat5 hk5 kel5 hqe
            go_wp2_with fail
            case roundEnd =>
              refine ⟨⟨p + 1, S'.eraseIdx k, _, by rw [HL6.out, HM'.out]; omega, by simp, SB6.out, CN6.out, R6.out⟩, ?_⟩
              simp [intOf]; omega
        · obtain rfl : n = 0 := by omega
          obtain rfl : S' = [] := List.eq_nil_of_length_eq_zero HM'.out
          have hgot : Holds wr (gb + 1 + 1) 51 (ctr fun v => S.count v) := by
            have e := R'.out.got
            rw [ctr_congr (f := g) (g := fun v => S.count v) (fun v hv => by simpa using CN'.out v hv)] at e
            exact e
          have HGOT := Lib.hid hgot
          have HW := Lib.hid R'.out.want
          clear hgot
          have hsz : (Tryd.prog.info? 51).map (·.size) = some (ctr fun v => S.count v).size := by rw [ctr_size]; kernel_rfl
          have hun : Tryd.prog.underlying 51 = some (.array 256 3) := by kernel_rfl
          have heq := fun (w : World) => ctr_equal (fun v => S.count v) w
          generalize hC : (ctr fun v => S.count v) = C at *
          have HCC := Lib.hid hC
          clear hC
          go_wp2_with (first | (refine wpList_load_row rfl 51 (.tmp 10) rfl (gb + 1 + 1) rfl _ _ _ _ HGOT.out hun rfl hsz ?_) | (refine wpList_load_row rfl 51 (.tmp 9) rfl (gb + 1) rfl _ _ _ _ HW.out hun rfl hsz ?_))
          have HGR := Lib.hid (HG.out.later R'.out.bel (Nat.le_of_eq HGB.out))
          clear HGOT HW HCC heq hsz hun
          refine (blen_any wr HBAG.out).mono ?_
          rintro e w5 ⟨rfl, rfl⟩
          go_wp2_with fail
          refine (sure20 wr HGR.out).mono ?_
          rintro e w5 ⟨rfl, hb5⟩
          have HB5 := Lib.hid (R'.out.bel.trans (hb5.mono (by have := R'.out.size; omega)))
          clear hb5
          go_wp2_with fail
          go_ret
          exact ⟨rfl, by rw [HGB.out]; exact HB5.out⟩
end Go.Proofs.YtbgmbemaopnjfaaDoor
