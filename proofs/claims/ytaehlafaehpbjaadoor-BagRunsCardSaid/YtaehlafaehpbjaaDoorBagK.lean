/- Layer 20: To: the places of those to a node. -/
import Derived.Test.YtaehlafaehpbjaaDoorBagJ
namespace Go.Proofs.YtaehlafaehpbjaaDoor
open Go.RowKit
def ints (k : IntKind) (l : List Int) : List Value := l.map fun x => .int k x
theorem ints_length (k : IntKind) (l : List Int) : (ints k l).length = l.length := by simp [ints]
theorem At.int {w : World} {A : Option Addr} {k : IntKind} {l : List Int} (h : At w A (ints k l)) (i : Nat) (hi : i < l.length) :
    ∃ b o, A = some ⟨b, o, none⟩ ∧ w.cell? ⟨b, o + i, none⟩ = some (.int k (l.getD i 0)) := by
  apply h i
  simp [ints, List.getD_eq_getElem?_getD, List.getElem?_eq_getElem hi]
theorem elt_int : Elt Tryd.prog 30 3 (.int .i64 0) 1 8 where
  ht := by kernel_rfl
  hi := ⟨_, rfl, by kernel_rfl, by kernel_rfl, by kernel_rfl⟩
  hzs := rfl
  hsz := by decide
/-- the places, below k, of those to x -/
def places (L : List (Int × List Nat)) (x : Int) (k : Nat) : List Int := ((List.range k).filter fun i => decide ((L.getD i (0, [])).1 = x)).map fun (i : Nat) => (i : Int)
theorem places_yes (L : List (Int × List Nat)) (x : Int) (k : Nat) (h : (L.getD k (0, [])).1 = x) : places L x (k + 1) = places L x k ++ [(k : Int)] := by
  simp only [places, List.range_succ, List.filter_append, List.map_append]
  congr 1
  simp only [List.filter_cons, List.filter_nil, h, decide_true, if_true, List.map_cons, List.map_nil]
theorem places_no (L : List (Int × List Nat)) (x : Int) (k : Nat) (h : (L.getD k (0, [])).1 ≠ x) : places L x (k + 1) = places L x k := by
  simp only [places, List.range_succ, List.filter_append, List.map_append]
  simp only [List.filter_cons, List.filter_nil, decide_eq_false h]
  simp
theorem places_le (L : List (Int × List Nat)) (x : Int) (k : Nat) : (places L x k).length ≤ k := by
  simp only [places, List.length_map]
  exact Nat.le_trans (List.length_filter_le _ _) (by simp)
section
variable {g base : Nat} {M : Int} {A : Option Addr} {n c : Nat} {vs : List (Int × Value)} {l : List (Int × List Nat)}
def Tells (w : World) (l : List Int) (e : Ending) (w' : World) : Prop :=
  ∃ A1 c1, e = .returned (.slice A1 l.length c1) ∧ At w' A1 (ints .i64 l) ∧ Below w.heap.size w w'
set_option maxRecDepth 100000 in
set_option maxHeartbeats 2000000 in
theorem bto_any (w : World) (x : Int) (h : Bag w g base M A n c vs l) (hn : n ≤ 5000) :
    Calls Tryd.prog 9 #[.pointer (some ⟨g, 0, none⟩), .int .i64 x] w (Tells w (places l x n)) := by
  have p1 : w.cell? ⟨g, 1, none⟩ = some (.slice A n c) := h.blk_.cell 1
  have IT := Lib.hid h.item
  have PY := Lib.hid (places_yes l x)
  have PN := Lib.hid (places_no l x)
  have PL := Lib.hid (places_le l x)
  clear h
  go_enter Tryd.func9, Tryd.ntmps9
  go_wp2_with fail
  clear p1
  go_loopw [5, 15] (fun s i wr => ∃ (k m : Nat) (A1 : Option Addr) (c1 : Nat), k ≤ n ∧ i = .int .i64 (k : Int) ∧ (places l x k).length = m ∧ s = .slice A1 m c1 ∧ Own wr w.heap.size 3 1 A1 m c1 (ints .i64 (places l x k)) ∧ Below w.heap.size w wr) (fun _ i _ => n - (intOf i).toNat)
  case atStart => exact ⟨0, 0, none, 0, by omega, rfl, rfl, rfl, Own.none_ _ _ _ _, Below.refl _ _⟩
  case round =>
    obtain ⟨k, m, A1, c1, hk, rfl, hm, rfl, hown, hbel⟩ := hrel
    have HO := Lib.hid hown
    have HBL := Lib.hid hbel
    have hmk := PL.out k
    rw [hm] at hmk
    clear hown hbel
    by_cases hlt : k < n
    · obtain ⟨g2, A2, c2, rfl, hb2, hl2, hgg, q0, q1, hbod, _⟩ := IT.out k hlt
      have q0' := (HBL.out.cell (p := ⟨g2, k * 2, none⟩) hl2).trans q0
      have q1' := (HBL.out.cell (p := ⟨g2, k * 2 + 1, none⟩) hl2).trans q1
      have hpy := Lib.hid (PY.out k)
      have hpn := Lib.hid (PN.out k)
      clear hbod hgg q0 q1
      generalize l.getD k (0, []) = q at *
      obtain ⟨t, b⟩ := q
      simp only at q0' q1' hpy hpn
      have k63 : (0 : Int) ≤ (k : Int) := by omega
      have HO' := Lib.hid (HO.out.alloc (.cells #[.int .i64 t, .slice A2 b.length c2] 46))
      have HB' := Lib.hid (HBL.out.alloc HBL.out.size (.cells #[.int .i64 t, .slice A2 b.length c2] 46))
      by_cases ht : t = x
      · have E := Lib.hid (hpy.out ht)
        subst ht
        go_wp2_with (at_builtin; go_loud (refine wpList_app rfl elt_int w.heap.size (.tmp 24) (.tmp 26) rfl _ rfl (HO'.out.alloc _) _ rfl (At.lit _ _ _ _ _ (by simp)) rfl (by intro u hu; simp at hu; subst hu; rfl) (by unfold maxLen; omega) (by omega) (by have := HB'.out.size; simp at this ⊢; omega) ?_); intro A3 c3 w3 own3 g3 _; have B3 := Lib.hid ((HB'.out.alloc HB'.out.size _).grown g3 (by have := HB'.out.size; simp at this ⊢; omega) (fun k hk => (HO'.out.lt k hk).1)); have O3 := Lib.hid own3; clear own3 g3)
        go_round
        case rel => exact ⟨k + 1, m + 1, A3, c3, by omega, by go_num, by rw [E.out]; simp [hm], rfl, by rw [E.out]; simpa [ints] using O3.out, B3.out⟩
        case measure => simp [intOf]; omega
      · have E := Lib.hid (hpn.out ht)
        have hne : (t == x) = false := by simpa using ht
        have HT := Lib.hid ht
        clear ht
        go_wp2_with fail
        go_round
        case rel => exact ⟨k + 1, m, A1, c1, by omega, by go_num, by rw [E.out]; exact hm, rfl, by rw [E.out]; exact HO'.out, HB'.out⟩
        case measure => simp [intOf]; omega
    · obtain rfl : k = n := by omega
      clear IT PY PN PL
      go_wp2_with fail
      go_ret
      exact ⟨A1, c1, by rw [hm]; rfl, HO.out.at_, HBL.out⟩
end
end Go.Proofs.YtaehlafaehpbjaaDoor
