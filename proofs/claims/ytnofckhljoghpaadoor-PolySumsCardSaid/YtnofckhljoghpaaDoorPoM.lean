/- Layer 3: PolySums. -/
import Derived.Test.YtnofckhljoghpaaDoorPoL
import Derived.Test.YtnofckhljoghpaaDoorRegionB
import Derived.Deep.CutRange
import Derived.Deep.RegionLaw
namespace Go.Proofs.YtnofckhljoghpaaDoor
open Go.RowKit
open PoM (ml ad sb iv)
theorem arr5 {a0 a1 a2 a3 a4 : Nat} (k : Nat) (h : k < 5) : (#[.int .u64 (a0 : Nat), .int .u64 (a1 : Nat), .int .u64 (a2 : Nat), .int .u64 (a3 : Nat), .int .u64 (a4 : Nat)] : Array Value)[k]? = some (.int .u64 (([a0, a1, a2, a3, a4] : List Nat).getD k 0 : Nat)) := by
  have : k = 0 ∨ k = 1 ∨ k = 2 ∨ k = 3 ∨ k = 4 := by omega
  rcases this with rfl | rfl | rfl | rfl | rfl <;> rfl
theorem zip5 (l m : List Nat) (k : Nat) (h1 : k < l.length) (h2 : k < m.length) : (List.zipWith ad l m).getD k 0 = ad (l.getD k 0) (m.getD k 0) := by
  simp [List.getD_eq_getElem?_getD, List.getElem?_zipWith, List.getElem?_eq_getElem h1, List.getElem?_eq_getElem h2]
theorem map5 (kk : Nat) (l : List Nat) (k : Nat) (h : k < l.length) : (l.map fun a => ml a kk).getD k 0 = ml (l.getD k 0) kk := by
  simp [List.getD_eq_getElem?_getD, List.getElem?_map, List.getElem?_eq_getElem h]
theorem at_of_cells {w : World} {b o : Nat} {l : List Nat} (h : ∀ i, i < l.length → w.cell? ⟨b, o + i, none⟩ = some (.int .u64 (l.getD i 0 : Nat))) : At w (some ⟨b, o, none⟩) (nats .u64 l) := by
  intro i x hx
  have hi : i < l.length := by
    rcases Nat.lt_or_ge i l.length with h | h
    · exact h
    · rw [List.getElem?_eq_none (by rw [nats_length]; exact h)] at hx; cases hx
  refine ⟨b, o, rfl, ?_⟩
  rw [h i hi, ← hx]
  simp [nats, List.getD_eq_getElem?_getD, List.getElem?_eq_getElem hi]
theorem dis_flip {A1 A2 : Option Addr} (h : blk A1 = none ∨ blk A1 ≠ blk A2) : blk A2 = none ∨ blk A2 ≠ blk A1 := by
  rcases h with h | h
  · cases e : blk A2 with
    | none => exact .inl rfl
    | some j => exact .inr (by rw [h]; intro e; cases e)
  · exact .inr (Ne.symm h)
theorem dis_old {A1 A2 A3 : Option Addr} {n : Nat} (h : blk A1 = none ∨ blk A1 ≠ blk A2) (h3 : blk A3 = blk A1 ∨ blk A3 = some (n + 1)) (h2 : ∀ j, blk A2 = some j → j < n) : blk A3 = none ∨ blk A3 ≠ blk A2 := by
  rcases h3 with h3 | h3
  · rw [h3]; exact h
  · exact .inr (by rw [h3]; intro e; have := h2 _ e.symm; omega)
theorem dis_step {A1 A2 A3 A4 : Option Addr} {n m : Nat} (h : blk A1 = none ∨ blk A1 ≠ blk A2) (h3 : blk A3 = blk A1 ∨ blk A3 = some (n + 1)) (h4 : blk A4 = blk A2 ∨ blk A4 = some m) (h2 : ∀ j, blk A2 = some j → j < n) (hnm : n < m) (hA3 : ∀ j, blk A3 = some j → j < m) :
    blk A3 = none ∨ blk A3 ≠ blk A4 := by
  rcases h4 with h4 | h4
  · rw [h4]; exact dis_old h h3 h2
  · exact .inr (by rw [h4]; intro e; have := hA3 _ e; omega)
theorem zip_lt (l m : List Nat) : ∀ i, (List.zipWith ad l m).getD i 0 < 18446744073709551616 := by
  intro i
  by_cases hi : i < (List.zipWith ad l m).length
  · have h1 : i < l.length := by rw [List.length_zipWith] at hi; omega
    have h2 : i < m.length := by rw [List.length_zipWith] at hi; omega
    rw [zip5 l m i h1 h2]; exact lt64 (PoM.ad_lt _ _)
  · rw [List.getD_eq_getElem?_getD, List.getElem?_eq_none (by omega)]; decide
theorem mul_lt (kk : Nat) (l : List Nat) : ∀ i, (l.map fun a => ml a kk).getD i 0 < 18446744073709551616 := by
  intro i
  by_cases hi : i < l.length
  · rw [map5 kk l i hi]; exact lt64 (PoM.ml_lt _ _)
  · rw [List.getD_eq_getElem?_getD, List.getElem?_eq_none (by rw [List.length_map]; omega)]; decide
theorem list_lt {l : List Nat} {B : Nat} (hB : 0 < B) (h : ∀ v ∈ l, v < B) : ∀ i, l.getD i 0 < B := by
  intro i
  by_cases hi : i < l.length
  · rw [List.getD_eq_getElem?_getD, List.getElem?_eq_getElem hi]; exact h _ (List.getElem_mem hi)
  · rw [List.getD_eq_getElem?_getD, List.getElem?_eq_none (by omega)]; exact hB
set_option maxRecDepth 100000 in
set_option maxHeartbeats 4000000 in
theorem psums_any (a0 a1 a2 a3 a4 b0 b1 b2 b3 b4 x kk : Nat) (w : World) (hg : Glob w) (hA : ∀ v ∈ ([a0, a1, a2, a3, a4] : List Nat), v < 18446744073709551616) (hB : ∀ v ∈ ([b0, b1, b2, b3, b4] : List Nat), v < 18446744073709551616) (hx : x < 18446744073709551616) (hk : kk < 18446744073709551616) :
    Calls Tryd.prog 5 #[.agg #[.int .u64 (a0 : Nat), .int .u64 (a1 : Nat), .int .u64 (a2 : Nat), .int .u64 (a3 : Nat), .int .u64 (a4 : Nat)], .agg #[.int .u64 (b0 : Nat), .int .u64 (b1 : Nat), .int .u64 (b2 : Nat), .int .u64 (b3 : Nat), .int .u64 (b4 : Nat)], .agg #[.int .u64 (x : Nat), .int .u64 (kk : Nat)]] w fun e w' => e = .returned (.bool true) ∧ Below w.heap.size w w' := by
  have HG := Lib.hid hg
  have HA := Lib.hid (list_lt (by decide) hA)
  have HB := Lib.hid (list_lt (by decide) hB)
  have PA := Lib.hid (((Holds.new w 49 #[.int .u64 (a0 : Nat), .int .u64 (a1 : Nat), .int .u64 (a2 : Nat), .int .u64 (a3 : Nat), .int .u64 (a4 : Nat)] w.heap.size rfl).alloc (.cells #[.int .u64 (b0 : Nat), .int .u64 (b1 : Nat), .int .u64 (b2 : Nat), .int .u64 (b3 : Nat), .int .u64 (b4 : Nat)] 49)).alloc (.cells #[.int .u64 (x : Nat), .int .u64 (kk : Nat)] 50))
  have PB := Lib.hid ((Holds.new (w.alloc (.cells #[.int .u64 (a0 : Nat), .int .u64 (a1 : Nat), .int .u64 (a2 : Nat), .int .u64 (a3 : Nat), .int .u64 (a4 : Nat)] 49)) 49 #[.int .u64 (b0 : Nat), .int .u64 (b1 : Nat), .int .u64 (b2 : Nat), .int .u64 (b3 : Nat), .int .u64 (b4 : Nat)] (w.heap.size + 1) (by simp)).alloc (.cells #[.int .u64 (x : Nat), .int .u64 (kk : Nat)] 50))
  have PC := Lib.hid (Holds.new ((w.alloc (.cells #[.int .u64 (a0 : Nat), .int .u64 (a1 : Nat), .int .u64 (a2 : Nat), .int .u64 (a3 : Nat), .int .u64 (a4 : Nat)] 49)).alloc (.cells #[.int .u64 (b0 : Nat), .int .u64 (b1 : Nat), .int .u64 (b2 : Nat), .int .u64 (b3 : Nat), .int .u64 (b4 : Nat)] 49)) 50 #[.int .u64 (x : Nat), .int .u64 (kk : Nat)] (w.heap.size + 2) (by simp))
  have B0 := Lib.hid ((((Below.refl w.heap.size w).alloc (Nat.le_refl _) (.cells #[.int .u64 (a0 : Nat), .int .u64 (a1 : Nat), .int .u64 (a2 : Nat), .int .u64 (a3 : Nat), .int .u64 (a4 : Nat)] 49)).alloc (by simp) (.cells #[.int .u64 (b0 : Nat), .int .u64 (b1 : Nat), .int .u64 (b2 : Nat), .int .u64 (b3 : Nat), .int .u64 (b4 : Nat)] 49)).alloc (by simp; omega) (.cells #[.int .u64 (x : Nat), .int .u64 (kk : Nat)] 50))
  clear hg hA hB
  go_enter Tryd.func5, Tryd.ntmps5
  go_upto_region 1 with fail
  generalize (((w.alloc (.cells #[.int .u64 (a0 : Nat), .int .u64 (a1 : Nat), .int .u64 (a2 : Nat), .int .u64 (a3 : Nat), .int .u64 (a4 : Nat)] 49)).alloc (.cells #[.int .u64 (b0 : Nat), .int .u64 (b1 : Nat), .int .u64 (b2 : Nat), .int .u64 (b3 : Nat), .int .u64 (b4 : Nat)] 49)).alloc (.cells #[.int .u64 (x : Nat), .int .u64 (kk : Nat)] 50)) = w3 at *
  have c0 : w3.cell? ⟨w.heap.size + 2, 0, none⟩ = some (.int .u64 (x : Nat)) := PC.out.cell 0
  have c1 : w3.cell? ⟨w.heap.size + 2, 1, none⟩ = some (.int .u64 (kk : Nat)) := PC.out.cell 1
  go_quiet (fail)
  have PA4 := Lib.hid (PA.out.drewN nq)
  have PB4 := Lib.hid (PB.out.drewN nq)
  have B4 := Lib.hid (B0.out.trans (below_drewN _ w3 nq))
  clear c0 c1 PA PB PC B0
  generalize w3.drewN nq = w4 at *
  obtain ⟨la, hla⟩ : ∃ la, ([a0, a1, a2, a3, a4] : List Nat) = la := ⟨_, rfl⟩
  obtain ⟨lb, hlb⟩ : ∃ lb, ([b0, b1, b2, b3, b4] : List Nat) = lb := ⟨_, rfl⟩
  have la5 : la.length = 5 := by rw [← hla]; rfl
  have lb5 : lb.length = 5 := by rw [← hlb]; rfl
  have CAk := Lib.hid (fun (k : Nat) (h : k < 5) => (show w4.cell? ⟨w.heap.size, k, none⟩ = some (.int .u64 (la.getD k 0 : Nat)) from by rw [PA4.out.cell k, arr5 k h, hla]))
  have CBk := Lib.hid (fun (k : Nat) (h : k < 5) => (show w4.cell? ⟨w.heap.size + 1, k, none⟩ = some (.int .u64 (lb.getD k 0 : Nat)) from by rw [PB4.out.cell k, arr5 k h, hlb]))
  rw [hla] at HA
  rw [hlb] at HB
  have LA5 := Lib.hid la5
  have LB5 := Lib.hid lb5
  have lta := PA4.out.lt
  have ltb := PB4.out.lt
  clear la5 lb5 hla hlb PA4 PB4
  go_wp2_with fail
  go_loopw [9, 10, 11] (fun o1 o2 i wr => ∃ (k : Nat) (A1 : Option Addr) (c1 : Nat) (A2 : Option Addr) (c2 : Nat), k ≤ 5 ∧ o1 = .slice A1 k c1 ∧ o2 = .slice A2 k c2 ∧ i = .int .i64 (k : Nat) ∧ Own wr w4.heap.size 24 1 A1 k c1 (nats .u64 ((List.zipWith ad la lb).take k)) ∧ Own wr w4.heap.size 24 1 A2 k c2 (nats .u64 ((la.map fun a => ml a kk).take k)) ∧ (blk A1 = none ∨ blk A1 ≠ blk A2) ∧ Below w4.heap.size w4 wr) (fun _ _ i _ => 5 - (intOf i).toNat)
  case atStart => exact ⟨0, none, 0, none, 0, by omega, rfl, rfl, rfl, by simpa [nats] using Own.none_ w4 w4.heap.size 24 1, by simpa [nats] using Own.none_ w4 w4.heap.size 24 1, .inl rfl, Below.refl _ _⟩
  case round =>
  obtain ⟨k, A1, c1, A2, c2, hk5, rfl, rfl, rfl, ho1, ho2, hdis, hbel⟩ := hrel
  have O1 := Lib.hid ho1
  have O2 := Lib.hid ho2
  have DS := Lib.hid hdis
  have BL := Lib.hid hbel
  clear ho1 ho2 hdis hbel
  have k0 : (0 : Int) ≤ (k : Int) := by omega
  by_cases hlt : k < 5
  · have k5 : (k : Int) < 5 := by omega
    have g1 := (BL.out.cell (p := ⟨w.heap.size, k, none⟩) lta).trans (CAk.out k hlt)
    have g2 := (BL.out.cell (p := ⟨w.heap.size + 1, k, none⟩) ltb).trans (CBk.out k hlt)
    have ha64 := HA.out k
    have hb64 := HB.out k
    have hs1 := nats_snoc (List.zipWith ad la lb) k (by rw [List.length_zipWith, LA5.out, LB5.out]; exact hlt)
    have hs2 := nats_snoc (la.map fun a => ml a kk) k (by rw [List.length_map, LA5.out]; exact hlt)
    rw [zip5 la lb k (by rw [LA5.out]; exact hlt) (by rw [LB5.out]; exact hlt)] at hs1
    rw [map5 kk la k (by rw [LA5.out]; exact hlt)] at hs2
    obtain ⟨a, ha⟩ : ∃ a, la.getD k 0 = a := ⟨_, rfl⟩
    obtain ⟨b, hb⟩ : ∃ b, lb.getD k 0 = b := ⟨_, rfl⟩
    rw [ha] at g1 ha64 hs1 hs2
    have HAK := Lib.hid ha
    rw [hb] at g2 hb64 hs1
    have C1 := fun (W : World) => rad a b W ha64 hb64
    have C2 := fun (W : World) => rml a kk W ha64 hk
    obtain ⟨s, hs⟩ : ∃ s, ad a b = s := ⟨_, rfl⟩
    obtain ⟨t, ht⟩ : ∃ t, ml a kk = t := ⟨_, rfl⟩
    rw [hs] at C1 hs1
    rw [ht] at C2 hs2
    have HC1 := Lib.hid C1
    have HC2 := Lib.hid C2
    have HS1 := Lib.hid hs1
    have HS2 := Lib.hid hs2
    have ltA := Nat.lt_of_lt_of_le lta BL.out.size
    have ltB := Nat.lt_of_lt_of_le ltb BL.out.size
    clear ha hb hs ht C1 C2 hs1 hs2
    go_upto_region 6 with fail
    go_region_law (first
      | (go_loud (refine step_app rfl elt_u64 w4.heap.size (.tmp 25) (.tmp 33) rfl _ rfl (O1.out.drew.alloc _) [.int .u64 (s : Nat)] rfl (At.lit _ _ _ _ _ rfl) rfl (by intro u hu; simp at hu; subst hu; rfl) (by unfold maxLen; omega) (by omega) (by have h5 := BL.out.size; simp; omega) ?_); intro A3 c3 w5 own3 g3 hA3; have O3 := Lib.hid own3; have G3 := Lib.hid g3; have D3 := Lib.hid hA3; clear own3 g3 hA3; have B5 := Lib.hid ((BL.out.drew.alloc BL.out.drew.size (.cells #[.int .u64 (s : Nat)] 24)).grown G3.out ((BL.out.drew.alloc BL.out.drew.size (.cells #[.int .u64 (s : Nat)] 24)).size) (fun j e => (O1.out.lt j e).1)); have O5 := Lib.hid (Own.kept (O2.out.drew.alloc (.cells #[.int .u64 (s : Nat)] 24)) G3.out (dis_flip DS.out)); have F5 := Lib.hid (show (∀ j, blk A2 = some j → j < wr.heap.size) ∧ wr.heap.size < w5.heap.size from ⟨fun j e => (O2.out.lt j e).2, by have := G3.out.size; simp at this; omega⟩); have D5 := Lib.hid (show blk A3 = blk A1 ∨ blk A3 = some (wr.heap.size + 1) from by have := D3.out; simpa using this); have g3 := (B5.out.cell (p := ⟨w.heap.size, k, none⟩) lta).trans (CAk.out k hlt); rw [HAK.out] at g3; clear g1 g2 G3 D3 O1 O2)
      | (go_simp; go_at_call 16; refine (HC1.out _).mono ?_; rintro e w' ⟨rfl, rfl⟩))
    all_goals
      go_wp2_with fail
      with_reducible refine (HC2.out _).mono ?_
      rintro e w' ⟨rfl, rfl⟩
      go_wp2_with (at_builtin; go_loud (refine wpList_app rfl elt_u64 w4.heap.size (.tmp 35) (.tmp 41) rfl _ rfl (O5.out.alloc _) [.int .u64 (t : Nat)] rfl (At.lit _ _ _ _ _ rfl) rfl (by intro u hu; simp at hu; subst hu; rfl) (by unfold maxLen; omega) (by omega) (by have h5 := B5.out.size; simp; omega) ?_; intro A4 c4 w6 own4 g4 hA4; have B6 := Lib.hid ((B5.out.alloc B5.out.size (.cells #[.int .u64 (t : Nat)] 24)).grown g4 ((B5.out.alloc B5.out.size (.cells #[.int .u64 (t : Nat)] 24)).size) (fun j e => (O5.out.lt j e).1)); have O6 := Lib.hid own4; have G4 := Lib.hid g4; have D4 := Lib.hid hA4; clear own4 g4 hA4))
      have DN := Lib.hid (dis_step DS.out D5.out (show blk A4 = blk A2 ∨ blk A4 = some (w5.heap.size + 1) from by have := D4.out; simpa using this) F5.out.1 (Nat.lt_succ_of_lt F5.out.2) (fun j e => Nat.lt_succ_of_lt (O3.out.lt j e).2))
      have O7 := Lib.hid (Own.kept (O3.out.alloc (.cells #[.int .u64 (t : Nat)] 24)) G4.out (dis_old DS.out D5.out F5.out.1))
      go_round
      case rel => exact ⟨k + 1, A3, c3, A4, c4, by omega, rfl, rfl, by go_num, HS1.out ▸ O7.out, HS2.out ▸ O6.out, DN.out, B6.out⟩
      case measure => simp [intOf]; omega
  · obtain rfl : k = 5 := by omega
    have X1 := Lib.hid (show At wr A1 (nats .u64 (List.zipWith ad la lb)) from by have h := O1.out.at_; rwa [List.take_of_length_le (by rw [List.length_zipWith, LA5.out, LB5.out]; decide)] at h)
    have X2 := Lib.hid (show At wr A2 (nats .u64 (la.map fun a => ml a kk)) from by have h := O2.out.at_; rwa [List.take_of_length_le (by rw [List.length_map, LA5.out]; decide)] at h)
    have XA := Lib.hid (show At wr (some ⟨w.heap.size, 0, none⟩) (nats .u64 la) from at_of_cells fun i hi => by rw [Nat.zero_add]; exact (BL.out.cell (p := ⟨w.heap.size, i, none⟩) lta).trans (CAk.out i (by rw [LA5.out] at hi; exact hi)))
    have XB := Lib.hid (show At wr (some ⟨w.heap.size + 1, 0, none⟩) (nats .u64 lb) from at_of_cells fun i hi => by rw [Nat.zero_add]; exact (BL.out.cell (p := ⟨w.heap.size + 1, i, none⟩) ltb).trans (CBk.out i (by rw [LB5.out] at hi; exact hi)))
    have e1 := hor_add la lb x (LA5.out.trans LB5.out.symm)
    have e2 := hor_mul kk la x
    have F1 := fun (W : World) (hW : Below wr.heap.size wr W) => peval_any A1 5 c1 (List.zipWith ad la lb) x W (by rw [List.length_zipWith, LA5.out, LB5.out]; rfl) (by decide) (X1.out.later hW (Nat.le_refl _)) (zip_lt la lb) hx
    have F2 := fun (W : World) (hW : Below wr.heap.size wr W) => peval_any A2 5 c2 (la.map fun a => ml a kk) x W (by rw [List.length_map, LA5.out]) (by decide) (X2.out.later hW (Nat.le_refl _)) (mul_lt kk la) hx
    have F3 := fun (W : World) (hW : Below wr.heap.size wr W) => peval_any (some ⟨w.heap.size, 0, none⟩) 5 5 la x W LA5.out (by decide) (XA.out.later hW (Nat.le_refl _)) HA.out hx
    have F4 := fun (W : World) (hW : Below wr.heap.size wr W) => peval_any (some ⟨w.heap.size + 1, 0, none⟩) 5 5 lb x W LB5.out (by decide) (XB.out.later hW (Nat.le_refl _)) HB.out hx
    rw [e1] at F1
    rw [e2] at F2
    have qa64 := lt64 (PoM.hor_lt la x)
    have qb64 := lt64 (PoM.hor_lt lb x)
    obtain ⟨qa, hqa⟩ : ∃ qa, PoM.hor la x = qa := ⟨_, rfl⟩
    obtain ⟨qb, hqb⟩ : ∃ qb, PoM.hor lb x = qb := ⟨_, rfl⟩
    rw [hqa] at F1 F2 F3 qa64
    rw [hqb] at F1 F4 qb64
    have K1 := fun (W : World) => rad qa qb W qa64 qb64
    have K2 := fun (W : World) => rml qa kk W qa64 hk
    obtain ⟨q1, hq1⟩ : ∃ q1, ad qa qb = q1 := ⟨_, rfl⟩
    obtain ⟨q2, hq2⟩ : ∃ q2, ml qa kk = q2 := ⟨_, rfl⟩
    rw [hq1] at F1 K1
    rw [hq2] at F2 K2
    have E1 := Lib.hid F1
    have E2 := Lib.hid F2
    have EA := Lib.hid F3
    have EB := Lib.hid F4
    have CAD := Lib.hid K1
    have CML := Lib.hid K2
    have BR := Lib.hid (B4.out.trans (BL.out.mono B4.out.size))
    clear e1 e2 F1 F2 F3 F4 K1 K2 hqa hqb hq1 hq2 O1 O2 DS BL X1 X2 XA XB CAk CBk k0 hlt hk5
    go_upto_region 8 with fail
    go_cut [64] from 43 to 64 (fun cv wx => cv = .bool false ∧ Below wr.heap.size wr wx)
    case first =>
      go_wp2_with fail
      refine wp_region_below [is ?c0, is ?c1, is (.int .u64 (q1 : Nat)), is ?c3, is ?c4, is (.int .u64 (qa : Nat)), is ?c6, is ?c7, is (.int .u64 (qb : Nat)), is (.int .u64 (q1 : Nat)), is ?c10, is ?c11, is ?c12, is ?c13, is (.int .u64 (q2 : Nat)), is ?c15, is ?c16, is (.int .u64 (qa : Nat)), is ?c18, is (.int .u64 (q2 : Nat)), is ?c20, is ?c21]
        [⟨[], [9], none⟩, ⟨[], [7], none⟩, ⟨[(43, 0), (44, 1)], [], none⟩, ⟨[], [3], none⟩, ⟨[], [7], none⟩, ⟨[(46, 3), (47, 4)], [], none⟩, ⟨[], [4], none⟩, ⟨[], [7], none⟩, ⟨[(49, 6), (50, 7)], [], none⟩, ⟨[(48, 5), (51, 8)], [], none⟩, ⟨[(45, 2), (52, 9)], [], none⟩, ⟨[(53, 10)], [], none⟩, ⟨[(54, 11)], [10], some (54, false)⟩, ⟨[(54, 11)], [7], some (54, false)⟩, ⟨[(55, 12), (56, 13), (54, 11)], [], some (54, false)⟩, ⟨[(54, 11)], [3], some (54, false)⟩, ⟨[(54, 11)], [7], some (54, false)⟩, ⟨[(58, 15), (59, 16), (54, 11)], [], some (54, false)⟩, ⟨[(54, 11)], [8], some (54, false)⟩, ⟨[(60, 17), (61, 18), (54, 11)], [], some (54, false)⟩, ⟨[(57, 14), (62, 19), (54, 11)], [], some (54, false)⟩, ⟨[(54, 11), (63, 20)], [], none⟩] (by kernel_rfl) (by kernel_rfl) (by kernel_rfl) (by kernel_rfl) (by kernel_rfl) ?monoc ?stepsc ?finc
      case monoc => exact ⟨mono_eq _, mono_eq _, mono_eq _, mono_eq _, mono_eq _, mono_eq _, mono_eq _, mono_eq _, mono_eq _, mono_eq _, mono_eq _, mono_eq _, mono_eq _, mono_eq _, mono_eq _, mono_eq _, mono_eq _, mono_eq _, mono_eq _, mono_eq _, mono_eq _, mono_eq _, trivial⟩
      case stepsc =>
        refine ⟨fun ρ W ⟨hcst, hglb, hfun⟩ hX hp ho => ?_, ?_⟩ -- 0: slot 43 := Op.move t9
        · obtain ⟨o9, -⟩ := ho
          change ρ (.tmp 9) = _ at o9
          refine turn_plain (ok_is ?_ rfl)
          simp only [execOp, o9]; go_simp; try exact rfl
        refine ⟨fun ρ W ⟨hcst, hglb, hfun⟩ hX hp ho => ?_, ?_⟩ -- 1: slot 44 := Op.move t7
        · obtain ⟨o7, -⟩ := ho
          change ρ (.tmp 7) = _ at o7
          refine turn_plain (ok_is ?_ rfl)
          simp only [execOp, o7]; go_simp; try exact rfl
        refine ⟨fun ρ W ⟨hcst, hglb, hfun⟩ hX hp ho => ?_, ?_⟩ -- 2: slot 45 := Op.call { value (Operand.func 13), args := #[t43, t44], argTypes := #[22, 24] }
        · obtain ⟨p43, p44, -⟩ := hp
          change ρ (.tmp 43) = _ at p43
          change ρ (.tmp 44) = _ at p44
          have hW := (Below.refl _ _).drew.trans hX
          refine turn_plain ?_
          have ce := @enter_of Tryd.prog 13 _ Tryd.func13 (by kernel_rfl) (by kernel_rfl)
          refine ok_call (op_call2 hfun ce (by exact rfl) p43 p44) ?_
          refine (E1.out W hW).mono ?_
          rintro e W' ⟨rfl, mm, rfl⟩
          exact ⟨_, rfl, below_drewN _ _ _, rfl⟩
        refine ⟨fun ρ W ⟨hcst, hglb, hfun⟩ hX hp ho => ?_, ?_⟩ -- 3: slot 46 := Op.slice 49 t3 none none none
        · obtain ⟨o3, -⟩ := ho
          change ρ (.tmp 3) = _ at o3
          refine turn_plain (ok_is ?_ rfl)
          simp only [execOp, o3]; go_simp; try exact rfl
        refine ⟨fun ρ W ⟨hcst, hglb, hfun⟩ hX hp ho => ?_, ?_⟩ -- 4: slot 47 := Op.move t7
        · obtain ⟨o7, -⟩ := ho
          change ρ (.tmp 7) = _ at o7
          refine turn_plain (ok_is ?_ rfl)
          simp only [execOp, o7]; go_simp; try exact rfl
        refine ⟨fun ρ W ⟨hcst, hglb, hfun⟩ hX hp ho => ?_, ?_⟩ -- 5: slot 48 := Op.call { value (Operand.func 13), args := #[t46, t47], argTypes := #[22, 24] }
        · obtain ⟨p46, p47, -⟩ := hp
          change ρ (.tmp 46) = _ at p46
          change ρ (.tmp 47) = _ at p47
          have hW := (Below.refl _ _).drew.trans hX
          refine turn_plain ?_
          have ce := @enter_of Tryd.prog 13 _ Tryd.func13 (by kernel_rfl) (by kernel_rfl)
          refine ok_call (op_call2 hfun ce (by exact rfl) p46 p47) ?_
          refine (EA.out W hW).mono ?_
          rintro e W' ⟨rfl, mm, rfl⟩
          exact ⟨_, rfl, below_drewN _ _ _, rfl⟩
        refine ⟨fun ρ W ⟨hcst, hglb, hfun⟩ hX hp ho => ?_, ?_⟩ -- 6: slot 49 := Op.slice 49 t4 none none none
        · obtain ⟨o4, -⟩ := ho
          change ρ (.tmp 4) = _ at o4
          refine turn_plain (ok_is ?_ rfl)
          simp only [execOp, o4]; go_simp; try exact rfl
        refine ⟨fun ρ W ⟨hcst, hglb, hfun⟩ hX hp ho => ?_, ?_⟩ -- 7: slot 50 := Op.move t7
        · obtain ⟨o7, -⟩ := ho
          change ρ (.tmp 7) = _ at o7
          refine turn_plain (ok_is ?_ rfl)
          simp only [execOp, o7]; go_simp; try exact rfl
        refine ⟨fun ρ W ⟨hcst, hglb, hfun⟩ hX hp ho => ?_, ?_⟩ -- 8: slot 51 := Op.call { value (Operand.func 13), args := #[t49, t50], argTypes := #[22, 24] }
        · obtain ⟨p49, p50, -⟩ := hp
          change ρ (.tmp 49) = _ at p49
          change ρ (.tmp 50) = _ at p50
          have hW := (Below.refl _ _).drew.trans hX
          refine turn_plain ?_
          have ce := @enter_of Tryd.prog 13 _ Tryd.func13 (by kernel_rfl) (by kernel_rfl)
          refine ok_call (op_call2 hfun ce (by exact rfl) p49 p50) ?_
          refine (EB.out W hW).mono ?_
          rintro e W' ⟨rfl, mm, rfl⟩
          exact ⟨_, rfl, below_drewN _ _ _, rfl⟩
        refine ⟨fun ρ W ⟨hcst, hglb, hfun⟩ hX hp ho => ?_, ?_⟩ -- 9: slot 52 := Op.call { value (Operand.func 16), args := #[t48, t51], argTypes := #[24, 24] }
        · obtain ⟨p48, p51, -⟩ := hp
          change ρ (.tmp 48) = _ at p48
          change ρ (.tmp 51) = _ at p51
          have hW := (Below.refl _ _).drew.trans hX
          refine turn_plain ?_
          have ce := @enter_of Tryd.prog 16 _ Tryd.func16 (by kernel_rfl) (by kernel_rfl)
          refine ok_call (op_call2 hfun ce (by exact rfl) p48 p51) ?_
          refine (CAD.out W).mono ?_
          rintro e W' ⟨rfl, rfl⟩
          exact ⟨_, rfl, Below.refl _ _, rfl⟩
        refine ⟨fun ρ W ⟨hcst, hglb, hfun⟩ hX hp ho => ?_, ?_⟩ -- 10: slot 53 := Op.binOp BinOp.neq 24 t45 t52 24
        · obtain ⟨p45, p52, -⟩ := hp
          change ρ (.tmp 45) = _ at p45
          change ρ (.tmp 52) = _ at p52
          refine turn_plain (ok_is ?_ rfl)
          simp only [execOp, p45, p52]; go_simp; try exact rfl
        refine ⟨fun ρ W ⟨hcst, hglb, hfun⟩ hX hp ho => ?_, ?_⟩ -- 11: slot 54 := Op.move t53
        · obtain ⟨p53, -⟩ := hp
          change ρ (.tmp 53) = _ at p53
          refine turn_plain (ok_is ?_ rfl)
          simp only [execOp, p53]; go_simp; try exact rfl
        refine ⟨fun ρ W ⟨hcst, hglb, hfun⟩ hX hp ho => ?_, ?_⟩ -- 12: slot 55 := Op.move t10   [guarded: some (11, false)]
        · obtain ⟨p54, -⟩ := hp
          change ρ (.tmp 54) = _ at p54
          obtain ⟨o10, -⟩ := ho
          change ρ (.tmp 10) = _ at o10
          refine turn_yes p54 (ok_is ?_ rfl)
          simp only [execOp, o10]; go_simp; try exact rfl
        refine ⟨fun ρ W ⟨hcst, hglb, hfun⟩ hX hp ho => ?_, ?_⟩ -- 13: slot 56 := Op.move t7   [guarded: some (11, false)]
        · obtain ⟨p54, -⟩ := hp
          change ρ (.tmp 54) = _ at p54
          obtain ⟨o7, -⟩ := ho
          change ρ (.tmp 7) = _ at o7
          refine turn_yes p54 (ok_is ?_ rfl)
          simp only [execOp, o7]; go_simp; try exact rfl
        refine ⟨fun ρ W ⟨hcst, hglb, hfun⟩ hX hp ho => ?_, ?_⟩ -- 14: slot 57 := Op.call { value (Operand.func 13), args := #[t55, t56], argTypes := #[22, 24] }   [guarded
        · obtain ⟨p55, p56, p54, -⟩ := hp
          change ρ (.tmp 55) = _ at p55
          change ρ (.tmp 56) = _ at p56
          change ρ (.tmp 54) = _ at p54
          have hW := (Below.refl _ _).drew.trans hX
          refine turn_yes p54 ?_
          have ce := @enter_of Tryd.prog 13 _ Tryd.func13 (by kernel_rfl) (by kernel_rfl)
          refine ok_call (op_call2 hfun ce (by exact rfl) p55 p56) ?_
          refine (E2.out W hW).mono ?_
          rintro e W' ⟨rfl, mm, rfl⟩
          exact ⟨_, rfl, below_drewN _ _ _, rfl⟩
        refine ⟨fun ρ W ⟨hcst, hglb, hfun⟩ hX hp ho => ?_, ?_⟩ -- 15: slot 58 := Op.slice 49 t3 none none none   [guarded: some (11, false)]
        · obtain ⟨p54, -⟩ := hp
          change ρ (.tmp 54) = _ at p54
          obtain ⟨o3, -⟩ := ho
          change ρ (.tmp 3) = _ at o3
          refine turn_yes p54 (ok_is ?_ rfl)
          simp only [execOp, o3]; go_simp; try exact rfl
        refine ⟨fun ρ W ⟨hcst, hglb, hfun⟩ hX hp ho => ?_, ?_⟩ -- 16: slot 59 := Op.move t7   [guarded: some (11, false)]
        · obtain ⟨p54, -⟩ := hp
          change ρ (.tmp 54) = _ at p54
          obtain ⟨o7, -⟩ := ho
          change ρ (.tmp 7) = _ at o7
          refine turn_yes p54 (ok_is ?_ rfl)
          simp only [execOp, o7]; go_simp; try exact rfl
        refine ⟨fun ρ W ⟨hcst, hglb, hfun⟩ hX hp ho => ?_, ?_⟩ -- 17: slot 60 := Op.call { value (Operand.func 13), args := #[t58, t59], argTypes := #[22, 24] }   [guarded
        · obtain ⟨p58, p59, p54, -⟩ := hp
          change ρ (.tmp 58) = _ at p58
          change ρ (.tmp 59) = _ at p59
          change ρ (.tmp 54) = _ at p54
          have hW := (Below.refl _ _).drew.trans hX
          refine turn_yes p54 ?_
          have ce := @enter_of Tryd.prog 13 _ Tryd.func13 (by kernel_rfl) (by kernel_rfl)
          refine ok_call (op_call2 hfun ce (by exact rfl) p58 p59) ?_
          refine (EA.out W hW).mono ?_
          rintro e W' ⟨rfl, mm, rfl⟩
          exact ⟨_, rfl, below_drewN _ _ _, rfl⟩
        refine ⟨fun ρ W ⟨hcst, hglb, hfun⟩ hX hp ho => ?_, ?_⟩ -- 18: slot 61 := Op.move t8   [guarded: some (11, false)]
        · obtain ⟨p54, -⟩ := hp
          change ρ (.tmp 54) = _ at p54
          obtain ⟨o8, -⟩ := ho
          change ρ (.tmp 8) = _ at o8
          refine turn_yes p54 (ok_is ?_ rfl)
          simp only [execOp, o8]; go_simp; try exact rfl
        refine ⟨fun ρ W ⟨hcst, hglb, hfun⟩ hX hp ho => ?_, ?_⟩ -- 19: slot 62 := Op.call { value (Operand.func 17), args := #[t60, t61], argTypes := #[24, 24] }   [guarded
        · obtain ⟨p60, p61, p54, -⟩ := hp
          change ρ (.tmp 60) = _ at p60
          change ρ (.tmp 61) = _ at p61
          change ρ (.tmp 54) = _ at p54
          have hW := (Below.refl _ _).drew.trans hX
          refine turn_yes p54 ?_
          have ce := @enter_of Tryd.prog 17 _ Tryd.func17 (by kernel_rfl) (by kernel_rfl)
          refine ok_call (op_call2 hfun ce (by exact rfl) p60 p61) ?_
          refine (CML.out W).mono ?_
          rintro e W' ⟨rfl, rfl⟩
          exact ⟨_, rfl, Below.refl _ _, rfl⟩
        refine ⟨fun ρ W ⟨hcst, hglb, hfun⟩ hX hp ho => ?_, ?_⟩ -- 20: slot 63 := Op.binOp BinOp.neq 24 t57 t62 24   [guarded: some (11, false)]
        · obtain ⟨p57, p62, p54, -⟩ := hp
          change ρ (.tmp 57) = _ at p57
          change ρ (.tmp 62) = _ at p62
          change ρ (.tmp 54) = _ at p54
          refine turn_yes p54 (ok_is ?_ rfl)
          simp only [execOp, p57, p62]; go_simp; try exact rfl
        refine ⟨fun ρ W ⟨hcst, hglb, hfun⟩ hX hp ho => ?_, ?_⟩ -- 21: slot 64 := Op.pick t54 (const (Value.bool true)) t63
        · obtain ⟨p54, p63, -⟩ := hp
          change ρ (.tmp 54) = _ at p54
          change ρ (.tmp 63) = _ at p63
          refine turn_plain (ok_is ?_ rfl)
          simp only [execOp, hcst, p54, p63]; go_simp; try exact rfl
        exact trivial
      case finc =>
        rintro v W hX ⟨f0, f1, f2, f3, f4, f5, f6, f7, f8, f9, f10, f11, f12, f13, f14, f15, f16, f17, f18, f19, f20, f21, -⟩
        simp only [is] at f0 f1 f2 f3 f4 f5 f6 f7 f8 f9 f10 f11 f12 f13 f14 f15 f16 f17 f18 f19 f20 f21
        simp only [putAll, Act.put, List.setIfInBounds_toArray, List.set_cons_succ, List.set_cons_zero, f0, f1, f2, f3, f4, f5, f6, f7, f8, f9, f10, f11, f12, f13, f14, f15, f16, f17, f18, f19, f20, f21]
        clear f0 f1 f2 f3 f4 f5 f6 f7 f8 f9 f10 f11 f12 f13 f14 f15 f16 f17 f18 f19 f20 f21
        go_wp2_with fail
        go_meet
        exact ⟨rfl, hX⟩
    case rest =>
      obtain ⟨rfl, bel⟩ := hcut
      have BC := Lib.hid (BR.out.trans (bel.mono BR.out.size))
      clear bel BR E1 E2 EA EB CAD CML
      go_wp2_with fail
      have A1L := Lib.hid ((Below.refl wc.heap.size wc).alloc (Nat.le_refl _) (.cells #[.int .u64 1, .int .u64 2, .int .u64 3, .int .u64 4] 24))
      refine (weights_ok (some ⟨wc.heap.size, 0, none⟩) 4 4 [1, 2, 3, 4] _ x hx dif4 (by decide) rfl (At.lit _ _ _ _ _ rfl) (list_lt (by decide) (by decide))).mono ?_
      rintro e w7 ⟨A7, c7, rfl, h7, b7⟩
      have B7 := Lib.hid (BC.out.trans ((A1L.out.trans (b7.mono A1L.out.size)).mono BC.out.size))
      have H7 := Lib.hid h7
      clear b7 h7 A1L BC
      go_wp2_with fail
      have A1L := Lib.hid ((Below.refl w7.heap.size w7).alloc (Nat.le_refl _) (.cells #[.int .u64 1, .int .u64 2, .int .u64 3, .int .u64 4] 24))
      refine (weights_ok (some ⟨w7.heap.size, 0, none⟩) 4 4 [1, 2, 3, 4] _ 3 (by decide) dif4 (by decide) rfl (At.lit _ _ _ _ _ rfl) (list_lt (by decide) (by decide))).mono ?_
      rintro e w8 ⟨A8, c8, rfl, h8, b8⟩
      have bb := A1L.out.trans (b8.mono A1L.out.size)
      have B8 := Lib.hid (B7.out.trans (bb.mono B7.out.size))
      have H8 := Lib.hid h8
      have H78 := Lib.hid (H7.out.later bb (Nat.le_refl _))
      clear b8 h8 A1L B7 bb H7
      obtain ⟨b9, o9, rfl, u0⟩ := H78.out.nat 0 (by rw [wl_length]; decide)
      obtain ⟨b', o', e', u1⟩ := H78.out.nat 1 (by rw [wl_length]; decide)
      injection e' with e'; injection e' with z1 z2; subst z1; subst z2
      obtain ⟨b', o', e', u2⟩ := H78.out.nat 2 (by rw [wl_length]; decide)
      injection e' with e'; injection e' with z1 z2; subst z1; subst z2
      obtain ⟨b', o', e', u3⟩ := H78.out.nat 3 (by rw [wl_length]; decide)
      injection e' with e'; injection e' with z1 z2; subst z1; subst z2
      rw [wl_getD _ _ (by decide)] at u0 u1 u2 u3
      rw [Nat.add_zero] at u0
      have hall := wt_all x
      have l0 := lt64 (PoM.wt_lt [1, 2, 3, 4] x 0)
      have l1 := lt64 (PoM.wt_lt [1, 2, 3, 4] x 1)
      have l2 := lt64 (PoM.wt_lt [1, 2, 3, 4] x 2)
      have l3 := lt64 (PoM.wt_lt [1, 2, 3, 4] x 3)
      obtain ⟨y0, hy0⟩ : ∃ y, PoM.wt [1, 2, 3, 4] x 0 = y := ⟨_, rfl⟩
      obtain ⟨y1, hy1⟩ : ∃ y, PoM.wt [1, 2, 3, 4] x 1 = y := ⟨_, rfl⟩
      obtain ⟨y2, hy2⟩ : ∃ y, PoM.wt [1, 2, 3, 4] x 2 = y := ⟨_, rfl⟩
      obtain ⟨y3, hy3⟩ : ∃ y, PoM.wt [1, 2, 3, 4] x 3 = y := ⟨_, rfl⟩
      rw [hy0] at u0 hall l0
      rw [hy1] at u1 hall l1
      rw [hy2] at u2 hall l2
      rw [hy3] at u3 hall l3
      have K1 := fun (W : World) => rad y0 y1 W l0 l1
      have K2 := fun (W : World) => rad y2 y3 W l2 l3
      have m1 := lt64 (PoM.ad_lt y0 y1)
      have m2 := lt64 (PoM.ad_lt y2 y3)
      obtain ⟨s1, hs1⟩ : ∃ s, ad y0 y1 = s := ⟨_, rfl⟩
      obtain ⟨s2, hs2⟩ : ∃ s, ad y2 y3 = s := ⟨_, rfl⟩
      rw [hs1] at K1 hall m1
      rw [hs2] at K2 hall m2
      have K3 := fun (W : World) => rad s1 s2 W m1 m2
      rw [hall] at K3
      have HK1 := Lib.hid K1
      have HK2 := Lib.hid K2
      have HK3 := Lib.hid K3
      clear hy0 hy1 hy2 hy3 hs1 hs2 K1 K2 K3 hall H78
      go_upto_region 14 with fail
      go_quiet (first
        | (go_at_call 16; with_reducible exact Calls.quiet_of_same (Calls.flip (HK1.out _)))
        | (go_at_call 16; with_reducible exact Calls.quiet_of_same (Calls.flip (HK2.out _)))
        | (go_at_call 16; with_reducible exact Calls.quiet_of_same (Calls.flip (HK3.out _))))
      have B10 := Lib.hid (B8.out.trans (below_drewN _ w8 nq))
      have H10 := Lib.hid (H8.out.later (below_drewN _ w8 nq) (Nat.le_refl _))
      clear u0 u1 u2 u3 HK1 HK2 HK3 B8 H8
      generalize w8.drewN nq = w10 at *
      obtain ⟨b8, o8, rfl, v0⟩ := H10.out.nat 0 (by rw [wl_length]; decide)
      obtain ⟨b', o', e', v1⟩ := H10.out.nat 1 (by rw [wl_length]; decide)
      injection e' with e'; injection e' with z1 z2; subst z1; subst z2
      obtain ⟨b', o', e', v2⟩ := H10.out.nat 2 (by rw [wl_length]; decide)
      injection e' with e'; injection e' with z1 z2; subst z1; subst z2
      obtain ⟨b', o', e', v3⟩ := H10.out.nat 3 (by rw [wl_length]; decide)
      injection e' with e'; injection e' with z1 z2; subst z1; subst z2
      rw [wl_getD _ _ (by decide)] at v0 v1 v2 v3
      rw [wt_else (by decide), Nat.add_zero] at v0
      rw [wt_else (by decide)] at v1
      rw [wt_here] at v2
      rw [wt_else (by decide)] at v3
      have G10 := Lib.hid (HG.out.later B10.out (Nat.le_refl _))
      clear H10
      go_wp2_with fail
      refine (sure03 w10 G10.out).mono ?_
      rintro e w11 ⟨rfl, b11⟩
      have B11 := Lib.hid (B10.out.trans (b11.mono B10.out.size))
      clear b11
      go_wp2_with fail
      go_ret
      exact ⟨rfl, B11.out⟩
end Go.Proofs.YtnofckhljoghpaaDoor
