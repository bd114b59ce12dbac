/- Layer 2: the walks of package vec: the closures, both, Add, Sub. -/
import Derived.Test.YtmdilfgeogedpaaDoorProg
import Derived.Test.YtmdilfgeogedpaaDoorHolds
import Derived.Test.YtmdilfgeogedpaaDoorVecM
import Derived.Test.YtmdilfgeogedpaaDoorApp
import Derived.Deep.QuietTactic
import Derived.BigQuiet
import Derived.Outline
import Derived.OwnWalk
import Derived.WalkSpells
namespace Go.Proofs.YtmdilfgeogedpaaDoor
open Go.RowKit
set_option maxRecDepth 100000 in
theorem elt_u32 : Elt Tryd.prog 54 61 (.int .u32 0) 1 4 where
  ht := by kernel_rfl
  hi := ⟨_, rfl, by kernel_rfl, by kernel_rfl, by kernel_rfl⟩
  hzs := rfl
  hsz := by decide
theorem At.nat' {w : World} {b o : Nat} {k : IntKind} {l : List Nat} (h : At w (some ⟨b, o, none⟩) (nats k l)) (i : Nat) (hi : i < l.length) : w.cell? ⟨b, o + i, none⟩ = some (.int k ((l.getD i 0 : Nat) : Int)) := by
  obtain ⟨b', o', e, hc⟩ := h.nat i hi
  injection e with e; injection e with e1 e2 e3; subst e1; subst e2
  exact hc
/-- a captured slice: its cell, and what it owns -/
def Cap (w : World) (g : Nat) (xs : List Nat) : Prop := ∃ A c, Holds w g 54 #[.slice A xs.length c] ∧ Own w (g + 1) 61 1 A xs.length c (nats .u32 xs)
theorem Cap.lt {w : World} {g : Nat} {xs : List Nat} (h : Cap w g xs) : g < w.heap.size := by obtain ⟨A, c, h1, _⟩ := h; exact h1.lt
theorem cap_end {w w1 : World} {g : Nat} {t : TypeId} {cs : Array Value} {A A' : Option Addr} {c' m : Nat} {ys : List Nat} {xs : List Value} (hw : g < w.heap.size) (h1 : Holds w1 g 54 #[.slice A m c']) (hb : Below g w w1) {n : Nat} {c : Nat} (ho : Own w1 (g + 1) 61 1 A' n c xs) (hx : xs = nats .u32 ys) (hn : ys.length = n) :
    Cap (w1.setCell ⟨g, 0, none⟩ (.slice A' n c)) g ys ∧ Below g w (w1.setCell ⟨g, 0, none⟩ (.slice A' n c)) := by
  subst hx; subst hn
  have _ := hw; have _ := cs; have _ := t
  refine ⟨⟨A', c, h1.set 0 _, ho.kept (grown_set (grown_refl _ (some g)) 0 _) (.inr ?_)⟩, hb.setCell (Nat.le_refl _) _⟩
  intro e
  have := (ho.lt g e).1
  omega
set_option maxRecDepth 100000 in
set_option maxHeartbeats 1000000 in
theorem addc_any (g : Nat) (x y : Nat) (xs : List Nat) (w : World) (hx : x < 4294967296) (hy : y < 4294967296) (h : Cap w g xs) (hl : xs.length ≤ 100) :
    Calls Tryd.prog 40 #[.int .u32 x, .int .u32 y, .pointer (some ⟨g, 0, none⟩)] w fun e w' => e = .returned (.tuple #[]) ∧ Cap w' g (xs ++ [(x + 1 * y) % 4294967296]) ∧ Below g w w' := by
  have hgl := h.lt
  obtain ⟨A, c, h1, h2⟩ := h
  have hc : w.cell? ⟨g, 0, none⟩ = some (.slice A xs.length c) := h1.cell 0
  have HH := Lib.hid h1
  have O1 := Lib.hid h2
  have HGL := Lib.hid hgl
  clear h1 h2 hgl
  go_enter Tryd.func40, Tryd.ntmps40
  go_wp2_with (at_builtin; refine wpList_app rfl elt_u32 (g + 1) (.tmp 5) (.tmp 9) rfl _ rfl (O1.out.alloc _) _ rfl (At.lit _ _ _ _ _ rfl) rfl (by intro u hu; simp at hu; subst hu; rfl) (by unfold maxLen; omega) (by omega) (by have := HGL.out; simp; omega) ?_; intro A2 c2 w2 own2 g2 _; have H2 := (HH.out.alloc _).grown g2 (by intro e; have := (O1.out.lt g e).1; omega); have B2 := Lib.hid (((Below.refl g w).alloc (Nat.le_of_lt HGL.out) _).grown g2 (by have := HGL.out; simp; omega) (fun k hk => by have := (O1.out.lt k hk).1; omega)); have O2 := Lib.hid own2; have r2 : w2.cell? ⟨g, 0, none⟩ = some (.slice A xs.length c) := H2.cell 0; have f2 := H2.frozen 0; have HH2 := Lib.hid H2; clear own2 g2 H2)
  have E := cap_end (t := 0) (cs := #[]) HGL.out HH2.out B2.out O2.out (ys := xs ++ [(x + 1 * y) % 4294967296]) (by simp [nats]) (by simp)
  exact bodyPost_end (v := .tuple #[]) (by simp [results, Tryd.results40, go_sem]) rfl ⟨rfl, by simpa using E⟩
set_option maxRecDepth 100000 in
set_option maxHeartbeats 1000000 in
theorem subc_any (g : Nat) (x y : Nat) (xs : List Nat) (w : World) (hx : x < 4294967296) (hy : y < 4294967296) (h : Cap w g xs) (hl : xs.length ≤ 100) :
    Calls Tryd.prog 41 #[.int .u32 x, .int .u32 y, .pointer (some ⟨g, 0, none⟩)] w fun e w' => e = .returned (.tuple #[]) ∧ Cap w' g (xs ++ [(x + 4294967295 * y) % 4294967296]) ∧ Below g w w' := by
  have hgl := h.lt
  obtain ⟨A, c, h1, h2⟩ := h
  have hc : w.cell? ⟨g, 0, none⟩ = some (.slice A xs.length c) := h1.cell 0
  have HH := Lib.hid h1
  have O1 := Lib.hid h2
  have HGL := Lib.hid hgl
  clear h1 h2 hgl
  go_enter Tryd.func41, Tryd.ntmps41
  go_wp2_with (at_builtin; refine wpList_app rfl elt_u32 (g + 1) (.tmp 5) (.tmp 9) rfl _ rfl (O1.out.alloc _) _ rfl (At.lit _ _ _ _ _ rfl) rfl (by intro u hu; simp at hu; subst hu; rfl) (by unfold maxLen; omega) (by omega) (by have := HGL.out; simp; omega) ?_; intro A2 c2 w2 own2 g2 _; have H2 := (HH.out.alloc _).grown g2 (by intro e; have := (O1.out.lt g e).1; omega); have B2 := Lib.hid (((Below.refl g w).alloc (Nat.le_of_lt HGL.out) _).grown g2 (by have := HGL.out; simp; omega) (fun k hk => by have := (O1.out.lt k hk).1; omega)); have O2 := Lib.hid own2; have r2 : w2.cell? ⟨g, 0, none⟩ = some (.slice A xs.length c) := H2.cell 0; have f2 := H2.frozen 0; have HH2 := Lib.hid H2; clear own2 g2 H2)
  have E := cap_end (t := 0) (cs := #[]) HGL.out HH2.out B2.out O2.out (ys := xs ++ [(x + 4294967295 * y) % 4294967296]) (by simp [nats]; omega) (by simp)
  exact bodyPost_end (v := .tuple #[]) (by simp [results, Tryd.results41, go_sem]) rfl ⟨rfl, by simpa using E⟩
/-- a row that a call made, and no error -/
def RowE (w : World) (l : List Nat) (e : Ending) (w' : World) : Prop :=
  ∃ A c, e = .returned (.tuple #[.slice A l.length c, .nilIface]) ∧ At w' A (nats .u32 l) ∧ Below w.heap.size w w'
set_option maxRecDepth 100000 in
set_option maxHeartbeats 1000000 in
theorem both_add (A : Option Addr) (n c : Nat) (l : List Nat) (A2 : Option Addr) (n2 c2 : Nat) (l2 : List Nat) (g : Nat) (w0 w : World) (hl : l.length = n) (hl2 : l2.length = n2) (hn : n ≤ 9223372036854775807) (hn2 : n2 ≤ 9223372036854775807) (ha : At w0 A (nats .u32 l)) (ha2 : At w0 A2 (nats .u32 l2)) (hr : ∀ x ∈ l, x < 4294967296) (hr2 : ∀ x ∈ l2, x < 4294967296) (hb : Below g w0 w) (hg : w0.heap.size ≤ g) (hcap : Cap w g []) (h32 : n ≤ 32) (hnn : n = n2) :
    Calls Tryd.prog 39 #[.slice A n c, .slice A2 n2 c2, .func (.func 40) #[] #[.pointer (some ⟨g, 0, none⟩)]] w fun e w' => e = .returned .nilIface ∧ Cap w' g (VE.lin 1 l l2) ∧ Below g w w' := by
  subst hnn
  have HL := Lib.hid hl
  have HL2 := Lib.hid hl2
  have HA := Lib.hid ha
  have HA2 := Lib.hid ha2
  have HR := Lib.hid hr
  have HR2 := Lib.hid hr2
  have HB0 := Lib.hid hb
  have HGG := Lib.hid hg
  have HC := Lib.hid hcap
  clear hl hl2 ha ha2 hr hr2 hb hg hcap
  go_enter Tryd.func39, Tryd.ntmps39
  go_wp2
  go_loopw [22] (fun i wr => ∃ k : Nat, k ≤ n ∧ i = .int .i64 k ∧ Cap wr g ((VE.lin 1 l l2).take k) ∧ Below g w wr) (fun i _ => n - (intOf i).toNat)
  case atStart => exact ⟨0, by omega, rfl, HC.out, Below.refl _ _⟩
  case round =>
    obtain ⟨k, hk, rfl, hcap, hbel⟩ := hrel
    have CK := Lib.hid hcap
    have BK := Lib.hid hbel
    clear hcap hbel
    by_cases hlt : k < n
    · obtain ⟨b, o, rfl, hc⟩ := (HA.out.later ((HB0.out).trans BK.out) HGG.out).nat k (by rw [HL.out]; exact hlt)
      obtain ⟨b2, o2, rfl, hc2⟩ := (HA2.out.later ((HB0.out).trans BK.out) HGG.out).nat k (by rw [HL2.out]; exact hlt)
      have hx : l.getD k 0 < 4294967296 := by rw [getD_lt (by rw [HL.out]; exact hlt)]; exact HR.out _ (List.getElem_mem _)
      have hy : l2.getD k 0 < 4294967296 := by rw [getD_lt (by rw [HL2.out]; exact hlt)]; exact HR2.out _ (List.getElem_mem _)
      have hsn := VE.lin_snoc (k := 1) (m := k) (a := l) (b := l2) (by rw [HL.out]; exact hlt) (by rw [HL2.out]; exact hlt)
      have C := Lib.hid (addc_any g (l.getD k 0) (l2.getD k 0) _ wr hx hy CK.out (by have := List.length_take_le k (VE.lin 1 l l2); omega))
      generalize l.getD k 0 = x at *
      generalize l2.getD k 0 = y at *
      have HSN := Lib.hid hsn
      clear hsn
      go_wp2_with fail
      refine C.out.mono ?_
      rintro e w1 ⟨rfl, hcap, hbel⟩
      have CK1 := Lib.hid hcap
      have BK1 := Lib.hid (BK.out.trans hbel)
      clear hcap hbel C
      go_wp2_with fail
      exact ⟨⟨k + 1, by omega, by simp, by rw [HSN.out]; simpa using CK1.out, BK1.out⟩, by simp only [intOf]; omega⟩
    · obtain rfl : k = n := by omega
      go_wp2
      go_ret
      have e : (VE.lin 1 l l2).take k = VE.lin 1 l l2 := List.take_of_length_le (by rw [VE.lin_length, HL.out]; omega)
      exact ⟨rfl, e ▸ CK.out, BK.out⟩
set_option maxRecDepth 100000 in
theorem both_add_no (A : Option Addr) (n c : Nat) (A2 : Option Addr) (n2 c2 : Nat) (v : Value) (w : World) (hn : n ≤ 9223372036854775807) (hn2 : n2 ≤ 9223372036854775807) (h : 32 < n ∨ n ≠ n2) :
    Calls Tryd.prog 39 #[.slice A n c, .slice A2 n2 c2, v] w fun e w' => e = .returned (.iface 62 (.int .i64 1)) ∧ w = w' := by
  by_cases h32 : 32 < n
  · clear h
    go_enter Tryd.func39, Tryd.ntmps39
    go_wp2
    go_ret
    exact ⟨rfl, rfl⟩
  · have hd : ((n : Int) != (n2 : Int)) = true := by simp; omega
    clear h
    go_enter Tryd.func39, Tryd.ntmps39
    go_wp2
    go_ret
    exact ⟨rfl, rfl⟩
set_option maxRecDepth 100000 in
set_option maxHeartbeats 1000000 in
theorem both_sub (A : Option Addr) (n c : Nat) (l : List Nat) (A2 : Option Addr) (n2 c2 : Nat) (l2 : List Nat) (g : Nat) (w0 w : World) (hl : l.length = n) (hl2 : l2.length = n2) (hn : n ≤ 9223372036854775807) (hn2 : n2 ≤ 9223372036854775807) (ha : At w0 A (nats .u32 l)) (ha2 : At w0 A2 (nats .u32 l2)) (hr : ∀ x ∈ l, x < 4294967296) (hr2 : ∀ x ∈ l2, x < 4294967296) (hb : Below g w0 w) (hg : w0.heap.size ≤ g) (hcap : Cap w g []) (h32 : n ≤ 32) (hnn : n = n2) :
    Calls Tryd.prog 39 #[.slice A n c, .slice A2 n2 c2, .func (.func 41) #[] #[.pointer (some ⟨g, 0, none⟩)]] w fun e w' => e = .returned .nilIface ∧ Cap w' g (VE.lin 4294967295 l l2) ∧ Below g w w' := by
  subst hnn
  have HL := Lib.hid hl
  have HL2 := Lib.hid hl2
  have HA := Lib.hid ha
  have HA2 := Lib.hid ha2
  have HR := Lib.hid hr
  have HR2 := Lib.hid hr2
  have HB0 := Lib.hid hb
  have HGG := Lib.hid hg
  have HC := Lib.hid hcap
  clear hl hl2 ha ha2 hr hr2 hb hg hcap
  go_enter Tryd.func39, Tryd.ntmps39
  go_wp2
  go_loopw [22] (fun i wr => ∃ k : Nat, k ≤ n ∧ i = .int .i64 k ∧ Cap wr g ((VE.lin 4294967295 l l2).take k) ∧ Below g w wr) (fun i _ => n - (intOf i).toNat)
  case atStart => exact ⟨0, by omega, rfl, HC.out, Below.refl _ _⟩
  case round =>
    obtain ⟨k, hk, rfl, hcap, hbel⟩ := hrel
    have CK := Lib.hid hcap
    have BK := Lib.hid hbel
    clear hcap hbel
    by_cases hlt : k < n
    · obtain ⟨b, o, rfl, hc⟩ := (HA.out.later ((HB0.out).trans BK.out) HGG.out).nat k (by rw [HL.out]; exact hlt)
      obtain ⟨b2, o2, rfl, hc2⟩ := (HA2.out.later ((HB0.out).trans BK.out) HGG.out).nat k (by rw [HL2.out]; exact hlt)
      have hx : l.getD k 0 < 4294967296 := by rw [getD_lt (by rw [HL.out]; exact hlt)]; exact HR.out _ (List.getElem_mem _)
      have hy : l2.getD k 0 < 4294967296 := by rw [getD_lt (by rw [HL2.out]; exact hlt)]; exact HR2.out _ (List.getElem_mem _)
      have hsn := VE.lin_snoc (k := 4294967295) (m := k) (a := l) (b := l2) (by rw [HL.out]; exact hlt) (by rw [HL2.out]; exact hlt)
      have C := Lib.hid (subc_any g (l.getD k 0) (l2.getD k 0) _ wr hx hy CK.out (by have := List.length_take_le k (VE.lin 4294967295 l l2); omega))
      generalize l.getD k 0 = x at *
      generalize l2.getD k 0 = y at *
      have HSN := Lib.hid hsn
      clear hsn
      go_wp2_with fail
      refine C.out.mono ?_
      rintro e w1 ⟨rfl, hcap, hbel⟩
      have CK1 := Lib.hid hcap
      have BK1 := Lib.hid (BK.out.trans hbel)
      clear hcap hbel C
      go_wp2_with fail
      exact ⟨⟨k + 1, by omega, by simp, by rw [HSN.out]; simpa using CK1.out, BK1.out⟩, by simp only [intOf]; omega⟩
    · obtain rfl : k = n := by omega
      go_wp2
      go_ret
      have e : (VE.lin 4294967295 l l2).take k = VE.lin 4294967295 l l2 := List.take_of_length_le (by rw [VE.lin_length, HL.out]; omega)
      exact ⟨rfl, e ▸ CK.out, BK.out⟩
set_option maxRecDepth 100000 in
theorem both_sub_no (A : Option Addr) (n c : Nat) (A2 : Option Addr) (n2 c2 : Nat) (v : Value) (w : World) (hn : n ≤ 9223372036854775807) (hn2 : n2 ≤ 9223372036854775807) (h : 32 < n ∨ n ≠ n2) :
    Calls Tryd.prog 39 #[.slice A n c, .slice A2 n2 c2, v] w fun e w' => e = .returned (.iface 62 (.int .i64 1)) ∧ w = w' := by
  by_cases h32 : 32 < n
  · clear h
    go_enter Tryd.func39, Tryd.ntmps39
    go_wp2
    go_ret
    exact ⟨rfl, rfl⟩
  · have hd : ((n : Int) != (n2 : Int)) = true := by simp; omega
    clear h
    go_enter Tryd.func39, Tryd.ntmps39
    go_wp2
    go_ret
    exact ⟨rfl, rfl⟩
set_option maxRecDepth 100000 in
set_option maxHeartbeats 1000000 in
theorem vadd_ok (A : Option Addr) (n c : Nat) (l : List Nat) (A2 : Option Addr) (n2 c2 : Nat) (l2 : List Nat) (w : World) (hl : l.length = n) (hl2 : l2.length = n2) (hn : n ≤ 9223372036854775807) (hn2 : n2 ≤ 9223372036854775807) (ha : At w A (nats .u32 l)) (ha2 : At w A2 (nats .u32 l2)) (hr : ∀ x ∈ l, x < 4294967296) (hr2 : ∀ x ∈ l2, x < 4294967296) (h32 : n ≤ 32) (hnn : n = n2) :
    Calls Tryd.prog 26 #[.slice A n c, .slice A2 n2 c2] w (RowE w (VE.lin 1 l l2)) := by
  have hcap : Cap (w.alloc (.cells #[.slice none 0 0] 54)) w.heap.size [] := ⟨none, 0, Holds.new w _ _ _ rfl, Own.none_ _ _ _ _⟩
  have C := both_add A n c l A2 n2 c2 l2 w.heap.size w (w.alloc (.cells #[.slice none 0 0] 54)) hl hl2 hn hn2 ha ha2 hr hr2 ((Below.refl _ _).alloc (Nat.le_refl _) _) (Nat.le_refl _) hcap h32 hnn
  have HC := Lib.hid C
  clear C hl hl2 ha ha2 hr hr2 hcap hnn
  go_enter Tryd.func26, Tryd.ntmps26
  go_wp2_with fail
  refine HC.out.mono ?_
  rintro e w1 ⟨rfl, ⟨A3, c3, hh, ho⟩, hb⟩
  have hce : w1.cell? ⟨w.heap.size, 0, none⟩ = some (.slice A3 (VE.lin 1 l l2).length c3) := hh.cell 0
  have HHO := Lib.hid ho
  have HBB := Lib.hid (((Below.refl w.heap.size w).alloc (Nat.le_refl _) _).trans hb)
  clear hh ho hb
  go_wp2_with fail
  go_ret2
  exact ⟨A3, c3, rfl, HHO.out.at_, HBB.out⟩
set_option maxRecDepth 100000 in
set_option maxHeartbeats 1000000 in
theorem vadd_no (A : Option Addr) (n c : Nat) (A2 : Option Addr) (n2 c2 : Nat) (w : World) (hn : n ≤ 9223372036854775807) (hn2 : n2 ≤ 9223372036854775807) (h : 32 < n ∨ n ≠ n2) :
    Calls Tryd.prog 26 #[.slice A n c, .slice A2 n2 c2] w fun e w' => e = .returned (.tuple #[.slice none 0 0, .iface 62 (.int .i64 1)]) ∧ Below w.heap.size w w' := by
  have HC := Lib.hid (fun v W => both_add_no A n c A2 n2 c2 v W hn hn2 h)
  clear h
  go_enter Tryd.func26, Tryd.ntmps26
  go_wp2_with fail
  refine (HC.out _ _).mono ?_
  rintro e w' ⟨rfl, rfl⟩
  go_wp2_with fail
  go_ret2
  exact ⟨rfl, (Below.refl _ _).alloc (Nat.le_refl _) _⟩
set_option maxRecDepth 100000 in
set_option maxHeartbeats 1000000 in
theorem vsub_ok (A : Option Addr) (n c : Nat) (l : List Nat) (A2 : Option Addr) (n2 c2 : Nat) (l2 : List Nat) (w : World) (hl : l.length = n) (hl2 : l2.length = n2) (hn : n ≤ 9223372036854775807) (hn2 : n2 ≤ 9223372036854775807) (ha : At w A (nats .u32 l)) (ha2 : At w A2 (nats .u32 l2)) (hr : ∀ x ∈ l, x < 4294967296) (hr2 : ∀ x ∈ l2, x < 4294967296) (h32 : n ≤ 32) (hnn : n = n2) :
    Calls Tryd.prog 28 #[.slice A n c, .slice A2 n2 c2] w (RowE w (VE.lin 4294967295 l l2)) := by
  have hcap : Cap (w.alloc (.cells #[.slice none 0 0] 54)) w.heap.size [] := ⟨none, 0, Holds.new w _ _ _ rfl, Own.none_ _ _ _ _⟩
  have C := both_sub A n c l A2 n2 c2 l2 w.heap.size w (w.alloc (.cells #[.slice none 0 0] 54)) hl hl2 hn hn2 ha ha2 hr hr2 ((Below.refl _ _).alloc (Nat.le_refl _) _) (Nat.le_refl _) hcap h32 hnn
  have HC := Lib.hid C
  clear C hl hl2 ha ha2 hr hr2 hcap hnn
  go_enter Tryd.func28, Tryd.ntmps28
  go_wp2_with fail
  refine HC.out.mono ?_
  rintro e w1 ⟨rfl, ⟨A3, c3, hh, ho⟩, hb⟩
  have hce : w1.cell? ⟨w.heap.size, 0, none⟩ = some (.slice A3 (VE.lin 4294967295 l l2).length c3) := hh.cell 0
  have HHO := Lib.hid ho
  have HBB := Lib.hid (((Below.refl w.heap.size w).alloc (Nat.le_refl _) _).trans hb)
  clear hh ho hb
  go_wp2_with fail
  go_ret2
  exact ⟨A3, c3, rfl, HHO.out.at_, HBB.out⟩
set_option maxRecDepth 100000 in
set_option maxHeartbeats 1000000 in
theorem vsub_no (A : Option Addr) (n c : Nat) (A2 : Option Addr) (n2 c2 : Nat) (w : World) (hn : n ≤ 9223372036854775807) (hn2 : n2 ≤ 9223372036854775807) (h : 32 < n ∨ n ≠ n2) :
    Calls Tryd.prog 28 #[.slice A n c, .slice A2 n2 c2] w fun e w' => e = .returned (.tuple #[.slice none 0 0, .iface 62 (.int .i64 1)]) ∧ Below w.heap.size w w' := by
  have HC := Lib.hid (fun v W => both_sub_no A n c A2 n2 c2 v W hn hn2 h)
  clear h
  go_enter Tryd.func28, Tryd.ntmps28
  go_wp2_with fail
  refine (HC.out _ _).mono ?_
  rintro e w' ⟨rfl, rfl⟩
  go_wp2_with fail
  go_ret2
  exact ⟨rfl, (Below.refl _ _).alloc (Nat.le_refl _) _⟩
end Go.Proofs.YtmdilfgeogedpaaDoor
