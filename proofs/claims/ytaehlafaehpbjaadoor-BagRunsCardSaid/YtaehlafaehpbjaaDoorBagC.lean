/- Layer 20: Put. -/
import Derived.Test.YtaehlafaehpbjaaDoorBagB
import Derived.Deep.RegionLaw
namespace Go.Proofs.YtaehlafaehpbjaaDoor
open Go.RowKit
section
variable {g base : Nat} {M : Int} {A : Option Addr} {n c : Nat} {vs : List (Int × Value)} {l : List (Int × List Nat)}
/-- one item more, appended -/
theorem Bag.more {w w2 w2' w3 : World} (h : Bag w g base M A n c vs l) {A2 A3 : Option Addr} {c2 c3 : Nat} {t : Int} {b : List Nat} (hw : base ≤ w.heap.size) (h2 : Below w.heap.size w w2) (h2' : Below w2.heap.size w2 w2')
    (hbod : Bod w2' base g A (.slice A2 b.length c2) b)
    (hown : Own w3 base 46 2 A3 (n + 1) c3 (its vs ++ [.int .i64 t, .slice A2 b.length c2])) (hg : w2'.grownBy w3 (blk A)) (hA : blk A3 = blk A ∨ blk A3 = some w2'.heap.size) :
    Bag (w3.setCell ⟨g, 1, none⟩ (.slice A3 (n + 1) c3)) g base M A3 (n + 1) c3 (vs ++ [(t, .slice A2 b.length c2)]) (l ++ [(t, b)]) ∧ Kept base g w (w3.setCell ⟨g, 1, none⟩ (.slice A3 (n + 1) c3)) := by
  have hg' : w3.grownBy (w3.setCell ⟨g, 1, none⟩ (.slice A3 (n + 1) c3)) (some g) := grown_set (grown_refl _ _) 1 _
  have s2 := (h.below h2 (Nat.le_refl _)).below h2' (Nat.le_refl _)
  have hz2 := h2.size
  have hz3 := h2'.size
  have hlt := h.blk_.lt
  have far3 : blk A3 ≠ some g := by
    rcases hA with e | e
    · rw [e]; exact h.far
    · rw [e]; intro e2; injection e2 with e2; omega
  have hA' : ∀ k, blk A3 = some k → blk A = some k ∨ w2'.heap.size ≤ k := by
    intro k e
    rcases hA with e2 | e2
    · exact .inl (e2 ▸ e)
    · rw [e2] at e; injection e with e; exact .inr (Nat.le_of_eq e)
  have hvl := h.vlen
  have hlen := h.len
  have bA : ∀ k, blk A = some k → base ≤ k ∧ k < w.heap.size := h.own.lt
  refine ⟨⟨(s2.blk_.grown hg (h.far)).set 1 _, ?_, by simp [hlen], ?_, far3⟩, ?_⟩
  · have e1 : its (vs ++ [(t, .slice A2 b.length c2)]) = its vs ++ [.int .i64 t, .slice A2 b.length c2] := by rw [its_append]; rfl
    rw [e1]
    exact hown.kept hg' (by cases e : blk A3 with
      | none => exact .inl rfl
      | some k => exact .inr (by intro e2; exact far3 (e.trans e2)))
  · intro i p q h1 h3
    by_cases hi : i < n
    · rw [List.getElem?_append_left (by omega)] at h1 h3
      exact ⟨(s2.bod i p q h1 h3).1, Bod.grown (A := A3) ((s2.bod i p q h1 h3).2.grown hg (.inr rfl) hA') hg' (.inl rfl) (fun k e => .inl e)⟩
    · have hi2 : i = n := by
        rcases Nat.lt_or_ge i (n + 1) with h | h
        · omega
        · rw [List.getElem?_eq_none (by simp; omega)] at h3; cases h3
      subst hi2
      rw [List.getElem?_append_right (by omega)] at h1 h3
      rw [hvl, Nat.sub_self] at h1
      rw [hlen, Nat.sub_self] at h3
      simp at h1 h3
      subst h1; subst h3
      exact ⟨rfl, Bod.grown (A := A3) (hbod.grown hg (.inr rfl) hA') hg' (.inl rfl) (fun k e => .inl e)⟩
  · have b1 : Below base w w2 := h2.mono hw
    have b2 : Below base w2 w2' := h2'.mono (by omega)
    have b3 : Below base w2' w3 := ⟨hg.os, hg.tape, hg.output, hg.size, fun k hk => hg.block k (by omega) (fun e => by have := (bA k e.symm).1; omega)⟩
    exact (Kept.of_below ((b1.trans b2).trans b3)).trans (Kept.of_grown hg' (by have := hg.size; omega))
theorem Bag.of_drewN {w : World} {k : Nat} (h : Bag w g base M A n c vs l) : Bag (w.drewN k) g base M A n c vs l := ⟨h.blk_, h.own, h.len, h.bod, h.far⟩
theorem below_drewN (w : World) (n : Nat) : Below w.heap.size w (w.drewN n) := ⟨rfl, rfl, rfl, Nat.le_refl _, fun _ _ => rfl⟩
/-- what Put leaves -/
def Puts (w : World) (g base : Nat) (M : Int) (l : List (Int × List Nat)) (e : Ending) (w' : World) : Prop :=
  e = .returned (.bool true) ∧ IsBag w' g base M l ∧ Kept base g w w'
set_option maxRecDepth 100000 in
theorem bput_full (w : World) (t : Int) (v : Value) (h : Bag w g base M A n c vs l) (hn : M ≤ n) :
    Calls Tryd.prog 5 #[.pointer (some ⟨g, 0, none⟩), .int .i64 t, v] w fun e w' => e = .returned (.bool false) ∧ ∃ k, w' = w.drewN k := by
  have p0 : w.cell? ⟨g, 0, none⟩ = some (.int .i64 M) := h.blk_.cell 0
  have p1 : w.cell? ⟨g, 1, none⟩ = some (.slice A n c) := h.blk_.cell 1
  clear h
  go_enter Tryd.func5, Tryd.ntmps5
  go_wp2
  go_quiet (fail)
  go_wp2
  go_ret
  exact ⟨rfl, nq, rfl⟩
set_option maxRecDepth 100000 in
set_option maxHeartbeats 2000000 in
theorem bput_any (w : World) (t : Int) (h : Bag w g base M A n c vs l) (hn : (n : Int) < M) (hM : M ≤ 4096) (hw : base ≤ w.heap.size)
    (A1 : Option Addr) (c1 : Nat) (b : List Nat) (hb : b.length ≤ 300) (hat : At w A1 (nats .u8 b)) (hz : A1 = none → b.length = 0) :
    Calls Tryd.prog 5 #[.pointer (some ⟨g, 0, none⟩), .int .i64 t, .slice A1 b.length c1] w (Puts w g base M (l ++ [(t, b)])) := by
  have p0 : w.cell? ⟨g, 0, none⟩ = some (.int .i64 M) := h.blk_.cell 0
  have p1 : w.cell? ⟨g, 1, none⟩ = some (.slice A n c) := h.blk_.cell 1
  have d2 : decide (M ≤ (n : Int)) = false := by simp; omega
  have hn2 : n < 4096 := by omega
  have HS := Lib.hid h
  have HA := Lib.hid hat
  have HZ := Lib.hid hz
  clear h hat hz
  go_enter Tryd.func5, Tryd.ntmps5
  go_wp2
  go_quiet (fail)
  go_wp2
  have S1 := HS.out.of_drewN (k := nq)
  have B1 := below_drewN w nq
  have A1' : At (w.drewN nq) A1 (nats .u8 b) := HA.out
  have hsz : w.heap.size = (w.drewN nq).heap.size := rfl
  clear p0 p1 HS HA
  generalize w.drewN nq = w1 at S1 B1 A1' hsz ⊢
  have p1 : w1.cell? ⟨g, 1, none⟩ = some (.slice A n c) := S1.blk_.cell 1
  have ltg : g < w1.heap.size := S1.blk_.lt
  have hw1 : base ≤ w1.heap.size := by omega
  have HS1 := Lib.hid S1
  have HA1 := Lib.hid A1'
  have HB1 := Lib.hid B1
  clear S1 A1' B1
  go_region_law (first
    | ((refine step_app rfl elt_item base (.tmp 25) (.tmp 30) rfl (its vs) rfl ((HS1.out.own.below ((Below.refl _ _).drew.trans hB2) (Nat.le_refl _)).alloc _) [.int .i64 t, .slice A2 b.length c2] rfl (At.lit _ _ _ _ _ rfl) rfl (by intro u hu; simp at hu; rcases hu with rfl | rfl <;> rfl) (by unfold maxLen; omega) (by omega) (by simp; omega) ?_); intro A3 c3 w3 own3 g3 hA3; have H3 := ((HS1.out.blk_.later ((Below.refl _ _).drew.trans hB2) (Nat.le_refl _)).alloc _).grown g3 HS1.out.far; have z1 : w3.cell? ⟨g, 1, none⟩ = some (.slice A n c) := H3.cell 1; have z2 := H3.frozen 1; clear H3)
    | (go_simp; go_at_call 16; refine (clone_any A1 b.length c1 b _ rfl (by omega) (HA1.out.later (Below.refl _ _).drew (Nat.le_refl _)) HZ.out).mono ?_; rintro e w2 ⟨A2, c2, rfl, hat2, hz2, hk2, hB2⟩; have p2' := (hB2.cell (p := ⟨g, 1, none⟩) ltg).trans p1; have hs2 : w1.heap.size ≤ w2.heap.size := hB2.size; have ltg2 : g < w2.heap.size := Nat.lt_of_lt_of_le ltg hs2; have hc2 := Lib.hid hk2; have hd2 := Lib.hid hat2; clear hk2 hat2))
  all_goals
    have B2 : Below w1.heap.size w1 w2 := (Below.refl w1.heap.size w1).drew.trans hB2
    have bod2 : Bod w2 base g A (.slice A2 b.length c2) b := ⟨A2, c2, rfl, hb, hd2.out, hz2, fun k e => by
      have h1 := (hc2.out k e)
      have h2 : w1.heap.size ≤ k := h1.1
      exact ⟨by omega, h1.2, by omega, fun e2 => by have := (HS1.out.own.lt k e2).2; omega⟩⟩
    obtain ⟨R1, R2⟩ := HS1.out.more (w2 := w2) hw1 B2 ((Below.refl _ _).alloc (Nat.le_refl _) _) (bod2.below ((Below.refl _ _).alloc (Nat.le_refl _) _) (Nat.le_refl _)) own3 g3 hA3
    have R1' := Lib.hid R1
    have R2' := Lib.hid R2
    clear R1 R2 bod2
    go_wp2
    go_ret
    exact ⟨rfl, ⟨_, _, _, _, R1'.out⟩, (Kept.of_below (HB1.out.mono hw)).trans R2'.out⟩
end
end Go.Proofs.YtaehlafaehpbjaaDoor
