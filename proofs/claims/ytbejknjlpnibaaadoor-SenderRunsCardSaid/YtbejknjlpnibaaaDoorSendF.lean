/- Layer 17: Put. -/
import Derived.Test.YtbejknjlpnibaaaDoorSendC
import Derived.Deep.RegionLaw
namespace Go.Proofs.YtbejknjlpnibaaaDoor
open Go.RowKit
section
variable {g base : Nat} {xs : List (Value × List Nat)} {E S : Int} {A : Option Addr} {n c : Nat} {vs : List Value} {l : List (List Nat)} {st lf : Int}
/-- what Put leaves -/
def Puts (w : World) (g base : Nat) (xs : List (Value × List Nat)) (E S : Int) (l : List (List Nat)) (st lf : Int) (e : Ending) (w' : World) : Prop :=
  e = .returned .nilIface ∧ IsSnd w' g base xs E S l st lf ∧ Below base w w'
/-- one value more, appended -/
theorem Snd.more {w w2 w3 : World} (h : Snd w g base xs E S A n c vs l st lf) {A2 A3 : Option Addr} {c2 c3 : Nat} {b : List Nat} (hw : base ≤ w.heap.size) (hb : b.length ≤ 8192) (h2 : Below w.heap.size w w2) (hat : At w2 A2 (nats .u8 b)) (hz : A2 = none → b.length = 0) (hk : ∀ k, blk A2 = some k → w.heap.size ≤ k ∧ k < w2.heap.size)
    {w2' : World} (h2' : Below w2.heap.size w2 w2')
    (hown : Own w3 base 24 1 A3 (n + 1) c3 (vs ++ [.slice A2 b.length c2])) (hg : w2'.grownBy w3 (blk A)) (hA : blk A3 = blk A ∨ blk A3 = some w2'.heap.size) :
    Snd (w3.setCell ⟨g, 2, none⟩ (.slice A3 (n + 1) c3)) g base xs E S A3 (n + 1) c3 (vs ++ [.slice A2 b.length c2]) (l ++ [b]) st lf ∧ Below base w (w3.setCell ⟨g, 2, none⟩ (.slice A3 (n + 1) c3)) := by
  have hg' : w3.grownBy (w3.setCell ⟨g, 2, none⟩ (.slice A3 (n + 1) c3)) (some g) := grown_set (grown_refl _ _) 2 _
  have s2 := (h.below h2 (Nat.le_refl _)).below h2' (Nat.le_refl _)
  have hz2 := h2.size
  have hz3 := h2'.size
  have hlt := h.blk_.lt
  have far3 : blk A3 ≠ some g := by
    rcases hA with e | e
    · rw [e]; exact h.far
    · rw [e]; intro e2; injection e2 with e2; omega
  have hA' : ∀ k, blk A3 = some k → blk A = some k ∨ w2'.heap.size ≤ k := by
    intro k e
    rcases hA with e2 | e2
    · exact .inl (e2 ▸ e)
    · rw [e2] at e; injection e with e; exact .inr (Nat.le_of_eq e)
  have hvl := h.vlen
  have hlen := h.len
  have bA : ∀ k, blk A = some k → base ≤ k ∧ k < w.heap.size := h.own.lt
  refine ⟨⟨?_, ?_, ?_, ?_, far3, h.ge, fun p hp => Bod.grown (A := A3) ((s2.ext p hp).grown hg (.inr rfl) hA') hg' (.inl rfl) (fun k e => .inl e)⟩, ?_⟩
  · exact ((s2.blk_.grown hg (h.far)).set 2 _)
  · exact hown.kept hg' (by cases e : blk A3 with
      | none => exact .inl rfl
      | some k => exact .inr (by intro e2; exact far3 (e.trans e2)))
  · simp [hlen]
  · intro i v d h1 h3
    refine Bod.grown (A := A3) ?_ hg' (.inl rfl) (fun k e => .inl e)
    by_cases hi : i < n
    · rw [List.getElem?_append_left (by omega)] at h1 h3
      exact (s2.bod i v d h1 h3).grown hg (.inr rfl) hA'
    · have hi2 : i = n := by
        rcases Nat.lt_or_ge i (n + 1) with h | h
        · omega
        · rw [List.getElem?_eq_none (by simp; omega)] at h3; cases h3
      subst hi2
      rw [List.getElem?_append_right (by omega)] at h1 h3
      rw [hvl, Nat.sub_self] at h1
      rw [hlen, Nat.sub_self] at h3
      simp at h1 h3
      subst h1; subst h3
      have hat3 : At w2' A2 (nats .u8 b) := hat.later h2' (Nat.le_refl _)
      refine ⟨A2, c2, rfl, hb, hat3.grown hg ?_, hz, fun k e => ?_⟩
      · cases e : blk A2 with
        | none => exact .inl rfl
        | some k => exact .inr (by intro e2; have := (hk k e).1; have := (bA k e2.symm).2; omega)
      · have := hk k e
        have hs := hg.size
        refine ⟨by omega, by omega, by omega, fun e2 => ?_⟩
        rcases hA' k e2 with e3 | e3
        · have := (bA k e3).2; omega
        · omega
  · have b1 : Below base w w2 := h2.mono hw
    have b2 : Below base w2 w2' := h2'.mono (by omega)
    have b3 : Below base w2' w3 := ⟨hg.os, hg.tape, hg.output, hg.size, fun k hk => hg.block k (by omega) (fun e => by have := (bA k e.symm).1; omega)⟩
    exact ((b1.trans b2).trans b3).trans (below_of_grown hg' h.ge (by have := hg.size; omega))
set_option maxRecDepth 100000 in
set_option maxHeartbeats 1000000 in
theorem put_any (w : World) (h : Snd w g base xs E S A n c vs l st lf) (hn : n < 64) (hS : 1 ≤ S ∧ S + n ≤ 1073741824) (hw : base ≤ w.heap.size)
    (A1 : Option Addr) (c1 : Nat) (b : List Nat) (hb : b.length ≤ 8192) (hat : At w A1 (nats .u8 b)) (hz : A1 = none → b.length = 0) :
    Calls Tryd.prog 7 #[.pointer (some ⟨g, 0, none⟩), .slice A1 b.length c1] w (Puts w g base xs E S (l ++ [b]) st lf) := by
  have p1 : w.cell? ⟨g, 1, none⟩ = some (.int .i64 S) := h.blk_.cell 1
  have p2 : w.cell? ⟨g, 2, none⟩ = some (.slice A n c) := h.blk_.cell 2
  have d1 : decide (8192 < (b.length : Int)) = false := by simp; omega
  have d2 : decide (64 ≤ (n : Int)) = false := by simp; omega
  have d3 : decide (1073741824 < S + (n : Int)) = false := by simp; omega
  have hge := h.ge
  have HS := Lib.hid h
  have HA := Lib.hid hat
  have HZ := Lib.hid hz
  clear h hat hz
  go_enter Tryd.func7, Tryd.ntmps7
  go_wp2
  go_quiet (fail)
  go_wp2
  have S1 := HS.out.of_drewN (k := nq)
  have B1 : Below w.heap.size w (w.drewN nq) := ⟨rfl, rfl, rfl, Nat.le_refl _, fun _ _ => rfl⟩
  have A1' : At (w.drewN nq) A1 (nats .u8 b) := HA.out
  have hsz : w.heap.size = (w.drewN nq).heap.size := rfl
  clear p1 p2 HS HA
  generalize w.drewN nq = w1 at S1 B1 A1' hsz ⊢
  have p2 : w1.cell? ⟨g, 2, none⟩ = some (.slice A n c) := S1.blk_.cell 2
  have ltg : g < w1.heap.size := S1.blk_.lt
  have hw1 : base ≤ w1.heap.size := by omega
  have HS1 := Lib.hid S1
  have HA1 := Lib.hid A1'
  have HB1 := Lib.hid B1
  clear S1 A1' B1
  go_region_law (first
    | ((refine step_app rfl elt_sl base (.tmp 39) (.tmp 42) rfl vs rfl ((HS1.out.own.below ((Below.refl _ _).drew.trans hB2) (Nat.le_refl _)).alloc _) [.slice A2 b.length c2] rfl (At.lit _ _ _ _ _ rfl) rfl (by intro u hu; simp at hu; subst hu; rfl) (by unfold maxLen; omega) (by omega) (by simp; omega) ?_); intro A3 c3 w3 own3 g3 hA3; have H3 := ((HS1.out.blk_.later ((Below.refl _ _).drew.trans hB2) (Nat.le_refl _)).alloc _).grown g3 HS1.out.far; have z1 : w3.cell? ⟨g, 2, none⟩ = some (.slice A n c) := H3.cell 2; have z2 := H3.frozen 2; clear H3)
    | (go_simp; go_at_call 20; refine (clone_any A1 b.length c1 b _ rfl (by omega) (HA1.out.later (Below.refl _ _).drew (Nat.le_refl _)) HZ.out).mono ?_; rintro e w2 ⟨A2, c2, rfl, hat2, hz2, hk2, hB2⟩; have p2' := (hB2.cell (p := ⟨g, 2, none⟩) ltg).trans p2; have hs2 : w1.heap.size ≤ w2.heap.size := hB2.size; have ltg2 : g < w2.heap.size := Nat.lt_of_lt_of_le ltg hs2; have hc2 := Lib.hid hk2; have hd2 := Lib.hid hat2; clear hk2 hat2))
  all_goals
    have B2 : Below w1.heap.size w1 w2 := (Below.refl w1.heap.size w1).drew.trans hB2
    obtain ⟨R1, R2⟩ := HS1.out.more (w2 := w2) hw1 hb B2 hd2.out hz2 hc2.out ((Below.refl _ _).alloc (Nat.le_refl _) _) own3 g3 hA3
    have R1' := Lib.hid R1
    have R2' := Lib.hid R2
    clear R1 R2
    go_wp2
    go_ret
    exact ⟨rfl, ⟨_, _, _, _, R1'.out⟩, (HB1.out.mono hw).trans R2'.out⟩
end
end Go.Proofs.YtbejknjlpnibaaaDoor
