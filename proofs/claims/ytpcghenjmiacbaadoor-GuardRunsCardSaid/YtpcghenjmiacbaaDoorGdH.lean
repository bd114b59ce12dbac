/- Layer 26: what went out, as an array of 64; a place's list of those asked. -/
import Derived.Test.YtpcghenjmiacbaaDoorGdE
import Derived.Test.YtpcghenjmiacbaaDoorGdF
namespace Go.Proofs.YtpcghenjmiacbaaDoor
open Go.RowKit
theorem RowAt.later {w w' : World} {k : IntKind} {A : Option Addr} {i : Nat} (h : RowAt w k A i) (hb : Below w.heap.size w w') : RowAt w' k A i := by
  obtain ⟨b, o, A', n', c', l', e, hc, hl, hm, ha, hz⟩ := h
  exact ⟨b, o, A', n', c', l', e, (hb.cell (p := ⟨b, o + i, none⟩) (World.block_lt_of_cell? w _ hc)).trans hc, hl, hm, ha.later hb (Nat.le_refl _), hz⟩
def c64 (f : Nat → Int) : Array Value := ((List.range 64).map fun v => Value.int .i64 (f v)).toArray
theorem c64_get (f : Nat → Int) (x : Nat) (hx : x < 64) : (c64 f)[x]? = some (.int .i64 (f x)) := by simp [c64, hx]
theorem c64_congr {f g : Nat → Int} (h : ∀ v, v < 64 → f v = g v) : c64 f = c64 g := by
  unfold c64
  congr 1
  apply List.map_congr_left
  intro v hv
  rw [h v (List.mem_range.1 hv)]
theorem c64_set (f : Nat → Int) (x : Nat) (y : Int) : (c64 f).setIfInBounds x (.int .i64 y) = c64 (fun v => if v = x then y else f v) := by
  unfold c64
  rw [List.setIfInBounds_toArray]
  congr 1
  apply List.ext_getElem
  · simp
  · intro i h1 h2
    simp only [List.getElem_set, List.getElem_map, List.getElem_range]
    by_cases h : x = i
    · subst h; simp
    · rw [if_neg h, if_neg (fun e => h e.symm)]

/-- the guard, and what went out, side by side -/
structure GR (w wr : World) (g p : Nat) (who : List Int) (need : Int) (cur : List Int) (asked : Bool) (Aw : Option Addr) (cw : Nat) (Ac : Option Addr) (cc : Nat) (f : Nat → Int) : Prop where
  gd : Gd wr g who need cur asked Aw cw Ac cc
  out : Holds wr p 30 (c64 f)
  bel : Below w.heap.size w wr
  gs : w.heap.size ≤ g
  pg : g ≠ p
  ps : w.heap.size ≤ p
  fw : blk Aw ≠ some p
  fc : blk Ac ≠ some p
section
variable {w wr w' : World} {g p : Nat} {who cur cur' : List Int} {need : Int} {asked asked' : Bool} {Aw Ac Ac' : Option Addr} {cw cc cc' : Nat} {f f' : Nat → Int}
theorem GR.later (h : GR w wr g p who need cur asked Aw cw Ac cc f) (hb : Below wr.heap.size wr w') : GR w w' g p who need cur asked Aw cw Ac cc f :=
  ⟨h.gd.later hb, h.out.later hb (Nat.le_refl _), h.bel.trans (hb.mono h.bel.size), h.gs, h.pg, h.ps, h.fw, h.fc⟩
theorem GR.ask (h : GR w wr g p who need cur asked Aw cw Ac cc f) (h1 : Gd w' g who need cur' asked' Aw cw Ac' cc') (hg : wr.grownBy w' (some g)) (hf : ∀ k, blk Ac' = some k → blk Ac = some k ∨ wr.heap.size ≤ k) : GR w w' g p who need cur' asked' Aw cw Ac' cc' f :=
  ⟨h1, h.out.grown hg (fun e => h.pg (by injection e)), below_grown h.bel hg h.gs, h.gs, h.pg, h.ps, h.fw, fun e => by
    rcases hf p e with h2 | h2
    · exact h.fc h2
    · have := h.out.lt; omega⟩
theorem Gd.other (h : Gd wr g who need cur asked Aw cw Ac cc) (hg : wr.grownBy w' (some p)) (h1 : g ≠ p) (h2 : blk Aw ≠ some p) (h3 : blk Ac ≠ some p) : Gd w' g who need cur asked Aw cw Ac cc := by
  refine ⟨h.lay.grown hg (fun e => h1 (by injection e with e; exact e.symm)), h.atw.grown hg (.inr h2), h.atc.grown hg (.inr h3), fun k e => ⟨Nat.lt_of_lt_of_le (h.farw k e).1 hg.size, (h.farw k e).2⟩, fun k e => ⟨Nat.lt_of_lt_of_le (h.farc k e).1 hg.size, (h.farc k e).2⟩, h.nilc, h.lenw, h.lenc⟩
theorem GR.set (h : GR w wr g p who need cur asked Aw cw Ac cc f) (x : Nat) (y : Int) (hf : ∀ v, v < 64 → f' v = if v = x then y else f v) : GR w (wr.setCell ⟨p, x, none⟩ (.int .i64 y)) g p who need cur asked Aw cw Ac cc f' := by
  have hg : wr.grownBy (wr.setCell ⟨p, x, none⟩ (.int .i64 y)) (some p) := grown_set (grown_refl _ _) x _
  refine ⟨h.gd.other hg h.pg h.fw h.fc, ?_, below_grown h.bel hg h.ps, h.gs, h.pg, h.ps, h.fw, h.fc⟩
  rw [c64_congr hf, ← c64_set]
  exact h.out.set x _
end
theorem outOf_cases (who cur : List Int) (asked : Bool) (id : Int) : SetM.outOf who cur asked id = 0 ∨ SetM.outOf who cur asked id = 1 ∨ SetM.outOf who cur asked id = 2 := by
  unfold SetM.outOf
  split
  · exact .inl rfl
  · split
    · exact .inr (.inl rfl)
    · exact .inr (.inr rfl)
/-- of those that came their seeds, of the others their keys -/
theorem outOf_came {who l : List Int} {id : Int} (h : SetM.outOf who l true id ≠ 0) : SetM.outOf who l true id = if SetM.has l id then 1 else 2 := by
  unfold SetM.outOf at h ⊢
  by_cases h1 : (true && SetM.has who id) = false
  · rw [if_pos h1] at h; exact absurd rfl h
  · rw [if_neg h1]
/-- what went out goes out again -/
theorem outOf_stays {who cur l : List Int} {need : Int} {asked : Bool} {id : Int} (hk : SetM.askCode who need cur asked l = 0) : SetM.outOf who cur asked id = 0 ∨ SetM.outOf who cur asked id = SetM.outOf who l true id := by
  rcases (code_sub hk).2.2 with h | h
  · subst h; left; simp [SetM.outOf]
  · subst h
    cases asked
    · left; simp [SetM.outOf]
    · exact .inr rfl
end Go.Proofs.YtpcghenjmiacbaaDoor
