/- Layer 13, the document: Take of a number, and of bytes. -/
import Derived.Test.YtlimabhojocimaaDoorFrO
import Derived.Laws.Rows
import Derived.Laws.Tables
import Derived.Laws.CopyOwn
import Derived.Great.Ranges
import Derived.Great.Walk
import Derived.Great.BuildSlice
namespace Go.Proofs.YtlimabhojocimaaDoor
open Go.RowKit
/-- a field's cells -/
def fldC (k : Int) (n : Int) (B : Value) (many : Int) (most : Int) : Array Value := #[.int .u8 k, .int .u64 n, .slice none 0 0, B, .int .u8 0, .int .u8 0, .int .u8 0, .int .u8 0, .int .u8 0, .int .u8 0, .int .u8 0, .int .u8 0, .int .u8 0, .int .u8 0, .int .u8 0, .int .u8 0, .int .u8 0, .int .u8 0, .int .u8 0, .int .u8 0, .int .u8 0, .int .u8 0, .int .u8 0, .int .u8 0, .int .u8 0, .int .u8 0, .int .u8 0, .int .u8 0, .int .u8 0, .int .u8 0, .int .u8 0, .int .u8 0, .int .u8 0, .int .u8 0, .int .u8 0, .int .u8 0, .slice none 0 0, .int .i64 many, .int .u64 most]
theorem fldC_one (k n : Int) (A : Option Addr) (m c : Nat) (many most : Int) : (fldC k n (.slice A m c) many most).all (·.oneCell') = true := by simp [fldC, Value.oneCell']
theorem Holds.row {w : World} {g : Nat} {t : TypeId} {cs : Array Value} (h : Holds w g t cs) (cs' : Array Value) : Holds (w.setRow g cs') g t cs' := setRow_heap w g cs cs' t (0, 0) h
theorem fld_under : Tryd.prog.underlying 62 = some (match Tryd.prog.underlying 62 with | some d => d | none => default) := by kernel_rfl
theorem KPos.bad {l : List Nat} {a : Int} {i : List Nat} {x : Bool} {most : Nat} (h : KPos l a i x) (hb : (x || !rk i most) = true) : rv i most = 0 := by
  rcases h with ⟨_, rfl, _⟩ | ⟨p, _, _, _, rfl⟩
  · rfl
  · have h2 : rk i most = false := by simpa using hb
    unfold rk at h2
    unfold rv
    cases hd : VM.dec i with
    | none => rfl
    | some vk =>
      obtain ⟨v, k⟩ := vk
      rw [hd] at h2
      exact if_neg (by simpa using h2)
theorem results_cell_two {P : Program} {fn : Func} {p q : Tmp} {ty : TypeId} (h : fn.results = #[.cell p ty, .tmp q]) (tmps : Array Value) (w : World) (g : Nat) (t : TypeId) (cs : Array Value) (fr : Nat × Nat) (d : TypeDesc) (u : Value)
    (hp : tmps.getD p undef = .pointer (some ⟨g, 0, none⟩)) (hq : tmps.getD q undef = u) (hg : w.heap[g]? = some (.cells cs t fr))
    (hu : P.underlying ty = some d) (hd : (match d with | .struct _ | .array _ _ => true | _ => false) = true) (hi : (P.info? ty).map (·.size) = some cs.size) :
    (results fn tmps).run P w = .ok (.tuple #[.agg cs, u]) w := by
  have hp' : tmps[p]?.getD undef = .pointer (some ⟨g, 0, none⟩) := by simpa using hp
  have hq' : tmps[q]?.getD undef = u := by simpa using hq
  simp [results, h, hp', hq', asAddr, run_loadVar_row w g t ty cs fr d hg hu hd hi]
set_option maxRecDepth 100000 in
theorem fld_size : (Tryd.prog.info? 62).map (·.size) = some (39 : Nat) := by kernel_rfl
set_option maxRecDepth 100000 in
theorem run_allocF (ρ : Operand → Value) (o : Oper) (w : World) (ho : o.op = .alloc 62) : (execOp ρ o).run Tryd.prog w = .ok (.value (.pointer (some ⟨w.heap.size, 0, none⟩))) (w.alloc (.cells (fldC 0 0 (.slice none 0 0) 0 0) 62)) := by
  unfold execOp
  simp only [ho]
  rfl
set_option maxRecDepth 100000 in
set_option maxHeartbeats 1000000 in
theorem ktake_num (b o n c : Nat) (l : List Nat) (a : Int) (i : List Nat) (x : Bool) (most : Nat) (w : World) (hl : l.length = n) (hn : n ≤ 8294) (hc : n ≤ c) (hc2 : c ≤ 9223372036854775807) (hat : At w (some ⟨b, o, none⟩) (nats .u8 l)) (hb : ∀ y ∈ l, y < 256) (hp : KPos l a i x) :
    Calls Tryd.prog 29 #[.slice (some ⟨b, o, none⟩) n c, .int .i64 a, fldV 0 0 (.slice none 0 0) 0 most] w fun e w' => ∃ a' : Int, e = .returned (.tuple #[fldV 0 (rv i most : Nat) (.slice none 0 0) 0 0, .int .i64 a']) ∧ KPos l a' (rl i most) (x || !rk i most) ∧ Below w.heap.size w w' := by
  have HP := Lib.hid hp
  have HL := Lib.hid hl
  have HAT := Lib.hid hat
  have HBy := Lib.hid hb
  clear hp hl hat hb
  have S5 := Lib.hid (Holds.new w 62 (fldC 0 0 (.slice none 0 0) 0 most) w.heap.size rfl)
  go_enter Tryd.func29, Tryd.ntmps29
  go_upto_region 1 with (first
    | (refine Great.wpList_boxTo rfl 62 (.tmp 2) rfl (some 5) rfl _ rfl (fldC 0 0 (.slice none 0 0) 0 most) rfl ?_)
    | (refine Great.wpList_allocTo rfl (some 6) rfl _ (.cells (fldC 0 0 (.slice none 0 0) 0 0) 62) (run_allocF _ _ _ rfl) ?_))
  have S6 := Lib.hid (Holds.new (w.alloc (.cells (fldC 0 0 (.slice none 0 0) 0 most) 62)) 62 (fldC 0 0 (.slice none 0 0) 0 0) (w.heap.size + 1) (by simp))
  have S5 := Lib.hid (S5.out.alloc (.cells (fldC 0 0 (.slice none 0 0) 0 0) 62))
  have B6 := Lib.hid (((Below.refl w.heap.size w).alloc (Nat.le_refl _) (.cells (fldC 0 0 (.slice none 0 0) 0 most) 62)).alloc (by simp) (.cells (fldC 0 0 (.slice none 0 0) 0 0) 62))
  have Z6 := Lib.hid (show ((w.alloc (.cells (fldC 0 0 (.slice none 0 0) 0 most) 62)).alloc (.cells (fldC 0 0 (.slice none 0 0) 0 0) 62)).heap.size = w.heap.size + 2 from by simp)
  generalize (w.alloc (.cells (fldC 0 0 (.slice none 0 0) 0 most) 62)).alloc (.cells (fldC 0 0 (.slice none 0 0) 0 0) 62) = w6 at *
  have q0 : w6.cell? ⟨w.heap.size, 0, none⟩ = some (.int .u8 0) := S5.out.cell 0
  go_upto_region 2 with (first
    | (refine Great.wpList_allocTo rfl (some 8) rfl _ (.cells (fldC 0 0 (.slice none 0 0) 0 0) 62) (run_allocF _ _ _ rfl) ?_)
    | (refine wpList_buildTo rfl 62 _ rfl (some 19) rfl (fldC 0 0 (.slice none 0 0) 0 0) (by kernel_rfl) ?_)
    | (refine wpList_store_rowTo rfl 62 (.tmp 8) (.tmp 19) rfl rfl w6.heap.size (fldC 0 0 (.slice none 0 0) 0 0) rfl rfl 62 (fldC 0 0 (.slice none 0 0) 0 0) (Holds.new w6 62 (fldC 0 0 (.slice none 0 0) 0 0) w6.heap.size rfl) fld_size rfl (fldC_one _ _ _ _ _ _ _) ?_))
  have S8 := Lib.hid ((Holds.new w6 62 (fldC 0 0 (.slice none 0 0) 0 0) w6.heap.size rfl).row (fldC 0 0 (.slice none 0 0) 0 0))
  have B8 := Lib.hid (below_setRow (B6.out.alloc B6.out.size (.cells (fldC 0 0 (.slice none 0 0) 0 0) 62)) (g := w6.heap.size) B6.out.size (fldC 0 0 (.slice none 0 0) 0 0))
  have N8 := Lib.hid (below_setRow ((Below.refl w6.heap.size w6).alloc (Nat.le_refl _) (.cells (fldC 0 0 (.slice none 0 0) 0 0) 62)) (g := w6.heap.size) (Nat.le_refl _) (fldC 0 0 (.slice none 0 0) 0 0))
  have S5 := Lib.hid (S5.out.later N8.out (Nat.le_refl _))
  have S6 := Lib.hid (S6.out.later N8.out (Nat.le_refl _))
  generalize (w6.alloc (.cells (fldC 0 0 (.slice none 0 0) 0 0) 62)).setRow w6.heap.size (fldC 0 0 (.slice none 0 0) 0 0) = w8 at *
  clear q0 N8 B6
  generalize w6.heap.size = g8 at *
  have q0 : w8.cell? ⟨w.heap.size, 0, none⟩ = some (.int .u8 0) := S5.out.cell 0
  have q1 : w8.cell? ⟨w.heap.size, 38, none⟩ = some (.int .u64 (most : Nat)) := S5.out.cell 38
  have CC := Lib.hid (knum_any b o n c l a i x most w8 HL.out hn hc hc2 (HAT.out.later B8.out (Nat.le_refl _)) HBy.out HP.out)
  go_wp2_with fail
  with_reducible refine CC.out.mono ?_
  rintro e w9 ⟨a', rfl, hk, b9⟩
  have S5 := Lib.hid (S5.out.later b9 (Nat.le_refl _))
  have S6 := Lib.hid (S6.out.later b9 (Nat.le_refl _))
  have S8 := Lib.hid (S8.out.later b9 (Nat.le_refl _))
  have B9 := Lib.hid (B8.out.trans (b9.mono B8.out.size))
  have HK := Lib.hid hk
  clear q0 q1 CC hk b9 B8
  rcases HK.out with ⟨rfl, h2, h3⟩ | ⟨p, rfl, h2, h3, h4⟩
  · have hv := Lib.hid (HP.out.bad h3)
    clear h2 h3
    go_wp2_with (first
      | (refine wpList_load_row rfl 62 (.tmp 8) rfl g8 rfl _ (fldC 0 0 (.slice none 0 0) 0 0) _ _ S8.out fld_under rfl fld_size ?_)
      | (refine wpList_store_rowTo rfl 62 (.tmp 6) (.tmp 41) rfl rfl (w.heap.size + 1) (fldC 0 0 (.slice none 0 0) 0 0) rfl rfl _ (fldC 0 0 (.slice none 0 0) 0 0) S6.out fld_size rfl (fldC_one _ _ _ _ _ _ _) ?_))
    refine bodyPost_ret (v := .tuple #[.agg (fldC 0 0 (.slice none 0 0) 0 0), .int .i64 (-1)]) (results_cell_two Tryd.results29 _ _ (w.heap.size + 1) 62 (fldC 0 0 (.slice none 0 0) 0 0) _ _ _ rfl rfl (S6.out.row (fldC 0 0 (.slice none 0 0) 0 0)) fld_under rfl fld_size) rfl ⟨-1, by rw [hv.out]; rfl, HK.out, below_setRow B9.out (by omega) _⟩
  · have e1 : ((n : Int) - (p : Int)) % 18446744073709551616 = (n : Int) - p := by have := HL.out; omega
    have e2 : (0 : Int) ≤ p := by omega
    have q1 : w9.cell? ⟨g8, 1, none⟩ = some (.int .u64 0) := S8.out.cell 1
    have q2 : w9.frozen? ⟨g8, 1, none⟩ = false := S8.out.frozen 1
    have q0 : w9.cell? ⟨w.heap.size, 0, none⟩ = some (.int .u8 0) := S5.out.cell 0
    have S8 := Lib.hid (show Holds (w9.setCell ⟨g8, 1, none⟩ (.int .u64 (rv i most : Nat))) g8 62 (fldC 0 (rv i most : Nat) (.slice none 0 0) 0 0) from S8.out.set 1 _)
    have S6 := Lib.hid (S6.out.far (p := ⟨g8, 1, none⟩) (by have := Z6.out; simp; omega) (.int .u64 (rv i most : Nat)))
    have B9 := Lib.hid (B9.out.setCell (p := ⟨g8, 1, none⟩) (by have := Z6.out; simp; omega) (.int .u64 (rv i most : Nat)))
    clear h2 h3 h4
    go_wp2_with (first
      | (refine wpList_load_row rfl 62 (.tmp 8) rfl g8 rfl _ (fldC 0 (rv i most : Nat) (.slice none 0 0) 0 0) _ _ S8.out fld_under rfl fld_size ?_)
      | (refine wpList_store_rowTo rfl 62 (.tmp 6) (.tmp 53) rfl rfl (w.heap.size + 1) (fldC 0 (rv i most : Nat) (.slice none 0 0) 0 0) rfl rfl _ (fldC 0 0 (.slice none 0 0) 0 0) S6.out fld_size rfl (fldC_one _ _ _ _ _ _ _) ?_))
    refine bodyPost_ret (v := .tuple #[.agg (fldC 0 (rv i most : Nat) (.slice none 0 0) 0 0), .int .i64 p]) (results_cell_two Tryd.results29 _ _ (w.heap.size + 1) 62 (fldC 0 (rv i most : Nat) (.slice none 0 0) 0 0) _ _ _ rfl rfl (S6.out.row (fldC 0 (rv i most : Nat) (.slice none 0 0) 0 0)) fld_under rfl fld_size) rfl ⟨p, rfl, HK.out, below_setRow B9.out (by omega) _⟩
end Go.Proofs.YtlimabhojocimaaDoor
