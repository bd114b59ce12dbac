/- Layer 13, the document: Take of a number, and of bytes. Layer 13, the document: Take of bytes. Layer 14, the document: Decode's short ends. -/
import Derived.Test.YtodimanghmepoaaDoorLfE
import Derived.Laws.Rows
import Derived.Laws.Tables
import Derived.Laws.CopyOwn
import Derived.Great.Ranges
import Derived.Great.Walk
import Derived.Great.BuildSlice
namespace Go.Proofs.YtodimanghmepoaaDoor
open Go.RowKit
/-- a field's cells -/
def fldC (k : Int) (n : Int) (B : Value) (many : Int) (most : Int) : Array Value := #[.int .u8 k, .int .u64 n, .slice none 0 0, B, .int .u8 0, .int .u8 0, .int .u8 0, .int .u8 0, .int .u8 0, .int .u8 0, .int .u8 0, .int .u8 0, .int .u8 0, .int .u8 0, .int .u8 0, .int .u8 0, .int .u8 0, .int .u8 0, .int .u8 0, .int .u8 0, .int .u8 0, .int .u8 0, .int .u8 0, .int .u8 0, .int .u8 0, .int .u8 0, .int .u8 0, .int .u8 0, .int .u8 0, .int .u8 0, .int .u8 0, .int .u8 0, .int .u8 0, .int .u8 0, .int .u8 0, .int .u8 0, .slice none 0 0, .int .i64 many, .int .u64 most]
theorem fldC_one (k n : Int) (A : Option Addr) (m c : Nat) (many most : Int) : (fldC k n (.slice A m c) many most).all (·.oneCell') = true := by simp [fldC, Value.oneCell']
theorem Holds.row {w : World} {g : Nat} {t : TypeId} {cs : Array Value} (h : Holds w g t cs) (cs' : Array Value) : Holds (w.setRow g cs') g t cs' := setRow_heap w g cs cs' t (0, 0) h
theorem fld_under : Tryd.prog.underlying 100 = some (match Tryd.prog.underlying 100 with | some d => d | none => default) := by kernel_rfl
theorem KPos.bad {l : List Nat} {a : Int} {i : List Nat} {x : Bool} {most : Nat} (h : KPos l a i x) (hb : (x || !rk i most) = true) : rv i most = 0 := by
  rcases h with ⟨_, rfl, _⟩ | ⟨p, _, _, _, rfl⟩
  · rfl
  · have h2 : rk i most = false := by simpa using hb
    unfold rk at h2
    unfold rv
    cases hd : VM.dec i with
    | none => rfl
    | some vk =>
      obtain ⟨v, k⟩ := vk
      rw [hd] at h2
      exact if_neg (by simpa using h2)
theorem results_cell_two {P : Program} {fn : Func} {p q : Tmp} {ty : TypeId} (h : fn.results = #[.cell p ty, .tmp q]) (tmps : Array Value) (w : World) (g : Nat) (t : TypeId) (cs : Array Value) (fr : Nat × Nat) (d : TypeDesc) (u : Value)
    (hp : tmps.getD p undef = .pointer (some ⟨g, 0, none⟩)) (hq : tmps.getD q undef = u) (hg : w.heap[g]? = some (.cells cs t fr))
    (hu : P.underlying ty = some d) (hd : (match d with | .struct _ | .array _ _ => true | _ => false) = true) (hi : (P.info? ty).map (·.size) = some cs.size) :
    (results fn tmps).run P w = .ok (.tuple #[.agg cs, u]) w := by
  have hp' : tmps[p]?.getD undef = .pointer (some ⟨g, 0, none⟩) := by simpa using hp
  have hq' : tmps[q]?.getD undef = u := by simpa using hq
  simp [results, h, hp', hq', asAddr, run_loadVar_row w g t ty cs fr d hg hu hd hi]
set_option maxRecDepth 100000 in
theorem fld_size : (Tryd.prog.info? 100).map (·.size) = some (39 : Nat) := by kernel_rfl
set_option maxRecDepth 100000 in
theorem run_allocF (ρ : Operand → Value) (o : Oper) (w : World) (ho : o.op = .alloc 100) : (execOp ρ o).run Tryd.prog w = .ok (.value (.pointer (some ⟨w.heap.size, 0, none⟩))) (w.alloc (.cells (fldC 0 0 (.slice none 0 0) 0 0) 100)) := by
  unfold execOp
  simp only [ho]
  rfl
set_option maxRecDepth 100000 in
set_option maxHeartbeats 1000000 in
theorem ktake_num (b o n c : Nat) (l : List Nat) (a : Int) (i : List Nat) (x : Bool) (most : Nat) (w : World) (hl : l.length = n) (hn : n ≤ 8294) (hc : n ≤ c) (hc2 : c ≤ 9223372036854775807) (hat : At w (some ⟨b, o, none⟩) (nats .u8 l)) (hb : ∀ y ∈ l, y < 256) (hp : KPos l a i x) :
    Calls Tryd.prog 58 #[.slice (some ⟨b, o, none⟩) n c, .int .i64 a, fldV 0 0 (.slice none 0 0) 0 most] w fun e w' => ∃ a' : Int, e = .returned (.tuple #[fldV 0 (rv i most : Nat) (.slice none 0 0) 0 0, .int .i64 a']) ∧ KPos l a' (rl i most) (x || !rk i most) ∧ Below w.heap.size w w' := by
  have HP := Lib.hid hp
  have HL := Lib.hid hl
  have HAT := Lib.hid hat
  have HBy := Lib.hid hb
  clear hp hl hat hb
  have S5 := Lib.hid (Holds.new w 100 (fldC 0 0 (.slice none 0 0) 0 most) w.heap.size rfl)
  go_enter Tryd.func58, Tryd.ntmps58
  go_upto_region 1 with (first
    | (refine Great.wpList_boxTo rfl 100 (.tmp 2) rfl (some 5) rfl _ rfl (fldC 0 0 (.slice none 0 0) 0 most) rfl ?_)
    | (refine Great.wpList_allocTo rfl (some 6) rfl _ (.cells (fldC 0 0 (.slice none 0 0) 0 0) 100) (run_allocF _ _ _ rfl) ?_))
  have S6 := Lib.hid (Holds.new (w.alloc (.cells (fldC 0 0 (.slice none 0 0) 0 most) 100)) 100 (fldC 0 0 (.slice none 0 0) 0 0) (w.heap.size + 1) (by simp))
  have S5 := Lib.hid (S5.out.alloc (.cells (fldC 0 0 (.slice none 0 0) 0 0) 100))
  have B6 := Lib.hid (((Below.refl w.heap.size w).alloc (Nat.le_refl _) (.cells (fldC 0 0 (.slice none 0 0) 0 most) 100)).alloc (by simp) (.cells (fldC 0 0 (.slice none 0 0) 0 0) 100))
  have Z6 := Lib.hid (show ((w.alloc (.cells (fldC 0 0 (.slice none 0 0) 0 most) 100)).alloc (.cells (fldC 0 0 (.slice none 0 0) 0 0) 100)).heap.size = w.heap.size + 2 from by simp)
  generalize (w.alloc (.cells (fldC 0 0 (.slice none 0 0) 0 most) 100)).alloc (.cells (fldC 0 0 (.slice none 0 0) 0 0) 100) = w6 at *
  have q0 : w6.cell? ⟨w.heap.size, 0, none⟩ = some (.int .u8 0) := S5.out.cell 0
  go_upto_region 2 with (first
    | (refine Great.wpList_allocTo rfl (some 8) rfl _ (.cells (fldC 0 0 (.slice none 0 0) 0 0) 100) (run_allocF _ _ _ rfl) ?_)
    | (refine wpList_buildTo rfl 100 _ rfl (some 19) rfl (fldC 0 0 (.slice none 0 0) 0 0) (by kernel_rfl) ?_)
    | (refine wpList_store_rowTo rfl 100 (.tmp 8) (.tmp 19) rfl rfl w6.heap.size (fldC 0 0 (.slice none 0 0) 0 0) rfl rfl 100 (fldC 0 0 (.slice none 0 0) 0 0) (Holds.new w6 100 (fldC 0 0 (.slice none 0 0) 0 0) w6.heap.size rfl) fld_size rfl (fldC_one _ _ _ _ _ _ _) ?_))
  have S8 := Lib.hid ((Holds.new w6 100 (fldC 0 0 (.slice none 0 0) 0 0) w6.heap.size rfl).row (fldC 0 0 (.slice none 0 0) 0 0))
  have B8 := Lib.hid (below_setRow (B6.out.alloc B6.out.size (.cells (fldC 0 0 (.slice none 0 0) 0 0) 100)) (g := w6.heap.size) B6.out.size (fldC 0 0 (.slice none 0 0) 0 0))
  have N8 := Lib.hid (below_setRow ((Below.refl w6.heap.size w6).alloc (Nat.le_refl _) (.cells (fldC 0 0 (.slice none 0 0) 0 0) 100)) (g := w6.heap.size) (Nat.le_refl _) (fldC 0 0 (.slice none 0 0) 0 0))
  have S5 := Lib.hid (S5.out.later N8.out (Nat.le_refl _))
  have S6 := Lib.hid (S6.out.later N8.out (Nat.le_refl _))
  generalize (w6.alloc (.cells (fldC 0 0 (.slice none 0 0) 0 0) 100)).setRow w6.heap.size (fldC 0 0 (.slice none 0 0) 0 0) = w8 at *
  clear q0 N8 B6
  generalize w6.heap.size = g8 at *
  have q0 : w8.cell? ⟨w.heap.size, 0, none⟩ = some (.int .u8 0) := S5.out.cell 0
  have q1 : w8.cell? ⟨w.heap.size, 38, none⟩ = some (.int .u64 (most : Nat)) := S5.out.cell 38
  have CC := Lib.hid (knum_any b o n c l a i x most w8 HL.out hn hc hc2 (HAT.out.later B8.out (Nat.le_refl _)) HBy.out HP.out)
  go_wp2_with fail
  with_reducible refine CC.out.mono ?_
  rintro e w9 ⟨a', rfl, hk, b9⟩
  have S5 := Lib.hid (S5.out.later b9 (Nat.le_refl _))
  have S6 := Lib.hid (S6.out.later b9 (Nat.le_refl _))
  have S8 := Lib.hid (S8.out.later b9 (Nat.le_refl _))
  have B9 := Lib.hid (B8.out.trans (b9.mono B8.out.size))
  have HK := Lib.hid hk
  clear q0 q1 CC hk b9 B8
  rcases HK.out with ⟨rfl, h2, h3⟩ | ⟨p, rfl, h2, h3, h4⟩
  · have hv := Lib.hid (HP.out.bad h3)
    clear h2 h3
    go_wp2_with (first
      | (refine wpList_load_row rfl 100 (.tmp 8) rfl g8 rfl _ (fldC 0 0 (.slice none 0 0) 0 0) _ _ S8.out fld_under rfl fld_size ?_)
      | (refine wpList_store_rowTo rfl 100 (.tmp 6) (.tmp 41) rfl rfl (w.heap.size + 1) (fldC 0 0 (.slice none 0 0) 0 0) rfl rfl _ (fldC 0 0 (.slice none 0 0) 0 0) S6.out fld_size rfl (fldC_one _ _ _ _ _ _ _) ?_))
    refine bodyPost_ret (v := .tuple #[.agg (fldC 0 0 (.slice none 0 0) 0 0), .int .i64 (-1)]) (results_cell_two Tryd.results58 _ _ (w.heap.size + 1) 100 (fldC 0 0 (.slice none 0 0) 0 0) _ _ _ rfl rfl (S6.out.row (fldC 0 0 (.slice none 0 0) 0 0)) fld_under rfl fld_size) rfl ⟨-1, by rw [hv.out]; rfl, HK.out, below_setRow B9.out (by omega) _⟩
  · have e1 : ((n : Int) - (p : Int)) % 18446744073709551616 = (n : Int) - p := by have := HL.out; omega
    have e2 : (0 : Int) ≤ p := by omega
    have q1 : w9.cell? ⟨g8, 1, none⟩ = some (.int .u64 0) := S8.out.cell 1
    have q2 : w9.frozen? ⟨g8, 1, none⟩ = false := S8.out.frozen 1
    have q0 : w9.cell? ⟨w.heap.size, 0, none⟩ = some (.int .u8 0) := S5.out.cell 0
    have S8 := Lib.hid (show Holds (w9.setCell ⟨g8, 1, none⟩ (.int .u64 (rv i most : Nat))) g8 100 (fldC 0 (rv i most : Nat) (.slice none 0 0) 0 0) from S8.out.set 1 _)
    have S6 := Lib.hid (S6.out.far (p := ⟨g8, 1, none⟩) (by have := Z6.out; simp; omega) (.int .u64 (rv i most : Nat)))
    have B9 := Lib.hid (B9.out.setCell (p := ⟨g8, 1, none⟩) (by have := Z6.out; simp; omega) (.int .u64 (rv i most : Nat)))
    clear h2 h3 h4
    go_wp2_with (first
      | (refine wpList_load_row rfl 100 (.tmp 8) rfl g8 rfl _ (fldC 0 (rv i most : Nat) (.slice none 0 0) 0 0) _ _ S8.out fld_under rfl fld_size ?_)
      | (refine wpList_store_rowTo rfl 100 (.tmp 6) (.tmp 53) rfl rfl (w.heap.size + 1) (fldC 0 (rv i most : Nat) (.slice none 0 0) 0 0) rfl rfl _ (fldC 0 0 (.slice none 0 0) 0 0) S6.out fld_size rfl (fldC_one _ _ _ _ _ _ _) ?_))
    refine bodyPost_ret (v := .tuple #[.agg (fldC 0 (rv i most : Nat) (.slice none 0 0) 0 0), .int .i64 p]) (results_cell_two Tryd.results58 _ _ (w.heap.size + 1) 100 (fldC 0 (rv i most : Nat) (.slice none 0 0) 0 0) _ _ _ rfl rfl (S6.out.row (fldC 0 (rv i most : Nat) (.slice none 0 0) 0 0)) fld_under rfl fld_size) rfl ⟨p, rfl, HK.out, below_setRow B9.out (by omega) _⟩
end Go.Proofs.YtodimanghmepoaaDoor
namespace Go.Proofs.YtodimanghmepoaaDoor
open Go.RowKit
theorem KPos.nobk {l : List Nat} {a : Int} {i : List Nat} {x : Bool} (h : KPos l a i x) (hb : (x || !rk i 8192) = true) : bk i = false := by
  rcases h with ⟨_, rfl, _⟩ | ⟨p, _, _, _, rfl⟩
  · rfl
  · have h2 : rk i 8192 = false := by simpa using hb
    unfold bk
    rw [h2, Bool.false_and]
theorem bb_no {i : List Nat} (h : bk i = false) : bb i = [] := by unfold bb; rw [h]; rfl
theorem br_no {i : List Nat} (h : bk i = false) : br i = [] := by unfold br; rw [h]; rfl
def TkE (w : World) (l i : List Nat) (x : Bool) (e : Ending) (w' : World) : Prop :=
  ∃ (a' : Int) (A' : Option Addr) (c' : Nat), e = .returned (.tuple #[fldV 2 0 (.slice A' (bb i).length c') 0 0, .int .i64 a']) ∧ At w' A' (nats .u8 (bb i)) ∧ KPos l a' (br i) (x || !bk i) ∧ Below w.heap.size w w'
theorem tke_no {w w' : World} {l i : List Nat} {x : Bool} (h : bk i = false) (hb : Below w.heap.size w w') : TkE w l i x (.returned (.tuple #[.agg (fldC 2 0 (.slice none 0 0) 0 0), .int .i64 (-1)])) w' :=
  ⟨-1, none, 0, by rw [bb_no h]; rfl, by rw [bb_no h]; exact At.nil _ _, .inl ⟨rfl, br_no h, by rw [h]; simp⟩, hb⟩
set_option maxRecDepth 100000 in
set_option maxHeartbeats 1000000 in
theorem ktake_bytes (b o n c : Nat) (l : List Nat) (a : Int) (i : List Nat) (x : Bool) (w : World) (hl : l.length = n) (hn : n ≤ 8294) (hc : n ≤ c) (hc2 : c ≤ 9223372036854775807) (hat : At w (some ⟨b, o, none⟩) (nats .u8 l)) (hb : ∀ y ∈ l, y < 256) (hp : KPos l a i x) :
    Calls Tryd.prog 58 #[.slice (some ⟨b, o, none⟩) n c, .int .i64 a, fldV 2 0 (.slice none 0 0) 8192 0] w (TkE w l i x) := by
  have HP := Lib.hid hp
  have HL := Lib.hid hl
  have HAT := Lib.hid hat
  have HBy := Lib.hid hb
  clear hp hl hat hb
  have S5 := Lib.hid (Holds.new w 100 (fldC 2 0 (.slice none 0 0) 8192 0) w.heap.size rfl)
  go_enter Tryd.func58, Tryd.ntmps58
  go_upto_region 1 with (first
    | (refine Great.wpList_boxTo rfl 100 (.tmp 2) rfl (some 5) rfl _ rfl (fldC 2 0 (.slice none 0 0) 8192 0) rfl ?_)
    | (refine Great.wpList_allocTo rfl (some 6) rfl _ (.cells (fldC 0 0 (.slice none 0 0) 0 0) 100) (run_allocF _ _ _ rfl) ?_))
  have S6 := Lib.hid (Holds.new (w.alloc (.cells (fldC 2 0 (.slice none 0 0) 8192 0) 100)) 100 (fldC 0 0 (.slice none 0 0) 0 0) (w.heap.size + 1) (by simp))
  have S5 := Lib.hid (S5.out.alloc (.cells (fldC 0 0 (.slice none 0 0) 0 0) 100))
  have B6 := Lib.hid (((Below.refl w.heap.size w).alloc (Nat.le_refl _) (.cells (fldC 2 0 (.slice none 0 0) 8192 0) 100)).alloc (by simp) (.cells (fldC 0 0 (.slice none 0 0) 0 0) 100))
  have Z6 := Lib.hid (show ((w.alloc (.cells (fldC 2 0 (.slice none 0 0) 8192 0) 100)).alloc (.cells (fldC 0 0 (.slice none 0 0) 0 0) 100)).heap.size = w.heap.size + 2 from by simp)
  generalize (w.alloc (.cells (fldC 2 0 (.slice none 0 0) 8192 0) 100)).alloc (.cells (fldC 0 0 (.slice none 0 0) 0 0) 100) = w6 at *
  have q0 : w6.cell? ⟨w.heap.size, 0, none⟩ = some (.int .u8 2) := S5.out.cell 0
  go_upto_region 2 with (first
    | (refine Great.wpList_allocTo rfl (some 8) rfl _ (.cells (fldC 0 0 (.slice none 0 0) 0 0) 100) (run_allocF _ _ _ rfl) ?_)
    | (refine wpList_buildTo rfl 100 _ rfl (some 19) rfl (fldC 2 0 (.slice none 0 0) 0 0) (by kernel_rfl) ?_)
    | (refine wpList_store_rowTo rfl 100 (.tmp 8) (.tmp 19) rfl rfl w6.heap.size (fldC 2 0 (.slice none 0 0) 0 0) rfl rfl 100 (fldC 0 0 (.slice none 0 0) 0 0) (Holds.new w6 100 (fldC 0 0 (.slice none 0 0) 0 0) w6.heap.size rfl) fld_size rfl (fldC_one _ _ _ _ _ _ _) ?_))
  have S8 := Lib.hid ((Holds.new w6 100 (fldC 0 0 (.slice none 0 0) 0 0) w6.heap.size rfl).row (fldC 2 0 (.slice none 0 0) 0 0))
  have B8 := Lib.hid (below_setRow (B6.out.alloc B6.out.size (.cells (fldC 0 0 (.slice none 0 0) 0 0) 100)) (g := w6.heap.size) B6.out.size (fldC 2 0 (.slice none 0 0) 0 0))
  have N8 := Lib.hid (below_setRow ((Below.refl w6.heap.size w6).alloc (Nat.le_refl _) (.cells (fldC 0 0 (.slice none 0 0) 0 0) 100)) (g := w6.heap.size) (Nat.le_refl _) (fldC 2 0 (.slice none 0 0) 0 0))
  have S5 := Lib.hid (S5.out.later N8.out (Nat.le_refl _))
  have S6 := Lib.hid (S6.out.later N8.out (Nat.le_refl _))
  generalize (w6.alloc (.cells (fldC 0 0 (.slice none 0 0) 0 0) 100)).setRow w6.heap.size (fldC 2 0 (.slice none 0 0) 0 0) = w8 at *
  clear q0 N8 B6
  generalize w6.heap.size = g8 at *
  have q0 : w8.cell? ⟨w.heap.size, 0, none⟩ = some (.int .u8 2) := S5.out.cell 0
  have q1 : w8.cell? ⟨w.heap.size, 38, none⟩ = some (.int .u64 0) := S5.out.cell 38
  have q2 : w8.cell? ⟨w.heap.size, 37, none⟩ = some (.int .i64 8192) := S5.out.cell 37
  have CC := knum_any b o n c l a i x 8192 w8 HL.out hn hc hc2 (HAT.out.later B8.out (Nat.le_refl _)) HBy.out HP.out
  obtain ⟨v, hv⟩ : ∃ v, rv i 8192 = v := ⟨_, rfl⟩
  have hvl : v ≤ 8192 := by rw [← hv]; exact rv_le i 8192
  rw [hv, show ((8192 : Nat) : Int) = 8192 from rfl] at CC
  have HV := Lib.hid hv
  have CC := Lib.hid CC
  clear hv
  go_wp2_with fail
  rw [show (max 0 8192 : Int) = 8192 from rfl]
  with_reducible refine CC.out.mono ?_
  rintro e w9 ⟨a', rfl, hk, b9⟩
  have S5 := Lib.hid (S5.out.later b9 (Nat.le_refl _))
  have S6 := Lib.hid (S6.out.later b9 (Nat.le_refl _))
  have S8 := Lib.hid (S8.out.later b9 (Nat.le_refl _))
  have B9 := Lib.hid (B8.out.trans (b9.mono B8.out.size))
  have T9 := Lib.hid (HAT.out.later B9.out (Nat.le_refl _))
  have HK := Lib.hid hk
  clear q0 q1 q2 CC hk b9 B8
  rcases HK.out with ⟨rfl, h2, h3⟩ | ⟨p, rfl, h2, h3, h4⟩
  · have hv := Lib.hid (HP.out.nobk h3)
    clear h2 h3
    go_wp2_with (first
      | (refine wpList_load_row rfl 100 (.tmp 8) rfl g8 rfl _ (fldC 2 0 (.slice none 0 0) 0 0) _ _ S8.out fld_under rfl fld_size ?_)
      | (refine wpList_store_rowTo rfl 100 (.tmp 6) (.tmp 41) rfl rfl (w.heap.size + 1) (fldC 2 0 (.slice none 0 0) 0 0) rfl rfl _ (fldC 0 0 (.slice none 0 0) 0 0) S6.out fld_size rfl (fldC_one _ _ _ _ _ _ _) ?_))
    exact bodyPost_ret (v := .tuple #[.agg (fldC 2 0 (.slice none 0 0) 0 0), .int .i64 (-1)]) (results_cell_two Tryd.results58 _ _ (w.heap.size + 1) 100 (fldC 2 0 (.slice none 0 0) 0 0) _ _ _ rfl rfl (S6.out.row (fldC 2 0 (.slice none 0 0) 0 0)) fld_under rfl fld_size) rfl (tke_no hv.out (below_setRow B9.out (by omega) _))
  · have q0 : w9.cell? ⟨w.heap.size, 0, none⟩ = some (.int .u8 2) := S5.out.cell 0
    have hpn : p ≤ n := by rw [← HL.out]; exact h2
    have H3 := Lib.hid h3
    have H4 := Lib.hid h4
    have e1 : ((n : Int) - (p : Int)) % 18446744073709551616 = (n : Int) - p := by omega
    have e2 : (0 : Int) ≤ p := by omega
    clear h2 h3 h4
    have hrk : rk i 8192 = true := by have := H4.out; simp at this; exact this.2
    have hx : x = false := by have := H4.out; simp at this; exact this.1
    by_cases hvn : v ≤ n - p
    · have HBK := Lib.hid (show bk i = true from by unfold bk; rw [hrk, HV.out, H3.out, List.length_drop, HL.out]; simp; exact hvn)
      have q1 : w9.cell? ⟨g8, 3, none⟩ = some (.slice none 0 0) := S8.out.cell 3
      have q2 : w9.frozen? ⟨g8, 3, none⟩ = false := S8.out.frozen 3
      have d1 : decide ((n : Int) - p < v) = false := decide_eq_false (by omega)
      have d2 : (p : Int) ≤ (p : Int) + v := by omega
      have d3 : (p : Int) + v ≤ c := by omega
      have d4 : p + v ≤ c := by omega
      have HX := Lib.hid hx
      clear hx hrk
      go_upto_region 29 with fail
      obtain ⟨Ap, hAp⟩ : ∃ Ap, (if c = p then (some ⟨b, o, none⟩ : Option Addr) else some ⟨b, o + p, none⟩) = Ap := ⟨_, rfl⟩
      rw [hAp]
      have HAP := Lib.hid hAp
      clear hAp
      have S8 := Lib.hid (show Holds (w9.setCell ⟨g8, 3, none⟩ (.slice Ap v (c - p))) g8 100 (fldC 2 0 (.slice Ap v (c - p)) 0 0) from S8.out.set 3 _)
      have S6 := Lib.hid (S6.out.far (p := ⟨g8, 3, none⟩) (by have := Z6.out; simp; omega) (.slice Ap v (c - p)))
      have B9 := Lib.hid (B9.out.setCell (p := ⟨g8, 3, none⟩) (by have := Z6.out; simp; omega) (.slice Ap v (c - p)))
      go_wp2_with (first
        | (refine wpList_load_row rfl 100 (.tmp 8) rfl g8 rfl _ (fldC 2 0 (.slice Ap v (c - p)) 0 0) _ _ S8.out fld_under rfl fld_size ?_)
        | (refine wpList_store_rowTo rfl 100 (.tmp 6) (.tmp 99) rfl rfl (w.heap.size + 1) (fldC 2 0 (.slice Ap v (c - p)) 0 0) rfl rfl _ (fldC 0 0 (.slice none 0 0) 0 0) S6.out fld_size rfl (fldC_one _ _ _ _ _ _ _) ?_))
      refine bodyPost_ret (v := .tuple #[.agg (fldC 2 0 (.slice Ap v (c - p)) 0 0), .int .i64 ((p : Int) + v)]) (results_cell_two Tryd.results58 _ _ (w.heap.size + 1) 100 (fldC 2 0 (.slice Ap v (c - p)) 0 0) _ _ _ rfl rfl (S6.out.row (fldC 2 0 (.slice Ap v (c - p)) 0 0)) fld_under rfl fld_size) rfl ?_
      have BF := below_setRow B9.out (g := w.heap.size + 1) (by omega) (fldC 2 0 (.slice Ap v (c - p)) 0 0)
      have eb : bb i = (l.drop p).take v := by unfold bb; rw [HBK.out, H3.out, HV.out]; rfl
      have er : br i = l.drop (p + v) := by unfold br; rw [HBK.out, H3.out, HV.out]; simp
      have el : (bb i).length = v := by rw [eb, List.length_take, List.length_drop, HL.out]; omega
      refine ⟨(p + v : Nat), Ap, c - p, by rw [el]; rfl, ?_, ?_, BF⟩
      · have := at_cut (k := p) rfl (HAT.out.later BF (Nat.le_refl _)) (by rw [HL.out]; exact hc)
        rw [HAP.out] at this
        rw [eb, nats_take]
        exact this.take
      · exact .inr ⟨p + v, rfl, by rw [HL.out]; omega, er, by rw [HX.out, HBK.out]; rfl⟩
    · have HBK := Lib.hid (show bk i = false from by unfold bk; rw [hrk, HV.out, H3.out, List.length_drop, HL.out]; simp; omega)
      have d1 : decide ((n : Int) - p < v) = true := decide_eq_true (by omega)
      clear hx hrk
      go_wp2_with (first
        | (refine wpList_load_row rfl 100 (.tmp 8) rfl g8 rfl _ (fldC 2 0 (.slice none 0 0) 0 0) _ _ S8.out fld_under rfl fld_size ?_)
        | (refine wpList_store_rowTo rfl 100 (.tmp 6) (.tmp 90) rfl rfl (w.heap.size + 1) (fldC 2 0 (.slice none 0 0) 0 0) rfl rfl _ (fldC 0 0 (.slice none 0 0) 0 0) S6.out fld_size rfl (fldC_one _ _ _ _ _ _ _) ?_))
      exact bodyPost_ret (v := .tuple #[.agg (fldC 2 0 (.slice none 0 0) 0 0), .int .i64 (-1)]) (results_cell_two Tryd.results58 _ _ (w.heap.size + 1) 100 (fldC 2 0 (.slice none 0 0) 0 0) _ _ _ rfl rfl (S6.out.row (fldC 2 0 (.slice none 0 0) 0 0)) fld_under rfl fld_size) rfl (tke_no HBK.out (below_setRow B9.out (by omega) _))
end Go.Proofs.YtodimanghmepoaaDoor
namespace Go.Proofs.YtodimanghmepoaaDoor
open Go.RowKit
def KdecNo (w : World) (x : Int) (e : Ending) (w' : World) : Prop := e = .returned (.tuple #[.agg (pkF 0 0 false 0 0 none 0 0), .int .i64 x]) ∧ Below w.heap.size w w'
set_option maxRecDepth 100000 in
set_option maxHeartbeats 1000000 in
theorem kdec_long (A : Option Addr) (n c : Nat) (w : World) (h : 8300 < n) : Calls Tryd.prog 37 #[.slice A n c] w (KdecNo w 5) := by
  have d1 : decide ((8300 : Int) < n) = true := decide_eq_true (by omega)
  have HB := Lib.hid ((Below.refl w.heap.size w).alloc (Nat.le_refl _) (.cells #[.int .i64 0, .int .i64 0, .bool false, .int .i64 0, .int .i64 0, .slice none 0 0] 50))
  have HH := Holds.new w 50 #[.int .i64 0, .int .i64 0, .bool false, .int .i64 0, .int .i64 0, .slice none 0 0] w.heap.size rfl
  go_enter Tryd.func37, Tryd.ntmps37
  go_wp2_with fail
  refine bodyPost_ret (v := .tuple #[.agg (pkF 0 0 false 0 0 none 0 0), .int .i64 5]) (by simp [pkF, results, Tryd.results37, go_sem]) rfl ⟨rfl, ?_⟩
  first
    | exact HB.out
    | exact (Below.refl _ _).alloc (Nat.le_refl _) _
set_option maxRecDepth 100000 in
set_option maxHeartbeats 1000000 in
theorem kdec_short (A : Option Addr) (n c : Nat) (w : World) (h : n < 6) : Calls Tryd.prog 37 #[.slice A n c] w (KdecNo w 3) := by
  have d1 : decide ((8300 : Int) < n) = false := decide_eq_false (by omega)
  have d2 : ¬ 8300 < n := by omega
  have d3 : decide ((n : Int) < 6) = true := decide_eq_true (by omega)
  have HB := Lib.hid ((Below.refl w.heap.size w).alloc (Nat.le_refl _) (.cells #[.int .i64 0, .int .i64 0, .bool false, .int .i64 0, .int .i64 0, .slice none 0 0] 50))
  go_enter Tryd.func37, Tryd.ntmps37
  go_wp2_with fail
  refine bodyPost_ret (v := .tuple #[.agg (pkF 0 0 false 0 0 none 0 0), .int .i64 3]) (by simp [pkF, results, Tryd.results37, go_sem]) rfl ⟨rfl, ?_⟩
  first
    | exact HB.out
    | exact (Below.refl _ _).alloc (Nat.le_refl _) _
set_option maxRecDepth 100000 in
set_option maxHeartbeats 1000000 in
theorem kdec_head0 (b o n c : Nat) (l : List Nat) (w : World) (hl : l.length = n) (h6 : 6 ≤ n) (hn : n ≤ 8300) (hnc : n ≤ c) (hc2 : c ≤ 9223372036854775807) (hat : At w (some ⟨b, o, none⟩) (nats .u8 l)) (h0 : l.getD 0 0 ≠ 67) : Calls Tryd.prog 37 #[.slice (some ⟨b, o, none⟩) n c] w (KdecNo w 3) := by
  have HB := Lib.hid ((Below.refl w.heap.size w).alloc (Nat.le_refl _) (.cells #[.int .i64 0, .int .i64 0, .bool false, .int .i64 0, .int .i64 0, .slice none 0 0] 50))
  have A0 := hat.later HB.out (Nat.le_refl _)
  have c0 : (w.alloc (.cells #[.int .i64 0, .int .i64 0, .bool false, .int .i64 0, .int .i64 0, .slice none 0 0] 50)).cell? ⟨b, o, none⟩ = some (.int .u8 (l.getD 0 0 : Nat)) := by
    obtain ⟨b', o', e, h⟩ := A0.nat 0 (by omega)
    injection e with e; injection e with e1 e2; subst e1; subst e2
    exact h
  have c1 : (w.alloc (.cells #[.int .i64 0, .int .i64 0, .bool false, .int .i64 0, .int .i64 0, .slice none 0 0] 50)).cell? ⟨b, o + 1, none⟩ = some (.int .u8 (l.getD 1 0 : Nat)) := by
    obtain ⟨b', o', e, h⟩ := A0.nat 1 (by omega)
    injection e with e; injection e with e1 e2; subst e1; subst e2
    exact h
  have d1 : decide ((8300 : Int) < n) = false := decide_eq_false (by omega)
  have d2 : ¬ 8300 < n := by omega
  have d3 : decide ((n : Int) < 6) = false := decide_eq_false (by omega)
  have d4 : ¬ n < 6 := by omega
  have d7 : 0 < n := by omega
  have d8 : 1 < n := by omega
  clear hl hat A0
  generalize l.getD 0 0 = y0 at *
  generalize l.getD 1 0 = y1 at *
  have hx : ¬ (y0 : Int) = 67 := by omega
  clear h0 hn h6 hnc hc2 c1
  go_enter Tryd.func37, Tryd.ntmps37
  go_wp2_with fail
  refine bodyPost_ret (v := .tuple #[.agg (pkF 0 0 false 0 0 none 0 0), .int .i64 3]) (by simp [pkF, results, Tryd.results37, go_sem]) rfl ⟨rfl, ?_⟩
  first
    | exact HB.out
    | exact (Below.refl _ _).alloc (Nat.le_refl _) _
set_option maxRecDepth 100000 in
set_option maxHeartbeats 1000000 in
theorem kdec_head1 (b o n c : Nat) (l : List Nat) (w : World) (hl : l.length = n) (h6 : 6 ≤ n) (hn : n ≤ 8300) (hnc : n ≤ c) (hc2 : c ≤ 9223372036854775807) (hat : At w (some ⟨b, o, none⟩) (nats .u8 l)) (h0 : l.getD 0 0 = 67) (h1 : l.getD 1 0 ≠ 85) : Calls Tryd.prog 37 #[.slice (some ⟨b, o, none⟩) n c] w (KdecNo w 3) := by
  have HB := Lib.hid ((Below.refl w.heap.size w).alloc (Nat.le_refl _) (.cells #[.int .i64 0, .int .i64 0, .bool false, .int .i64 0, .int .i64 0, .slice none 0 0] 50))
  have A0 := hat.later HB.out (Nat.le_refl _)
  have c0 : (w.alloc (.cells #[.int .i64 0, .int .i64 0, .bool false, .int .i64 0, .int .i64 0, .slice none 0 0] 50)).cell? ⟨b, o, none⟩ = some (.int .u8 (l.getD 0 0 : Nat)) := by
    obtain ⟨b', o', e, h⟩ := A0.nat 0 (by omega)
    injection e with e; injection e with e1 e2; subst e1; subst e2
    exact h
  have c1 : (w.alloc (.cells #[.int .i64 0, .int .i64 0, .bool false, .int .i64 0, .int .i64 0, .slice none 0 0] 50)).cell? ⟨b, o + 1, none⟩ = some (.int .u8 (l.getD 1 0 : Nat)) := by
    obtain ⟨b', o', e, h⟩ := A0.nat 1 (by omega)
    injection e with e; injection e with e1 e2; subst e1; subst e2
    exact h
  have d1 : decide ((8300 : Int) < n) = false := decide_eq_false (by omega)
  have d2 : ¬ 8300 < n := by omega
  have d3 : decide ((n : Int) < 6) = false := decide_eq_false (by omega)
  have d4 : ¬ n < 6 := by omega
  have d7 : 0 < n := by omega
  have d8 : 1 < n := by omega
  rw [h0] at c0
  clear hl hat A0 h0
  generalize l.getD 1 0 = y1 at *
  have hx : ¬ (y1 : Int) = 85 := by omega
  clear h1 hn h6 hnc hc2
  go_enter Tryd.func37, Tryd.ntmps37
  go_wp2_with fail
  refine bodyPost_ret (v := .tuple #[.agg (pkF 0 0 false 0 0 none 0 0), .int .i64 3]) (by simp [pkF, results, Tryd.results37, go_sem]) rfl ⟨rfl, ?_⟩
  first
    | exact HB.out
    | exact (Below.refl _ _).alloc (Nat.le_refl _) _
set_option maxRecDepth 100000 in
set_option maxHeartbeats 1000000 in
theorem kdec_sum (b o n c : Nat) (l : List Nat) (w : World) (hl : l.length = n) (h6 : 6 ≤ n) (hn : n ≤ 8300) (hnc : n ≤ c) (hc2 : c ≤ 9223372036854775807) (hat : At w (some ⟨b, o, none⟩) (nats .u8 l)) (hby : Crc.Bytes l) (h0 : l.getD 0 0 = 67) (h1 : l.getD 1 0 = 85) (hf : Crc.Fits l = false) : Calls Tryd.prog 37 #[.slice (some ⟨b, o, none⟩) n c] w (KdecNo w 4) := by
  have HB := Lib.hid ((Below.refl w.heap.size w).alloc (Nat.le_refl _) (.cells #[.int .i64 0, .int .i64 0, .bool false, .int .i64 0, .int .i64 0, .slice none 0 0] 50))
  have A0 := hat.later HB.out (Nat.le_refl _)
  have c0 : (w.alloc (.cells #[.int .i64 0, .int .i64 0, .bool false, .int .i64 0, .int .i64 0, .slice none 0 0] 50)).cell? ⟨b, o, none⟩ = some (.int .u8 (l.getD 0 0 : Nat)) := by
    obtain ⟨b', o', e, h⟩ := A0.nat 0 (by omega)
    injection e with e; injection e with e1 e2; subst e1; subst e2
    exact h
  have c1 : (w.alloc (.cells #[.int .i64 0, .int .i64 0, .bool false, .int .i64 0, .int .i64 0, .slice none 0 0] 50)).cell? ⟨b, o + 1, none⟩ = some (.int .u8 (l.getD 1 0 : Nat)) := by
    obtain ⟨b', o', e, h⟩ := A0.nat 1 (by omega)
    injection e with e; injection e with e1 e2; subst e1; subst e2
    exact h
  have d1 : decide ((8300 : Int) < n) = false := decide_eq_false (by omega)
  have d2 : ¬ 8300 < n := by omega
  have d3 : decide ((n : Int) < 6) = false := decide_eq_false (by omega)
  have d4 : ¬ n < 6 := by omega
  have d7 : 0 < n := by omega
  have d8 : 1 < n := by omega
  rw [h0] at c0
  rw [h1] at c1
  have FT := Lib.hid (refFits_any (some ⟨b, o, none⟩) n c l _ hl hnc hc2 A0 hby)
  rw [hf] at FT
  have HH := Lib.hid (Holds.new w 50 #[.int .i64 0, .int .i64 0, .bool false, .int .i64 0, .int .i64 0, .slice none 0 0] w.heap.size rfl)
  clear hby
  clear hl hat A0 h0 h1 hf hn h6 hnc hc2
  go_enter Tryd.func37, Tryd.ntmps37
  go_wp2_with fail
  with_reducible refine FT.out.mono ?_
  rintro e w1 ⟨rfl, b1⟩
  have H1 := HH.out.later b1 (Nat.le_refl _)
  have HB := Lib.hid (HB.out.trans (b1.mono (by simp)))
  have r0 := H1.cell 0
  have z0 := H1.frozen 0
  have r1 := H1.cell 1
  have z1 := H1.frozen 1
  have r2 := H1.cell 2
  have z2 := H1.frozen 2
  have r3 := H1.cell 3
  have z3 := H1.frozen 3
  have r4 := H1.cell 4
  have z4 := H1.frozen 4
  have r5 := H1.cell 5
  have z5 := H1.frozen 5
  simp at r0 r1 r2 r3 r4 r5
  clear b1 H1 c0 c1
  go_wp2_with fail
  refine bodyPost_ret (v := .tuple #[.agg (pkF 0 0 false 0 0 none 0 0), .int .i64 4]) (by simp [pkF, results, Tryd.results37, go_sem, r0, r1, r2, r3, r4, r5]) rfl ⟨rfl, ?_⟩
  exact ((((((HB.out.setCell (Nat.le_refl _) _).setCell (Nat.le_refl _) _).setCell (Nat.le_refl _) _).setCell (Nat.le_refl _) _).setCell (Nat.le_refl _) _).setCell (Nat.le_refl _) _)
end Go.Proofs.YtodimanghmepoaaDoor
