/- Layer 37's law: sure. Printed by idu.py. -/
import Derived.Test.YtmdilfgeogedpaaDoorIdUa
import Derived.Deep.CutRange
namespace Go.Proofs.YtmdilfgeogedpaaDoor
open Go.RowKit
theorem rows_yes {Q : Program} {f : FuncId} {args : Array Value} {w : World} {p : Prop} [Decidable p] (h : Calls Q f args w fun e w' => e = .returned (.bool (decide p)) ∧ Below w.heap.size w w') (hp : p) : Calls Q f args w fun e w' => e = .returned (.bool true) ∧ Below w.heap.size w w' := by
  rw [decide_eq_true hp] at h
  exact h
set_option maxRecDepth 100000 in
set_option maxHeartbeats 4000000 in
theorem sure37 (w : World) (hg : Glob w) : Calls Tryd.prog 7 #[] w fun e w' => e = .returned (.bool true) ∧ Below w.heap.size w w' := by
  have HG := Lib.hid hg
  clear hg
  go_enter Tryd.func7, Tryd.ntmps7
  have HB := Lib.hid (Below.refl w.heap.size w)
  go_upto_region 2 with fail
  have bel := (show Below w.heap.size w ((((((((w.alloc (.cells #[.int .u32 1] 61)).alloc (.cells #[.int .u32 2] 61)).alloc (.cells #[.slice (some ⟨w.heap.size, 0, none⟩) 1 1, .slice (some ⟨w.heap.size + 1, 0, none⟩) 1 1] 54)).alloc (.cells #[.int .u32 10] 61)).alloc (.cells #[.slice (some ⟨w.heap.size + 1 + 1 + 1, 0, none⟩) 1 1] 54)).alloc (.cells #[] 54)).alloc (.cells #[.slice (some ⟨w.heap.size + 1 + 1 + 1 + 1, 0, none⟩) 1 1, .slice (some ⟨w.heap.size + 1 + 1 + 1 + 1 + 1, 0, none⟩) 0 0] 22)).alloc (.cells #[.slice (some ⟨w.heap.size + 1 + 1, 0, none⟩) 2 2, .slice (some ⟨w.heap.size + 1 + 1 + 1 + 1 + 1 + 1, 0, none⟩) 2 2] 32)) from (((((((((Below.refl _ _).alloc (by simp) (.cells #[.int .u32 1] 61)).alloc (by simp) (.cells #[.int .u32 2] 61)).alloc (by simp <;> omega) (.cells #[.slice (some ⟨w.heap.size, 0, none⟩) 1 1, .slice (some ⟨w.heap.size + 1, 0, none⟩) 1 1] 54)).alloc (by simp <;> omega) (.cells #[.int .u32 10] 61)).alloc (by simp <;> omega) (.cells #[.slice (some ⟨w.heap.size + 1 + 1 + 1, 0, none⟩) 1 1] 54)).alloc (by simp <;> omega) (.cells #[] 54)).alloc (by simp <;> omega) (.cells #[.slice (some ⟨w.heap.size + 1 + 1 + 1 + 1, 0, none⟩) 1 1, .slice (some ⟨w.heap.size + 1 + 1 + 1 + 1 + 1, 0, none⟩) 0 0] 22)).alloc (by simp <;> omega) (.cells #[.slice (some ⟨w.heap.size + 1 + 1, 0, none⟩) 2 2, .slice (some ⟨w.heap.size + 1 + 1 + 1 + 1 + 1 + 1, 0, none⟩) 2 2] 32)))
  have L1_0 := Lib.hid (show At ((((((((w.alloc (.cells #[.int .u32 1] 61)).alloc (.cells #[.int .u32 2] 61)).alloc (.cells #[.slice (some ⟨w.heap.size, 0, none⟩) 1 1, .slice (some ⟨w.heap.size + 1, 0, none⟩) 1 1] 54)).alloc (.cells #[.int .u32 10] 61)).alloc (.cells #[.slice (some ⟨w.heap.size + 1 + 1 + 1, 0, none⟩) 1 1] 54)).alloc (.cells #[] 54)).alloc (.cells #[.slice (some ⟨w.heap.size + 1 + 1 + 1 + 1, 0, none⟩) 1 1, .slice (some ⟨w.heap.size + 1 + 1 + 1 + 1 + 1, 0, none⟩) 0 0] 22)).alloc (.cells #[.slice (some ⟨w.heap.size + 1 + 1, 0, none⟩) 2 2, .slice (some ⟨w.heap.size + 1 + 1 + 1 + 1 + 1 + 1, 0, none⟩) 2 2] 32)) (some ⟨w.heap.size, 0, none⟩) (nats .u32 [1]) from ((((((((show At (w.alloc (.cells #[.int .u32 1] 61)) (some ⟨w.heap.size, 0, none⟩) (nats .u32 [1]) from At.lit _ _ _ _ _ (by simp <;> omega)).later ((Below.refl _ _).alloc (Nat.le_refl _) (.cells #[.int .u32 2] 61)) (Nat.le_refl _)).later ((Below.refl _ _).alloc (Nat.le_refl _) (.cells #[.slice (some ⟨w.heap.size, 0, none⟩) 1 1, .slice (some ⟨w.heap.size + 1, 0, none⟩) 1 1] 54)) (Nat.le_refl _)).later ((Below.refl _ _).alloc (Nat.le_refl _) (.cells #[.int .u32 10] 61)) (Nat.le_refl _)).later ((Below.refl _ _).alloc (Nat.le_refl _) (.cells #[.slice (some ⟨w.heap.size + 1 + 1 + 1, 0, none⟩) 1 1] 54)) (Nat.le_refl _)).later ((Below.refl _ _).alloc (Nat.le_refl _) (.cells #[] 54)) (Nat.le_refl _)).later ((Below.refl _ _).alloc (Nat.le_refl _) (.cells #[.slice (some ⟨w.heap.size + 1 + 1 + 1 + 1, 0, none⟩) 1 1, .slice (some ⟨w.heap.size + 1 + 1 + 1 + 1 + 1, 0, none⟩) 0 0] 22)) (Nat.le_refl _)).later ((Below.refl _ _).alloc (Nat.le_refl _) (.cells #[.slice (some ⟨w.heap.size + 1 + 1, 0, none⟩) 2 2, .slice (some ⟨w.heap.size + 1 + 1 + 1 + 1 + 1 + 1, 0, none⟩) 2 2] 32)) (Nat.le_refl _)))
  have L1_1 := Lib.hid (show At ((((((((w.alloc (.cells #[.int .u32 1] 61)).alloc (.cells #[.int .u32 2] 61)).alloc (.cells #[.slice (some ⟨w.heap.size, 0, none⟩) 1 1, .slice (some ⟨w.heap.size + 1, 0, none⟩) 1 1] 54)).alloc (.cells #[.int .u32 10] 61)).alloc (.cells #[.slice (some ⟨w.heap.size + 1 + 1 + 1, 0, none⟩) 1 1] 54)).alloc (.cells #[] 54)).alloc (.cells #[.slice (some ⟨w.heap.size + 1 + 1 + 1 + 1, 0, none⟩) 1 1, .slice (some ⟨w.heap.size + 1 + 1 + 1 + 1 + 1, 0, none⟩) 0 0] 22)).alloc (.cells #[.slice (some ⟨w.heap.size + 1 + 1, 0, none⟩) 2 2, .slice (some ⟨w.heap.size + 1 + 1 + 1 + 1 + 1 + 1, 0, none⟩) 2 2] 32)) (some ⟨w.heap.size + 1, 0, none⟩) (nats .u32 [2]) from (((((((show At ((w.alloc (.cells #[.int .u32 1] 61)).alloc (.cells #[.int .u32 2] 61)) (some ⟨w.heap.size + 1, 0, none⟩) (nats .u32 [2]) from At.lit _ _ _ _ _ (by simp <;> omega)).later ((Below.refl _ _).alloc (Nat.le_refl _) (.cells #[.slice (some ⟨w.heap.size, 0, none⟩) 1 1, .slice (some ⟨w.heap.size + 1, 0, none⟩) 1 1] 54)) (Nat.le_refl _)).later ((Below.refl _ _).alloc (Nat.le_refl _) (.cells #[.int .u32 10] 61)) (Nat.le_refl _)).later ((Below.refl _ _).alloc (Nat.le_refl _) (.cells #[.slice (some ⟨w.heap.size + 1 + 1 + 1, 0, none⟩) 1 1] 54)) (Nat.le_refl _)).later ((Below.refl _ _).alloc (Nat.le_refl _) (.cells #[] 54)) (Nat.le_refl _)).later ((Below.refl _ _).alloc (Nat.le_refl _) (.cells #[.slice (some ⟨w.heap.size + 1 + 1 + 1 + 1, 0, none⟩) 1 1, .slice (some ⟨w.heap.size + 1 + 1 + 1 + 1 + 1, 0, none⟩) 0 0] 22)) (Nat.le_refl _)).later ((Below.refl _ _).alloc (Nat.le_refl _) (.cells #[.slice (some ⟨w.heap.size + 1 + 1, 0, none⟩) 2 2, .slice (some ⟨w.heap.size + 1 + 1 + 1 + 1 + 1 + 1, 0, none⟩) 2 2] 32)) (Nat.le_refl _)))
  have L1_2 := Lib.hid (show At ((((((((w.alloc (.cells #[.int .u32 1] 61)).alloc (.cells #[.int .u32 2] 61)).alloc (.cells #[.slice (some ⟨w.heap.size, 0, none⟩) 1 1, .slice (some ⟨w.heap.size + 1, 0, none⟩) 1 1] 54)).alloc (.cells #[.int .u32 10] 61)).alloc (.cells #[.slice (some ⟨w.heap.size + 1 + 1 + 1, 0, none⟩) 1 1] 54)).alloc (.cells #[] 54)).alloc (.cells #[.slice (some ⟨w.heap.size + 1 + 1 + 1 + 1, 0, none⟩) 1 1, .slice (some ⟨w.heap.size + 1 + 1 + 1 + 1 + 1, 0, none⟩) 0 0] 22)).alloc (.cells #[.slice (some ⟨w.heap.size + 1 + 1, 0, none⟩) 2 2, .slice (some ⟨w.heap.size + 1 + 1 + 1 + 1 + 1 + 1, 0, none⟩) 2 2] 32)) (some ⟨w.heap.size + 1 + 1, 0, none⟩) [.slice (some ⟨w.heap.size, 0, none⟩) 1 1, .slice (some ⟨w.heap.size + 1, 0, none⟩) 1 1] from ((((((show At (((w.alloc (.cells #[.int .u32 1] 61)).alloc (.cells #[.int .u32 2] 61)).alloc (.cells #[.slice (some ⟨w.heap.size, 0, none⟩) 1 1, .slice (some ⟨w.heap.size + 1, 0, none⟩) 1 1] 54)) (some ⟨w.heap.size + 1 + 1, 0, none⟩) [.slice (some ⟨w.heap.size, 0, none⟩) 1 1, .slice (some ⟨w.heap.size + 1, 0, none⟩) 1 1] from At.lit _ _ _ _ _ (by simp <;> omega)).later ((Below.refl _ _).alloc (Nat.le_refl _) (.cells #[.int .u32 10] 61)) (Nat.le_refl _)).later ((Below.refl _ _).alloc (Nat.le_refl _) (.cells #[.slice (some ⟨w.heap.size + 1 + 1 + 1, 0, none⟩) 1 1] 54)) (Nat.le_refl _)).later ((Below.refl _ _).alloc (Nat.le_refl _) (.cells #[] 54)) (Nat.le_refl _)).later ((Below.refl _ _).alloc (Nat.le_refl _) (.cells #[.slice (some ⟨w.heap.size + 1 + 1 + 1 + 1, 0, none⟩) 1 1, .slice (some ⟨w.heap.size + 1 + 1 + 1 + 1 + 1, 0, none⟩) 0 0] 22)) (Nat.le_refl _)).later ((Below.refl _ _).alloc (Nat.le_refl _) (.cells #[.slice (some ⟨w.heap.size + 1 + 1, 0, none⟩) 2 2, .slice (some ⟨w.heap.size + 1 + 1 + 1 + 1 + 1 + 1, 0, none⟩) 2 2] 32)) (Nat.le_refl _)))
  have L1_3 := Lib.hid (show At ((((((((w.alloc (.cells #[.int .u32 1] 61)).alloc (.cells #[.int .u32 2] 61)).alloc (.cells #[.slice (some ⟨w.heap.size, 0, none⟩) 1 1, .slice (some ⟨w.heap.size + 1, 0, none⟩) 1 1] 54)).alloc (.cells #[.int .u32 10] 61)).alloc (.cells #[.slice (some ⟨w.heap.size + 1 + 1 + 1, 0, none⟩) 1 1] 54)).alloc (.cells #[] 54)).alloc (.cells #[.slice (some ⟨w.heap.size + 1 + 1 + 1 + 1, 0, none⟩) 1 1, .slice (some ⟨w.heap.size + 1 + 1 + 1 + 1 + 1, 0, none⟩) 0 0] 22)).alloc (.cells #[.slice (some ⟨w.heap.size + 1 + 1, 0, none⟩) 2 2, .slice (some ⟨w.heap.size + 1 + 1 + 1 + 1 + 1 + 1, 0, none⟩) 2 2] 32)) (some ⟨w.heap.size + 1 + 1 + 1, 0, none⟩) (nats .u32 [10]) from (((((show At ((((w.alloc (.cells #[.int .u32 1] 61)).alloc (.cells #[.int .u32 2] 61)).alloc (.cells #[.slice (some ⟨w.heap.size, 0, none⟩) 1 1, .slice (some ⟨w.heap.size + 1, 0, none⟩) 1 1] 54)).alloc (.cells #[.int .u32 10] 61)) (some ⟨w.heap.size + 1 + 1 + 1, 0, none⟩) (nats .u32 [10]) from At.lit _ _ _ _ _ (by simp <;> omega)).later ((Below.refl _ _).alloc (Nat.le_refl _) (.cells #[.slice (some ⟨w.heap.size + 1 + 1 + 1, 0, none⟩) 1 1] 54)) (Nat.le_refl _)).later ((Below.refl _ _).alloc (Nat.le_refl _) (.cells #[] 54)) (Nat.le_refl _)).later ((Below.refl _ _).alloc (Nat.le_refl _) (.cells #[.slice (some ⟨w.heap.size + 1 + 1 + 1 + 1, 0, none⟩) 1 1, .slice (some ⟨w.heap.size + 1 + 1 + 1 + 1 + 1, 0, none⟩) 0 0] 22)) (Nat.le_refl _)).later ((Below.refl _ _).alloc (Nat.le_refl _) (.cells #[.slice (some ⟨w.heap.size + 1 + 1, 0, none⟩) 2 2, .slice (some ⟨w.heap.size + 1 + 1 + 1 + 1 + 1 + 1, 0, none⟩) 2 2] 32)) (Nat.le_refl _)))
  have L1_4 := Lib.hid (show At ((((((((w.alloc (.cells #[.int .u32 1] 61)).alloc (.cells #[.int .u32 2] 61)).alloc (.cells #[.slice (some ⟨w.heap.size, 0, none⟩) 1 1, .slice (some ⟨w.heap.size + 1, 0, none⟩) 1 1] 54)).alloc (.cells #[.int .u32 10] 61)).alloc (.cells #[.slice (some ⟨w.heap.size + 1 + 1 + 1, 0, none⟩) 1 1] 54)).alloc (.cells #[] 54)).alloc (.cells #[.slice (some ⟨w.heap.size + 1 + 1 + 1 + 1, 0, none⟩) 1 1, .slice (some ⟨w.heap.size + 1 + 1 + 1 + 1 + 1, 0, none⟩) 0 0] 22)).alloc (.cells #[.slice (some ⟨w.heap.size + 1 + 1, 0, none⟩) 2 2, .slice (some ⟨w.heap.size + 1 + 1 + 1 + 1 + 1 + 1, 0, none⟩) 2 2] 32)) (some ⟨w.heap.size + 1 + 1 + 1 + 1, 0, none⟩) [.slice (some ⟨w.heap.size + 1 + 1 + 1, 0, none⟩) 1 1] from ((((show At (((((w.alloc (.cells #[.int .u32 1] 61)).alloc (.cells #[.int .u32 2] 61)).alloc (.cells #[.slice (some ⟨w.heap.size, 0, none⟩) 1 1, .slice (some ⟨w.heap.size + 1, 0, none⟩) 1 1] 54)).alloc (.cells #[.int .u32 10] 61)).alloc (.cells #[.slice (some ⟨w.heap.size + 1 + 1 + 1, 0, none⟩) 1 1] 54)) (some ⟨w.heap.size + 1 + 1 + 1 + 1, 0, none⟩) [.slice (some ⟨w.heap.size + 1 + 1 + 1, 0, none⟩) 1 1] from At.lit _ _ _ _ _ (by simp <;> omega)).later ((Below.refl _ _).alloc (Nat.le_refl _) (.cells #[] 54)) (Nat.le_refl _)).later ((Below.refl _ _).alloc (Nat.le_refl _) (.cells #[.slice (some ⟨w.heap.size + 1 + 1 + 1 + 1, 0, none⟩) 1 1, .slice (some ⟨w.heap.size + 1 + 1 + 1 + 1 + 1, 0, none⟩) 0 0] 22)) (Nat.le_refl _)).later ((Below.refl _ _).alloc (Nat.le_refl _) (.cells #[.slice (some ⟨w.heap.size + 1 + 1, 0, none⟩) 2 2, .slice (some ⟨w.heap.size + 1 + 1 + 1 + 1 + 1 + 1, 0, none⟩) 2 2] 32)) (Nat.le_refl _)))
  have L1_5 := Lib.hid (show At ((((((((w.alloc (.cells #[.int .u32 1] 61)).alloc (.cells #[.int .u32 2] 61)).alloc (.cells #[.slice (some ⟨w.heap.size, 0, none⟩) 1 1, .slice (some ⟨w.heap.size + 1, 0, none⟩) 1 1] 54)).alloc (.cells #[.int .u32 10] 61)).alloc (.cells #[.slice (some ⟨w.heap.size + 1 + 1 + 1, 0, none⟩) 1 1] 54)).alloc (.cells #[] 54)).alloc (.cells #[.slice (some ⟨w.heap.size + 1 + 1 + 1 + 1, 0, none⟩) 1 1, .slice (some ⟨w.heap.size + 1 + 1 + 1 + 1 + 1, 0, none⟩) 0 0] 22)).alloc (.cells #[.slice (some ⟨w.heap.size + 1 + 1, 0, none⟩) 2 2, .slice (some ⟨w.heap.size + 1 + 1 + 1 + 1 + 1 + 1, 0, none⟩) 2 2] 32)) (some ⟨w.heap.size + 1 + 1 + 1 + 1 + 1, 0, none⟩) [] from (((show At ((((((w.alloc (.cells #[.int .u32 1] 61)).alloc (.cells #[.int .u32 2] 61)).alloc (.cells #[.slice (some ⟨w.heap.size, 0, none⟩) 1 1, .slice (some ⟨w.heap.size + 1, 0, none⟩) 1 1] 54)).alloc (.cells #[.int .u32 10] 61)).alloc (.cells #[.slice (some ⟨w.heap.size + 1 + 1 + 1, 0, none⟩) 1 1] 54)).alloc (.cells #[] 54)) (some ⟨w.heap.size + 1 + 1 + 1 + 1 + 1, 0, none⟩) [] from At.lit _ _ _ _ _ (by simp <;> omega)).later ((Below.refl _ _).alloc (Nat.le_refl _) (.cells #[.slice (some ⟨w.heap.size + 1 + 1 + 1 + 1, 0, none⟩) 1 1, .slice (some ⟨w.heap.size + 1 + 1 + 1 + 1 + 1, 0, none⟩) 0 0] 22)) (Nat.le_refl _)).later ((Below.refl _ _).alloc (Nat.le_refl _) (.cells #[.slice (some ⟨w.heap.size + 1 + 1, 0, none⟩) 2 2, .slice (some ⟨w.heap.size + 1 + 1 + 1 + 1 + 1 + 1, 0, none⟩) 2 2] 32)) (Nat.le_refl _)))
  have L1_6 := Lib.hid (show At ((((((((w.alloc (.cells #[.int .u32 1] 61)).alloc (.cells #[.int .u32 2] 61)).alloc (.cells #[.slice (some ⟨w.heap.size, 0, none⟩) 1 1, .slice (some ⟨w.heap.size + 1, 0, none⟩) 1 1] 54)).alloc (.cells #[.int .u32 10] 61)).alloc (.cells #[.slice (some ⟨w.heap.size + 1 + 1 + 1, 0, none⟩) 1 1] 54)).alloc (.cells #[] 54)).alloc (.cells #[.slice (some ⟨w.heap.size + 1 + 1 + 1 + 1, 0, none⟩) 1 1, .slice (some ⟨w.heap.size + 1 + 1 + 1 + 1 + 1, 0, none⟩) 0 0] 22)).alloc (.cells #[.slice (some ⟨w.heap.size + 1 + 1, 0, none⟩) 2 2, .slice (some ⟨w.heap.size + 1 + 1 + 1 + 1 + 1 + 1, 0, none⟩) 2 2] 32)) (some ⟨w.heap.size + 1 + 1 + 1 + 1 + 1 + 1, 0, none⟩) [.slice (some ⟨w.heap.size + 1 + 1 + 1 + 1, 0, none⟩) 1 1, .slice (some ⟨w.heap.size + 1 + 1 + 1 + 1 + 1, 0, none⟩) 0 0] from ((show At (((((((w.alloc (.cells #[.int .u32 1] 61)).alloc (.cells #[.int .u32 2] 61)).alloc (.cells #[.slice (some ⟨w.heap.size, 0, none⟩) 1 1, .slice (some ⟨w.heap.size + 1, 0, none⟩) 1 1] 54)).alloc (.cells #[.int .u32 10] 61)).alloc (.cells #[.slice (some ⟨w.heap.size + 1 + 1 + 1, 0, none⟩) 1 1] 54)).alloc (.cells #[] 54)).alloc (.cells #[.slice (some ⟨w.heap.size + 1 + 1 + 1 + 1, 0, none⟩) 1 1, .slice (some ⟨w.heap.size + 1 + 1 + 1 + 1 + 1, 0, none⟩) 0 0] 22)) (some ⟨w.heap.size + 1 + 1 + 1 + 1 + 1 + 1, 0, none⟩) [.slice (some ⟨w.heap.size + 1 + 1 + 1 + 1, 0, none⟩) 1 1, .slice (some ⟨w.heap.size + 1 + 1 + 1 + 1 + 1, 0, none⟩) 0 0] from At.lit _ _ _ _ _ (by simp <;> omega)).later ((Below.refl _ _).alloc (Nat.le_refl _) (.cells #[.slice (some ⟨w.heap.size + 1 + 1, 0, none⟩) 2 2, .slice (some ⟨w.heap.size + 1 + 1 + 1 + 1 + 1 + 1, 0, none⟩) 2 2] 32)) (Nat.le_refl _)))
  have L1_7 := Lib.hid (show Holds ((((((((w.alloc (.cells #[.int .u32 1] 61)).alloc (.cells #[.int .u32 2] 61)).alloc (.cells #[.slice (some ⟨w.heap.size, 0, none⟩) 1 1, .slice (some ⟨w.heap.size + 1, 0, none⟩) 1 1] 54)).alloc (.cells #[.int .u32 10] 61)).alloc (.cells #[.slice (some ⟨w.heap.size + 1 + 1 + 1, 0, none⟩) 1 1] 54)).alloc (.cells #[] 54)).alloc (.cells #[.slice (some ⟨w.heap.size + 1 + 1 + 1 + 1, 0, none⟩) 1 1, .slice (some ⟨w.heap.size + 1 + 1 + 1 + 1 + 1, 0, none⟩) 0 0] 22)).alloc (.cells #[.slice (some ⟨w.heap.size + 1 + 1, 0, none⟩) 2 2, .slice (some ⟨w.heap.size + 1 + 1 + 1 + 1 + 1 + 1, 0, none⟩) 2 2] 32)) (w.heap.size + 1 + 1 + 1 + 1 + 1 + 1 + 1) 32 #[.slice (some ⟨w.heap.size + 1 + 1, 0, none⟩) 2 2, .slice (some ⟨w.heap.size + 1 + 1 + 1 + 1 + 1 + 1, 0, none⟩) 2 2] from (Holds.new (((((((w.alloc (.cells #[.int .u32 1] 61)).alloc (.cells #[.int .u32 2] 61)).alloc (.cells #[.slice (some ⟨w.heap.size, 0, none⟩) 1 1, .slice (some ⟨w.heap.size + 1, 0, none⟩) 1 1] 54)).alloc (.cells #[.int .u32 10] 61)).alloc (.cells #[.slice (some ⟨w.heap.size + 1 + 1 + 1, 0, none⟩) 1 1] 54)).alloc (.cells #[] 54)).alloc (.cells #[.slice (some ⟨w.heap.size + 1 + 1 + 1 + 1, 0, none⟩) 1 1, .slice (some ⟨w.heap.size + 1 + 1 + 1 + 1 + 1, 0, none⟩) 0 0] 22)) 32 #[.slice (some ⟨w.heap.size + 1 + 1, 0, none⟩) 2 2, .slice (some ⟨w.heap.size + 1 + 1 + 1 + 1 + 1 + 1, 0, none⟩) 2 2] (w.heap.size + 1 + 1 + 1 + 1 + 1 + 1 + 1) (by simp <;> omega)))
  have R1_2 := Lib.hid (rows_2 L1_2.out L1_0.out L1_1.out)
  have R1_4 := Lib.hid (rows_1 L1_4.out L1_3.out)
  have R1_5 := Lib.hid (rows_0 L1_5.out )
  have R1_6 := Lib.hid (rows3_2 L1_6.out R1_4.out R1_5.out)
  generalize ((((((((w.alloc (.cells #[.int .u32 1] 61)).alloc (.cells #[.int .u32 2] 61)).alloc (.cells #[.slice (some ⟨w.heap.size, 0, none⟩) 1 1, .slice (some ⟨w.heap.size + 1, 0, none⟩) 1 1] 54)).alloc (.cells #[.int .u32 10] 61)).alloc (.cells #[.slice (some ⟨w.heap.size + 1 + 1 + 1, 0, none⟩) 1 1] 54)).alloc (.cells #[] 54)).alloc (.cells #[.slice (some ⟨w.heap.size + 1 + 1 + 1 + 1, 0, none⟩) 1 1, .slice (some ⟨w.heap.size + 1 + 1 + 1 + 1 + 1, 0, none⟩) 0 0] 22)).alloc (.cells #[.slice (some ⟨w.heap.size + 1 + 1, 0, none⟩) 2 2, .slice (some ⟨w.heap.size + 1 + 1 + 1 + 1 + 1 + 1, 0, none⟩) 2 2] 32)) = w1 at bel L1_0 L1_1 L1_2 L1_3 L1_4 L1_5 L1_6 L1_7 R1_2 R1_4 R1_5 R1_6 ⊢
  replace HG := Lib.hid (HG.out.later bel (Nat.le_refl _))
  replace HB := Lib.hid (HB.out.trans (bel.mono HB.out.size))
  clear bel
  clear L1_0 L1_1 L1_2 L1_3 L1_4 L1_5 L1_6 R1_4 R1_5
  have t0 := L1_7.out.cell 0
  have t1 := L1_7.out.cell 1
  simp at t0 t1
  go_wp2_with fail
  have bel := (show Below w1.heap.size w1 (((w1.alloc (.cells #[.int .u32 5] 61)).alloc (.cells #[.int .u32 6] 61)).alloc (.cells #[.slice (some ⟨w1.heap.size, 0, none⟩) 1 1, .slice (some ⟨w1.heap.size + 1, 0, none⟩) 1 1] 54)) from ((((Below.refl _ _).alloc (by simp) (.cells #[.int .u32 5] 61)).alloc (by simp) (.cells #[.int .u32 6] 61)).alloc (by simp <;> omega) (.cells #[.slice (some ⟨w1.heap.size, 0, none⟩) 1 1, .slice (some ⟨w1.heap.size + 1, 0, none⟩) 1 1] 54)))
  have L2_0 := Lib.hid (show At (((w1.alloc (.cells #[.int .u32 5] 61)).alloc (.cells #[.int .u32 6] 61)).alloc (.cells #[.slice (some ⟨w1.heap.size, 0, none⟩) 1 1, .slice (some ⟨w1.heap.size + 1, 0, none⟩) 1 1] 54)) (some ⟨w1.heap.size, 0, none⟩) (nats .u32 [5]) from (((show At (w1.alloc (.cells #[.int .u32 5] 61)) (some ⟨w1.heap.size, 0, none⟩) (nats .u32 [5]) from At.lit _ _ _ _ _ (by simp <;> omega)).later ((Below.refl _ _).alloc (Nat.le_refl _) (.cells #[.int .u32 6] 61)) (Nat.le_refl _)).later ((Below.refl _ _).alloc (Nat.le_refl _) (.cells #[.slice (some ⟨w1.heap.size, 0, none⟩) 1 1, .slice (some ⟨w1.heap.size + 1, 0, none⟩) 1 1] 54)) (Nat.le_refl _)))
  have L2_1 := Lib.hid (show At (((w1.alloc (.cells #[.int .u32 5] 61)).alloc (.cells #[.int .u32 6] 61)).alloc (.cells #[.slice (some ⟨w1.heap.size, 0, none⟩) 1 1, .slice (some ⟨w1.heap.size + 1, 0, none⟩) 1 1] 54)) (some ⟨w1.heap.size + 1, 0, none⟩) (nats .u32 [6]) from ((show At ((w1.alloc (.cells #[.int .u32 5] 61)).alloc (.cells #[.int .u32 6] 61)) (some ⟨w1.heap.size + 1, 0, none⟩) (nats .u32 [6]) from At.lit _ _ _ _ _ (by simp <;> omega)).later ((Below.refl _ _).alloc (Nat.le_refl _) (.cells #[.slice (some ⟨w1.heap.size, 0, none⟩) 1 1, .slice (some ⟨w1.heap.size + 1, 0, none⟩) 1 1] 54)) (Nat.le_refl _)))
  have L2_2 := Lib.hid (show At (((w1.alloc (.cells #[.int .u32 5] 61)).alloc (.cells #[.int .u32 6] 61)).alloc (.cells #[.slice (some ⟨w1.heap.size, 0, none⟩) 1 1, .slice (some ⟨w1.heap.size + 1, 0, none⟩) 1 1] 54)) (some ⟨w1.heap.size + 1 + 1, 0, none⟩) [.slice (some ⟨w1.heap.size, 0, none⟩) 1 1, .slice (some ⟨w1.heap.size + 1, 0, none⟩) 1 1] from (show At (((w1.alloc (.cells #[.int .u32 5] 61)).alloc (.cells #[.int .u32 6] 61)).alloc (.cells #[.slice (some ⟨w1.heap.size, 0, none⟩) 1 1, .slice (some ⟨w1.heap.size + 1, 0, none⟩) 1 1] 54)) (some ⟨w1.heap.size + 1 + 1, 0, none⟩) [.slice (some ⟨w1.heap.size, 0, none⟩) 1 1, .slice (some ⟨w1.heap.size + 1, 0, none⟩) 1 1] from At.lit _ _ _ _ _ (by simp <;> omega)))
  have R2_2 := Lib.hid (rows_2 L2_2.out L2_0.out L2_1.out)
  generalize (((w1.alloc (.cells #[.int .u32 5] 61)).alloc (.cells #[.int .u32 6] 61)).alloc (.cells #[.slice (some ⟨w1.heap.size, 0, none⟩) 1 1, .slice (some ⟨w1.heap.size + 1, 0, none⟩) 1 1] 54)) = w2 at bel L2_0 L2_1 L2_2 R2_2 ⊢
  replace HG := Lib.hid (HG.out.later bel (Nat.le_refl _))
  replace L1_7 := Lib.hid (L1_7.out.later bel (Nat.le_refl _))
  replace R1_2 := Lib.hid (R1_2.out.later bel (Nat.le_refl _))
  replace R1_6 := Lib.hid (R1_6.out.later bel (Nat.le_refl _))
  replace HB := Lib.hid (HB.out.trans (bel.mono HB.out.size))
  clear bel
  clear t0 t1
  go_wp2_with fail
  with_reducible refine (s_hid (some ⟨w.heap.size + 1 + 1, 0, none⟩) 2 _ (some ⟨w.heap.size + 1 + 1 + 1 + 1 + 1 + 1, 0, none⟩) 2 _ (some ⟨w1.heap.size + 1 + 1, 0, none⟩) 2 _ w2 R1_2.out R1_6.out R2_2.out).mono ?_
  rintro e w3 ⟨Ah, ch, vh, rfl, hh, bel⟩
  replace HG := Lib.hid (HG.out.later bel (Nat.le_refl _))
  replace L1_7 := Lib.hid (L1_7.out.later bel (Nat.le_refl _))
  replace R1_2 := Lib.hid (R1_2.out.later bel (Nat.le_refl _))
  replace R1_6 := Lib.hid (R1_6.out.later bel (Nat.le_refl _))
  replace L2_0 := Lib.hid (L2_0.out.later bel (Nat.le_refl _))
  replace L2_1 := Lib.hid (L2_1.out.later bel (Nat.le_refl _))
  replace L2_2 := Lib.hid (L2_2.out.later bel (Nat.le_refl _))
  replace R2_2 := Lib.hid (R2_2.out.later bel (Nat.le_refl _))
  replace HB := Lib.hid (HB.out.trans (bel.mono HB.out.size))
  have RH := Lib.hid hh
  clear hh
  clear bel
  clear L2_0 L2_1 L2_2 R2_2
  go_upto_region 3 with fail
  have t0 := L1_7.out.cell 0
  have t1 := L1_7.out.cell 1
  simp at t0 t1
  go_wp2_with fail
  have bel := (show Below w3.heap.size w3 (((((((w3.alloc (.cells #[.int .i64 0, .int .i64 1] 3)).alloc (.cells #[.int .u32 5] 61)).alloc (.cells #[.int .u32 6] 61)).alloc (.cells #[.slice (some ⟨w3.heap.size + 1, 0, none⟩) 1 1, .slice (some ⟨w3.heap.size + 1 + 1, 0, none⟩) 1 1] 54)).alloc (.cells #[.int .u32 4] 61)).alloc (.cells #[.int .u32 7] 61)).alloc (.cells #[.slice (some ⟨w3.heap.size + 1 + 1 + 1 + 1, 0, none⟩) 1 1, .slice (some ⟨w3.heap.size + 1 + 1 + 1 + 1 + 1, 0, none⟩) 1 1] 54)) from ((((((((Below.refl _ _).alloc (by simp) (.cells #[.int .i64 0, .int .i64 1] 3)).alloc (by simp) (.cells #[.int .u32 5] 61)).alloc (by simp <;> omega) (.cells #[.int .u32 6] 61)).alloc (by simp <;> omega) (.cells #[.slice (some ⟨w3.heap.size + 1, 0, none⟩) 1 1, .slice (some ⟨w3.heap.size + 1 + 1, 0, none⟩) 1 1] 54)).alloc (by simp <;> omega) (.cells #[.int .u32 4] 61)).alloc (by simp <;> omega) (.cells #[.int .u32 7] 61)).alloc (by simp <;> omega) (.cells #[.slice (some ⟨w3.heap.size + 1 + 1 + 1 + 1, 0, none⟩) 1 1, .slice (some ⟨w3.heap.size + 1 + 1 + 1 + 1 + 1, 0, none⟩) 1 1] 54)))
  have L4_0 := Lib.hid (show At (((((((w3.alloc (.cells #[.int .i64 0, .int .i64 1] 3)).alloc (.cells #[.int .u32 5] 61)).alloc (.cells #[.int .u32 6] 61)).alloc (.cells #[.slice (some ⟨w3.heap.size + 1, 0, none⟩) 1 1, .slice (some ⟨w3.heap.size + 1 + 1, 0, none⟩) 1 1] 54)).alloc (.cells #[.int .u32 4] 61)).alloc (.cells #[.int .u32 7] 61)).alloc (.cells #[.slice (some ⟨w3.heap.size + 1 + 1 + 1 + 1, 0, none⟩) 1 1, .slice (some ⟨w3.heap.size + 1 + 1 + 1 + 1 + 1, 0, none⟩) 1 1] 54)) (some ⟨w3.heap.size, 0, none⟩) (ints .i64 [0, 1]) from (((((((show At (w3.alloc (.cells #[.int .i64 0, .int .i64 1] 3)) (some ⟨w3.heap.size, 0, none⟩) (ints .i64 [0, 1]) from At.lit _ _ _ _ _ (by simp <;> omega)).later ((Below.refl _ _).alloc (Nat.le_refl _) (.cells #[.int .u32 5] 61)) (Nat.le_refl _)).later ((Below.refl _ _).alloc (Nat.le_refl _) (.cells #[.int .u32 6] 61)) (Nat.le_refl _)).later ((Below.refl _ _).alloc (Nat.le_refl _) (.cells #[.slice (some ⟨w3.heap.size + 1, 0, none⟩) 1 1, .slice (some ⟨w3.heap.size + 1 + 1, 0, none⟩) 1 1] 54)) (Nat.le_refl _)).later ((Below.refl _ _).alloc (Nat.le_refl _) (.cells #[.int .u32 4] 61)) (Nat.le_refl _)).later ((Below.refl _ _).alloc (Nat.le_refl _) (.cells #[.int .u32 7] 61)) (Nat.le_refl _)).later ((Below.refl _ _).alloc (Nat.le_refl _) (.cells #[.slice (some ⟨w3.heap.size + 1 + 1 + 1 + 1, 0, none⟩) 1 1, .slice (some ⟨w3.heap.size + 1 + 1 + 1 + 1 + 1, 0, none⟩) 1 1] 54)) (Nat.le_refl _)))
  have L4_1 := Lib.hid (show At (((((((w3.alloc (.cells #[.int .i64 0, .int .i64 1] 3)).alloc (.cells #[.int .u32 5] 61)).alloc (.cells #[.int .u32 6] 61)).alloc (.cells #[.slice (some ⟨w3.heap.size + 1, 0, none⟩) 1 1, .slice (some ⟨w3.heap.size + 1 + 1, 0, none⟩) 1 1] 54)).alloc (.cells #[.int .u32 4] 61)).alloc (.cells #[.int .u32 7] 61)).alloc (.cells #[.slice (some ⟨w3.heap.size + 1 + 1 + 1 + 1, 0, none⟩) 1 1, .slice (some ⟨w3.heap.size + 1 + 1 + 1 + 1 + 1, 0, none⟩) 1 1] 54)) (some ⟨w3.heap.size + 1, 0, none⟩) (nats .u32 [5]) from ((((((show At ((w3.alloc (.cells #[.int .i64 0, .int .i64 1] 3)).alloc (.cells #[.int .u32 5] 61)) (some ⟨w3.heap.size + 1, 0, none⟩) (nats .u32 [5]) from At.lit _ _ _ _ _ (by simp <;> omega)).later ((Below.refl _ _).alloc (Nat.le_refl _) (.cells #[.int .u32 6] 61)) (Nat.le_refl _)).later ((Below.refl _ _).alloc (Nat.le_refl _) (.cells #[.slice (some ⟨w3.heap.size + 1, 0, none⟩) 1 1, .slice (some ⟨w3.heap.size + 1 + 1, 0, none⟩) 1 1] 54)) (Nat.le_refl _)).later ((Below.refl _ _).alloc (Nat.le_refl _) (.cells #[.int .u32 4] 61)) (Nat.le_refl _)).later ((Below.refl _ _).alloc (Nat.le_refl _) (.cells #[.int .u32 7] 61)) (Nat.le_refl _)).later ((Below.refl _ _).alloc (Nat.le_refl _) (.cells #[.slice (some ⟨w3.heap.size + 1 + 1 + 1 + 1, 0, none⟩) 1 1, .slice (some ⟨w3.heap.size + 1 + 1 + 1 + 1 + 1, 0, none⟩) 1 1] 54)) (Nat.le_refl _)))
  have L4_2 := Lib.hid (show At (((((((w3.alloc (.cells #[.int .i64 0, .int .i64 1] 3)).alloc (.cells #[.int .u32 5] 61)).alloc (.cells #[.int .u32 6] 61)).alloc (.cells #[.slice (some ⟨w3.heap.size + 1, 0, none⟩) 1 1, .slice (some ⟨w3.heap.size + 1 + 1, 0, none⟩) 1 1] 54)).alloc (.cells #[.int .u32 4] 61)).alloc (.cells #[.int .u32 7] 61)).alloc (.cells #[.slice (some ⟨w3.heap.size + 1 + 1 + 1 + 1, 0, none⟩) 1 1, .slice (some ⟨w3.heap.size + 1 + 1 + 1 + 1 + 1, 0, none⟩) 1 1] 54)) (some ⟨w3.heap.size + 1 + 1, 0, none⟩) (nats .u32 [6]) from (((((show At (((w3.alloc (.cells #[.int .i64 0, .int .i64 1] 3)).alloc (.cells #[.int .u32 5] 61)).alloc (.cells #[.int .u32 6] 61)) (some ⟨w3.heap.size + 1 + 1, 0, none⟩) (nats .u32 [6]) from At.lit _ _ _ _ _ (by simp <;> omega)).later ((Below.refl _ _).alloc (Nat.le_refl _) (.cells #[.slice (some ⟨w3.heap.size + 1, 0, none⟩) 1 1, .slice (some ⟨w3.heap.size + 1 + 1, 0, none⟩) 1 1] 54)) (Nat.le_refl _)).later ((Below.refl _ _).alloc (Nat.le_refl _) (.cells #[.int .u32 4] 61)) (Nat.le_refl _)).later ((Below.refl _ _).alloc (Nat.le_refl _) (.cells #[.int .u32 7] 61)) (Nat.le_refl _)).later ((Below.refl _ _).alloc (Nat.le_refl _) (.cells #[.slice (some ⟨w3.heap.size + 1 + 1 + 1 + 1, 0, none⟩) 1 1, .slice (some ⟨w3.heap.size + 1 + 1 + 1 + 1 + 1, 0, none⟩) 1 1] 54)) (Nat.le_refl _)))
  have L4_3 := Lib.hid (show At (((((((w3.alloc (.cells #[.int .i64 0, .int .i64 1] 3)).alloc (.cells #[.int .u32 5] 61)).alloc (.cells #[.int .u32 6] 61)).alloc (.cells #[.slice (some ⟨w3.heap.size + 1, 0, none⟩) 1 1, .slice (some ⟨w3.heap.size + 1 + 1, 0, none⟩) 1 1] 54)).alloc (.cells #[.int .u32 4] 61)).alloc (.cells #[.int .u32 7] 61)).alloc (.cells #[.slice (some ⟨w3.heap.size + 1 + 1 + 1 + 1, 0, none⟩) 1 1, .slice (some ⟨w3.heap.size + 1 + 1 + 1 + 1 + 1, 0, none⟩) 1 1] 54)) (some ⟨w3.heap.size + 1 + 1 + 1, 0, none⟩) [.slice (some ⟨w3.heap.size + 1, 0, none⟩) 1 1, .slice (some ⟨w3.heap.size + 1 + 1, 0, none⟩) 1 1] from ((((show At ((((w3.alloc (.cells #[.int .i64 0, .int .i64 1] 3)).alloc (.cells #[.int .u32 5] 61)).alloc (.cells #[.int .u32 6] 61)).alloc (.cells #[.slice (some ⟨w3.heap.size + 1, 0, none⟩) 1 1, .slice (some ⟨w3.heap.size + 1 + 1, 0, none⟩) 1 1] 54)) (some ⟨w3.heap.size + 1 + 1 + 1, 0, none⟩) [.slice (some ⟨w3.heap.size + 1, 0, none⟩) 1 1, .slice (some ⟨w3.heap.size + 1 + 1, 0, none⟩) 1 1] from At.lit _ _ _ _ _ (by simp <;> omega)).later ((Below.refl _ _).alloc (Nat.le_refl _) (.cells #[.int .u32 4] 61)) (Nat.le_refl _)).later ((Below.refl _ _).alloc (Nat.le_refl _) (.cells #[.int .u32 7] 61)) (Nat.le_refl _)).later ((Below.refl _ _).alloc (Nat.le_refl _) (.cells #[.slice (some ⟨w3.heap.size + 1 + 1 + 1 + 1, 0, none⟩) 1 1, .slice (some ⟨w3.heap.size + 1 + 1 + 1 + 1 + 1, 0, none⟩) 1 1] 54)) (Nat.le_refl _)))
  have L4_4 := Lib.hid (show At (((((((w3.alloc (.cells #[.int .i64 0, .int .i64 1] 3)).alloc (.cells #[.int .u32 5] 61)).alloc (.cells #[.int .u32 6] 61)).alloc (.cells #[.slice (some ⟨w3.heap.size + 1, 0, none⟩) 1 1, .slice (some ⟨w3.heap.size + 1 + 1, 0, none⟩) 1 1] 54)).alloc (.cells #[.int .u32 4] 61)).alloc (.cells #[.int .u32 7] 61)).alloc (.cells #[.slice (some ⟨w3.heap.size + 1 + 1 + 1 + 1, 0, none⟩) 1 1, .slice (some ⟨w3.heap.size + 1 + 1 + 1 + 1 + 1, 0, none⟩) 1 1] 54)) (some ⟨w3.heap.size + 1 + 1 + 1 + 1, 0, none⟩) (nats .u32 [4]) from (((show At (((((w3.alloc (.cells #[.int .i64 0, .int .i64 1] 3)).alloc (.cells #[.int .u32 5] 61)).alloc (.cells #[.int .u32 6] 61)).alloc (.cells #[.slice (some ⟨w3.heap.size + 1, 0, none⟩) 1 1, .slice (some ⟨w3.heap.size + 1 + 1, 0, none⟩) 1 1] 54)).alloc (.cells #[.int .u32 4] 61)) (some ⟨w3.heap.size + 1 + 1 + 1 + 1, 0, none⟩) (nats .u32 [4]) from At.lit _ _ _ _ _ (by simp <;> omega)).later ((Below.refl _ _).alloc (Nat.le_refl _) (.cells #[.int .u32 7] 61)) (Nat.le_refl _)).later ((Below.refl _ _).alloc (Nat.le_refl _) (.cells #[.slice (some ⟨w3.heap.size + 1 + 1 + 1 + 1, 0, none⟩) 1 1, .slice (some ⟨w3.heap.size + 1 + 1 + 1 + 1 + 1, 0, none⟩) 1 1] 54)) (Nat.le_refl _)))
  have L4_5 := Lib.hid (show At (((((((w3.alloc (.cells #[.int .i64 0, .int .i64 1] 3)).alloc (.cells #[.int .u32 5] 61)).alloc (.cells #[.int .u32 6] 61)).alloc (.cells #[.slice (some ⟨w3.heap.size + 1, 0, none⟩) 1 1, .slice (some ⟨w3.heap.size + 1 + 1, 0, none⟩) 1 1] 54)).alloc (.cells #[.int .u32 4] 61)).alloc (.cells #[.int .u32 7] 61)).alloc (.cells #[.slice (some ⟨w3.heap.size + 1 + 1 + 1 + 1, 0, none⟩) 1 1, .slice (some ⟨w3.heap.size + 1 + 1 + 1 + 1 + 1, 0, none⟩) 1 1] 54)) (some ⟨w3.heap.size + 1 + 1 + 1 + 1 + 1, 0, none⟩) (nats .u32 [7]) from ((show At ((((((w3.alloc (.cells #[.int .i64 0, .int .i64 1] 3)).alloc (.cells #[.int .u32 5] 61)).alloc (.cells #[.int .u32 6] 61)).alloc (.cells #[.slice (some ⟨w3.heap.size + 1, 0, none⟩) 1 1, .slice (some ⟨w3.heap.size + 1 + 1, 0, none⟩) 1 1] 54)).alloc (.cells #[.int .u32 4] 61)).alloc (.cells #[.int .u32 7] 61)) (some ⟨w3.heap.size + 1 + 1 + 1 + 1 + 1, 0, none⟩) (nats .u32 [7]) from At.lit _ _ _ _ _ (by simp <;> omega)).later ((Below.refl _ _).alloc (Nat.le_refl _) (.cells #[.slice (some ⟨w3.heap.size + 1 + 1 + 1 + 1, 0, none⟩) 1 1, .slice (some ⟨w3.heap.size + 1 + 1 + 1 + 1 + 1, 0, none⟩) 1 1] 54)) (Nat.le_refl _)))
  have L4_6 := Lib.hid (show At (((((((w3.alloc (.cells #[.int .i64 0, .int .i64 1] 3)).alloc (.cells #[.int .u32 5] 61)).alloc (.cells #[.int .u32 6] 61)).alloc (.cells #[.slice (some ⟨w3.heap.size + 1, 0, none⟩) 1 1, .slice (some ⟨w3.heap.size + 1 + 1, 0, none⟩) 1 1] 54)).alloc (.cells #[.int .u32 4] 61)).alloc (.cells #[.int .u32 7] 61)).alloc (.cells #[.slice (some ⟨w3.heap.size + 1 + 1 + 1 + 1, 0, none⟩) 1 1, .slice (some ⟨w3.heap.size + 1 + 1 + 1 + 1 + 1, 0, none⟩) 1 1] 54)) (some ⟨w3.heap.size + 1 + 1 + 1 + 1 + 1 + 1, 0, none⟩) [.slice (some ⟨w3.heap.size + 1 + 1 + 1 + 1, 0, none⟩) 1 1, .slice (some ⟨w3.heap.size + 1 + 1 + 1 + 1 + 1, 0, none⟩) 1 1] from (show At (((((((w3.alloc (.cells #[.int .i64 0, .int .i64 1] 3)).alloc (.cells #[.int .u32 5] 61)).alloc (.cells #[.int .u32 6] 61)).alloc (.cells #[.slice (some ⟨w3.heap.size + 1, 0, none⟩) 1 1, .slice (some ⟨w3.heap.size + 1 + 1, 0, none⟩) 1 1] 54)).alloc (.cells #[.int .u32 4] 61)).alloc (.cells #[.int .u32 7] 61)).alloc (.cells #[.slice (some ⟨w3.heap.size + 1 + 1 + 1 + 1, 0, none⟩) 1 1, .slice (some ⟨w3.heap.size + 1 + 1 + 1 + 1 + 1, 0, none⟩) 1 1] 54)) (some ⟨w3.heap.size + 1 + 1 + 1 + 1 + 1 + 1, 0, none⟩) [.slice (some ⟨w3.heap.size + 1 + 1 + 1 + 1, 0, none⟩) 1 1, .slice (some ⟨w3.heap.size + 1 + 1 + 1 + 1 + 1, 0, none⟩) 1 1] from At.lit _ _ _ _ _ (by simp <;> omega)))
  have R4_3 := Lib.hid (rows_2 L4_3.out L4_1.out L4_2.out)
  have R4_6 := Lib.hid (rows_2 L4_6.out L4_4.out L4_5.out)
  generalize (((((((w3.alloc (.cells #[.int .i64 0, .int .i64 1] 3)).alloc (.cells #[.int .u32 5] 61)).alloc (.cells #[.int .u32 6] 61)).alloc (.cells #[.slice (some ⟨w3.heap.size + 1, 0, none⟩) 1 1, .slice (some ⟨w3.heap.size + 1 + 1, 0, none⟩) 1 1] 54)).alloc (.cells #[.int .u32 4] 61)).alloc (.cells #[.int .u32 7] 61)).alloc (.cells #[.slice (some ⟨w3.heap.size + 1 + 1 + 1 + 1, 0, none⟩) 1 1, .slice (some ⟨w3.heap.size + 1 + 1 + 1 + 1 + 1, 0, none⟩) 1 1] 54)) = w4 at bel L4_0 L4_1 L4_2 L4_3 L4_4 L4_5 L4_6 R4_3 R4_6 ⊢
  replace HG := Lib.hid (HG.out.later bel (Nat.le_refl _))
  replace L1_7 := Lib.hid (L1_7.out.later bel (Nat.le_refl _))
  replace R1_2 := Lib.hid (R1_2.out.later bel (Nat.le_refl _))
  replace R1_6 := Lib.hid (R1_6.out.later bel (Nat.le_refl _))
  replace RH := Lib.hid (RH.out.later bel (Nat.le_refl _))
  replace HB := Lib.hid (HB.out.trans (bel.mono HB.out.size))
  clear bel
  clear t0 t1
  go_wp2_with fail
  with_reducible refine (s_mov (some ⟨w.heap.size + 1 + 1, 0, none⟩) 2 _ (some ⟨w.heap.size + 1 + 1 + 1 + 1 + 1 + 1, 0, none⟩) 2 _ (some ⟨w3.heap.size + 1 + 1 + 1, 0, none⟩) 2 _ (some ⟨w3.heap.size + 1 + 1 + 1 + 1 + 1 + 1, 0, none⟩) 2 _ (some ⟨w3.heap.size, 0, none⟩) 2 w4 (Nat.le_refl _) L4_0.out R1_2.out R1_6.out R4_3.out R4_6.out).mono ?_
  rintro e w5 ⟨Am, cm, vm, Bm, dm, um, rfl, hm, hp, bel⟩
  replace HG := Lib.hid (HG.out.later bel (Nat.le_refl _))
  replace L1_7 := Lib.hid (L1_7.out.later bel (Nat.le_refl _))
  replace R1_2 := Lib.hid (R1_2.out.later bel (Nat.le_refl _))
  replace R1_6 := Lib.hid (R1_6.out.later bel (Nat.le_refl _))
  replace RH := Lib.hid (RH.out.later bel (Nat.le_refl _))
  replace L4_0 := Lib.hid (L4_0.out.later bel (Nat.le_refl _))
  replace L4_1 := Lib.hid (L4_1.out.later bel (Nat.le_refl _))
  replace L4_2 := Lib.hid (L4_2.out.later bel (Nat.le_refl _))
  replace L4_3 := Lib.hid (L4_3.out.later bel (Nat.le_refl _))
  replace L4_4 := Lib.hid (L4_4.out.later bel (Nat.le_refl _))
  replace L4_5 := Lib.hid (L4_5.out.later bel (Nat.le_refl _))
  replace L4_6 := Lib.hid (L4_6.out.later bel (Nat.le_refl _))
  replace R4_3 := Lib.hid (R4_3.out.later bel (Nat.le_refl _))
  replace R4_6 := Lib.hid (R4_6.out.later bel (Nat.le_refl _))
  replace HB := Lib.hid (HB.out.trans (bel.mono HB.out.size))
  have RM := Lib.hid hm
  have PM := Lib.hid hp
  clear hm hp
  clear bel
  clear L4_0 L4_1 L4_2 L4_3 L4_4 L4_5 L4_6 R4_3 R4_6
  go_upto_region 4 with fail
  have bel := (show Below w5.heap.size w5 (w5.alloc (.cells #[.slice Am 2 cm, .slice Bm 2 dm] 32)) from ((Below.refl _ _).alloc (by simp) (.cells #[.slice Am 2 cm, .slice Bm 2 dm] 32)))
  have L6_0 := Lib.hid (show Holds (w5.alloc (.cells #[.slice Am 2 cm, .slice Bm 2 dm] 32)) (w5.heap.size) 32 #[.slice Am 2 cm, .slice Bm 2 dm] from (Holds.new w5 32 #[.slice Am 2 cm, .slice Bm 2 dm] (w5.heap.size) (by simp <;> omega)))
  generalize (w5.alloc (.cells #[.slice Am 2 cm, .slice Bm 2 dm] 32)) = w6 at bel L6_0 ⊢
  replace HG := Lib.hid (HG.out.later bel (Nat.le_refl _))
  replace L1_7 := Lib.hid (L1_7.out.later bel (Nat.le_refl _))
  replace R1_2 := Lib.hid (R1_2.out.later bel (Nat.le_refl _))
  replace R1_6 := Lib.hid (R1_6.out.later bel (Nat.le_refl _))
  replace RH := Lib.hid (RH.out.later bel (Nat.le_refl _))
  replace RM := Lib.hid (RM.out.later bel (Nat.le_refl _))
  replace PM := Lib.hid (PM.out.later bel (Nat.le_refl _))
  replace HB := Lib.hid (HB.out.trans (bel.mono HB.out.size))
  clear bel
  have t0 := L1_7.out.cell 0
  have t1 := L1_7.out.cell 1
  simp at t0 t1
  go_wp2_with fail
  have bel := (show Below w6.heap.size w6 (w6.alloc (.cells #[.int .i64 1] 3)) from ((Below.refl _ _).alloc (by simp) (.cells #[.int .i64 1] 3)))
  have L7_0 := Lib.hid (show At (w6.alloc (.cells #[.int .i64 1] 3)) (some ⟨w6.heap.size, 0, none⟩) (ints .i64 [1]) from (show At (w6.alloc (.cells #[.int .i64 1] 3)) (some ⟨w6.heap.size, 0, none⟩) (ints .i64 [1]) from At.lit _ _ _ _ _ (by simp <;> omega)))
  generalize (w6.alloc (.cells #[.int .i64 1] 3)) = w7 at bel L7_0 ⊢
  replace HG := Lib.hid (HG.out.later bel (Nat.le_refl _))
  replace L1_7 := Lib.hid (L1_7.out.later bel (Nat.le_refl _))
  replace R1_2 := Lib.hid (R1_2.out.later bel (Nat.le_refl _))
  replace R1_6 := Lib.hid (R1_6.out.later bel (Nat.le_refl _))
  replace RH := Lib.hid (RH.out.later bel (Nat.le_refl _))
  replace RM := Lib.hid (RM.out.later bel (Nat.le_refl _))
  replace PM := Lib.hid (PM.out.later bel (Nat.le_refl _))
  replace L6_0 := Lib.hid (L6_0.out.later bel (Nat.le_refl _))
  replace HB := Lib.hid (HB.out.trans (bel.mono HB.out.size))
  clear bel
  clear t0 t1
  go_wp2_with fail
  with_reducible refine (s_shown (some ⟨w.heap.size + 1 + 1, 0, none⟩) 2 _ (some ⟨w.heap.size + 1 + 1 + 1 + 1 + 1 + 1, 0, none⟩) 2 _ (some ⟨w6.heap.size, 0, none⟩) 1 w7 L7_0.out R1_2.out R1_6.out).mono ?_
  rintro e w8 ⟨As, cs, vs, Bs, ds, us, rfl, hm, hp, bel⟩
  replace HG := Lib.hid (HG.out.later bel (Nat.le_refl _))
  replace L1_7 := Lib.hid (L1_7.out.later bel (Nat.le_refl _))
  replace R1_2 := Lib.hid (R1_2.out.later bel (Nat.le_refl _))
  replace R1_6 := Lib.hid (R1_6.out.later bel (Nat.le_refl _))
  replace RH := Lib.hid (RH.out.later bel (Nat.le_refl _))
  replace RM := Lib.hid (RM.out.later bel (Nat.le_refl _))
  replace PM := Lib.hid (PM.out.later bel (Nat.le_refl _))
  replace L6_0 := Lib.hid (L6_0.out.later bel (Nat.le_refl _))
  replace L7_0 := Lib.hid (L7_0.out.later bel (Nat.le_refl _))
  replace HB := Lib.hid (HB.out.trans (bel.mono HB.out.size))
  have RS := Lib.hid hm
  have PS := Lib.hid hp
  clear hm hp
  clear bel
  clear L7_0
  go_upto_region 5 with fail
  have bel := (show Below w8.heap.size w8 (w8.alloc (.cells #[.slice As 2 cs, .slice Bs 2 ds] 32)) from ((Below.refl _ _).alloc (by simp) (.cells #[.slice As 2 cs, .slice Bs 2 ds] 32)))
  have L9_0 := Lib.hid (show Holds (w8.alloc (.cells #[.slice As 2 cs, .slice Bs 2 ds] 32)) (w8.heap.size) 32 #[.slice As 2 cs, .slice Bs 2 ds] from (Holds.new w8 32 #[.slice As 2 cs, .slice Bs 2 ds] (w8.heap.size) (by simp <;> omega)))
  generalize (w8.alloc (.cells #[.slice As 2 cs, .slice Bs 2 ds] 32)) = w9 at bel L9_0 ⊢
  replace HG := Lib.hid (HG.out.later bel (Nat.le_refl _))
  replace L1_7 := Lib.hid (L1_7.out.later bel (Nat.le_refl _))
  replace R1_2 := Lib.hid (R1_2.out.later bel (Nat.le_refl _))
  replace R1_6 := Lib.hid (R1_6.out.later bel (Nat.le_refl _))
  replace RH := Lib.hid (RH.out.later bel (Nat.le_refl _))
  replace RM := Lib.hid (RM.out.later bel (Nat.le_refl _))
  replace PM := Lib.hid (PM.out.later bel (Nat.le_refl _))
  replace L6_0 := Lib.hid (L6_0.out.later bel (Nat.le_refl _))
  replace RS := Lib.hid (RS.out.later bel (Nat.le_refl _))
  replace PS := Lib.hid (PS.out.later bel (Nat.le_refl _))
  replace HB := Lib.hid (HB.out.trans (bel.mono HB.out.size))
  clear bel
  have t0 := L1_7.out.cell 0
  have t1 := L1_7.out.cell 1
  simp at t0 t1
  go_wp2_with fail
  have bel := (show Below w9.heap.size w9 (((((((w9.alloc (.cells #[.int .i64 0, .int .i64 1] 3)).alloc (.cells #[.int .u32 5] 61)).alloc (.cells #[.int .u32 6] 61)).alloc (.cells #[.slice (some ⟨w9.heap.size + 1, 0, none⟩) 1 1, .slice (some ⟨w9.heap.size + 1 + 1, 0, none⟩) 1 1] 54)).alloc (.cells #[.int .u32 5] 61)).alloc (.cells #[.int .u32 7] 61)).alloc (.cells #[.slice (some ⟨w9.heap.size + 1 + 1 + 1 + 1, 0, none⟩) 1 1, .slice (some ⟨w9.heap.size + 1 + 1 + 1 + 1 + 1, 0, none⟩) 1 1] 54)) from ((((((((Below.refl _ _).alloc (by simp) (.cells #[.int .i64 0, .int .i64 1] 3)).alloc (by simp) (.cells #[.int .u32 5] 61)).alloc (by simp <;> omega) (.cells #[.int .u32 6] 61)).alloc (by simp <;> omega) (.cells #[.slice (some ⟨w9.heap.size + 1, 0, none⟩) 1 1, .slice (some ⟨w9.heap.size + 1 + 1, 0, none⟩) 1 1] 54)).alloc (by simp <;> omega) (.cells #[.int .u32 5] 61)).alloc (by simp <;> omega) (.cells #[.int .u32 7] 61)).alloc (by simp <;> omega) (.cells #[.slice (some ⟨w9.heap.size + 1 + 1 + 1 + 1, 0, none⟩) 1 1, .slice (some ⟨w9.heap.size + 1 + 1 + 1 + 1 + 1, 0, none⟩) 1 1] 54)))
  have L10_0 := Lib.hid (show At (((((((w9.alloc (.cells #[.int .i64 0, .int .i64 1] 3)).alloc (.cells #[.int .u32 5] 61)).alloc (.cells #[.int .u32 6] 61)).alloc (.cells #[.slice (some ⟨w9.heap.size + 1, 0, none⟩) 1 1, .slice (some ⟨w9.heap.size + 1 + 1, 0, none⟩) 1 1] 54)).alloc (.cells #[.int .u32 5] 61)).alloc (.cells #[.int .u32 7] 61)).alloc (.cells #[.slice (some ⟨w9.heap.size + 1 + 1 + 1 + 1, 0, none⟩) 1 1, .slice (some ⟨w9.heap.size + 1 + 1 + 1 + 1 + 1, 0, none⟩) 1 1] 54)) (some ⟨w9.heap.size, 0, none⟩) (ints .i64 [0, 1]) from (((((((show At (w9.alloc (.cells #[.int .i64 0, .int .i64 1] 3)) (some ⟨w9.heap.size, 0, none⟩) (ints .i64 [0, 1]) from At.lit _ _ _ _ _ (by simp <;> omega)).later ((Below.refl _ _).alloc (Nat.le_refl _) (.cells #[.int .u32 5] 61)) (Nat.le_refl _)).later ((Below.refl _ _).alloc (Nat.le_refl _) (.cells #[.int .u32 6] 61)) (Nat.le_refl _)).later ((Below.refl _ _).alloc (Nat.le_refl _) (.cells #[.slice (some ⟨w9.heap.size + 1, 0, none⟩) 1 1, .slice (some ⟨w9.heap.size + 1 + 1, 0, none⟩) 1 1] 54)) (Nat.le_refl _)).later ((Below.refl _ _).alloc (Nat.le_refl _) (.cells #[.int .u32 5] 61)) (Nat.le_refl _)).later ((Below.refl _ _).alloc (Nat.le_refl _) (.cells #[.int .u32 7] 61)) (Nat.le_refl _)).later ((Below.refl _ _).alloc (Nat.le_refl _) (.cells #[.slice (some ⟨w9.heap.size + 1 + 1 + 1 + 1, 0, none⟩) 1 1, .slice (some ⟨w9.heap.size + 1 + 1 + 1 + 1 + 1, 0, none⟩) 1 1] 54)) (Nat.le_refl _)))
  have L10_1 := Lib.hid (show At (((((((w9.alloc (.cells #[.int .i64 0, .int .i64 1] 3)).alloc (.cells #[.int .u32 5] 61)).alloc (.cells #[.int .u32 6] 61)).alloc (.cells #[.slice (some ⟨w9.heap.size + 1, 0, none⟩) 1 1, .slice (some ⟨w9.heap.size + 1 + 1, 0, none⟩) 1 1] 54)).alloc (.cells #[.int .u32 5] 61)).alloc (.cells #[.int .u32 7] 61)).alloc (.cells #[.slice (some ⟨w9.heap.size + 1 + 1 + 1 + 1, 0, none⟩) 1 1, .slice (some ⟨w9.heap.size + 1 + 1 + 1 + 1 + 1, 0, none⟩) 1 1] 54)) (some ⟨w9.heap.size + 1, 0, none⟩) (nats .u32 [5]) from ((((((show At ((w9.alloc (.cells #[.int .i64 0, .int .i64 1] 3)).alloc (.cells #[.int .u32 5] 61)) (some ⟨w9.heap.size + 1, 0, none⟩) (nats .u32 [5]) from At.lit _ _ _ _ _ (by simp <;> omega)).later ((Below.refl _ _).alloc (Nat.le_refl _) (.cells #[.int .u32 6] 61)) (Nat.le_refl _)).later ((Below.refl _ _).alloc (Nat.le_refl _) (.cells #[.slice (some ⟨w9.heap.size + 1, 0, none⟩) 1 1, .slice (some ⟨w9.heap.size + 1 + 1, 0, none⟩) 1 1] 54)) (Nat.le_refl _)).later ((Below.refl _ _).alloc (Nat.le_refl _) (.cells #[.int .u32 5] 61)) (Nat.le_refl _)).later ((Below.refl _ _).alloc (Nat.le_refl _) (.cells #[.int .u32 7] 61)) (Nat.le_refl _)).later ((Below.refl _ _).alloc (Nat.le_refl _) (.cells #[.slice (some ⟨w9.heap.size + 1 + 1 + 1 + 1, 0, none⟩) 1 1, .slice (some ⟨w9.heap.size + 1 + 1 + 1 + 1 + 1, 0, none⟩) 1 1] 54)) (Nat.le_refl _)))
  have L10_2 := Lib.hid (show At (((((((w9.alloc (.cells #[.int .i64 0, .int .i64 1] 3)).alloc (.cells #[.int .u32 5] 61)).alloc (.cells #[.int .u32 6] 61)).alloc (.cells #[.slice (some ⟨w9.heap.size + 1, 0, none⟩) 1 1, .slice (some ⟨w9.heap.size + 1 + 1, 0, none⟩) 1 1] 54)).alloc (.cells #[.int .u32 5] 61)).alloc (.cells #[.int .u32 7] 61)).alloc (.cells #[.slice (some ⟨w9.heap.size + 1 + 1 + 1 + 1, 0, none⟩) 1 1, .slice (some ⟨w9.heap.size + 1 + 1 + 1 + 1 + 1, 0, none⟩) 1 1] 54)) (some ⟨w9.heap.size + 1 + 1, 0, none⟩) (nats .u32 [6]) from (((((show At (((w9.alloc (.cells #[.int .i64 0, .int .i64 1] 3)).alloc (.cells #[.int .u32 5] 61)).alloc (.cells #[.int .u32 6] 61)) (some ⟨w9.heap.size + 1 + 1, 0, none⟩) (nats .u32 [6]) from At.lit _ _ _ _ _ (by simp <;> omega)).later ((Below.refl _ _).alloc (Nat.le_refl _) (.cells #[.slice (some ⟨w9.heap.size + 1, 0, none⟩) 1 1, .slice (some ⟨w9.heap.size + 1 + 1, 0, none⟩) 1 1] 54)) (Nat.le_refl _)).later ((Below.refl _ _).alloc (Nat.le_refl _) (.cells #[.int .u32 5] 61)) (Nat.le_refl _)).later ((Below.refl _ _).alloc (Nat.le_refl _) (.cells #[.int .u32 7] 61)) (Nat.le_refl _)).later ((Below.refl _ _).alloc (Nat.le_refl _) (.cells #[.slice (some ⟨w9.heap.size + 1 + 1 + 1 + 1, 0, none⟩) 1 1, .slice (some ⟨w9.heap.size + 1 + 1 + 1 + 1 + 1, 0, none⟩) 1 1] 54)) (Nat.le_refl _)))
  have L10_3 := Lib.hid (show At (((((((w9.alloc (.cells #[.int .i64 0, .int .i64 1] 3)).alloc (.cells #[.int .u32 5] 61)).alloc (.cells #[.int .u32 6] 61)).alloc (.cells #[.slice (some ⟨w9.heap.size + 1, 0, none⟩) 1 1, .slice (some ⟨w9.heap.size + 1 + 1, 0, none⟩) 1 1] 54)).alloc (.cells #[.int .u32 5] 61)).alloc (.cells #[.int .u32 7] 61)).alloc (.cells #[.slice (some ⟨w9.heap.size + 1 + 1 + 1 + 1, 0, none⟩) 1 1, .slice (some ⟨w9.heap.size + 1 + 1 + 1 + 1 + 1, 0, none⟩) 1 1] 54)) (some ⟨w9.heap.size + 1 + 1 + 1, 0, none⟩) [.slice (some ⟨w9.heap.size + 1, 0, none⟩) 1 1, .slice (some ⟨w9.heap.size + 1 + 1, 0, none⟩) 1 1] from ((((show At ((((w9.alloc (.cells #[.int .i64 0, .int .i64 1] 3)).alloc (.cells #[.int .u32 5] 61)).alloc (.cells #[.int .u32 6] 61)).alloc (.cells #[.slice (some ⟨w9.heap.size + 1, 0, none⟩) 1 1, .slice (some ⟨w9.heap.size + 1 + 1, 0, none⟩) 1 1] 54)) (some ⟨w9.heap.size + 1 + 1 + 1, 0, none⟩) [.slice (some ⟨w9.heap.size + 1, 0, none⟩) 1 1, .slice (some ⟨w9.heap.size + 1 + 1, 0, none⟩) 1 1] from At.lit _ _ _ _ _ (by simp <;> omega)).later ((Below.refl _ _).alloc (Nat.le_refl _) (.cells #[.int .u32 5] 61)) (Nat.le_refl _)).later ((Below.refl _ _).alloc (Nat.le_refl _) (.cells #[.int .u32 7] 61)) (Nat.le_refl _)).later ((Below.refl _ _).alloc (Nat.le_refl _) (.cells #[.slice (some ⟨w9.heap.size + 1 + 1 + 1 + 1, 0, none⟩) 1 1, .slice (some ⟨w9.heap.size + 1 + 1 + 1 + 1 + 1, 0, none⟩) 1 1] 54)) (Nat.le_refl _)))
  have L10_4 := Lib.hid (show At (((((((w9.alloc (.cells #[.int .i64 0, .int .i64 1] 3)).alloc (.cells #[.int .u32 5] 61)).alloc (.cells #[.int .u32 6] 61)).alloc (.cells #[.slice (some ⟨w9.heap.size + 1, 0, none⟩) 1 1, .slice (some ⟨w9.heap.size + 1 + 1, 0, none⟩) 1 1] 54)).alloc (.cells #[.int .u32 5] 61)).alloc (.cells #[.int .u32 7] 61)).alloc (.cells #[.slice (some ⟨w9.heap.size + 1 + 1 + 1 + 1, 0, none⟩) 1 1, .slice (some ⟨w9.heap.size + 1 + 1 + 1 + 1 + 1, 0, none⟩) 1 1] 54)) (some ⟨w9.heap.size + 1 + 1 + 1 + 1, 0, none⟩) (nats .u32 [5]) from (((show At (((((w9.alloc (.cells #[.int .i64 0, .int .i64 1] 3)).alloc (.cells #[.int .u32 5] 61)).alloc (.cells #[.int .u32 6] 61)).alloc (.cells #[.slice (some ⟨w9.heap.size + 1, 0, none⟩) 1 1, .slice (some ⟨w9.heap.size + 1 + 1, 0, none⟩) 1 1] 54)).alloc (.cells #[.int .u32 5] 61)) (some ⟨w9.heap.size + 1 + 1 + 1 + 1, 0, none⟩) (nats .u32 [5]) from At.lit _ _ _ _ _ (by simp <;> omega)).later ((Below.refl _ _).alloc (Nat.le_refl _) (.cells #[.int .u32 7] 61)) (Nat.le_refl _)).later ((Below.refl _ _).alloc (Nat.le_refl _) (.cells #[.slice (some ⟨w9.heap.size + 1 + 1 + 1 + 1, 0, none⟩) 1 1, .slice (some ⟨w9.heap.size + 1 + 1 + 1 + 1 + 1, 0, none⟩) 1 1] 54)) (Nat.le_refl _)))
  have L10_5 := Lib.hid (show At (((((((w9.alloc (.cells #[.int .i64 0, .int .i64 1] 3)).alloc (.cells #[.int .u32 5] 61)).alloc (.cells #[.int .u32 6] 61)).alloc (.cells #[.slice (some ⟨w9.heap.size + 1, 0, none⟩) 1 1, .slice (some ⟨w9.heap.size + 1 + 1, 0, none⟩) 1 1] 54)).alloc (.cells #[.int .u32 5] 61)).alloc (.cells #[.int .u32 7] 61)).alloc (.cells #[.slice (some ⟨w9.heap.size + 1 + 1 + 1 + 1, 0, none⟩) 1 1, .slice (some ⟨w9.heap.size + 1 + 1 + 1 + 1 + 1, 0, none⟩) 1 1] 54)) (some ⟨w9.heap.size + 1 + 1 + 1 + 1 + 1, 0, none⟩) (nats .u32 [7]) from ((show At ((((((w9.alloc (.cells #[.int .i64 0, .int .i64 1] 3)).alloc (.cells #[.int .u32 5] 61)).alloc (.cells #[.int .u32 6] 61)).alloc (.cells #[.slice (some ⟨w9.heap.size + 1, 0, none⟩) 1 1, .slice (some ⟨w9.heap.size + 1 + 1, 0, none⟩) 1 1] 54)).alloc (.cells #[.int .u32 5] 61)).alloc (.cells #[.int .u32 7] 61)) (some ⟨w9.heap.size + 1 + 1 + 1 + 1 + 1, 0, none⟩) (nats .u32 [7]) from At.lit _ _ _ _ _ (by simp <;> omega)).later ((Below.refl _ _).alloc (Nat.le_refl _) (.cells #[.slice (some ⟨w9.heap.size + 1 + 1 + 1 + 1, 0, none⟩) 1 1, .slice (some ⟨w9.heap.size + 1 + 1 + 1 + 1 + 1, 0, none⟩) 1 1] 54)) (Nat.le_refl _)))
  have L10_6 := Lib.hid (show At (((((((w9.alloc (.cells #[.int .i64 0, .int .i64 1] 3)).alloc (.cells #[.int .u32 5] 61)).alloc (.cells #[.int .u32 6] 61)).alloc (.cells #[.slice (some ⟨w9.heap.size + 1, 0, none⟩) 1 1, .slice (some ⟨w9.heap.size + 1 + 1, 0, none⟩) 1 1] 54)).alloc (.cells #[.int .u32 5] 61)).alloc (.cells #[.int .u32 7] 61)).alloc (.cells #[.slice (some ⟨w9.heap.size + 1 + 1 + 1 + 1, 0, none⟩) 1 1, .slice (some ⟨w9.heap.size + 1 + 1 + 1 + 1 + 1, 0, none⟩) 1 1] 54)) (some ⟨w9.heap.size + 1 + 1 + 1 + 1 + 1 + 1, 0, none⟩) [.slice (some ⟨w9.heap.size + 1 + 1 + 1 + 1, 0, none⟩) 1 1, .slice (some ⟨w9.heap.size + 1 + 1 + 1 + 1 + 1, 0, none⟩) 1 1] from (show At (((((((w9.alloc (.cells #[.int .i64 0, .int .i64 1] 3)).alloc (.cells #[.int .u32 5] 61)).alloc (.cells #[.int .u32 6] 61)).alloc (.cells #[.slice (some ⟨w9.heap.size + 1, 0, none⟩) 1 1, .slice (some ⟨w9.heap.size + 1 + 1, 0, none⟩) 1 1] 54)).alloc (.cells #[.int .u32 5] 61)).alloc (.cells #[.int .u32 7] 61)).alloc (.cells #[.slice (some ⟨w9.heap.size + 1 + 1 + 1 + 1, 0, none⟩) 1 1, .slice (some ⟨w9.heap.size + 1 + 1 + 1 + 1 + 1, 0, none⟩) 1 1] 54)) (some ⟨w9.heap.size + 1 + 1 + 1 + 1 + 1 + 1, 0, none⟩) [.slice (some ⟨w9.heap.size + 1 + 1 + 1 + 1, 0, none⟩) 1 1, .slice (some ⟨w9.heap.size + 1 + 1 + 1 + 1 + 1, 0, none⟩) 1 1] from At.lit _ _ _ _ _ (by simp <;> omega)))
  have R10_3 := Lib.hid (rows_2 L10_3.out L10_1.out L10_2.out)
  have R10_6 := Lib.hid (rows_2 L10_6.out L10_4.out L10_5.out)
  generalize (((((((w9.alloc (.cells #[.int .i64 0, .int .i64 1] 3)).alloc (.cells #[.int .u32 5] 61)).alloc (.cells #[.int .u32 6] 61)).alloc (.cells #[.slice (some ⟨w9.heap.size + 1, 0, none⟩) 1 1, .slice (some ⟨w9.heap.size + 1 + 1, 0, none⟩) 1 1] 54)).alloc (.cells #[.int .u32 5] 61)).alloc (.cells #[.int .u32 7] 61)).alloc (.cells #[.slice (some ⟨w9.heap.size + 1 + 1 + 1 + 1, 0, none⟩) 1 1, .slice (some ⟨w9.heap.size + 1 + 1 + 1 + 1 + 1, 0, none⟩) 1 1] 54)) = w10 at bel L10_0 L10_1 L10_2 L10_3 L10_4 L10_5 L10_6 R10_3 R10_6 ⊢
  replace HG := Lib.hid (HG.out.later bel (Nat.le_refl _))
  replace L1_7 := Lib.hid (L1_7.out.later bel (Nat.le_refl _))
  replace R1_2 := Lib.hid (R1_2.out.later bel (Nat.le_refl _))
  replace R1_6 := Lib.hid (R1_6.out.later bel (Nat.le_refl _))
  replace RH := Lib.hid (RH.out.later bel (Nat.le_refl _))
  replace RM := Lib.hid (RM.out.later bel (Nat.le_refl _))
  replace PM := Lib.hid (PM.out.later bel (Nat.le_refl _))
  replace L6_0 := Lib.hid (L6_0.out.later bel (Nat.le_refl _))
  replace RS := Lib.hid (RS.out.later bel (Nat.le_refl _))
  replace PS := Lib.hid (PS.out.later bel (Nat.le_refl _))
  replace L9_0 := Lib.hid (L9_0.out.later bel (Nat.le_refl _))
  replace HB := Lib.hid (HB.out.trans (bel.mono HB.out.size))
  clear bel
  clear t0 t1
  go_wp2_with fail
  with_reducible refine (s_movno (some ⟨w.heap.size + 1 + 1, 0, none⟩) 2 _ (some ⟨w.heap.size + 1 + 1 + 1 + 1 + 1 + 1, 0, none⟩) 2 _ (some ⟨w9.heap.size + 1 + 1 + 1, 0, none⟩) 2 _ (some ⟨w9.heap.size + 1 + 1 + 1 + 1 + 1 + 1, 0, none⟩) 2 _ (some ⟨w9.heap.size, 0, none⟩) 2 w10 (Nat.le_refl _) L10_0.out R1_2.out R1_6.out R10_3.out R10_6.out).mono ?_
  rintro e w11 ⟨rfl, bel⟩
  replace HG := Lib.hid (HG.out.later bel (Nat.le_refl _))
  replace L1_7 := Lib.hid (L1_7.out.later bel (Nat.le_refl _))
  replace R1_2 := Lib.hid (R1_2.out.later bel (Nat.le_refl _))
  replace R1_6 := Lib.hid (R1_6.out.later bel (Nat.le_refl _))
  replace RH := Lib.hid (RH.out.later bel (Nat.le_refl _))
  replace RM := Lib.hid (RM.out.later bel (Nat.le_refl _))
  replace PM := Lib.hid (PM.out.later bel (Nat.le_refl _))
  replace L6_0 := Lib.hid (L6_0.out.later bel (Nat.le_refl _))
  replace RS := Lib.hid (RS.out.later bel (Nat.le_refl _))
  replace PS := Lib.hid (PS.out.later bel (Nat.le_refl _))
  replace L9_0 := Lib.hid (L9_0.out.later bel (Nat.le_refl _))
  replace L10_0 := Lib.hid (L10_0.out.later bel (Nat.le_refl _))
  replace L10_1 := Lib.hid (L10_1.out.later bel (Nat.le_refl _))
  replace L10_2 := Lib.hid (L10_2.out.later bel (Nat.le_refl _))
  replace L10_3 := Lib.hid (L10_3.out.later bel (Nat.le_refl _))
  replace L10_4 := Lib.hid (L10_4.out.later bel (Nat.le_refl _))
  replace L10_5 := Lib.hid (L10_5.out.later bel (Nat.le_refl _))
  replace L10_6 := Lib.hid (L10_6.out.later bel (Nat.le_refl _))
  replace R10_3 := Lib.hid (R10_3.out.later bel (Nat.le_refl _))
  replace R10_6 := Lib.hid (R10_6.out.later bel (Nat.le_refl _))
  replace HB := Lib.hid (HB.out.trans (bel.mono HB.out.size))
  clear bel
  clear L10_0 L10_1 L10_2 L10_3 L10_4 L10_5 L10_6 R10_3 R10_6
  go_upto_region 6 with fail
  have bel := (show Below w11.heap.size w11 (w11.alloc (.cells #[.slice none 0 0, .slice none 0 0] 32)) from ((Below.refl _ _).alloc (by simp) (.cells #[.slice none 0 0, .slice none 0 0] 32)))
  have L12_0 := Lib.hid (show Holds (w11.alloc (.cells #[.slice none 0 0, .slice none 0 0] 32)) (w11.heap.size) 32 #[.slice none 0 0, .slice none 0 0] from (Holds.new w11 32 #[.slice none 0 0, .slice none 0 0] (w11.heap.size) (by simp <;> omega)))
  generalize (w11.alloc (.cells #[.slice none 0 0, .slice none 0 0] 32)) = w12 at bel L12_0 ⊢
  replace HG := Lib.hid (HG.out.later bel (Nat.le_refl _))
  replace L1_7 := Lib.hid (L1_7.out.later bel (Nat.le_refl _))
  replace R1_2 := Lib.hid (R1_2.out.later bel (Nat.le_refl _))
  replace R1_6 := Lib.hid (R1_6.out.later bel (Nat.le_refl _))
  replace RH := Lib.hid (RH.out.later bel (Nat.le_refl _))
  replace RM := Lib.hid (RM.out.later bel (Nat.le_refl _))
  replace PM := Lib.hid (PM.out.later bel (Nat.le_refl _))
  replace L6_0 := Lib.hid (L6_0.out.later bel (Nat.le_refl _))
  replace RS := Lib.hid (RS.out.later bel (Nat.le_refl _))
  replace PS := Lib.hid (PS.out.later bel (Nat.le_refl _))
  replace L9_0 := Lib.hid (L9_0.out.later bel (Nat.le_refl _))
  replace HB := Lib.hid (HB.out.trans (bel.mono HB.out.size))
  clear bel
  clear L12_0
  have t0 := L1_7.out.cell 0
  have t1 := L1_7.out.cell 1
  simp at t0 t1
  go_wp2_with fail
  have bel := (show Below w12.heap.size w12 ((w12.alloc (.cells #[.int .u32 5] 61)).alloc (.cells #[.slice (some ⟨w12.heap.size, 0, none⟩) 1 1] 54)) from (((Below.refl _ _).alloc (by simp) (.cells #[.int .u32 5] 61)).alloc (by simp) (.cells #[.slice (some ⟨w12.heap.size, 0, none⟩) 1 1] 54)))
  have L13_0 := Lib.hid (show At ((w12.alloc (.cells #[.int .u32 5] 61)).alloc (.cells #[.slice (some ⟨w12.heap.size, 0, none⟩) 1 1] 54)) (some ⟨w12.heap.size, 0, none⟩) (nats .u32 [5]) from ((show At (w12.alloc (.cells #[.int .u32 5] 61)) (some ⟨w12.heap.size, 0, none⟩) (nats .u32 [5]) from At.lit _ _ _ _ _ (by simp <;> omega)).later ((Below.refl _ _).alloc (Nat.le_refl _) (.cells #[.slice (some ⟨w12.heap.size, 0, none⟩) 1 1] 54)) (Nat.le_refl _)))
  have L13_1 := Lib.hid (show At ((w12.alloc (.cells #[.int .u32 5] 61)).alloc (.cells #[.slice (some ⟨w12.heap.size, 0, none⟩) 1 1] 54)) (some ⟨w12.heap.size + 1, 0, none⟩) [.slice (some ⟨w12.heap.size, 0, none⟩) 1 1] from (show At ((w12.alloc (.cells #[.int .u32 5] 61)).alloc (.cells #[.slice (some ⟨w12.heap.size, 0, none⟩) 1 1] 54)) (some ⟨w12.heap.size + 1, 0, none⟩) [.slice (some ⟨w12.heap.size, 0, none⟩) 1 1] from At.lit _ _ _ _ _ (by simp <;> omega)))
  have R13_1 := Lib.hid (rows_1 L13_1.out L13_0.out)
  generalize ((w12.alloc (.cells #[.int .u32 5] 61)).alloc (.cells #[.slice (some ⟨w12.heap.size, 0, none⟩) 1 1] 54)) = w13 at bel L13_0 L13_1 R13_1 ⊢
  replace HG := Lib.hid (HG.out.later bel (Nat.le_refl _))
  replace L1_7 := Lib.hid (L1_7.out.later bel (Nat.le_refl _))
  replace R1_2 := Lib.hid (R1_2.out.later bel (Nat.le_refl _))
  replace R1_6 := Lib.hid (R1_6.out.later bel (Nat.le_refl _))
  replace RH := Lib.hid (RH.out.later bel (Nat.le_refl _))
  replace RM := Lib.hid (RM.out.later bel (Nat.le_refl _))
  replace PM := Lib.hid (PM.out.later bel (Nat.le_refl _))
  replace L6_0 := Lib.hid (L6_0.out.later bel (Nat.le_refl _))
  replace RS := Lib.hid (RS.out.later bel (Nat.le_refl _))
  replace PS := Lib.hid (PS.out.later bel (Nat.le_refl _))
  replace L9_0 := Lib.hid (L9_0.out.later bel (Nat.le_refl _))
  replace HB := Lib.hid (HB.out.trans (bel.mono HB.out.size))
  clear bel
  clear t0 t1
  go_wp2_with fail
  with_reducible refine (s_hidno (some ⟨w.heap.size + 1 + 1, 0, none⟩) 2 _ (some ⟨w.heap.size + 1 + 1 + 1 + 1 + 1 + 1, 0, none⟩) 2 _ (some ⟨w12.heap.size + 1, 0, none⟩) 1 _ w13 R1_2.out R1_6.out R13_1.out).mono ?_
  rintro e w14 ⟨rfl, bel⟩
  replace HG := Lib.hid (HG.out.later bel (Nat.le_refl _))
  replace L1_7 := Lib.hid (L1_7.out.later bel (Nat.le_refl _))
  replace R1_2 := Lib.hid (R1_2.out.later bel (Nat.le_refl _))
  replace R1_6 := Lib.hid (R1_6.out.later bel (Nat.le_refl _))
  replace RH := Lib.hid (RH.out.later bel (Nat.le_refl _))
  replace RM := Lib.hid (RM.out.later bel (Nat.le_refl _))
  replace PM := Lib.hid (PM.out.later bel (Nat.le_refl _))
  replace L6_0 := Lib.hid (L6_0.out.later bel (Nat.le_refl _))
  replace RS := Lib.hid (RS.out.later bel (Nat.le_refl _))
  replace PS := Lib.hid (PS.out.later bel (Nat.le_refl _))
  replace L9_0 := Lib.hid (L9_0.out.later bel (Nat.le_refl _))
  replace L13_0 := Lib.hid (L13_0.out.later bel (Nat.le_refl _))
  replace L13_1 := Lib.hid (L13_1.out.later bel (Nat.le_refl _))
  replace R13_1 := Lib.hid (R13_1.out.later bel (Nat.le_refl _))
  replace HB := Lib.hid (HB.out.trans (bel.mono HB.out.size))
  clear bel
  clear L1_7 R1_2 R1_6 L13_0 L13_1 R13_1
  go_upto_region 7 with fail
  have m0 := L6_0.out.cell 0
  have m1 := L6_0.out.cell 1
  simp at m0 m1
  have s0 := L9_0.out.cell 0
  have s1 := L9_0.out.cell 1
  simp at s0 s1
  go_wp2_with fail
  have bel := (show Below w14.heap.size w14 (((w14.alloc (.cells #[.int .u32 16] 61)).alloc (.cells #[.int .u32 4294967294] 61)).alloc (.cells #[.slice (some ⟨w14.heap.size, 0, none⟩) 1 1, .slice (some ⟨w14.heap.size + 1, 0, none⟩) 1 1] 54)) from ((((Below.refl _ _).alloc (by simp) (.cells #[.int .u32 16] 61)).alloc (by simp) (.cells #[.int .u32 4294967294] 61)).alloc (by simp <;> omega) (.cells #[.slice (some ⟨w14.heap.size, 0, none⟩) 1 1, .slice (some ⟨w14.heap.size + 1, 0, none⟩) 1 1] 54)))
  have L15_0 := Lib.hid (show At (((w14.alloc (.cells #[.int .u32 16] 61)).alloc (.cells #[.int .u32 4294967294] 61)).alloc (.cells #[.slice (some ⟨w14.heap.size, 0, none⟩) 1 1, .slice (some ⟨w14.heap.size + 1, 0, none⟩) 1 1] 54)) (some ⟨w14.heap.size, 0, none⟩) (nats .u32 [16]) from (((show At (w14.alloc (.cells #[.int .u32 16] 61)) (some ⟨w14.heap.size, 0, none⟩) (nats .u32 [16]) from At.lit _ _ _ _ _ (by simp <;> omega)).later ((Below.refl _ _).alloc (Nat.le_refl _) (.cells #[.int .u32 4294967294] 61)) (Nat.le_refl _)).later ((Below.refl _ _).alloc (Nat.le_refl _) (.cells #[.slice (some ⟨w14.heap.size, 0, none⟩) 1 1, .slice (some ⟨w14.heap.size + 1, 0, none⟩) 1 1] 54)) (Nat.le_refl _)))
  have L15_1 := Lib.hid (show At (((w14.alloc (.cells #[.int .u32 16] 61)).alloc (.cells #[.int .u32 4294967294] 61)).alloc (.cells #[.slice (some ⟨w14.heap.size, 0, none⟩) 1 1, .slice (some ⟨w14.heap.size + 1, 0, none⟩) 1 1] 54)) (some ⟨w14.heap.size + 1, 0, none⟩) (nats .u32 [4294967294]) from ((show At ((w14.alloc (.cells #[.int .u32 16] 61)).alloc (.cells #[.int .u32 4294967294] 61)) (some ⟨w14.heap.size + 1, 0, none⟩) (nats .u32 [4294967294]) from At.lit _ _ _ _ _ (by simp <;> omega)).later ((Below.refl _ _).alloc (Nat.le_refl _) (.cells #[.slice (some ⟨w14.heap.size, 0, none⟩) 1 1, .slice (some ⟨w14.heap.size + 1, 0, none⟩) 1 1] 54)) (Nat.le_refl _)))
  have L15_2 := Lib.hid (show At (((w14.alloc (.cells #[.int .u32 16] 61)).alloc (.cells #[.int .u32 4294967294] 61)).alloc (.cells #[.slice (some ⟨w14.heap.size, 0, none⟩) 1 1, .slice (some ⟨w14.heap.size + 1, 0, none⟩) 1 1] 54)) (some ⟨w14.heap.size + 1 + 1, 0, none⟩) [.slice (some ⟨w14.heap.size, 0, none⟩) 1 1, .slice (some ⟨w14.heap.size + 1, 0, none⟩) 1 1] from (show At (((w14.alloc (.cells #[.int .u32 16] 61)).alloc (.cells #[.int .u32 4294967294] 61)).alloc (.cells #[.slice (some ⟨w14.heap.size, 0, none⟩) 1 1, .slice (some ⟨w14.heap.size + 1, 0, none⟩) 1 1] 54)) (some ⟨w14.heap.size + 1 + 1, 0, none⟩) [.slice (some ⟨w14.heap.size, 0, none⟩) 1 1, .slice (some ⟨w14.heap.size + 1, 0, none⟩) 1 1] from At.lit _ _ _ _ _ (by simp <;> omega)))
  have R15_2 := Lib.hid (rows_2 L15_2.out L15_0.out L15_1.out)
  generalize (((w14.alloc (.cells #[.int .u32 16] 61)).alloc (.cells #[.int .u32 4294967294] 61)).alloc (.cells #[.slice (some ⟨w14.heap.size, 0, none⟩) 1 1, .slice (some ⟨w14.heap.size + 1, 0, none⟩) 1 1] 54)) = w15 at bel L15_0 L15_1 L15_2 R15_2 ⊢
  replace HG := Lib.hid (HG.out.later bel (Nat.le_refl _))
  replace RH := Lib.hid (RH.out.later bel (Nat.le_refl _))
  replace RM := Lib.hid (RM.out.later bel (Nat.le_refl _))
  replace PM := Lib.hid (PM.out.later bel (Nat.le_refl _))
  replace L6_0 := Lib.hid (L6_0.out.later bel (Nat.le_refl _))
  replace RS := Lib.hid (RS.out.later bel (Nat.le_refl _))
  replace PS := Lib.hid (PS.out.later bel (Nat.le_refl _))
  replace L9_0 := Lib.hid (L9_0.out.later bel (Nat.le_refl _))
  replace HB := Lib.hid (HB.out.trans (bel.mono HB.out.size))
  clear bel
  clear m0 m1 s0 s1
  go_wp2_with fail
  with_reducible refine (rows_yes (lrows_any Ah 2 ch vh (some ⟨w14.heap.size + 1 + 1, 0, none⟩) 2 2 _ [[16], [4294967294]] [[16], [4294967294]] w15 rfl (by decide) RH.out rfl (by decide) R15_2.out) (by decide)).mono ?_
  rintro e w16 ⟨rfl, bel⟩
  replace HG := Lib.hid (HG.out.later bel (Nat.le_refl _))
  replace RH := Lib.hid (RH.out.later bel (Nat.le_refl _))
  replace RM := Lib.hid (RM.out.later bel (Nat.le_refl _))
  replace PM := Lib.hid (PM.out.later bel (Nat.le_refl _))
  replace L6_0 := Lib.hid (L6_0.out.later bel (Nat.le_refl _))
  replace RS := Lib.hid (RS.out.later bel (Nat.le_refl _))
  replace PS := Lib.hid (PS.out.later bel (Nat.le_refl _))
  replace L9_0 := Lib.hid (L9_0.out.later bel (Nat.le_refl _))
  replace L15_0 := Lib.hid (L15_0.out.later bel (Nat.le_refl _))
  replace L15_1 := Lib.hid (L15_1.out.later bel (Nat.le_refl _))
  replace L15_2 := Lib.hid (L15_2.out.later bel (Nat.le_refl _))
  replace R15_2 := Lib.hid (R15_2.out.later bel (Nat.le_refl _))
  replace HB := Lib.hid (HB.out.trans (bel.mono HB.out.size))
  clear bel
  clear RH L15_0 L15_1 L15_2 R15_2
  have m0 := L6_0.out.cell 0
  have m1 := L6_0.out.cell 1
  simp at m0 m1
  have s0 := L9_0.out.cell 0
  have s1 := L9_0.out.cell 1
  simp at s0 s1
  go_wp2_with fail
  have bel := (show Below w16.heap.size w16 (((((((w16.alloc (.cells #[.int .u32 1] 61)).alloc (.cells #[.int .u32 2] 61)).alloc (.cells #[.slice (some ⟨w16.heap.size, 0, none⟩) 1 1, .slice (some ⟨w16.heap.size + 1, 0, none⟩) 1 1] 54)).alloc (.cells #[.int .u32 11] 61)).alloc (.cells #[.slice (some ⟨w16.heap.size + 1 + 1 + 1, 0, none⟩) 1 1] 54)).alloc (.cells #[] 54)).alloc (.cells #[.slice (some ⟨w16.heap.size + 1 + 1 + 1 + 1, 0, none⟩) 1 1, .slice (some ⟨w16.heap.size + 1 + 1 + 1 + 1 + 1, 0, none⟩) 0 0] 22)) from ((((((((Below.refl _ _).alloc (by simp) (.cells #[.int .u32 1] 61)).alloc (by simp) (.cells #[.int .u32 2] 61)).alloc (by simp <;> omega) (.cells #[.slice (some ⟨w16.heap.size, 0, none⟩) 1 1, .slice (some ⟨w16.heap.size + 1, 0, none⟩) 1 1] 54)).alloc (by simp <;> omega) (.cells #[.int .u32 11] 61)).alloc (by simp <;> omega) (.cells #[.slice (some ⟨w16.heap.size + 1 + 1 + 1, 0, none⟩) 1 1] 54)).alloc (by simp <;> omega) (.cells #[] 54)).alloc (by simp <;> omega) (.cells #[.slice (some ⟨w16.heap.size + 1 + 1 + 1 + 1, 0, none⟩) 1 1, .slice (some ⟨w16.heap.size + 1 + 1 + 1 + 1 + 1, 0, none⟩) 0 0] 22)))
  have L17_0 := Lib.hid (show At (((((((w16.alloc (.cells #[.int .u32 1] 61)).alloc (.cells #[.int .u32 2] 61)).alloc (.cells #[.slice (some ⟨w16.heap.size, 0, none⟩) 1 1, .slice (some ⟨w16.heap.size + 1, 0, none⟩) 1 1] 54)).alloc (.cells #[.int .u32 11] 61)).alloc (.cells #[.slice (some ⟨w16.heap.size + 1 + 1 + 1, 0, none⟩) 1 1] 54)).alloc (.cells #[] 54)).alloc (.cells #[.slice (some ⟨w16.heap.size + 1 + 1 + 1 + 1, 0, none⟩) 1 1, .slice (some ⟨w16.heap.size + 1 + 1 + 1 + 1 + 1, 0, none⟩) 0 0] 22)) (some ⟨w16.heap.size, 0, none⟩) (nats .u32 [1]) from (((((((show At (w16.alloc (.cells #[.int .u32 1] 61)) (some ⟨w16.heap.size, 0, none⟩) (nats .u32 [1]) from At.lit _ _ _ _ _ (by simp <;> omega)).later ((Below.refl _ _).alloc (Nat.le_refl _) (.cells #[.int .u32 2] 61)) (Nat.le_refl _)).later ((Below.refl _ _).alloc (Nat.le_refl _) (.cells #[.slice (some ⟨w16.heap.size, 0, none⟩) 1 1, .slice (some ⟨w16.heap.size + 1, 0, none⟩) 1 1] 54)) (Nat.le_refl _)).later ((Below.refl _ _).alloc (Nat.le_refl _) (.cells #[.int .u32 11] 61)) (Nat.le_refl _)).later ((Below.refl _ _).alloc (Nat.le_refl _) (.cells #[.slice (some ⟨w16.heap.size + 1 + 1 + 1, 0, none⟩) 1 1] 54)) (Nat.le_refl _)).later ((Below.refl _ _).alloc (Nat.le_refl _) (.cells #[] 54)) (Nat.le_refl _)).later ((Below.refl _ _).alloc (Nat.le_refl _) (.cells #[.slice (some ⟨w16.heap.size + 1 + 1 + 1 + 1, 0, none⟩) 1 1, .slice (some ⟨w16.heap.size + 1 + 1 + 1 + 1 + 1, 0, none⟩) 0 0] 22)) (Nat.le_refl _)))
  have L17_1 := Lib.hid (show At (((((((w16.alloc (.cells #[.int .u32 1] 61)).alloc (.cells #[.int .u32 2] 61)).alloc (.cells #[.slice (some ⟨w16.heap.size, 0, none⟩) 1 1, .slice (some ⟨w16.heap.size + 1, 0, none⟩) 1 1] 54)).alloc (.cells #[.int .u32 11] 61)).alloc (.cells #[.slice (some ⟨w16.heap.size + 1 + 1 + 1, 0, none⟩) 1 1] 54)).alloc (.cells #[] 54)).alloc (.cells #[.slice (some ⟨w16.heap.size + 1 + 1 + 1 + 1, 0, none⟩) 1 1, .slice (some ⟨w16.heap.size + 1 + 1 + 1 + 1 + 1, 0, none⟩) 0 0] 22)) (some ⟨w16.heap.size + 1, 0, none⟩) (nats .u32 [2]) from ((((((show At ((w16.alloc (.cells #[.int .u32 1] 61)).alloc (.cells #[.int .u32 2] 61)) (some ⟨w16.heap.size + 1, 0, none⟩) (nats .u32 [2]) from At.lit _ _ _ _ _ (by simp <;> omega)).later ((Below.refl _ _).alloc (Nat.le_refl _) (.cells #[.slice (some ⟨w16.heap.size, 0, none⟩) 1 1, .slice (some ⟨w16.heap.size + 1, 0, none⟩) 1 1] 54)) (Nat.le_refl _)).later ((Below.refl _ _).alloc (Nat.le_refl _) (.cells #[.int .u32 11] 61)) (Nat.le_refl _)).later ((Below.refl _ _).alloc (Nat.le_refl _) (.cells #[.slice (some ⟨w16.heap.size + 1 + 1 + 1, 0, none⟩) 1 1] 54)) (Nat.le_refl _)).later ((Below.refl _ _).alloc (Nat.le_refl _) (.cells #[] 54)) (Nat.le_refl _)).later ((Below.refl _ _).alloc (Nat.le_refl _) (.cells #[.slice (some ⟨w16.heap.size + 1 + 1 + 1 + 1, 0, none⟩) 1 1, .slice (some ⟨w16.heap.size + 1 + 1 + 1 + 1 + 1, 0, none⟩) 0 0] 22)) (Nat.le_refl _)))
  have L17_2 := Lib.hid (show At (((((((w16.alloc (.cells #[.int .u32 1] 61)).alloc (.cells #[.int .u32 2] 61)).alloc (.cells #[.slice (some ⟨w16.heap.size, 0, none⟩) 1 1, .slice (some ⟨w16.heap.size + 1, 0, none⟩) 1 1] 54)).alloc (.cells #[.int .u32 11] 61)).alloc (.cells #[.slice (some ⟨w16.heap.size + 1 + 1 + 1, 0, none⟩) 1 1] 54)).alloc (.cells #[] 54)).alloc (.cells #[.slice (some ⟨w16.heap.size + 1 + 1 + 1 + 1, 0, none⟩) 1 1, .slice (some ⟨w16.heap.size + 1 + 1 + 1 + 1 + 1, 0, none⟩) 0 0] 22)) (some ⟨w16.heap.size + 1 + 1, 0, none⟩) [.slice (some ⟨w16.heap.size, 0, none⟩) 1 1, .slice (some ⟨w16.heap.size + 1, 0, none⟩) 1 1] from (((((show At (((w16.alloc (.cells #[.int .u32 1] 61)).alloc (.cells #[.int .u32 2] 61)).alloc (.cells #[.slice (some ⟨w16.heap.size, 0, none⟩) 1 1, .slice (some ⟨w16.heap.size + 1, 0, none⟩) 1 1] 54)) (some ⟨w16.heap.size + 1 + 1, 0, none⟩) [.slice (some ⟨w16.heap.size, 0, none⟩) 1 1, .slice (some ⟨w16.heap.size + 1, 0, none⟩) 1 1] from At.lit _ _ _ _ _ (by simp <;> omega)).later ((Below.refl _ _).alloc (Nat.le_refl _) (.cells #[.int .u32 11] 61)) (Nat.le_refl _)).later ((Below.refl _ _).alloc (Nat.le_refl _) (.cells #[.slice (some ⟨w16.heap.size + 1 + 1 + 1, 0, none⟩) 1 1] 54)) (Nat.le_refl _)).later ((Below.refl _ _).alloc (Nat.le_refl _) (.cells #[] 54)) (Nat.le_refl _)).later ((Below.refl _ _).alloc (Nat.le_refl _) (.cells #[.slice (some ⟨w16.heap.size + 1 + 1 + 1 + 1, 0, none⟩) 1 1, .slice (some ⟨w16.heap.size + 1 + 1 + 1 + 1 + 1, 0, none⟩) 0 0] 22)) (Nat.le_refl _)))
  have L17_3 := Lib.hid (show At (((((((w16.alloc (.cells #[.int .u32 1] 61)).alloc (.cells #[.int .u32 2] 61)).alloc (.cells #[.slice (some ⟨w16.heap.size, 0, none⟩) 1 1, .slice (some ⟨w16.heap.size + 1, 0, none⟩) 1 1] 54)).alloc (.cells #[.int .u32 11] 61)).alloc (.cells #[.slice (some ⟨w16.heap.size + 1 + 1 + 1, 0, none⟩) 1 1] 54)).alloc (.cells #[] 54)).alloc (.cells #[.slice (some ⟨w16.heap.size + 1 + 1 + 1 + 1, 0, none⟩) 1 1, .slice (some ⟨w16.heap.size + 1 + 1 + 1 + 1 + 1, 0, none⟩) 0 0] 22)) (some ⟨w16.heap.size + 1 + 1 + 1, 0, none⟩) (nats .u32 [11]) from ((((show At ((((w16.alloc (.cells #[.int .u32 1] 61)).alloc (.cells #[.int .u32 2] 61)).alloc (.cells #[.slice (some ⟨w16.heap.size, 0, none⟩) 1 1, .slice (some ⟨w16.heap.size + 1, 0, none⟩) 1 1] 54)).alloc (.cells #[.int .u32 11] 61)) (some ⟨w16.heap.size + 1 + 1 + 1, 0, none⟩) (nats .u32 [11]) from At.lit _ _ _ _ _ (by simp <;> omega)).later ((Below.refl _ _).alloc (Nat.le_refl _) (.cells #[.slice (some ⟨w16.heap.size + 1 + 1 + 1, 0, none⟩) 1 1] 54)) (Nat.le_refl _)).later ((Below.refl _ _).alloc (Nat.le_refl _) (.cells #[] 54)) (Nat.le_refl _)).later ((Below.refl _ _).alloc (Nat.le_refl _) (.cells #[.slice (some ⟨w16.heap.size + 1 + 1 + 1 + 1, 0, none⟩) 1 1, .slice (some ⟨w16.heap.size + 1 + 1 + 1 + 1 + 1, 0, none⟩) 0 0] 22)) (Nat.le_refl _)))
  have L17_4 := Lib.hid (show At (((((((w16.alloc (.cells #[.int .u32 1] 61)).alloc (.cells #[.int .u32 2] 61)).alloc (.cells #[.slice (some ⟨w16.heap.size, 0, none⟩) 1 1, .slice (some ⟨w16.heap.size + 1, 0, none⟩) 1 1] 54)).alloc (.cells #[.int .u32 11] 61)).alloc (.cells #[.slice (some ⟨w16.heap.size + 1 + 1 + 1, 0, none⟩) 1 1] 54)).alloc (.cells #[] 54)).alloc (.cells #[.slice (some ⟨w16.heap.size + 1 + 1 + 1 + 1, 0, none⟩) 1 1, .slice (some ⟨w16.heap.size + 1 + 1 + 1 + 1 + 1, 0, none⟩) 0 0] 22)) (some ⟨w16.heap.size + 1 + 1 + 1 + 1, 0, none⟩) [.slice (some ⟨w16.heap.size + 1 + 1 + 1, 0, none⟩) 1 1] from (((show At (((((w16.alloc (.cells #[.int .u32 1] 61)).alloc (.cells #[.int .u32 2] 61)).alloc (.cells #[.slice (some ⟨w16.heap.size, 0, none⟩) 1 1, .slice (some ⟨w16.heap.size + 1, 0, none⟩) 1 1] 54)).alloc (.cells #[.int .u32 11] 61)).alloc (.cells #[.slice (some ⟨w16.heap.size + 1 + 1 + 1, 0, none⟩) 1 1] 54)) (some ⟨w16.heap.size + 1 + 1 + 1 + 1, 0, none⟩) [.slice (some ⟨w16.heap.size + 1 + 1 + 1, 0, none⟩) 1 1] from At.lit _ _ _ _ _ (by simp <;> omega)).later ((Below.refl _ _).alloc (Nat.le_refl _) (.cells #[] 54)) (Nat.le_refl _)).later ((Below.refl _ _).alloc (Nat.le_refl _) (.cells #[.slice (some ⟨w16.heap.size + 1 + 1 + 1 + 1, 0, none⟩) 1 1, .slice (some ⟨w16.heap.size + 1 + 1 + 1 + 1 + 1, 0, none⟩) 0 0] 22)) (Nat.le_refl _)))
  have L17_5 := Lib.hid (show At (((((((w16.alloc (.cells #[.int .u32 1] 61)).alloc (.cells #[.int .u32 2] 61)).alloc (.cells #[.slice (some ⟨w16.heap.size, 0, none⟩) 1 1, .slice (some ⟨w16.heap.size + 1, 0, none⟩) 1 1] 54)).alloc (.cells #[.int .u32 11] 61)).alloc (.cells #[.slice (some ⟨w16.heap.size + 1 + 1 + 1, 0, none⟩) 1 1] 54)).alloc (.cells #[] 54)).alloc (.cells #[.slice (some ⟨w16.heap.size + 1 + 1 + 1 + 1, 0, none⟩) 1 1, .slice (some ⟨w16.heap.size + 1 + 1 + 1 + 1 + 1, 0, none⟩) 0 0] 22)) (some ⟨w16.heap.size + 1 + 1 + 1 + 1 + 1, 0, none⟩) [] from ((show At ((((((w16.alloc (.cells #[.int .u32 1] 61)).alloc (.cells #[.int .u32 2] 61)).alloc (.cells #[.slice (some ⟨w16.heap.size, 0, none⟩) 1 1, .slice (some ⟨w16.heap.size + 1, 0, none⟩) 1 1] 54)).alloc (.cells #[.int .u32 11] 61)).alloc (.cells #[.slice (some ⟨w16.heap.size + 1 + 1 + 1, 0, none⟩) 1 1] 54)).alloc (.cells #[] 54)) (some ⟨w16.heap.size + 1 + 1 + 1 + 1 + 1, 0, none⟩) [] from At.lit _ _ _ _ _ (by simp <;> omega)).later ((Below.refl _ _).alloc (Nat.le_refl _) (.cells #[.slice (some ⟨w16.heap.size + 1 + 1 + 1 + 1, 0, none⟩) 1 1, .slice (some ⟨w16.heap.size + 1 + 1 + 1 + 1 + 1, 0, none⟩) 0 0] 22)) (Nat.le_refl _)))
  have L17_6 := Lib.hid (show At (((((((w16.alloc (.cells #[.int .u32 1] 61)).alloc (.cells #[.int .u32 2] 61)).alloc (.cells #[.slice (some ⟨w16.heap.size, 0, none⟩) 1 1, .slice (some ⟨w16.heap.size + 1, 0, none⟩) 1 1] 54)).alloc (.cells #[.int .u32 11] 61)).alloc (.cells #[.slice (some ⟨w16.heap.size + 1 + 1 + 1, 0, none⟩) 1 1] 54)).alloc (.cells #[] 54)).alloc (.cells #[.slice (some ⟨w16.heap.size + 1 + 1 + 1 + 1, 0, none⟩) 1 1, .slice (some ⟨w16.heap.size + 1 + 1 + 1 + 1 + 1, 0, none⟩) 0 0] 22)) (some ⟨w16.heap.size + 1 + 1 + 1 + 1 + 1 + 1, 0, none⟩) [.slice (some ⟨w16.heap.size + 1 + 1 + 1 + 1, 0, none⟩) 1 1, .slice (some ⟨w16.heap.size + 1 + 1 + 1 + 1 + 1, 0, none⟩) 0 0] from (show At (((((((w16.alloc (.cells #[.int .u32 1] 61)).alloc (.cells #[.int .u32 2] 61)).alloc (.cells #[.slice (some ⟨w16.heap.size, 0, none⟩) 1 1, .slice (some ⟨w16.heap.size + 1, 0, none⟩) 1 1] 54)).alloc (.cells #[.int .u32 11] 61)).alloc (.cells #[.slice (some ⟨w16.heap.size + 1 + 1 + 1, 0, none⟩) 1 1] 54)).alloc (.cells #[] 54)).alloc (.cells #[.slice (some ⟨w16.heap.size + 1 + 1 + 1 + 1, 0, none⟩) 1 1, .slice (some ⟨w16.heap.size + 1 + 1 + 1 + 1 + 1, 0, none⟩) 0 0] 22)) (some ⟨w16.heap.size + 1 + 1 + 1 + 1 + 1 + 1, 0, none⟩) [.slice (some ⟨w16.heap.size + 1 + 1 + 1 + 1, 0, none⟩) 1 1, .slice (some ⟨w16.heap.size + 1 + 1 + 1 + 1 + 1, 0, none⟩) 0 0] from At.lit _ _ _ _ _ (by simp <;> omega)))
  have R17_2 := Lib.hid (rows_2 L17_2.out L17_0.out L17_1.out)
  have R17_4 := Lib.hid (rows_1 L17_4.out L17_3.out)
  have R17_5 := Lib.hid (rows_0 L17_5.out )
  have R17_6 := Lib.hid (rows3_2 L17_6.out R17_4.out R17_5.out)
  generalize (((((((w16.alloc (.cells #[.int .u32 1] 61)).alloc (.cells #[.int .u32 2] 61)).alloc (.cells #[.slice (some ⟨w16.heap.size, 0, none⟩) 1 1, .slice (some ⟨w16.heap.size + 1, 0, none⟩) 1 1] 54)).alloc (.cells #[.int .u32 11] 61)).alloc (.cells #[.slice (some ⟨w16.heap.size + 1 + 1 + 1, 0, none⟩) 1 1] 54)).alloc (.cells #[] 54)).alloc (.cells #[.slice (some ⟨w16.heap.size + 1 + 1 + 1 + 1, 0, none⟩) 1 1, .slice (some ⟨w16.heap.size + 1 + 1 + 1 + 1 + 1, 0, none⟩) 0 0] 22)) = w17 at bel L17_0 L17_1 L17_2 L17_3 L17_4 L17_5 L17_6 R17_2 R17_4 R17_5 R17_6 ⊢
  replace HG := Lib.hid (HG.out.later bel (Nat.le_refl _))
  replace RM := Lib.hid (RM.out.later bel (Nat.le_refl _))
  replace PM := Lib.hid (PM.out.later bel (Nat.le_refl _))
  replace L6_0 := Lib.hid (L6_0.out.later bel (Nat.le_refl _))
  replace RS := Lib.hid (RS.out.later bel (Nat.le_refl _))
  replace PS := Lib.hid (PS.out.later bel (Nat.le_refl _))
  replace L9_0 := Lib.hid (L9_0.out.later bel (Nat.le_refl _))
  replace HB := Lib.hid (HB.out.trans (bel.mono HB.out.size))
  clear bel
  clear m0 m1 s0 s1
  go_wp2_with fail
  with_reducible refine (rows_yes (ltabs_any Am 2 cm vm _ Bm 2 dm um _ (some ⟨w16.heap.size + 1 + 1, 0, none⟩) 2 2 _ [[1], [2]] (some ⟨w16.heap.size + 1 + 1 + 1 + 1 + 1 + 1, 0, none⟩) 2 2 _ [[[11]], []] w17 rfl (by decide) RM.out rfl (by decide) PM.out rfl (by decide) R17_2.out rfl (by decide) R17_6.out) (by decide)).mono ?_
  rintro e w18 ⟨rfl, bel⟩
  replace HG := Lib.hid (HG.out.later bel (Nat.le_refl _))
  replace RM := Lib.hid (RM.out.later bel (Nat.le_refl _))
  replace PM := Lib.hid (PM.out.later bel (Nat.le_refl _))
  replace L6_0 := Lib.hid (L6_0.out.later bel (Nat.le_refl _))
  replace RS := Lib.hid (RS.out.later bel (Nat.le_refl _))
  replace PS := Lib.hid (PS.out.later bel (Nat.le_refl _))
  replace L9_0 := Lib.hid (L9_0.out.later bel (Nat.le_refl _))
  replace L17_0 := Lib.hid (L17_0.out.later bel (Nat.le_refl _))
  replace L17_1 := Lib.hid (L17_1.out.later bel (Nat.le_refl _))
  replace L17_2 := Lib.hid (L17_2.out.later bel (Nat.le_refl _))
  replace L17_3 := Lib.hid (L17_3.out.later bel (Nat.le_refl _))
  replace L17_4 := Lib.hid (L17_4.out.later bel (Nat.le_refl _))
  replace L17_5 := Lib.hid (L17_5.out.later bel (Nat.le_refl _))
  replace L17_6 := Lib.hid (L17_6.out.later bel (Nat.le_refl _))
  replace R17_2 := Lib.hid (R17_2.out.later bel (Nat.le_refl _))
  replace R17_4 := Lib.hid (R17_4.out.later bel (Nat.le_refl _))
  replace R17_5 := Lib.hid (R17_5.out.later bel (Nat.le_refl _))
  replace R17_6 := Lib.hid (R17_6.out.later bel (Nat.le_refl _))
  replace HB := Lib.hid (HB.out.trans (bel.mono HB.out.size))
  clear bel
  clear RM PM L6_0 L17_0 L17_1 L17_2 L17_3 L17_4 L17_5 L17_6 R17_2 R17_4 R17_5 R17_6
  have s0 := L9_0.out.cell 0
  have s1 := L9_0.out.cell 1
  simp at s0 s1
  go_wp2_with fail
  have bel := (show Below w18.heap.size w18 (((((((w18.alloc (.cells #[.int .u32 0] 61)).alloc (.cells #[.int .u32 2] 61)).alloc (.cells #[.slice (some ⟨w18.heap.size, 0, none⟩) 1 1, .slice (some ⟨w18.heap.size + 1, 0, none⟩) 1 1] 54)).alloc (.cells #[.int .u32 10] 61)).alloc (.cells #[.slice (some ⟨w18.heap.size + 1 + 1 + 1, 0, none⟩) 1 1] 54)).alloc (.cells #[] 54)).alloc (.cells #[.slice (some ⟨w18.heap.size + 1 + 1 + 1 + 1, 0, none⟩) 1 1, .slice (some ⟨w18.heap.size + 1 + 1 + 1 + 1 + 1, 0, none⟩) 0 0] 22)) from ((((((((Below.refl _ _).alloc (by simp) (.cells #[.int .u32 0] 61)).alloc (by simp) (.cells #[.int .u32 2] 61)).alloc (by simp <;> omega) (.cells #[.slice (some ⟨w18.heap.size, 0, none⟩) 1 1, .slice (some ⟨w18.heap.size + 1, 0, none⟩) 1 1] 54)).alloc (by simp <;> omega) (.cells #[.int .u32 10] 61)).alloc (by simp <;> omega) (.cells #[.slice (some ⟨w18.heap.size + 1 + 1 + 1, 0, none⟩) 1 1] 54)).alloc (by simp <;> omega) (.cells #[] 54)).alloc (by simp <;> omega) (.cells #[.slice (some ⟨w18.heap.size + 1 + 1 + 1 + 1, 0, none⟩) 1 1, .slice (some ⟨w18.heap.size + 1 + 1 + 1 + 1 + 1, 0, none⟩) 0 0] 22)))
  have L19_0 := Lib.hid (show At (((((((w18.alloc (.cells #[.int .u32 0] 61)).alloc (.cells #[.int .u32 2] 61)).alloc (.cells #[.slice (some ⟨w18.heap.size, 0, none⟩) 1 1, .slice (some ⟨w18.heap.size + 1, 0, none⟩) 1 1] 54)).alloc (.cells #[.int .u32 10] 61)).alloc (.cells #[.slice (some ⟨w18.heap.size + 1 + 1 + 1, 0, none⟩) 1 1] 54)).alloc (.cells #[] 54)).alloc (.cells #[.slice (some ⟨w18.heap.size + 1 + 1 + 1 + 1, 0, none⟩) 1 1, .slice (some ⟨w18.heap.size + 1 + 1 + 1 + 1 + 1, 0, none⟩) 0 0] 22)) (some ⟨w18.heap.size, 0, none⟩) (nats .u32 [0]) from (((((((show At (w18.alloc (.cells #[.int .u32 0] 61)) (some ⟨w18.heap.size, 0, none⟩) (nats .u32 [0]) from At.lit _ _ _ _ _ (by simp <;> omega)).later ((Below.refl _ _).alloc (Nat.le_refl _) (.cells #[.int .u32 2] 61)) (Nat.le_refl _)).later ((Below.refl _ _).alloc (Nat.le_refl _) (.cells #[.slice (some ⟨w18.heap.size, 0, none⟩) 1 1, .slice (some ⟨w18.heap.size + 1, 0, none⟩) 1 1] 54)) (Nat.le_refl _)).later ((Below.refl _ _).alloc (Nat.le_refl _) (.cells #[.int .u32 10] 61)) (Nat.le_refl _)).later ((Below.refl _ _).alloc (Nat.le_refl _) (.cells #[.slice (some ⟨w18.heap.size + 1 + 1 + 1, 0, none⟩) 1 1] 54)) (Nat.le_refl _)).later ((Below.refl _ _).alloc (Nat.le_refl _) (.cells #[] 54)) (Nat.le_refl _)).later ((Below.refl _ _).alloc (Nat.le_refl _) (.cells #[.slice (some ⟨w18.heap.size + 1 + 1 + 1 + 1, 0, none⟩) 1 1, .slice (some ⟨w18.heap.size + 1 + 1 + 1 + 1 + 1, 0, none⟩) 0 0] 22)) (Nat.le_refl _)))
  have L19_1 := Lib.hid (show At (((((((w18.alloc (.cells #[.int .u32 0] 61)).alloc (.cells #[.int .u32 2] 61)).alloc (.cells #[.slice (some ⟨w18.heap.size, 0, none⟩) 1 1, .slice (some ⟨w18.heap.size + 1, 0, none⟩) 1 1] 54)).alloc (.cells #[.int .u32 10] 61)).alloc (.cells #[.slice (some ⟨w18.heap.size + 1 + 1 + 1, 0, none⟩) 1 1] 54)).alloc (.cells #[] 54)).alloc (.cells #[.slice (some ⟨w18.heap.size + 1 + 1 + 1 + 1, 0, none⟩) 1 1, .slice (some ⟨w18.heap.size + 1 + 1 + 1 + 1 + 1, 0, none⟩) 0 0] 22)) (some ⟨w18.heap.size + 1, 0, none⟩) (nats .u32 [2]) from ((((((show At ((w18.alloc (.cells #[.int .u32 0] 61)).alloc (.cells #[.int .u32 2] 61)) (some ⟨w18.heap.size + 1, 0, none⟩) (nats .u32 [2]) from At.lit _ _ _ _ _ (by simp <;> omega)).later ((Below.refl _ _).alloc (Nat.le_refl _) (.cells #[.slice (some ⟨w18.heap.size, 0, none⟩) 1 1, .slice (some ⟨w18.heap.size + 1, 0, none⟩) 1 1] 54)) (Nat.le_refl _)).later ((Below.refl _ _).alloc (Nat.le_refl _) (.cells #[.int .u32 10] 61)) (Nat.le_refl _)).later ((Below.refl _ _).alloc (Nat.le_refl _) (.cells #[.slice (some ⟨w18.heap.size + 1 + 1 + 1, 0, none⟩) 1 1] 54)) (Nat.le_refl _)).later ((Below.refl _ _).alloc (Nat.le_refl _) (.cells #[] 54)) (Nat.le_refl _)).later ((Below.refl _ _).alloc (Nat.le_refl _) (.cells #[.slice (some ⟨w18.heap.size + 1 + 1 + 1 + 1, 0, none⟩) 1 1, .slice (some ⟨w18.heap.size + 1 + 1 + 1 + 1 + 1, 0, none⟩) 0 0] 22)) (Nat.le_refl _)))
  have L19_2 := Lib.hid (show At (((((((w18.alloc (.cells #[.int .u32 0] 61)).alloc (.cells #[.int .u32 2] 61)).alloc (.cells #[.slice (some ⟨w18.heap.size, 0, none⟩) 1 1, .slice (some ⟨w18.heap.size + 1, 0, none⟩) 1 1] 54)).alloc (.cells #[.int .u32 10] 61)).alloc (.cells #[.slice (some ⟨w18.heap.size + 1 + 1 + 1, 0, none⟩) 1 1] 54)).alloc (.cells #[] 54)).alloc (.cells #[.slice (some ⟨w18.heap.size + 1 + 1 + 1 + 1, 0, none⟩) 1 1, .slice (some ⟨w18.heap.size + 1 + 1 + 1 + 1 + 1, 0, none⟩) 0 0] 22)) (some ⟨w18.heap.size + 1 + 1, 0, none⟩) [.slice (some ⟨w18.heap.size, 0, none⟩) 1 1, .slice (some ⟨w18.heap.size + 1, 0, none⟩) 1 1] from (((((show At (((w18.alloc (.cells #[.int .u32 0] 61)).alloc (.cells #[.int .u32 2] 61)).alloc (.cells #[.slice (some ⟨w18.heap.size, 0, none⟩) 1 1, .slice (some ⟨w18.heap.size + 1, 0, none⟩) 1 1] 54)) (some ⟨w18.heap.size + 1 + 1, 0, none⟩) [.slice (some ⟨w18.heap.size, 0, none⟩) 1 1, .slice (some ⟨w18.heap.size + 1, 0, none⟩) 1 1] from At.lit _ _ _ _ _ (by simp <;> omega)).later ((Below.refl _ _).alloc (Nat.le_refl _) (.cells #[.int .u32 10] 61)) (Nat.le_refl _)).later ((Below.refl _ _).alloc (Nat.le_refl _) (.cells #[.slice (some ⟨w18.heap.size + 1 + 1 + 1, 0, none⟩) 1 1] 54)) (Nat.le_refl _)).later ((Below.refl _ _).alloc (Nat.le_refl _) (.cells #[] 54)) (Nat.le_refl _)).later ((Below.refl _ _).alloc (Nat.le_refl _) (.cells #[.slice (some ⟨w18.heap.size + 1 + 1 + 1 + 1, 0, none⟩) 1 1, .slice (some ⟨w18.heap.size + 1 + 1 + 1 + 1 + 1, 0, none⟩) 0 0] 22)) (Nat.le_refl _)))
  have L19_3 := Lib.hid (show At (((((((w18.alloc (.cells #[.int .u32 0] 61)).alloc (.cells #[.int .u32 2] 61)).alloc (.cells #[.slice (some ⟨w18.heap.size, 0, none⟩) 1 1, .slice (some ⟨w18.heap.size + 1, 0, none⟩) 1 1] 54)).alloc (.cells #[.int .u32 10] 61)).alloc (.cells #[.slice (some ⟨w18.heap.size + 1 + 1 + 1, 0, none⟩) 1 1] 54)).alloc (.cells #[] 54)).alloc (.cells #[.slice (some ⟨w18.heap.size + 1 + 1 + 1 + 1, 0, none⟩) 1 1, .slice (some ⟨w18.heap.size + 1 + 1 + 1 + 1 + 1, 0, none⟩) 0 0] 22)) (some ⟨w18.heap.size + 1 + 1 + 1, 0, none⟩) (nats .u32 [10]) from ((((show At ((((w18.alloc (.cells #[.int .u32 0] 61)).alloc (.cells #[.int .u32 2] 61)).alloc (.cells #[.slice (some ⟨w18.heap.size, 0, none⟩) 1 1, .slice (some ⟨w18.heap.size + 1, 0, none⟩) 1 1] 54)).alloc (.cells #[.int .u32 10] 61)) (some ⟨w18.heap.size + 1 + 1 + 1, 0, none⟩) (nats .u32 [10]) from At.lit _ _ _ _ _ (by simp <;> omega)).later ((Below.refl _ _).alloc (Nat.le_refl _) (.cells #[.slice (some ⟨w18.heap.size + 1 + 1 + 1, 0, none⟩) 1 1] 54)) (Nat.le_refl _)).later ((Below.refl _ _).alloc (Nat.le_refl _) (.cells #[] 54)) (Nat.le_refl _)).later ((Below.refl _ _).alloc (Nat.le_refl _) (.cells #[.slice (some ⟨w18.heap.size + 1 + 1 + 1 + 1, 0, none⟩) 1 1, .slice (some ⟨w18.heap.size + 1 + 1 + 1 + 1 + 1, 0, none⟩) 0 0] 22)) (Nat.le_refl _)))
  have L19_4 := Lib.hid (show At (((((((w18.alloc (.cells #[.int .u32 0] 61)).alloc (.cells #[.int .u32 2] 61)).alloc (.cells #[.slice (some ⟨w18.heap.size, 0, none⟩) 1 1, .slice (some ⟨w18.heap.size + 1, 0, none⟩) 1 1] 54)).alloc (.cells #[.int .u32 10] 61)).alloc (.cells #[.slice (some ⟨w18.heap.size + 1 + 1 + 1, 0, none⟩) 1 1] 54)).alloc (.cells #[] 54)).alloc (.cells #[.slice (some ⟨w18.heap.size + 1 + 1 + 1 + 1, 0, none⟩) 1 1, .slice (some ⟨w18.heap.size + 1 + 1 + 1 + 1 + 1, 0, none⟩) 0 0] 22)) (some ⟨w18.heap.size + 1 + 1 + 1 + 1, 0, none⟩) [.slice (some ⟨w18.heap.size + 1 + 1 + 1, 0, none⟩) 1 1] from (((show At (((((w18.alloc (.cells #[.int .u32 0] 61)).alloc (.cells #[.int .u32 2] 61)).alloc (.cells #[.slice (some ⟨w18.heap.size, 0, none⟩) 1 1, .slice (some ⟨w18.heap.size + 1, 0, none⟩) 1 1] 54)).alloc (.cells #[.int .u32 10] 61)).alloc (.cells #[.slice (some ⟨w18.heap.size + 1 + 1 + 1, 0, none⟩) 1 1] 54)) (some ⟨w18.heap.size + 1 + 1 + 1 + 1, 0, none⟩) [.slice (some ⟨w18.heap.size + 1 + 1 + 1, 0, none⟩) 1 1] from At.lit _ _ _ _ _ (by simp <;> omega)).later ((Below.refl _ _).alloc (Nat.le_refl _) (.cells #[] 54)) (Nat.le_refl _)).later ((Below.refl _ _).alloc (Nat.le_refl _) (.cells #[.slice (some ⟨w18.heap.size + 1 + 1 + 1 + 1, 0, none⟩) 1 1, .slice (some ⟨w18.heap.size + 1 + 1 + 1 + 1 + 1, 0, none⟩) 0 0] 22)) (Nat.le_refl _)))
  have L19_5 := Lib.hid (show At (((((((w18.alloc (.cells #[.int .u32 0] 61)).alloc (.cells #[.int .u32 2] 61)).alloc (.cells #[.slice (some ⟨w18.heap.size, 0, none⟩) 1 1, .slice (some ⟨w18.heap.size + 1, 0, none⟩) 1 1] 54)).alloc (.cells #[.int .u32 10] 61)).alloc (.cells #[.slice (some ⟨w18.heap.size + 1 + 1 + 1, 0, none⟩) 1 1] 54)).alloc (.cells #[] 54)).alloc (.cells #[.slice (some ⟨w18.heap.size + 1 + 1 + 1 + 1, 0, none⟩) 1 1, .slice (some ⟨w18.heap.size + 1 + 1 + 1 + 1 + 1, 0, none⟩) 0 0] 22)) (some ⟨w18.heap.size + 1 + 1 + 1 + 1 + 1, 0, none⟩) [] from ((show At ((((((w18.alloc (.cells #[.int .u32 0] 61)).alloc (.cells #[.int .u32 2] 61)).alloc (.cells #[.slice (some ⟨w18.heap.size, 0, none⟩) 1 1, .slice (some ⟨w18.heap.size + 1, 0, none⟩) 1 1] 54)).alloc (.cells #[.int .u32 10] 61)).alloc (.cells #[.slice (some ⟨w18.heap.size + 1 + 1 + 1, 0, none⟩) 1 1] 54)).alloc (.cells #[] 54)) (some ⟨w18.heap.size + 1 + 1 + 1 + 1 + 1, 0, none⟩) [] from At.lit _ _ _ _ _ (by simp <;> omega)).later ((Below.refl _ _).alloc (Nat.le_refl _) (.cells #[.slice (some ⟨w18.heap.size + 1 + 1 + 1 + 1, 0, none⟩) 1 1, .slice (some ⟨w18.heap.size + 1 + 1 + 1 + 1 + 1, 0, none⟩) 0 0] 22)) (Nat.le_refl _)))
  have L19_6 := Lib.hid (show At (((((((w18.alloc (.cells #[.int .u32 0] 61)).alloc (.cells #[.int .u32 2] 61)).alloc (.cells #[.slice (some ⟨w18.heap.size, 0, none⟩) 1 1, .slice (some ⟨w18.heap.size + 1, 0, none⟩) 1 1] 54)).alloc (.cells #[.int .u32 10] 61)).alloc (.cells #[.slice (some ⟨w18.heap.size + 1 + 1 + 1, 0, none⟩) 1 1] 54)).alloc (.cells #[] 54)).alloc (.cells #[.slice (some ⟨w18.heap.size + 1 + 1 + 1 + 1, 0, none⟩) 1 1, .slice (some ⟨w18.heap.size + 1 + 1 + 1 + 1 + 1, 0, none⟩) 0 0] 22)) (some ⟨w18.heap.size + 1 + 1 + 1 + 1 + 1 + 1, 0, none⟩) [.slice (some ⟨w18.heap.size + 1 + 1 + 1 + 1, 0, none⟩) 1 1, .slice (some ⟨w18.heap.size + 1 + 1 + 1 + 1 + 1, 0, none⟩) 0 0] from (show At (((((((w18.alloc (.cells #[.int .u32 0] 61)).alloc (.cells #[.int .u32 2] 61)).alloc (.cells #[.slice (some ⟨w18.heap.size, 0, none⟩) 1 1, .slice (some ⟨w18.heap.size + 1, 0, none⟩) 1 1] 54)).alloc (.cells #[.int .u32 10] 61)).alloc (.cells #[.slice (some ⟨w18.heap.size + 1 + 1 + 1, 0, none⟩) 1 1] 54)).alloc (.cells #[] 54)).alloc (.cells #[.slice (some ⟨w18.heap.size + 1 + 1 + 1 + 1, 0, none⟩) 1 1, .slice (some ⟨w18.heap.size + 1 + 1 + 1 + 1 + 1, 0, none⟩) 0 0] 22)) (some ⟨w18.heap.size + 1 + 1 + 1 + 1 + 1 + 1, 0, none⟩) [.slice (some ⟨w18.heap.size + 1 + 1 + 1 + 1, 0, none⟩) 1 1, .slice (some ⟨w18.heap.size + 1 + 1 + 1 + 1 + 1, 0, none⟩) 0 0] from At.lit _ _ _ _ _ (by simp <;> omega)))
  have R19_2 := Lib.hid (rows_2 L19_2.out L19_0.out L19_1.out)
  have R19_4 := Lib.hid (rows_1 L19_4.out L19_3.out)
  have R19_5 := Lib.hid (rows_0 L19_5.out )
  have R19_6 := Lib.hid (rows3_2 L19_6.out R19_4.out R19_5.out)
  generalize (((((((w18.alloc (.cells #[.int .u32 0] 61)).alloc (.cells #[.int .u32 2] 61)).alloc (.cells #[.slice (some ⟨w18.heap.size, 0, none⟩) 1 1, .slice (some ⟨w18.heap.size + 1, 0, none⟩) 1 1] 54)).alloc (.cells #[.int .u32 10] 61)).alloc (.cells #[.slice (some ⟨w18.heap.size + 1 + 1 + 1, 0, none⟩) 1 1] 54)).alloc (.cells #[] 54)).alloc (.cells #[.slice (some ⟨w18.heap.size + 1 + 1 + 1 + 1, 0, none⟩) 1 1, .slice (some ⟨w18.heap.size + 1 + 1 + 1 + 1 + 1, 0, none⟩) 0 0] 22)) = w19 at bel L19_0 L19_1 L19_2 L19_3 L19_4 L19_5 L19_6 R19_2 R19_4 R19_5 R19_6 ⊢
  replace HG := Lib.hid (HG.out.later bel (Nat.le_refl _))
  replace RS := Lib.hid (RS.out.later bel (Nat.le_refl _))
  replace PS := Lib.hid (PS.out.later bel (Nat.le_refl _))
  replace L9_0 := Lib.hid (L9_0.out.later bel (Nat.le_refl _))
  replace HB := Lib.hid (HB.out.trans (bel.mono HB.out.size))
  clear bel
  clear s0 s1
  go_wp2_with fail
  with_reducible refine (rows_yes (ltabs_any As 2 cs vs _ Bs 2 ds us _ (some ⟨w18.heap.size + 1 + 1, 0, none⟩) 2 2 _ [[0], [2]] (some ⟨w18.heap.size + 1 + 1 + 1 + 1 + 1 + 1, 0, none⟩) 2 2 _ [[[10]], []] w19 rfl (by decide) RS.out rfl (by decide) PS.out rfl (by decide) R19_2.out rfl (by decide) R19_6.out) (by decide)).mono ?_
  rintro e w20 ⟨rfl, bel⟩
  replace HG := Lib.hid (HG.out.later bel (Nat.le_refl _))
  replace RS := Lib.hid (RS.out.later bel (Nat.le_refl _))
  replace PS := Lib.hid (PS.out.later bel (Nat.le_refl _))
  replace L9_0 := Lib.hid (L9_0.out.later bel (Nat.le_refl _))
  replace L19_0 := Lib.hid (L19_0.out.later bel (Nat.le_refl _))
  replace L19_1 := Lib.hid (L19_1.out.later bel (Nat.le_refl _))
  replace L19_2 := Lib.hid (L19_2.out.later bel (Nat.le_refl _))
  replace L19_3 := Lib.hid (L19_3.out.later bel (Nat.le_refl _))
  replace L19_4 := Lib.hid (L19_4.out.later bel (Nat.le_refl _))
  replace L19_5 := Lib.hid (L19_5.out.later bel (Nat.le_refl _))
  replace L19_6 := Lib.hid (L19_6.out.later bel (Nat.le_refl _))
  replace R19_2 := Lib.hid (R19_2.out.later bel (Nat.le_refl _))
  replace R19_4 := Lib.hid (R19_4.out.later bel (Nat.le_refl _))
  replace R19_5 := Lib.hid (R19_5.out.later bel (Nat.le_refl _))
  replace R19_6 := Lib.hid (R19_6.out.later bel (Nat.le_refl _))
  replace HB := Lib.hid (HB.out.trans (bel.mono HB.out.size))
  clear bel
  clear RS PS L9_0 L19_0 L19_1 L19_2 L19_3 L19_4 L19_5 L19_6 R19_2 R19_4 R19_5 R19_6
  go_wp2_with fail
  with_reducible refine (num37_err 4 w20 HG.out).mono ?_
  rintro e w21 ⟨rfl, bel⟩
  replace HG := Lib.hid (HG.out.later bel (Nat.le_refl _))
  replace HB := Lib.hid (HB.out.trans (bel.mono HB.out.size))
  clear bel
  go_wp2_with fail
  with_reducible refine (num37_err 1 w21 HG.out).mono ?_
  rintro e w22 ⟨rfl, bel⟩
  replace HG := Lib.hid (HG.out.later bel (Nat.le_refl _))
  replace HB := Lib.hid (HB.out.trans (bel.mono HB.out.size))
  clear bel
  go_wp2_with fail
  go_ret
  exact ⟨rfl, HB.out⟩
end Go.Proofs.YtmdilfgeogedpaaDoor
