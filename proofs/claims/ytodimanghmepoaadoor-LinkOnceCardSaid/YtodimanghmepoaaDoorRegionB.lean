/- Calls of Go functions at a step of a region that draws: their arguments read off. -/
import Derived.Test.YtodimanghmepoaaDoorRegion
import Derived.KernelRfl
import Derived.Tactics
namespace Go.Proofs.YtodimanghmepoaaDoor
open Go.RowKit
section
variable {P : Program} {ρ : Operand → Value} {o : Oper} {W : World} {f : FuncId} {tys : Array TypeId}
theorem enter_of {fn : Func} (hf : P.funcs[f]? = some fn) (hname : (fn.name == "runtime.NumGoroutine") = false) (hb : fn.body.isNone = false) : ∀ (args : Array Value) (W : World), (callFunc f args).run P W = .ok (.enter f args) W := by
  intro args W
  have h1 : ¬ fn.name = "runtime.NumGoroutine" := by simpa using hname
  have h2 : ¬ fn.body = none := by intro h; rw [h] at hb; cases hb
  simp [callFunc, hf, h1, h2, go_sem]
theorem op_call0 (hfun : ∀ f, ρ (.func f) = .func (.func f) #[] #[]) (hc : ∀ (args : Array Value) (W : World), (callFunc f args).run P W = .ok (.enter f args) W) (ho : o.op = .call { callee := .value (.func f), args := #[], argTypes := tys }) : (execOp ρ o).run P W = .ok (.enter f #[]) W := by
  simp only [execOp, ho, hfun]; go_simp
theorem op_call1 (hfun : ∀ f, ρ (.func f) = .func (.func f) #[] #[]) (hc : ∀ (args : Array Value) (W : World), (callFunc f args).run P W = .ok (.enter f args) W) {x : Operand} {v : Value} (ho : o.op = .call { callee := .value (.func f), args := #[x], argTypes := tys }) (hx : ρ x = v) : (execOp ρ o).run P W = .ok (.enter f #[v]) W := by
  simp only [execOp, ho, hfun, ← hx]; go_simp
theorem op_call2 (hfun : ∀ f, ρ (.func f) = .func (.func f) #[] #[]) (hc : ∀ (args : Array Value) (W : World), (callFunc f args).run P W = .ok (.enter f args) W) {x y : Operand} {v u : Value} (ho : o.op = .call { callee := .value (.func f), args := #[x, y], argTypes := tys }) (hx : ρ x = v) (hy : ρ y = u) : (execOp ρ o).run P W = .ok (.enter f #[v, u]) W := by
  simp only [execOp, ho, hfun, ← hx, ← hy]; go_simp
theorem op_call3 (hfun : ∀ f, ρ (.func f) = .func (.func f) #[] #[]) (hc : ∀ (args : Array Value) (W : World), (callFunc f args).run P W = .ok (.enter f args) W) {x y z : Operand} {v u t : Value} (ho : o.op = .call { callee := .value (.func f), args := #[x, y, z], argTypes := tys }) (hx : ρ x = v) (hy : ρ y = u) (hz : ρ z = t) : (execOp ρ o).run P W = .ok (.enter f #[v, u, t]) W := by
  simp only [execOp, ho, hfun, ← hx, ← hy, ← hz]; go_simp
theorem op_call4 (hfun : ∀ f, ρ (.func f) = .func (.func f) #[] #[]) (hc : ∀ (args : Array Value) (W : World), (callFunc f args).run P W = .ok (.enter f args) W) {x y z a : Operand} {v u t b : Value} (ho : o.op = .call { callee := .value (.func f), args := #[x, y, z, a], argTypes := tys }) (hx : ρ x = v) (hy : ρ y = u) (hz : ρ z = t) (ha : ρ a = b) : (execOp ρ o).run P W = .ok (.enter f #[v, u, t, b]) W := by
  simp only [execOp, ho, hfun, ← hx, ← hy, ← hz, ← ha]; go_simp
theorem op_move {x : Operand} {v : Value} (ho : o.op = .move x) (hx : ρ x = v) : (execOp ρ o).run P W = .ok (.value v) W := by
  simp only [execOp, ho, ← hx]; go_simp
theorem op_assign {x : Operand} {v : Value} (ho : o.op = .assign x) (hx : ρ x = v) : (execOp ρ o).run P W = .ok (.value v) W := by
  simp only [execOp, ho, ← hx]; go_simp
theorem op_pick_t {c x y : Operand} {v : Value} (ho : o.op = .pick c x y) (hc : ρ c = .bool true) (hx : ρ x = v) : (execOp ρ o).run P W = .ok (.value v) W := by
  simp only [execOp, ho, hc, ← hx]; go_simp
theorem op_pick_f {c x y : Operand} {v : Value} (ho : o.op = .pick c x y) (hc : ρ c = .bool false) (hy : ρ y = v) : (execOp ρ o).run P W = .ok (.value v) W := by
  simp only [execOp, ho, hc, ← hy]; go_simp
end
/-- as wp_region_below; what follows is told of a frame that is a letter: what each slot holds by its relation, the other slots as they were -/
theorem wp_region_last {P : Program} {ops : Array Oper} {Q : Exit → Act → World → Prop} {a0 : Act} {w0 : World} {id : Nat} (R : List Rel) (rows : List Row) (hm : P.follows .mixedOrders = true) (hp : plainOps ops = true) (hd : dstsFit ops a0.tmps.size = true)
    (hrows : rowsOk ops ops.toList rows = true) (hlen : (R.length == ops.size) = true) (hmono : MonoAll R)
    (hs : StepsC P R a0 w0.drew 0 ops.toList rows)
    (hf : ∀ (a : Act) (W : World), Below w0.heap.size w0 W → a.tmps.size = a0.tmps.size → a.defers = a0.defers → (∀ t, isDst ops t = false → a.tmps.getD t undef = a0.tmps.getD t undef) → (∀ j d, dstOf ops j = some d → (R.getD j Rel.none_) (a.tmps.getD d undef) W) → Q .normal a W) :
    (Code.region id ops true).wp P Q a0 w0 := by
  refine wp_region_rel (fun W W' => Below W.heap.size W W') R hm hp (fun _ => Below.refl _ _) below_trans' (fun i v W W' h hX => MonoAll.getD R i hmono v W W' h hX) (dsts_fit hd) (steps_of _ rows 0 (by simp) hrows hs) ?_
  intro a W hX h1 h2 h3 h4 h5
  exact hf a W ((Below.refl _ _).drew.trans hX) h1 h2 h3 h4
/-- the end of a function with one result, the frame a letter -/
theorem post_letter {P : Program} {fn : Func} {R : Ending → World → Prop} {a : Act} {w : World} {v : Value} {t : Tmp} (h : fn.results = #[.tmp t]) (hv : a.tmps.getD t undef = v) (hd : a.defers = []) (hR : R (.returned v) w) : bodyPost P fn R .ret a w :=
  bodyPost_ret (v := v) (by rw [results_tmp h, hv]) hd hR
end Go.Proofs.YtodimanghmepoaaDoor
