/- Layer 3: sums of curves, and what places are worth: plain mathematics. -/
import Derived.Test.YtnofckhljoghpaaDoorPoI
namespace Go.Proofs.YtnofckhljoghpaaDoor
open PoM (ml ad sb iv)
theorem hor_add : ∀ (l m : List Nat) (x : Nat), l.length = m.length → PoM.hor (List.zipWith ad l m) x = ad (PoM.hor l x) (PoM.hor m x)
  | [], [], x, _ => (show (0 : Nat) = ad 0 0 by decide)
  | [], _ :: _, _, h => by simp at h
  | _ :: _, [], _, h => by simp at h
  | a :: l, b :: m, x, h => by
    have ih := hor_add l m x (by simpa using h)
    refine PoM.Eq.nat (PoM.hor_lt _ _) (PoM.ad_lt _ _) ?_
    have e1 : PoM.hor (List.zipWith ad (a :: l) (b :: m)) x = ad (ml (ad (PoM.hor l x) (PoM.hor m x)) x) (ad a b) := by
      rw [← ih]; simp only [List.zipWith_cons_cons, PoM.hor]
    have e2 : PoM.hor (a :: l) x = ad (ml (PoM.hor l x) x) a := by simp only [PoM.hor]
    have e3 : PoM.hor (b :: m) x = ad (ml (PoM.hor m x) x) b := by simp only [PoM.hor]
    rw [e1, e2, e3]
    generalize PoM.hor l x = u
    generalize PoM.hor m x = v
    have k1 := (PoM.ad_eq (ml (ad u v) x) (ad a b)).trans (PoM.Eq.add ((PoM.ml_eq (ad u v) x).trans (PoM.Eq.mul (PoM.ad_eq u v) (PoM.Eq.rfl' _))) (PoM.ad_eq a b))
    have k2 := (PoM.ad_eq (ad (ml u x) a) (ad (ml v x) b)).trans (PoM.Eq.add ((PoM.ad_eq (ml u x) a).trans (PoM.Eq.add (PoM.ml_eq u x) (PoM.Eq.rfl' _))) ((PoM.ad_eq (ml v x) b).trans (PoM.Eq.add (PoM.ml_eq v x) (PoM.Eq.rfl' _))))
    refine k1.trans (PoM.Eq.trans (PoM.Eq.of ?_) k2.symm)
    rw [Int.add_mul]; omega
theorem hor_mul (k : Nat) : ∀ (l : List Nat) (x : Nat), PoM.hor (l.map fun a => ml a k) x = ml (PoM.hor l x) k
  | [], x => by simp [PoM.hor, ml]
  | a :: l, x => by
    have ih := hor_mul k l x
    refine PoM.Eq.nat (PoM.hor_lt _ _) (PoM.ml_lt _ _) ?_
    have e1 : PoM.hor ((a :: l).map fun a => ml a k) x = ad (ml (ml (PoM.hor l x) k) x) (ml a k) := by
      rw [← ih]; simp only [List.map_cons, PoM.hor]
    have e2 : PoM.hor (a :: l) x = ad (ml (PoM.hor l x) x) a := by simp only [PoM.hor]
    rw [e1, e2]
    generalize PoM.hor l x = u
    have k1 := (PoM.ad_eq (ml (ml u k) x) (ml a k)).trans (PoM.Eq.add ((PoM.ml_eq (ml u k) x).trans (PoM.Eq.mul (PoM.ml_eq u k) (PoM.Eq.rfl' _))) (PoM.ml_eq a k))
    have k2 := (PoM.ml_eq (ad (ml u x) a) k).trans (PoM.Eq.mul ((PoM.ad_eq (ml u x) a).trans (PoM.Eq.add (PoM.ml_eq u x) (PoM.Eq.rfl' _))) (PoM.Eq.rfl' _))
    refine k1.trans (PoM.Eq.trans (PoM.Eq.of ?_) k2.symm)
    grind
theorem dif4 : PoM.Dif [1, 2, 3, 4] := by
  intro i j hi hj e
  simp at hi hj
  have h1 : i = 0 ∨ i = 1 ∨ i = 2 ∨ i = 3 := by omega
  have h2 : j = 0 ∨ j = 1 ∨ j = 2 ∨ j = 3 := by omega
  rcases h1 with rfl | rfl | rfl | rfl <;> rcases h2 with rfl | rfl | rfl | rfl <;> first | exact absurd rfl e | decide
theorem smI4 (xs ys : List Nat) (x : Int) : PoM.smI xs ys x 4 = 0 + (ys.getD 0 0 : Nat) * PoM.wtI xs 0 x + (ys.getD 1 0 : Nat) * PoM.wtI xs 1 x + (ys.getD 2 0 : Nat) * PoM.wtI xs 2 x + (ys.getD 3 0 : Nat) * PoM.wtI xs 3 x := by
  simp only [PoM.smI]
theorem sum_one {u0 u1 u2 u3 : Nat} {i0 i1 i2 i3 : Int} (h0 : PoM.Eq (u0 : Nat) i0) (h1 : PoM.Eq (u1 : Nat) i1) (h2 : PoM.Eq (u2 : Nat) i2) (h3 : PoM.Eq (u3 : Nat) i3) (h : PoM.Eq (0 + 1 * i0 + 1 * i1 + 1 * i2 + 1 * i3) 1) : ad (ad u0 u1) (ad u2 u3) = 1 := by
  refine PoM.Eq.nat (PoM.ad_lt _ _) (by decide) ?_
  refine (PoM.ad_eq _ _).trans ((PoM.Eq.add ((PoM.ad_eq u0 u1).trans (PoM.Eq.add h0 h1)) ((PoM.ad_eq u2 u3).trans (PoM.Eq.add h2 h3))).trans ?_)
  refine PoM.Eq.trans (PoM.Eq.of ?_) h
  omega
/-- what four places are worth is 1 together -/
theorem wt_all (x : Nat) : ad (ad (PoM.wt [1, 2, 3, 4] x 0) (PoM.wt [1, 2, 3, 4] x 1)) (ad (PoM.wt [1, 2, 3, 4] x 2) (PoM.wt [1, 2, 3, 4] x 3)) = 1 := by
  have hc : PoM.Curve 4 (fun _ => (1 : Int)) := (PoM.Curve.const 1).mono (by decide)
  have h := (PoM.sm_eq [1, 2, 3, 4] [1, 1, 1, 1] x 4).symm.trans (PoM.sm_curve (xs := [1, 2, 3, 4]) (ys := [1, 1, 1, 1]) dif4 hc (fun i hi => by
    simp at hi
    have : i = 0 ∨ i = 1 ∨ i = 2 ∨ i = 3 := by omega
    rcases this with rfl | rfl | rfl | rfl <;> exact PoM.Eq.of rfl) x)
  rw [smI4] at h
  exact sum_one (PoM.wt_eq _ x 0) (PoM.wt_eq _ x 1) (PoM.wt_eq _ x 2) (PoM.wt_eq _ x 3) h
theorem wt_here : PoM.wt [1, 2, 3, 4] 3 2 = 1 :=
  PoM.Eq.nat (PoM.wt_lt _ _ _) (by decide) ((PoM.wt_eq [1, 2, 3, 4] 3 2).trans (PoM.wtI_one dif4 (i := 2) (by decide)))
theorem wt_else {i : Nat} (h : 2 ≠ i) : PoM.wt [1, 2, 3, 4] 3 i = 0 :=
  PoM.Eq.nat (PoM.wt_lt _ _ _) (by decide) ((PoM.wt_eq [1, 2, 3, 4] 3 i).trans (PoM.wtI_zero [1, 2, 3, 4] (j := 2) (by decide) h))
end Go.Proofs.YtnofckhljoghpaaDoor
