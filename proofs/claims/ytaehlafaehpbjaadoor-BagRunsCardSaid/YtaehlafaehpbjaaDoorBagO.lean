/- Layer 20: BagRuns where the bag can not be. -/
import Derived.Test.YtaehlafaehpbjaaDoorBagN
import Derived.Deep.CutRange
import Derived.Deep.CutBlock
namespace Go.Proofs.YtaehlafaehpbjaaDoor
open Go.RowKit
/-- what is done, of those that came in -/
def ActAt (w : World) (A1 : Option Addr) (i : Nat) : Prop :=
  ∃ b o A2 c2 K T d, A1 = some ⟨b, o, none⟩ ∧ w.cell? ⟨b, o + i * 3, none⟩ = some (.int .i64 K) ∧ w.cell? ⟨b, o + i * 3 + 1, none⟩ = some (.int .i64 T) ∧ w.cell? ⟨b, o + i * 3 + 2, none⟩ = some (.slice A2 (List.length (α := Nat) d) c2) ∧ At w A2 (nats .u8 d) ∧ (A2 = none → d.length = 0) ∧ (∀ k, blk A2 = some k → k < w.heap.size ∨ d = []) ∧ b < w.heap.size
/-- .. and the copy of what is to be done -/
structure Sp (w wr : World) (M : Int) (A : Option Addr) (n c : Nat) (vs : List (Int × Value)) (L LS : List (Int × List Nat)) (AB : Option Addr) (nB cB : Nat) (vsB : List (Int × Value)) (p : Nat) (K T : Int) (D : Option Addr) (cD : Nat) (d : List Nat) : Prop where
  st : St w wr M A n c vs L LS AB nB cB vsB
  cp : Holds wr p 40 #[.int .i64 K, .int .i64 T, .slice D d.length cD]
  pg : w.heap.size < p
  pA : blk A ≠ some p
  pB : blk AB ≠ some p
section
variable {w wr w' w2 : World} {n c nB cB : Nat} {M : Int} {A AB : Option Addr} {vs vsB : List (Int × Value)} {L LS : List (Int × List Nat)} {p cD : Nat} {K T : Int} {D : Option Addr} {d : List Nat}
theorem Sp.later (h : Sp w wr M A n c vs L LS AB nB cB vsB p K T D cD d) (hb : Below wr.heap.size wr w') : Sp w w' M A n c vs L LS AB nB cB vsB p K T D cD d :=
  ⟨h.st.later hb, h.cp.later hb (Nat.le_refl _), h.pg, h.pA, h.pB⟩
theorem Sp.moved {AB' : Option Addr} {nB' cB' : Nat} {vsB' : List (Int × Value)} {LS' : List (Int × List Nat)} (h : Sp w wr M A n c vs L LS AB nB cB vsB p K T D cD d) (h1 : Bag w' w.heap.size (w.heap.size + 1) M AB' nB' cB' vsB' LS') (h2 : Moved w.heap.size AB AB' wr w') (h3 : Bods wr vsB vsB') : Sp w w' M A n c vs L LS' AB' nB' cB' vsB' p K T D cD d :=
  ⟨h.st.moved h1 h2 h3, (h2.block p h.cp.lt (Nat.ne_of_gt h.pg) h.pB).trans h.cp, h.pg, h.pA, fun e => by
    rcases h2.arr p e with h4 | h4
    · exact h.pB h4
    · have := h.cp.lt; omega⟩
theorem Sp.snoc {A2 A3 : Option Addr} {c2 c3 : Nat} {t : Int} {b : List Nat} (h : Sp w wr M A n c vs L LS AB nB cB vsB p K T D cD d) (h2 : Below wr.heap.size wr w2) (hb : LB wr w.heap.size (.slice A2 b.length c2) b) (ho : Own w' w.heap.size 42 2 A3 (n + 1) c3 (its vs ++ [.int .i64 t, .slice A2 b.length c2])) (hg : w2.grownBy w' (blk A)) (hA : blk A3 = blk A ∨ blk A3 = some w2.heap.size) :
    Sp w w' M A3 (n + 1) c3 (vs ++ [(t, .slice A2 b.length c2)]) (L ++ [(t, b)]) LS AB nB cB vsB p K T D cD d :=
  ⟨h.st.snoc h2 hb ho hg hA, (h.cp.later h2 (Nat.le_refl _)).grown hg (fun e => h.pA e), h.pg, fun e => by
    rcases hA with h4 | h4
    · exact h.pA (h4 ▸ e)
    · rw [h4] at e; injection e with e; have := h.cp.lt; have := h2.size; omega, h.pB⟩
theorem Sp.anew {A' : Option Addr} {n' c' : Nat} {vs' : List (Int × Value)} {L' : List (Int × List Nat)} (h : Sp w wr M A n c vs L LS AB nB cB vsB p K T D cD d) (h1 : Lets w' w.heap.size A' n' c' vs' L') (hb : Below wr.heap.size wr w') (hk : ∀ k, blk A' = some k → wr.heap.size ≤ k) : Sp w w' M A' n' c' vs' L' LS AB nB cB vsB p K T D cD d :=
  ⟨h.st.anew h1 hb hk, h.cp.later hb (Nat.le_refl _), h.pg, fun e => by have := hk p e; have := h.cp.lt; omega, h.pB⟩
end
theorem Sp.start {w wr : World} {n c nB cB : Nat} {M : Int} {A AB : Option Addr} {vs vsB : List (Int × Value)} {L LS : List (Int × List Nat)} (h : St w wr M A n c vs L LS AB nB cB vsB) (K T : Int) (D : Option Addr) (cD : Nat) (d : List Nat) :
    Sp w (wr.alloc (.cells #[.int .i64 K, .int .i64 T, .slice D d.length cD] 40)) M A n c vs L LS AB nB cB vsB wr.heap.size K T D cD d :=
  ⟨h.later ((Below.refl _ _).alloc (Nat.le_refl _) _), Holds.new wr _ _ _ rfl, h.size, fun e => by have := (h.lets.own.lt _ e).2; omega, fun e => by have := (h.bag.own.lt _ e).2; omega⟩
set_option maxRecDepth 100000 in
theorem bruns_bad (M : Int) (v : Value) (w : World) (hM : M < 1 ∨ 4096 < M) (hg : Glob w) :
    Calls Tryd.prog 3 #[.int .i64 M, v] w fun e w' => e = .returned (.bool true) ∧ Below w.heap.size w w' := by
  have HG := Lib.hid hg
  clear hg
  go_enter Tryd.func3, Tryd.ntmps3
  go_wp2_with fail
  refine (nil_take _ _).mono ?_
  rintro e w1 ⟨rfl, rfl⟩
  go_wp2_with fail
  refine (nil_put _ _ _).mono ?_
  rintro e w1 ⟨rfl, k1, rfl⟩
  go_wp2_with fail
  refine (nil_len _).mono ?_
  rintro e w1 ⟨rfl, rfl⟩
  go_wp2_with fail
  refine (nil_double _ _).mono ?_
  rintro e w1 ⟨rfl, k2, rfl⟩
  go_wp2_with fail
  refine (nil_lose _ _).mono ?_
  rintro e w1 ⟨rfl, rfl⟩
  go_wp2_with fail
  refine (nil_to _ _).mono ?_
  rintro e w1 ⟨rfl, rfl⟩
  go_wp2_with fail
  have B0 := Lib.hid (below_drewN w (k1 + k2))
  have S0 : (w.drewN (k1 + k2)).heap.size = w.heap.size := rfl
  have G0 := Lib.hid (HG.out.later B0.out (Nat.le_refl _))
  generalize w.drewN (k1 + k2) = w2 at *
  refine (bnew_no M _ hM).mono ?_
  rintro e w3 ⟨rfl, rfl⟩
  by_cases h1 : M < 1
  · clear hM
    go_wp2_with fail
    refine (num20_err 1 _ G0.out).mono ?_
    rintro e w3 ⟨rfl, b3⟩
    have B3 := Lib.hid b3
    have G3 := Lib.hid (G0.out.later b3 (Nat.le_refl _))
    clear b3
    go_wp2_with fail
    refine (sure20 w3 G3.out).mono ?_
    rintro e w4 ⟨rfl, b4⟩
    have B4 := Lib.hid b4
    clear b4
    go_wp2_with fail
    go_ret
    exact ⟨rfl, (B0.out.trans (B3.out.mono (Nat.le_of_eq S0.symm))).trans (B4.out.mono (by have := B3.out.size; omega))⟩
  · have h2 : 4096 < M := by omega
    clear hM
    go_wp2_with fail
    refine (num20_err 1 _ G0.out).mono ?_
    rintro e w3 ⟨rfl, b3⟩
    have B3 := Lib.hid b3
    have G3 := Lib.hid (G0.out.later b3 (Nat.le_refl _))
    clear b3
    go_wp2_with fail
    refine (sure20 w3 G3.out).mono ?_
    rintro e w4 ⟨rfl, b4⟩
    have B4 := Lib.hid b4
    clear b4
    go_wp2_with fail
    go_ret
    exact ⟨rfl, (B0.out.trans (B3.out.mono (Nat.le_of_eq S0.symm))).trans (B4.out.mono (by have := B3.out.size; omega))⟩
end Go.Proofs.YtaehlafaehpbjaaDoor
