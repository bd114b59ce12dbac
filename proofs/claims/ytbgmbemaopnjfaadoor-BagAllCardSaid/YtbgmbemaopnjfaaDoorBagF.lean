/- Layer 20: counts in an array of 256 numbers; a bag beside them. -/
import Derived.Test.YtbgmbemaopnjfaaDoorBagE
import Derived.ChangeKeysEq
namespace Go.Proofs.YtbgmbemaopnjfaaDoor
open Go.RowKit
/-- an array of 256 counts -/
def ctr (f : Nat → Nat) : Array Value := ((List.range 256).map fun v => Value.int .i64 (f v : Int)).toArray
theorem ctr_get (f : Nat → Nat) (x : Nat) (hx : x < 256) : (ctr f)[x]? = some (.int .i64 (f x : Int)) := by simp [ctr, hx]
theorem ctr_congr {f g : Nat → Nat} (h : ∀ v, v < 256 → f v = g v) : ctr f = ctr g := by
  unfold ctr
  congr 1
  apply List.map_congr_left
  intro v hv
  rw [h v (List.mem_range.1 hv)]
theorem ctr_set (f : Nat → Nat) (x y : Nat) : (ctr f).setIfInBounds x (.int .i64 (y : Int)) = ctr (fun v => if v = x then y else f v) := by
  unfold ctr
  rw [List.setIfInBounds_toArray]
  congr 1
  apply List.ext_getElem
  · simp
  · intro i h1 h2
    simp only [List.getElem_set, List.getElem_map, List.getElem_range]
    by_cases h : x = i
    · subst h; simp
    · rw [if_neg h, if_neg (fun e => h e.symm)]
theorem ctr_zero : Tryd.zeroCells51 = ctr (fun _ => 0) := by kernel_rfl
theorem ctr_size (f : Nat → Nat) : (ctr f).size = 256 := by simp [ctr]
theorem eq_ints {P : Program} (d : Nat) {e : TypeId} (he : P.underlying e = some (.int .i64)) (hc : P.cellsOf e = 1) (f : Nat → Nat) (w : World) : ∀ is : List Nat, (∀ i ∈ is, i < 256) → (Op.eqItems (d + 1) e (P.cellsOf e) (ctr f) (ctr f) is).run P w = .ok true w
  | [], _ => by simp [Op.eqItems]
  | i :: is, h => by
    have hp : (part e (ctr f) (i * P.cellsOf e)).run P w = .ok (.int .i64 (f i : Int)) w := by
      rw [hc, Nat.mul_one]
      exact run_part_plain w (by simp [Program.plainKey, he]) (ctr_get f i (h i (by simp)))
    simp only [Op.eqItems, Sem.run_bind, hp, Result.andThen_ok]
    have heq : (Op.equalIn (d + 1) e (.int .i64 (f i : Int)) (.int .i64 (f i : Int))).run P w = .ok true w := by
      simp [Op.equalIn, run_underlying he]
    rw [heq]
    simp only [Result.andThen_ok]
    exact eq_ints d he hc f w is (fun j hj => h j (by simp [hj]))
/-- bytes, one of each a body -/
def lst (S : List Nat) : List (Int × List Nat) := S.map fun (x : Nat) => ((x : Int), [x])
theorem lst_length (S : List Nat) : (lst S).length = S.length := by simp [lst]
theorem lst_snoc (S : List Nat) (x : Nat) : lst S ++ [((x : Int), [x])] = lst (S ++ [x]) := by simp [lst]
theorem lst_getD (S : List Nat) (k : Nat) (hk : k < S.length) : (lst S).getD k (0, []) = (((S.getD k 0 : Nat) : Int), [S.getD k 0]) := by
  simp [lst, List.getD_eq_getElem?_getD, List.getElem?_eq_getElem hk]
theorem lst_erase (S : List Nat) (k : Nat) : (lst S).eraseIdx k = lst (S.eraseIdx k) := by
  simp [lst, List.eraseIdx_eq_take_drop_succ, List.map_take, List.map_drop]
theorem count_erase (S : List Nat) (k v : Nat) (hk : k < S.length) : (S.eraseIdx k).count v + (if S.getD k 0 = v then 1 else 0) = S.count v := by
  have e : S = S.take k ++ S.getD k 0 :: S.drop (k + 1) := by
    rw [getD_lt hk, List.getElem_cons_drop hk, List.take_append_drop]
  rw [List.eraseIdx_eq_take_drop_succ, List.count_append]
  have h2 : S.count v = (S.take k ++ S.getD k 0 :: S.drop (k + 1)).count v := by rw [← e]
  rw [h2, List.count_append, List.count_cons]
  simp only [beq_iff_eq]
  omega
theorem count_snoc (S : List Nat) (x v : Nat) : (S ++ [x]).count v = if v = x then S.count v + 1 else S.count v := by
  rw [List.count_append, List.count_cons, List.count_nil]
  by_cases h : v = x
  · subst h; simp
  · rw [if_neg h, if_neg (by simpa using fun e => h e.symm)]; rfl
theorem IsBag.other {w w' : World} {g base k : Nat} {M : Int} {l : List (Int × List Nat)} (h : IsBag w g base M l) (hg : w.grownBy w' (some k)) (hk : k < base) (hkg : k ≠ g) : IsBag w' g base M l := by
  obtain ⟨A, n, c, vs, h⟩ := h
  refine ⟨A, n, c, vs, h.blk_.grown hg (fun e => hkg (by injection e)), h.own.kept hg ?_, h.len, fun i p q h1 h2 => ?_, h.far⟩
  · cases e : blk A with
    | none => exact .inl rfl
    | some j => exact .inr (by intro e2; injection e2 with e2; have := (h.own.lt j e).1; omega)
  · obtain ⟨e1, A1, c1, e2, hl, hat, hn, hkk⟩ := h.bod i p q h1 h2
    refine ⟨e1, A1, c1, e2, hl, hat.grown hg ?_, hn, fun j e => ?_⟩
    · cases e : blk A1 with
      | none => exact .inl rfl
      | some j => exact .inr (by intro e3; injection e3 with e3; have := (hkk j e).1; omega)
    · have := hkk j e
      exact ⟨this.1, Nat.lt_of_lt_of_le this.2.1 hg.size, this.2.2⟩
/-- a bag, and beside it what was put and what came -/
structure Run (w wr : World) (gb : Nat) (S : List Nat) (f g : Nat → Nat) : Prop where
  bag : IsBag wr gb (gb + 3) 300 (lst S)
  want : Holds wr (gb + 1) 51 (ctr f)
  got : Holds wr (gb + 2) 51 (ctr g)
  bel : Below gb w wr
theorem Run.size {w wr : World} {gb : Nat} {S : List Nat} {f g : Nat → Nat} (h : Run w wr gb S f g) : gb + 3 ≤ wr.heap.size := h.got.lt
theorem Run.kept {w wr wr' : World} {gb : Nat} {S S' : List Nat} {f g : Nat → Nat} (h : Run w wr gb S f g) (hk : Kept (gb + 3) gb wr wr') (hb : IsBag wr' gb (gb + 3) 300 (lst S')) : Run w wr' gb S' f g :=
  ⟨hb, hk.holds h.want (by omega) (by omega), hk.holds h.got (by omega) (by omega), h.bel.trans (hk.below (by omega) (Nat.le_refl _))⟩
theorem Run.later {w wr wr' : World} {gb : Nat} {S : List Nat} {f g : Nat → Nat} (h : Run w wr gb S f g) (hb : Below wr.heap.size wr wr') : Run w wr' gb S f g :=
  ⟨h.bag.below hb (Nat.le_refl _), h.want.later hb (Nat.le_refl _), h.got.later hb (Nat.le_refl _), h.bel.trans (hb.mono (by have := h.size; omega))⟩
theorem Run.setWant {w wr : World} {gb x y : Nat} {S : List Nat} {f f' g : Nat → Nat} (h : Run w wr gb S f g) (hf : ∀ v, v < 256 → f' v = if v = x then y else f v) : Run w (wr.setCell ⟨gb + 1, x, none⟩ (.int .i64 (y : Int))) gb S f' g where
  bag := h.bag.other (grown_set (grown_refl _ _) x _) (by omega) (by omega)
  want := by have := h.want.set x (.int .i64 (y : Int)); rw [ctr_set] at this; rw [ctr_congr hf]; exact this
  got := h.got.far (by show gb + 2 ≠ gb + 1; omega) _
  bel := h.bel.setCell (by show gb ≤ gb + 1; omega) _
theorem Run.setGot {w wr : World} {gb x y : Nat} {S : List Nat} {f g g' : Nat → Nat} (h : Run w wr gb S f g) (hf : ∀ v, v < 256 → g' v = if v = x then y else g v) : Run w (wr.setCell ⟨gb + 2, x, none⟩ (.int .i64 (y : Int))) gb S f g' where
  bag := h.bag.other (grown_set (grown_refl _ _) x _) (by omega) (by omega)
  want := h.want.far (by show gb + 1 ≠ gb + 2; omega) _
  got := by have := h.got.set x (.int .i64 (y : Int)); rw [ctr_set] at this; rw [ctr_congr hf]; exact this
  bel := h.bel.setCell (by show gb ≤ gb + 2; omega) _
theorem run_start (w : World) : Run w (((w.alloc (.cells #[.int .i64 300, .slice none 0 0] 95)).alloc (.cells (ctr (fun _ => 0)) 51)).alloc (.cells (ctr (fun _ => 0)) 51)) w.heap.size [] (fun _ => 0) (fun _ => 0) where
  bag := by
    have b0 := new_bag 300 w (w.heap.size + 3)
    have b1 := (b0.below ((Below.refl _ _).alloc (Nat.le_refl _) (.cells (ctr (fun _ => 0)) 51)) (Nat.le_refl _)).below ((Below.refl _ _).alloc (Nat.le_refl _) (.cells (ctr (fun _ => 0)) 51)) (Nat.le_refl _)
    exact ⟨_, _, _, _, b1⟩
  want := (Holds.new _ _ _ _ (by simp)).alloc _
  got := Holds.new _ _ _ _ (by simp)
  bel := (((Below.refl _ _).alloc (Nat.le_refl _) _).alloc (by simp) _).alloc (by simp <;> omega) _
end Go.Proofs.YtbgmbemaopnjfaaDoor
