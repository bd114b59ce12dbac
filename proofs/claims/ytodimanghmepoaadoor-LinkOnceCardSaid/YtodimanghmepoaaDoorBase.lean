/- Words for memory that the walks of this seat share: what a slice's cells hold, what is below a block number, as plain facts over any program. -/
import Derived.WalkKit
import Derived.Lib.Hide
import Derived.Maps.AppendAt
import Derived.Deep.AppendLies
import Derived.KernelRfl
import Derived.Deep.Draws
namespace Go.Proofs.YtodimanghmepoaaDoor
open Go.RowKit

/-- from address A on the cells hold xs -/
def At (w : World) (A : Option Addr) (xs : List Value) : Prop :=
  ∀ i x, xs[i]? = some x → ∃ b o, A = some ⟨b, o, none⟩ ∧ w.cell? ⟨b, o + i, none⟩ = some x
def nats (k : IntKind) (l : List Nat) : List Value := l.map fun (x : Nat) => .int k (x : Int)
theorem nats_length (k : IntKind) (l : List Nat) : (nats k l).length = l.length := by simp [nats]
theorem At.nil (w : World) (A : Option Addr) : At w A [] := by intro i x h; simp at h
theorem At.nat {w : World} {A : Option Addr} {k : IntKind} {l : List Nat} (h : At w A (nats k l)) (i : Nat) (hi : i < l.length) :
    ∃ b o, A = some ⟨b, o, none⟩ ∧ w.cell? ⟨b, o + i, none⟩ = some (.int k ((l.getD i 0 : Nat) : Int)) := by
  apply h i
  simp [nats, List.getD_eq_getElem?_getD, List.getElem?_eq_getElem hi]
theorem At.keep {w w' : World} {A : Option Addr} {xs : List Value} (h : At w A xs) (hk : ∀ b o, A = some ⟨b, o, none⟩ → ∀ i, w'.cell? ⟨b, o + i, none⟩ = w.cell? ⟨b, o + i, none⟩) : At w' A xs := by
  intro i x hx
  obtain ⟨b, o, e, hc⟩ := h i x hx
  exact ⟨b, o, e, by rw [hk b o e]; exact hc⟩

/-- the string of bytes -/
def strN (l : List Nat) : ByteArray := ⟨(l.map fun x => UInt8.ofNat x).toArray⟩
theorem strN_inj {a b : List Nat} (ha : ∀ i, a.getD i 0 < 256) (hb : ∀ i, b.getD i 0 < 256) : strN a = strN b ↔ a = b := by
  constructor
  · intro h
    injection h with h
    injection h with h
    apply List.ext_getElem
    · simpa using congrArg List.length h
    · intro i h1 h2
      have e := congrArg (fun l : List UInt8 => l[i]?) h
      simp [List.getElem?_eq_getElem h1, List.getElem?_eq_getElem h2] at e
      have e2 := congrArg UInt8.toNat e
      have a1 := ha i; have b1 := hb i
      simp [List.getD_eq_getElem?_getD, List.getElem?_eq_getElem h1] at a1
      simp [List.getD_eq_getElem?_getD, List.getElem?_eq_getElem h2] at b1
      simp at e2; omega
  · rintro rfl; rfl
theorem strN_toList (l : List Nat) : (strN l).toList = l.map fun x => UInt8.ofNat x := by rw [ByteArray.toList_eq]; rfl
theorem strN_beq {a b : List Nat} (ha : ∀ i, a.getD i 0 < 256) (hb : ∀ i, b.getD i 0 < 256) : ((strN a).toList == (strN b).toList) = (a == b) := by
  rw [Bool.eq_iff_iff, beq_iff_eq, beq_iff_eq, ← strN_inj ha hb, strN_toList, strN_toList]
  constructor
  · intro h; unfold strN; rw [h]
  · intro h; have := congrArg ByteArray.toList h; rwa [strN_toList, strN_toList] at this
theorem strOf (l : List Nat) : strOfNums (l.map fun (x : Nat) => (x : Int)) = strN l := by
  simp [strOfNums, strN, Function.comp_def]
/-- 'string(b)' -/
theorem run_str {P : Program} (w : World) {src dst e : TypeId} (hs : P.underlying src = some (.slice e)) (he : P.underlying e = some (.int .u8)) (hd : P.underlying dst = some .string)
    {A : Option Addr} {n c : Nat} {l : List Nat} (hn : l.length = n) (h : At w A (nats .u8 l)) : (convert src dst (.slice A n c)).run P w = .ok (.string (strN l)) w := by
  subst hn
  by_cases h0 : 0 < l.length
  · obtain ⟨b, o, rfl, _⟩ := h.nat 0 h0
    rw [← strOf]
    refine run_convert_bytes_arg w src e hs he b o l.length c _ (by simp) ?_ dst hd
    intro i hi
    obtain ⟨b', o', e', hc⟩ := h.nat i hi
    injection e' with e'; injection e' with e1 e2 e3; subst e1; subst e2
    rw [hc]; simp [List.getD_eq_getElem?_getD, List.getElem?_eq_getElem hi]
  · have hl : l = [] := List.eq_nil_of_length_eq_zero (by omega)
    subst hl
    cases A with
    | none => rw [run_convert_bytes_nil w src e hs he _ _ dst hd]; rfl
    | some a =>
      have hl := run_loadCells_list (P := P) w a [] (by simp)
      rw [run_convert_bytes_string w src dst e _ _ c hs he hd]
      show (Conv.bytesToString (.slice (some a) 0 c)).run P w = _
      rw [run_bytesToString w a 0 c [] (by simpa using hl)]
      rfl

theorem ret_int {k : IntKind} {a b : Int} (h : a = b) : Ending.returned (.int k a) = .returned (.int k b) := by rw [h]
theorem int_eq {k : IntKind} {a b : Int} (h : a = b) : Value.int k a = Value.int k b := by rw [h]
theorem ret_bool {a b : Bool} (h : a = b) : Ending.returned (.bool a) = .returned (.bool b) := by rw [h]
theorem At.cut {w : World} {b o m : Nat} {xs : List Value} (h : At w (some ⟨b, o, none⟩) xs) : At w (some ⟨b, o + m, none⟩) (xs.drop m) := by
  intro i x hx
  obtain ⟨b', o', e, hc⟩ := h (m + i) x (by rw [List.getElem?_drop] at hx; exact hx)
  injection e with e; injection e with e1 e2 e3; subst e1; subst e2
  exact ⟨b, o + m, rfl, by rw [Nat.add_assoc]; exact hc⟩
theorem At.take {w : World} {A : Option Addr} {m : Nat} {xs : List Value} (h : At w A xs) : At w A (xs.take m) := by
  intro i x hx
  have h1 : i < m := by
    rcases Nat.lt_or_ge i m with h | h
    · exact h
    · rw [List.getElem?_eq_none (by simp; omega)] at hx; cases hx
  exact h i x (by rw [List.getElem?_take, if_pos h1] at hx; exact hx)
theorem addr_add (b o m : Nat) : (Addr.add ⟨b, o, none⟩ m) = ⟨b, o + m, none⟩ := by unfold Addr.add; split <;> simp_all
theorem nats_drop (k : IntKind) (m : Nat) (l : List Nat) : nats k (l.drop m) = (nats k l).drop m := by simp [nats, List.map_drop]
theorem nats_take (k : IntKind) (m : Nat) (l : List Nat) : nats k (l.take m) = (nats k l).take m := by simp [nats, List.map_take]
theorem getD_lt {l : List Nat} {k : Nat} (h : k < l.length) : l.getD k 0 = l[k] := by simp [List.getD_eq_getElem?_getD, List.getElem?_eq_getElem h]
theorem take_snoc {l : List Nat} {k : Nat} (h : k < l.length) : l.take (k + 1) = l.take k ++ [l.getD k 0] := by
  rw [List.take_succ_eq_append_getElem h, getD_lt h]

/-! ### slices that the call itself made, and append -/
/-- what the program's tables say of a slice type t and its element type e -/
structure Elt (P : Program) (t e : TypeId) (z : Value) (size bytes : Nat) : Prop where
  ht : P.underlying t = some (.slice e)
  hi : ∃ i, P.info? e = some i ∧ i.zero = some z ∧ i.size = size ∧ i.bytes = bytes
  hzs : z.cells.size = size
  hsz : 0 < size
/-- the slice is of the call's own, from block base on, and holds xs -/
def Own (w : World) (base : Nat) (e : TypeId) (size : Nat) (A : Option Addr) (n c : Nat) (xs : List Value) : Prop := w.ownsRow base e size (.slice A n c) n xs
def blk (A : Option Addr) : Option Nat := A.map (·.block)
theorem blk_own (A : Option Addr) (n c : Nat) : (Value.slice A n c).ownBlock = none → True := fun _ => trivial
theorem own_blk {w : World} {base : Nat} {e : TypeId} {size : Nat} {A : Option Addr} {n c : Nat} {xs : List Value} (h : Own w base e size A n c xs) : (Value.slice A n c).ownBlock = blk A := by
  rcases h.2 with ⟨h1, _⟩ | ⟨g, cap, cur, h1, _⟩
  · injection h1 with h1; subst h1; rfl
  · injection h1 with h1; subst h1; rfl
theorem Own.len {w : World} {base : Nat} {e : TypeId} {size : Nat} {A : Option Addr} {n c : Nat} {xs : List Value} (h : Own w base e size A n c xs) : xs.length = n * size := h.1
theorem Own.cap {w : World} {base : Nat} {e : TypeId} {size : Nat} {A : Option Addr} {n c : Nat} {xs : List Value} (h : Own w base e size A n c xs) : n ≤ c ∧ c ≤ maxLen := by
  rcases h.2 with ⟨h1, h2⟩ | ⟨g, cap, cur, h1, _, _, h3, h4, _⟩
  · injection h1 with h1 h5 h6; subst h2; subst h6; exact ⟨Nat.le_refl _, by unfold maxLen; omega⟩
  · injection h1 with h1 h5 h6; subst h6; exact ⟨h3, h4⟩
/-- where it lies -/
theorem Own.lies {w : World} {base : Nat} {e : TypeId} {size : Nat} {A : Option Addr} {n c : Nat} {xs : List Value} (h : Own w base e size A n c xs) : (A = none ∧ n = 0 ∧ c = 0 ∧ xs = []) ∨ ∃ g, A = some ⟨g, 0, none⟩ ∧ base ≤ g ∧ g < w.heap.size := by
  have hl := h.1
  rcases h.2 with ⟨h1, h2⟩ | ⟨g, cap, cur, h1, hb, hh, _⟩
  · injection h1 with h1 h5 h6; subst h2; exact .inl ⟨h1, rfl, h6, List.eq_nil_of_length_eq_zero (by simpa using hl)⟩
  · injection h1 with h1; refine .inr ⟨g, h1, hb, ?_⟩
    rcases Nat.lt_or_ge g w.heap.size with h | h
    · exact h
    · rw [Array.getElem?_eq_none h] at hh; cases hh
theorem Own.at_ {w : World} {base : Nat} {e : TypeId} {size : Nat} {A : Option Addr} {n c : Nat} {xs : List Value} (h : Own w base e size A n c xs) : At w A xs := by
  intro i x hx
  rcases h.lies with ⟨_, _, _, rfl⟩ | ⟨g, rfl, _, _⟩
  · simp at hx
  · have := World.ownsRow.cells h (g := g) rfl i x hx
    rw [addr_add] at this
    exact ⟨g, 0, rfl, this⟩
theorem Own.lt {w : World} {base : Nat} {e : TypeId} {size : Nat} {A : Option Addr} {n c : Nat} {xs : List Value} (h : Own w base e size A n c xs) : ∀ k, blk A = some k → base ≤ k ∧ k < w.heap.size := by
  intro k hk
  exact World.ownsRow.lt h k (by rw [own_blk h]; exact hk)
theorem Own.none_ (w : World) (base : Nat) (e : TypeId) (size : Nat) : Own w base e size none 0 0 [] := World.ownsRow_nil w base e size
theorem Own.drew {w : World} {base : Nat} {e : TypeId} {size : Nat} {A : Option Addr} {n c : Nat} {xs : List Value} (h : Own w base e size A n c xs) : Own w.drew base e size A n c xs := h
theorem Own.drewN {w : World} {base : Nat} {e : TypeId} {size : Nat} {A : Option Addr} {n c : Nat} {xs : List Value} (h : Own w base e size A n c xs) (k : Nat) : Own (w.drewN k) base e size A n c xs := h
theorem Own.alloc {w : World} {base : Nat} {e : TypeId} {size : Nat} {A : Option Addr} {n c : Nat} {xs : List Value} (h : Own w base e size A n c xs) (o : Obj) : Own (w.alloc o) base e size A n c xs := World.ownsRow.alloc h o
theorem Own.kept {w w' : World} {base : Nat} {e : TypeId} {size : Nat} {A : Option Addr} {n c : Nat} {xs : List Value} {row : Option Nat} (h : Own w base e size A n c xs) (hg : w.grownBy w' row) (hne : blk A = none ∨ blk A ≠ row) : Own w' base e size A n c xs :=
  World.ownsRow.kept h hg (by rw [own_blk h]; exact hne)
theorem Own.below {w w' : World} {base B : Nat} {e : TypeId} {size : Nat} {A : Option Addr} {n c : Nat} {xs : List Value} (h : Own w base e size A n c xs) (hb : Below B w w') (hB : w.heap.size ≤ B) : Own w' base e size A n c xs :=
  h.kept (row := none) ⟨hb.os, hb.tape, hb.output, hb.size, fun k hk _ => hb.block k (by omega)⟩ (by
    cases hA : blk A with
    | none => exact .inl rfl
    | some k => exact .inr (by simp))
theorem Own.lit {w : World} {base : Nat} {e : TypeId} {size : Nat} (cs : Array Value) (n : Nat) (hb : base ≤ w.heap.size) (hm : n ≤ maxLen) (hs : cs.size = n * size) :
    Own (w.alloc (.cells cs e)) base e size (some ⟨w.heap.size, 0, none⟩) n n cs.toList := World.ownsRow_lit w cs n hb hm hs
theorem Own.lit' {w : World} {base b : Nat} {e : TypeId} {size : Nat} (cs : Array Value) (n : Nat) (hb : base ≤ w.heap.size) (hbb : w.heap.size = b) (hm : n ≤ maxLen) (hs : cs.size = n * size) :
    Own (w.alloc (.cells cs e)) base e size (some ⟨b, 0, none⟩) n n cs.toList := by subst hbb; exact World.ownsRow_lit w cs n hb hm hs
theorem At.below {w w' : World} {B : Nat} {A : Option Addr} {xs : List Value} (h : At w A xs) (hb : Below B w w') (hB : ∀ k, blk A = some k → k < B) : At w' A xs :=
  h.keep fun b o e i => hb.cell (p := ⟨b, o + i, none⟩) (hB b (by subst e; rfl))
theorem At.lt {w : World} {A : Option Addr} {xs : List Value} (h : At w A xs) (h0 : xs ≠ []) : ∀ k, blk A = some k → k < w.heap.size := by
  intro k hk
  obtain ⟨x, hx⟩ : ∃ x, xs[0]? = some x := by cases xs with | nil => exact absurd rfl h0 | cons x _ => exact ⟨x, rfl⟩
  obtain ⟨b, o, e, hc⟩ := h 0 x hx
  subst e
  have hkb : b = k := by simpa [blk] using hk
  subst hkb
  rcases Nat.lt_or_ge b w.heap.size with h | h
  · exact h
  · simp [World.cell?, Array.getElem?_eq_none h] at hc
/-- what was there stays, whatever is laid behind it -/
theorem At.later {w w' : World} {B : Nat} {A : Option Addr} {xs : List Value} (h : At w A xs) (hb : Below B w w') (hB : w.heap.size ≤ B) : At w' A xs := by
  by_cases h0 : xs = []
  · subst h0; exact At.nil _ _
  · exact h.below hb fun k hk => Nat.lt_of_lt_of_le (h.lt h0 k hk) hB
theorem At.grown {w w' : World} {A : Option Addr} {xs : List Value} {row : Option Nat} (h : At w A xs) (hg : w.grownBy w' row) (hne : blk A = none ∨ blk A ≠ row) : At w' A xs := by
  by_cases h0 : xs = []
  · subst h0; exact At.nil _ _
  · have hl := h.lt h0
    refine h.keep fun b o e i => ?_
    subst e
    exact World.cell?_of_block (hg.block b (hl b rfl) (by rcases hne with h | h; · cases h
                                                          · exact h))
theorem run_app {P : Program} (w : World) {t e : TypeId} {z : Value} {size bytes : Nat} (E : Elt P t e z size bytes) (ty : TypeId) {base : Nat} {A : Option Addr} {n c : Nat} {xs : List Value} (hown : Own w base e size A n c xs)
    {A2 : Option Addr} {m c2 : Nat} {news : List Value} (hl : news.length = m * size) (hnews : At w A2 news) (h1 : ∀ u ∈ news, u.oneCell' = true)
    (h63 : n + m ≤ maxLen) (hbytes : (n + m) * bytes ≤ 140737488355328) (hbase : base ≤ w.heap.size) :
    ∃ A' c' w', (Builtin.append_ #[t, t] ty #[.slice A n c, .slice A2 m c2]).run P w = .ok (.slice A' (n + m) c') w' ∧ Own w' base e size A' (n + m) c' (xs ++ news) ∧ w.grownBy w' (blk A) ∧ (blk A' = blk A ∨ blk A' = some w.heap.size) := by
  obtain ⟨i, hi, hz, hsize, hby⟩ := E.hi
  have hnil : A2 = none → m = 0 ∧ news = [] := by
    rintro rfl
    have : news = [] := by
      cases news with
      | nil => rfl
      | cons x l => obtain ⟨b, o, e, _⟩ := hnews 0 x rfl; cases e
    subst this
    have := E.hsz
    have : m * size = 0 := by simpa using hl.symm
    rcases Nat.mul_eq_zero.1 this with h | h
    · exact ⟨h, rfl⟩
    · omega
  cases A2 with
  | none =>
    obtain ⟨rfl, rfl⟩ := hnil rfl
    refine ⟨A, c, w, ?_, by simpa using hown, World.grownBy.refl w _, .inl rfl⟩
    rcases hown.2 with ⟨h1, rfl⟩ | ⟨g, cap, cur, h1, _, _, hnc, _⟩
    · injection h1 with h1 h2 h3; subst h1; subst h3
      simp [Builtin.append_, run_underlying E.ht, sizeOf, typeInfo, hi, Builtin.lenOf, Builtin.firstCells]
    · injection h1 with h1 h2 h3; subst h1; subst h3
      simp [Builtin.append_, run_underlying E.ht, sizeOf, typeInfo, hi, Builtin.lenOf, Builtin.firstCells, hnc, storeCells]
  | some ad =>
    have hcells : ∀ j u, news[j]? = some u → w.cell? (ad.add j) = some u := by
      intro j u hu
      obtain ⟨b, o, e, hc⟩ := hnews j u hu
      injection e with e; subst e; rw [addr_add]; exact hc
    obtain ⟨v', w', hr, h2, h3, h4, h5⟩ := run_append_own_at w base t ty e i z size bytes E.ht hi hz hsize hby E.hzs E.hsz (.slice A n c) n xs hown ad m c2 news hl hcells h1 h63 hbytes hbase
    have hf : ∃ A' c', v' = .slice A' (n + m) c' := by
      rcases h2.2 with ⟨h, h0⟩ | ⟨g, cap, cur, h, _⟩
      · exact ⟨none, 0, by rw [h, h0]⟩
      · exact ⟨_, _, h⟩
    obtain ⟨A', c', rfl⟩ := hf
    have h2' : Own w' base e size A' (n + m) c' (xs ++ news) := h2
    refine ⟨A', c', w', hr, h2', ?_, ?_⟩
    · rw [← own_blk hown]; exact h3
    · rw [← own_blk hown, ← own_blk h2']; exact h5
section
variable {P : Program} {w : World} {ops : Array Oper} {rest : List Oper} {o : Oper} {a : Act} {K : Act → World → Prop} {Q : Exit → Act → World → Prop}
theorem wp_app {t e : TypeId} {z : Value} {size bytes : Nat} (E : Elt P t e z size bytes) (base : Nat) (s x : Operand)
    (ho : o.op = .call { callee := .builtin .append, args := #[s, x], argTypes := #[t, t] })
    {A : Option Addr} {n c : Nat} (xs : List Value) (hs : a.eval s = .slice A n c) (hown : Own w base e size A n c xs)
    {A2 : Option Addr} {m c2 : Nat} (news : List Value) (hx : a.eval x = .slice A2 m c2) (hnews : At w A2 news) (hl : news.length = m * size) (h1 : ∀ u ∈ news, u.oneCell' = true)
    (h63 : n + m ≤ maxLen) (hbytes : (n + m) * bytes ≤ 140737488355328) (hbase : base ≤ w.heap.size)
    (h : ∀ A' c' w', Own w' base e size A' (n + m) c' (xs ++ news) → w.grownBy w' (blk A) → (blk A' = blk A ∨ blk A' = some w.heap.size) → K (a.put o.dst (.slice A' (n + m) c')) w') : o.wp P a w K Q := by
  obtain ⟨A', c', w', hr, h2, h3, h4⟩ := run_app w E o.type hown hl hnews h1 h63 hbytes hbase (c2 := c2)
  unfold Oper.wp execOp
  simp only [ho, resolve, invoke, builtin, Sem.run_bind, Sem.run_pure, Result.andThen_ok, List.map_toArray, List.map_cons, List.map_nil, hs, hx, hr]
  exact h A' c' w' h2 h3 h4
theorem wpList_app (hgd : Region.wanted o (yielded ops a.tmps) = true) {t e : TypeId} {z : Value} {size bytes : Nat} (E : Elt P t e z size bytes) (base : Nat) (s x : Operand)
    (ho : o.op = .call { callee := .builtin .append, args := #[s, x], argTypes := #[t, t] })
    {A : Option Addr} {n c : Nat} (xs : List Value) (hs : a.eval s = .slice A n c) (hown : Own w base e size A n c xs)
    {A2 : Option Addr} {m c2 : Nat} (news : List Value) (hx : a.eval x = .slice A2 m c2) (hnews : At w A2 news) (hl : news.length = m * size) (h1 : ∀ u ∈ news, u.oneCell' = true)
    (h63 : n + m ≤ maxLen) (hbytes : (n + m) * bytes ≤ 140737488355328) (hbase : base ≤ w.heap.size)
    (h : ∀ A' c' w', Own w' base e size A' (n + m) c' (xs ++ news) → w.grownBy w' (blk A) → (blk A' = blk A ∨ blk A' = some w.heap.size) → wpList P ops Q rest (a.put o.dst (.slice A' (n + m) c')) w') : wpList P ops Q (o :: rest) a w :=
  wpList_step fun _ hK => by
    rw [if_pos hgd]
    exact wp_app E base s x ho xs hs hown news hx hnews hl h1 h63 hbytes hbase fun A' c' w' h2 h3 h4 => hK _ _ (h A' c' w' h2 h3 h4)
end
theorem nats_one (k : IntKind) (l : List Nat) : ∀ u ∈ nats k l, u.oneCell' = true := by
  intro u hu
  obtain ⟨x, _, rfl⟩ := List.mem_map.1 hu
  rfl
theorem nats_append (k : IntKind) (a b : List Nat) : nats k (a ++ b) = nats k a ++ nats k b := by simp [nats]
end Go.Proofs.YtodimanghmepoaaDoor
