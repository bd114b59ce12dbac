/- Layer 3: curves over the field of 2^61 - 1: known by their values at as many places as they have numbers: plain mathematics. -/
import Derived.Test.YtnofckhljoghpaaDoorFpMath
namespace Go.Proofs.YtnofckhljoghpaaDoor.PoM
open FpM (p p_pos)
/-- 2^61 - 1, among the integers -/
def P : Int := 2305843009213693951
theorem P_p : P = (p : Int) := rfl
/-- alike, in the field -/
def Eq (a b : Int) : Prop := P ∣ a - b
theorem Eq.rfl' (a : Int) : Eq a a := ⟨0, by omega⟩
theorem Eq.of {a b : Int} (h : a = b) : Eq a b := by subst h; exact Eq.rfl' a
theorem Eq.symm {a b : Int} (h : Eq a b) : Eq b a := by
  obtain ⟨k, hk⟩ := h
  exact ⟨-k, by rw [Int.mul_neg, ← hk]; omega⟩
theorem Eq.trans {a b c : Int} (h : Eq a b) (k : Eq b c) : Eq a c := by
  obtain ⟨x, hx⟩ := h; obtain ⟨y, hy⟩ := k
  exact ⟨x + y, by rw [Int.mul_add, ← hx, ← hy]; omega⟩
theorem Eq.add {a b c d : Int} (h : Eq a b) (k : Eq c d) : Eq (a + c) (b + d) := by
  obtain ⟨x, hx⟩ := h; obtain ⟨y, hy⟩ := k
  exact ⟨x + y, by rw [Int.mul_add, ← hx, ← hy]; omega⟩
theorem Eq.sub {a b c d : Int} (h : Eq a b) (k : Eq c d) : Eq (a - c) (b - d) := by
  obtain ⟨x, hx⟩ := h; obtain ⟨y, hy⟩ := k
  exact ⟨x - y, by rw [Int.mul_sub, ← hx, ← hy]; omega⟩
theorem Eq.mul {a b c d : Int} (h : Eq a b) (k : Eq c d) : Eq (a * c) (b * d) := by
  obtain ⟨x, hx⟩ := h; obtain ⟨y, hy⟩ := k
  refine ⟨x * c + b * y, ?_⟩
  have e : a * c - b * d = (a - b) * c + b * (c - d) := by grind
  rw [e, hx, hy]; grind
theorem Eq.mod (a : Int) : Eq (a % P) a := by
  refine ⟨-(a / P), ?_⟩
  have := Int.mul_ediv_add_emod a P
  rw [Int.mul_neg]; omega
theorem Eq.modp (n : Nat) : Eq ((n % p : Nat) : Int) n := by
  rw [Int.natCast_emod]; exact Eq.mod n
theorem Eq.nat {a b : Nat} (ha : a < p) (hb : b < p) (h : Eq a b) : a = b := by
  obtain ⟨k, hk⟩ := h
  rw [P_p] at hk
  have hp : p = 2305843009213693951 := rfl
  rw [hp] at ha hb hk
  omega
theorem dvd_iff {a : Int} : P ∣ a ↔ Eq a 0 := by unfold Eq; rw [Int.sub_zero]
/-- what takes one back -/
def inv (a : Int) : Int := (((a % P).toNat ^ FpM.e2 : Nat) : Int)
theorem inv_mul {a : Int} (h : ¬ Eq a 0) : Eq (inv a * a) 1 := by
  have h0 : 0 ≤ a % P := Int.emod_nonneg a (by decide)
  have h1 : a % P < P := Int.emod_lt_of_pos a (by decide)
  obtain ⟨n, hn⟩ : ∃ n : Nat, a % P = n := ⟨(a % P).toNat, by omega⟩
  have hnp : n < p := by rw [hn, P_p] at h1; omega
  have hn0 : n % p ≠ 0 := by
    rw [Nat.mod_eq_of_lt hnp]
    rintro rfl
    exact h ((Eq.mod a).symm.trans (by rw [hn]; exact Eq.rfl' 0))
  have h2 := FpM.inv_mul n hn0
  unfold inv
  rw [hn, Int.toNat_natCast]
  generalize hx : n ^ FpM.e2 = x at h2
  have e1 : Eq ((x * n : Nat) : Int) 1 := by
    refine (Eq.modp (x * n)).symm.trans ?_
    rw [h2]; exact Eq.rfl' 1
  refine Eq.trans (Eq.mul (Eq.rfl' (x : Int)) ((Eq.mod a).symm.trans (Eq.of hn))) ?_
  rw [← Int.natCast_mul]; exact e1
theorem prime {a b : Int} (h : Eq (a * b) 0) (ha : ¬ Eq a 0) : Eq b 0 := by
  have h1 := (Eq.mul (inv_mul ha) (Eq.rfl' b)).symm
  rw [Int.one_mul] at h1
  refine h1.trans ?_
  have h2 := Eq.mul (Eq.rfl' (inv a)) h
  rw [Int.mul_zero, ← Int.mul_assoc] at h2
  exact h2
theorem ne_mul {a b : Int} (ha : ¬ Eq a 0) (hb : ¬ Eq b 0) : ¬ Eq (a * b) 0 := fun h => hb (prime h ha)
theorem ne_one : ¬ Eq 1 0 := by
  rintro ⟨k, hk⟩
  rw [P_p, show p = 2305843009213693951 from rfl] at hk
  omega
theorem cancel {a b c : Int} (h : Eq (a * c) (b * c)) (hc : ¬ Eq c 0) : Eq a b := by
  have e : Eq (c * (a - b)) 0 := by
    refine Eq.trans (Eq.of (show c * (a - b) = a * c - b * c by grind)) ?_
    refine (Eq.sub h (Eq.rfl' (b * c))).trans (Eq.of (by omega))
  have h1 := prime e hc
  unfold Eq at h1 ⊢
  rwa [Int.sub_zero] at h1

/-! ### curves -/
/-- a curve's value -/
def ev : List Int → Int → Int
  | [], _ => 0
  | c :: l, x => c + x * ev l x
def padd : List Int → List Int → List Int
  | [], m => m
  | a :: l, [] => a :: l
  | a :: l, b :: m => (a + b) :: padd l m
def scale (k : Int) (l : List Int) : List Int := l.map (k * ·)
theorem ev_padd : ∀ (l m : List Int) (x : Int), ev (padd l m) x = ev l x + ev m x
  | [], m, x => by simp [padd, ev]
  | a :: l, [], x => by simp [padd, ev]
  | a :: l, b :: m, x => by rw [padd, ev, ev, ev, ev_padd l m x]; grind
theorem ev_scale (k : Int) : ∀ (l : List Int) (x : Int), ev (scale k l) x = k * ev l x
  | [], x => by simp [scale, ev]
  | a :: l, x => by
    have := ev_scale k l x
    unfold scale at this ⊢
    rw [List.map_cons, ev, ev, this]; grind
theorem length_padd : ∀ (l m : List Int), (padd l m).length = max l.length m.length
  | [], m => by simp [padd]
  | a :: l, [] => by simp [padd]
  | a :: l, b :: m => by simp [padd, length_padd l m]
theorem length_scale (k : Int) (l : List Int) : (scale k l).length = l.length := by simp [scale]
/-- a curve less its value at a, divided by what x is away from a -/
def div (a : Int) : List Int → List Int
  | [] => []
  | _ :: l => padd l (scale a (div a l))
theorem length_div (a : Int) : ∀ l, (div a l).length = l.length - 1
  | [] => rfl
  | c :: l => by rw [div, length_padd, length_scale, length_div a l]; simp
theorem ev_div (a x : Int) : ∀ l, ev l x - ev l a = (x - a) * ev (div a l) x
  | [] => by simp [div, ev]
  | c :: l => by
    have h := ev_div a x l
    rw [div, ev_padd, ev_scale, ev, ev]
    grind
/-- all different, in the field -/
def Apart (xs : List Int) : Prop := xs.Pairwise fun a b => ¬ Eq (b - a) 0
theorem roots : ∀ (xs l : List Int), Apart xs → l.length ≤ xs.length → (∀ a ∈ xs, Eq (ev l a) 0) → ∀ x, Eq (ev l x) 0
  | [], l, _, hl, _, x => by
    have : l = [] := List.eq_nil_of_length_eq_zero (by simpa using hl)
    subst this; exact Eq.rfl' 0
  | a :: xs, l, hd, hl, hz, x => by
    have hd' := List.pairwise_cons.1 hd
    have ha := hz a List.mem_cons_self
    have hq := roots xs (div a l) hd'.2 (by rw [length_div]; simp at hl; omega) (fun y hy => by
      have h1 : Eq ((y - a) * ev (div a l) y) 0 := by
        rw [← ev_div a y l]
        exact (Eq.sub (hz y (List.mem_cons_of_mem _ hy)) ha).trans (Eq.of (by omega))
      exact prime h1 (hd'.1 y hy)) x
    have e : ev l x = ev l a + (x - a) * ev (div a l) x := by rw [← ev_div a x l]; omega
    rw [e]
    refine (Eq.add ha (Eq.mul (Eq.rfl' (x - a)) hq)).trans (Eq.of (by simp))
/-- f is, in the field, a curve of n numbers at most -/
def Curve (n : Nat) (f : Int → Int) : Prop := ∃ l : List Int, l.length ≤ n ∧ ∀ x, Eq (f x) (ev l x)
theorem Curve.one_place {n : Nat} {f g : Int → Int} (hf : Curve n f) (hg : Curve n g) {xs : List Int} (hx : Apart xs) (hn : n ≤ xs.length) (h : ∀ a ∈ xs, Eq (f a) (g a)) (x : Int) : Eq (f x) (g x) := by
  obtain ⟨l, hl, hf⟩ := hf
  obtain ⟨m, hm, hg⟩ := hg
  have hz := roots xs (padd l (scale (-1) m)) hx (by rw [length_padd, length_scale]; omega) (fun a ha => by
    rw [ev_padd, ev_scale]
    have h1 : Eq (ev l a) (ev m a) := (hf a).symm.trans ((h a ha).trans (hg a))
    refine (Eq.add h1 (Eq.rfl' (-1 * ev m a))).trans (Eq.of (by omega))) x
  rw [ev_padd, ev_scale] at hz
  refine (hf x).trans (Eq.trans ?_ (hg x).symm)
  unfold Eq at hz ⊢
  have e : ev l x + -1 * ev m x - 0 = ev l x - ev m x := by omega
  rwa [e] at hz
theorem Curve.mono {n m : Nat} {f : Int → Int} (h : Curve n f) (hn : n ≤ m) : Curve m f := by
  obtain ⟨l, hl, hf⟩ := h; exact ⟨l, Nat.le_trans hl hn, hf⟩
theorem Curve.congr {n : Nat} {f g : Int → Int} (h : Curve n f) (hg : ∀ x, Eq (g x) (f x)) : Curve n g := by
  obtain ⟨l, hl, hf⟩ := h; exact ⟨l, hl, fun x => (hg x).trans (hf x)⟩
theorem Curve.zero (n : Nat) : Curve n (fun _ => 0) := ⟨[], Nat.zero_le _, fun _ => Eq.rfl' 0⟩
theorem Curve.const (k : Int) : Curve 1 (fun _ => k) := ⟨[k], Nat.le_refl _, fun x => Eq.of (by simp [ev])⟩
theorem Curve.add {n : Nat} {f g : Int → Int} (hf : Curve n f) (hg : Curve n g) : Curve n (fun x => f x + g x) := by
  obtain ⟨l, hl, hf⟩ := hf
  obtain ⟨m, hm, hg⟩ := hg
  exact ⟨padd l m, by rw [length_padd]; omega, fun x => by rw [ev_padd]; exact Eq.add (hf x) (hg x)⟩
theorem Curve.scale (k : Int) {n : Nat} {f : Int → Int} (hf : Curve n f) : Curve n (fun x => k * f x) := by
  obtain ⟨l, hl, hf⟩ := hf
  exact ⟨PoM.scale k l, by rw [length_scale]; exact hl, fun x => by rw [ev_scale]; exact Eq.mul (Eq.rfl' k) (hf x)⟩
theorem Curve.times (a : Int) {n : Nat} {f : Int → Int} (hf : Curve n f) : Curve (n + 1) (fun x => f x * (x - a)) := by
  obtain ⟨l, hl, hf⟩ := hf
  refine ⟨padd (0 :: l) (PoM.scale (-a) l), by rw [length_padd, length_scale]; simp; omega, fun x => ?_⟩
  rw [ev_padd, ev_scale, ev]
  refine (Eq.mul (hf x) (Eq.rfl' (x - a))).trans (Eq.of (by grind))
end Go.Proofs.YtnofckhljoghpaaDoor.PoM
