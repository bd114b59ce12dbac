/- Layer 1: 2^61 - 1 is a field: a primitive root with its certificate, Fermat's little theorem, plain mathematics. -/
namespace Go.Proofs.YtnofckhljoghpaaDoor.FpM
/-- 2^61 - 1, and what its nonzero remainders' powers repeat by -/
def p : Nat := 2305843009213693951
def N : Nat := 2305843009213693950
theorem p_pos : 0 < p := by decide
theorem pN : p = N + 1 := rfl
/-- a power, bit by bit -/
def pmod (a : Nat) : Nat → Nat → Nat
  | 0, _ => 1
  | f + 1, n => (fun h => if n % 2 = 1 then h * h % p * a % p else h * h % p) (pmod a f (n / 2))
theorem pmod_eq (a : Nat) : ∀ f n, n < 2 ^ f → pmod a f n % p = a ^ n % p
  | 0, n, h => by
    have : n = 0 := by simpa using h
    subst this; rfl
  | f + 1, n, h => by
    have hn : n / 2 < 2 ^ f := by rw [Nat.pow_succ] at h; omega
    have ih := pmod_eq a f (n / 2) hn
    have hs : pmod a f (n / 2) * pmod a f (n / 2) % p = a ^ (n / 2 * 2) % p := by
      rw [Nat.mul_mod, ih, ← Nat.mul_mod, ← Nat.pow_add]; congr 2; omega
    unfold pmod
    by_cases ho : n % 2 = 1
    · simp only [if_pos ho]
      rw [Nat.mod_mod, Nat.mul_mod, Nat.mod_mod, hs, ← Nat.mul_mod, ← Nat.pow_succ]
      congr 2; omega
    · simp only [if_neg ho]
      rw [Nat.mod_mod, hs]
      congr 2; omega
theorem g_of {n x : Nat} (hn : n < 2 ^ 61) (h : pmod 37 61 n % p = x) : 37 ^ n % p = x := by rw [← pmod_eq 37 61 n hn]; exact h
theorem g_N : 37 ^ N % p = 1 := g_of (by decide) (by decide +kernel)
/-- equal remainders -/
theorem mul_mod_congr {a b c d : Nat} (h : a % p = c % p) (k : b % p = d % p) : (a * b) % p = (c * d) % p := by
  rw [Nat.mul_mod, h, k, ← Nat.mul_mod]
theorem pow_mod_congr {a b : Nat} (h : a % p = b % p) (n : Nat) : a ^ n % p = b ^ n % p := by
  rw [Nat.pow_mod, h, ← Nat.pow_mod]
theorem one_mod : 1 % p = 1 := by decide
theorem pow_one_mod {a : Nat} (h : a % p = 1) (n : Nat) : a ^ n % p = 1 := by
  rw [Nat.pow_mod, h, Nat.one_pow]; exact one_mod
theorem g_mul {a : Nat} (h : 37 ^ a % p = 1) (m : Nat) : 37 ^ (a * m) % p = 1 := by rw [Nat.pow_mul]; exact pow_one_mod h m
theorem g_sub {a b : Nat} (h : 37 ^ a % p = 1) (k : 37 ^ (a + b) % p = 1) : 37 ^ b % p = 1 := by
  rw [Nat.pow_add, Nat.mul_mod, h, Nat.one_mul, Nat.mod_mod] at k; exact k
theorem g_gcd (a b : Nat) : 37 ^ a % p = 1 → 37 ^ b % p = 1 → 37 ^ Nat.gcd a b % p = 1 := by
  induction a, b using Nat.gcd.induction with
  | H0 n => intro _ h; rwa [Nat.gcd_zero_left]
  | H1 m n hm ih =>
    intro h k
    rw [Nat.gcd_rec]
    refine ih ?_ h
    refine g_sub (g_mul h (n / m)) ?_
    rw [Nat.div_add_mod]; exact k
/-- numbers without factors -/
def Irr (q : Nat) : Prop := 1 < q ∧ ∀ d, d ∣ q → d = 1 ∨ d = q
theorem irr_ex : ∀ m, 1 < m → ∃ q, Irr q ∧ q ∣ m := by
  intro m
  induction m using Nat.strongRecOn with
  | ind m ih =>
    intro hm
    by_cases h : ∀ d, d ∣ m → d = 1 ∨ d = m
    · exact ⟨m, ⟨hm, h⟩, Nat.dvd_refl m⟩
    · have : ∃ d, d ∣ m ∧ d ≠ 1 ∧ d ≠ m := by
        apply Classical.byContradiction
        intro hc
        apply h
        intro d hd
        apply Classical.byContradiction
        intro hn
        exact hc ⟨d, hd, fun e => hn (.inl e), fun e => hn (.inr e)⟩
      obtain ⟨d, hd, h1, h2⟩ := this
      have hle := Nat.le_of_dvd (by omega) hd
      have h0 : d ≠ 0 := by rintro rfl; have := Nat.eq_zero_of_zero_dvd hd; omega
      obtain ⟨q, hq, hqd⟩ := ih d (by omega) (by omega)
      exact ⟨q, hq, Nat.dvd_trans hqd hd⟩
theorem irr_mul {q a b : Nat} (hq : Irr q) (h : q ∣ a * b) : q ∣ a ∨ q ∣ b := by
  rcases hq.2 (Nat.gcd q a) (Nat.gcd_dvd_left q a) with h1 | h1
  · exact .inr (Nat.Coprime.dvd_of_dvd_mul_left h1 h)
  · exact .inl (by rw [← h1]; exact Nat.gcd_dvd_right q a)
def irrB (f : Nat) : Bool := (List.range (f + 1)).all fun d => d == 1 || d == f || !(f % d == 0)
theorem irr_small {f q : Nat} (hf : irrB f = true) (h0 : 0 < f) (hq : Irr q) (h : q ∣ f) : q = f := by
  have hle := Nat.le_of_dvd h0 h
  have h1 := List.all_eq_true.1 hf q (by simp; omega)
  have h2 := Nat.mod_eq_zero_of_dvd h
  have h3 := hq.1
  simp [h2] at h1
  omega
theorem fac : N = 2 * (3 * (3 * (5 * (5 * (7 * (11 * (13 * (31 * (41 * (61 * (151 * (331 * 1321)))))))))))) := by decide
theorem irr_N {q : Nat} (hq : Irr q) (h : q ∣ N) : 37 ^ (N / q) % p ≠ 1 := by
  rw [fac] at h
  have key : ∀ f, irrB f = true → 0 < f → 37 ^ (N / f) % p ≠ 1 → q ∣ f → 37 ^ (N / q) % p ≠ 1 := by
    intro f hf h0 hne hd
    rw [irr_small hf h0 hq hd]; exact hne
  rcases irr_mul hq h with h | h
  · exact key 2 (by decide) (by decide) (by rw [g_of (n := N / 2) (x := pmod 37 61 (N / 2) % p) (by decide +kernel) rfl]; decide +kernel) h
  rcases irr_mul hq h with h | h
  · exact key 3 (by decide) (by decide) (by rw [g_of (n := N / 3) (x := pmod 37 61 (N / 3) % p) (by decide +kernel) rfl]; decide +kernel) h
  rcases irr_mul hq h with h | h
  · exact key 3 (by decide) (by decide) (by rw [g_of (n := N / 3) (x := pmod 37 61 (N / 3) % p) (by decide +kernel) rfl]; decide +kernel) h
  rcases irr_mul hq h with h | h
  · exact key 5 (by decide) (by decide) (by rw [g_of (n := N / 5) (x := pmod 37 61 (N / 5) % p) (by decide +kernel) rfl]; decide +kernel) h
  rcases irr_mul hq h with h | h
  · exact key 5 (by decide) (by decide) (by rw [g_of (n := N / 5) (x := pmod 37 61 (N / 5) % p) (by decide +kernel) rfl]; decide +kernel) h
  rcases irr_mul hq h with h | h
  · exact key 7 (by decide +kernel) (by decide) (by rw [g_of (n := N / 7) (x := pmod 37 61 (N / 7) % p) (by decide +kernel) rfl]; decide +kernel) h
  rcases irr_mul hq h with h | h
  · exact key 11 (by decide +kernel) (by decide) (by rw [g_of (n := N / 11) (x := pmod 37 61 (N / 11) % p) (by decide +kernel) rfl]; decide +kernel) h
  rcases irr_mul hq h with h | h
  · exact key 13 (by decide +kernel) (by decide) (by rw [g_of (n := N / 13) (x := pmod 37 61 (N / 13) % p) (by decide +kernel) rfl]; decide +kernel) h
  rcases irr_mul hq h with h | h
  · exact key 31 (by decide +kernel) (by decide) (by rw [g_of (n := N / 31) (x := pmod 37 61 (N / 31) % p) (by decide +kernel) rfl]; decide +kernel) h
  rcases irr_mul hq h with h | h
  · exact key 41 (by decide +kernel) (by decide) (by rw [g_of (n := N / 41) (x := pmod 37 61 (N / 41) % p) (by decide +kernel) rfl]; decide +kernel) h
  rcases irr_mul hq h with h | h
  · exact key 61 (by decide +kernel) (by decide) (by rw [g_of (n := N / 61) (x := pmod 37 61 (N / 61) % p) (by decide +kernel) rfl]; decide +kernel) h
  rcases irr_mul hq h with h | h
  · exact key 151 (by decide +kernel) (by decide) (by rw [g_of (n := N / 151) (x := pmod 37 61 (N / 151) % p) (by decide +kernel) rfl]; decide +kernel) h
  rcases irr_mul hq h with h | h
  · exact key 331 (by decide +kernel) (by decide) (by rw [g_of (n := N / 331) (x := pmod 37 61 (N / 331) % p) (by decide +kernel) rfl]; decide +kernel) h
  · exact key 1321 (by decide +kernel) (by decide) (by rw [g_of (n := N / 1321) (x := pmod 37 61 (N / 1321) % p) (by decide +kernel) rfl]; decide +kernel) h
/-- the powers of 37 come again just behind N of them -/
theorem g_order {k : Nat} (h : 37 ^ k % p = 1) : N ∣ k := by
  have hd := g_gcd k N h g_N
  obtain ⟨m, hm⟩ := Nat.gcd_dvd_right k N
  have hN : 0 < N := by decide
  by_cases h1 : m = 1
  · rw [h1, Nat.mul_one] at hm
    rw [hm]; exact Nat.gcd_dvd_left k N
  · have h0 : m ≠ 0 := by rintro rfl; rw [Nat.mul_zero] at hm; omega
    obtain ⟨q, hq, c, hc⟩ := irr_ex m (by omega)
    exfalso
    have hq0 : 0 < q := by have := hq.1; omega
    have e : N = Nat.gcd k N * c * q := hm.trans (by rw [hc, Nat.mul_comm q c, Nat.mul_assoc])
    refine irr_N hq ⟨Nat.gcd k N * c, by rw [Nat.mul_comm]; exact e⟩ ?_
    have e2 : N / q = Nat.gcd k N * c := Nat.div_eq_of_eq_mul_left hq0 e
    rw [e2]
    exact g_mul hd c
/-- what is sent to others, each to another one, reaches all -/
theorem pigeon : ∀ (n : Nat) (f : Nat → Nat), (∀ i, i < n → f i < n) → (∀ i, i < n → ∀ j, j < n → f i = f j → i = j) → ∀ y, y < n → ∃ i, i < n ∧ f i = y
  | 0, _, _, _, y, hy => by omega
  | n + 1, f, hr, hi, y, hy => by
    have hz := hr n (by omega)
    have hfn : ∀ i, i < n → f i ≠ f n := fun i h e => by have := hi i (by omega) n (by omega) e; omega
    have ih := pigeon n (fun i => if f i = n then f n else f i)
      (fun i h => by
        have h1 := hr i (by omega)
        have h2 := hfn i h
        show (if f i = n then f n else f i) < n
        split <;> omega)
      (fun i h j k e => by
        have h1 := hfn i h; have h2 := hfn j k
        apply hi i (by omega) j (by omega)
        have e' : (if f i = n then f n else f i) = (if f j = n then f n else f j) := e
        split at e' <;> split at e' <;> omega)
    by_cases h1 : y = f n
    · exact ⟨n, by omega, h1.symm⟩
    · by_cases h2 : y = n
      · obtain ⟨i, h3, h4⟩ := ih (f n) (by omega)
        have h4' : (if f i = n then f n else f i) = f n := h4
        refine ⟨i, by omega, ?_⟩
        split at h4'
        · omega
        · exact absurd h4' (hfn i h3)
      · obtain ⟨i, h3, h4⟩ := ih y (by omega)
        have h4' : (if f i = n then f n else f i) = y := h4
        refine ⟨i, by omega, ?_⟩
        split at h4' <;> omega
theorem g_pos (k : Nat) (hk : k ≤ N) : 0 < 37 ^ k % p := by
  rcases Nat.eq_zero_or_pos (37 ^ k % p) with h | h
  · exfalso
    have h1 : 37 ^ (k + (N - k)) % p = 1 := by rw [show k + (N - k) = N by omega]; exact g_N
    rw [Nat.pow_add, Nat.mul_mod, h, Nat.zero_mul] at h1
    revert h1; decide
  · exact h
theorem g_inj (i j : Nat) (hi : i < N) (hj : j < N) (h : 37 ^ i % p = 37 ^ j % p) : i = j := by
  have main : ∀ i j : Nat, i ≤ j → j < N → 37 ^ i % p = 37 ^ j % p → i = j := by
    intro i j hij hj h
    have h1 : 37 ^ (i + (N - i)) % p = 37 ^ (j + (N - i)) % p := by
      rw [Nat.pow_add, Nat.pow_add]; exact mul_mod_congr h rfl
    rw [show i + (N - i) = N by omega, g_N, show j + (N - i) = N + (j - i) by omega, Nat.pow_add, Nat.mul_mod, g_N, Nat.one_mul, Nat.mod_mod] at h1
    obtain ⟨m, hm⟩ := g_order h1.symm
    rcases Nat.eq_zero_or_pos m with h0 | h0
    · subst h0; omega
    · have : N * 1 ≤ N * m := Nat.mul_le_mul_left _ h0
      omega
  rcases Nat.le_total i j with hij | hij
  · exact main i j hij hj h
  · exact (main j i hij hi h.symm).symm
theorem g_all (a : Nat) (h0 : 0 < a) (h1 : a < p) : ∃ k, 37 ^ k % p = a := by
  obtain ⟨i, hi, he⟩ := pigeon N (fun k => 37 ^ k % p - 1)
    (fun i h => by
      have h2 : 37 ^ i % p < p := Nat.mod_lt _ p_pos
      have h3 := g_pos i (by omega)
      have h5 := pN
      show 37 ^ i % p - 1 < N
      omega)
    (fun i h j k e => by
      have h3 := g_pos i (by omega); have h4 := g_pos j (by omega)
      exact g_inj i j h k (by have e' : 37 ^ i % p - 1 = 37 ^ j % p - 1 := e; omega)) (a - 1) (by have h5 := pN; omega)
  have h3 := g_pos i (by omega)
  have he' : 37 ^ i % p - 1 = a - 1 := he
  exact ⟨i, by omega⟩
/-- a nonzero number to the power of p - 1 is 1 -/
theorem fermat (a : Nat) (h : a % p ≠ 0) : a ^ N % p = 1 := by
  obtain ⟨k, hk⟩ := g_all (a % p) (by omega) (Nat.mod_lt _ p_pos)
  have e : a % p = 37 ^ k % p := hk.symm
  rw [pow_mod_congr e N, ← Nat.pow_mul, Nat.mul_comm, Nat.pow_mul]
  exact pow_one_mod g_N k
/-- p - 2 -/
def e2 : Nat := 2305843009213693949
theorem inv_mul (a : Nat) (h : a % p ≠ 0) : (a ^ e2 * a) % p = 1 := by
  rw [← Nat.pow_succ, show e2.succ = N from rfl]; exact fermat a h
theorem pow_p (a : Nat) : a ^ p % p = a % p := by
  by_cases h : a % p = 0
  · rw [Nat.pow_mod, h, Nat.zero_pow p_pos]; rfl
  · have e : a ^ p = a ^ N * a := by rw [pN, Nat.pow_succ]
    rw [e, Nat.mul_mod, fermat a h, Nat.one_mul, Nat.mod_mod]
/-- what takes one back is one alone -/
theorem inv_one {a x y : Nat} (hx : (x * a) % p = 1) (hy : (y * a) % p = 1) : x % p = y % p := by
  have h1 : (x * (y * a)) % p = x % p := by rw [Nat.mul_mod, hy, Nat.mul_one, Nat.mod_mod]
  have h2 : (y * (x * a)) % p = y % p := by rw [Nat.mul_mod, hx, Nat.mul_one, Nat.mod_mod]
  rw [← h1, ← h2]; congr 1
  rw [← Nat.mul_assoc, ← Nat.mul_assoc, Nat.mul_comm x y]
end Go.Proofs.YtnofckhljoghpaaDoor.FpM
