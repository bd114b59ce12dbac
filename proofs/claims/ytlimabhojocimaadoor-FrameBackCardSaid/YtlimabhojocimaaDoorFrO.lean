/- Layer 13, the document: num. -/
import Derived.Test.YtlimabhojocimaaDoorFrN
namespace Go.Proofs.YtlimabhojocimaaDoor
open Go.RowKit
/-- a place in bytes: what is left behind it; below 0: something was wrong -/
def KPos (l : List Nat) (a : Int) (i : List Nat) (x : Bool) : Prop := (a = -1 ∧ i = [] ∧ x = true) ∨ ∃ p : Nat, a = p ∧ p ≤ l.length ∧ i = l.drop p ∧ x = false
theorem rv_nil (most : Nat) : rv [] most = 0 := rfl
theorem rl_nil (most : Nat) : rl [] most = [] := rfl
theorem rk_nil (most : Nat) : rk [] most = false := rfl
theorem KPos.num {l : List Nat} {p : Nat} (hp : p ≤ l.length) (most : Nat) : KPos l (if rk (l.drop p) most then ((p + (match VM.dec (l.drop p) with | some (_, k) => k | none => 0) : Nat) : Int) else -1) (rl (l.drop p) most) (false || !rk (l.drop p) most) := by
  unfold rk rl
  cases hd : VM.dec (l.drop p) with
  | none => exact .inl ⟨by simp, rfl, by simp⟩
  | some vk =>
    obtain ⟨v, k⟩ := vk
    have hk := VM.dec_le hd
    rw [List.length_drop] at hk
    by_cases h : v ≤ most
    · refine .inr ⟨p + k, by simp [h], by omega, by simp [h], by simp [h]⟩
    · exact .inl ⟨by simp [h], by simp [h], by simp [h]⟩
set_option maxRecDepth 100000 in
set_option maxHeartbeats 1000000 in
theorem knum_any (b o n c : Nat) (l : List Nat) (a : Int) (i : List Nat) (x : Bool) (most : Nat) (w : World) (hl : l.length = n) (hn : n ≤ 8294) (hc : n ≤ c) (hc2 : c ≤ 9223372036854775807) (hat : At w (some ⟨b, o, none⟩) (nats .u8 l)) (hb : ∀ y ∈ l, y < 256) (hp : KPos l a i x) :
    Calls Tryd.prog 39 #[.slice (some ⟨b, o, none⟩) n c, .int .i64 a, .int .u64 most] w fun e w' => ∃ a' : Int, e = .returned (.tuple #[.int .u64 (rv i most : Nat), .int .i64 a']) ∧ KPos l a' (rl i most) (x || !rk i most) ∧ Below w.heap.size w w' := by
  rcases hp with ⟨rfl, rfl, rfl⟩ | ⟨p, rfl, hpl, rfl, rfl⟩
  · have HK := Lib.hid (show KPos l (-1) (rl [] most) (true || !rk [] most) from .inl ⟨rfl, rfl, rfl⟩)
    clear hat hb
    go_enter Tryd.func39, Tryd.ntmps39
    go_wp2_with fail
    exact bodyPost_ret (v := .tuple #[.int .u64 0, .int .i64 (-1)]) (by simp [results, Tryd.results39, go_sem]) rfl ⟨-1, by rw [rv_nil]; rfl, HK.out, Below.refl _ _⟩
  · have HK := Lib.hid (KPos.num hpl most)
    have V : ∀ (A' : Option Addr) (c' : Nat), A' = (if c = p then some ⟨b, o, none⟩ else some ⟨b, o + p, none⟩) → c' = c - p → Calls Tryd.prog 47 #[.slice A' (n - p) c'] w fun e w' => e = .returned (rgot (l.drop p)) ∧ Below w.heap.size w w' := by
      rintro A' c' rfl rfl
      exact rget_any _ (n - p) (c - p) (l.drop p) w (by rw [List.length_drop, hl]) (by omega) (by omega) (by omega) (at_cut rfl hat (by omega)) (fun y hy => hb y (List.mem_of_mem_drop hy))
    have hpn : p ≤ n := by omega
    have hpc : (p : Int) ≤ c := by omega
    have hpi : (p : Int) ≤ n := by omega
    cases hd : VM.dec (l.drop p) with
    | none =>
      have h1 : rv (l.drop p) most = 0 := by unfold rv; rw [hd]
      have h2 : rk (l.drop p) most = false := by unfold rk; rw [hd]
      rw [h2, if_neg (by decide)] at HK
      rw [rgot_none hd] at V
      rw [h1, h2]
      have VV := Lib.hid V
      clear V hd hat hb hl hpl h1 h2
      go_enter Tryd.func39, Tryd.ntmps39
      go_wp2_with fail
      · with_reducible refine (VV.out _ _ (by rw [if_pos (by assumption)]) (by omega)).mono ?_
        rintro e w1 ⟨rfl, b1⟩
        have B1 := Lib.hid b1
        clear b1
        go_wp2_with fail
        exact bodyPost_ret (v := .tuple #[.int .u64 0, .int .i64 (-1)]) (by simp [results, Tryd.results39, go_sem]) rfl ⟨-1, rfl, HK.out, B1.out⟩
      · with_reducible refine (VV.out _ _ (by rw [if_neg (by assumption)]) (by omega)).mono ?_
        rintro e w1 ⟨rfl, b1⟩
        have B1 := Lib.hid b1
        clear b1
        go_wp2_with fail
        exact bodyPost_ret (v := .tuple #[.int .u64 0, .int .i64 (-1)]) (by simp [results, Tryd.results39, go_sem]) rfl ⟨-1, rfl, HK.out, B1.out⟩
    | some vk =>
      obtain ⟨v, k⟩ := vk
      have hk := VM.dec_le hd
      rw [List.length_drop] at hk
      rw [rgot_some hd] at V
      by_cases hv : v ≤ most
      · have h1 : rv (l.drop p) most = v := by unfold rv; rw [hd]; exact if_pos hv
        have h2 : rk (l.drop p) most = true := by unfold rk; rw [hd]; exact decide_eq_true hv
        rw [h2, if_pos rfl, hd] at HK
        rw [h1, h2]
        have d1 : decide ((most : Int) < v) = false := decide_eq_false (by omega)
        have d2 : ¬ most < v := by omega
        have hpk : p + k ≤ 8294 := by omega
        have VV := Lib.hid V
        clear V hd hat hb hl hpl h1 h2 hk hv
        go_enter Tryd.func39, Tryd.ntmps39
        go_wp2_with fail
        · with_reducible refine (VV.out _ _ (by rw [if_pos (by assumption)]) (by omega)).mono ?_
          rintro e w1 ⟨rfl, b1⟩
          have B1 := Lib.hid b1
          clear b1
          go_wp2_with fail
          exact bodyPost_ret (v := .tuple #[.int .u64 v, .int .i64 ((p : Int) + k)]) (by simp [results, Tryd.results39, go_sem]) rfl ⟨_, rfl, HK.out, B1.out⟩
        · with_reducible refine (VV.out _ _ (by rw [if_neg (by assumption)]) (by omega)).mono ?_
          rintro e w1 ⟨rfl, b1⟩
          have B1 := Lib.hid b1
          clear b1
          go_wp2_with fail
          exact bodyPost_ret (v := .tuple #[.int .u64 v, .int .i64 ((p : Int) + k)]) (by simp [results, Tryd.results39, go_sem]) rfl ⟨_, rfl, HK.out, B1.out⟩
      · have h1 : rv (l.drop p) most = 0 := by unfold rv; rw [hd]; exact if_neg hv
        have h2 : rk (l.drop p) most = false := by unfold rk; rw [hd]; exact decide_eq_false hv
        rw [h2, if_neg (by decide)] at HK
        rw [h1, h2]
        have d1 : decide ((most : Int) < v) = true := decide_eq_true (by omega)
        have d2 : most < v := by omega
        have VV := Lib.hid V
        clear V hd hat hb hl hpl h1 h2 hk hv
        go_enter Tryd.func39, Tryd.ntmps39
        go_wp2_with fail
        · with_reducible refine (VV.out _ _ (by rw [if_pos (by assumption)]) (by omega)).mono ?_
          rintro e w1 ⟨rfl, b1⟩
          have B1 := Lib.hid b1
          clear b1
          go_wp2_with fail
          exact bodyPost_ret (v := .tuple #[.int .u64 0, .int .i64 (-1)]) (by simp [results, Tryd.results39, go_sem]) rfl ⟨-1, rfl, HK.out, B1.out⟩
        · with_reducible refine (VV.out _ _ (by rw [if_neg (by assumption)]) (by omega)).mono ?_
          rintro e w1 ⟨rfl, b1⟩
          have B1 := Lib.hid b1
          clear b1
          go_wp2_with fail
          exact bodyPost_ret (v := .tuple #[.int .u64 0, .int .i64 (-1)]) (by simp [results, Tryd.results39, go_sem]) rfl ⟨-1, rfl, HK.out, B1.out⟩
end Go.Proofs.YtlimabhojocimaaDoor
