/- Layer 13: the reader's count and Bytes, and Read. -/
import Derived.Test.YtlimabhojocimaaDoorFrG
namespace Go.Proofs.YtlimabhojocimaaDoor
open Go.RowKit
section
variable {g : Nat} {l : List Nat} {x : Bool} {w : World}
theorem rv_le (l : List Nat) (most : Nat) : rv l most ≤ most := by
  unfold rv; split
  · split
    · assumption
    · exact Nat.zero_le _
  · exact Nat.zero_le _
theorem rl_no {l : List Nat} {most : Nat} (h : rk l most = false) : rl l most = [] := by
  unfold rk at h
  unfold rl
  split
  · rename_i v k e
    rw [e] at h
    rw [if_neg (of_decide_eq_false h)]
  · rfl
def bk (l : List Nat) : Bool := rk l 8192 && decide (rv l 8192 ≤ (rl l 8192).length)
set_option maxRecDepth 100000 in
set_option maxHeartbeats 1000000 in
theorem rcount_any (h : Rd w g l x) :
    Calls Tryd.prog 38 #[.pointer (some ⟨g, 0, none⟩), .int .i64 8192, .int .i64 1] w fun e w' => e = .returned (.tuple #[.int .i64 (if bk l then (rv l 8192 : Nat) else 0), .bool (bk l)]) ∧ Rd w' g (if bk l then rl l 8192 else []) (x || !bk l) ∧ w.grownBy w' (some g) := by
  have C := Lib.hid (rnumber_any 8192 h)
  rw [show ((8192 : Nat) : Int) = 8192 from rfl] at C
  have hv := rv_le l 8192
  have hno := rl_no (l := l) (most := 8192)
  have hmx : max (8192 : Int) 0 = 8192 := by decide
  clear h
  unfold bk
  generalize rv l 8192 = v at *
  generalize rk l 8192 = k at *
  generalize rl l 8192 = r at *
  have m1 : (v : Int) % 18446744073709551616 = v := by omega
  have m2 : (r.length : Int).tdiv 1 = r.length := by simp
  cases k with
  | false =>
    obtain rfl := hno rfl
    have C := Lib.hid C.out
    clear hno
    go_enter Tryd.func38, Tryd.ntmps38
    go_wp2_with fail
    refine C.out.mono ?_
    rintro e w' ⟨rfl, h1, h2⟩
    have H1 := Lib.hid h1
    have H2 := Lib.hid h2
    clear h1 h2 C
    go_wp2_with fail
    exact bodyPost_ret (v := .tuple #[.int .i64 0, .bool false]) (by simp [results, Tryd.results38, go_sem]) rfl ⟨rfl, by simpa using H1.out, H2.out⟩
  | true =>
    clear hno
    by_cases hvr : v ≤ r.length
    · have hd : decide (v ≤ r.length) = true := decide_eq_true hvr
      rw [hd]
      clear hd
      have hn : ¬ r.length < v := by omega
      have hn2 : decide ((r.length : Int) < v) = false := decide_eq_false (by omega)
      obtain ⟨n, hn3⟩ : ∃ n, r.length = n := ⟨_, rfl⟩
      go_enter Tryd.func38, Tryd.ntmps38
      go_wp2_with fail
      refine C.out.mono ?_
      rintro e w' ⟨rfl, h1, h2⟩
      have H1 := Lib.hid h1
      have H2 := Lib.hid h2
      obtain ⟨A, c, H0, _, a1, a2, _⟩ := h1
      have c0 := H0.cell 0
      simp at c0
      have hb1 : (r.length : Int) ≤ 9223372036854775807 := by omega
      have m3 : IntKind.u64.wrap (wrap64 (r.length : Int)) = r.length := by rw [IntWalk.wrap64_in _ ⟨by omega, hb1⟩, IntWalk.u64_in _ ⟨by omega, by omega⟩]

      clear H0 h2 C hn3 a1 a2
      go_wp2_with fail
      exact bodyPost_ret (v := .tuple #[.int .i64 v, .bool true]) (by simp [results, Tryd.results38, go_sem]) rfl ⟨rfl, by simpa using H1.out, H2.out⟩
    · have hd : decide (v ≤ r.length) = false := decide_eq_false hvr
      rw [hd]
      clear hd
      have hn : r.length < v := by omega
      have hn2 : decide ((r.length : Int) < v) = true := decide_eq_true (by omega)
      go_enter Tryd.func38, Tryd.ntmps38
      go_wp2_with fail
      refine C.out.mono ?_
      rintro e w1 ⟨rfl, h1, h2⟩
      have F1 := Lib.hid (rfail_any h1)
      have H2 := Lib.hid h2
      obtain ⟨A, c, H0, _, a1, a2, _⟩ := h1
      have c0 := H0.cell 0
      simp at c0
      have hb1 : (r.length : Int) ≤ 9223372036854775807 := by omega
      have m3 : IntKind.u64.wrap (wrap64 (r.length : Int)) = r.length := by rw [IntWalk.wrap64_in _ ⟨by omega, hb1⟩, IntWalk.u64_in _ ⟨by omega, by omega⟩]

      clear H0 h2 C a1 a2
      go_wp2_with fail
      refine F1.out.mono ?_
      rintro e w2 ⟨rfl, h3, h4⟩
      have H3 := Lib.hid h3
      have H4 := Lib.hid h4
      clear h3 h4
      go_wp2_with fail
      exact bodyPost_ret (v := .tuple #[.int .i64 0, .bool false]) (by simp [results, Tryd.results38, go_sem]) rfl ⟨rfl, by simpa using H3.out, grown_trans H2.out H4.out⟩
end
end Go.Proofs.YtlimabhojocimaaDoor
