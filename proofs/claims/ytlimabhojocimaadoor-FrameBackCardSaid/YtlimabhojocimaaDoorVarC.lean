/- Layer 11: the document's Put and Get. -/
import Derived.Test.YtlimabhojocimaaDoorVarB
import Derived.Test.YtlimabhojocimaaDoorRegionB
import Derived.RegionTactic
namespace Go.Proofs.YtlimabhojocimaaDoor
open Go.RowKit
theorem strN_self (l : List Nat) : ((strN l).toList == (strN l).toList) = true := beq_self_eq_true _
theorem strN_ne {a b : List Nat} (ha : ∀ x ∈ a, x < 256) (hb : ∀ x ∈ b, x < 256) (h : a ≠ b) : ((strN a).toList == (strN b).toList) = false := by
  rw [strN_beq (getD_of_all ha) (getD_of_all hb)]
  simpa using h
theorem nats_glue {k : IntKind} (l d : List Nat) (x : Nat) (y : Int) (h : y = x) : nats k l ++ [.int k y] ++ nats k d = nats k (l ++ x :: d) := by
  subst h; simp [nats]
theorem ne_of_far {x y : Option Nat} (h : ∀ k, x = some k → y ≠ some k) : y = none ∨ y ≠ x := by
  cases y with
  | none => exact .inl rfl
  | some k => right; intro e; exact h k e.symm rfl
section
variable (A : Option Addr) (n c : Nat) (l : List Nat)
set_option maxRecDepth 100000 in
set_option maxHeartbeats 1000000 in
theorem rput_small (v : Nat) (w : World) (hl : l.length = n) (hn : n ≤ 2000) (ha : At w A (nats .u8 l)) (hs : v < 248) :
    Calls Tryd.prog 35 #[.slice A n c, .int .u64 v] w (SlN w (l ++ VM.enc v)) := by
  obtain ⟨B, hB⟩ : ∃ B, w.heap.size = B := ⟨_, rfl⟩
  rw [VM.enc_small hs]
  have A1 := Lib.hid ha
  have HL := Lib.hid hl
  have HBB := Lib.hid hB
  have B1 := Lib.hid (show Below B w w from Below.refl _ _)
  have O1 := Lib.hid (Own.none_ w B 5 1)
  clear ha hl hB
  go_enter Tryd.func35, Tryd.ntmps35
  go_wp2_with (first
    | (at_builtin; refine wpList_app rfl elt_u8 B (.tmp 8) (.tmp 9) rfl _ rfl O1.out (nats .u8 l) rfl A1.out (by rw [nats_length, HL.out, Nat.mul_one]) (nats_one _ _) (by unfold maxLen; omega) (by omega) (by have := B1.out.size; have := HBB.out; omega) ?_; intro A2 c2 w2 own2 g2 _; simp only [Nat.zero_add, List.nil_append] at own2; have B2 := Lib.hid (B1.out.grown g2 (by have := B1.out.size; have := HBB.out; omega) (fun k hk => (O1.out.lt k hk).1)); have O2 := Lib.hid own2; clear own2 g2 O1)
    | (at_builtin; refine wpList_app rfl elt_u8 B (.tmp 13) (.tmp 16) rfl _ rfl (O2.out.alloc _) _ rfl (At.lit _ _ _ _ _ rfl) rfl (by intro u hu; simp at hu; subst hu; rfl) (by unfold maxLen; omega) (by omega) (by have := B2.out.size; have := HBB.out; simp; omega) ?_; intro A3 c3 w3 own3 g3 _; have B3 := Lib.hid ((B2.out.alloc (by have := B2.out.size; have := HBB.out; omega) _).grown g3 (by have := B2.out.size; have := HBB.out; simp; omega) (fun k hk => (O2.out.lt k hk).1)); have O3 := Lib.hid own3; clear own3 g3 O2))
  go_ret
  exact sln_of HBB.out O3.out (by simp [nats]) (by simp [HL.out]) B3.out
set_option maxRecDepth 100000 in
set_option maxHeartbeats 4000000 in
theorem rput_big (v : Nat) (w : World) (hl : l.length = n) (hn : n ≤ 2000) (ha : At w A (nats .u8 l)) (hs : ¬ v < 248) (hv : v < 18446744073709551616) :
    Calls Tryd.prog 35 #[.slice A n c, .int .u64 v] w (SlN w (l ++ VM.enc v)) := by
  obtain ⟨B, hB⟩ : ∃ B, w.heap.size = B := ⟨_, rfl⟩
  have hp := VM.vlen_p (v := v) (by omega)
  have h8 := VM.vlen_8 hv
  have hge := VM.vlen_ge v (by omega)
  have hlt := VM.vlen_lt v
  rw [VM.enc_big hs]
  generalize VM.vlen v = m at *
  have hd : decide ((v : Int) < 248) = false := by simp; omega
  have A1 := Lib.hid ha
  have HL := Lib.hid hl
  have HBB := Lib.hid hB
  have HGE := Lib.hid hge
  have HLT := Lib.hid hlt
  have B1 := Lib.hid (show Below B w w from Below.refl _ _)
  have O1 := Lib.hid (Own.none_ w B 5 1)
  clear ha hl hB hs hge hlt
  go_enter Tryd.func35, Tryd.ntmps35
  go_wp2_with (first
    | (at_builtin; refine wpList_app rfl elt_u8 B (.tmp 8) (.tmp 9) rfl _ rfl O1.out (nats .u8 l) rfl A1.out (by rw [nats_length, HL.out, Nat.mul_one]) (nats_one _ _) (by unfold maxLen; omega) (by omega) (by have := B1.out.size; have := HBB.out; omega) ?_; intro A2 c2 w2 own2 g2 _; simp only [Nat.zero_add, List.nil_append] at own2; have B2 := Lib.hid (B1.out.grown g2 (by have := B1.out.size; have := HBB.out; omega) (fun k hk => (O1.out.lt k hk).1)); have O2 := Lib.hid own2; clear own2 g2 O1))
  clear A1 hd
  have B2' := B2
  clear B1
  go_loopw [6, 7] (fun d i wr => ∃ (j : Nat) (Ad : Option Addr) (cd : Nat), j ≤ m ∧ i = .int .u64 (v / 256 ^ j : Nat) ∧ d = .slice Ad j cd ∧ Own wr B 5 1 A2 n c2 (nats .u8 l) ∧ At wr Ad (nats .u8 (VM.be j v)) ∧ (∀ k, blk A2 = some k → blk Ad ≠ some k) ∧ Below B w wr) (fun _ i _ => (intOf i).toNat)
  case atStart => exact ⟨0, none, 0, by omega, by simp, rfl, O2.out, At.nil _ _, (fun k _ e => by cases e), B2.out⟩
  case round =>
    obtain ⟨j, Ad, cd, hj, rfl, rfl, hown, had, hfar, hbel⟩ := hrel
    have FA := Lib.hid hfar
    have O0 := Lib.hid hown
    have AD := Lib.hid had
    have B0 := Lib.hid hbel
    clear hown had hbel hfar O2 B2 B2'
    by_cases hjm : j < m
    · have hu : 0 < v / 256 ^ j := by
        have h1 := VM.pow_le_of (show j ≤ m - 1 by omega)
        exact Nat.div_pos (Nat.le_trans h1 HGE.out) (Nat.pow_pos (by decide))
      have hul : v / 256 ^ j < 18446744073709551616 := Nat.lt_of_le_of_lt (Nat.div_le_self _ _) hv
      have hc := VM.be_cons j v
      have hn2 : v / 256 ^ (j + 1) = v / 256 ^ j / 256 := by rw [Nat.div_div_eq_div_mul, ← Nat.pow_succ]
      have HC := Lib.hid hc
      have HN := Lib.hid hn2
      clear hc hn2
      generalize v / 256 ^ j = u at *
      have ow := Lib.hid (Own.lit (w := wr) (base := B) (e := 5) (size := 1) #[.int .u8 ((u : Int) % 256)] 1 (by have := B0.out.size; have := HBB.out; omega) (by decide) rfl)
      have av := Lib.hid (AD.out.later ((Below.refl wr.heap.size wr).alloc (Nat.le_refl _) (.cells #[.int .u8 ((u : Int) % 256)] 5)) (Nat.le_refl _))
      have ov := Lib.hid (O0.out.alloc (.cells #[.int .u8 ((u : Int) % 256)] 5))
      have bv := Lib.hid (B0.out.alloc (by have := B0.out.size; have := HBB.out; omega) (.cells #[.int .u8 ((u : Int) % 256)] 5))
      have ltO := Lib.hid (fun k hk => (O0.out.lt k hk).2)
      go_wp2_with (at_builtin; refine wpList_app rfl elt_u8 B (.tmp 26) (.tmp 27) rfl _ rfl ow.out (nats .u8 (VM.be j v)) rfl av.out (by rw [nats_length, VM.be_length, Nat.mul_one]) (nats_one _ _) (by unfold maxLen; omega) (by omega) (by have := B0.out.size; have := HBB.out; simp; omega) ?_; intro A4 c4 w4 own4 g4 k4; have F4 := Lib.hid (show ∀ k, blk A2 = some k → blk A4 ≠ some k from fun k hk e => by have := ltO.out k hk; rcases k4 with h | h <;> (rw [e] at h; simp [blk] at h; omega)); clear k4; have B4 := Lib.hid (bv.out.grown g4 (by have := B0.out.size; have := HBB.out; simp; omega) (fun k hk => by simp [blk] at hk; have := B0.out.size; have := HBB.out; omega)); have O4 := Lib.hid own4; have O5 := Lib.hid (ov.out.kept g4 (by have hlt := ltO.out; cases hb : blk A2 with | none => exact .inl rfl | some k => exact .inr (by have := hlt k hb; simp [blk]; omega))); clear own4 g4)
      refine ⟨⟨j + 1, A4, c4, by omega, by rw [HN.out]; simp, by rw [Nat.add_comm], O5.out, ?_, F4.out, B4.out⟩, by simp only [intOf]; omega⟩
      rw [HC.out]
      have o := O4.out.at_
      simpa [nats] using o
    · obtain rfl : j = m := by omega
      have h0 : v / 256 ^ j = 0 := Nat.div_eq_of_lt HLT.out
      rw [h0]
      clear h0
      go_wp2_with (first
        | (at_builtin; refine wpList_app rfl elt_u8 B (.tmp 29) (.tmp 34) rfl _ rfl (O0.out.alloc _) _ rfl (At.lit _ _ _ _ _ rfl) rfl (by intro u hu; simp at hu; subst hu; rfl) (by unfold maxLen; omega) (by omega) (by have := B0.out.size; have := HBB.out; simp; omega) ?_; intro A5 c5 w5 own5 g5 _; have B5 := Lib.hid ((B0.out.alloc (by have := B0.out.size; have := HBB.out; omega) _).grown g5 (by have := B0.out.size; have := HBB.out; simp; omega) (fun k hk => (O0.out.lt k hk).1)); have O5 := Lib.hid own5; have A5 := Lib.hid ((AD.out.later ((Below.refl wr.heap.size wr).alloc (Nat.le_refl _) _) (Nat.le_refl _)).grown g5 (ne_of_far FA.out)); clear own5 g5 O0)
        | (at_builtin; refine wpList_app rfl elt_u8 B (.tmp 36) (.tmp 37) rfl _ rfl O5.out (nats .u8 (VM.be j v)) rfl A5.out (by rw [nats_length, VM.be_length, Nat.mul_one]) (nats_one _ _) (by unfold maxLen; omega) (by omega) (by have := B5.out.size; have := HBB.out; omega) ?_; intro A6 c6 w6 own6 g6 _; have B6 := Lib.hid (B5.out.grown g6 (by have := B5.out.size; have := HBB.out; omega) (fun k hk => (O5.out.lt k hk).1)); have O6 := Lib.hid own6; clear own6 g6 O5))
      go_ret
      exact sln_of HBB.out O6.out (nats_glue _ _ _ _ (by omega)) (by simp [VM.be_length, HL.out]; omega) B6.out
end
end Go.Proofs.YtlimabhojocimaaDoor
