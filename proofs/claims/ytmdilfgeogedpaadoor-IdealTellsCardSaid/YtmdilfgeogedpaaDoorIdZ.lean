/- Layer 37, the document's: May, fits, placed. Printed by ida_.py. -/
import Derived.Test.YtmdilfgeogedpaaDoorIdV
import Derived.Test.YtmdilfgeogedpaaDoorIdX
import Derived.Test.YtmdilfgeogedpaaDoorRegionB
namespace Go.Proofs.YtmdilfgeogedpaaDoor
open Go.RowKit
section
variable (A : Option Addr) (n c : Nat) (vs : List Value) (own : List (List Nat)) (A2 : Option Addr) (n2 c2 : Nat) (vs2 : List Value) (P : List (List (List Nat)))
theorem tmay_of {own : List (List Nat)} {P : List (List (List Nat))} {n : Nat} {dim : Int} (h64 : n ≤ 64) (h0 : 0 ≤ dim) (h32 : dim ≤ 32) (hn : own.length = n) (hp : P.length = n) (h : ∀ i, i < n → ((own.getD i []).length : Int) = dim ∧ ((P.getD i []).length : Int) = (n : Int) - 1 - i ∧ ∀ j, j < (P.getD i []).length → (((P.getD i []).getD j []).length : Int) = dim) : TMay own P n dim := by
  obtain ⟨d, rfl⟩ := Int.eq_ofNat_of_zero_le h0
  refine ⟨⟨by omega, by omega, by omega, by omega⟩, allB_of hn (fun i hi => by have := (h i hi).1; omega), by omega, fun i hi => ?_⟩
  have h2 := h i (by omega)
  rw [show ((n : Int) - 1 - i) = ((n - 1 - i : Nat) : Int) by omega]
  exact allB_of (by omega) fun j hj => by have := h2.2.2 j (by omega); omega
theorem tmay_get {own : List (List Nat)} {P : List (List (List Nat))} {n : Nat} {dim : Int} (h : TMay own P n dim) {i : Nat} (hi : i < n) (hn : own.length = n) (hp : P.length = n) : ((own.getD i []).length : Int) = dim ∧ ((P.getD i []).length : Int) = (n : Int) - 1 - i ∧ ∀ j, j < (P.getD i []).length → (((P.getD i []).getD j []).length : Int) = dim := by
  have a := (allB_len h.2.1).2 i (by omega)
  have b := allB_len (h.2.2.2 i (by omega))
  exact ⟨a, b.1, b.2⟩
set_option maxRecDepth 100000 in
set_option maxHeartbeats 4000000 in
theorem rmay_any (many dim : Int) (w : World) (hl : own.length = n) (hn : n ≤ 9223372036854775807) (hr : Rows_ w .u32 A vs own) (hl2 : P.length = n2) (hn2 : n2 ≤ 9223372036854775807) (hr2 : Rows3 w .u32 A2 vs2 P) :
    Calls Tryd.prog 16 #[.agg #[.slice A n c, .slice A2 n2 c2], .int .i64 many, .int .i64 dim] w fun e w' => ((e = .returned (.bool false) ∧ ¬ TMay own P many dim) ∨ (e = .returned (.bool true) ∧ TMay own P many dim)) ∧ Below w.heap.size w w' := by
  have HB0 := (Below.refl w.heap.size w).alloc (Nat.le_refl _) (.cells #[.slice A n c, .slice A2 n2 c2] 25)
  have H1 := Lib.hid (Holds.new w 25 #[.slice A n c, .slice A2 n2 c2] w.heap.size rfl)
  have HB := Lib.hid HB0
  have HR := Lib.hid (hr.later HB0 (Nat.le_refl _))
  have HR2 := Lib.hid (hr2.later HB0 (Nat.le_refl _))
  have HL := Lib.hid hl
  have HL2 := Lib.hid hl2
  clear hr hr2 hl hl2 HB0
  by_cases h1 : many < 0
  · have d1 : decide (many < 0) = true := decide_eq_true h1
    have HN := Lib.hid (show ¬ TMay own P many dim from fun h => by have := h.1; omega)
    go_enter Tryd.func16, Tryd.ntmps16
    go_wp2_with fail
    go_ret
    exact ⟨.inl ⟨rfl, HN.out⟩, HB.out⟩
  have d1 : decide (many < 0) = false := decide_eq_false h1
  by_cases h2 : 64 < many
  · have d2 : decide (64 < many) = true := decide_eq_true h2
    have HN := Lib.hid (show ¬ TMay own P many dim from fun h => by have := h.1; omega)
    go_enter Tryd.func16, Tryd.ntmps16
    go_wp2_with fail
    go_ret
    exact ⟨.inl ⟨rfl, HN.out⟩, HB.out⟩
  have d2 : decide (64 < many) = false := decide_eq_false h2
  by_cases h3 : dim < 0
  · have d3 : decide (dim < 0) = true := decide_eq_true h3
    have HN := Lib.hid (show ¬ TMay own P many dim from fun h => by have := h.1; omega)
    go_enter Tryd.func16, Tryd.ntmps16
    go_wp2_with fail
    go_ret
    exact ⟨.inl ⟨rfl, HN.out⟩, HB.out⟩
  have d3 : decide (dim < 0) = false := decide_eq_false h3
  by_cases h4 : 32 < dim
  · have d4 : decide (32 < dim) = true := decide_eq_true h4
    have HN := Lib.hid (show ¬ TMay own P many dim from fun h => by have := h.1; omega)
    go_enter Tryd.func16, Tryd.ntmps16
    go_wp2_with fail
    go_ret
    exact ⟨.inl ⟨rfl, HN.out⟩, HB.out⟩
  have d4 : decide (32 < dim) = false := decide_eq_false h4
  by_cases h5 : (n : Int) = many
  rotate_left
  · have d5 : ((n : Int) == many) = false := by simpa using h5
    have HN := Lib.hid (show ¬ TMay own P many dim from fun h => h5 (by have := (allB_len h.2.1).1; rw [HL.out] at this; exact this))
    go_enter Tryd.func16, Tryd.ntmps16
    go_wp2_with fail
    go_ret
    exact ⟨.inl ⟨rfl, HN.out⟩, HB.out⟩
  subst h5
  by_cases h6 : n2 = n
  rotate_left
  · have d6 : ((n2 : Int) == (n : Int)) = false := by rw [beq_eq_false_iff_ne]; omega
    have HN := Lib.hid (show ¬ TMay own P n dim from fun h => h6 (by have := h.2.2.1; rw [HL2.out] at this; omega))
    go_enter Tryd.func16, Tryd.ntmps16
    go_wp2_with fail
    go_ret
    exact ⟨.inl ⟨rfl, HN.out⟩, HB.out⟩
  obtain rfl : n = n2 := h6.symm
  have N64 : n ≤ 64 := by omega
  have RG := Lib.hid (show 0 ≤ dim ∧ dim ≤ 32 from by omega)
  go_enter Tryd.func16, Tryd.ntmps16
  go_upto_region 1 with fail
  generalize w.alloc (.cells #[.slice A n c, .slice A2 n c2] 25) = w1 at *
  generalize hg : w.heap.size = g at *
  have HG := Lib.hid hg
  clear hg
  have x0 : w1.cell? ⟨g, 0, none⟩ = some (.slice A n c) := H1.out.cell 0
  have x1 : w1.cell? ⟨g, 1, none⟩ = some (.slice A2 n c2) := H1.out.cell 1
  go_wp2_with fail
  clear h1 h2 h3 h4 d1 d2 d3 d4
  go_loopw [7] (fun i wr => ∃ k : Nat, k ≤ n ∧ i = .int .i64 k ∧ wr = w1 ∧ ∀ i, i < k → ((own.getD i []).length : Int) = dim ∧ ((P.getD i []).length : Int) = (n : Int) - 1 - i ∧ ∀ j, j < (P.getD i []).length → (((P.getD i []).getD j []).length : Int) = dim) (fun i _ => (n - intOf i).toNat)
  case atStart => exact ⟨0, by omega, rfl, rfl, fun i hi => absurd hi (by omega)⟩
  case round =>
    obtain ⟨k, hk, rfl, rfl, hag⟩ := hrel
    have AG := Lib.hid hag
    clear hag
    by_cases hkn : k < n
    · obtain ⟨b4, o4, Ax, cx, mx, hA4, hcx, hax, hmx, hmx2⟩ := HR.out.getm k (by rw [HL.out]; exact hkn) (Below.refl _ _)
      obtain ⟨b5, o5, Ay, cy, wy, my, hA5, hcy, hay, hmy, hmy2⟩ := HR2.out.getm k (by rw [HL2.out]; exact hkn) (Below.refl _ _)
      subst hA4 hA5
      have HMX := Lib.hid hmx
      have HMY := Lib.hid hmy
      have HAY := Lib.hid hay
      clear hax hay hmx hmy
      have NO := Lib.hid (fun (h : ¬ ((mx : Int) = dim ∧ (my : Int) = (n : Int) - 1 - k ∧ ∀ j, j < my → (((P.getD k []).getD j []).length : Int) = dim)) => (fun hT => h (by have := tmay_get hT hkn HL.out HL2.out; rw [HMX.out, HMY.out] at this; exact this) : ¬ TMay own P n dim))
      by_cases e1 : (mx : Int) = dim
      rotate_left
      · have d1 : ((mx : Int) == dim) = false := by simpa using e1
        go_wp2_with fail
        go_ret
        exact ⟨.inl ⟨rfl, NO.out (fun h => e1 h.1)⟩, by rw [HG.out]; exact HB.out⟩
      have d1 : ((mx : Int) == dim) = true := by simpa using e1
      have w1_ : IntKind.i64.wrap ((n : Int) - 1) = (n : Int) - 1 := wrap_small' _ (by omega)
      have w2_ : IntKind.i64.wrap ((n : Int) - 1 - k) = ((n - 1 - k : Nat) : Int) := by rw [wrap_small' _ (by omega)]; omega
      by_cases e2 : my = n - 1 - k
      rotate_left
      · have d2 : ((my : Int) == ((n - 1 - k : Nat) : Int)) = false := by simp; omega
        go_wp2_with fail
        go_ret
        exact ⟨.inl ⟨rfl, NO.out (fun h => e2 (by have := h.2.1; omega))⟩, by rw [HG.out]; exact HB.out⟩
      have d2 : ((my : Int) == ((n - 1 - k : Nat) : Int)) = true := by simp; omega
      go_wp2_with fail
      go_loopw [8] (fun i wq => ∃ m : Nat, m ≤ my ∧ i = .int .i64 m ∧ wq = wr ∧ ∀ j, j < m → (((P.getD k []).getD j []).length : Int) = dim) (fun i _ => (my - intOf i).toNat)
      case atStart => exact ⟨0, by omega, rfl, rfl, fun i hi => absurd hi (by omega)⟩
      case round =>
        obtain ⟨m, hm, rfl, rfl, hag2⟩ := hrel
        have AG2 := Lib.hid hag2
        clear hag2
        by_cases hmn : m < my
        · obtain ⟨b6, o6, Az, cz, mz, hA6, hcz, haz, hmz, hmz2⟩ := HAY.out.getm m (by rw [HMY.out]; exact hmn) (Below.refl _ _)
          subst hA6
          have HMZ := Lib.hid hmz
          clear haz hmz
          by_cases e3 : (mz : Int) = dim
          · have d3 : ((mz : Int) == dim) = true := by simpa using e3
            have E3 := Lib.hid e3
            clear e3
            go_wp2_with fail
            refine ⟨⟨m + 1, by omega, by simp, trivial, fun j hj => ?_⟩, by simp [intOf]; omega⟩
            rcases Nat.lt_or_ge j m with h | h
            · exact AG2.out j h
            · obtain rfl : j = m := by omega
              rw [HMZ.out]; exact E3.out
          · have d3 : ((mz : Int) == dim) = false := by simpa using e3
            have E3 := Lib.hid e3
            clear e3
            go_wp2_with fail
            go_ret
            exact ⟨.inl ⟨rfl, NO.out (fun h => E3.out (by have := h.2.2 m hmn; rw [HMZ.out] at this; exact this))⟩, by rw [HG.out]; exact HB.out⟩
        · obtain rfl : my = m := by omega
          have E1 := Lib.hid e1
          have E2 := Lib.hid e2
          clear e1 e2 w1_ w2_ d1 d2
          go_wp2_with fail
          refine ⟨⟨k + 1, by omega, by simp, trivial, fun j hj => ?_⟩, by simp [intOf]; omega⟩
          rcases Nat.lt_or_ge j k with h | h
          · exact AG.out j h
          · obtain rfl : j = k := by omega
            exact ⟨by rw [HMX.out]; exact E1.out, by rw [HMY.out]; have := E2.out; omega, fun i hi => AG2.out i (by rw [← HMY.out]; exact hi)⟩
    · obtain rfl : n = k := by omega
      have HT := Lib.hid (tmay_of N64 RG.out.1 RG.out.2 HL.out HL2.out AG.out)
      go_wp2_with fail
      go_ret
      exact ⟨.inr ⟨rfl, HT.out⟩, by rw [HG.out]; exact HB.out⟩
/-- may it be, as a letter -/
theorem rmay_b (many dim : Int) (w : World) (b : Bool) (hb : b = true ↔ TMay own P many dim) (hl : own.length = n) (hn : n ≤ 9223372036854775807) (hr : Rows_ w .u32 A vs own) (hl2 : P.length = n2) (hn2 : n2 ≤ 9223372036854775807) (hr2 : Rows3 w .u32 A2 vs2 P) :
    Calls Tryd.prog 16 #[.agg #[.slice A n c, .slice A2 n2 c2], .int .i64 many, .int .i64 dim] w fun e w' => e = .returned (.bool b) ∧ Below w.heap.size w w' := by
  refine (rmay_any A n c vs own A2 n2 c2 vs2 P many dim w hl hn hr hl2 hn2 hr2).mono ?_
  rintro e w' ⟨⟨rfl, h⟩ | ⟨rfl, h⟩, hb'⟩
  · cases b with
    | false => exact ⟨rfl, hb'⟩
    | true => exact absurd (hb.1 rfl) h
  · exact ⟨by rw [hb.2 h], hb'⟩
variable (A3 : Option Addr) (n3 c3 : Nat) (vs3 : List Value) (rows : List (List Nat))
set_option maxRecDepth 100000 in
set_option maxHeartbeats 4000000 in
theorem rfits_b (w : World) (b : Bool) (hb : b = true ↔ Fit own P rows) (hl : own.length = n) (hn : n ≤ 9223372036854775807) (hr : Rows_ w .u32 A vs own) (hl2 : P.length = n2) (hn2 : n2 ≤ 9223372036854775807) (hr2 : Rows3 w .u32 A2 vs2 P) (hl3 : rows.length = n3) (hn3 : n3 ≤ 9223372036854775807) (hr3 : Rows_ w .u32 A3 vs3 rows) :
    Calls Tryd.prog 29 #[.agg #[.slice A n c, .slice A2 n2 c2], .slice A3 n3 c3] w fun e w' => e = .returned (.bool b) ∧ Below w.heap.size w w' := by
  have HB0 := (Below.refl w.heap.size w).alloc (Nat.le_refl _) (.cells #[.slice A n c, .slice A2 n2 c2] 25)
  have H1 := Lib.hid (Holds.new w 25 #[.slice A n c, .slice A2 n2 c2] w.heap.size rfl)
  have HB := Lib.hid HB0
  have HR := Lib.hid (hr.later HB0 (Nat.le_refl _))
  have HR2 := Lib.hid (hr2.later HB0 (Nat.le_refl _))
  have HR3 := Lib.hid (hr3.later HB0 (Nat.le_refl _))
  have HL := Lib.hid hl
  have HL2 := Lib.hid hl2
  have HL3 := Lib.hid hl3
  have HBI := Lib.hid hb
  clear hr hr2 hr3 hl hl2 hl3 HB0 hb
  obtain ⟨d, hd⟩ : ∃ d, dimOf rows = d := ⟨_, rfl⟩
  have HD := Lib.hid hd
  have D63 : (d : Int) ≤ 9223372036854775807 := by
    rcases Nat.eq_zero_or_pos n3 with h0 | h0
    · rw [← hd, dimOf_nil (by rw [HL3.out]; exact h0)]; omega
    · obtain ⟨_, _, _, _, m, _, _, _, h1, h2⟩ := HR3.out.getm 0 (by rw [HL3.out]; exact h0) (Below.refl _ _)
      have : dimOf rows = m := h1
      omega
  clear hd
  go_enter Tryd.func29, Tryd.ntmps29
  go_upto_region 1 with fail
  generalize w.alloc (.cells #[.slice A n c, .slice A2 n2 c2] 25) = w1 at *
  generalize hg : w.heap.size = g at *
  have HG := Lib.hid hg
  clear hg
  go_wp2_with fail
  go_loopw [5] (fun i wr => ∃ k : Nat, k ≤ n3 ∧ i = .int .i64 k ∧ Below w1.heap.size w1 wr ∧ ∀ i, i < k → (rows.getD i []).length = d) (fun i _ => (n3 - intOf i).toNat)
  case atStart => exact ⟨0, by omega, rfl, Below.refl _ _, fun i hi => absurd hi (by omega)⟩
  case round =>
    obtain ⟨k, hk, rfl, hb, hag⟩ := hrel
    have B2 := Lib.hid hb
    have AG := Lib.hid hag
    have BW := Lib.hid (HB.out.trans (hb.mono (by rw [← HG.out]; exact HB.out.size)))
    have QD := Lib.hid (fun W (hW : Below wr.heap.size wr W) => rdim_any A3 n3 c3 vs3 rows W HL3.out hn3 (HR3.out.later (B2.out.trans (hW.mono B2.out.size)) (Nat.le_refl _)))
    rw [HD.out] at QD
    clear hb hag
    by_cases hkn : k < n3
    · obtain ⟨b4, o4, Ax, cx, mx, hA4, hcx, hax, hmx, hmx2⟩ := HR3.out.getm k (by rw [HL3.out]; exact hkn) B2.out
      have hlt4 := lt_of_cell hcx
      subst hA4
      have HMX := Lib.hid hmx
      clear hax hmx
      by_cases e1 : mx = d
      · have E1 := Lib.hid e1
        have d1 : ((mx : Int) == (d : Int)) = true := by rw [beq_iff_eq]; omega
        clear e1
        go_upto_region 4 with fail
        refine wp_region_below (is ?c0 :: is ?c1 :: is ?c2 :: is ?c3 :: is ?c4 :: is ?c5 :: is (.int .i64 (d : Nat)) :: is ?c7 :: [])
          [⟨[], [1], none⟩, ⟨[], [5], none⟩, ⟨[(12, 0), (13, 1)], [], none⟩, ⟨[(14, 2)], [], none⟩, ⟨[(15, 3)], [], none⟩, ⟨[], [1], none⟩, ⟨[(17, 5)], [], none⟩, ⟨[(16, 4), (18, 6)], [], none⟩] (by kernel_rfl) (by kernel_rfl) (by kernel_rfl) (by kernel_rfl) (by kernel_rfl) ?monoc ?stepsc ?finc
        case monoc => exact ⟨mono_eq _, mono_eq _, mono_eq _, mono_eq _, mono_eq _, mono_eq _, mono_eq _, mono_eq _, trivial⟩
        case stepsc =>
          refine ⟨fun ρ W ⟨hcst, hglb, hfun⟩ hX hp ho => ?_, ?_⟩ -- 0: slot 12 := Op.move t1
          · obtain ⟨o1, -⟩ := ho
            change ρ (.tmp 1) = _ at o1
            refine turn_plain (ok_is ?_ rfl)
            simp only [execOp, o1]; go_simp; try exact rfl
          refine ⟨fun ρ W ⟨hcst, hglb, hfun⟩ hX hp ho => ?_, ?_⟩ -- 1: slot 13 := Op.move t5
          · obtain ⟨o5, -⟩ := ho
            change ρ (.tmp 5) = _ at o5
            refine turn_plain (ok_is ?_ rfl)
            simp only [execOp, o5]; go_simp; try exact rfl
          refine ⟨fun ρ W ⟨hcst, hglb, hfun⟩ hX hp ho => ?_, ?_⟩ -- 2: slot 14 := Op.indexAddr 22 t12 t13
          · obtain ⟨p12, p13, -⟩ := hp
            change ρ (.tmp 12) = _ at p12
            change ρ (.tmp 13) = _ at p13
            refine turn_plain (ok_is ?_ rfl)
            simp only [execOp, p12, p13]; go_simp; try exact rfl
          refine ⟨fun ρ W ⟨hcst, hglb, hfun⟩ hX hp ho => ?_, ?_⟩ -- 3: slot 15 := Op.load 54 t14
          · obtain ⟨p14, -⟩ := hp
            change ρ (.tmp 14) = _ at p14
            have q := (((Below.refl _ _).drew.trans hX).cell (p := ⟨b4, o4 + k, none⟩) hlt4).trans hcx
            refine turn_plain (ok_is ?_ rfl)
            simp only [execOp, p14]; go_simp; try exact rfl
          refine ⟨fun ρ W ⟨hcst, hglb, hfun⟩ hX hp ho => ?_, ?_⟩ -- 4: slot 16 := Op.call { builtin len, args := #[t15], argTypes := #[54] }
          · obtain ⟨p15, -⟩ := hp
            change ρ (.tmp 15) = _ at p15
            refine turn_plain (ok_is ?_ rfl)
            simp only [execOp, p15]; go_simp; try exact rfl
          refine ⟨fun ρ W ⟨hcst, hglb, hfun⟩ hX hp ho => ?_, ?_⟩ -- 5: slot 17 := Op.move t1
          · obtain ⟨o1, -⟩ := ho
            change ρ (.tmp 1) = _ at o1
            refine turn_plain (ok_is ?_ rfl)
            simp only [execOp, o1]; go_simp; try exact rfl
          refine ⟨fun ρ W ⟨hcst, hglb, hfun⟩ hX hp ho => ?_, ?_⟩ -- 6: slot 18 := Op.call { value (Operand.func 20), args := #[t17], argTypes := #[22] }
          · obtain ⟨p17, -⟩ := hp
            change ρ (.tmp 17) = _ at p17
            have hW := (Below.refl _ _).drew.trans hX
            refine turn_plain ?_
            have ce := @enter_of Tryd.prog 20 _ Tryd.func20 (by kernel_rfl) (by kernel_rfl)
            refine ok_call (op_call1 hfun ce (by exact rfl) p17) ?_
            refine (QD.out W hW).mono ?_
            rintro e W' ⟨rfl, rfl⟩
            exact ⟨_, rfl, Below.refl _ _, rfl⟩
          refine ⟨fun ρ W ⟨hcst, hglb, hfun⟩ hX hp ho => ?_, ?_⟩ -- 7: slot 19 := Op.binOp BinOp.neq 3 t16 t18 3
          · obtain ⟨p16, p18, -⟩ := hp
            change ρ (.tmp 16) = _ at p16
            change ρ (.tmp 18) = _ at p18
            refine turn_plain (ok_is ?_ rfl)
            simp only [execOp, p16, p18]; go_simp; try exact rfl
          exact trivial
        case finc =>
          rintro v W hX ⟨f0, f1, f2, f3, f4, f5, f6, f7, -⟩
          simp only [is] at f0 f1 f2 f3 f4 f5 f6 f7
          simp only [putAll, Act.put, List.setIfInBounds_toArray, List.set_cons_succ, List.set_cons_zero, f0, f1, f2, f3, f4, f5, f6, f7]
          clear f0 f1 f2 f3 f4 f5 f6 f7
          go_wp2_with fail
          refine ⟨⟨k + 1, by omega, by simp, B2.out.trans (hX.mono B2.out.size), fun i hi => ?_⟩, by simp [intOf]; omega⟩
          rcases Nat.lt_or_ge i k with h | h
          · exact AG.out i h
          · obtain rfl : i = k := by omega
            rw [HMX.out]; exact E1.out

      · have E1 := Lib.hid e1
        have d1 : ((mx : Int) == (d : Int)) = false := by simp; omega
        clear e1
        have HN := Lib.hid (show b = false from by
          cases b with
          | false => rfl
          | true =>
            have h := (allB_len (HBI.out.1 rfl).1).2 k (by rw [HL3.out]; exact hkn)
            rw [HD.out, HMX.out] at h
            exact absurd (by omega) E1.out)
        go_upto_region 4 with fail
        refine wp_region_below (is ?d0 :: is ?d1 :: is ?d2 :: is ?d3 :: is ?d4 :: is ?d5 :: is (.int .i64 (d : Nat)) :: is ?d7 :: [])
          [⟨[], [1], none⟩, ⟨[], [5], none⟩, ⟨[(12, 0), (13, 1)], [], none⟩, ⟨[(14, 2)], [], none⟩, ⟨[(15, 3)], [], none⟩, ⟨[], [1], none⟩, ⟨[(17, 5)], [], none⟩, ⟨[(16, 4), (18, 6)], [], none⟩] (by kernel_rfl) (by kernel_rfl) (by kernel_rfl) (by kernel_rfl) (by kernel_rfl) ?monod ?stepsd ?find
        case monod => exact ⟨mono_eq _, mono_eq _, mono_eq _, mono_eq _, mono_eq _, mono_eq _, mono_eq _, mono_eq _, trivial⟩
        case stepsd =>
          refine ⟨fun ρ W ⟨hcst, hglb, hfun⟩ hX hp ho => ?_, ?_⟩ -- 0: slot 12 := Op.move t1
          · obtain ⟨o1, -⟩ := ho
            change ρ (.tmp 1) = _ at o1
            refine turn_plain (ok_is ?_ rfl)
            simp only [execOp, o1]; go_simp; try exact rfl
          refine ⟨fun ρ W ⟨hcst, hglb, hfun⟩ hX hp ho => ?_, ?_⟩ -- 1: slot 13 := Op.move t5
          · obtain ⟨o5, -⟩ := ho
            change ρ (.tmp 5) = _ at o5
            refine turn_plain (ok_is ?_ rfl)
            simp only [execOp, o5]; go_simp; try exact rfl
          refine ⟨fun ρ W ⟨hcst, hglb, hfun⟩ hX hp ho => ?_, ?_⟩ -- 2: slot 14 := Op.indexAddr 22 t12 t13
          · obtain ⟨p12, p13, -⟩ := hp
            change ρ (.tmp 12) = _ at p12
            change ρ (.tmp 13) = _ at p13
            refine turn_plain (ok_is ?_ rfl)
            simp only [execOp, p12, p13]; go_simp; try exact rfl
          refine ⟨fun ρ W ⟨hcst, hglb, hfun⟩ hX hp ho => ?_, ?_⟩ -- 3: slot 15 := Op.load 54 t14
          · obtain ⟨p14, -⟩ := hp
            change ρ (.tmp 14) = _ at p14
            have q := (((Below.refl _ _).drew.trans hX).cell (p := ⟨b4, o4 + k, none⟩) hlt4).trans hcx
            refine turn_plain (ok_is ?_ rfl)
            simp only [execOp, p14]; go_simp; try exact rfl
          refine ⟨fun ρ W ⟨hcst, hglb, hfun⟩ hX hp ho => ?_, ?_⟩ -- 4: slot 16 := Op.call { builtin len, args := #[t15], argTypes := #[54] }
          · obtain ⟨p15, -⟩ := hp
            change ρ (.tmp 15) = _ at p15
            refine turn_plain (ok_is ?_ rfl)
            simp only [execOp, p15]; go_simp; try exact rfl
          refine ⟨fun ρ W ⟨hcst, hglb, hfun⟩ hX hp ho => ?_, ?_⟩ -- 5: slot 17 := Op.move t1
          · obtain ⟨o1, -⟩ := ho
            change ρ (.tmp 1) = _ at o1
            refine turn_plain (ok_is ?_ rfl)
            simp only [execOp, o1]; go_simp; try exact rfl
          refine ⟨fun ρ W ⟨hcst, hglb, hfun⟩ hX hp ho => ?_, ?_⟩ -- 6: slot 18 := Op.call { value (Operand.func 20), args := #[t17], argTypes := #[22] }
          · obtain ⟨p17, -⟩ := hp
            change ρ (.tmp 17) = _ at p17
            have hW := (Below.refl _ _).drew.trans hX
            refine turn_plain ?_
            have ce := @enter_of Tryd.prog 20 _ Tryd.func20 (by kernel_rfl) (by kernel_rfl)
            refine ok_call (op_call1 hfun ce (by exact rfl) p17) ?_
            refine (QD.out W hW).mono ?_
            rintro e W' ⟨rfl, rfl⟩
            exact ⟨_, rfl, Below.refl _ _, rfl⟩
          refine ⟨fun ρ W ⟨hcst, hglb, hfun⟩ hX hp ho => ?_, ?_⟩ -- 7: slot 19 := Op.binOp BinOp.neq 3 t16 t18 3
          · obtain ⟨p16, p18, -⟩ := hp
            change ρ (.tmp 16) = _ at p16
            change ρ (.tmp 18) = _ at p18
            refine turn_plain (ok_is ?_ rfl)
            simp only [execOp, p16, p18]; go_simp; try exact rfl
          exact trivial
        case find =>
          rintro v W hX ⟨f0, f1, f2, f3, f4, f5, f6, f7, -⟩
          simp only [is] at f0 f1 f2 f3 f4 f5 f6 f7
          simp only [putAll, Act.put, List.setIfInBounds_toArray, List.set_cons_succ, List.set_cons_zero, f0, f1, f2, f3, f4, f5, f6, f7]
          clear f0 f1 f2 f3 f4 f5 f6 f7
          go_wp2_with fail
          go_ret
          exact ⟨by rw [HN.out]; rfl, by rw [HG.out]; exact BW.out.trans (hX.mono (by rw [← HG.out]; exact BW.out.size))⟩

    · obtain rfl : n3 = k := by omega
      have HT := Lib.hid (show b = true ↔ TMay own P n3 d from by
        rw [HBI.out]
        constructor
        · intro h; have := h.2; rw [HL3.out, HD.out] at this; exact this
        · intro h; exact ⟨by rw [HL3.out, HD.out]; exact allB_of HL3.out AG.out, by rw [HL3.out, HD.out]; exact h⟩)
      have QM := Lib.hid (fun W (hW : Below wr.heap.size wr W) => rmay_b A n c vs own A2 n2 c2 vs2 P n3 d W b HT.out HL.out hn (HR.out.later (B2.out.trans (hW.mono B2.out.size)) (Nat.le_refl _)) HL2.out hn2 (HR2.out.later (B2.out.trans (hW.mono B2.out.size)) (Nat.le_refl _)))
      have t0 : wr.cell? ⟨g, 0, none⟩ = some (.slice A n c) := (B2.out.cell (p := ⟨g, 0, none⟩) H1.out.lt).trans (H1.out.cell 0)
      have t1 : wr.cell? ⟨g, 1, none⟩ = some (.slice A2 n2 c2) := (B2.out.cell (p := ⟨g, 1, none⟩) H1.out.lt).trans (H1.out.cell 1)
      have ltg := lt_of_cell t0
      go_upto_region 6 with fail
      refine wp_region_below (is ?e0 :: is ?e1 :: is ?e2 :: is ?e3 :: is (.int .i64 (d : Nat)) :: is (.bool b) :: is ?e6 :: [])
        [⟨[], [2], none⟩, ⟨[], [1], none⟩, ⟨[(21, 1)], [], none⟩, ⟨[], [1], none⟩, ⟨[(23, 3)], [], none⟩, ⟨[(20, 0), (22, 2), (24, 4)], [], none⟩, ⟨[(25, 5)], [], none⟩] (by kernel_rfl) (by kernel_rfl) (by kernel_rfl) (by kernel_rfl) (by kernel_rfl) ?monoe ?stepse ?fine
      case monoe => exact ⟨mono_eq _, mono_eq _, mono_eq _, mono_eq _, mono_eq _, mono_eq _, mono_eq _, trivial⟩
      case stepse =>
        refine ⟨fun ρ W ⟨hcst, hglb, hfun⟩ hX hp ho => ?_, ?_⟩ -- 0: slot 20 := Op.load 25 t2
        · obtain ⟨o2, -⟩ := ho
          change ρ (.tmp 2) = _ at o2
          have q0 := (((Below.refl _ _).drew.trans hX).cell (p := ⟨g, 0, none⟩) ltg).trans t0
          have q1 := (((Below.refl _ _).drew.trans hX).cell (p := ⟨g, 1, none⟩) ltg).trans t1
          refine turn_plain (ok_is ?_ rfl)
          simp only [execOp, o2]; go_simp; try exact rfl
        refine ⟨fun ρ W ⟨hcst, hglb, hfun⟩ hX hp ho => ?_, ?_⟩ -- 1: slot 21 := Op.move t1
        · obtain ⟨o1, -⟩ := ho
          change ρ (.tmp 1) = _ at o1
          refine turn_plain (ok_is ?_ rfl)
          simp only [execOp, o1]; go_simp; try exact rfl
        refine ⟨fun ρ W ⟨hcst, hglb, hfun⟩ hX hp ho => ?_, ?_⟩ -- 2: slot 22 := Op.call { builtin len, args := #[t21], argTypes := #[22] }
        · obtain ⟨p21, -⟩ := hp
          change ρ (.tmp 21) = _ at p21
          refine turn_plain (ok_is ?_ rfl)
          simp only [execOp, p21]; go_simp; try exact rfl
        refine ⟨fun ρ W ⟨hcst, hglb, hfun⟩ hX hp ho => ?_, ?_⟩ -- 3: slot 23 := Op.move t1
        · obtain ⟨o1, -⟩ := ho
          change ρ (.tmp 1) = _ at o1
          refine turn_plain (ok_is ?_ rfl)
          simp only [execOp, o1]; go_simp; try exact rfl
        refine ⟨fun ρ W ⟨hcst, hglb, hfun⟩ hX hp ho => ?_, ?_⟩ -- 4: slot 24 := Op.call { value (Operand.func 20), args := #[t23], argTypes := #[22] }
        · obtain ⟨p23, -⟩ := hp
          change ρ (.tmp 23) = _ at p23
          have hW := (Below.refl _ _).drew.trans hX
          refine turn_plain ?_
          have ce := @enter_of Tryd.prog 20 _ Tryd.func20 (by kernel_rfl) (by kernel_rfl)
          refine ok_call (op_call1 hfun ce (by exact rfl) p23) ?_
          refine (QD.out W hW).mono ?_
          rintro e W' ⟨rfl, rfl⟩
          exact ⟨_, rfl, Below.refl _ _, rfl⟩
        refine ⟨fun ρ W ⟨hcst, hglb, hfun⟩ hX hp ho => ?_, ?_⟩ -- 5: slot 25 := Op.call { value (Operand.func 16), args := #[t20, t22, t24], argTypes := #[25, 3, 3] }
        · obtain ⟨p20, p22, p24, -⟩ := hp
          change ρ (.tmp 20) = _ at p20
          change ρ (.tmp 22) = _ at p22
          change ρ (.tmp 24) = _ at p24
          have hW := (Below.refl _ _).drew.trans hX
          refine turn_plain ?_
          have ce := @enter_of Tryd.prog 16 _ Tryd.func16 (by kernel_rfl) (by kernel_rfl)
          refine ok_call (op_call3 hfun ce (by exact rfl) p20 p22 p24) ?_
          refine (QM.out W hW).mono ?_
          rintro e W' ⟨rfl, bel⟩
          exact ⟨_, rfl, bel, rfl⟩
        refine ⟨fun ρ W ⟨hcst, hglb, hfun⟩ hX hp ho => ?_, ?_⟩ -- 6: slot 4 := Op.assign t25
        · obtain ⟨p25, -⟩ := hp
          change ρ (.tmp 25) = _ at p25
          refine turn_plain (ok_is ?_ rfl)
          simp only [execOp, p25]; go_simp; try exact rfl
        exact trivial
      case fine =>
        rintro v W hX ⟨f0, f1, f2, f3, f4, f5, f6, -⟩
        simp only [is] at f0 f1 f2 f3 f4 f5 f6
        simp only [putAll, Act.put, List.setIfInBounds_toArray, List.set_cons_succ, List.set_cons_zero, f0, f1, f2, f3, f4, f5, f6]
        clear f0 f1 f2 f3 f4 f5 f6
        go_wp2_with fail
        go_ret
        exact ⟨rfl, by rw [HG.out]; exact BW.out.trans (hX.mono (by rw [← HG.out]; exact BW.out.size))⟩

theorem plB_eq (came : List Int) (many : Int) : PlB came many = (decide (∀ x ∈ came, x < many) && SetM.may came) := by
  unfold PlB
  cases hm : SetM.may came with
  | false => simp
  | true =>
    rw [Bool.true_and, Bool.and_true]
    refine decide_eq_decide.2 ⟨fun h x hx => ?_, fun h => ?_⟩
    · obtain ⟨a, b⟩ := may_asc came (-1) hm (by omega)
      obtain ⟨i, hi, rfl⟩ := List.mem_iff_getElem.1 hx
      have h2 : came.getD (came.length - 1) 0 < many := h.resolve_left (by omega)
      rw [List.getD_eq_getElem?_getD, List.getElem?_eq_getElem (by omega)] at h2
      have h2 : came[came.length - 1] < many := h2
      by_cases e : i = came.length - 1
      · subst e; exact h2
      · have := List.pairwise_iff_getElem.1 b i (came.length - 1) hi (by omega) (by omega)
        omega
    · rcases Nat.eq_zero_or_pos came.length with h0 | h0
      · exact .inl h0
      · refine .inr ?_
        rw [List.getD_eq_getElem?_getD, List.getElem?_eq_getElem (by omega)]
        exact h _ (List.getElem_mem _)
set_option maxRecDepth 100000 in
set_option maxHeartbeats 1000000 in
theorem rplaced_any (came : List Int) (many : Int) (w : World) (hl : came.length = n) (hn : n ≤ 9223372036854775807) (ha : At w A (ints .i64 came)) :
    Calls Tryd.prog 33 #[.slice A n c, .int .i64 many] w fun e w' => e = .returned (.bool (PlB came many)) ∧ Below w.heap.size w w' := by
  have HL := Lib.hid hl
  have HA := Lib.hid ha
  clear hl ha
  go_enter Tryd.func33, Tryd.ntmps33
  go_wp2_with fail
  go_loopw [5] (fun i wr => ∃ k : Nat, k ≤ n ∧ i = .int .i64 k ∧ wr = w ∧ ∀ i, i < k → came.getD i 0 < many) (fun i _ => (n - intOf i).toNat)
  case atStart => exact ⟨0, by omega, rfl, rfl, fun i hi => absurd hi (by omega)⟩
  case round =>
    obtain ⟨k, hk, rfl, rfl, hag⟩ := hrel
    have AG := Lib.hid hag
    clear hag
    by_cases hkn : k < n
    · obtain ⟨b, o, rfl, hc⟩ := HA.out.int k (by rw [HL.out]; exact hkn)
      obtain ⟨x, hx⟩ : ∃ x, came.getD k 0 = x := ⟨_, rfl⟩
      rw [hx] at hc
      have HX := Lib.hid hx
      clear hx
      by_cases e : many ≤ x
      · have d1 : decide (many ≤ x) = true := decide_eq_true e
        have HN := Lib.hid (show PlB came many = false from by
          rw [plB_eq, decide_eq_false, Bool.false_and]
          intro h
          have h1 := h _ (List.getElem_mem (show k < came.length by rw [HL.out]; exact hkn))
          have h2 := HX.out
          rw [List.getD_eq_getElem?_getD, List.getElem?_eq_getElem (by rw [HL.out]; exact hkn)] at h2
          have h2 : came[k]'(by rw [HL.out]; exact hkn) = x := h2
          omega)
        go_wp2_with fail
        go_ret
        exact ⟨by rw [HN.out]; rfl, Below.refl _ _⟩
      · have d1 : decide (many ≤ x) = false := decide_eq_false e
        have HE := Lib.hid e
        clear e
        go_wp2_with fail
        refine ⟨⟨k + 1, by omega, by simp, trivial, fun i hi => ?_⟩, by simp [intOf]; omega⟩
        rcases Nat.lt_or_ge i k with h | h
        · exact AG.out i h
        · obtain rfl : i = k := by omega
          rw [HX.out]; have := HE.out; omega
    · obtain rfl : n = k := by omega
      have HP := Lib.hid (show PlB came many = SetM.may came from by
        rw [plB_eq, decide_eq_true, Bool.true_and]
        intro x hx
        obtain ⟨i, hi, rfl⟩ := List.mem_iff_getElem.1 hx
        have := AG.out i (by rw [← HL.out]; exact hi)
        rw [List.getD_eq_getElem?_getD, List.getElem?_eq_getElem hi] at this
        exact this)
      have QM := Lib.hid (refMay_any A n c came wr HL.out hn HA.out)
      go_wp2_with fail
      with_reducible refine QM.out.mono ?_
      clear QM
      rintro e w1 ⟨rfl, bel⟩
      have B1 := Lib.hid bel
      clear bel
      go_wp2_with fail
      go_ret
      exact ⟨by rw [HP.out]; rfl, B1.out⟩
end
end Go.Proofs.YtmdilfgeogedpaaDoor
