/- Layer 37: the program's and the document's answers, side by side. Layer 37: IdealTells. Printed by ieh.py. -/
import Derived.Test.YtmdilfgeogedpaaDoorIfB
import Derived.Deep.CutRange
namespace Go.Proofs.YtmdilfgeogedpaaDoor
open Go.RowKit
theorem rows3_pairs {W : World} {H A B : Option Addr} {v1 v2 : List Value} {x y : List (List Nat)} {m1 c1 m2 c2 : Nat} (h : At W H [.slice A m1 c1, .slice B m2 c2]) (h1 : Rows_ W .u32 A v1 x) (l1 : x.length = m1) (b1 : m1 ≤ c1) (b2 : c1 ≤ maxLen) (h2 : Rows_ W .u32 B v2 y) (l2 : y.length = m2) (b3 : m2 ≤ c2) (b4 : c2 ≤ maxLen) : Rows3 W .u32 H [.slice A m1 c1, .slice B m2 c2] [x, y] := ⟨h, rfl, by
  intro i v b h3 h4
  match i with
  | 0 => simp at h3 h4; subst h3; subst h4; exact ⟨_, _, v1, by rw [l1], h1, (fun e => h1.none_len e), by rw [l1]; exact b1, b2⟩
  | 1 => simp at h3 h4; subst h3; subst h4; exact ⟨_, _, v2, by rw [l2], h2, (fun e => h2.none_len e), by rw [l2]; exact b3, b4⟩
  | i + 2 => simp at h3⟩
def errV (k : Nat) : Value := if k = 0 then .nilIface else .iface 62 (.int .i64 k)
theorem num37_v (k : Nat) (w : World) (h : Glob w) : Calls Tryd.prog 17 #[errV k] w fun e w' => e = .returned (.int .i64 (k : Nat)) ∧ Below w.heap.size w w' := by
  rcases Nat.eq_zero_or_pos k with h0 | h0
  · subst h0; exact num37_nil w
  · unfold errV; rw [if_neg (by omega)]; exact num37_err k w h
def HidK (w : World) (l : List (List Nat)) (ev : Value) (e : Ending) (w' : World) : Prop := ∃ A c vs, e = .returned (.tuple #[.slice A l.length c, ev]) ∧ Rows_ w' .u32 A vs l ∧ Below w.heap.size w w'
def TabK (w : World) (own : List (List Nat)) (P : List (List (List Nat))) (ev : Value) (e : Ending) (w' : World) : Prop :=
  ∃ A1 c1 v1 A2 c2 v2, e = .returned (.tuple #[.agg #[.slice A1 own.length c1, .slice A2 P.length c2], ev]) ∧ Rows_ w' .u32 A1 v1 own ∧ Rows3 w' .u32 A2 v2 P ∧ Below w.heap.size w w'
theorem rows_none (w : World) : Rows_ w .u32 none [] [] := ⟨At.nil _ _, rfl, by intro i v b h; simp at h⟩
theorem rows3_none (w : World) : Rows3 w .u32 none [] [] := ⟨At.nil _ _, rfl, by intro i v b h; simp at h⟩
theorem hid_both (own : List (List Nat)) (P : List (List (List Nat))) (rows : List (List Nat)) (h1 : own.length ≤ 9223372036854775807) (h2 : P.length ≤ 9223372036854775807) (h3 : rows.length ≤ 9223372036854775807) (u1 : U32 own) (u2 : ∀ l ∈ P, U32 l) (u3 : U32 rows) :
    ∃ (L : List (List Nat)) (k : Nat), L.length ≤ 64 ∧ (∀ A n c vs A2 n2 c2 vs2 A3 n3 c3 vs3 w, own.length = n → P.length = n2 → rows.length = n3 → Rows_ w .u32 A vs own → Rows3 w .u32 A2 vs2 P → Rows_ w .u32 A3 vs3 rows → Calls Tryd.prog 10 #[.agg #[.slice A n c, .slice A2 n2 c2], .slice A3 n3 c3] w (HidK w L (errV k))) ∧
      (∀ A n c vs A2 n2 c2 vs2 A3 n3 c3 vs3 w, own.length = n → P.length = n2 → rows.length = n3 → Rows_ w .u32 A vs own → Rows3 w .u32 A2 vs2 P → Rows_ w .u32 A3 vs3 rows → Calls Tryd.prog 11 #[.agg #[.slice A n c, .slice A2 n2 c2], .slice A3 n3 c3] w (HidK w L (.int .i64 (k : Nat)))) := by
  by_cases hf : Fit own P rows
  · have sh := hf.shape
    refine ⟨VE.hid own P rows, 0, by rw [VE.hid_length]; exact sh.n64, ?_, ?_⟩
    · intro A n c vs A2 n2 c2 vs2 A3 n3 c3 vs3 w e1 e2 e3 r1 r2 r3
      have s1 := sh.on; have s2 := sh.pn
      obtain rfl : n3 = n := by omega
      obtain rfl : n3 = n2 := by omega
      rw [e3] at sh
      refine (hidden_yes A n3 c vs own A2 c2 vs2 P A3 c3 vs3 rows _ w r1 r2 r3 sh hf u1 u2 u3).mono ?_
      rintro e w' ⟨A', c', vs', rfl, _, h4, h5⟩
      exact ⟨A', c', vs', rfl, h4, h5⟩
    · intro A n c vs A2 n2 c2 vs2 A3 n3 c3 vs3 w e1 e2 e3 r1 r2 r3
      have s1 := sh.on; have s2 := sh.pn
      obtain rfl : n3 = n := by omega
      obtain rfl : n3 = n2 := by omega
      rw [e3] at sh
      refine (rhidden_yes A n3 c vs own A2 c2 vs2 P A3 c3 vs3 rows _ w r1 r2 r3 sh hf u1 u2 u3).mono ?_
      rintro e w' ⟨A', c', vs', rfl, h4, h5⟩
      exact ⟨A', c', vs', by rw [VE.hid_length, e3]; rfl, h4, h5⟩
  · refine ⟨[], 1, by simp, ?_, ?_⟩
    · intro A n c vs A2 n2 c2 vs2 A3 n3 c3 vs3 w e1 e2 e3 r1 r2 r3
      refine (hidden_no A n c vs own A2 n2 c2 vs2 P A3 n3 c3 vs3 rows w e1 (by omega) r1 e2 (by omega) r2 e3 (by omega) r3 hf).mono ?_
      rintro e w' ⟨rfl, h5⟩
      exact ⟨none, 0, [], rfl, rows_none _, h5⟩
    · intro A n c vs A2 n2 c2 vs2 A3 n3 c3 vs3 w e1 e2 e3 r1 r2 r3
      refine (rhidden_no A n c vs own A2 n2 c2 vs2 P A3 n3 c3 vs3 rows w e1 (by omega) r1 e2 (by omega) r2 e3 (by omega) r3 hf).mono ?_
      rintro e w' ⟨rfl, h5⟩
      exact ⟨none, 0, [], rfl, rows_none _, h5⟩
theorem shown_both (own : List (List Nat)) (P : List (List (List Nat))) (came : List Int) (dim : Int) (h1 : own.length ≤ 9223372036854775807) (h2 : P.length ≤ 9223372036854775807) (h3 : came.length ≤ 9223372036854775807) :
    ∃ (o : List (List Nat)) (p : List (List (List Nat))) (k : Nat), o.length ≤ 64 ∧ p.length ≤ 64 ∧ (∀ A n c vs A2 n2 c2 vs2 A3 n3 c3 w, own.length = n → P.length = n2 → came.length = n3 → Rows_ w .u32 A vs own → Rows3 w .u32 A2 vs2 P → At w A3 (ints .i64 came) → Calls Tryd.prog 12 #[.agg #[.slice A n c, .slice A2 n2 c2], .slice A3 n3 c3, .int .i64 dim] w (TabK w o p (errV k))) ∧
      (∀ A n c vs A2 n2 c2 vs2 A3 n3 c3 w, own.length = n → P.length = n2 → came.length = n3 → Rows_ w .u32 A vs own → Rows3 w .u32 A2 vs2 P → At w A3 (ints .i64 came) → Calls Tryd.prog 13 #[.agg #[.slice A n c, .slice A2 n2 c2], .slice A3 n3 c3, .int .i64 dim] w (TabK w o p (.int .i64 (k : Nat)))) := by
  by_cases hf : TMay own P own.length dim ∧ PlB came own.length = true
  · obtain ⟨ht, hp⟩ := hf
    obtain ⟨d, rfl⟩ := Int.eq_ofNat_of_zero_le ht.1.2.2.1
    have n64 : own.length ≤ 64 := by have := ht.1.2.1; omega
    have d32 : d ≤ 32 := by have := ht.1.2.2.2; omega
    have hpn : P.length = own.length := by have := ht.2.2.1; omega
    have hod : ∀ i, i < own.length → (own.getD i []).length = d := fun i hi => by have := (allB_len ht.2.1).2 i hi; omega
    have hpl : ∀ i, i < own.length → (P.getD i []).length = own.length - 1 - i := fun i hi => by have := (allB_len (ht.2.2.2 i (by omega))).1; omega
    have hpd : VE.PairsOk P own.length d := fun i j hij hj => by
      have := (allB_len (ht.2.2.2 i (by omega))).2 (j - i - 1) (by rw [hpl i (by omega)]; omega)
      unfold VE.pairOf
      omega
    refine ⟨shO came own own.length, shP came P own.length, 0, by rw [shO_length]; exact n64, by rw [shP_length, hpn]; exact n64, ?_, ?_⟩
    · intro A n c vs A2 n2 c2 vs2 A3 n3 c3 w e1 e2 e3 r1 r2 r3
      obtain rfl : n = n2 := by omega
      subst e1
      refine (shown_yes A own.length c vs own A2 c2 vs2 P A3 n3 c3 came d w rfl n64 r1 hpn r2 (fun i hi => by rw [hod i hi]; exact d32) hpl (fun i j hi hj => ?_) e3 (by omega) r3 ht hp).mono ?_
      · rw [pairOf_getD, hpd i _ (by omega) (by rw [hpl i hi] at hj; omega)]; exact d32
      · rintro e w' ⟨D, rfl, f, t, _, b⟩
        exact ⟨_, _, _, _, _, _, rfl, t.rows f, t.rows3 f, b⟩
    · intro A n c vs A2 n2 c2 vs2 A3 n3 c3 w e1 e2 e3 r1 r2 r3
      obtain rfl : n = n2 := by omega
      subst e1
      refine (rshown_yes A own.length c vs own A2 own.length c2 vs2 P A3 n3 c3 came d w rfl n64 d32 r1 hpn rfl r2 hod hpl hpd e3 (by omega) r3 ht hp).mono ?_
      rintro e w' ⟨A1, c1, v1, A2, c2, v2, rfl, h4, h5, h6⟩
      exact ⟨A1, c1, v1, A2, c2, v2, by rw [shO_length, shP_length, hpn]; rfl, h4, h5, h6⟩
  · refine ⟨[], [], 1, by simp, by simp, ?_, ?_⟩
    · intro A n c vs A2 n2 c2 vs2 A3 n3 c3 w e1 e2 e3 r1 r2 r3
      refine (shown_no A n c vs own A2 n2 c2 vs2 P A3 n3 c3 came dim w e1 (by omega) r1 e2 (by omega) r2 e3 (by omega) r3 (by rw [← e1]; exact hf)).mono ?_
      rintro e w' ⟨rfl, h5⟩
      exact ⟨none, 0, [], none, 0, [], rfl, rows_none _, rows3_none _, h5⟩
    · intro A n c vs A2 n2 c2 vs2 A3 n3 c3 w e1 e2 e3 r1 r2 r3
      refine (rshown_no A n c vs own A2 n2 c2 vs2 P A3 n3 c3 came dim w e1 (by omega) r1 e2 (by omega) r2 e3 (by omega) r3 (by rw [← e1]; exact hf)).mono ?_
      rintro e w' ⟨rfl, h5⟩
      exact ⟨none, 0, [], none, 0, [], rfl, rows_none _, rows3_none _, h5⟩
theorem moved_both (own : List (List Nat)) (P : List (List (List Nat))) (came : List Int) (rows other : List (List Nat)) (h1 : own.length ≤ 9223372036854775807) (h2 : P.length ≤ 9223372036854775807) (h3 : came.length ≤ 9223372036854775807) (h4 : rows.length ≤ 9223372036854775807) (h5 : other.length ≤ 9223372036854775807) (u2 : ∀ l ∈ P, U32 l) (u3 : U32 rows) (u4 : U32 other) :
    ∃ (o : List (List Nat)) (p : List (List (List Nat))) (k : Nat), o.length ≤ 64 ∧ p.length ≤ 64 ∧ (∀ A n c vs A2 n2 c2 vs2 A3 n3 c3 A4 n4 c4 vs4 A5 n5 c5 vs5 w, own.length = n → P.length = n2 → came.length = n3 → n3 ≤ c3 → rows.length = n4 → other.length = n5 → Rows_ w .u32 A vs own → Rows3 w .u32 A2 vs2 P → At w A3 (ints .i64 came) → Rows_ w .u32 A4 vs4 rows → Rows_ w .u32 A5 vs5 other → Calls Tryd.prog 14 #[.agg #[.slice A n c, .slice A2 n2 c2], .slice A3 n3 c3, .slice A4 n4 c4, .slice A5 n5 c5] w (TabK w o p (errV k))) ∧
      (∀ A n c vs A2 n2 c2 vs2 A3 n3 c3 A4 n4 c4 vs4 A5 n5 c5 vs5 w, own.length = n → P.length = n2 → came.length = n3 → n3 ≤ c3 → rows.length = n4 → other.length = n5 → Rows_ w .u32 A vs own → Rows3 w .u32 A2 vs2 P → At w A3 (ints .i64 came) → Rows_ w .u32 A4 vs4 rows → Rows_ w .u32 A5 vs5 other → Calls Tryd.prog 15 #[.agg #[.slice A n c, .slice A2 n2 c2], .slice A3 n3 c3, .slice A4 n4 c4, .slice A5 n5 c5] w (TabK w o p (.int .i64 (k : Nat)))) := by
  by_cases ha : MvArg own P came rows other
  · by_cases hs : MvSum came rows other
    · have sh := ha.1.1.shape
      refine ⟨own, mvP (came.map Int.toNat) P rows other (came.length - 1), 0, by rw [sh.on]; exact sh.n64, by rw [mvP_length, sh.pn]; exact sh.n64, ?_, ?_⟩
      · intro A n c vs A2 n2 c2 vs2 A3 n3 c3 A4 n4 c4 vs4 A5 n5 c5 vs5 w e1 e2 e3 e0 e4 e5 r1 r2 r3 r4 r5
        refine (moved_any A n c vs own A2 n2 c2 vs2 P A3 n3 c3 came A4 n4 c4 vs4 rows A5 n5 c5 vs5 other w e1 (by omega) r1 e2 (by omega) r2 e3 (by omega) e0 r3 e4 (by omega) r4 e5 (by omega) r5 u2 u3 u4).mono ?_
        rintro e w' (⟨h, _⟩ | ⟨_, h, _⟩ | ⟨_, _, D, rfl, f, t, _, b⟩)
        · exact absurd ha h
        · exact absurd hs h
        · exact ⟨_, _, _, _, _, _, rfl, t.rows f, t.rows3 f, b⟩
      · intro A n c vs A2 n2 c2 vs2 A3 n3 c3 A4 n4 c4 vs4 A5 n5 c5 vs5 w e1 e2 e3 e0 e4 e5 r1 r2 r3 r4 r5
        refine (rmoved_any A n c vs own A2 n2 c2 vs2 P A3 n3 c3 came A4 n4 c4 vs4 rows A5 n5 c5 vs5 other w e1 (by omega) r1 e2 (by omega) r2 e3 (by omega) r3 e4 (by omega) r4 e5 (by omega) r5 u2 u3 u4).mono ?_
        rintro e w' (⟨h, _⟩ | ⟨_, h, _⟩ | ⟨_, _, A1, c1, v1, A2, c2, v2, rfl, g4, g5, g6⟩)
        · exact absurd ha h
        · exact absurd hs h
        · exact ⟨A1, c1, v1, A2, c2, v2, by rw [mvP_length, sh.pn, sh.on]; rfl, g4, g5, g6⟩
    · refine ⟨[], [], 4, by simp, by simp, ?_, ?_⟩
      · intro A n c vs A2 n2 c2 vs2 A3 n3 c3 A4 n4 c4 vs4 A5 n5 c5 vs5 w e1 e2 e3 e0 e4 e5 r1 r2 r3 r4 r5
        refine (moved_any A n c vs own A2 n2 c2 vs2 P A3 n3 c3 came A4 n4 c4 vs4 rows A5 n5 c5 vs5 other w e1 (by omega) r1 e2 (by omega) r2 e3 (by omega) e0 r3 e4 (by omega) r4 e5 (by omega) r5 u2 u3 u4).mono ?_
        rintro e w' (⟨h, _⟩ | ⟨_, _, rfl, b⟩ | ⟨_, h, _⟩)
        · exact absurd ha h
        · exact ⟨none, 0, [], none, 0, [], rfl, rows_none _, rows3_none _, b⟩
        · exact absurd h hs
      · intro A n c vs A2 n2 c2 vs2 A3 n3 c3 A4 n4 c4 vs4 A5 n5 c5 vs5 w e1 e2 e3 e0 e4 e5 r1 r2 r3 r4 r5
        refine (rmoved_any A n c vs own A2 n2 c2 vs2 P A3 n3 c3 came A4 n4 c4 vs4 rows A5 n5 c5 vs5 other w e1 (by omega) r1 e2 (by omega) r2 e3 (by omega) r3 e4 (by omega) r4 e5 (by omega) r5 u2 u3 u4).mono ?_
        rintro e w' (⟨h, _⟩ | ⟨_, _, rfl, b⟩ | ⟨_, h, _⟩)
        · exact absurd ha h
        · exact ⟨none, 0, [], none, 0, [], rfl, rows_none _, rows3_none _, b⟩
        · exact absurd h hs
  · refine ⟨[], [], 1, by simp, by simp, ?_, ?_⟩
    · intro A n c vs A2 n2 c2 vs2 A3 n3 c3 A4 n4 c4 vs4 A5 n5 c5 vs5 w e1 e2 e3 e0 e4 e5 r1 r2 r3 r4 r5
      refine (moved_any A n c vs own A2 n2 c2 vs2 P A3 n3 c3 came A4 n4 c4 vs4 rows A5 n5 c5 vs5 other w e1 (by omega) r1 e2 (by omega) r2 e3 (by omega) e0 r3 e4 (by omega) r4 e5 (by omega) r5 u2 u3 u4).mono ?_
      rintro e w' (⟨_, rfl, b⟩ | ⟨h, _⟩ | ⟨h, _⟩)
      · exact ⟨none, 0, [], none, 0, [], rfl, rows_none _, rows3_none _, b⟩
      · exact absurd h ha
      · exact absurd h ha
    · intro A n c vs A2 n2 c2 vs2 A3 n3 c3 A4 n4 c4 vs4 A5 n5 c5 vs5 w e1 e2 e3 e0 e4 e5 r1 r2 r3 r4 r5
      refine (rmoved_any A n c vs own A2 n2 c2 vs2 P A3 n3 c3 came A4 n4 c4 vs4 rows A5 n5 c5 vs5 other w e1 (by omega) r1 e2 (by omega) r2 e3 (by omega) r3 e4 (by omega) r4 e5 (by omega) r5 u2 u3 u4).mono ?_
      rintro e w' (⟨_, rfl, b⟩ | ⟨h, _⟩ | ⟨h, _⟩)
      · exact ⟨none, 0, [], none, 0, [], rfl, rows_none _, rows3_none _, b⟩
      · exact absurd h ha
      · exact absurd h ha
theorem check_both (own : List (List Nat)) (P : List (List (List Nat))) (many dim : Int) (h1 : own.length ≤ 9223372036854775807) (h2 : P.length ≤ 9223372036854775807) :
    ∃ b : Bool, (∀ A n c vs A2 n2 c2 vs2 w, own.length = n → P.length = n2 → Rows_ w .u32 A vs own → Rows3 w .u32 A2 vs2 P → Calls Tryd.prog 9 #[.agg #[.slice A n c, .slice A2 n2 c2], .int .i64 many, .int .i64 dim] w fun e w' => e = .returned (errIf b) ∧ Below w.heap.size w w') ∧
      (∀ A n c vs A2 n2 c2 vs2 w, own.length = n → P.length = n2 → Rows_ w .u32 A vs own → Rows3 w .u32 A2 vs2 P → Calls Tryd.prog 16 #[.agg #[.slice A n c, .slice A2 n2 c2], .int .i64 many, .int .i64 dim] w fun e w' => e = .returned (.bool b) ∧ Below w.heap.size w w') := by
  obtain ⟨b, hb⟩ : ∃ b : Bool, b = true ↔ TMay own P many dim := by
    by_cases h : TMay own P many dim
    · exact ⟨true, by simp [h]⟩
    · exact ⟨false, by simp [h]⟩
  refine ⟨b, ?_, ?_⟩
  · intro A n c vs A2 n2 c2 vs2 w e1 e2 r1 r2
    refine (tcheck_any A n c vs own A2 n2 c2 vs2 P many dim w e1 (by omega) r1 e2 (by omega) r2).mono ?_
    rintro e w' ⟨⟨rfl, h⟩ | ⟨rfl, h⟩, hb'⟩
    · cases b with
      | false => exact ⟨rfl, hb'⟩
      | true => exact absurd (hb.1 rfl) h
    · exact ⟨by rw [hb.2 h]; rfl, hb'⟩
  · intro A n c vs A2 n2 c2 vs2 w e1 e2 r1 r2
    exact rmay_b A n c vs own A2 n2 c2 vs2 P many dim w b hb e1 (by omega) r1 e2 (by omega) r2
end Go.Proofs.YtmdilfgeogedpaaDoor
namespace Go.Proofs.YtmdilfgeogedpaaDoor
open Go.RowKit
section
variable (A : Option Addr) (n c : Nat) (vs : List Value) (own : List (List Nat)) (A2 : Option Addr) (n2 c2 : Nat) (vs2 : List Value) (P : List (List (List Nat))) (A3 : Option Addr) (n3 c3 : Nat) (came : List Int)
variable (A4 : Option Addr) (n4 c4 : Nat) (vs4 : List Value) (rows : List (List Nat)) (A5 : Option Addr) (n5 c5 : Nat) (vs5 : List Value) (other : List (List Nat)) (x y : Int)
set_option maxRecDepth 100000 in
set_option maxHeartbeats 8000000 in
theorem itells_any (w : World) (hl : own.length = n) (hn : n ≤ 9223372036854775807) (hr : Rows_ w .u32 A vs own) (hl2 : P.length = n2) (hn2 : n2 ≤ 9223372036854775807) (hr2 : Rows3 w .u32 A2 vs2 P)
    (hl3 : came.length = n3) (hn3 : n3 ≤ 9223372036854775807) (hnc3 : n3 ≤ c3) (ha3 : At w A3 (ints .i64 came)) (hl4 : rows.length = n4) (hn4 : n4 ≤ 9223372036854775807) (hnc4 : n4 ≤ c4) (hc4 : c4 ≤ maxLen) (hr4 : Rows_ w .u32 A4 vs4 rows) (hl5 : other.length = n5) (hn5 : n5 ≤ 9223372036854775807) (hnc5 : n5 ≤ c5) (hc5 : c5 ≤ maxLen) (hr5 : Rows_ w .u32 A5 vs5 other)
    (u1 : U32 own) (u2 : ∀ r ∈ P, U32 r) (u4 : U32 rows) (u5 : U32 other) (hg : Glob w) :
    Calls Tryd.prog 3 #[.agg #[.slice A n c, .slice A2 n2 c2], .agg #[.slice A3 n3 c3, .slice A4 n4 c4, .slice A5 n5 c5], .agg #[.int .i64 x, .int .i64 y]] w fun e w' => e = .returned (.bool true) ∧ Below w.heap.size w w' := by
  obtain ⟨bc, QC1, QC2⟩ := check_both own P x y (by omega) (by omega)
  obtain ⟨LH, kh, zh, QH1, QH2⟩ := hid_both own P rows (by omega) (by omega) (by omega) u1 u2 u4
  obtain ⟨so, sp, ks, zs1, zs2, QS1, QS2⟩ := shown_both own P came y (by omega) (by omega) (by omega)
  obtain ⟨mo, mp, km, zm1, zm2, QM1, QM2⟩ := moved_both own P came rows other (by omega) (by omega) (by omega) (by omega) (by omega) u2 u4 u5
  have HC1 := Lib.hid QC1
  have HC2 := Lib.hid QC2
  have HH1 := Lib.hid QH1
  have HH2 := Lib.hid QH2
  have HS1 := Lib.hid QS1
  have HS2 := Lib.hid QS2
  have HM1 := Lib.hid QM1
  have HM2 := Lib.hid QM2
  clear QC1 QC2 QH1 QH2 QS1 QS2 QM1 QM2
  have HB := Lib.hid ((((Below.refl w.heap.size w).alloc (Nat.le_refl _) (.cells #[.slice A n c, .slice A2 n2 c2] 25)).alloc (by simp) (.cells #[.slice A3 n3 c3, .slice A4 n4 c4, .slice A5 n5 c5] 28)).alloc (by simp; omega) (.cells #[.int .i64 x, .int .i64 y] 29))
  have HG := Lib.hid (hg.later HB.out (Nat.le_refl _))
  have HT := Lib.hid (((Holds.new w 25 #[.slice A n c, .slice A2 n2 c2] w.heap.size rfl).alloc (.cells #[.slice A3 n3 c3, .slice A4 n4 c4, .slice A5 n5 c5] 28)).alloc (.cells #[.int .i64 x, .int .i64 y] 29))
  have HK := Lib.hid ((Holds.new (w.alloc (.cells #[.slice A n c, .slice A2 n2 c2] 25)) 28 #[.slice A3 n3 c3, .slice A4 n4 c4, .slice A5 n5 c5] (w.heap.size + 1) (by simp)).alloc (.cells #[.int .i64 x, .int .i64 y] 29))
  have HO := Lib.hid (Holds.new ((w.alloc (.cells #[.slice A n c, .slice A2 n2 c2] 25)).alloc (.cells #[.slice A3 n3 c3, .slice A4 n4 c4, .slice A5 n5 c5] 28)) 29 #[.int .i64 x, .int .i64 y] (w.heap.size + 1 + 1) (by simp))
  have HR := Lib.hid (hr.later HB.out (Nat.le_refl _))
  have HR2 := Lib.hid (hr2.later HB.out (Nat.le_refl _))
  have HA3 := Lib.hid (ha3.later HB.out (Nat.le_refl _))
  have HR4 := Lib.hid (hr4.later HB.out (Nat.le_refl _))
  have HR5 := Lib.hid (hr5.later HB.out (Nat.le_refl _))
  have HL := Lib.hid hl
  have HL2 := Lib.hid hl2
  have HL3 := Lib.hid hl3
  have HL4 := Lib.hid hl4
  have HL5 := Lib.hid hl5
  clear hr hr2 ha3 hr4 hr5 hl hl2 hl3 hl4 hl5 hg u1 u2 u4 u5
  go_enter Tryd.func3, Tryd.ntmps3
  go_upto_region 1 with fail
  generalize ((w.alloc (.cells #[.slice A n c, .slice A2 n2 c2] 25)).alloc (.cells #[.slice A3 n3 c3, .slice A4 n4 c4, .slice A5 n5 c5] 28)).alloc (.cells #[.int .i64 x, .int .i64 y] 29) = w1 at *
  obtain ⟨g, hgg⟩ : ∃ g, w.heap.size = g := ⟨_, rfl⟩
  rw [hgg] at HT HK HO HB ⊢
  have HGG := Lib.hid hgg
  clear hgg
  have t0 := HT.out.cell 0
  have t1 := HT.out.cell 1
  simp at t0 t1
  have k0 := HK.out.cell 0
  have k1 := HK.out.cell 1
  have k2 := HK.out.cell 2
  simp at k0 k1 k2
  have o0 := HO.out.cell 0
  have o1 := HO.out.cell 1
  simp at o0 o1
  have bel := (Below.refl w1.heap.size w1).alloc (Nat.le_refl _) (.cells #[.slice A4 n4 c4, .slice A5 n5 c5] 22)
  have RL := Lib.hid (rows3_pairs (At.lit _ _ _ _ _ rfl : At (w1.alloc (.cells #[.slice A4 n4 c4, .slice A5 n5 c5] 22)) (some ⟨w1.heap.size, 0, none⟩) [.slice A4 n4 c4, .slice A5 n5 c5]) (HR4.out.later bel (Nat.le_refl _)) HL4.out hnc4 hc4 (HR5.out.later bel (Nat.le_refl _)) HL5.out hnc5 hc5)
  have QG := Lib.hid (great_any A n c vs own A2 n2 c2 vs2 P (some ⟨w1.heap.size, 0, none⟩) 2 2 _ [rows, other] (w1.alloc (.cells #[.slice A4 n4 c4, .slice A5 n5 c5] 22)) HL.out hn (HR.out.later bel (Nat.le_refl _)) HL2.out hn2 (HR2.out.later bel (Nat.le_refl _)) rfl (by decide) RL.out)
  have BL := Lib.hid bel
  clear bel RL
  go_wp2_with fail
  with_reducible refine QG.out.mono ?_
  clear QG
  clear t0 t1
  clear k0 k1 k2
  clear o0 o1
  rintro e w2 ⟨big, rfl, b2⟩
  have bel := BL.out.trans (b2.mono BL.out.size)
  clear b2 BL
  replace HG := Lib.hid (HG.out.later bel (Nat.le_refl _))
  replace HT := Lib.hid (HT.out.later bel (Nat.le_refl _))
  replace HK := Lib.hid (HK.out.later bel (Nat.le_refl _))
  replace HO := Lib.hid (HO.out.later bel (Nat.le_refl _))
  replace HR := Lib.hid (HR.out.later bel (Nat.le_refl _))
  replace HR2 := Lib.hid (HR2.out.later bel (Nat.le_refl _))
  replace HA3 := Lib.hid (HA3.out.later bel (Nat.le_refl _))
  replace HR4 := Lib.hid (HR4.out.later bel (Nat.le_refl _))
  replace HR5 := Lib.hid (HR5.out.later bel (Nat.le_refl _))
  replace HB := Lib.hid (HB.out.trans (bel.mono (by rw [← HGG.out]; exact HB.out.size)))
  clear bel
  have t0 := HT.out.cell 0
  have t1 := HT.out.cell 1
  simp at t0 t1
  have k0 := HK.out.cell 0
  have k1 := HK.out.cell 1
  have k2 := HK.out.cell 2
  simp at k0 k1 k2
  have o0 := HO.out.cell 0
  have o1 := HO.out.cell 1
  simp at o0 o1
  cases big with
  | true =>
    go_wp2_with fail
    with_reducible refine (sure37 w2 HG.out).mono ?_
    rintro e w3 ⟨rfl, bel⟩
    replace HG := Lib.hid (HG.out.later bel (Nat.le_refl _))
    replace HT := Lib.hid (HT.out.later bel (Nat.le_refl _))
    replace HK := Lib.hid (HK.out.later bel (Nat.le_refl _))
    replace HO := Lib.hid (HO.out.later bel (Nat.le_refl _))
    replace HR := Lib.hid (HR.out.later bel (Nat.le_refl _))
    replace HR2 := Lib.hid (HR2.out.later bel (Nat.le_refl _))
    replace HA3 := Lib.hid (HA3.out.later bel (Nat.le_refl _))
    replace HR4 := Lib.hid (HR4.out.later bel (Nat.le_refl _))
    replace HR5 := Lib.hid (HR5.out.later bel (Nat.le_refl _))
    replace HB := Lib.hid (HB.out.trans (bel.mono (by rw [← HGG.out]; exact HB.out.size)))
    clear bel
    go_wp2_with fail
    go_ret
    exact ⟨rfl, by rw [HGG.out]; exact HB.out⟩
  | false =>
  by_cases hbig : (40 : Int) < n3
  · 
    go_wp2_with fail
    with_reducible refine (sure37 w2 HG.out).mono ?_
    rintro e w3 ⟨rfl, bel⟩
    replace HG := Lib.hid (HG.out.later bel (Nat.le_refl _))
    replace HT := Lib.hid (HT.out.later bel (Nat.le_refl _))
    replace HK := Lib.hid (HK.out.later bel (Nat.le_refl _))
    replace HO := Lib.hid (HO.out.later bel (Nat.le_refl _))
    replace HR := Lib.hid (HR.out.later bel (Nat.le_refl _))
    replace HR2 := Lib.hid (HR2.out.later bel (Nat.le_refl _))
    replace HA3 := Lib.hid (HA3.out.later bel (Nat.le_refl _))
    replace HR4 := Lib.hid (HR4.out.later bel (Nat.le_refl _))
    replace HR5 := Lib.hid (HR5.out.later bel (Nat.le_refl _))
    replace HB := Lib.hid (HB.out.trans (bel.mono (by rw [← HGG.out]; exact HB.out.size)))
    clear bel
    go_wp2_with fail
    go_ret
    exact ⟨rfl, by rw [HGG.out]; exact HB.out⟩
  have hbig2 : decide ((40 : Int) < n3) = false := decide_eq_false hbig
  go_wp2_with fail
  with_reducible refine (give_any A n c A2 n2 c2 w2).mono ?_
  rintro e w3 ⟨rfl, bel⟩
  replace HG := Lib.hid (HG.out.later bel (Nat.le_refl _))
  replace HT := Lib.hid (HT.out.later bel (Nat.le_refl _))
  replace HK := Lib.hid (HK.out.later bel (Nat.le_refl _))
  replace HO := Lib.hid (HO.out.later bel (Nat.le_refl _))
  replace HR := Lib.hid (HR.out.later bel (Nat.le_refl _))
  replace HR2 := Lib.hid (HR2.out.later bel (Nat.le_refl _))
  replace HA3 := Lib.hid (HA3.out.later bel (Nat.le_refl _))
  replace HR4 := Lib.hid (HR4.out.later bel (Nat.le_refl _))
  replace HR5 := Lib.hid (HR5.out.later bel (Nat.le_refl _))
  replace HB := Lib.hid (HB.out.trans (bel.mono (by rw [← HGG.out]; exact HB.out.size)))
  clear bel
  clear t0 t1
  clear k0 k1 k2
  clear o0 o1
  go_upto_region 4 with fail
  have bel := (Below.refl w3.heap.size w3).alloc (Nat.le_refl _) (.cells #[.slice A n c, .slice A2 n2 c2] 32)
  have HX := Lib.hid (Holds.new w3 32 #[.slice A n c, .slice A2 n2 c2] w3.heap.size rfl)
  generalize w3.alloc (.cells #[.slice A n c, .slice A2 n2 c2] 32) = w4 at bel HX ⊢
  replace HG := Lib.hid (HG.out.later bel (Nat.le_refl _))
  replace HT := Lib.hid (HT.out.later bel (Nat.le_refl _))
  replace HK := Lib.hid (HK.out.later bel (Nat.le_refl _))
  replace HO := Lib.hid (HO.out.later bel (Nat.le_refl _))
  replace HR := Lib.hid (HR.out.later bel (Nat.le_refl _))
  replace HR2 := Lib.hid (HR2.out.later bel (Nat.le_refl _))
  replace HA3 := Lib.hid (HA3.out.later bel (Nat.le_refl _))
  replace HR4 := Lib.hid (HR4.out.later bel (Nat.le_refl _))
  replace HR5 := Lib.hid (HR5.out.later bel (Nat.le_refl _))
  replace HB := Lib.hid (HB.out.trans (bel.mono (by rw [← HGG.out]; exact HB.out.size)))
  clear bel
  have t0 := HT.out.cell 0
  have t1 := HT.out.cell 1
  simp at t0 t1
  have k0 := HK.out.cell 0
  have k1 := HK.out.cell 1
  have k2 := HK.out.cell 2
  simp at k0 k1 k2
  have o0 := HO.out.cell 0
  have o1 := HO.out.cell 1
  simp at o0 o1
  have x0 := HX.out.cell 0
  have x1 := HX.out.cell 1
  simp at x0 x1
  have Q := Lib.hid (HC1.out A n c vs A2 n2 c2 vs2 w4 HL.out HL2.out HR.out HR2.out)
  go_wp2_with fail
  with_reducible refine (Q.out).mono ?_
  rintro e w5 ⟨rfl, bel⟩
  replace HG := Lib.hid (HG.out.later bel (Nat.le_refl _))
  replace HT := Lib.hid (HT.out.later bel (Nat.le_refl _))
  replace HK := Lib.hid (HK.out.later bel (Nat.le_refl _))
  replace HO := Lib.hid (HO.out.later bel (Nat.le_refl _))
  replace HR := Lib.hid (HR.out.later bel (Nat.le_refl _))
  replace HR2 := Lib.hid (HR2.out.later bel (Nat.le_refl _))
  replace HA3 := Lib.hid (HA3.out.later bel (Nat.le_refl _))
  replace HR4 := Lib.hid (HR4.out.later bel (Nat.le_refl _))
  replace HR5 := Lib.hid (HR5.out.later bel (Nat.le_refl _))
  replace HX := Lib.hid (HX.out.later bel (Nat.le_refl _))
  replace HB := Lib.hid (HB.out.trans (bel.mono (by rw [← HGG.out]; exact HB.out.size)))
  clear Q
  clear bel
  clear t0 t1
  clear k0 k1 k2
  clear o0 o1
  clear x0 x1
  have t0 := HT.out.cell 0
  have t1 := HT.out.cell 1
  simp at t0 t1
  have k0 := HK.out.cell 0
  have k1 := HK.out.cell 1
  have k2 := HK.out.cell 2
  simp at k0 k1 k2
  have o0 := HO.out.cell 0
  have o1 := HO.out.cell 1
  simp at o0 o1
  have x0 := HX.out.cell 0
  have x1 := HX.out.cell 1
  simp at x0 x1
  have Q := Lib.hid (HH1.out A n c vs A2 n2 c2 vs2 A4 n4 c4 vs4 w5 HL.out HL2.out HL4.out HR.out HR2.out HR4.out)
  go_wp2_with fail
  with_reducible refine (Q.out).mono ?_
  rintro e w6 ⟨Ah, ch, vh, rfl, hh, bel⟩
  replace HG := Lib.hid (HG.out.later bel (Nat.le_refl _))
  replace HT := Lib.hid (HT.out.later bel (Nat.le_refl _))
  replace HK := Lib.hid (HK.out.later bel (Nat.le_refl _))
  replace HO := Lib.hid (HO.out.later bel (Nat.le_refl _))
  replace HR := Lib.hid (HR.out.later bel (Nat.le_refl _))
  replace HR2 := Lib.hid (HR2.out.later bel (Nat.le_refl _))
  replace HA3 := Lib.hid (HA3.out.later bel (Nat.le_refl _))
  replace HR4 := Lib.hid (HR4.out.later bel (Nat.le_refl _))
  replace HR5 := Lib.hid (HR5.out.later bel (Nat.le_refl _))
  replace HX := Lib.hid (HX.out.later bel (Nat.le_refl _))
  replace HB := Lib.hid (HB.out.trans (bel.mono (by rw [← HGG.out]; exact HB.out.size)))
  have RH := Lib.hid hh
  clear hh Q
  clear bel
  clear t0 t1
  clear k0 k1 k2
  clear o0 o1
  clear x0 x1
  have t0 := HT.out.cell 0
  have t1 := HT.out.cell 1
  simp at t0 t1
  have k0 := HK.out.cell 0
  have k1 := HK.out.cell 1
  have k2 := HK.out.cell 2
  simp at k0 k1 k2
  have o0 := HO.out.cell 0
  have o1 := HO.out.cell 1
  simp at o0 o1
  have x0 := HX.out.cell 0
  have x1 := HX.out.cell 1
  simp at x0 x1
  have Q := Lib.hid (HH2.out A n c vs A2 n2 c2 vs2 A4 n4 c4 vs4 w6 HL.out HL2.out HL4.out HR.out HR2.out HR4.out)
  go_wp2_with fail
  with_reducible refine (Q.out).mono ?_
  rintro e w7 ⟨Au, cu, vu, rfl, hh, bel⟩
  replace HG := Lib.hid (HG.out.later bel (Nat.le_refl _))
  replace HT := Lib.hid (HT.out.later bel (Nat.le_refl _))
  replace HK := Lib.hid (HK.out.later bel (Nat.le_refl _))
  replace HO := Lib.hid (HO.out.later bel (Nat.le_refl _))
  replace HR := Lib.hid (HR.out.later bel (Nat.le_refl _))
  replace HR2 := Lib.hid (HR2.out.later bel (Nat.le_refl _))
  replace HA3 := Lib.hid (HA3.out.later bel (Nat.le_refl _))
  replace HR4 := Lib.hid (HR4.out.later bel (Nat.le_refl _))
  replace HR5 := Lib.hid (HR5.out.later bel (Nat.le_refl _))
  replace HX := Lib.hid (HX.out.later bel (Nat.le_refl _))
  replace RH := Lib.hid (RH.out.later bel (Nat.le_refl _))
  replace HB := Lib.hid (HB.out.trans (bel.mono (by rw [← HGG.out]; exact HB.out.size)))
  have RU := Lib.hid hh
  clear hh Q
  clear bel
  clear t0 t1
  clear k0 k1 k2
  clear o0 o1
  clear x0 x1
  have t0 := HT.out.cell 0
  have t1 := HT.out.cell 1
  simp at t0 t1
  have k0 := HK.out.cell 0
  have k1 := HK.out.cell 1
  have k2 := HK.out.cell 2
  simp at k0 k1 k2
  have o0 := HO.out.cell 0
  have o1 := HO.out.cell 1
  simp at o0 o1
  have x0 := HX.out.cell 0
  have x1 := HX.out.cell 1
  simp at x0 x1
  have Q := Lib.hid (HS1.out A n c vs A2 n2 c2 vs2 A3 n3 c3 w7 HL.out HL2.out HL3.out HR.out HR2.out HA3.out)
  go_wp2_with fail
  with_reducible refine (Q.out).mono ?_
  rintro e w8 ⟨As1, cs1, vs1, Bs1, ds1, ys1, rfl, hm1, hp1, bel⟩
  replace HG := Lib.hid (HG.out.later bel (Nat.le_refl _))
  replace HT := Lib.hid (HT.out.later bel (Nat.le_refl _))
  replace HK := Lib.hid (HK.out.later bel (Nat.le_refl _))
  replace HO := Lib.hid (HO.out.later bel (Nat.le_refl _))
  replace HR := Lib.hid (HR.out.later bel (Nat.le_refl _))
  replace HR2 := Lib.hid (HR2.out.later bel (Nat.le_refl _))
  replace HA3 := Lib.hid (HA3.out.later bel (Nat.le_refl _))
  replace HR4 := Lib.hid (HR4.out.later bel (Nat.le_refl _))
  replace HR5 := Lib.hid (HR5.out.later bel (Nat.le_refl _))
  replace HX := Lib.hid (HX.out.later bel (Nat.le_refl _))
  replace RH := Lib.hid (RH.out.later bel (Nat.le_refl _))
  replace RU := Lib.hid (RU.out.later bel (Nat.le_refl _))
  replace HB := Lib.hid (HB.out.trans (bel.mono (by rw [← HGG.out]; exact HB.out.size)))
  have Rs1 := Lib.hid hm1
  have Ps1 := Lib.hid hp1
  clear hm1 hp1 Q
  clear bel
  clear t0 t1
  clear k0 k1 k2
  clear o0 o1
  clear x0 x1
  go_upto_region 8 with fail
  have bel := (Below.refl w8.heap.size w8).alloc (Nat.le_refl _) (.cells #[.slice As1 so.length cs1, .slice Bs1 sp.length ds1] 32)
  have HBS := Lib.hid (Holds.new w8 32 #[.slice As1 so.length cs1, .slice Bs1 sp.length ds1] w8.heap.size rfl)
  generalize w8.alloc (.cells #[.slice As1 so.length cs1, .slice Bs1 sp.length ds1] 32) = w9 at bel HBS ⊢
  replace HG := Lib.hid (HG.out.later bel (Nat.le_refl _))
  replace HT := Lib.hid (HT.out.later bel (Nat.le_refl _))
  replace HK := Lib.hid (HK.out.later bel (Nat.le_refl _))
  replace HO := Lib.hid (HO.out.later bel (Nat.le_refl _))
  replace HR := Lib.hid (HR.out.later bel (Nat.le_refl _))
  replace HR2 := Lib.hid (HR2.out.later bel (Nat.le_refl _))
  replace HA3 := Lib.hid (HA3.out.later bel (Nat.le_refl _))
  replace HR4 := Lib.hid (HR4.out.later bel (Nat.le_refl _))
  replace HR5 := Lib.hid (HR5.out.later bel (Nat.le_refl _))
  replace HX := Lib.hid (HX.out.later bel (Nat.le_refl _))
  replace RH := Lib.hid (RH.out.later bel (Nat.le_refl _))
  replace RU := Lib.hid (RU.out.later bel (Nat.le_refl _))
  replace Rs1 := Lib.hid (Rs1.out.later bel (Nat.le_refl _))
  replace Ps1 := Lib.hid (Ps1.out.later bel (Nat.le_refl _))
  replace HB := Lib.hid (HB.out.trans (bel.mono (by rw [← HGG.out]; exact HB.out.size)))
  clear bel
  have t0 := HT.out.cell 0
  have t1 := HT.out.cell 1
  simp at t0 t1
  have k0 := HK.out.cell 0
  have k1 := HK.out.cell 1
  have k2 := HK.out.cell 2
  simp at k0 k1 k2
  have o0 := HO.out.cell 0
  have o1 := HO.out.cell 1
  simp at o0 o1
  have x0 := HX.out.cell 0
  have x1 := HX.out.cell 1
  simp at x0 x1
  have Q := Lib.hid (HS2.out A n c vs A2 n2 c2 vs2 A3 n3 c3 w9 HL.out HL2.out HL3.out HR.out HR2.out HA3.out)
  go_wp2_with fail
  with_reducible refine (Q.out).mono ?_
  rintro e w10 ⟨As2, cs2, vs2q, Bs2, ds2, ys2, rfl, hm1, hp1, bel⟩
  replace HG := Lib.hid (HG.out.later bel (Nat.le_refl _))
  replace HT := Lib.hid (HT.out.later bel (Nat.le_refl _))
  replace HK := Lib.hid (HK.out.later bel (Nat.le_refl _))
  replace HO := Lib.hid (HO.out.later bel (Nat.le_refl _))
  replace HR := Lib.hid (HR.out.later bel (Nat.le_refl _))
  replace HR2 := Lib.hid (HR2.out.later bel (Nat.le_refl _))
  replace HA3 := Lib.hid (HA3.out.later bel (Nat.le_refl _))
  replace HR4 := Lib.hid (HR4.out.later bel (Nat.le_refl _))
  replace HR5 := Lib.hid (HR5.out.later bel (Nat.le_refl _))
  replace HX := Lib.hid (HX.out.later bel (Nat.le_refl _))
  replace RH := Lib.hid (RH.out.later bel (Nat.le_refl _))
  replace RU := Lib.hid (RU.out.later bel (Nat.le_refl _))
  replace Rs1 := Lib.hid (Rs1.out.later bel (Nat.le_refl _))
  replace Ps1 := Lib.hid (Ps1.out.later bel (Nat.le_refl _))
  replace HBS := Lib.hid (HBS.out.later bel (Nat.le_refl _))
  replace HB := Lib.hid (HB.out.trans (bel.mono (by rw [← HGG.out]; exact HB.out.size)))
  have Rs2 := Lib.hid hm1
  have Ps2 := Lib.hid hp1
  clear hm1 hp1 Q
  clear bel
  clear t0 t1
  clear k0 k1 k2
  clear o0 o1
  clear x0 x1
  go_upto_region 9 with fail
  have bel := (Below.refl w10.heap.size w10).alloc (Nat.le_refl _) (.cells #[.slice As2 so.length cs2, .slice Bs2 sp.length ds2] 25)
  have HBV := Lib.hid (Holds.new w10 25 #[.slice As2 so.length cs2, .slice Bs2 sp.length ds2] w10.heap.size rfl)
  generalize w10.alloc (.cells #[.slice As2 so.length cs2, .slice Bs2 sp.length ds2] 25) = w11 at bel HBV ⊢
  replace HG := Lib.hid (HG.out.later bel (Nat.le_refl _))
  replace HT := Lib.hid (HT.out.later bel (Nat.le_refl _))
  replace HK := Lib.hid (HK.out.later bel (Nat.le_refl _))
  replace HO := Lib.hid (HO.out.later bel (Nat.le_refl _))
  replace HR := Lib.hid (HR.out.later bel (Nat.le_refl _))
  replace HR2 := Lib.hid (HR2.out.later bel (Nat.le_refl _))
  replace HA3 := Lib.hid (HA3.out.later bel (Nat.le_refl _))
  replace HR4 := Lib.hid (HR4.out.later bel (Nat.le_refl _))
  replace HR5 := Lib.hid (HR5.out.later bel (Nat.le_refl _))
  replace HX := Lib.hid (HX.out.later bel (Nat.le_refl _))
  replace RH := Lib.hid (RH.out.later bel (Nat.le_refl _))
  replace RU := Lib.hid (RU.out.later bel (Nat.le_refl _))
  replace Rs1 := Lib.hid (Rs1.out.later bel (Nat.le_refl _))
  replace Ps1 := Lib.hid (Ps1.out.later bel (Nat.le_refl _))
  replace HBS := Lib.hid (HBS.out.later bel (Nat.le_refl _))
  replace Rs2 := Lib.hid (Rs2.out.later bel (Nat.le_refl _))
  replace Ps2 := Lib.hid (Ps2.out.later bel (Nat.le_refl _))
  replace HB := Lib.hid (HB.out.trans (bel.mono (by rw [← HGG.out]; exact HB.out.size)))
  clear bel
  have t0 := HT.out.cell 0
  have t1 := HT.out.cell 1
  simp at t0 t1
  have k0 := HK.out.cell 0
  have k1 := HK.out.cell 1
  have k2 := HK.out.cell 2
  simp at k0 k1 k2
  have o0 := HO.out.cell 0
  have o1 := HO.out.cell 1
  simp at o0 o1
  have x0 := HX.out.cell 0
  have x1 := HX.out.cell 1
  simp at x0 x1
  have Q := Lib.hid (HM1.out A n c vs A2 n2 c2 vs2 A3 n3 c3 A4 n4 c4 vs4 A5 n5 c5 vs5 w11 HL.out HL2.out HL3.out hnc3 HL4.out HL5.out HR.out HR2.out HA3.out HR4.out HR5.out)
  go_wp2_with fail
  with_reducible refine (Q.out).mono ?_
  rintro e w12 ⟨Am1, cm1, vm1, Bm1, dm1, ym1, rfl, hm1, hp1, bel⟩
  replace HG := Lib.hid (HG.out.later bel (Nat.le_refl _))
  replace HT := Lib.hid (HT.out.later bel (Nat.le_refl _))
  replace HK := Lib.hid (HK.out.later bel (Nat.le_refl _))
  replace HO := Lib.hid (HO.out.later bel (Nat.le_refl _))
  replace HR := Lib.hid (HR.out.later bel (Nat.le_refl _))
  replace HR2 := Lib.hid (HR2.out.later bel (Nat.le_refl _))
  replace HA3 := Lib.hid (HA3.out.later bel (Nat.le_refl _))
  replace HR4 := Lib.hid (HR4.out.later bel (Nat.le_refl _))
  replace HR5 := Lib.hid (HR5.out.later bel (Nat.le_refl _))
  replace HX := Lib.hid (HX.out.later bel (Nat.le_refl _))
  replace RH := Lib.hid (RH.out.later bel (Nat.le_refl _))
  replace RU := Lib.hid (RU.out.later bel (Nat.le_refl _))
  replace Rs1 := Lib.hid (Rs1.out.later bel (Nat.le_refl _))
  replace Ps1 := Lib.hid (Ps1.out.later bel (Nat.le_refl _))
  replace HBS := Lib.hid (HBS.out.later bel (Nat.le_refl _))
  replace Rs2 := Lib.hid (Rs2.out.later bel (Nat.le_refl _))
  replace Ps2 := Lib.hid (Ps2.out.later bel (Nat.le_refl _))
  replace HBV := Lib.hid (HBV.out.later bel (Nat.le_refl _))
  replace HB := Lib.hid (HB.out.trans (bel.mono (by rw [← HGG.out]; exact HB.out.size)))
  have Rm1 := Lib.hid hm1
  have Pm1 := Lib.hid hp1
  clear hm1 hp1 Q
  clear bel
  clear t0 t1
  clear k0 k1 k2
  clear o0 o1
  clear x0 x1
  go_upto_region 10 with fail
  have bel := (Below.refl w12.heap.size w12).alloc (Nat.le_refl _) (.cells #[.slice Am1 mo.length cm1, .slice Bm1 mp.length dm1] 32)
  have HBM := Lib.hid (Holds.new w12 32 #[.slice Am1 mo.length cm1, .slice Bm1 mp.length dm1] w12.heap.size rfl)
  generalize w12.alloc (.cells #[.slice Am1 mo.length cm1, .slice Bm1 mp.length dm1] 32) = w13 at bel HBM ⊢
  replace HG := Lib.hid (HG.out.later bel (Nat.le_refl _))
  replace HT := Lib.hid (HT.out.later bel (Nat.le_refl _))
  replace HK := Lib.hid (HK.out.later bel (Nat.le_refl _))
  replace HO := Lib.hid (HO.out.later bel (Nat.le_refl _))
  replace HR := Lib.hid (HR.out.later bel (Nat.le_refl _))
  replace HR2 := Lib.hid (HR2.out.later bel (Nat.le_refl _))
  replace HA3 := Lib.hid (HA3.out.later bel (Nat.le_refl _))
  replace HR4 := Lib.hid (HR4.out.later bel (Nat.le_refl _))
  replace HR5 := Lib.hid (HR5.out.later bel (Nat.le_refl _))
  replace HX := Lib.hid (HX.out.later bel (Nat.le_refl _))
  replace RH := Lib.hid (RH.out.later bel (Nat.le_refl _))
  replace RU := Lib.hid (RU.out.later bel (Nat.le_refl _))
  replace Rs1 := Lib.hid (Rs1.out.later bel (Nat.le_refl _))
  replace Ps1 := Lib.hid (Ps1.out.later bel (Nat.le_refl _))
  replace HBS := Lib.hid (HBS.out.later bel (Nat.le_refl _))
  replace Rs2 := Lib.hid (Rs2.out.later bel (Nat.le_refl _))
  replace Ps2 := Lib.hid (Ps2.out.later bel (Nat.le_refl _))
  replace HBV := Lib.hid (HBV.out.later bel (Nat.le_refl _))
  replace Rm1 := Lib.hid (Rm1.out.later bel (Nat.le_refl _))
  replace Pm1 := Lib.hid (Pm1.out.later bel (Nat.le_refl _))
  replace HB := Lib.hid (HB.out.trans (bel.mono (by rw [← HGG.out]; exact HB.out.size)))
  clear bel
  have t0 := HT.out.cell 0
  have t1 := HT.out.cell 1
  simp at t0 t1
  have k0 := HK.out.cell 0
  have k1 := HK.out.cell 1
  have k2 := HK.out.cell 2
  simp at k0 k1 k2
  have o0 := HO.out.cell 0
  have o1 := HO.out.cell 1
  simp at o0 o1
  have x0 := HX.out.cell 0
  have x1 := HX.out.cell 1
  simp at x0 x1
  have Q := Lib.hid (HM2.out A n c vs A2 n2 c2 vs2 A3 n3 c3 A4 n4 c4 vs4 A5 n5 c5 vs5 w13 HL.out HL2.out HL3.out hnc3 HL4.out HL5.out HR.out HR2.out HA3.out HR4.out HR5.out)
  go_wp2_with fail
  with_reducible refine (Q.out).mono ?_
  rintro e w14 ⟨Am2, cm2, vm2, Bm2, dm2, ym2, rfl, hm1, hp1, bel⟩
  replace HG := Lib.hid (HG.out.later bel (Nat.le_refl _))
  replace HT := Lib.hid (HT.out.later bel (Nat.le_refl _))
  replace HK := Lib.hid (HK.out.later bel (Nat.le_refl _))
  replace HO := Lib.hid (HO.out.later bel (Nat.le_refl _))
  replace HR := Lib.hid (HR.out.later bel (Nat.le_refl _))
  replace HR2 := Lib.hid (HR2.out.later bel (Nat.le_refl _))
  replace HA3 := Lib.hid (HA3.out.later bel (Nat.le_refl _))
  replace HR4 := Lib.hid (HR4.out.later bel (Nat.le_refl _))
  replace HR5 := Lib.hid (HR5.out.later bel (Nat.le_refl _))
  replace HX := Lib.hid (HX.out.later bel (Nat.le_refl _))
  replace RH := Lib.hid (RH.out.later bel (Nat.le_refl _))
  replace RU := Lib.hid (RU.out.later bel (Nat.le_refl _))
  replace Rs1 := Lib.hid (Rs1.out.later bel (Nat.le_refl _))
  replace Ps1 := Lib.hid (Ps1.out.later bel (Nat.le_refl _))
  replace HBS := Lib.hid (HBS.out.later bel (Nat.le_refl _))
  replace Rs2 := Lib.hid (Rs2.out.later bel (Nat.le_refl _))
  replace Ps2 := Lib.hid (Ps2.out.later bel (Nat.le_refl _))
  replace HBV := Lib.hid (HBV.out.later bel (Nat.le_refl _))
  replace Rm1 := Lib.hid (Rm1.out.later bel (Nat.le_refl _))
  replace Pm1 := Lib.hid (Pm1.out.later bel (Nat.le_refl _))
  replace HBM := Lib.hid (HBM.out.later bel (Nat.le_refl _))
  replace HB := Lib.hid (HB.out.trans (bel.mono (by rw [← HGG.out]; exact HB.out.size)))
  have Rm2 := Lib.hid hm1
  have Pm2 := Lib.hid hp1
  clear hm1 hp1 Q
  clear bel
  clear t0 t1
  clear k0 k1 k2
  clear o0 o1
  clear x0 x1
  go_upto_region 11 with fail
  have bel := (Below.refl w14.heap.size w14).alloc (Nat.le_refl _) (.cells #[.slice Am2 mo.length cm2, .slice Bm2 mp.length dm2] 25)
  have HBW := Lib.hid (Holds.new w14 25 #[.slice Am2 mo.length cm2, .slice Bm2 mp.length dm2] w14.heap.size rfl)
  generalize w14.alloc (.cells #[.slice Am2 mo.length cm2, .slice Bm2 mp.length dm2] 25) = w15 at bel HBW ⊢
  replace HG := Lib.hid (HG.out.later bel (Nat.le_refl _))
  replace HT := Lib.hid (HT.out.later bel (Nat.le_refl _))
  replace HK := Lib.hid (HK.out.later bel (Nat.le_refl _))
  replace HO := Lib.hid (HO.out.later bel (Nat.le_refl _))
  replace HR := Lib.hid (HR.out.later bel (Nat.le_refl _))
  replace HR2 := Lib.hid (HR2.out.later bel (Nat.le_refl _))
  replace HA3 := Lib.hid (HA3.out.later bel (Nat.le_refl _))
  replace HR4 := Lib.hid (HR4.out.later bel (Nat.le_refl _))
  replace HR5 := Lib.hid (HR5.out.later bel (Nat.le_refl _))
  replace HX := Lib.hid (HX.out.later bel (Nat.le_refl _))
  replace RH := Lib.hid (RH.out.later bel (Nat.le_refl _))
  replace RU := Lib.hid (RU.out.later bel (Nat.le_refl _))
  replace Rs1 := Lib.hid (Rs1.out.later bel (Nat.le_refl _))
  replace Ps1 := Lib.hid (Ps1.out.later bel (Nat.le_refl _))
  replace HBS := Lib.hid (HBS.out.later bel (Nat.le_refl _))
  replace Rs2 := Lib.hid (Rs2.out.later bel (Nat.le_refl _))
  replace Ps2 := Lib.hid (Ps2.out.later bel (Nat.le_refl _))
  replace HBV := Lib.hid (HBV.out.later bel (Nat.le_refl _))
  replace Rm1 := Lib.hid (Rm1.out.later bel (Nat.le_refl _))
  replace Pm1 := Lib.hid (Pm1.out.later bel (Nat.le_refl _))
  replace HBM := Lib.hid (HBM.out.later bel (Nat.le_refl _))
  replace Rm2 := Lib.hid (Rm2.out.later bel (Nat.le_refl _))
  replace Pm2 := Lib.hid (Pm2.out.later bel (Nat.le_refl _))
  replace HB := Lib.hid (HB.out.trans (bel.mono (by rw [← HGG.out]; exact HB.out.size)))
  clear bel
  have t0 := HT.out.cell 0
  have t1 := HT.out.cell 1
  simp at t0 t1
  have k0 := HK.out.cell 0
  have k1 := HK.out.cell 1
  have k2 := HK.out.cell 2
  simp at k0 k1 k2
  have o0 := HO.out.cell 0
  have o1 := HO.out.cell 1
  simp at o0 o1
  have s0 := HBS.out.cell 0
  have s1 := HBS.out.cell 1
  simp at s0 s1
  have z0 := HBV.out.cell 0
  have z1 := HBV.out.cell 1
  simp at z0 z1
  have m0 := HBM.out.cell 0
  have m1 := HBM.out.cell 1
  simp at m0 m1
  have q0 := HBW.out.cell 0
  have q1 := HBW.out.cell 1
  simp at q0 q1
  clear t0 t1
  clear k0 k1 k2
  clear o0 o1
  clear s0 s1
  clear z0 z1
  clear m0 m1
  clear q0 q1
  clear HC1 HH1 HH2 HS1 HS2 HM1 HM2
  cases bc with
  | true =>
    rw [show errIf true = .nilIface from rfl]
    refine wp_region_below (is ?c0 :: is ?c1 :: is ?c2 :: is ?c3 :: is ?c4 :: is ?c5 :: is ?c6 :: is (.bool true) :: is ?c8 :: is ?c9 :: is ?c10 :: is ?c11 :: is ?c12 :: is (undef) :: is (undef) :: is (undef) :: is ?c16 :: is ?c17 :: is ?c18 :: is ?c19 :: is ?c20 :: is (.bool true) :: is ?c22 :: is ?c23 :: is ?c24 :: is (.int .i64 (kh : Nat)) :: is ?c26 :: is (.bool true) :: is ?c28 :: is ?c29 :: is ?c30 :: is ?c31 :: is (.bool true) :: is ?c33 :: is ?c34 :: is ?c35 :: is (.int .i64 (ks : Nat)) :: is ?c37 :: is (.bool true) :: is ?c39 :: is ?c40 :: is ?c41 :: is ?c42 :: is (.bool true) :: is ?c44 :: is ?c45 :: is ?c46 :: is (.int .i64 (km : Nat)) :: is ?c48 :: is (.bool true) :: is ?c50 :: is ?c51 :: is (.bool true) :: is ?c53 :: is ?c54 :: [])
      [⟨[], [8], none⟩, ⟨[(97, 0)], [], none⟩, ⟨[], [3], none⟩, ⟨[], [5], none⟩, ⟨[(100, 3)], [], none⟩, ⟨[], [5], none⟩, ⟨[(102, 5)], [], none⟩, ⟨[(99, 2), (101, 4), (103, 6)], [], none⟩, ⟨[(98, 1), (104, 7)], [], none⟩, ⟨[(105, 8)], [], none⟩, ⟨[(106, 9)], [8], some (106, true)⟩, ⟨[(107, 10), (106, 9)], [], some (106, true)⟩, ⟨[(108, 11), (106, 9)], [], some (106, true)⟩, ⟨[(109, 12)], [8], some (109, false)⟩, ⟨[(110, 13), (109, 12)], [], some (109, false)⟩, ⟨[(111, 14), (109, 12)], [], some (109, false)⟩, ⟨[(109, 12), (112, 15), (106, 9)], [], some (106, true)⟩, ⟨[(106, 9), (113, 16)], [], none⟩, ⟨[(114, 17)], [], none⟩, ⟨[(115, 18)], [9], some (115, true)⟩, ⟨[(115, 18)], [11], some (115, true)⟩, ⟨[(116, 19), (117, 20), (115, 18)], [], some (115, true)⟩, ⟨[(115, 18), (118, 21)], [], none⟩, ⟨[(119, 22)], [], none⟩, ⟨[(120, 23)], [10], some (120, true)⟩, ⟨[(121, 24), (120, 23)], [], some (120, true)⟩, ⟨[(120, 23)], [12], some (120, true)⟩, ⟨[(122, 25), (123, 26), (120, 23)], [], some (120, true)⟩, ⟨[(120, 23), (124, 27)], [], none⟩, ⟨[(125, 28)], [], none⟩, ⟨[(126, 29)], [13], some (126, true)⟩, ⟨[(126, 29)], [15], some (126, true)⟩, ⟨[(127, 30), (128, 31), (126, 29)], [], some (126, true)⟩, ⟨[(126, 29), (129, 32)], [], none⟩, ⟨[(130, 33)], [], none⟩, ⟨[(131, 34)], [14], some (131, true)⟩, ⟨[(132, 35), (131, 34)], [], some (131, true)⟩, ⟨[(131, 34)], [16], some (131, true)⟩, ⟨[(133, 36), (134, 37), (131, 34)], [], some (131, true)⟩, ⟨[(131, 34), (135, 38)], [], none⟩, ⟨[(136, 39)], [], none⟩, ⟨[(137, 40)], [17], some (137, true)⟩, ⟨[(137, 40)], [19], some (137, true)⟩, ⟨[(138, 41), (139, 42), (137, 40)], [], some (137, true)⟩, ⟨[(137, 40), (140, 43)], [], none⟩, ⟨[(141, 44)], [], none⟩, ⟨[(142, 45)], [18], some (142, true)⟩, ⟨[(143, 46), (142, 45)], [], some (142, true)⟩, ⟨[(142, 45)], [20], some (142, true)⟩, ⟨[(144, 47), (145, 48), (142, 45)], [], some (142, true)⟩, ⟨[(142, 45), (146, 49)], [], none⟩, ⟨[(147, 50)], [], none⟩, ⟨[(148, 51)], [], some (148, true)⟩, ⟨[(148, 51), (149, 52)], [], none⟩, ⟨[(150, 53)], [], none⟩] (by kernel_rfl) (by kernel_rfl) (by kernel_rfl) (by kernel_rfl) (by kernel_rfl) ?monoc ?stepsc ?finc
    case monoc => exact ⟨mono_eq _, mono_eq _, mono_eq _, mono_eq _, mono_eq _, mono_eq _, mono_eq _, mono_eq _, mono_eq _, mono_eq _, mono_eq _, mono_eq _, mono_eq _, mono_eq _, mono_eq _, mono_eq _, mono_eq _, mono_eq _, mono_eq _, mono_eq _, mono_eq _, mono_eq _, mono_eq _, mono_eq _, mono_eq _, mono_eq _, mono_eq _, mono_eq _, mono_eq _, mono_eq _, mono_eq _, mono_eq _, mono_eq _, mono_eq _, mono_eq _, mono_eq _, mono_eq _, mono_eq _, mono_eq _, mono_eq _, mono_eq _, mono_eq _, mono_eq _, mono_eq _, mono_eq _, mono_eq _, mono_eq _, mono_eq _, mono_eq _, mono_eq _, mono_eq _, mono_eq _, mono_eq _, mono_eq _, mono_eq _, trivial⟩
    case stepsc =>
      refine ⟨fun ρ W ⟨hcst, hglb, hfun⟩ hX hp ho => ?_, ?_⟩ -- 0: slot 97 := Op.move t8
      · obtain ⟨o8, -⟩ := ho
        change ρ (.tmp 8) = _ at o8
        refine turn_plain (ok_is ?_ rfl)
        simp only [execOp, o8]; go_simp; try exact rfl
      refine ⟨fun ρ W ⟨hcst, hglb, hfun⟩ hX hp ho => ?_, ?_⟩ -- 1: slot 98 := Op.binOp BinOp.eql 35 t97 (const Value.nilIface) 35
      · obtain ⟨p97, -⟩ := hp
        change ρ (.tmp 97) = _ at p97
        refine turn_plain (ok_is ?_ rfl)
        simp only [execOp, hcst, p97]; go_simp; try exact rfl
      refine ⟨fun ρ W ⟨hcst, hglb, hfun⟩ hX hp ho => ?_, ?_⟩ -- 2: slot 99 := Op.load 25 t3
      · obtain ⟨o3, -⟩ := ho
        change ρ (.tmp 3) = _ at o3
        have q0 := (HT.out.later ((Below.refl _ _).drew.trans hX) (Nat.le_refl _)).cell 0
        simp at q0
        have q1 := (HT.out.later ((Below.refl _ _).drew.trans hX) (Nat.le_refl _)).cell 1
        simp at q1
        refine turn_plain (ok_is ?_ rfl)
        simp only [execOp, o3]; go_simp; try exact rfl
      refine ⟨fun ρ W ⟨hcst, hglb, hfun⟩ hX hp ho => ?_, ?_⟩ -- 3: slot 100 := Op.indexAddr 29 t5 (const (0:i64))
      · obtain ⟨o5, -⟩ := ho
        change ρ (.tmp 5) = _ at o5
        refine turn_plain (ok_is ?_ rfl)
        simp only [execOp, hcst, o5]; go_simp; try exact rfl
      refine ⟨fun ρ W ⟨hcst, hglb, hfun⟩ hX hp ho => ?_, ?_⟩ -- 4: slot 101 := Op.load 3 t100
      · obtain ⟨p100, -⟩ := hp
        change ρ (.tmp 100) = _ at p100
        have q0 := (HO.out.later ((Below.refl _ _).drew.trans hX) (Nat.le_refl _)).cell 0
        simp at q0
        refine turn_plain (ok_is ?_ rfl)
        simp only [execOp, p100]; go_simp; try exact rfl
      refine ⟨fun ρ W ⟨hcst, hglb, hfun⟩ hX hp ho => ?_, ?_⟩ -- 5: slot 102 := Op.indexAddr 29 t5 (const (1:i64))
      · obtain ⟨o5, -⟩ := ho
        change ρ (.tmp 5) = _ at o5
        refine turn_plain (ok_is ?_ rfl)
        simp only [execOp, hcst, o5]; go_simp; try exact rfl
      refine ⟨fun ρ W ⟨hcst, hglb, hfun⟩ hX hp ho => ?_, ?_⟩ -- 6: slot 103 := Op.load 3 t102
      · obtain ⟨p102, -⟩ := hp
        change ρ (.tmp 102) = _ at p102
        have q1 := (HO.out.later ((Below.refl _ _).drew.trans hX) (Nat.le_refl _)).cell 1
        simp at q1
        refine turn_plain (ok_is ?_ rfl)
        simp only [execOp, p102]; go_simp; try exact rfl
      refine ⟨fun ρ W ⟨hcst, hglb, hfun⟩ hX hp ho => ?_, ?_⟩ -- 7: slot 104 := Op.call { value (Operand.func 16), args := #[t99, t101, t103], argTypes := #[25, 3, 3] }
      · obtain ⟨p99, p101, p103, -⟩ := hp
        change ρ (.tmp 99) = _ at p99
        change ρ (.tmp 101) = _ at p101
        change ρ (.tmp 103) = _ at p103
        have hW := (Below.refl _ _).drew.trans hX
        refine turn_plain ?_
        have ce := @enter_of Tryd.prog 16 _ Tryd.func16 (by kernel_rfl) (by kernel_rfl)
        refine ok_call (op_call3 hfun ce (by exact rfl) p99 p101 p103) ?_
        refine (HC2.out A n c vs A2 n2 c2 vs2 W HL.out HL2.out (HR.out.later hW (Nat.le_refl _)) (HR2.out.later hW (Nat.le_refl _))).mono ?_
        rintro e W' ⟨rfl, bel⟩
        exact ⟨_, rfl, bel, rfl⟩
      refine ⟨fun ρ W ⟨hcst, hglb, hfun⟩ hX hp ho => ?_, ?_⟩ -- 8: slot 105 := Op.binOp BinOp.eql 4 t98 t104 4
      · obtain ⟨p98, p104, -⟩ := hp
        change ρ (.tmp 98) = _ at p98
        change ρ (.tmp 104) = _ at p104
        refine turn_plain (ok_is ?_ rfl)
        simp only [execOp, p98, p104]; go_simp; try exact rfl
      refine ⟨fun ρ W ⟨hcst, hglb, hfun⟩ hX hp ho => ?_, ?_⟩ -- 9: slot 106 := Op.move t105
      · obtain ⟨p105, -⟩ := hp
        change ρ (.tmp 105) = _ at p105
        refine turn_plain (ok_is ?_ rfl)
        simp only [execOp, p105]; go_simp; try exact rfl
      refine ⟨fun ρ W ⟨hcst, hglb, hfun⟩ hX hp ho => ?_, ?_⟩ -- 10: slot 107 := Op.move t8   [guarded: some (9, true)]
      · obtain ⟨p106, -⟩ := hp
        change ρ (.tmp 106) = _ at p106
        obtain ⟨o8, -⟩ := ho
        change ρ (.tmp 8) = _ at o8
        refine turn_yes p106 (ok_is ?_ rfl)
        simp only [execOp, o8]; go_simp; try exact rfl
      refine ⟨fun ρ W ⟨hcst, hglb, hfun⟩ hX hp ho => ?_, ?_⟩ -- 11: slot 108 := Op.binOp BinOp.eql 35 t107 (const Value.nilIface) 35   [guarded: some (9, true)]
      · obtain ⟨p107, p106, -⟩ := hp
        change ρ (.tmp 107) = _ at p107
        change ρ (.tmp 106) = _ at p106
        refine turn_yes p106 (ok_is ?_ rfl)
        simp only [execOp, hcst, p107]; go_simp; try exact rfl
      refine ⟨fun ρ W ⟨hcst, hglb, hfun⟩ hX hp ho => ?_, ?_⟩ -- 12: slot 109 := Op.move t108   [guarded: some (9, true)]
      · obtain ⟨p108, p106, -⟩ := hp
        change ρ (.tmp 108) = _ at p108
        change ρ (.tmp 106) = _ at p106
        refine turn_yes p106 (ok_is ?_ rfl)
        simp only [execOp, p108]; go_simp; try exact rfl
      refine ⟨fun ρ W ⟨hcst, hglb, hfun⟩ hX hp ho => ?_, ?_⟩ -- 13: slot 110 := Op.move t8   [guarded: some (12, false)]
      · obtain ⟨p109, -⟩ := hp
        change ρ (.tmp 109) = _ at p109
        obtain ⟨o8, -⟩ := ho
        change ρ (.tmp 8) = _ at o8
        exact turn_skip p109 (by decide) rfl
      refine ⟨fun ρ W ⟨hcst, hglb, hfun⟩ hX hp ho => ?_, ?_⟩ -- 14: slot 111 := Op.call { value (Operand.func 17), args := #[t110], argTypes := #[35] }   [guarded: some (
      · obtain ⟨p110, p109, -⟩ := hp
        change ρ (.tmp 110) = _ at p110
        change ρ (.tmp 109) = _ at p109
        exact turn_skip p109 (by decide) rfl
      refine ⟨fun ρ W ⟨hcst, hglb, hfun⟩ hX hp ho => ?_, ?_⟩ -- 15: slot 112 := Op.binOp BinOp.eql 3 t111 (const (1:i64)) 3   [guarded: some (12, false)]
      · obtain ⟨p111, p109, -⟩ := hp
        change ρ (.tmp 111) = _ at p111
        change ρ (.tmp 109) = _ at p109
        exact turn_skip p109 (by decide) rfl
      refine ⟨fun ρ W ⟨hcst, hglb, hfun⟩ hX hp ho => ?_, ?_⟩ -- 16: slot 113 := Op.pick t109 (const (Value.bool true)) t112   [guarded: some (9, true)]
      · obtain ⟨p109, p112, p106, -⟩ := hp
        change ρ (.tmp 109) = _ at p109
        change ρ (.tmp 112) = _ at p112
        change ρ (.tmp 106) = _ at p106
        refine turn_yes p106 (ok_is ?_ rfl)
        simp only [execOp, hcst, p109, p112]; go_simp; try exact rfl
      refine ⟨fun ρ W ⟨hcst, hglb, hfun⟩ hX hp ho => ?_, ?_⟩ -- 17: slot 114 := Op.pick t106 t113 (const (Value.bool false))
      · obtain ⟨p106, p113, -⟩ := hp
        change ρ (.tmp 106) = _ at p106
        change ρ (.tmp 113) = _ at p113
        refine turn_plain (ok_is ?_ rfl)
        simp only [execOp, hcst, p106, p113]; go_simp; try exact rfl
      refine ⟨fun ρ W ⟨hcst, hglb, hfun⟩ hX hp ho => ?_, ?_⟩ -- 18: slot 115 := Op.move t114
      · obtain ⟨p114, -⟩ := hp
        change ρ (.tmp 114) = _ at p114
        refine turn_plain (ok_is ?_ rfl)
        simp only [execOp, p114]; go_simp; try exact rfl
      refine ⟨fun ρ W ⟨hcst, hglb, hfun⟩ hX hp ho => ?_, ?_⟩ -- 19: slot 116 := Op.move t9   [guarded: some (18, true)]
      · obtain ⟨p115, -⟩ := hp
        change ρ (.tmp 115) = _ at p115
        obtain ⟨o9, -⟩ := ho
        change ρ (.tmp 9) = _ at o9
        refine turn_yes p115 (ok_is ?_ rfl)
        simp only [execOp, o9]; go_simp; try exact rfl
      refine ⟨fun ρ W ⟨hcst, hglb, hfun⟩ hX hp ho => ?_, ?_⟩ -- 20: slot 117 := Op.move t11   [guarded: some (18, true)]
      · obtain ⟨p115, -⟩ := hp
        change ρ (.tmp 115) = _ at p115
        obtain ⟨o11, -⟩ := ho
        change ρ (.tmp 11) = _ at o11
        refine turn_yes p115 (ok_is ?_ rfl)
        simp only [execOp, o11]; go_simp; try exact rfl
      refine ⟨fun ρ W ⟨hcst, hglb, hfun⟩ hX hp ho => ?_, ?_⟩ -- 21: slot 118 := Op.call { value (Operand.func 18), args := #[t116, t117], argTypes := #[22, 22] }   [guard
      · obtain ⟨p116, p117, p115, -⟩ := hp
        change ρ (.tmp 116) = _ at p116
        change ρ (.tmp 117) = _ at p117
        change ρ (.tmp 115) = _ at p115
        have hW := (Below.refl _ _).drew.trans hX
        refine turn_yes p115 ?_
        have ce := @enter_of Tryd.prog 18 _ Tryd.func18 (by kernel_rfl) (by kernel_rfl)
        refine ok_call (op_call2 hfun ce (by exact rfl) p116 p117) ?_
        refine (rows_yes (lrows_any Ah LH.length ch vh Au LH.length cu vu LH LH W rfl (by omega) (RH.out.later hW (Nat.le_refl _)) rfl (by omega) (RU.out.later hW (Nat.le_refl _))) rfl).mono ?_
        rintro e W' ⟨rfl, bel⟩
        exact ⟨_, rfl, bel, rfl⟩
      refine ⟨fun ρ W ⟨hcst, hglb, hfun⟩ hX hp ho => ?_, ?_⟩ -- 22: slot 119 := Op.pick t115 t118 (const (Value.bool false))
      · obtain ⟨p115, p118, -⟩ := hp
        change ρ (.tmp 115) = _ at p115
        change ρ (.tmp 118) = _ at p118
        refine turn_plain (ok_is ?_ rfl)
        simp only [execOp, hcst, p115, p118]; go_simp; try exact rfl
      refine ⟨fun ρ W ⟨hcst, hglb, hfun⟩ hX hp ho => ?_, ?_⟩ -- 23: slot 120 := Op.move t119
      · obtain ⟨p119, -⟩ := hp
        change ρ (.tmp 119) = _ at p119
        refine turn_plain (ok_is ?_ rfl)
        simp only [execOp, p119]; go_simp; try exact rfl
      refine ⟨fun ρ W ⟨hcst, hglb, hfun⟩ hX hp ho => ?_, ?_⟩ -- 24: slot 121 := Op.move t10   [guarded: some (23, true)]
      · obtain ⟨p120, -⟩ := hp
        change ρ (.tmp 120) = _ at p120
        obtain ⟨o10, -⟩ := ho
        change ρ (.tmp 10) = _ at o10
        refine turn_yes p120 (ok_is ?_ rfl)
        simp only [execOp, o10]; go_simp; try exact rfl
      refine ⟨fun ρ W ⟨hcst, hglb, hfun⟩ hX hp ho => ?_, ?_⟩ -- 25: slot 122 := Op.call { value (Operand.func 17), args := #[t121], argTypes := #[35] }   [guarded: some (
      · obtain ⟨p121, p120, -⟩ := hp
        change ρ (.tmp 121) = _ at p121
        change ρ (.tmp 120) = _ at p120
        have hW := (Below.refl _ _).drew.trans hX
        refine turn_yes p120 ?_
        have ce := @enter_of Tryd.prog 17 _ Tryd.func17 (by kernel_rfl) (by kernel_rfl)
        refine ok_call (op_call1 hfun ce (by exact rfl) p121) ?_
        refine (num37_v kh W (HG.out.later hW (Nat.le_refl _))).mono ?_
        rintro e W' ⟨rfl, bel⟩
        exact ⟨_, rfl, bel, rfl⟩
      refine ⟨fun ρ W ⟨hcst, hglb, hfun⟩ hX hp ho => ?_, ?_⟩ -- 26: slot 123 := Op.move t12   [guarded: some (23, true)]
      · obtain ⟨p120, -⟩ := hp
        change ρ (.tmp 120) = _ at p120
        obtain ⟨o12, -⟩ := ho
        change ρ (.tmp 12) = _ at o12
        refine turn_yes p120 (ok_is ?_ rfl)
        simp only [execOp, o12]; go_simp; try exact rfl
      refine ⟨fun ρ W ⟨hcst, hglb, hfun⟩ hX hp ho => ?_, ?_⟩ -- 27: slot 124 := Op.binOp BinOp.eql 3 t122 t123 3   [guarded: some (23, true)]
      · obtain ⟨p122, p123, p120, -⟩ := hp
        change ρ (.tmp 122) = _ at p122
        change ρ (.tmp 123) = _ at p123
        change ρ (.tmp 120) = _ at p120
        have hW := (Below.refl _ _).drew.trans hX
        refine turn_yes p120 ?_
        exact ok_val (v := .bool true) (W' := W) (by simp only [execOp, p122, p123, p120]; go_simp) (Below.refl _ _) rfl
      refine ⟨fun ρ W ⟨hcst, hglb, hfun⟩ hX hp ho => ?_, ?_⟩ -- 28: slot 125 := Op.pick t120 t124 (const (Value.bool false))
      · obtain ⟨p120, p124, -⟩ := hp
        change ρ (.tmp 120) = _ at p120
        change ρ (.tmp 124) = _ at p124
        refine turn_plain (ok_is ?_ rfl)
        simp only [execOp, hcst, p120, p124]; go_simp; try exact rfl
      refine ⟨fun ρ W ⟨hcst, hglb, hfun⟩ hX hp ho => ?_, ?_⟩ -- 29: slot 126 := Op.move t125
      · obtain ⟨p125, -⟩ := hp
        change ρ (.tmp 125) = _ at p125
        refine turn_plain (ok_is ?_ rfl)
        simp only [execOp, p125]; go_simp; try exact rfl
      refine ⟨fun ρ W ⟨hcst, hglb, hfun⟩ hX hp ho => ?_, ?_⟩ -- 30: slot 127 := Op.load 32 t13   [guarded: some (29, true)]
      · obtain ⟨p126, -⟩ := hp
        change ρ (.tmp 126) = _ at p126
        obtain ⟨o13, -⟩ := ho
        change ρ (.tmp 13) = _ at o13
        have q0 := (HBS.out.later ((Below.refl _ _).drew.trans hX) (Nat.le_refl _)).cell 0
        simp at q0
        have q1 := (HBS.out.later ((Below.refl _ _).drew.trans hX) (Nat.le_refl _)).cell 1
        simp at q1
        refine turn_yes p126 (ok_is ?_ rfl)
        simp only [execOp, o13]; go_simp; try exact rfl
      refine ⟨fun ρ W ⟨hcst, hglb, hfun⟩ hX hp ho => ?_, ?_⟩ -- 31: slot 128 := Op.load 25 t15   [guarded: some (29, true)]
      · obtain ⟨p126, -⟩ := hp
        change ρ (.tmp 126) = _ at p126
        obtain ⟨o15, -⟩ := ho
        change ρ (.tmp 15) = _ at o15
        have q0 := (HBV.out.later ((Below.refl _ _).drew.trans hX) (Nat.le_refl _)).cell 0
        simp at q0
        have q1 := (HBV.out.later ((Below.refl _ _).drew.trans hX) (Nat.le_refl _)).cell 1
        simp at q1
        refine turn_yes p126 (ok_is ?_ rfl)
        simp only [execOp, o15]; go_simp; try exact rfl
      refine ⟨fun ρ W ⟨hcst, hglb, hfun⟩ hX hp ho => ?_, ?_⟩ -- 32: slot 129 := Op.call { value (Operand.func 19), args := #[t127, t128], argTypes := #[32, 25] }   [guard
      · obtain ⟨p127, p128, p126, -⟩ := hp
        change ρ (.tmp 127) = _ at p127
        change ρ (.tmp 128) = _ at p128
        change ρ (.tmp 126) = _ at p126
        have hW := (Below.refl _ _).drew.trans hX
        refine turn_yes p126 ?_
        have ce := @enter_of Tryd.prog 19 _ Tryd.func19 (by kernel_rfl) (by kernel_rfl)
        refine ok_call (op_call2 hfun ce (by exact rfl) p127 p128) ?_
        refine (rows_yes (ltabs_any As1 so.length cs1 vs1 so Bs1 sp.length ds1 ys1 sp As2 so.length cs2 vs2q so Bs2 sp.length ds2 ys2 sp W rfl (by omega) (Rs1.out.later hW (Nat.le_refl _)) rfl (by omega) (Ps1.out.later hW (Nat.le_refl _)) rfl (by omega) (Rs2.out.later hW (Nat.le_refl _)) rfl (by omega) (Ps2.out.later hW (Nat.le_refl _))) ⟨rfl, rfl⟩).mono ?_
        rintro e W' ⟨rfl, bel⟩
        exact ⟨_, rfl, bel, rfl⟩
      refine ⟨fun ρ W ⟨hcst, hglb, hfun⟩ hX hp ho => ?_, ?_⟩ -- 33: slot 130 := Op.pick t126 t129 (const (Value.bool false))
      · obtain ⟨p126, p129, -⟩ := hp
        change ρ (.tmp 126) = _ at p126
        change ρ (.tmp 129) = _ at p129
        refine turn_plain (ok_is ?_ rfl)
        simp only [execOp, hcst, p126, p129]; go_simp; try exact rfl
      refine ⟨fun ρ W ⟨hcst, hglb, hfun⟩ hX hp ho => ?_, ?_⟩ -- 34: slot 131 := Op.move t130
      · obtain ⟨p130, -⟩ := hp
        change ρ (.tmp 130) = _ at p130
        refine turn_plain (ok_is ?_ rfl)
        simp only [execOp, p130]; go_simp; try exact rfl
      refine ⟨fun ρ W ⟨hcst, hglb, hfun⟩ hX hp ho => ?_, ?_⟩ -- 35: slot 132 := Op.move t14   [guarded: some (34, true)]
      · obtain ⟨p131, -⟩ := hp
        change ρ (.tmp 131) = _ at p131
        obtain ⟨o14, -⟩ := ho
        change ρ (.tmp 14) = _ at o14
        refine turn_yes p131 (ok_is ?_ rfl)
        simp only [execOp, o14]; go_simp; try exact rfl
      refine ⟨fun ρ W ⟨hcst, hglb, hfun⟩ hX hp ho => ?_, ?_⟩ -- 36: slot 133 := Op.call { value (Operand.func 17), args := #[t132], argTypes := #[35] }   [guarded: some (
      · obtain ⟨p132, p131, -⟩ := hp
        change ρ (.tmp 132) = _ at p132
        change ρ (.tmp 131) = _ at p131
        have hW := (Below.refl _ _).drew.trans hX
        refine turn_yes p131 ?_
        have ce := @enter_of Tryd.prog 17 _ Tryd.func17 (by kernel_rfl) (by kernel_rfl)
        refine ok_call (op_call1 hfun ce (by exact rfl) p132) ?_
        refine (num37_v ks W (HG.out.later hW (Nat.le_refl _))).mono ?_
        rintro e W' ⟨rfl, bel⟩
        exact ⟨_, rfl, bel, rfl⟩
      refine ⟨fun ρ W ⟨hcst, hglb, hfun⟩ hX hp ho => ?_, ?_⟩ -- 37: slot 134 := Op.move t16   [guarded: some (34, true)]
      · obtain ⟨p131, -⟩ := hp
        change ρ (.tmp 131) = _ at p131
        obtain ⟨o16, -⟩ := ho
        change ρ (.tmp 16) = _ at o16
        refine turn_yes p131 (ok_is ?_ rfl)
        simp only [execOp, o16]; go_simp; try exact rfl
      refine ⟨fun ρ W ⟨hcst, hglb, hfun⟩ hX hp ho => ?_, ?_⟩ -- 38: slot 135 := Op.binOp BinOp.eql 3 t133 t134 3   [guarded: some (34, true)]
      · obtain ⟨p133, p134, p131, -⟩ := hp
        change ρ (.tmp 133) = _ at p133
        change ρ (.tmp 134) = _ at p134
        change ρ (.tmp 131) = _ at p131
        have hW := (Below.refl _ _).drew.trans hX
        refine turn_yes p131 ?_
        exact ok_val (v := .bool true) (W' := W) (by simp only [execOp, p133, p134, p131]; go_simp) (Below.refl _ _) rfl
      refine ⟨fun ρ W ⟨hcst, hglb, hfun⟩ hX hp ho => ?_, ?_⟩ -- 39: slot 136 := Op.pick t131 t135 (const (Value.bool false))
      · obtain ⟨p131, p135, -⟩ := hp
        change ρ (.tmp 131) = _ at p131
        change ρ (.tmp 135) = _ at p135
        refine turn_plain (ok_is ?_ rfl)
        simp only [execOp, hcst, p131, p135]; go_simp; try exact rfl
      refine ⟨fun ρ W ⟨hcst, hglb, hfun⟩ hX hp ho => ?_, ?_⟩ -- 40: slot 137 := Op.move t136
      · obtain ⟨p136, -⟩ := hp
        change ρ (.tmp 136) = _ at p136
        refine turn_plain (ok_is ?_ rfl)
        simp only [execOp, p136]; go_simp; try exact rfl
      refine ⟨fun ρ W ⟨hcst, hglb, hfun⟩ hX hp ho => ?_, ?_⟩ -- 41: slot 138 := Op.load 32 t17   [guarded: some (40, true)]
      · obtain ⟨p137, -⟩ := hp
        change ρ (.tmp 137) = _ at p137
        obtain ⟨o17, -⟩ := ho
        change ρ (.tmp 17) = _ at o17
        have q0 := (HBM.out.later ((Below.refl _ _).drew.trans hX) (Nat.le_refl _)).cell 0
        simp at q0
        have q1 := (HBM.out.later ((Below.refl _ _).drew.trans hX) (Nat.le_refl _)).cell 1
        simp at q1
        refine turn_yes p137 (ok_is ?_ rfl)
        simp only [execOp, o17]; go_simp; try exact rfl
      refine ⟨fun ρ W ⟨hcst, hglb, hfun⟩ hX hp ho => ?_, ?_⟩ -- 42: slot 139 := Op.load 25 t19   [guarded: some (40, true)]
      · obtain ⟨p137, -⟩ := hp
        change ρ (.tmp 137) = _ at p137
        obtain ⟨o19, -⟩ := ho
        change ρ (.tmp 19) = _ at o19
        have q0 := (HBW.out.later ((Below.refl _ _).drew.trans hX) (Nat.le_refl _)).cell 0
        simp at q0
        have q1 := (HBW.out.later ((Below.refl _ _).drew.trans hX) (Nat.le_refl _)).cell 1
        simp at q1
        refine turn_yes p137 (ok_is ?_ rfl)
        simp only [execOp, o19]; go_simp; try exact rfl
      refine ⟨fun ρ W ⟨hcst, hglb, hfun⟩ hX hp ho => ?_, ?_⟩ -- 43: slot 140 := Op.call { value (Operand.func 19), args := #[t138, t139], argTypes := #[32, 25] }   [guard
      · obtain ⟨p138, p139, p137, -⟩ := hp
        change ρ (.tmp 138) = _ at p138
        change ρ (.tmp 139) = _ at p139
        change ρ (.tmp 137) = _ at p137
        have hW := (Below.refl _ _).drew.trans hX
        refine turn_yes p137 ?_
        have ce := @enter_of Tryd.prog 19 _ Tryd.func19 (by kernel_rfl) (by kernel_rfl)
        refine ok_call (op_call2 hfun ce (by exact rfl) p138 p139) ?_
        refine (rows_yes (ltabs_any Am1 mo.length cm1 vm1 mo Bm1 mp.length dm1 ym1 mp Am2 mo.length cm2 vm2 mo Bm2 mp.length dm2 ym2 mp W rfl (by omega) (Rm1.out.later hW (Nat.le_refl _)) rfl (by omega) (Pm1.out.later hW (Nat.le_refl _)) rfl (by omega) (Rm2.out.later hW (Nat.le_refl _)) rfl (by omega) (Pm2.out.later hW (Nat.le_refl _))) ⟨rfl, rfl⟩).mono ?_
        rintro e W' ⟨rfl, bel⟩
        exact ⟨_, rfl, bel, rfl⟩
      refine ⟨fun ρ W ⟨hcst, hglb, hfun⟩ hX hp ho => ?_, ?_⟩ -- 44: slot 141 := Op.pick t137 t140 (const (Value.bool false))
      · obtain ⟨p137, p140, -⟩ := hp
        change ρ (.tmp 137) = _ at p137
        change ρ (.tmp 140) = _ at p140
        refine turn_plain (ok_is ?_ rfl)
        simp only [execOp, hcst, p137, p140]; go_simp; try exact rfl
      refine ⟨fun ρ W ⟨hcst, hglb, hfun⟩ hX hp ho => ?_, ?_⟩ -- 45: slot 142 := Op.move t141
      · obtain ⟨p141, -⟩ := hp
        change ρ (.tmp 141) = _ at p141
        refine turn_plain (ok_is ?_ rfl)
        simp only [execOp, p141]; go_simp; try exact rfl
      refine ⟨fun ρ W ⟨hcst, hglb, hfun⟩ hX hp ho => ?_, ?_⟩ -- 46: slot 143 := Op.move t18   [guarded: some (45, true)]
      · obtain ⟨p142, -⟩ := hp
        change ρ (.tmp 142) = _ at p142
        obtain ⟨o18, -⟩ := ho
        change ρ (.tmp 18) = _ at o18
        refine turn_yes p142 (ok_is ?_ rfl)
        simp only [execOp, o18]; go_simp; try exact rfl
      refine ⟨fun ρ W ⟨hcst, hglb, hfun⟩ hX hp ho => ?_, ?_⟩ -- 47: slot 144 := Op.call { value (Operand.func 17), args := #[t143], argTypes := #[35] }   [guarded: some (
      · obtain ⟨p143, p142, -⟩ := hp
        change ρ (.tmp 143) = _ at p143
        change ρ (.tmp 142) = _ at p142
        have hW := (Below.refl _ _).drew.trans hX
        refine turn_yes p142 ?_
        have ce := @enter_of Tryd.prog 17 _ Tryd.func17 (by kernel_rfl) (by kernel_rfl)
        refine ok_call (op_call1 hfun ce (by exact rfl) p143) ?_
        refine (num37_v km W (HG.out.later hW (Nat.le_refl _))).mono ?_
        rintro e W' ⟨rfl, bel⟩
        exact ⟨_, rfl, bel, rfl⟩
      refine ⟨fun ρ W ⟨hcst, hglb, hfun⟩ hX hp ho => ?_, ?_⟩ -- 48: slot 145 := Op.move t20   [guarded: some (45, true)]
      · obtain ⟨p142, -⟩ := hp
        change ρ (.tmp 142) = _ at p142
        obtain ⟨o20, -⟩ := ho
        change ρ (.tmp 20) = _ at o20
        refine turn_yes p142 (ok_is ?_ rfl)
        simp only [execOp, o20]; go_simp; try exact rfl
      refine ⟨fun ρ W ⟨hcst, hglb, hfun⟩ hX hp ho => ?_, ?_⟩ -- 49: slot 146 := Op.binOp BinOp.eql 3 t144 t145 3   [guarded: some (45, true)]
      · obtain ⟨p144, p145, p142, -⟩ := hp
        change ρ (.tmp 144) = _ at p144
        change ρ (.tmp 145) = _ at p145
        change ρ (.tmp 142) = _ at p142
        have hW := (Below.refl _ _).drew.trans hX
        refine turn_yes p142 ?_
        exact ok_val (v := .bool true) (W' := W) (by simp only [execOp, p144, p145, p142]; go_simp) (Below.refl _ _) rfl
      refine ⟨fun ρ W ⟨hcst, hglb, hfun⟩ hX hp ho => ?_, ?_⟩ -- 50: slot 147 := Op.pick t142 t146 (const (Value.bool false))
      · obtain ⟨p142, p146, -⟩ := hp
        change ρ (.tmp 142) = _ at p142
        change ρ (.tmp 146) = _ at p146
        refine turn_plain (ok_is ?_ rfl)
        simp only [execOp, hcst, p142, p146]; go_simp; try exact rfl
      refine ⟨fun ρ W ⟨hcst, hglb, hfun⟩ hX hp ho => ?_, ?_⟩ -- 51: slot 148 := Op.move t147
      · obtain ⟨p147, -⟩ := hp
        change ρ (.tmp 147) = _ at p147
        refine turn_plain (ok_is ?_ rfl)
        simp only [execOp, p147]; go_simp; try exact rfl
      refine ⟨fun ρ W ⟨hcst, hglb, hfun⟩ hX hp ho => ?_, ?_⟩ -- 52: slot 149 := Op.call { value (Operand.func 7), args := #[], argTypes := #[] }   [guarded: some (51, tru
      · obtain ⟨p148, -⟩ := hp
        change ρ (.tmp 148) = _ at p148
        have hW := (Below.refl _ _).drew.trans hX
        refine turn_yes p148 ?_
        have ce := @enter_of Tryd.prog 7 _ Tryd.func7 (by kernel_rfl) (by kernel_rfl)
        refine ok_call (op_call0 hfun ce (by exact rfl) ) ?_
        refine (sure37 W (HG.out.later hW (Nat.le_refl _))).mono ?_
        rintro e W' ⟨rfl, bel⟩
        exact ⟨_, rfl, bel, rfl⟩
      refine ⟨fun ρ W ⟨hcst, hglb, hfun⟩ hX hp ho => ?_, ?_⟩ -- 53: slot 150 := Op.pick t148 t149 (const (Value.bool false))
      · obtain ⟨p148, p149, -⟩ := hp
        change ρ (.tmp 148) = _ at p148
        change ρ (.tmp 149) = _ at p149
        refine turn_plain (ok_is ?_ rfl)
        simp only [execOp, hcst, p148, p149]; go_simp; try exact rfl
      refine ⟨fun ρ W ⟨hcst, hglb, hfun⟩ hX hp ho => ?_, ?_⟩ -- 54: slot 6 := Op.assign t150
      · obtain ⟨p150, -⟩ := hp
        change ρ (.tmp 150) = _ at p150
        refine turn_plain (ok_is ?_ rfl)
        simp only [execOp, p150]; go_simp; try exact rfl
      exact trivial
    case finc =>
      rintro v W hX ⟨f0, f1, f2, f3, f4, f5, f6, f7, f8, f9, f10, f11, f12, f13, f14, f15, f16, f17, f18, f19, f20, f21, f22, f23, f24, f25, f26, f27, f28, f29, f30, f31, f32, f33, f34, f35, f36, f37, f38, f39, f40, f41, f42, f43, f44, f45, f46, f47, f48, f49, f50, f51, f52, f53, f54, -⟩
      simp only [is] at f0 f1 f2 f3 f4 f5 f6 f7 f8 f9 f10 f11 f12 f13 f14 f15 f16 f17 f18 f19 f20 f21 f22 f23 f24 f25 f26 f27 f28 f29 f30 f31 f32 f33 f34 f35 f36 f37 f38 f39 f40 f41 f42 f43 f44 f45 f46 f47 f48 f49 f50 f51 f52 f53 f54
      simp only [putAll, Act.put, List.setIfInBounds_toArray, List.set_cons_succ, List.set_cons_zero, f0, f1, f2, f3, f4, f5, f6, f7, f8, f9, f10, f11, f12, f13, f14, f15, f16, f17, f18, f19, f20, f21, f22, f23, f24, f25, f26, f27, f28, f29, f30, f31, f32, f33, f34, f35, f36, f37, f38, f39, f40, f41, f42, f43, f44, f45, f46, f47, f48, f49, f50, f51, f52, f53, f54]
      clear f0 f1 f2 f3 f4 f5 f6 f7 f8 f9 f10 f11 f12 f13 f14 f15 f16 f17 f18 f19 f20 f21 f22 f23 f24 f25 f26 f27 f28 f29 f30 f31 f32 f33 f34 f35 f36 f37 f38 f39 f40 f41 f42 f43 f44 f45 f46 f47 f48 f49 f50 f51 f52 f53 f54
      go_wp2_with fail
      go_ret
      exact ⟨rfl, by rw [HGG.out]; exact HB.out.trans (hX.mono (by rw [← HGG.out]; exact HB.out.size))⟩
  | false =>
    rw [show errIf false = .iface 62 (.int .i64 1) from rfl]
    refine wp_region_below (is ?d0 :: is ?d1 :: is ?d2 :: is ?d3 :: is ?d4 :: is ?d5 :: is ?d6 :: is (.bool false) :: is ?d8 :: is ?d9 :: is ?d10 :: is ?d11 :: is ?d12 :: is ?d13 :: is (.int .i64 1) :: is ?d15 :: is ?d16 :: is ?d17 :: is ?d18 :: is ?d19 :: is ?d20 :: is (.bool true) :: is ?d22 :: is ?d23 :: is ?d24 :: is (.int .i64 (kh : Nat)) :: is ?d26 :: is (.bool true) :: is ?d28 :: is ?d29 :: is ?d30 :: is ?d31 :: is (.bool true) :: is ?d33 :: is ?d34 :: is ?d35 :: is (.int .i64 (ks : Nat)) :: is ?d37 :: is (.bool true) :: is ?d39 :: is ?d40 :: is ?d41 :: is ?d42 :: is (.bool true) :: is ?d44 :: is ?d45 :: is ?d46 :: is (.int .i64 (km : Nat)) :: is ?d48 :: is (.bool true) :: is ?d50 :: is ?d51 :: is (.bool true) :: is ?d53 :: is ?d54 :: [])
      [⟨[], [8], none⟩, ⟨[(97, 0)], [], none⟩, ⟨[], [3], none⟩, ⟨[], [5], none⟩, ⟨[(100, 3)], [], none⟩, ⟨[], [5], none⟩, ⟨[(102, 5)], [], none⟩, ⟨[(99, 2), (101, 4), (103, 6)], [], none⟩, ⟨[(98, 1), (104, 7)], [], none⟩, ⟨[(105, 8)], [], none⟩, ⟨[(106, 9)], [8], some (106, true)⟩, ⟨[(107, 10), (106, 9)], [], some (106, true)⟩, ⟨[(108, 11), (106, 9)], [], some (106, true)⟩, ⟨[(109, 12)], [8], some (109, false)⟩, ⟨[(110, 13), (109, 12)], [], some (109, false)⟩, ⟨[(111, 14), (109, 12)], [], some (109, false)⟩, ⟨[(109, 12), (112, 15), (106, 9)], [], some (106, true)⟩, ⟨[(106, 9), (113, 16)], [], none⟩, ⟨[(114, 17)], [], none⟩, ⟨[(115, 18)], [9], some (115, true)⟩, ⟨[(115, 18)], [11], some (115, true)⟩, ⟨[(116, 19), (117, 20), (115, 18)], [], some (115, true)⟩, ⟨[(115, 18), (118, 21)], [], none⟩, ⟨[(119, 22)], [], none⟩, ⟨[(120, 23)], [10], some (120, true)⟩, ⟨[(121, 24), (120, 23)], [], some (120, true)⟩, ⟨[(120, 23)], [12], some (120, true)⟩, ⟨[(122, 25), (123, 26), (120, 23)], [], some (120, true)⟩, ⟨[(120, 23), (124, 27)], [], none⟩, ⟨[(125, 28)], [], none⟩, ⟨[(126, 29)], [13], some (126, true)⟩, ⟨[(126, 29)], [15], some (126, true)⟩, ⟨[(127, 30), (128, 31), (126, 29)], [], some (126, true)⟩, ⟨[(126, 29), (129, 32)], [], none⟩, ⟨[(130, 33)], [], none⟩, ⟨[(131, 34)], [14], some (131, true)⟩, ⟨[(132, 35), (131, 34)], [], some (131, true)⟩, ⟨[(131, 34)], [16], some (131, true)⟩, ⟨[(133, 36), (134, 37), (131, 34)], [], some (131, true)⟩, ⟨[(131, 34), (135, 38)], [], none⟩, ⟨[(136, 39)], [], none⟩, ⟨[(137, 40)], [17], some (137, true)⟩, ⟨[(137, 40)], [19], some (137, true)⟩, ⟨[(138, 41), (139, 42), (137, 40)], [], some (137, true)⟩, ⟨[(137, 40), (140, 43)], [], none⟩, ⟨[(141, 44)], [], none⟩, ⟨[(142, 45)], [18], some (142, true)⟩, ⟨[(143, 46), (142, 45)], [], some (142, true)⟩, ⟨[(142, 45)], [20], some (142, true)⟩, ⟨[(144, 47), (145, 48), (142, 45)], [], some (142, true)⟩, ⟨[(142, 45), (146, 49)], [], none⟩, ⟨[(147, 50)], [], none⟩, ⟨[(148, 51)], [], some (148, true)⟩, ⟨[(148, 51), (149, 52)], [], none⟩, ⟨[(150, 53)], [], none⟩] (by kernel_rfl) (by kernel_rfl) (by kernel_rfl) (by kernel_rfl) (by kernel_rfl) ?monod ?stepsd ?find
    case monod => exact ⟨mono_eq _, mono_eq _, mono_eq _, mono_eq _, mono_eq _, mono_eq _, mono_eq _, mono_eq _, mono_eq _, mono_eq _, mono_eq _, mono_eq _, mono_eq _, mono_eq _, mono_eq _, mono_eq _, mono_eq _, mono_eq _, mono_eq _, mono_eq _, mono_eq _, mono_eq _, mono_eq _, mono_eq _, mono_eq _, mono_eq _, mono_eq _, mono_eq _, mono_eq _, mono_eq _, mono_eq _, mono_eq _, mono_eq _, mono_eq _, mono_eq _, mono_eq _, mono_eq _, mono_eq _, mono_eq _, mono_eq _, mono_eq _, mono_eq _, mono_eq _, mono_eq _, mono_eq _, mono_eq _, mono_eq _, mono_eq _, mono_eq _, mono_eq _, mono_eq _, mono_eq _, mono_eq _, mono_eq _, mono_eq _, trivial⟩
    case stepsd =>
      refine ⟨fun ρ W ⟨hcst, hglb, hfun⟩ hX hp ho => ?_, ?_⟩ -- 0: slot 97 := Op.move t8
      · obtain ⟨o8, -⟩ := ho
        change ρ (.tmp 8) = _ at o8
        refine turn_plain (ok_is ?_ rfl)
        simp only [execOp, o8]; go_simp; try exact rfl
      refine ⟨fun ρ W ⟨hcst, hglb, hfun⟩ hX hp ho => ?_, ?_⟩ -- 1: slot 98 := Op.binOp BinOp.eql 35 t97 (const Value.nilIface) 35
      · obtain ⟨p97, -⟩ := hp
        change ρ (.tmp 97) = _ at p97
        refine turn_plain (ok_is ?_ rfl)
        simp only [execOp, hcst, p97]; go_simp; try exact rfl
      refine ⟨fun ρ W ⟨hcst, hglb, hfun⟩ hX hp ho => ?_, ?_⟩ -- 2: slot 99 := Op.load 25 t3
      · obtain ⟨o3, -⟩ := ho
        change ρ (.tmp 3) = _ at o3
        have q0 := (HT.out.later ((Below.refl _ _).drew.trans hX) (Nat.le_refl _)).cell 0
        simp at q0
        have q1 := (HT.out.later ((Below.refl _ _).drew.trans hX) (Nat.le_refl _)).cell 1
        simp at q1
        refine turn_plain (ok_is ?_ rfl)
        simp only [execOp, o3]; go_simp; try exact rfl
      refine ⟨fun ρ W ⟨hcst, hglb, hfun⟩ hX hp ho => ?_, ?_⟩ -- 3: slot 100 := Op.indexAddr 29 t5 (const (0:i64))
      · obtain ⟨o5, -⟩ := ho
        change ρ (.tmp 5) = _ at o5
        refine turn_plain (ok_is ?_ rfl)
        simp only [execOp, hcst, o5]; go_simp; try exact rfl
      refine ⟨fun ρ W ⟨hcst, hglb, hfun⟩ hX hp ho => ?_, ?_⟩ -- 4: slot 101 := Op.load 3 t100
      · obtain ⟨p100, -⟩ := hp
        change ρ (.tmp 100) = _ at p100
        have q0 := (HO.out.later ((Below.refl _ _).drew.trans hX) (Nat.le_refl _)).cell 0
        simp at q0
        refine turn_plain (ok_is ?_ rfl)
        simp only [execOp, p100]; go_simp; try exact rfl
      refine ⟨fun ρ W ⟨hcst, hglb, hfun⟩ hX hp ho => ?_, ?_⟩ -- 5: slot 102 := Op.indexAddr 29 t5 (const (1:i64))
      · obtain ⟨o5, -⟩ := ho
        change ρ (.tmp 5) = _ at o5
        refine turn_plain (ok_is ?_ rfl)
        simp only [execOp, hcst, o5]; go_simp; try exact rfl
      refine ⟨fun ρ W ⟨hcst, hglb, hfun⟩ hX hp ho => ?_, ?_⟩ -- 6: slot 103 := Op.load 3 t102
      · obtain ⟨p102, -⟩ := hp
        change ρ (.tmp 102) = _ at p102
        have q1 := (HO.out.later ((Below.refl _ _).drew.trans hX) (Nat.le_refl _)).cell 1
        simp at q1
        refine turn_plain (ok_is ?_ rfl)
        simp only [execOp, p102]; go_simp; try exact rfl
      refine ⟨fun ρ W ⟨hcst, hglb, hfun⟩ hX hp ho => ?_, ?_⟩ -- 7: slot 104 := Op.call { value (Operand.func 16), args := #[t99, t101, t103], argTypes := #[25, 3, 3] }
      · obtain ⟨p99, p101, p103, -⟩ := hp
        change ρ (.tmp 99) = _ at p99
        change ρ (.tmp 101) = _ at p101
        change ρ (.tmp 103) = _ at p103
        have hW := (Below.refl _ _).drew.trans hX
        refine turn_plain ?_
        have ce := @enter_of Tryd.prog 16 _ Tryd.func16 (by kernel_rfl) (by kernel_rfl)
        refine ok_call (op_call3 hfun ce (by exact rfl) p99 p101 p103) ?_
        refine (HC2.out A n c vs A2 n2 c2 vs2 W HL.out HL2.out (HR.out.later hW (Nat.le_refl _)) (HR2.out.later hW (Nat.le_refl _))).mono ?_
        rintro e W' ⟨rfl, bel⟩
        exact ⟨_, rfl, bel, rfl⟩
      refine ⟨fun ρ W ⟨hcst, hglb, hfun⟩ hX hp ho => ?_, ?_⟩ -- 8: slot 105 := Op.binOp BinOp.eql 4 t98 t104 4
      · obtain ⟨p98, p104, -⟩ := hp
        change ρ (.tmp 98) = _ at p98
        change ρ (.tmp 104) = _ at p104
        refine turn_plain (ok_is ?_ rfl)
        simp only [execOp, p98, p104]; go_simp; try exact rfl
      refine ⟨fun ρ W ⟨hcst, hglb, hfun⟩ hX hp ho => ?_, ?_⟩ -- 9: slot 106 := Op.move t105
      · obtain ⟨p105, -⟩ := hp
        change ρ (.tmp 105) = _ at p105
        refine turn_plain (ok_is ?_ rfl)
        simp only [execOp, p105]; go_simp; try exact rfl
      refine ⟨fun ρ W ⟨hcst, hglb, hfun⟩ hX hp ho => ?_, ?_⟩ -- 10: slot 107 := Op.move t8   [guarded: some (9, true)]
      · obtain ⟨p106, -⟩ := hp
        change ρ (.tmp 106) = _ at p106
        obtain ⟨o8, -⟩ := ho
        change ρ (.tmp 8) = _ at o8
        refine turn_yes p106 (ok_is ?_ rfl)
        simp only [execOp, o8]; go_simp; try exact rfl
      refine ⟨fun ρ W ⟨hcst, hglb, hfun⟩ hX hp ho => ?_, ?_⟩ -- 11: slot 108 := Op.binOp BinOp.eql 35 t107 (const Value.nilIface) 35   [guarded: some (9, true)]
      · obtain ⟨p107, p106, -⟩ := hp
        change ρ (.tmp 107) = _ at p107
        change ρ (.tmp 106) = _ at p106
        refine turn_yes p106 (ok_is ?_ rfl)
        simp only [execOp, hcst, p107]; go_simp; try exact rfl
      refine ⟨fun ρ W ⟨hcst, hglb, hfun⟩ hX hp ho => ?_, ?_⟩ -- 12: slot 109 := Op.move t108   [guarded: some (9, true)]
      · obtain ⟨p108, p106, -⟩ := hp
        change ρ (.tmp 108) = _ at p108
        change ρ (.tmp 106) = _ at p106
        refine turn_yes p106 (ok_is ?_ rfl)
        simp only [execOp, p108]; go_simp; try exact rfl
      refine ⟨fun ρ W ⟨hcst, hglb, hfun⟩ hX hp ho => ?_, ?_⟩ -- 13: slot 110 := Op.move t8   [guarded: some (12, false)]
      · obtain ⟨p109, -⟩ := hp
        change ρ (.tmp 109) = _ at p109
        obtain ⟨o8, -⟩ := ho
        change ρ (.tmp 8) = _ at o8
        refine turn_yes p109 (ok_is ?_ rfl)
        simp only [execOp, o8]; go_simp; try exact rfl
      refine ⟨fun ρ W ⟨hcst, hglb, hfun⟩ hX hp ho => ?_, ?_⟩ -- 14: slot 111 := Op.call { value (Operand.func 17), args := #[t110], argTypes := #[35] }   [guarded: some (
      · obtain ⟨p110, p109, -⟩ := hp
        change ρ (.tmp 110) = _ at p110
        change ρ (.tmp 109) = _ at p109
        have hW := (Below.refl _ _).drew.trans hX
        refine turn_yes p109 ?_
        have ce := @enter_of Tryd.prog 17 _ Tryd.func17 (by kernel_rfl) (by kernel_rfl)
        refine ok_call (op_call1 hfun ce (by exact rfl) p110) ?_
        refine (num37_err 1 W (HG.out.later hW (Nat.le_refl _))).mono ?_
        rintro e W' ⟨rfl, bel⟩
        exact ⟨_, rfl, bel, rfl⟩
      refine ⟨fun ρ W ⟨hcst, hglb, hfun⟩ hX hp ho => ?_, ?_⟩ -- 15: slot 112 := Op.binOp BinOp.eql 3 t111 (const (1:i64)) 3   [guarded: some (12, false)]
      · obtain ⟨p111, p109, -⟩ := hp
        change ρ (.tmp 111) = _ at p111
        change ρ (.tmp 109) = _ at p109
        refine turn_yes p109 (ok_is ?_ rfl)
        simp only [execOp, hcst, p111]; go_simp; try exact rfl
      refine ⟨fun ρ W ⟨hcst, hglb, hfun⟩ hX hp ho => ?_, ?_⟩ -- 16: slot 113 := Op.pick t109 (const (Value.bool true)) t112   [guarded: some (9, true)]
      · obtain ⟨p109, p112, p106, -⟩ := hp
        change ρ (.tmp 109) = _ at p109
        change ρ (.tmp 112) = _ at p112
        change ρ (.tmp 106) = _ at p106
        refine turn_yes p106 (ok_is ?_ rfl)
        simp only [execOp, hcst, p109, p112]; go_simp; try exact rfl
      refine ⟨fun ρ W ⟨hcst, hglb, hfun⟩ hX hp ho => ?_, ?_⟩ -- 17: slot 114 := Op.pick t106 t113 (const (Value.bool false))
      · obtain ⟨p106, p113, -⟩ := hp
        change ρ (.tmp 106) = _ at p106
        change ρ (.tmp 113) = _ at p113
        refine turn_plain (ok_is ?_ rfl)
        simp only [execOp, hcst, p106, p113]; go_simp; try exact rfl
      refine ⟨fun ρ W ⟨hcst, hglb, hfun⟩ hX hp ho => ?_, ?_⟩ -- 18: slot 115 := Op.move t114
      · obtain ⟨p114, -⟩ := hp
        change ρ (.tmp 114) = _ at p114
        refine turn_plain (ok_is ?_ rfl)
        simp only [execOp, p114]; go_simp; try exact rfl
      refine ⟨fun ρ W ⟨hcst, hglb, hfun⟩ hX hp ho => ?_, ?_⟩ -- 19: slot 116 := Op.move t9   [guarded: some (18, true)]
      · obtain ⟨p115, -⟩ := hp
        change ρ (.tmp 115) = _ at p115
        obtain ⟨o9, -⟩ := ho
        change ρ (.tmp 9) = _ at o9
        refine turn_yes p115 (ok_is ?_ rfl)
        simp only [execOp, o9]; go_simp; try exact rfl
      refine ⟨fun ρ W ⟨hcst, hglb, hfun⟩ hX hp ho => ?_, ?_⟩ -- 20: slot 117 := Op.move t11   [guarded: some (18, true)]
      · obtain ⟨p115, -⟩ := hp
        change ρ (.tmp 115) = _ at p115
        obtain ⟨o11, -⟩ := ho
        change ρ (.tmp 11) = _ at o11
        refine turn_yes p115 (ok_is ?_ rfl)
        simp only [execOp, o11]; go_simp; try exact rfl
      refine ⟨fun ρ W ⟨hcst, hglb, hfun⟩ hX hp ho => ?_, ?_⟩ -- 21: slot 118 := Op.call { value (Operand.func 18), args := #[t116, t117], argTypes := #[22, 22] }   [guard
      · obtain ⟨p116, p117, p115, -⟩ := hp
        change ρ (.tmp 116) = _ at p116
        change ρ (.tmp 117) = _ at p117
        change ρ (.tmp 115) = _ at p115
        have hW := (Below.refl _ _).drew.trans hX
        refine turn_yes p115 ?_
        have ce := @enter_of Tryd.prog 18 _ Tryd.func18 (by kernel_rfl) (by kernel_rfl)
        refine ok_call (op_call2 hfun ce (by exact rfl) p116 p117) ?_
        refine (rows_yes (lrows_any Ah LH.length ch vh Au LH.length cu vu LH LH W rfl (by omega) (RH.out.later hW (Nat.le_refl _)) rfl (by omega) (RU.out.later hW (Nat.le_refl _))) rfl).mono ?_
        rintro e W' ⟨rfl, bel⟩
        exact ⟨_, rfl, bel, rfl⟩
      refine ⟨fun ρ W ⟨hcst, hglb, hfun⟩ hX hp ho => ?_, ?_⟩ -- 22: slot 119 := Op.pick t115 t118 (const (Value.bool false))
      · obtain ⟨p115, p118, -⟩ := hp
        change ρ (.tmp 115) = _ at p115
        change ρ (.tmp 118) = _ at p118
        refine turn_plain (ok_is ?_ rfl)
        simp only [execOp, hcst, p115, p118]; go_simp; try exact rfl
      refine ⟨fun ρ W ⟨hcst, hglb, hfun⟩ hX hp ho => ?_, ?_⟩ -- 23: slot 120 := Op.move t119
      · obtain ⟨p119, -⟩ := hp
        change ρ (.tmp 119) = _ at p119
        refine turn_plain (ok_is ?_ rfl)
        simp only [execOp, p119]; go_simp; try exact rfl
      refine ⟨fun ρ W ⟨hcst, hglb, hfun⟩ hX hp ho => ?_, ?_⟩ -- 24: slot 121 := Op.move t10   [guarded: some (23, true)]
      · obtain ⟨p120, -⟩ := hp
        change ρ (.tmp 120) = _ at p120
        obtain ⟨o10, -⟩ := ho
        change ρ (.tmp 10) = _ at o10
        refine turn_yes p120 (ok_is ?_ rfl)
        simp only [execOp, o10]; go_simp; try exact rfl
      refine ⟨fun ρ W ⟨hcst, hglb, hfun⟩ hX hp ho => ?_, ?_⟩ -- 25: slot 122 := Op.call { value (Operand.func 17), args := #[t121], argTypes := #[35] }   [guarded: some (
      · obtain ⟨p121, p120, -⟩ := hp
        change ρ (.tmp 121) = _ at p121
        change ρ (.tmp 120) = _ at p120
        have hW := (Below.refl _ _).drew.trans hX
        refine turn_yes p120 ?_
        have ce := @enter_of Tryd.prog 17 _ Tryd.func17 (by kernel_rfl) (by kernel_rfl)
        refine ok_call (op_call1 hfun ce (by exact rfl) p121) ?_
        refine (num37_v kh W (HG.out.later hW (Nat.le_refl _))).mono ?_
        rintro e W' ⟨rfl, bel⟩
        exact ⟨_, rfl, bel, rfl⟩
      refine ⟨fun ρ W ⟨hcst, hglb, hfun⟩ hX hp ho => ?_, ?_⟩ -- 26: slot 123 := Op.move t12   [guarded: some (23, true)]
      · obtain ⟨p120, -⟩ := hp
        change ρ (.tmp 120) = _ at p120
        obtain ⟨o12, -⟩ := ho
        change ρ (.tmp 12) = _ at o12
        refine turn_yes p120 (ok_is ?_ rfl)
        simp only [execOp, o12]; go_simp; try exact rfl
      refine ⟨fun ρ W ⟨hcst, hglb, hfun⟩ hX hp ho => ?_, ?_⟩ -- 27: slot 124 := Op.binOp BinOp.eql 3 t122 t123 3   [guarded: some (23, true)]
      · obtain ⟨p122, p123, p120, -⟩ := hp
        change ρ (.tmp 122) = _ at p122
        change ρ (.tmp 123) = _ at p123
        change ρ (.tmp 120) = _ at p120
        have hW := (Below.refl _ _).drew.trans hX
        refine turn_yes p120 ?_
        exact ok_val (v := .bool true) (W' := W) (by simp only [execOp, p122, p123, p120]; go_simp) (Below.refl _ _) rfl
      refine ⟨fun ρ W ⟨hcst, hglb, hfun⟩ hX hp ho => ?_, ?_⟩ -- 28: slot 125 := Op.pick t120 t124 (const (Value.bool false))
      · obtain ⟨p120, p124, -⟩ := hp
        change ρ (.tmp 120) = _ at p120
        change ρ (.tmp 124) = _ at p124
        refine turn_plain (ok_is ?_ rfl)
        simp only [execOp, hcst, p120, p124]; go_simp; try exact rfl
      refine ⟨fun ρ W ⟨hcst, hglb, hfun⟩ hX hp ho => ?_, ?_⟩ -- 29: slot 126 := Op.move t125
      · obtain ⟨p125, -⟩ := hp
        change ρ (.tmp 125) = _ at p125
        refine turn_plain (ok_is ?_ rfl)
        simp only [execOp, p125]; go_simp; try exact rfl
      refine ⟨fun ρ W ⟨hcst, hglb, hfun⟩ hX hp ho => ?_, ?_⟩ -- 30: slot 127 := Op.load 32 t13   [guarded: some (29, true)]
      · obtain ⟨p126, -⟩ := hp
        change ρ (.tmp 126) = _ at p126
        obtain ⟨o13, -⟩ := ho
        change ρ (.tmp 13) = _ at o13
        have q0 := (HBS.out.later ((Below.refl _ _).drew.trans hX) (Nat.le_refl _)).cell 0
        simp at q0
        have q1 := (HBS.out.later ((Below.refl _ _).drew.trans hX) (Nat.le_refl _)).cell 1
        simp at q1
        refine turn_yes p126 (ok_is ?_ rfl)
        simp only [execOp, o13]; go_simp; try exact rfl
      refine ⟨fun ρ W ⟨hcst, hglb, hfun⟩ hX hp ho => ?_, ?_⟩ -- 31: slot 128 := Op.load 25 t15   [guarded: some (29, true)]
      · obtain ⟨p126, -⟩ := hp
        change ρ (.tmp 126) = _ at p126
        obtain ⟨o15, -⟩ := ho
        change ρ (.tmp 15) = _ at o15
        have q0 := (HBV.out.later ((Below.refl _ _).drew.trans hX) (Nat.le_refl _)).cell 0
        simp at q0
        have q1 := (HBV.out.later ((Below.refl _ _).drew.trans hX) (Nat.le_refl _)).cell 1
        simp at q1
        refine turn_yes p126 (ok_is ?_ rfl)
        simp only [execOp, o15]; go_simp; try exact rfl
      refine ⟨fun ρ W ⟨hcst, hglb, hfun⟩ hX hp ho => ?_, ?_⟩ -- 32: slot 129 := Op.call { value (Operand.func 19), args := #[t127, t128], argTypes := #[32, 25] }   [guard
      · obtain ⟨p127, p128, p126, -⟩ := hp
        change ρ (.tmp 127) = _ at p127
        change ρ (.tmp 128) = _ at p128
        change ρ (.tmp 126) = _ at p126
        have hW := (Below.refl _ _).drew.trans hX
        refine turn_yes p126 ?_
        have ce := @enter_of Tryd.prog 19 _ Tryd.func19 (by kernel_rfl) (by kernel_rfl)
        refine ok_call (op_call2 hfun ce (by exact rfl) p127 p128) ?_
        refine (rows_yes (ltabs_any As1 so.length cs1 vs1 so Bs1 sp.length ds1 ys1 sp As2 so.length cs2 vs2q so Bs2 sp.length ds2 ys2 sp W rfl (by omega) (Rs1.out.later hW (Nat.le_refl _)) rfl (by omega) (Ps1.out.later hW (Nat.le_refl _)) rfl (by omega) (Rs2.out.later hW (Nat.le_refl _)) rfl (by omega) (Ps2.out.later hW (Nat.le_refl _))) ⟨rfl, rfl⟩).mono ?_
        rintro e W' ⟨rfl, bel⟩
        exact ⟨_, rfl, bel, rfl⟩
      refine ⟨fun ρ W ⟨hcst, hglb, hfun⟩ hX hp ho => ?_, ?_⟩ -- 33: slot 130 := Op.pick t126 t129 (const (Value.bool false))
      · obtain ⟨p126, p129, -⟩ := hp
        change ρ (.tmp 126) = _ at p126
        change ρ (.tmp 129) = _ at p129
        refine turn_plain (ok_is ?_ rfl)
        simp only [execOp, hcst, p126, p129]; go_simp; try exact rfl
      refine ⟨fun ρ W ⟨hcst, hglb, hfun⟩ hX hp ho => ?_, ?_⟩ -- 34: slot 131 := Op.move t130
      · obtain ⟨p130, -⟩ := hp
        change ρ (.tmp 130) = _ at p130
        refine turn_plain (ok_is ?_ rfl)
        simp only [execOp, p130]; go_simp; try exact rfl
      refine ⟨fun ρ W ⟨hcst, hglb, hfun⟩ hX hp ho => ?_, ?_⟩ -- 35: slot 132 := Op.move t14   [guarded: some (34, true)]
      · obtain ⟨p131, -⟩ := hp
        change ρ (.tmp 131) = _ at p131
        obtain ⟨o14, -⟩ := ho
        change ρ (.tmp 14) = _ at o14
        refine turn_yes p131 (ok_is ?_ rfl)
        simp only [execOp, o14]; go_simp; try exact rfl
      refine ⟨fun ρ W ⟨hcst, hglb, hfun⟩ hX hp ho => ?_, ?_⟩ -- 36: slot 133 := Op.call { value (Operand.func 17), args := #[t132], argTypes := #[35] }   [guarded: some (
      · obtain ⟨p132, p131, -⟩ := hp
        change ρ (.tmp 132) = _ at p132
        change ρ (.tmp 131) = _ at p131
        have hW := (Below.refl _ _).drew.trans hX
        refine turn_yes p131 ?_
        have ce := @enter_of Tryd.prog 17 _ Tryd.func17 (by kernel_rfl) (by kernel_rfl)
        refine ok_call (op_call1 hfun ce (by exact rfl) p132) ?_
        refine (num37_v ks W (HG.out.later hW (Nat.le_refl _))).mono ?_
        rintro e W' ⟨rfl, bel⟩
        exact ⟨_, rfl, bel, rfl⟩
      refine ⟨fun ρ W ⟨hcst, hglb, hfun⟩ hX hp ho => ?_, ?_⟩ -- 37: slot 134 := Op.move t16   [guarded: some (34, true)]
      · obtain ⟨p131, -⟩ := hp
        change ρ (.tmp 131) = _ at p131
        obtain ⟨o16, -⟩ := ho
        change ρ (.tmp 16) = _ at o16
        refine turn_yes p131 (ok_is ?_ rfl)
        simp only [execOp, o16]; go_simp; try exact rfl
      refine ⟨fun ρ W ⟨hcst, hglb, hfun⟩ hX hp ho => ?_, ?_⟩ -- 38: slot 135 := Op.binOp BinOp.eql 3 t133 t134 3   [guarded: some (34, true)]
      · obtain ⟨p133, p134, p131, -⟩ := hp
        change ρ (.tmp 133) = _ at p133
        change ρ (.tmp 134) = _ at p134
        change ρ (.tmp 131) = _ at p131
        have hW := (Below.refl _ _).drew.trans hX
        refine turn_yes p131 ?_
        exact ok_val (v := .bool true) (W' := W) (by simp only [execOp, p133, p134, p131]; go_simp) (Below.refl _ _) rfl
      refine ⟨fun ρ W ⟨hcst, hglb, hfun⟩ hX hp ho => ?_, ?_⟩ -- 39: slot 136 := Op.pick t131 t135 (const (Value.bool false))
      · obtain ⟨p131, p135, -⟩ := hp
        change ρ (.tmp 131) = _ at p131
        change ρ (.tmp 135) = _ at p135
        refine turn_plain (ok_is ?_ rfl)
        simp only [execOp, hcst, p131, p135]; go_simp; try exact rfl
      refine ⟨fun ρ W ⟨hcst, hglb, hfun⟩ hX hp ho => ?_, ?_⟩ -- 40: slot 137 := Op.move t136
      · obtain ⟨p136, -⟩ := hp
        change ρ (.tmp 136) = _ at p136
        refine turn_plain (ok_is ?_ rfl)
        simp only [execOp, p136]; go_simp; try exact rfl
      refine ⟨fun ρ W ⟨hcst, hglb, hfun⟩ hX hp ho => ?_, ?_⟩ -- 41: slot 138 := Op.load 32 t17   [guarded: some (40, true)]
      · obtain ⟨p137, -⟩ := hp
        change ρ (.tmp 137) = _ at p137
        obtain ⟨o17, -⟩ := ho
        change ρ (.tmp 17) = _ at o17
        have q0 := (HBM.out.later ((Below.refl _ _).drew.trans hX) (Nat.le_refl _)).cell 0
        simp at q0
        have q1 := (HBM.out.later ((Below.refl _ _).drew.trans hX) (Nat.le_refl _)).cell 1
        simp at q1
        refine turn_yes p137 (ok_is ?_ rfl)
        simp only [execOp, o17]; go_simp; try exact rfl
      refine ⟨fun ρ W ⟨hcst, hglb, hfun⟩ hX hp ho => ?_, ?_⟩ -- 42: slot 139 := Op.load 25 t19   [guarded: some (40, true)]
      · obtain ⟨p137, -⟩ := hp
        change ρ (.tmp 137) = _ at p137
        obtain ⟨o19, -⟩ := ho
        change ρ (.tmp 19) = _ at o19
        have q0 := (HBW.out.later ((Below.refl _ _).drew.trans hX) (Nat.le_refl _)).cell 0
        simp at q0
        have q1 := (HBW.out.later ((Below.refl _ _).drew.trans hX) (Nat.le_refl _)).cell 1
        simp at q1
        refine turn_yes p137 (ok_is ?_ rfl)
        simp only [execOp, o19]; go_simp; try exact rfl
      refine ⟨fun ρ W ⟨hcst, hglb, hfun⟩ hX hp ho => ?_, ?_⟩ -- 43: slot 140 := Op.call { value (Operand.func 19), args := #[t138, t139], argTypes := #[32, 25] }   [guard
      · obtain ⟨p138, p139, p137, -⟩ := hp
        change ρ (.tmp 138) = _ at p138
        change ρ (.tmp 139) = _ at p139
        change ρ (.tmp 137) = _ at p137
        have hW := (Below.refl _ _).drew.trans hX
        refine turn_yes p137 ?_
        have ce := @enter_of Tryd.prog 19 _ Tryd.func19 (by kernel_rfl) (by kernel_rfl)
        refine ok_call (op_call2 hfun ce (by exact rfl) p138 p139) ?_
        refine (rows_yes (ltabs_any Am1 mo.length cm1 vm1 mo Bm1 mp.length dm1 ym1 mp Am2 mo.length cm2 vm2 mo Bm2 mp.length dm2 ym2 mp W rfl (by omega) (Rm1.out.later hW (Nat.le_refl _)) rfl (by omega) (Pm1.out.later hW (Nat.le_refl _)) rfl (by omega) (Rm2.out.later hW (Nat.le_refl _)) rfl (by omega) (Pm2.out.later hW (Nat.le_refl _))) ⟨rfl, rfl⟩).mono ?_
        rintro e W' ⟨rfl, bel⟩
        exact ⟨_, rfl, bel, rfl⟩
      refine ⟨fun ρ W ⟨hcst, hglb, hfun⟩ hX hp ho => ?_, ?_⟩ -- 44: slot 141 := Op.pick t137 t140 (const (Value.bool false))
      · obtain ⟨p137, p140, -⟩ := hp
        change ρ (.tmp 137) = _ at p137
        change ρ (.tmp 140) = _ at p140
        refine turn_plain (ok_is ?_ rfl)
        simp only [execOp, hcst, p137, p140]; go_simp; try exact rfl
      refine ⟨fun ρ W ⟨hcst, hglb, hfun⟩ hX hp ho => ?_, ?_⟩ -- 45: slot 142 := Op.move t141
      · obtain ⟨p141, -⟩ := hp
        change ρ (.tmp 141) = _ at p141
        refine turn_plain (ok_is ?_ rfl)
        simp only [execOp, p141]; go_simp; try exact rfl
      refine ⟨fun ρ W ⟨hcst, hglb, hfun⟩ hX hp ho => ?_, ?_⟩ -- 46: slot 143 := Op.move t18   [guarded: some (45, true)]
      · obtain ⟨p142, -⟩ := hp
        change ρ (.tmp 142) = _ at p142
        obtain ⟨o18, -⟩ := ho
        change ρ (.tmp 18) = _ at o18
        refine turn_yes p142 (ok_is ?_ rfl)
        simp only [execOp, o18]; go_simp; try exact rfl
      refine ⟨fun ρ W ⟨hcst, hglb, hfun⟩ hX hp ho => ?_, ?_⟩ -- 47: slot 144 := Op.call { value (Operand.func 17), args := #[t143], argTypes := #[35] }   [guarded: some (
      · obtain ⟨p143, p142, -⟩ := hp
        change ρ (.tmp 143) = _ at p143
        change ρ (.tmp 142) = _ at p142
        have hW := (Below.refl _ _).drew.trans hX
        refine turn_yes p142 ?_
        have ce := @enter_of Tryd.prog 17 _ Tryd.func17 (by kernel_rfl) (by kernel_rfl)
        refine ok_call (op_call1 hfun ce (by exact rfl) p143) ?_
        refine (num37_v km W (HG.out.later hW (Nat.le_refl _))).mono ?_
        rintro e W' ⟨rfl, bel⟩
        exact ⟨_, rfl, bel, rfl⟩
      refine ⟨fun ρ W ⟨hcst, hglb, hfun⟩ hX hp ho => ?_, ?_⟩ -- 48: slot 145 := Op.move t20   [guarded: some (45, true)]
      · obtain ⟨p142, -⟩ := hp
        change ρ (.tmp 142) = _ at p142
        obtain ⟨o20, -⟩ := ho
        change ρ (.tmp 20) = _ at o20
        refine turn_yes p142 (ok_is ?_ rfl)
        simp only [execOp, o20]; go_simp; try exact rfl
      refine ⟨fun ρ W ⟨hcst, hglb, hfun⟩ hX hp ho => ?_, ?_⟩ -- 49: slot 146 := Op.binOp BinOp.eql 3 t144 t145 3   [guarded: some (45, true)]
      · obtain ⟨p144, p145, p142, -⟩ := hp
        change ρ (.tmp 144) = _ at p144
        change ρ (.tmp 145) = _ at p145
        change ρ (.tmp 142) = _ at p142
        have hW := (Below.refl _ _).drew.trans hX
        refine turn_yes p142 ?_
        exact ok_val (v := .bool true) (W' := W) (by simp only [execOp, p144, p145, p142]; go_simp) (Below.refl _ _) rfl
      refine ⟨fun ρ W ⟨hcst, hglb, hfun⟩ hX hp ho => ?_, ?_⟩ -- 50: slot 147 := Op.pick t142 t146 (const (Value.bool false))
      · obtain ⟨p142, p146, -⟩ := hp
        change ρ (.tmp 142) = _ at p142
        change ρ (.tmp 146) = _ at p146
        refine turn_plain (ok_is ?_ rfl)
        simp only [execOp, hcst, p142, p146]; go_simp; try exact rfl
      refine ⟨fun ρ W ⟨hcst, hglb, hfun⟩ hX hp ho => ?_, ?_⟩ -- 51: slot 148 := Op.move t147
      · obtain ⟨p147, -⟩ := hp
        change ρ (.tmp 147) = _ at p147
        refine turn_plain (ok_is ?_ rfl)
        simp only [execOp, p147]; go_simp; try exact rfl
      refine ⟨fun ρ W ⟨hcst, hglb, hfun⟩ hX hp ho => ?_, ?_⟩ -- 52: slot 149 := Op.call { value (Operand.func 7), args := #[], argTypes := #[] }   [guarded: some (51, tru
      · obtain ⟨p148, -⟩ := hp
        change ρ (.tmp 148) = _ at p148
        have hW := (Below.refl _ _).drew.trans hX
        refine turn_yes p148 ?_
        have ce := @enter_of Tryd.prog 7 _ Tryd.func7 (by kernel_rfl) (by kernel_rfl)
        refine ok_call (op_call0 hfun ce (by exact rfl) ) ?_
        refine (sure37 W (HG.out.later hW (Nat.le_refl _))).mono ?_
        rintro e W' ⟨rfl, bel⟩
        exact ⟨_, rfl, bel, rfl⟩
      refine ⟨fun ρ W ⟨hcst, hglb, hfun⟩ hX hp ho => ?_, ?_⟩ -- 53: slot 150 := Op.pick t148 t149 (const (Value.bool false))
      · obtain ⟨p148, p149, -⟩ := hp
        change ρ (.tmp 148) = _ at p148
        change ρ (.tmp 149) = _ at p149
        refine turn_plain (ok_is ?_ rfl)
        simp only [execOp, hcst, p148, p149]; go_simp; try exact rfl
      refine ⟨fun ρ W ⟨hcst, hglb, hfun⟩ hX hp ho => ?_, ?_⟩ -- 54: slot 6 := Op.assign t150
      · obtain ⟨p150, -⟩ := hp
        change ρ (.tmp 150) = _ at p150
        refine turn_plain (ok_is ?_ rfl)
        simp only [execOp, p150]; go_simp; try exact rfl
      exact trivial
    case find =>
      rintro v W hX ⟨f0, f1, f2, f3, f4, f5, f6, f7, f8, f9, f10, f11, f12, f13, f14, f15, f16, f17, f18, f19, f20, f21, f22, f23, f24, f25, f26, f27, f28, f29, f30, f31, f32, f33, f34, f35, f36, f37, f38, f39, f40, f41, f42, f43, f44, f45, f46, f47, f48, f49, f50, f51, f52, f53, f54, -⟩
      simp only [is] at f0 f1 f2 f3 f4 f5 f6 f7 f8 f9 f10 f11 f12 f13 f14 f15 f16 f17 f18 f19 f20 f21 f22 f23 f24 f25 f26 f27 f28 f29 f30 f31 f32 f33 f34 f35 f36 f37 f38 f39 f40 f41 f42 f43 f44 f45 f46 f47 f48 f49 f50 f51 f52 f53 f54
      simp only [putAll, Act.put, List.setIfInBounds_toArray, List.set_cons_succ, List.set_cons_zero, f0, f1, f2, f3, f4, f5, f6, f7, f8, f9, f10, f11, f12, f13, f14, f15, f16, f17, f18, f19, f20, f21, f22, f23, f24, f25, f26, f27, f28, f29, f30, f31, f32, f33, f34, f35, f36, f37, f38, f39, f40, f41, f42, f43, f44, f45, f46, f47, f48, f49, f50, f51, f52, f53, f54]
      clear f0 f1 f2 f3 f4 f5 f6 f7 f8 f9 f10 f11 f12 f13 f14 f15 f16 f17 f18 f19 f20 f21 f22 f23 f24 f25 f26 f27 f28 f29 f30 f31 f32 f33 f34 f35 f36 f37 f38 f39 f40 f41 f42 f43 f44 f45 f46 f47 f48 f49 f50 f51 f52 f53 f54
      go_wp2_with fail
      go_ret
      exact ⟨rfl, by rw [HGG.out]; exact HB.out.trans (hX.mono (by rw [← HGG.out]; exact HB.out.size))⟩
end
end Go.Proofs.YtmdilfgeogedpaaDoor
