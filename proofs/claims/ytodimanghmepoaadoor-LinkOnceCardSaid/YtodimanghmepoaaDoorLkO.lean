/- Layer 19: three ends side by side. Printed by lko.py. -/
import Derived.Test.YtodimanghmepoaaDoorLkN
namespace Go.Proofs.YtodimanghmepoaaDoor
open Go.RowKit
def tri {α : Type} (a b c : α) : Nat → α
  | 0 => a
  | 1 => b
  | _ => c
section
variable {α : Type} {a b c x : α}
theorem upd_tri0 : upd (tri a b c) 0 x = tri x b c := by funext i; match i with | 0 => rfl | 1 => rfl | i + 2 => rfl
theorem upd_tri1 : upd (tri a b c) 1 x = tri a x c := by funext i; match i with | 0 => rfl | 1 => rfl | i + 2 => rfl
end
/-- the third place, where there are but three ends -/
theorem Ways.congr {w0 w : World} {I : Nat} {F : Nat → Nat → Prop} {p p' : Nat → Nat} {s s' : Nat → LSt} (h : Ways w0 w I F p s) (hp : ∀ i, i < I → p i = p' i) (hs : ∀ i, i < I → s i = s' i) : Ways w0 w I F p' s' :=
  ⟨h.bel, fun i hi => by rw [← hp i hi, ← hs i hi]; exact h.lk i hi, fun i hi => by rw [← hs i hi]; exact h.ok i hi, h.ge, h.dis⟩
theorem tri_two {α : Type} {a b c x : α} (i : Nat) (hi : i < 3) : upd (tri a b c) 2 x i = tri a b x i := by
  match i, hi with
  | 0, _ => rfl
  | 1, _ => rfl
  | 2, _ => rfl
/-- a cell apart from all ends -/
structure Cel (w : World) (F : Nat → Nat → Prop) (b o : Nat) (v : Value) : Prop where
  cell : w.cell? ⟨b, o, none⟩ = some v
  apart : b < w.heap.size ∧ ∀ i, ¬ F i b
theorem Cel.keep {w w' : World} {F F' : Nat → Nat → Prop} {b o : Nat} {v : Value} (h : Cel w F b o v) (k : Keep w F w' F') : Cel w' F' b o v :=
  ⟨(World.cell?_of_block (a := ⟨b, o, none⟩) (k.block b h.apart.1 h.apart.2).1).trans h.cell, Nat.lt_of_lt_of_le h.apart.1 k.size, (k.block b h.apart.1 h.apart.2).2⟩
/-- one datagram -/
theorem Dgs.one {w : World} {F : Nat → Nat → Prop} {A : Option Addr} {vs : List Value} {d : List Nat} (h : Dgs w F A vs [d]) :
    ∃ b o A1 c1, A = some ⟨b, o, none⟩ ∧ Cel w F b o (.slice A1 d.length c1) ∧ (d.length ≤ c1 ∧ c1 ≤ maxLen ∧ (A1 = none → d.length = 0)) ∧ Dat w F A1 d := by
  obtain ⟨v, rfl⟩ : ∃ v, vs = [v] := by
    have := h.len
    match vs, this with
    | [v], _ => exact ⟨v, rfl⟩
  obtain ⟨A1, c1, rfl, h1, h2, h3, h4⟩ := h.dg 0 v d rfl rfl
  obtain ⟨b, o, rfl, hc⟩ := h.at_ 0 _ rfl
  exact ⟨b, o, A1, c1, rfl, ⟨by simpa using hc, h.apart b rfl⟩, ⟨h1, h2, h3⟩, h4⟩
section
variable {w0 w : World} {I : Nat} {F : Nat → Nat → Prop} {p0 p1 p2 : Nat} {s0 s1 s2 : LSt}
theorem wt_new0 (w : World) (me ot E : Int) (z : LSt) (h1 : 0 ≤ me ∧ me ≤ 255) (h2 : 0 ≤ ot ∧ ot ≤ 255) (h3 : me ≠ ot) (hE : 1 ≤ E ∧ E ≤ 1073741824) :
    Calls Tryd.prog 6 #[.int .i64 me, .int .i64 ot, .int .i64 E] w fun e w' => ∃ q F', e = .returned (.tuple #[.pointer (some ⟨q, 0, none⟩), .nilIface]) ∧ Ways w w' 1 F' (tri q 0 0) (tri (newS me ot E) z z) ∧ (∀ i k, F' i k → i < 1) := by
  refine (w_new (Ways.none_ w (tri 0 0 0) (tri z z z)) (fun _ _ h => h.elim) me ot E h1 h2 h3 hE).mono ?_
  rintro e w' ⟨q, F', rfl, hw, hI, _⟩
  rw [upd_tri0, upd_tri0] at hw
  exact ⟨q, F', rfl, hw, hI⟩
theorem wt_new1 {z : LSt} (h : Ways w0 w 1 F (tri p0 0 0) (tri s0 z z)) (hI : ∀ i k, F i k → i < 1) (me ot E : Int) (h1 : 0 ≤ me ∧ me ≤ 255) (h2 : 0 ≤ ot ∧ ot ≤ 255) (h3 : me ≠ ot) (hE : 1 ≤ E ∧ E ≤ 1073741824) :
    Calls Tryd.prog 6 #[.int .i64 me, .int .i64 ot, .int .i64 E] w fun e w' => ∃ q F', e = .returned (.tuple #[.pointer (some ⟨q, 0, none⟩), .nilIface]) ∧ Ways w0 w' 2 F' (tri p0 q 0) (tri s0 (newS me ot E) z) ∧ (∀ i k, F' i k → i < 2) := by
  refine (w_new h hI me ot E h1 h2 h3 hE).mono ?_
  rintro e w' ⟨q, F', rfl, hw, hI, _⟩
  rw [upd_tri1, upd_tri1] at hw
  exact ⟨q, F', rfl, hw, hI⟩
theorem wt_new2 {z : LSt} (h : Ways w0 w 2 F (tri p0 p1 0) (tri s0 s1 z)) (hI : ∀ i k, F i k → i < 2) (me ot E : Int) (h1 : 0 ≤ me ∧ me ≤ 255) (h2 : 0 ≤ ot ∧ ot ≤ 255) (h3 : me ≠ ot) (hE : 1 ≤ E ∧ E ≤ 1073741824) :
    Calls Tryd.prog 6 #[.int .i64 me, .int .i64 ot, .int .i64 E] w fun e w' => ∃ q F', e = .returned (.tuple #[.pointer (some ⟨q, 0, none⟩), .nilIface]) ∧ Ways w0 w' 3 F' (tri p0 p1 q) (tri s0 s1 (newS me ot E)) := by
  refine (w_new h hI me ot E h1 h2 h3 hE).mono ?_
  rintro e w' ⟨q, F', rfl, hw, hI, _⟩
  exact ⟨q, F', rfl, hw.congr tri_two tri_two⟩
theorem wt_put0 (h : Ways w0 w I F (tri p0 p1 p2) (tri s0 s1 s2)) (hi : 0 < I) (hn : s0.l.length < 64) (hS : s0.S + s0.l.length ≤ 1073741824) (A : Option Addr) (c : Nat) (b : List Nat) (hb : b.length ≤ 8192) (hby : ∀ y ∈ b, y < 256) (hat : At w A (nats .u8 b)) (hz : A = none → b.length = 0) {n : Nat} (hl : b.length = n) {s' : LSt} (hs : putS s0 b = s') :
    Calls Tryd.prog 8 #[.pointer (some ⟨p0, 0, none⟩), .slice A n c] w fun e w' => ∃ F', e = .returned .nilIface ∧ Ways w0 w' I F' (tri p0 p1 p2) (tri s' s1 s2) ∧ Keep w F w' F' := by
  subst hl hs
  refine (w_put h 0 hi hn hS A c b hb hby hat hz).mono ?_
  rintro e w' ⟨rfl, F', hw, hk, _⟩
  rw [upd_tri0] at hw
  exact ⟨F', rfl, hw, hk⟩
theorem wt_tick0 (h : Ways w0 w I F (tri p0 p1 p2) (tri s0 s1 s2)) (hi : 0 < I) {s' : LSt} (hs : tickS s0 = s') :
    Calls Tryd.prog 12 #[.pointer (some ⟨p0, 0, none⟩)] w fun e w' => ∃ F', e = .returned (.tuple #[]) ∧ Ways w0 w' I F' (tri p0 p1 p2) (tri s' s1 s2) ∧ Keep w F w' F' := by
  subst hs
  refine (w_tick h 0 hi).mono ?_
  rintro e w' ⟨rfl, F', hw, hk, _⟩
  rw [upd_tri0] at hw
  exact ⟨F', rfl, hw, hk⟩
theorem wt_waits0 (h : Ways w0 w I F (tri p0 p1 p2) (tri s0 s1 s2)) (hi : 0 < I) {n : Nat} (hn : s0.l.length = n) :
    Calls Tryd.prog 11 #[.pointer (some ⟨p0, 0, none⟩)] w fun e w' => e = .returned (.int .i64 n) ∧ w = w' := by
  subst hn
  exact w_waits h 0 hi
theorem wt_out0 (h : Ways w0 w I F (tri p0 p1 p2) (tri s0 s1 s2)) (hi : 0 < I) {L : List (List Nat)} {n : Nat} {s' : LSt} (hL : outA s0 ++ outB s0 = L) (hn : L.length = n) (hs : outS s0 = s') :
    Calls Tryd.prog 9 #[.pointer (some ⟨p0, 0, none⟩)] w fun e w' => ∃ A c vs F', e = .returned (.slice A n c) ∧ Ways w0 w' I F' (tri p0 p1 p2) (tri s' s1 s2) ∧ Keep w F w' F' ∧ Dgs w' F' A vs L := by
  subst hn hs hL
  refine (w_out h 0 hi).mono ?_
  rintro e w' ⟨A, c, vs, rfl, F', hw, hk, hd⟩
  rw [upd_tri0] at hw
  exact ⟨A, c, vs, F', rfl, hw, hk, hd⟩
theorem wt_hear0 (h : Ways w0 w I F (tri p0 p1 p2) (tri s0 s1 s2)) (hi : 0 < I) (A : Option Addr) (c : Nat) (l : List Nat) (hc : l.length ≤ c ∧ c ≤ maxLen) (hat : At w A (nats .u8 l)) (hb : ∀ y ∈ l, y < 256) {n m : Nat} (hn : l.length = n) {s' : LSt} {bd : List Nat} {is : Bool} {x : Int} {v : Value} (hr : hearR s0 l = (s', bd, is, x)) (hm : bd.length = m) (hv : erV x = v) :
    Calls Tryd.prog 10 #[.pointer (some ⟨p0, 0, none⟩), .slice A n c] w fun e w' => ∃ A1 c1 F', e = .returned (.tuple #[.slice A1 m c1, .bool is, v]) ∧ Ways w0 w' I F' (tri p0 p1 p2) (tri s' s1 s2) ∧ Keep w F w' F' ∧ Dat w' F' A1 bd := by
  subst hn hm hv
  refine (w_hear h 0 hi A c l hc.1 hc.2 hat hb).mono ?_
  rintro e w' ⟨A1, c1, rfl, F', hw, hk, hd⟩
  have hr' : hearR (tri s0 s1 s2 0) l = (s', bd, is, x) := hr
  rw [hr'] at hw hd ⊢
  rw [upd_tri0] at hw
  exact ⟨A1, c1, F', rfl, hw, hk, hd⟩
theorem wt_put1 (h : Ways w0 w I F (tri p0 p1 p2) (tri s0 s1 s2)) (hi : 1 < I) (hn : s1.l.length < 64) (hS : s1.S + s1.l.length ≤ 1073741824) (A : Option Addr) (c : Nat) (b : List Nat) (hb : b.length ≤ 8192) (hby : ∀ y ∈ b, y < 256) (hat : At w A (nats .u8 b)) (hz : A = none → b.length = 0) {n : Nat} (hl : b.length = n) {s' : LSt} (hs : putS s1 b = s') :
    Calls Tryd.prog 8 #[.pointer (some ⟨p1, 0, none⟩), .slice A n c] w fun e w' => ∃ F', e = .returned .nilIface ∧ Ways w0 w' I F' (tri p0 p1 p2) (tri s0 s' s2) ∧ Keep w F w' F' := by
  subst hl hs
  refine (w_put h 1 hi hn hS A c b hb hby hat hz).mono ?_
  rintro e w' ⟨rfl, F', hw, hk, _⟩
  rw [upd_tri1] at hw
  exact ⟨F', rfl, hw, hk⟩
theorem wt_tick1 (h : Ways w0 w I F (tri p0 p1 p2) (tri s0 s1 s2)) (hi : 1 < I) {s' : LSt} (hs : tickS s1 = s') :
    Calls Tryd.prog 12 #[.pointer (some ⟨p1, 0, none⟩)] w fun e w' => ∃ F', e = .returned (.tuple #[]) ∧ Ways w0 w' I F' (tri p0 p1 p2) (tri s0 s' s2) ∧ Keep w F w' F' := by
  subst hs
  refine (w_tick h 1 hi).mono ?_
  rintro e w' ⟨rfl, F', hw, hk, _⟩
  rw [upd_tri1] at hw
  exact ⟨F', rfl, hw, hk⟩
theorem wt_waits1 (h : Ways w0 w I F (tri p0 p1 p2) (tri s0 s1 s2)) (hi : 1 < I) {n : Nat} (hn : s1.l.length = n) :
    Calls Tryd.prog 11 #[.pointer (some ⟨p1, 0, none⟩)] w fun e w' => e = .returned (.int .i64 n) ∧ w = w' := by
  subst hn
  exact w_waits h 1 hi
theorem wt_out1 (h : Ways w0 w I F (tri p0 p1 p2) (tri s0 s1 s2)) (hi : 1 < I) {L : List (List Nat)} {n : Nat} {s' : LSt} (hL : outA s1 ++ outB s1 = L) (hn : L.length = n) (hs : outS s1 = s') :
    Calls Tryd.prog 9 #[.pointer (some ⟨p1, 0, none⟩)] w fun e w' => ∃ A c vs F', e = .returned (.slice A n c) ∧ Ways w0 w' I F' (tri p0 p1 p2) (tri s0 s' s2) ∧ Keep w F w' F' ∧ Dgs w' F' A vs L := by
  subst hn hs hL
  refine (w_out h 1 hi).mono ?_
  rintro e w' ⟨A, c, vs, rfl, F', hw, hk, hd⟩
  rw [upd_tri1] at hw
  exact ⟨A, c, vs, F', rfl, hw, hk, hd⟩
theorem wt_hear1 (h : Ways w0 w I F (tri p0 p1 p2) (tri s0 s1 s2)) (hi : 1 < I) (A : Option Addr) (c : Nat) (l : List Nat) (hc : l.length ≤ c ∧ c ≤ maxLen) (hat : At w A (nats .u8 l)) (hb : ∀ y ∈ l, y < 256) {n m : Nat} (hn : l.length = n) {s' : LSt} {bd : List Nat} {is : Bool} {x : Int} {v : Value} (hr : hearR s1 l = (s', bd, is, x)) (hm : bd.length = m) (hv : erV x = v) :
    Calls Tryd.prog 10 #[.pointer (some ⟨p1, 0, none⟩), .slice A n c] w fun e w' => ∃ A1 c1 F', e = .returned (.tuple #[.slice A1 m c1, .bool is, v]) ∧ Ways w0 w' I F' (tri p0 p1 p2) (tri s0 s' s2) ∧ Keep w F w' F' ∧ Dat w' F' A1 bd := by
  subst hn hm hv
  refine (w_hear h 1 hi A c l hc.1 hc.2 hat hb).mono ?_
  rintro e w' ⟨A1, c1, rfl, F', hw, hk, hd⟩
  have hr' : hearR (tri s0 s1 s2 1) l = (s', bd, is, x) := hr
  rw [hr'] at hw hd ⊢
  rw [upd_tri1] at hw
  exact ⟨A1, c1, F', rfl, hw, hk, hd⟩
theorem wt_put2 (h : Ways w0 w I F (tri p0 p1 p2) (tri s0 s1 s2)) (hi : 2 < I) (h3 : I = 3) (hn : s2.l.length < 64) (hS : s2.S + s2.l.length ≤ 1073741824) (A : Option Addr) (c : Nat) (b : List Nat) (hb : b.length ≤ 8192) (hby : ∀ y ∈ b, y < 256) (hat : At w A (nats .u8 b)) (hz : A = none → b.length = 0) {n : Nat} (hl : b.length = n) {s' : LSt} (hs : putS s2 b = s') :
    Calls Tryd.prog 8 #[.pointer (some ⟨p2, 0, none⟩), .slice A n c] w fun e w' => ∃ F', e = .returned .nilIface ∧ Ways w0 w' I F' (tri p0 p1 p2) (tri s0 s1 s') ∧ Keep w F w' F' := by
  subst hl hs
  refine (w_put h 2 hi hn hS A c b hb hby hat hz).mono ?_
  rintro e w' ⟨rfl, F', hw, hk, _⟩
  replace hw := (show Ways w0 w' I F' (tri p0 p1 p2) (tri s0 s1 (putS s2 b)) from hw.congr (fun _ _ => rfl) (fun j hj => tri_two j (by omega)))
  exact ⟨F', rfl, hw, hk⟩
theorem wt_tick2 (h : Ways w0 w I F (tri p0 p1 p2) (tri s0 s1 s2)) (hi : 2 < I) (h3 : I = 3) {s' : LSt} (hs : tickS s2 = s') :
    Calls Tryd.prog 12 #[.pointer (some ⟨p2, 0, none⟩)] w fun e w' => ∃ F', e = .returned (.tuple #[]) ∧ Ways w0 w' I F' (tri p0 p1 p2) (tri s0 s1 s') ∧ Keep w F w' F' := by
  subst hs
  refine (w_tick h 2 hi).mono ?_
  rintro e w' ⟨rfl, F', hw, hk, _⟩
  replace hw := (show Ways w0 w' I F' (tri p0 p1 p2) (tri s0 s1 (tickS s2)) from hw.congr (fun _ _ => rfl) (fun j hj => tri_two j (by omega)))
  exact ⟨F', rfl, hw, hk⟩
theorem wt_waits2 (h : Ways w0 w I F (tri p0 p1 p2) (tri s0 s1 s2)) (hi : 2 < I) (h3 : I = 3) {n : Nat} (hn : s2.l.length = n) :
    Calls Tryd.prog 11 #[.pointer (some ⟨p2, 0, none⟩)] w fun e w' => e = .returned (.int .i64 n) ∧ w = w' := by
  subst hn h3
  exact w_waits h 2 hi
theorem wt_out2 (h : Ways w0 w I F (tri p0 p1 p2) (tri s0 s1 s2)) (hi : 2 < I) (h3 : I = 3) {L : List (List Nat)} {n : Nat} {s' : LSt} (hL : outA s2 ++ outB s2 = L) (hn : L.length = n) (hs : outS s2 = s') :
    Calls Tryd.prog 9 #[.pointer (some ⟨p2, 0, none⟩)] w fun e w' => ∃ A c vs F', e = .returned (.slice A n c) ∧ Ways w0 w' I F' (tri p0 p1 p2) (tri s0 s1 s') ∧ Keep w F w' F' ∧ Dgs w' F' A vs L := by
  subst hn hs hL
  refine (w_out h 2 hi).mono ?_
  rintro e w' ⟨A, c, vs, rfl, F', hw, hk, hd⟩
  replace hw := (show Ways w0 w' I F' (tri p0 p1 p2) (tri s0 s1 (outS s2)) from hw.congr (fun _ _ => rfl) (fun j hj => tri_two j (by omega)))
  exact ⟨A, c, vs, F', rfl, hw, hk, hd⟩
theorem wt_hear2 (h : Ways w0 w I F (tri p0 p1 p2) (tri s0 s1 s2)) (hi : 2 < I) (h3 : I = 3) (A : Option Addr) (c : Nat) (l : List Nat) (hc : l.length ≤ c ∧ c ≤ maxLen) (hat : At w A (nats .u8 l)) (hb : ∀ y ∈ l, y < 256) {n m : Nat} (hn : l.length = n) {s' : LSt} {bd : List Nat} {is : Bool} {x : Int} {v : Value} (hr : hearR s2 l = (s', bd, is, x)) (hm : bd.length = m) (hv : erV x = v) :
    Calls Tryd.prog 10 #[.pointer (some ⟨p2, 0, none⟩), .slice A n c] w fun e w' => ∃ A1 c1 F', e = .returned (.tuple #[.slice A1 m c1, .bool is, v]) ∧ Ways w0 w' I F' (tri p0 p1 p2) (tri s0 s1 s') ∧ Keep w F w' F' ∧ Dat w' F' A1 bd := by
  subst hn hm hv
  refine (w_hear h 2 hi A c l hc.1 hc.2 hat hb).mono ?_
  rintro e w' ⟨A1, c1, rfl, F', hw, hk, hd⟩
  have hr' : hearR (tri s0 s1 s2 2) l = (s', bd, is, x) := hr
  rw [hr'] at hw hd ⊢
  replace hw := (show Ways w0 w' I F' (tri p0 p1 p2) (tri s0 s1 s') from hw.congr (fun _ _ => rfl) (fun j hj => tri_two j (by omega)))
  exact ⟨A1, c1, F', rfl, hw, hk, hd⟩
end
/-! ### what is heard -/
section
variable {s : LSt} {fr dt : Nat} {k : Bool} {ep sq : Nat} {b : List Nat}
theorem hear_wrong (hm : FMay fr dt k ep sq b.length) (hw : (fr : Int) ≠ s.ot ∨ (dt : Int) ≠ s.me) : hearR s (encL fr dt k ep sq b) = (s, [], false, 1) := by
  rw [hearR_good (encL_good hm)]; unfold hearG; rw [if_pos hw]
theorem hear_word (hm : FMay fr dt true ep sq ([] : List Nat).length) (h1 : (fr : Int) = s.ot) (h2 : (dt : Int) = s.me) : hearR s (encL fr dt true ep sq []) = (heardS s ep sq, [], false, 0) := by
  rw [hearR_good (encL_good hm)]; unfold hearG; rw [if_neg (by omega), if_pos rfl]
theorem hear_data (hm : FMay fr dt false ep sq b.length) (h1 : (fr : Int) = s.ot) (h2 : (dt : Int) = s.me) {E2 L2 la : Int} {tk : Bool} (hrc : rc s.RE s.RL ep sq = ((E2, L2), tk, la)) : hearR s (encL fr dt false ep sq b) = (takeS s ep sq, if tk = true then b else [], tk, 0) := by
  rw [hearR_good (encL_good hm)]; unfold hearG; rw [if_neg (by omega), if_neg (by decide), hrc]
  cases tk <;> rfl
theorem hear_bad {l : List Nat} (h : Crc.Fits l = false) : hearR s l = (s, [], false, errN l) :=
  hearR_bad fun _ _ _ _ _ _ hg => by have := hg.form.2.2.2.2; rw [h] at this; cases this
theorem enc_len (hm : FMay fr dt k ep sq b.length) : 6 ≤ (encL fr dt k ep sq b).length ∧ (encL fr dt k ep sq b).length ≤ 8300 := ⟨(encL_good hm).form.1, (encL_good hm).form.2.1⟩
end
end Go.Proofs.YtodimanghmepoaaDoor
