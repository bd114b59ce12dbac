/- Layer 19: an end of a way: New, Put, Tick. -/
import Derived.Test.YtodimanghmepoaaDoorLkB
namespace Go.Proofs.YtodimanghmepoaaDoor
open Go.RowKit
/-- what an end is behind an act -/
def LkN (w : World) (F : Nat → Prop) (p : Nat) (s' : LSt) (w' : World) : Prop := Chg F w w' ∧ ∃ F' : Nat → Prop, LkS w' F' p s' ∧ ∀ k, F' k → F k ∨ w.heap.size ≤ k
theorem LkN.refl {w : World} {F : Nat → Prop} {p : Nat} {s : LSt} (h : LkS w F p s) : LkN w F p s w := ⟨⟨rfl, rfl, rfl, Nat.le_refl _, fun _ _ _ => rfl⟩, F, h, fun _ h => .inl h⟩
theorem LkN.drewN {w : World} {F : Nat → Prop} {p : Nat} {s : LSt} (h : LkS w F p s) (j : Nat) : LkN w F p s (w.drewN j) := by
  have hc : Chg F w (w.drewN j) := ⟨rfl, rfl, rfl, Nat.le_refl _, fun _ _ _ => rfl⟩
  exact ⟨hc, F, h.other (G := fun _ => False) ⟨rfl, rfl, rfl, Nat.le_refl _, fun _ _ _ => rfl⟩ (fun _ _ h => h), fun _ h => .inl h⟩
theorem LkN.trans {w w1 w2 : World} {F F1 : Nat → Prop} {p : Nat} {s2 : LSt} (h : Chg F w w1) (hF : ∀ k, F1 k → F k ∨ w.heap.size ≤ k) (h2 : LkN w1 F1 p s2 w2) : LkN w F p s2 w2 := by
  obtain ⟨c2, F2, l2, f2⟩ := h2
  refine ⟨h.trans c2 hF, F2, l2, fun k hk => ?_⟩
  rcases f2 k hk with h1 | h1
  · exact hF k h1
  · have := h.size; exact .inr (by omega)
section
variable {F : Nat → Prop} {p sp rp base : Nat} {A : Option Addr} {n c : Nat} {vs : List Value} {s : LSt} {w w' : World}
theorem Lk.snd_turn (h : Lk w p sp rp base A n c vs s) (hF : ∀ k, FLk p sp rp A vs k → F k) {S' : Int} {l' : List (List Nat)} {st' lf' : Int} (hk : KSnd w w' sp base A vs s.E S' l' st' lf') :
    LkN w F p { s with S := S', l := l', st := st', lf := lf' } w' := by
  obtain ⟨A', n', c', vs', hs, kept, hA, hv⟩ := hk
  have hsz := kept.size
  have hp := h.far sp (.inl rfl)
  have hAp : blk A ≠ some p := fun e => (h.far p (.inr (.inl e))).1 rfl
  have hArp : blk A ≠ some rp := fun e => (h.far rp (.inr (.inl e))).2 rfl
  have hn : ∀ k, Fsnd sp A' vs' k → Fsnd sp A vs k ∨ w.heap.size ≤ k := by
    intro k hk
    rcases hk with rfl | hk | ⟨v, hm, A1, n1, c1, rfl, hk⟩
    · exact .inl (.inl rfl)
    · rcases hA k hk with h1 | h1
      · exact .inl (.inr (.inl h1))
      · exact .inr h1
    · rcases hv _ hm with h1 | ⟨A2, n2, c2, e, h1⟩
      · exact .inl (.inr (.inr ⟨_, h1, A1, n1, c1, rfl, hk⟩))
      · injection e with e1; subst e1; exact .inr (h1 k hk)
  have hL : Lk w' p sp rp base A' n' c' vs' { s with S := S', l := l', st := st', lf := lf' } := {
    hd := h.hd.kept kept (fun e => hp.1 e.symm) hAp
    snd := hs
    rcv := h.rcv.kept kept (fun e => hp.2 e.symm) hArp
    pr := h.pr
    far := fun k hk => by
      rcases hn k hk with h1 | h1
      · exact h.far k h1
      · have h2 := h.hd.lt; have h3 := h.rcv.lt; omega
    base := Nat.le_trans h.base hsz }
  refine ⟨Chg.of_kept kept (hF _ (.inr (.inr (.inl rfl)))) (fun k e => hF k (.inr (.inr (.inr (.inl e))))), FLk p sp rp A' vs', ⟨sp, rp, base, A', n', c', vs', hL, fun _ h => h, fun k hk => hL.foot hk⟩, fun k hk => ?_⟩
  rcases hk with rfl | rfl | hk
  · exact .inl (hF _ (.inl rfl))
  · exact .inl (hF _ (.inr (.inl rfl)))
  · rcases hn k hk with h1 | h1
    · exact .inl (hF k (.inr (.inr h1)))
    · exact .inr h1
end
/-- what holds of an end at any time -/
structure LOk (s : LSt) : Prop where
  me : 0 ≤ s.me ∧ s.me ≤ 255
  ot : 0 ≤ s.ot ∧ s.ot ≤ 255
  E : 1 ≤ s.E ∧ s.E ≤ 1073741824
  S : 1 ≤ s.S ∧ s.S + s.l.length ≤ 1073741825
  st : ∃ k : Nat, k ≤ 3 ∧ s.st = k
  lf : 0 ≤ s.lf ∧ s.lf ≤ 24
  RE : 0 ≤ s.RE ∧ s.RE ≤ 1073741824
  RL : 0 ≤ s.RL ∧ s.RL ≤ 1073741824
  gv : s.gv = true → (1 ≤ s.ep ∧ s.ep ≤ 1073741824) ∧ 0 ≤ s.sq ∧ s.sq ≤ 1073741824
  by_ : ∀ b ∈ s.l, ∀ y ∈ b, y < 256
  len : ∀ b ∈ s.l, b.length ≤ 8192
def putS (s : LSt) (b : List Nat) : LSt := { s with l := s.l ++ [b] }
def tickS (s : LSt) : LSt := { s with lf := if 0 < s.lf then s.lf - 1 else s.lf }
def newS (me ot E : Int) : LSt := ⟨me, ot, E, 1, [], 0, 0, 0, 0, false, 0, 0⟩
section
variable {F : Nat → Prop} {p : Nat} {s : LSt}
set_option maxRecDepth 100000 in
theorem lput_any (w : World) (h : LkS w F p s) (hn : s.l.length < 64) (hS : 1 ≤ s.S ∧ s.S + s.l.length ≤ 1073741824)
    (A1 : Option Addr) (c1 : Nat) (b : List Nat) (hb : b.length ≤ 8192) (hat : At w A1 (nats .u8 b)) (hz : A1 = none → b.length = 0) :
    Calls Tryd.prog 8 #[.pointer (some ⟨p, 0, none⟩), .slice A1 b.length c1] w fun e w' => e = .returned .nilIface ∧ LkN w F p (putS s b) w' := by
  obtain ⟨sp, rp, base, A, n, c, vs, h, hF, -⟩ := h
  have p2 : w.cell? ⟨p, 2, none⟩ = some (.pointer (some ⟨sp, 0, none⟩)) := h.hd.cell 2
  have hl := h.snd.len
  have CC := Lib.hid (put_k w h.snd (by omega) (by omega) h.base A1 c1 b hb hat hz)
  have H := Lib.hid h
  clear h hat hz
  go_enter Tryd.func8, Tryd.ntmps8
  go_wp2_with fail
  refine CC.out.mono ?_
  rintro e w' ⟨rfl, hk⟩
  have HK := Lib.hid (H.out.snd_turn hF hk)
  clear hk
  go_wp2_with fail
  go_ret
  exact ⟨rfl, HK.out⟩
set_option maxRecDepth 100000 in
theorem lput_full (w : World) (h : LkS w F p s) (hn : 64 ≤ s.l.length) (A1 : Option Addr) (m c1 : Nat) (hm : m ≤ 8192) :
    Calls Tryd.prog 8 #[.pointer (some ⟨p, 0, none⟩), .slice A1 m c1] w fun e w' => e = .returned (.iface 70 (.int .i64 14)) ∧ ∃ j, w.drewN j = w' := by
  obtain ⟨sp, rp, base, A, n, c, vs, h, hF, -⟩ := h
  have p2 : w.cell? ⟨p, 2, none⟩ = some (.pointer (some ⟨sp, 0, none⟩)) := h.hd.cell 2
  have hl := h.snd.len
  have CC := Lib.hid (put_full w h.snd (by omega) A1 m c1 hm)
  clear h
  go_enter Tryd.func8, Tryd.ntmps8
  go_wp2_with fail
  refine CC.out.mono ?_
  rintro e w' ⟨rfl, j, rfl⟩
  go_wp2_with fail
  go_ret
  exact ⟨rfl, _, rfl⟩
set_option maxRecDepth 100000 in
theorem ltick_any (w : World) (h : LkS w F p s) (h24 : 0 ≤ s.lf ∧ s.lf ≤ 24) :
    Calls Tryd.prog 12 #[.pointer (some ⟨p, 0, none⟩)] w fun e w' => e = .returned (.tuple #[]) ∧ LkN w F p (tickS s) w' := by
  obtain ⟨sp, rp, base, A, n, c, vs, h, hF, hlt⟩ := h
  have p2 : w.cell? ⟨p, 2, none⟩ = some (.pointer (some ⟨sp, 0, none⟩)) := h.hd.cell 2
  have H := Lib.hid h
  by_cases h0 : 0 < s.lf
  · have CC := Lib.hid (tick_pos w h.snd h0 h24.2)
    clear h
    go_enter Tryd.func12, Tryd.ntmps12
    go_wp2_with fail
    refine CC.out.mono ?_
    rintro e w' ⟨rfl, hk, hg⟩
    have HK := Lib.hid (show LkN w F p (tickS s) w' from by
      have := H.out.snd_turn (w' := w') hF ⟨A, n, c, vs, hk, Kept.of_grown hg, fun _ h => .inl h, fun _ h => .inl h⟩
      unfold tickS; rw [if_pos h0]; exact this)
    clear hk hg
    go_wp2_with fail
    exact bodyPost_end (v := .tuple #[]) (by simp [results, Tryd.results12, go_sem]) rfl ⟨rfl, HK.out⟩
  · have e0 : s.lf = 0 := by omega
    have CC := Lib.hid (tick_zero w (e0 ▸ h.snd))
    have HK := Lib.hid (show LkN w F p (tickS s) w from by
      have : tickS s = s := by unfold tickS; rw [if_neg h0]
      rw [this]; exact LkN.refl ⟨sp, rp, base, A, n, c, vs, h, hF, hlt⟩)
    clear h
    go_enter Tryd.func12, Tryd.ntmps12
    go_wp2_with fail
    refine CC.out.mono ?_
    rintro e w' ⟨rfl, rfl⟩
    go_wp2_with fail
    exact bodyPost_end (v := .tuple #[]) (by simp [results, Tryd.results12, go_sem]) rfl ⟨rfl, HK.out⟩
end
def nw1 (w : World) (E : Int) : World := w.alloc (.cells (sndOf E 1 none 0 0 0 0) 111)
def nw2 (w : World) (E : Int) : World := (nw1 w E).alloc (.cells (recvOf 0 0) 113)
def nw3 (w : World) (me ot E : Int) : World := (nw2 w E).alloc (.cells (lkOf me ot w.heap.size (w.heap.size + 1) false 0 0) 77)
theorem nw1_size (w : World) (E : Int) : (nw1 w E).heap.size = w.heap.size + 1 := by simp [nw1]
theorem nw2_size (w : World) (E : Int) : (nw2 w E).heap.size = w.heap.size + 1 + 1 := by simp [nw2, nw1]
theorem nw3_size (w : World) (me ot E : Int) : (nw3 w me ot E).heap.size = w.heap.size + 1 + 1 + 1 := by simp [nw3, nw2, nw1]
theorem new_below (w : World) (me ot E : Int) : Below w.heap.size w (nw3 w me ot E) :=
  (((Below.refl w.heap.size w).alloc (Nat.le_refl _) _).alloc (by simp) _).alloc (by simp; omega) _
theorem new_lks (w : World) (me ot E : Int) : LkS (nw3 w me ot E) (fun k => k = w.heap.size + 1 + 1 ∨ k = w.heap.size + 1 ∨ k = w.heap.size) (w.heap.size + 1 + 1) (newS me ot E) := by
  have hd : Holds (nw3 w me ot E) (nw2 w E).heap.size 77 (lkOf me ot w.heap.size (w.heap.size + 1) false 0 0) := Holds.new _ _ _ _ rfl
  have hr : Holds (nw2 w E) (nw1 w E).heap.size 113 (recvOf 0 0) := Holds.new _ _ _ _ rfl
  have b2 : Below (nw2 w E).heap.size (nw2 w E) (nw3 w me ot E) := (Below.refl _ _).alloc (Nat.le_refl _) _
  have b1 : Below (nw1 w E).heap.size (nw1 w E) (nw2 w E) := (Below.refl _ _).alloc (Nat.le_refl _) _
  have hr3 : Holds (nw3 w me ot E) (nw1 w E).heap.size 113 (recvOf 0 0) := hr.later b2 (Nat.le_refl _)
  have s0 : Snd (nw1 w E) w.heap.size w.heap.size [] E 1 none 0 0 [] [] 0 0 := new_snd E w w.heap.size (Nat.le_refl _)
  have s2 := (s0.below b1 (Nat.le_refl _)).below b2 (Nat.le_refl _)
  rw [nw2_size] at hd
  rw [nw1_size] at hr3
  have hL : Lk (nw3 w me ot E) (w.heap.size + 1 + 1) w.heap.size (w.heap.size + 1) w.heap.size none 0 0 [] (newS me ot E) := {
    hd := hd
    snd := s2
    rcv := hr3
    pr := by omega
    far := fun k hk => by
      rcases hk with rfl | hk | ⟨v, hv, _⟩
      · omega
      · cases hk
      · cases hv
    base := by rw [nw3_size]; omega }
  refine ⟨_, _, _, _, _, _, _, hL, fun k hk => ?_, fun k hk => by rw [nw3_size]; omega⟩
  rcases hk with rfl | rfl | rfl | hk | ⟨v, hv, _⟩
  · exact .inl rfl
  · exact .inr (.inl rfl)
  · exact .inr (.inr rfl)
  · cases hk
  · cases hv
def NewE (w : World) (s : LSt) (e : Ending) (w' : World) : Prop :=
  ∃ p F, e = .returned (.tuple #[.pointer (some ⟨p, 0, none⟩), .nilIface]) ∧ Below w.heap.size w w' ∧ LkS w' F p s ∧ ∀ k, F k → w.heap.size ≤ k
set_option maxRecDepth 100000 in
theorem lnew_any (w : World) (me ot E : Int) (h1 : 0 ≤ me ∧ me ≤ 255) (h2 : 0 ≤ ot ∧ ot ≤ 255) (h3 : me ≠ ot) (hE : 1 ≤ E ∧ E ≤ 1073741824) :
    Calls Tryd.prog 6 #[.int .i64 me, .int .i64 ot, .int .i64 E] w (NewE w (newS me ot E)) := by
  have d1 : decide (me < 0) = false := decide_eq_false (by omega)
  have d2 : decide (255 < me) = false := decide_eq_false (by omega)
  have d3 : decide (ot < 0) = false := decide_eq_false (by omega)
  have d4 : decide (255 < ot) = false := decide_eq_false (by omega)
  have d5 : decide (me = ot) = false := decide_eq_false h3
  have CS := Lib.hid (fun W => snew_any E W hE)
  clear h1 h2
  go_enter Tryd.func6, Tryd.ntmps6
  go_wp2_with fail
  refine (CS.out _).mono ?_
  rintro e w1 ⟨rfl, rfl⟩
  go_wp2_with fail
  refine (rnew_any _).mono ?_
  rintro e w2 ⟨rfl, rfl⟩
  go_wp2_with fail
  exact bodyPost_ret (v := .tuple #[.pointer (some ⟨w.heap.size + 1 + 1, 0, none⟩), .nilIface]) (by simp [results, Tryd.results6, go_sem]) rfl ⟨_, _, rfl, new_below w me ot E, new_lks w me ot E, fun k hk => by rcases hk with h | h | h <;> omega⟩
end Go.Proofs.YtodimanghmepoaaDoor
