/- Layer 19: ends side by side: each act of one of them. -/
import Derived.Test.YtodimanghmepoaaDoorLkM
namespace Go.Proofs.YtodimanghmepoaaDoor
open Go.RowKit
/-- datagrams apart from all ends -/
structure Dgs (w : World) (F : Nat → Nat → Prop) (A : Option Addr) (vs : List Value) (L : List (List Nat)) : Prop where
  at_ : At w A vs
  apart : ∀ k, blk A = some k → k < w.heap.size ∧ ∀ i, ¬ F i k
  len : vs.length = L.length
  dg : ∀ (i : Nat) (v : Value) (b : List Nat), vs[i]? = some v → L[i]? = some b → ∃ A1 c1, v = .slice A1 b.length c1 ∧ b.length ≤ c1 ∧ c1 ≤ maxLen ∧ (A1 = none → b.length = 0) ∧ Dat w F A1 b
theorem Dgs.keep {w w' : World} {F F' : Nat → Nat → Prop} {A : Option Addr} {vs : List Value} {L : List (List Nat)} (h : Dgs w F A vs L) (k : Keep w F w' F') : Dgs w' F' A vs L :=
  ⟨h.at_.same fun b hb hl => (k.block b hl (h.apart b hb).2).1, fun b hb => ⟨Nat.lt_of_lt_of_le (h.apart b hb).1 k.size, (k.block b (h.apart b hb).1 (h.apart b hb).2).2⟩, h.len, fun i v b h1 h2 => by
    obtain ⟨A1, c1, e, g1, g2, g3, g4⟩ := h.dg i v b h1 h2
    exact ⟨A1, c1, e, g1, g2, g3, g4.keep k⟩⟩
/-- the ends behind an act of the call -/
def Aft (w0 w : World) (I : Nat) (F : Nat → Nat → Prop) (p : Nat → Nat) (s' : Nat → LSt) (R : World → (Nat → Nat → Prop) → Prop) (w' : World) : Prop :=
  ∃ F', Ways w0 w' I F' p s' ∧ Keep w F w' F' ∧ R w' F'
section
variable {w0 w : World} {I : Nat} {F : Nat → Nat → Prop} {p : Nat → Nat} {s : Nat → LSt}
theorem Ways.act_n (h : Ways w0 w I F p s) (i : Nat) {w' : World} {s' : LSt} (hN : LkN w (F i) (p i) s' w') (ok : LOk s' ∧ s'.me ≠ s'.ot) : Aft w0 w I F p (upd s i s') (fun _ _ => True) w' := by
  obtain ⟨hc, F1, hl, hF⟩ := hN
  obtain ⟨a, b⟩ := h.act i hc hl hF ok
  exact ⟨_, a, b, trivial⟩
theorem w_put (h : Ways w0 w I F p s) (i : Nat) (hi : i < I) (hn : (s i).l.length < 64) (hS : (s i).S + (s i).l.length ≤ 1073741824) (A : Option Addr) (c : Nat) (b : List Nat) (hb : b.length ≤ 8192) (hby : ∀ y ∈ b, y < 256) (hat : At w A (nats .u8 b)) (hz : A = none → b.length = 0) :
    Calls Tryd.prog 8 #[.pointer (some ⟨p i, 0, none⟩), .slice A b.length c] w fun e w' => e = .returned .nilIface ∧ Aft w0 w I F p (upd s i (putS (s i) b)) (fun _ _ => True) w' := by
  have ok := h.ok i hi
  refine (lput_any w (h.lk i hi) hn ⟨ok.1.S.1, hS⟩ A c b hb hat hz).mono ?_
  rintro e w' ⟨rfl, hN⟩
  exact ⟨rfl, h.act_n i hN ⟨ok.1.put hS hby hb, ok.2⟩⟩
theorem w_tick (h : Ways w0 w I F p s) (i : Nat) (hi : i < I) :
    Calls Tryd.prog 12 #[.pointer (some ⟨p i, 0, none⟩)] w fun e w' => e = .returned (.tuple #[]) ∧ Aft w0 w I F p (upd s i (tickS (s i))) (fun _ _ => True) w' := by
  have ok := h.ok i hi
  refine (ltick_any w (h.lk i hi) ok.1.lf).mono ?_
  rintro e w' ⟨rfl, hN⟩
  exact ⟨rfl, h.act_n i hN ⟨ok.1.tick, ok.2⟩⟩
theorem w_waits (h : Ways w0 w I F p s) (i : Nat) (hi : i < I) :
    Calls Tryd.prog 11 #[.pointer (some ⟨p i, 0, none⟩)] w fun e w' => e = .returned (.int .i64 (s i).l.length) ∧ w = w' := lwaits_any w (h.lk i hi)
theorem w_out (h : Ways w0 w I F p s) (i : Nat) (hi : i < I) :
    Calls Tryd.prog 9 #[.pointer (some ⟨p i, 0, none⟩)] w fun e w' => ∃ A c vs, e = .returned (.slice A (outA (s i) ++ outB (s i)).length c) ∧ Aft w0 w I F p (upd s i (outS (s i))) (fun w' F' => Dgs w' F' A vs (outA (s i) ++ outB (s i))) w' := by
  have ok := h.ok i hi
  refine (lout_any w (h.lk i hi) ok.1 ok.2).mono ?_
  rintro e w' ⟨A, n, c, vs, F1, rfl, od, hc, hl, hF⟩
  obtain ⟨ho, hnn, hd, hx, hy⟩ := id od
  obtain ⟨a, b⟩ := h.act i hc hl hF ⟨ok.1.out, by rw [(outS_me _).1, (outS_me _).2]; exact ok.2⟩
  have out : ∀ k, w.heap.size ≤ k → ¬ F1 k → ∀ j, ¬ upd F i F1 j k := by
    intro k hk hn j hj
    by_cases e : j = i
    · subst e; rw [upd_self] at hj; exact hn hj
    · rw [upd_ne _ _ e] at hj; have := (h.ge j k hj).2; omega
  refine ⟨A, c, vs, by rw [hnn], _, a, b, ho.at_, fun k hk => ⟨(ho.lt k hk).2, out k (ho.lt k hk).1 (hx k hk)⟩, by have := ho.len; omega, fun j v d h1 h2 => ?_⟩
  obtain ⟨A1, c1, rfl, h3⟩ := hd j v d h1 h2
  refine ⟨A1, c1, rfl, h3.cap.1, h3.cap.2, fun e => ?_, h3.at_, fun k hk => ⟨(h3.lt k hk).2, out k (h3.lt k hk).1 (hy _ (List.mem_of_getElem? h1) A1 _ c1 rfl k hk)⟩⟩
  rcases h3.lies with ⟨_, h4, _⟩ | ⟨g, h4, _⟩
  · exact h4
  · rw [e] at h4; cases h4
theorem w_hear (h : Ways w0 w I F p s) (i : Nat) (hi : i < I) (A : Option Addr) (c : Nat) (l : List Nat) (hnc : l.length ≤ c) (hc : c ≤ maxLen) (hat : At w A (nats .u8 l)) (hb : ∀ y ∈ l, y < 256) :
    Calls Tryd.prog 10 #[.pointer (some ⟨p i, 0, none⟩), .slice A l.length c] w fun e w' => ∃ A1 c1, e = .returned (.tuple #[.slice A1 (hearR (s i) l).2.1.length c1, .bool (hearR (s i) l).2.2.1, erV (hearR (s i) l).2.2.2]) ∧
      Aft w0 w I F p (upd s i (hearR (s i) l).1) (fun w' F' => Dat w' F' A1 (hearR (s i) l).2.1) w' := by
  have ok := h.ok i hi
  refine (lhear_any w (h.lk i hi) ok.1 A l.length c l rfl hnc hc hat hb).mono ?_
  rintro e w' ⟨A1, c1, rfl, hat1, hc, F1, hl, hF, hx⟩
  obtain ⟨a, b⟩ := h.act i hc hl hF ⟨ok.1.hear l, by rw [(hearR_me _ _).1, (hearR_me _ _).2]; exact ok.2⟩
  refine ⟨A1, c1, rfl, _, a, b, hat1, fun k hk => ⟨(hx k hk).2.1, fun j hj => ?_⟩⟩
  by_cases e : j = i
  · subst e; rw [upd_self] at hj; exact (hx k hk).2.2 hj
  · rw [upd_ne _ _ e] at hj; have := (h.ge j k hj).2; have := (hx k hk).1; omega
theorem w_new (h : Ways w0 w I F p s) (hI : ∀ i k, F i k → i < I) (me ot E : Int) (h1 : 0 ≤ me ∧ me ≤ 255) (h2 : 0 ≤ ot ∧ ot ≤ 255) (h3 : me ≠ ot) (hE : 1 ≤ E ∧ E ≤ 1073741824) :
    Calls Tryd.prog 6 #[.int .i64 me, .int .i64 ot, .int .i64 E] w fun e w' => ∃ q F', e = .returned (.tuple #[.pointer (some ⟨q, 0, none⟩), .nilIface]) ∧ Ways w0 w' (I + 1) F' (upd p I q) (upd s I (newS me ot E)) ∧ (∀ i k, F' i k → i < I + 1) ∧ Keep w F w' F' := by
  refine (lnew_any w me ot E h1 h2 h3 hE).mono ?_
  rintro e w' ⟨q, F1, rfl, hb, hl, hF⟩
  refine ⟨q, upd F I F1, rfl, h.more hI hb hl hF ⟨LOk.new h1 h2 hE, h3⟩, fun i k hk => ?_, hb.size, fun k hk hn => ⟨hb.block k hk, fun j hj => ?_⟩⟩
  · by_cases e : i = I
    · omega
    · rw [upd_ne _ _ e] at hk; have := hI i k hk; omega
  · by_cases e : j = I
    · subst e; rw [upd_self] at hj; have := hF k hj; omega
    · rw [upd_ne _ _ e] at hj; exact hn j hj
end
/-! ### datagrams: bytes -/
theorem encL_byte {fr dt : Int} {k : Bool} {ep sq : Int} {b : List Nat} (hb : ∀ y ∈ b, y < 256) : ∀ y ∈ encL fr dt k ep sq b, y < 256 := by
  unfold encL
  split
  · rename_i hm
    obtain ⟨a, b', c, d, rfl, rfl, rfl, rfl⟩ := fmay_nat hm
    have hl := fmay_le hm
    exact fdat_byte (by simp; omega) (by simp; omega) (by split <;> omega) (by simp; omega) (by simp; omega) (by omega) hb
  · intro y hy; cases hy
theorem encL_good {fr dt : Nat} {k : Bool} {ep sq : Nat} {b : List Nat} (hm : FMay fr dt k ep sq b.length) : Good (encL fr dt k ep sq b) fr dt k ep sq b := by
  refine ⟨hm, ?_⟩
  unfold encL
  rw [if_pos hm]
  simp
theorem outA_byte {s : LSt} : ∀ b ∈ outA s, ∀ y ∈ b, y < 256 := by
  intro b hb
  unfold outA at hb
  split at hb
  · rw [List.mem_singleton.1 hb]; exact encL_byte (by simp)
  · cases hb
theorem outB_byte {s : LSt} (ok : LOk s) : ∀ b ∈ outB s, ∀ y ∈ b, y < 256 := by
  intro b hb
  unfold outB at hb
  cases hl : s.l with
  | nil => rw [hl] at hb; cases hb
  | cons x r =>
    rw [hl] at hb
    simp only at hb
    split at hb
    · rw [List.mem_singleton.1 hb]; exact encL_byte (ok.by_ x (by rw [hl]; exact List.mem_cons_self))
    · cases hb
end Go.Proofs.YtodimanghmepoaaDoor
