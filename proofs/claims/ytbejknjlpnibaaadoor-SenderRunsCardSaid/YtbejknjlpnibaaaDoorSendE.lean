/- Layer 17: Reset, Heard. -/
import Derived.Test.YtbejknjlpnibaaaDoorSendC
import Derived.Test.YtbejknjlpnibaaaDoorSendB
namespace Go.Proofs.YtbejknjlpnibaaaDoor
open Go.RowKit
section
variable {g base : Nat} {xs : List (Value × List Nat)} {E S : Int} {A : Option Addr} {n c : Nat} {vs : List Value} {l : List (List Nat)} {st lf : Int}
set_option maxRecDepth 100000 in
theorem reset_any (w : World) (h : Snd w g base xs E S A n c vs l st lf) (hE : 1 ≤ E ∧ E < 1073741824) :
    Calls Tryd.prog 9 #[.pointer (some ⟨g, 0, none⟩)] w fun e w' => e = .returned .nilIface ∧ Snd w' g base xs (E + 1) 1 A n c vs l 0 0 ∧ w.grownBy w' (some g) := by
  have h0 : w.cell? ⟨g, 0, none⟩ = some (.int .i64 E) := h.blk_.cell 0
  have h1 : w.cell? ⟨g, 1, none⟩ = some (.int .i64 S) := h.blk_.cell 1
  have h3 : w.cell? ⟨g, 3, none⟩ = some (.int .i64 st) := h.blk_.cell 3
  have h4 : w.cell? ⟨g, 4, none⟩ = some (.int .i64 lf) := h.blk_.cell 4
  have f0 : w.frozen? ⟨g, 0, none⟩ = false := h.blk_.frozen 0
  have f1 : w.frozen? ⟨g, 1, none⟩ = false := h.blk_.frozen 1
  have f3 : w.frozen? ⟨g, 3, none⟩ = false := h.blk_.frozen 3
  have f4 : w.frozen? ⟨g, 4, none⟩ = false := h.blk_.frozen 4
  have hd : decide (1073741824 ≤ E) = false := by simp; omega
  have HS := Lib.hid h
  clear h
  go_enter Tryd.func9, Tryd.ntmps9
  go_wp2
  go_ret
  exact ⟨rfl, HS.out.turn (grown_set (grown_set (grown_set (grown_set (grown_refl _ _) 0 _) 1 _) 3 _) 4 _) ((((HS.out.blk_.set 0 _).set 1 _).set 3 _).set 4 _), grown_set (grown_set (grown_set (grown_set (grown_refl _ _) 0 _) 1 _) 3 _) 4 _⟩
set_option maxRecDepth 100000 in
theorem heard_no (w : World) (e s : Int) (h : Snd w g base xs E S A n c vs l st lf) (h0 : e ≠ E ∨ s ≠ S ∨ n = 0) :
    Calls Tryd.prog 8 #[.pointer (some ⟨g, 0, none⟩), .int .i64 e, .int .i64 s] w fun e w' => e = .returned (.bool false) ∧ w = w' := by
  have q0 : w.cell? ⟨g, 0, none⟩ = some (.int .i64 E) := h.blk_.cell 0
  have q1 : w.cell? ⟨g, 1, none⟩ = some (.int .i64 S) := h.blk_.cell 1
  have q2 : w.cell? ⟨g, 2, none⟩ = some (.slice A n c) := h.blk_.cell 2
  clear h
  by_cases he : e = E
  · subst he
    by_cases hs : s = S
    · subst hs
      obtain rfl : n = 0 := by rcases h0 with h | h | h <;> simp_all
      clear h0
      go_enter Tryd.func8, Tryd.ntmps8
      go_wp2
      go_ret
      exact ⟨rfl, rfl⟩
    · clear h0
      have hd : decide (s = S) = false := by simpa using hs
      go_enter Tryd.func8, Tryd.ntmps8
      go_wp2
      go_ret
      exact ⟨rfl, rfl⟩
  · clear h0
    have hd : decide (e = E) = false := by simpa using he
    go_enter Tryd.func8, Tryd.ntmps8
    go_wp2
    go_ret
    exact ⟨rfl, rfl⟩
/-- what Heard leaves where one more was heard -/
def Hear (w : World) (g base : Nat) (xs : List (Value × List Nat)) (E S : Int) (rest : List (List Nat)) (e : Ending) (w' : World) : Prop :=
  e = .returned (.bool true) ∧ IsSnd w' g base xs E (S + 1) rest 0 0 ∧ Below base w w'
set_option maxRecDepth 100000 in
set_option maxHeartbeats 1000000 in
theorem heard_yes (w : World) {b : List Nat} {rest : List (List Nat)} (h : Snd w g base xs E S A n c vs (b :: rest) st lf) (hS : 1 ≤ S ∧ S ≤ 1073741824) (hw : base ≤ w.heap.size) :
    Calls Tryd.prog 8 #[.pointer (some ⟨g, 0, none⟩), .int .i64 E, .int .i64 S] w (Hear w g base xs E S rest) := by
  have hlen := h.len
  obtain ⟨m, rfl⟩ : ∃ m, n = m + 1 := ⟨rest.length, by simp at hlen; omega⟩
  have hvl := h.vlen
  obtain ⟨v, vs', rfl⟩ : ∃ v vs', vs = v :: vs' := by
    cases vs with
    | nil => simp at hvl
    | cons v vs' => exact ⟨v, vs', rfl⟩
  rcases h.own.lies with ⟨_, h0, _⟩ | ⟨g2, rfl, hg2, hlt2⟩
  · omega
  have hgg : g2 ≠ g := fun e => h.far (by simp [blk, e])
  have hone : ∀ u ∈ vs', u.oneCell' = true := by
    intro u hu
    obtain ⟨i, hi, rfl⟩ := List.mem_iff_getElem.1 hu
    have hl : i < rest.length := by simp at hlen hvl; omega
    obtain ⟨A1, c1, e, _⟩ := h.bod (i + 1) (vs'[i]) (rest[i]) (by simp [List.getElem?_eq_getElem hi]) (by simp [List.getElem?_eq_getElem hl])
    rw [e]; rfl
  have hcap := h.own.cap.2
  unfold maxLen at hcap
  have q0 : w.cell? ⟨g, 0, none⟩ = some (.int .i64 E) := h.blk_.cell 0
  have q1 : w.cell? ⟨g, 1, none⟩ = some (.int .i64 S) := h.blk_.cell 1
  have q2 : w.cell? ⟨g, 2, none⟩ = some (.slice (some ⟨g2, 0, none⟩) (m + 1) c) := h.blk_.cell 2
  have hnz : decide ((m : Int) + 1 = 0) = false := by simp; omega
  have HS := Lib.hid h
  clear h
  go_enter Tryd.func8, Tryd.ntmps8
  go_wp2_with (go_at_call 22; refine (delete_any base g2 m c v vs' w HS.out.own hone (by omega)).mono ?_; rintro e w2 ⟨rfl, own2, gr⟩; have H2 := HS.out.blk_.grown gr (by intro e; injection e with e; exact hgg e); have r1 : w2.cell? ⟨g, 1, none⟩ = some (.int .i64 S) := H2.cell 1; have r2 : w2.cell? ⟨g, 2, none⟩ = some (.slice (some ⟨g2, 0, none⟩) (m + 1) c) := H2.cell 2; have r3 : w2.cell? ⟨g, 3, none⟩ = some (.int .i64 st) := H2.cell 3; have r4 : w2.cell? ⟨g, 4, none⟩ = some (.int .i64 lf) := H2.cell 4; have f1 := H2.frozen 1; have f2 := H2.frozen 2; have f3 := H2.frozen 3; have f4 := H2.frozen 4)
  go_ret
  have G : w2.grownBy ((((w2.setCell ⟨g, 2, none⟩ (.slice (some ⟨g2, 0, none⟩) m c)).setCell ⟨g, 1, none⟩ (.int .i64 (S + 1))).setCell ⟨g, 3, none⟩ (.int .i64 0)).setCell ⟨g, 4, none⟩ (.int .i64 0)) (some g) := grown_set (grown_set (grown_set (grown_set (grown_refl _ _) 2 _) 1 _) 3 _) 4 _
  refine ⟨rfl, ⟨some ⟨g2, 0, none⟩, m, c, vs', ?_, ?_, ?_, ?_, ?_, ?_, ?_⟩, ?_⟩
  · exact (((H2.set 2 _).set 1 _).set 3 _).set 4 _
  · exact own2.kept G (.inr (by intro e; simp [blk] at e; exact hgg e))
  · simpa using hlen
  · intro i u d h1 h2
    have hb := HS.out.bod (i + 1) u d (by simpa using h1) (by simpa using h2)
    exact (hb.grown (A' := some ⟨g2, 0, none⟩) gr (.inr rfl) (fun k e => .inl e)).grown G (.inl rfl) (fun k e => .inl e)
  · exact HS.out.far
  · exact HS.out.ge
  · exact fun p hp => ((HS.out.ext p hp).grown (A' := some ⟨g2, 0, none⟩) gr (.inr rfl) (fun k e => .inl e)).grown G (.inl rfl) (fun k e => .inl e)
  · exact (below_of_grown gr hg2 hw).trans (below_of_grown G HS.out.ge (Nat.le_trans hw gr.size))
end
end Go.Proofs.YtbejknjlpnibaaaDoor
