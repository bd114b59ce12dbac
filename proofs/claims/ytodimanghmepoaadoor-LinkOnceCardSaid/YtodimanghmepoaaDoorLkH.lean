/- Layer 19: an end of a way: Out, whatever the end is. -/
import Derived.Test.YtodimanghmepoaaDoorLkG
namespace Go.Proofs.YtodimanghmepoaaDoor
open Go.RowKit
theorem enc_ok (fr dt : Int) (k : Bool) (ep sq : Int) (A : Option Addr) (n c : Nat) (b : List Nat) (w : World) (hm : FMay fr dt k ep sq b.length) (hl : b.length = n) (hat : At w A (nats .u8 b)) :
    Calls Tryd.prog 23 #[.agg #[.int .i64 fr, .int .i64 dt, .bool k, .int .i64 ep, .int .i64 sq, .slice A n c]] w (EncR w (encL fr dt k ep sq b) .nilIface) := by
  have h := enc_any fr dt k ep sq A n c b w hl hat
  have e : encX fr dt k ep sq b.length = 0 := by unfold encX; rw [if_pos hm]
  rw [e, erV_zero] at h
  exact h
noncomputable def outA (s : LSt) : List (List Nat) := if s.gv = true then [encL s.me s.ot true s.ep s.sq []] else []
noncomputable def outB (s : LSt) : List (List Nat) := match s.l with
  | b :: _ => if s.lf = 0 then [encL s.me s.ot false s.E s.S b] else []
  | [] => []
def outS (s : LSt) : LSt := match s.l with
  | _ :: _ => if s.lf = 0 then { s with gv := false, st := (min (s.st.toNat + 1) 3 : Nat), lf := (3 * 2 ^ s.st.toNat : Nat) } else { s with gv := false }
  | [] => { s with gv := false }
theorem lout_any (w : World) {F : Nat → Prop} {p : Nat} {s : LSt} (h : LkS w F p s) (ok : LOk s) (hne : s.me ≠ s.ot) :
    Calls Tryd.prog 9 #[.pointer (some ⟨p, 0, none⟩)] w (OutE w F p (outS s) (outA s ++ outB s)) := by
  have QE : s.gv = true → ∀ W : World, Calls Tryd.prog 23 #[.agg #[.int .i64 s.me, .int .i64 s.ot, .bool true, .int .i64 s.ep, .int .i64 s.sq, .slice none 0 0]] W (EncR W (encL s.me s.ot true s.ep s.sq []) .nilIface) := fun hg W =>
    enc_ok _ _ _ _ _ none 0 0 [] W ⟨ok.me, ok.ot, hne, (ok.gv hg).1, (ok.gv hg).2, fun _ => rfl, fun h => by cases h⟩ rfl (At.nil _ _)
  obtain ⟨k, hk, hst⟩ := ok.st
  by_cases hn : s.l.length = 0 ∨ 0 < s.lf
  · have e1 : outB s = [] := by
      unfold outB
      cases hl : s.l with
      | nil => rfl
      | cons b r => simp only; rw [if_neg (by rw [hl] at hn; simp at hn; omega)]
    have e2 : outS s = { s with gv := false } := by
      unfold outS
      cases hl : s.l with
      | nil => rfl
      | cons b r => simp only; rw [if_neg (by rw [hl] at hn; simp at hn; omega)]
    rw [e1, e2, List.append_nil]
    unfold outA
    by_cases hg : s.gv = true
    · rw [if_pos hg]; exact lout_wn w h hg rfl (QE hg) hn
    · rw [if_neg hg]; exact lout_nn w h (by simpa using hg) hn
  · obtain ⟨b, r, hl⟩ : ∃ b r, s.l = b :: r := by
      cases hl : s.l with
      | nil => exact absurd (.inl (by rw [hl]; rfl)) hn
      | cons b r => exact ⟨b, r, rfl⟩
    have h0 : s.lf = 0 := by have := ok.lf; omega
    have hb : b ∈ s.l := by rw [hl]; exact List.mem_cons_self
    have hS := ok.S
    have hll : s.l.length = r.length + 1 := by rw [hl]; rfl
    have QF : ∀ (W : World) (A : Option Addr) (c : Nat), At W A (nats .u8 b) → Calls Tryd.prog 23 #[.agg #[.int .i64 s.me, .int .i64 s.ot, .bool false, .int .i64 s.E, .int .i64 s.S, .slice A b.length c]] W (EncR W (encL s.me s.ot false s.E s.S b) .nilIface) := fun W A c hat =>
      enc_ok _ _ _ _ _ A b.length c b W ⟨ok.me, ok.ot, hne, ok.E, ⟨by omega, by omega⟩, (fun h => by cases h), (fun _ => ⟨by omega, ok.len b hb⟩)⟩ rfl hat
    have e1 : outB s = [encL s.me s.ot false s.E s.S b] := by unfold outB; rw [hl]; simp only; rw [if_pos h0]
    have e2 : outS s = { s with gv := false, st := (min (k + 1) 3 : Nat), lf := (3 * 2 ^ k : Nat) } := by
      unfold outS; rw [hl]; simp only; rw [if_pos h0, hst]; rfl
    rw [e1, e2]
    unfold outA
    by_cases hg : s.gv = true
    · rw [if_pos hg]; exact lout_ws w h hg rfl (QE hg) hl k hk hst h0 rfl QF
    · rw [if_neg hg]; exact lout_ns w h (by simpa using hg) hl k hk hst h0 rfl QF
end Go.Proofs.YtodimanghmepoaaDoor
