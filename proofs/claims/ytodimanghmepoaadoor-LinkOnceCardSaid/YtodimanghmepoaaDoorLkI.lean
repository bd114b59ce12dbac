/- Layer 19: an end of a way: Hear, where what is heard is no datagram, or not of this way. -/
import Derived.Test.YtodimanghmepoaaDoorLkH
import Derived.Test.YtodimanghmepoaaDoorLrA
import Derived.BigQuiet
namespace Go.Proofs.YtodimanghmepoaaDoor
open Go.RowKit
/-- what a sender's end is behind word of it -/
def heardS (s : LSt) (e q : Int) : LSt := match s.l with
  | _ :: rest => if e = s.E ∧ q = s.S then { s with S := s.S + 1, l := rest, st := 0, lf := 0 } else s
  | [] => s
def takeS (s : LSt) (e q : Int) : LSt :=
  let r := rc s.RE s.RL e q
  if 0 ≤ r.2.2 then { s with RE := r.1.1, RL := r.1.2, gv := true, ep := e, sq := r.2.2 } else { s with RE := r.1.1, RL := r.1.2 }
/-- what Hear hands back: a body, whether there is one, an error's number -/
def HearE (w : World) (F : Nat → Prop) (p : Nat) (s' : LSt) (bd : List Nat) (is : Bool) (x : Int) (e : Ending) (w' : World) : Prop :=
  ∃ A c, e = .returned (.tuple #[.slice A bd.length c, .bool is, erV x]) ∧ At w' A (nats .u8 bd) ∧ Chg F w w' ∧ ∃ F' : Nat → Prop, LkS w' F' p s' ∧ (∀ k, F' k → F k ∨ w.heap.size ≤ k) ∧ ∀ k, blk A = some k → w.heap.size ≤ k ∧ k < w'.heap.size ∧ ¬ F' k
theorem hearE_no {w w' : World} {F : Nat → Prop} {p : Nat} {s' : LSt} {is : Bool} {x : Int} {e : Ending} (h : LkN w F p s' w') (he : e = .returned (.tuple #[.slice none 0 0, .bool is, erV x])) : HearE w F p s' [] is x e w' :=
  ⟨none, 0, he, At.nil _ _, h.1, h.2.imp fun _ ⟨a, b⟩ => ⟨a, b, fun k hk => by cases hk⟩⟩
theorem LkN.below {w w' : World} {F : Nat → Prop} {p : Nat} {s : LSt} (h : LkS w F p s) (b : Below w.heap.size w w') : LkN w F p s w' := ⟨Chg.of_below b, F, h.later b, fun _ h => .inl h⟩
section
variable {F : Nat → Prop} {p : Nat} {s : LSt}
set_option maxRecDepth 100000 in
set_option maxHeartbeats 2000000 in
theorem lhear_err (w : World) (h : LkS w F p s) (A : Option Addr) (n c : Nat) (l : List Nat) (hl : l.length = n) (hnc : n ≤ c) (hc2 : c ≤ 9223372036854775807) (hat : At w A (nats .u8 l)) (hb : ∀ y ∈ l, y < 256)
    (hno : ∀ a b c d e f, ¬ Good l a b c d e f) :
    Calls Tryd.prog 10 #[.pointer (some ⟨p, 0, none⟩), .slice A n c] w (HearE w F p s [] false (errN l)) := by
  have CD := Lib.hid (dec_any A n c l w hl hnc hc2 hat hb)
  have H := Lib.hid h
  have HN := Lib.hid hno
  clear h hat hb hl hnc hc2 hno
  go_enter Tryd.func10, Tryd.ntmps10
  go_wp2_with fail
  refine CD.out.mono ?_
  rintro e w1 ⟨fr, dt, k, ep, sq, bd, x, A1, c1, rfl, hat1, b1, hres, -⟩
  have hx : erV x = .iface 70 (.int .i64 (errN l)) := by
    rcases hres with ⟨_, hg⟩ | ⟨h1, _⟩
    · exact absurd hg (HN.out _ _ _ _ _ _)
    · rw [h1]; exact erV_ne (errN_ne l)
  rw [hx]
  simp only [pkF]
  have HLK := Lib.hid (H.out.later b1)
  have B1 := Lib.hid b1
  clear hat1 b1 hres
  go_wp2_with fail
  exact bodyPost_ret (v := .tuple #[.slice none 0 0, .bool false, .iface 70 (.int .i64 (errN l))]) (by simp [results, Tryd.results10, go_sem]) rfl (hearE_no (LkN.below H.out (B1.out.alloc B1.out.size _)) (by rw [erV_ne (errN_ne l)]))
end
end Go.Proofs.YtodimanghmepoaaDoor
