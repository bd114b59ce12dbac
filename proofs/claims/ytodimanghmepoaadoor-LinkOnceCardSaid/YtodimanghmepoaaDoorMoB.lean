/- Layer 19: region 17. Printed by lor.py. Layer 19: region 18. Printed by lor.py. Layer 19: an end sends: region 23. Printed by lor.py. Layer 19: region 31. Printed by lor.py. Layer 19: region 33. Printed by lor.py. Layer 19: region 38. Printed by lor.py. Layer 19: region 41. Printed by lor.py. Layer 19: region 44. Printed by lor.py. Layer 19: region 45. Printed by lor.py. Layer 19: region 52. Printed by lor.py. -/
import Derived.Test.YtodimanghmepoaaDoorMoA
namespace Go.Proofs.YtodimanghmepoaaDoor
open Go.RowKit
set_option maxRecDepth 100000 in
set_option maxHeartbeats 4000000 in
theorem reg17_0 {Q : Exit → Act → World → Prop} {l0 : List Value} {d0} {w0 w : World} {F : Nat → Nat → Prop} {p : Nat → Nat} {s : Nat → LSt} {g7 g8 g9 g10 g13 : Nat} {V : Nat → WyR} {P C : Nat → List Nat} {K T X : Nat} (hlen : l0.length = 312) (e7 : l0.toArray.getD 7 undef = .pointer (some ⟨g7, 0, none⟩)) (e13 : l0.toArray.getD 13 undef = .pointer (some ⟨g13, 0, none⟩)) (e14 : l0.toArray.getD 14 undef = .int .i64 0) (h : SV w0 w F p s g7 g8 g9 g10 g13 V P C K T X) (hX256 : X < 256) (hSl : (s 0).S + (s 0).l.length ≤ 1073741824)
    (hf : ∀ (f : Nat → Value) (W : World) (F' : Nat → Nat → Prop) (s' : Nat → LSt) (b : Bool), SV w0 W F' p s' g7 g8 g9 g10 g13 V P C K T X → f 86 = .bool b → ((b = true ∧ (s 0).l.length < 64 ∧ s' = upd s 0 (putS (s 0) [X])) ∨ (b = false ∧ s' = s)) → Q .normal ⟨(over f (inR 79 86 79) 0 l0).toArray, d0⟩ W) :
    (Code.region 17 ops_17.1 true).wp Tryd.prog Q ⟨l0.toArray, d0⟩ w := by
  refine wp_region_chainO (inR 79 86 79) 8 [5, 6] (fun vs W => ∃ (F' : Nat → Nat → Prop) (s' : Nat → LSt), SX w0 W F' p s' g7 g8 g9 g10 g13 (fun i => (V i).v) V P C K T X ∧ (match vs with
        | [] => s' = s
        | [v] => s' = s ∧ ∃ A2 c2, v = .slice A2 1 c2 ∧ At W A2 (nats .u8 [X]) ∧ A2 ≠ none
        | [_, v] => ((s 0).l.length < 64 ∧ v = .nilIface ∧ s' = upd s 0 (putS (s 0) [X])) ∨ (64 ≤ (s 0).l.length ∧ v = .iface 70 (.int .i64 14) ∧ s' = s)
        | _ => False)) (isK (.int .i64 0) :: isK (.pointer (some ⟨g7, 0, none⟩)) :: isK (.pointer (some ⟨p 0, 0, none⟩)) :: isK (.pointer (some ⟨g13, 2, none⟩)) :: isK (.int .u8 (X : Int)) :: RelK.any_ :: RelK.any_ :: isK (.bool (decide ((s 0).l.length < 64))) :: [])
    [⟨[], [14], none⟩, ⟨[(79, 0)], [7], none⟩, ⟨[(80, 1)], [], none⟩, ⟨[], [13], none⟩, ⟨[(82, 3)], [], none⟩, ⟨[(83, 4)], [], none⟩, ⟨[(81, 2), (84, 5)], [], none⟩, ⟨[(85, 6)], [], none⟩] (by kernel_rfl) (by kernel_rfl) (by rw [hlen]; kernel_rfl) (by kernel_rfl) (by kernel_rfl) (by kernel_rfl) (by kernel_rfl) ?hphi ?mono ?h0 ?steps ?fin
  case hphi =>
    rintro vs W W' ⟨F', s', hS, hx⟩ hb
    refine ⟨F', s', hS.later hb, ?_⟩
    match vs, hx with
    | [], hx => exact hx
    | [v], ⟨h1, A2, c2, h2, h3, h4⟩ => exact ⟨h1, A2, c2, h2, h3.later hb (Nat.le_refl _), h4⟩
    | [_, v], hx => exact hx
  case h0 =>
    exact ⟨F, s, h, rfl⟩
  case steps =>
    refine ⟨fun ρ W vs ⟨hcst, hglb, hfun⟩ hX hp ho => ?_, ?_⟩ -- 0: slot 79 := Op.move t14
    · obtain ⟨o14, -⟩ := ho
      change ρ (.tmp 14) = l0.toArray.getD 14 undef at o14
      rw [e14] at o14
      refine turn_plain (ok_is ?_ rfl); simp only [execOp, o14]; go_simp; try exact rfl
    refine ⟨fun ρ W vs ⟨hcst, hglb, hfun⟩ hX hp ho => ?_, ?_⟩ -- 1: slot 80 := Op.indexAddr 64 t7 t79
    · obtain ⟨p79, -⟩ := hp
      change ρ (.tmp 79) = _ at p79
      obtain ⟨o7, -⟩ := ho
      change ρ (.tmp 7) = l0.toArray.getD 7 undef at o7
      rw [e7] at o7
      refine turn_plain (ok_is ?_ rfl); simp only [execOp, p79, o7]; go_simp; try exact rfl
    refine ⟨fun ρ W vs ⟨hcst, hglb, hfun⟩ hX hp ho => ?_, ?_⟩ -- 2: slot 81 := Op.load 24 t80
    · obtain ⟨p80, -⟩ := hp
      change ρ (.tmp 80) = _ at p80
      obtain ⟨F', s', hS, -⟩ := hX
      have q : W.cell? ⟨g7, 0, none⟩ = some (.pointer (some ⟨p 0, 0, none⟩)) := hS.h7.cell 0
      refine turn_plain (ok_is ?_ rfl); simp only [execOp, p80]; go_simp; try exact rfl
    refine ⟨fun ρ W vs ⟨hcst, hglb, hfun⟩ hX hp ho => ?_, ?_⟩ -- 3: slot 82 := Op.fieldAddr 68 t13 2
    · obtain ⟨o13, -⟩ := ho
      change ρ (.tmp 13) = l0.toArray.getD 13 undef at o13
      rw [e13] at o13
      refine turn_plain (ok_is ?_ rfl); simp only [execOp, o13]; go_simp; try exact rfl
    refine ⟨fun ρ W vs ⟨hcst, hglb, hfun⟩ hX hp ho => ?_, ?_⟩ -- 4: slot 83 := Op.load 5 t82
    · obtain ⟨p82, -⟩ := hp
      change ρ (.tmp 82) = _ at p82
      obtain ⟨F', s', hS, -⟩ := hX
      have q : W.cell? ⟨g13, 2, none⟩ = some (.int .u8 (X : Int)) := hS.h13.cell 2
      refine turn_plain (ok_is ?_ rfl); simp only [execOp, p82]; go_simp; try exact rfl
    refine ⟨fun ρ W vs ⟨hcst, hglb, hfun⟩ hvl hX hp ho => ?_, ?_⟩ -- 5: slot 84 := Op.buildSlice 22 1 #[(0, t83)]
    · obtain ⟨p83, -⟩ := hp
      change ρ (.tmp 83) = _ at p83
      obtain rfl := List.eq_nil_of_length_eq_zero hvl
      obtain ⟨F', s', hS, rfl⟩ := hX
      refine actK_val (exec_build8 _ rfl p83) ?_
      exact ⟨F', _, hS.later ((Below.refl _ _).alloc (Nat.le_refl _) _), rfl, _, _, rfl, At.lit W #[.int .u8 (X : Int)] _ (0, 0) _ rfl, by simp⟩
    refine ⟨fun ρ W vs ⟨hcst, hglb, hfun⟩ hvl hX hp ho => ?_, ?_⟩ -- 6: slot 85 := Op.call { value (Operand.func 8), args := #[t81, t84], argTypes := #[24, 22] }
    · obtain ⟨p81, p84, -⟩ := hp
      change ρ (.tmp 81) = _ at p81
      change 0 < vs.length ∧ ρ (.tmp 84) = vs.getD 0 undef at p84
      have ce := @enter_of Tryd.prog 8 _ Tryd.func8 (by kernel_rfl) (by kernel_rfl)
      obtain ⟨v, rfl⟩ := one_of hvl
      obtain ⟨F', s', hS, rfl, A2, c2, rfl, hat, hz⟩ := hX
      obtain ⟨-, p84⟩ := p84
      change ρ (.tmp 84) = .slice A2 1 c2 at p84
      refine actK_call (op_call2 hfun ce (by exact rfl) p81 p84) ?_
      refine (w_putO hS 0 (by decide) rfl A2 c2 X hX256 hat hz hSl).mono ?_
      rintro e W' ⟨v, F1, s1, rfl, hS1, hv⟩
      exact ⟨_, rfl, F1, s1, hS1, hv⟩
    refine ⟨fun ρ W vs ⟨hcst, hglb, hfun⟩ hX hp ho => ?_, ?_⟩ -- 7: slot 86 := Op.binOp BinOp.eql 26 t85 (const Value.nilIface) 26
    · obtain ⟨p85, -⟩ := hp
      change 1 < vs.length ∧ ρ (.tmp 85) = vs.getD 1 undef at p85
      obtain ⟨hvl, p85⟩ := p85
      obtain ⟨F', s', hS, hx⟩ := hX
      refine turn_plain (ok_is ?_ rfl)
      match vs, hx, hvl, p85 with
      | [v], _, hvl, _ => exact absurd hvl (by simp)
      | [_, v], hx, _, p85 =>
        change ρ (.tmp 85) = v at p85
        rcases hx with ⟨h1, rfl, -⟩ | ⟨h1, rfl, -⟩
        · rw [decide_eq_true h1]; simp only [execOp, hcst, p85]; go_simp; try exact rfl
        · rw [decide_eq_false (by omega : ¬ _)]; simp only [execOp, hcst, p85]; go_simp; try exact rfl
    exact trivial
  case mono => exact ⟨mono_isK _, mono_isK _, mono_isK _, mono_isK _, mono_isK _, mono_anyK, mono_anyK, mono_isK _, trivial⟩
  case fin =>
    intro f W vs hvl h hR
    obtain ⟨F', s', hS, hx⟩ := h
    obtain ⟨u, v, rfl⟩ := two_of hvl
    have h86 : f 86 = .bool (decide ((s 0).l.length < 64)) := hR 7 86 (by omega) rfl
    rcases hx with ⟨h1, -, rfl⟩ | ⟨h1, -, rfl⟩
    · exact hf f W F' _ true hS (by rw [h86, decide_eq_true h1]) (.inl ⟨rfl, h1, rfl⟩)
    · exact hf f W F' _ false hS (by rw [h86, decide_eq_false (by omega)]) (.inr ⟨rfl, rfl⟩)
set_option maxRecDepth 100000 in
set_option maxHeartbeats 4000000 in
theorem reg17_1 {Q : Exit → Act → World → Prop} {l0 : List Value} {d0} {w0 w : World} {F : Nat → Nat → Prop} {p : Nat → Nat} {s : Nat → LSt} {g7 g8 g9 g10 g13 : Nat} {V : Nat → WyR} {P C : Nat → List Nat} {K T X : Nat} (hlen : l0.length = 312) (e7 : l0.toArray.getD 7 undef = .pointer (some ⟨g7, 0, none⟩)) (e13 : l0.toArray.getD 13 undef = .pointer (some ⟨g13, 0, none⟩)) (e14 : l0.toArray.getD 14 undef = .int .i64 1) (h : SV w0 w F p s g7 g8 g9 g10 g13 V P C K T X) (hX256 : X < 256) (hSl : (s 1).S + (s 1).l.length ≤ 1073741824)
    (hf : ∀ (f : Nat → Value) (W : World) (F' : Nat → Nat → Prop) (s' : Nat → LSt) (b : Bool), SV w0 W F' p s' g7 g8 g9 g10 g13 V P C K T X → f 86 = .bool b → ((b = true ∧ (s 1).l.length < 64 ∧ s' = upd s 1 (putS (s 1) [X])) ∨ (b = false ∧ s' = s)) → Q .normal ⟨(over f (inR 79 86 79) 0 l0).toArray, d0⟩ W) :
    (Code.region 17 ops_17.1 true).wp Tryd.prog Q ⟨l0.toArray, d0⟩ w := by
  refine wp_region_chainO (inR 79 86 79) 8 [5, 6] (fun vs W => ∃ (F' : Nat → Nat → Prop) (s' : Nat → LSt), SX w0 W F' p s' g7 g8 g9 g10 g13 (fun i => (V i).v) V P C K T X ∧ (match vs with
        | [] => s' = s
        | [v] => s' = s ∧ ∃ A2 c2, v = .slice A2 1 c2 ∧ At W A2 (nats .u8 [X]) ∧ A2 ≠ none
        | [_, v] => ((s 1).l.length < 64 ∧ v = .nilIface ∧ s' = upd s 1 (putS (s 1) [X])) ∨ (64 ≤ (s 1).l.length ∧ v = .iface 70 (.int .i64 14) ∧ s' = s)
        | _ => False)) (isK (.int .i64 1) :: isK (.pointer (some ⟨g7, 1, none⟩)) :: isK (.pointer (some ⟨p 1, 0, none⟩)) :: isK (.pointer (some ⟨g13, 2, none⟩)) :: isK (.int .u8 (X : Int)) :: RelK.any_ :: RelK.any_ :: isK (.bool (decide ((s 1).l.length < 64))) :: [])
    [⟨[], [14], none⟩, ⟨[(79, 0)], [7], none⟩, ⟨[(80, 1)], [], none⟩, ⟨[], [13], none⟩, ⟨[(82, 3)], [], none⟩, ⟨[(83, 4)], [], none⟩, ⟨[(81, 2), (84, 5)], [], none⟩, ⟨[(85, 6)], [], none⟩] (by kernel_rfl) (by kernel_rfl) (by rw [hlen]; kernel_rfl) (by kernel_rfl) (by kernel_rfl) (by kernel_rfl) (by kernel_rfl) ?hphi ?mono ?h0 ?steps ?fin
  case hphi =>
    rintro vs W W' ⟨F', s', hS, hx⟩ hb
    refine ⟨F', s', hS.later hb, ?_⟩
    match vs, hx with
    | [], hx => exact hx
    | [v], ⟨h1, A2, c2, h2, h3, h4⟩ => exact ⟨h1, A2, c2, h2, h3.later hb (Nat.le_refl _), h4⟩
    | [_, v], hx => exact hx
  case h0 =>
    exact ⟨F, s, h, rfl⟩
  case steps =>
    refine ⟨fun ρ W vs ⟨hcst, hglb, hfun⟩ hX hp ho => ?_, ?_⟩ -- 0: slot 79 := Op.move t14
    · obtain ⟨o14, -⟩ := ho
      change ρ (.tmp 14) = l0.toArray.getD 14 undef at o14
      rw [e14] at o14
      refine turn_plain (ok_is ?_ rfl); simp only [execOp, o14]; go_simp; try exact rfl
    refine ⟨fun ρ W vs ⟨hcst, hglb, hfun⟩ hX hp ho => ?_, ?_⟩ -- 1: slot 80 := Op.indexAddr 64 t7 t79
    · obtain ⟨p79, -⟩ := hp
      change ρ (.tmp 79) = _ at p79
      obtain ⟨o7, -⟩ := ho
      change ρ (.tmp 7) = l0.toArray.getD 7 undef at o7
      rw [e7] at o7
      refine turn_plain (ok_is ?_ rfl); simp only [execOp, p79, o7]; go_simp; try exact rfl
    refine ⟨fun ρ W vs ⟨hcst, hglb, hfun⟩ hX hp ho => ?_, ?_⟩ -- 2: slot 81 := Op.load 24 t80
    · obtain ⟨p80, -⟩ := hp
      change ρ (.tmp 80) = _ at p80
      obtain ⟨F', s', hS, -⟩ := hX
      have q : W.cell? ⟨g7, 1, none⟩ = some (.pointer (some ⟨p 1, 0, none⟩)) := hS.h7.cell 1
      refine turn_plain (ok_is ?_ rfl); simp only [execOp, p80]; go_simp; try exact rfl
    refine ⟨fun ρ W vs ⟨hcst, hglb, hfun⟩ hX hp ho => ?_, ?_⟩ -- 3: slot 82 := Op.fieldAddr 68 t13 2
    · obtain ⟨o13, -⟩ := ho
      change ρ (.tmp 13) = l0.toArray.getD 13 undef at o13
      rw [e13] at o13
      refine turn_plain (ok_is ?_ rfl); simp only [execOp, o13]; go_simp; try exact rfl
    refine ⟨fun ρ W vs ⟨hcst, hglb, hfun⟩ hX hp ho => ?_, ?_⟩ -- 4: slot 83 := Op.load 5 t82
    · obtain ⟨p82, -⟩ := hp
      change ρ (.tmp 82) = _ at p82
      obtain ⟨F', s', hS, -⟩ := hX
      have q : W.cell? ⟨g13, 2, none⟩ = some (.int .u8 (X : Int)) := hS.h13.cell 2
      refine turn_plain (ok_is ?_ rfl); simp only [execOp, p82]; go_simp; try exact rfl
    refine ⟨fun ρ W vs ⟨hcst, hglb, hfun⟩ hvl hX hp ho => ?_, ?_⟩ -- 5: slot 84 := Op.buildSlice 22 1 #[(0, t83)]
    · obtain ⟨p83, -⟩ := hp
      change ρ (.tmp 83) = _ at p83
      obtain rfl := List.eq_nil_of_length_eq_zero hvl
      obtain ⟨F', s', hS, rfl⟩ := hX
      refine actK_val (exec_build8 _ rfl p83) ?_
      exact ⟨F', _, hS.later ((Below.refl _ _).alloc (Nat.le_refl _) _), rfl, _, _, rfl, At.lit W #[.int .u8 (X : Int)] _ (0, 0) _ rfl, by simp⟩
    refine ⟨fun ρ W vs ⟨hcst, hglb, hfun⟩ hvl hX hp ho => ?_, ?_⟩ -- 6: slot 85 := Op.call { value (Operand.func 8), args := #[t81, t84], argTypes := #[24, 22] }
    · obtain ⟨p81, p84, -⟩ := hp
      change ρ (.tmp 81) = _ at p81
      change 0 < vs.length ∧ ρ (.tmp 84) = vs.getD 0 undef at p84
      have ce := @enter_of Tryd.prog 8 _ Tryd.func8 (by kernel_rfl) (by kernel_rfl)
      obtain ⟨v, rfl⟩ := one_of hvl
      obtain ⟨F', s', hS, rfl, A2, c2, rfl, hat, hz⟩ := hX
      obtain ⟨-, p84⟩ := p84
      change ρ (.tmp 84) = .slice A2 1 c2 at p84
      refine actK_call (op_call2 hfun ce (by exact rfl) p81 p84) ?_
      refine (w_putO hS 1 (by decide) rfl A2 c2 X hX256 hat hz hSl).mono ?_
      rintro e W' ⟨v, F1, s1, rfl, hS1, hv⟩
      exact ⟨_, rfl, F1, s1, hS1, hv⟩
    refine ⟨fun ρ W vs ⟨hcst, hglb, hfun⟩ hX hp ho => ?_, ?_⟩ -- 7: slot 86 := Op.binOp BinOp.eql 26 t85 (const Value.nilIface) 26
    · obtain ⟨p85, -⟩ := hp
      change 1 < vs.length ∧ ρ (.tmp 85) = vs.getD 1 undef at p85
      obtain ⟨hvl, p85⟩ := p85
      obtain ⟨F', s', hS, hx⟩ := hX
      refine turn_plain (ok_is ?_ rfl)
      match vs, hx, hvl, p85 with
      | [v], _, hvl, _ => exact absurd hvl (by simp)
      | [_, v], hx, _, p85 =>
        change ρ (.tmp 85) = v at p85
        rcases hx with ⟨h1, rfl, -⟩ | ⟨h1, rfl, -⟩
        · rw [decide_eq_true h1]; simp only [execOp, hcst, p85]; go_simp; try exact rfl
        · rw [decide_eq_false (by omega : ¬ _)]; simp only [execOp, hcst, p85]; go_simp; try exact rfl
    exact trivial
  case mono => exact ⟨mono_isK _, mono_isK _, mono_isK _, mono_isK _, mono_isK _, mono_anyK, mono_anyK, mono_isK _, trivial⟩
  case fin =>
    intro f W vs hvl h hR
    obtain ⟨F', s', hS, hx⟩ := h
    obtain ⟨u, v, rfl⟩ := two_of hvl
    have h86 : f 86 = .bool (decide ((s 1).l.length < 64)) := hR 7 86 (by omega) rfl
    rcases hx with ⟨h1, -, rfl⟩ | ⟨h1, -, rfl⟩
    · exact hf f W F' _ true hS (by rw [h86, decide_eq_true h1]) (.inl ⟨rfl, h1, rfl⟩)
    · exact hf f W F' _ false hS (by rw [h86, decide_eq_false (by omega)]) (.inr ⟨rfl, rfl⟩)
end Go.Proofs.YtodimanghmepoaaDoor
namespace Go.Proofs.YtodimanghmepoaaDoor
open Go.RowKit
set_option maxRecDepth 100000 in
set_option maxHeartbeats 4000000 in
theorem reg18_0 {Q : Exit → Act → World → Prop} {l0 : List Value} {d0} {w0 w : World} {F : Nat → Nat → Prop} {p : Nat → Nat} {s : Nat → LSt} {g7 g8 g9 g10 g13 : Nat} {V : Nat → WyR} {P C : Nat → List Nat} {K T X : Nat} (hlen : l0.length = 312) (e9 : l0.toArray.getD 9 undef = .pointer (some ⟨g9, 0, none⟩)) (e13 : l0.toArray.getD 13 undef = .pointer (some ⟨g13, 0, none⟩)) (e14 : l0.toArray.getD 14 undef = .int .i64 0) (h : SV w0 w F p s g7 g8 g9 g10 g13 V P C K T X) (hc : (P 1).length ≤ 1000000)
    (hf : ∀ (f : Nat → Value) (W : World), SV w0 W F p s g7 g8 g9 g10 g13 V (upd P 1 (P 1 ++ [X])) C K T X → Q .normal ⟨(over f (inR 87 98 87) 0 l0).toArray, d0⟩ W) :
    (Code.region 18 ops_18.1 true).wp Tryd.prog Q ⟨l0.toArray, d0⟩ w := by
  have i1 : (strN (P 1)).size + (strN [X]).size ≤ 9223372036854775807 := by rw [strN_size, strN_size]; simp; omega
  refine wp_region_chainT (inR 87 98 87) 12 [8] (fun vs W => SX w0 W F p s g7 g8 g9 g10 g13 (fun i => (V i).v) V P C K T X ∧ (match vs with
        | [] => True
        | [v] => ∃ A2 c2, v = .slice A2 1 c2 ∧ At W A2 (nats .u8 [X])
        | _ => False)) (fun _ W => SV w0 W F p s g7 g8 g9 g10 g13 V (upd P 1 (P 1 ++ [X])) C K T X) (isK (.int .i64 0) :: isK (.int .i64 1) :: isK (.int .i64 0) :: isK (.int .i64 1) :: isK (.pointer (some ⟨g9, 1, none⟩)) :: isK (.string (strN (P 1))) :: isK (.pointer (some ⟨g13, 2, none⟩)) :: isK (.int .u8 (X : Int)) :: RelK.any_ :: isK (.string (strN [X])) :: isK (.string (strN (P 1 ++ [X]))) :: isK (.pointer (some ⟨g9, 1, none⟩)) :: [])
    [⟨[], [14], none⟩, ⟨[(87, 0)], [], none⟩, ⟨[], [14], none⟩, ⟨[(89, 2)], [], none⟩, ⟨[(90, 3)], [9], none⟩, ⟨[(91, 4)], [], none⟩, ⟨[], [13], none⟩, ⟨[(93, 6)], [], none⟩, ⟨[(94, 7)], [], none⟩, ⟨[(95, 8)], [], none⟩, ⟨[(92, 5), (96, 9)], [], none⟩, ⟨[(88, 1)], [9], none⟩] ⟨[(98, 11), (97, 10)], [], none⟩ _ rfl (by kernel_rfl) (by kernel_rfl) (by rw [hlen]; kernel_rfl) (by kernel_rfl) (by kernel_rfl) (by kernel_rfl) (by kernel_rfl) (by kernel_rfl) (by kernel_rfl) ?hphi ?mono ?h0 ?steps ?st ?fin
  case hphi =>
    rintro vs W W' ⟨hS, hx⟩ hb
    refine ⟨hS.later hb, ?_⟩
    match vs, hx with
    | [], hx => exact hx
    | [v], ⟨A2, c2, h2, h3⟩ => exact ⟨A2, c2, h2, h3.later hb (Nat.le_refl _)⟩
  case h0 =>
    exact ⟨h, trivial⟩
  case steps =>
    refine ⟨fun ρ W vs ⟨hcst, hglb, hfun⟩ hX hp ho => ?_, ?_⟩ -- 0: slot 87 := Op.move t14
    · obtain ⟨o14, -⟩ := ho
      change ρ (.tmp 14) = l0.toArray.getD 14 undef at o14
      rw [e14] at o14
      refine turn_plain (ok_is ?_ rfl); simp only [execOp, o14]; go_simp; try exact rfl
    refine ⟨fun ρ W vs ⟨hcst, hglb, hfun⟩ hX hp ho => ?_, ?_⟩ -- 1: slot 88 := Op.binOp BinOp.sub 3 (const (1:i64)) t87 3
    · obtain ⟨p87, -⟩ := hp
      change ρ (.tmp 87) = _ at p87
      refine turn_plain (ok_is ?_ rfl); simp only [execOp, hcst, p87]; go_simp; try exact rfl
    refine ⟨fun ρ W vs ⟨hcst, hglb, hfun⟩ hX hp ho => ?_, ?_⟩ -- 2: slot 89 := Op.move t14
    · obtain ⟨o14, -⟩ := ho
      change ρ (.tmp 14) = l0.toArray.getD 14 undef at o14
      rw [e14] at o14
      refine turn_plain (ok_is ?_ rfl); simp only [execOp, o14]; go_simp; try exact rfl
    refine ⟨fun ρ W vs ⟨hcst, hglb, hfun⟩ hX hp ho => ?_, ?_⟩ -- 3: slot 90 := Op.binOp BinOp.sub 3 (const (1:i64)) t89 3
    · obtain ⟨p89, -⟩ := hp
      change ρ (.tmp 89) = _ at p89
      refine turn_plain (ok_is ?_ rfl); simp only [execOp, hcst, p89]; go_simp; try exact rfl
    refine ⟨fun ρ W vs ⟨hcst, hglb, hfun⟩ hX hp ho => ?_, ?_⟩ -- 4: slot 91 := Op.indexAddr 66 t9 t90
    · obtain ⟨p90, -⟩ := hp
      change ρ (.tmp 90) = _ at p90
      obtain ⟨o9, -⟩ := ho
      change ρ (.tmp 9) = l0.toArray.getD 9 undef at o9
      rw [e9] at o9
      refine turn_plain (ok_is ?_ rfl); simp only [execOp, p90, o9]; go_simp; try exact rfl
    refine ⟨fun ρ W vs ⟨hcst, hglb, hfun⟩ hX hp ho => ?_, ?_⟩ -- 5: slot 92 := Op.load 9 t91
    · obtain ⟨p91, -⟩ := hp
      change ρ (.tmp 91) = _ at p91
      obtain ⟨hS, -⟩ := hX
      have q : W.cell? ⟨g9, 1, none⟩ = some (.string (strN (P 1))) := hS.h9.cell 1
      refine turn_plain (ok_is ?_ rfl); simp only [execOp, p91]; go_simp; try exact rfl
    refine ⟨fun ρ W vs ⟨hcst, hglb, hfun⟩ hX hp ho => ?_, ?_⟩ -- 6: slot 93 := Op.fieldAddr 68 t13 2
    · obtain ⟨o13, -⟩ := ho
      change ρ (.tmp 13) = l0.toArray.getD 13 undef at o13
      rw [e13] at o13
      refine turn_plain (ok_is ?_ rfl); simp only [execOp, o13]; go_simp; try exact rfl
    refine ⟨fun ρ W vs ⟨hcst, hglb, hfun⟩ hX hp ho => ?_, ?_⟩ -- 7: slot 94 := Op.load 5 t93
    · obtain ⟨p93, -⟩ := hp
      change ρ (.tmp 93) = _ at p93
      obtain ⟨hS, -⟩ := hX
      have q : W.cell? ⟨g13, 2, none⟩ = some (.int .u8 (X : Int)) := hS.h13.cell 2
      refine turn_plain (ok_is ?_ rfl); simp only [execOp, p93]; go_simp; try exact rfl
    refine ⟨fun ρ W vs ⟨hcst, hglb, hfun⟩ hvl hX hp ho => ?_, ?_⟩ -- 8: slot 95 := Op.buildSlice 22 1 #[(0, t94)]
    · obtain ⟨p94, -⟩ := hp
      change ρ (.tmp 94) = _ at p94
      obtain rfl := List.eq_nil_of_length_eq_zero hvl
      obtain ⟨hS, -⟩ := hX
      refine actK_val (exec_build8 _ rfl p94) ?_
      exact ⟨hS.later ((Below.refl _ _).alloc (Nat.le_refl _) _), _, _, rfl, At.lit W #[.int .u8 (X : Int)] _ (0, 0) _ rfl⟩
    refine ⟨fun ρ W vs ⟨hcst, hglb, hfun⟩ hX hp ho => ?_, ?_⟩ -- 9: slot 96 := Op.convert 22 9 t95
    · obtain ⟨p95, -⟩ := hp
      change 0 < vs.length ∧ ρ (.tmp 95) = vs.getD 0 undef at p95
      obtain ⟨hvl, p95⟩ := p95
      obtain ⟨hS, hx⟩ := hX
      refine turn_plain (ok_is ?_ rfl)
      match vs, hx, hvl, p95 with
      | [v], ⟨A2, c2, e2, hat⟩, _, p95 =>
        subst e2
        change ρ (.tmp 95) = .slice A2 1 c2 at p95
        simp only [execOp, p95]; rw [Sem.run_bind, run_str W selt_u8.ht (by kernel_rfl) (by kernel_rfl) (by rfl : [X].length = 1) hat]; rfl
    refine ⟨fun ρ W vs ⟨hcst, hglb, hfun⟩ hX hp ho => ?_, ?_⟩ -- 10: slot 97 := Op.binOp BinOp.add 9 t92 t96 9
    · obtain ⟨p92, p96, -⟩ := hp
      change ρ (.tmp 92) = _ at p92
      change ρ (.tmp 96) = _ at p96
      refine turn_plain (ok_is ?_ rfl)
      rw [← strN_append]
      simp only [execOp, p92, p96]; go_simp; try exact rfl
    refine ⟨fun ρ W vs ⟨hcst, hglb, hfun⟩ hX hp ho => ?_, ?_⟩ -- 11: slot 98 := Op.indexAddr 66 t9 t88
    · obtain ⟨p88, -⟩ := hp
      change ρ (.tmp 88) = _ at p88
      obtain ⟨o9, -⟩ := ho
      change ρ (.tmp 9) = l0.toArray.getD 9 undef at o9
      rw [e9] at o9
      refine turn_plain (ok_is ?_ rfl); simp only [execOp, p88, o9]; go_simp; try exact rfl
    exact trivial
  case mono => exact ⟨mono_isK _, mono_isK _, mono_isK _, mono_isK _, mono_isK _, mono_isK _, mono_isK _, mono_isK _, mono_anyK, mono_isK _, mono_isK _, mono_isK _, trivial⟩
  case st =>
    intro ρ W vs ⟨hcst, hglb, hfun⟩ hvl hX hp ho
    change ∃ W2, (execOp ρ { dst := none, op := Op.store 9 (.tmp 98) (.tmp 97), type := _, pos := _, after := _, guard := _ }).run _ W = _ ∧ _
    obtain ⟨p98, p97, -⟩ := hp
    change ρ (.tmp 98) = _ at p98
    change ρ (.tmp 97) = _ at p97
    obtain ⟨hS, -⟩ := hX
    have q : W.cell? ⟨g9, 1, none⟩ = some (.string (strN (P 1))) := hS.h9.cell 1
    have z := hS.h9.frozen 1
    refine ⟨W.setCell ⟨g9, 1, none⟩ (.string (strN (P 1 ++ [X]))), ?_, hS.put9 1 (by decide) _⟩
    simp only [execOp, p98, p97]; go_simp; try exact rfl
  case fin =>
    intro f W vs _ h
    exact hf f W h
set_option maxRecDepth 100000 in
set_option maxHeartbeats 4000000 in
theorem reg18_1 {Q : Exit → Act → World → Prop} {l0 : List Value} {d0} {w0 w : World} {F : Nat → Nat → Prop} {p : Nat → Nat} {s : Nat → LSt} {g7 g8 g9 g10 g13 : Nat} {V : Nat → WyR} {P C : Nat → List Nat} {K T X : Nat} (hlen : l0.length = 312) (e9 : l0.toArray.getD 9 undef = .pointer (some ⟨g9, 0, none⟩)) (e13 : l0.toArray.getD 13 undef = .pointer (some ⟨g13, 0, none⟩)) (e14 : l0.toArray.getD 14 undef = .int .i64 1) (h : SV w0 w F p s g7 g8 g9 g10 g13 V P C K T X) (hc : (P 0).length ≤ 1000000)
    (hf : ∀ (f : Nat → Value) (W : World), SV w0 W F p s g7 g8 g9 g10 g13 V (upd P 0 (P 0 ++ [X])) C K T X → Q .normal ⟨(over f (inR 87 98 87) 0 l0).toArray, d0⟩ W) :
    (Code.region 18 ops_18.1 true).wp Tryd.prog Q ⟨l0.toArray, d0⟩ w := by
  have i1 : (strN (P 0)).size + (strN [X]).size ≤ 9223372036854775807 := by rw [strN_size, strN_size]; simp; omega
  refine wp_region_chainT (inR 87 98 87) 12 [8] (fun vs W => SX w0 W F p s g7 g8 g9 g10 g13 (fun i => (V i).v) V P C K T X ∧ (match vs with
        | [] => True
        | [v] => ∃ A2 c2, v = .slice A2 1 c2 ∧ At W A2 (nats .u8 [X])
        | _ => False)) (fun _ W => SV w0 W F p s g7 g8 g9 g10 g13 V (upd P 0 (P 0 ++ [X])) C K T X) (isK (.int .i64 1) :: isK (.int .i64 0) :: isK (.int .i64 1) :: isK (.int .i64 0) :: isK (.pointer (some ⟨g9, 0, none⟩)) :: isK (.string (strN (P 0))) :: isK (.pointer (some ⟨g13, 2, none⟩)) :: isK (.int .u8 (X : Int)) :: RelK.any_ :: isK (.string (strN [X])) :: isK (.string (strN (P 0 ++ [X]))) :: isK (.pointer (some ⟨g9, 0, none⟩)) :: [])
    [⟨[], [14], none⟩, ⟨[(87, 0)], [], none⟩, ⟨[], [14], none⟩, ⟨[(89, 2)], [], none⟩, ⟨[(90, 3)], [9], none⟩, ⟨[(91, 4)], [], none⟩, ⟨[], [13], none⟩, ⟨[(93, 6)], [], none⟩, ⟨[(94, 7)], [], none⟩, ⟨[(95, 8)], [], none⟩, ⟨[(92, 5), (96, 9)], [], none⟩, ⟨[(88, 1)], [9], none⟩] ⟨[(98, 11), (97, 10)], [], none⟩ _ rfl (by kernel_rfl) (by kernel_rfl) (by rw [hlen]; kernel_rfl) (by kernel_rfl) (by kernel_rfl) (by kernel_rfl) (by kernel_rfl) (by kernel_rfl) (by kernel_rfl) ?hphi ?mono ?h0 ?steps ?st ?fin
  case hphi =>
    rintro vs W W' ⟨hS, hx⟩ hb
    refine ⟨hS.later hb, ?_⟩
    match vs, hx with
    | [], hx => exact hx
    | [v], ⟨A2, c2, h2, h3⟩ => exact ⟨A2, c2, h2, h3.later hb (Nat.le_refl _)⟩
  case h0 =>
    exact ⟨h, trivial⟩
  case steps =>
    refine ⟨fun ρ W vs ⟨hcst, hglb, hfun⟩ hX hp ho => ?_, ?_⟩ -- 0: slot 87 := Op.move t14
    · obtain ⟨o14, -⟩ := ho
      change ρ (.tmp 14) = l0.toArray.getD 14 undef at o14
      rw [e14] at o14
      refine turn_plain (ok_is ?_ rfl); simp only [execOp, o14]; go_simp; try exact rfl
    refine ⟨fun ρ W vs ⟨hcst, hglb, hfun⟩ hX hp ho => ?_, ?_⟩ -- 1: slot 88 := Op.binOp BinOp.sub 3 (const (1:i64)) t87 3
    · obtain ⟨p87, -⟩ := hp
      change ρ (.tmp 87) = _ at p87
      refine turn_plain (ok_is ?_ rfl); simp only [execOp, hcst, p87]; go_simp; try exact rfl
    refine ⟨fun ρ W vs ⟨hcst, hglb, hfun⟩ hX hp ho => ?_, ?_⟩ -- 2: slot 89 := Op.move t14
    · obtain ⟨o14, -⟩ := ho
      change ρ (.tmp 14) = l0.toArray.getD 14 undef at o14
      rw [e14] at o14
      refine turn_plain (ok_is ?_ rfl); simp only [execOp, o14]; go_simp; try exact rfl
    refine ⟨fun ρ W vs ⟨hcst, hglb, hfun⟩ hX hp ho => ?_, ?_⟩ -- 3: slot 90 := Op.binOp BinOp.sub 3 (const (1:i64)) t89 3
    · obtain ⟨p89, -⟩ := hp
      change ρ (.tmp 89) = _ at p89
      refine turn_plain (ok_is ?_ rfl); simp only [execOp, hcst, p89]; go_simp; try exact rfl
    refine ⟨fun ρ W vs ⟨hcst, hglb, hfun⟩ hX hp ho => ?_, ?_⟩ -- 4: slot 91 := Op.indexAddr 66 t9 t90
    · obtain ⟨p90, -⟩ := hp
      change ρ (.tmp 90) = _ at p90
      obtain ⟨o9, -⟩ := ho
      change ρ (.tmp 9) = l0.toArray.getD 9 undef at o9
      rw [e9] at o9
      refine turn_plain (ok_is ?_ rfl); simp only [execOp, p90, o9]; go_simp; try exact rfl
    refine ⟨fun ρ W vs ⟨hcst, hglb, hfun⟩ hX hp ho => ?_, ?_⟩ -- 5: slot 92 := Op.load 9 t91
    · obtain ⟨p91, -⟩ := hp
      change ρ (.tmp 91) = _ at p91
      obtain ⟨hS, -⟩ := hX
      have q : W.cell? ⟨g9, 0, none⟩ = some (.string (strN (P 0))) := hS.h9.cell 0
      refine turn_plain (ok_is ?_ rfl); simp only [execOp, p91]; go_simp; try exact rfl
    refine ⟨fun ρ W vs ⟨hcst, hglb, hfun⟩ hX hp ho => ?_, ?_⟩ -- 6: slot 93 := Op.fieldAddr 68 t13 2
    · obtain ⟨o13, -⟩ := ho
      change ρ (.tmp 13) = l0.toArray.getD 13 undef at o13
      rw [e13] at o13
      refine turn_plain (ok_is ?_ rfl); simp only [execOp, o13]; go_simp; try exact rfl
    refine ⟨fun ρ W vs ⟨hcst, hglb, hfun⟩ hX hp ho => ?_, ?_⟩ -- 7: slot 94 := Op.load 5 t93
    · obtain ⟨p93, -⟩ := hp
      change ρ (.tmp 93) = _ at p93
      obtain ⟨hS, -⟩ := hX
      have q : W.cell? ⟨g13, 2, none⟩ = some (.int .u8 (X : Int)) := hS.h13.cell 2
      refine turn_plain (ok_is ?_ rfl); simp only [execOp, p93]; go_simp; try exact rfl
    refine ⟨fun ρ W vs ⟨hcst, hglb, hfun⟩ hvl hX hp ho => ?_, ?_⟩ -- 8: slot 95 := Op.buildSlice 22 1 #[(0, t94)]
    · obtain ⟨p94, -⟩ := hp
      change ρ (.tmp 94) = _ at p94
      obtain rfl := List.eq_nil_of_length_eq_zero hvl
      obtain ⟨hS, -⟩ := hX
      refine actK_val (exec_build8 _ rfl p94) ?_
      exact ⟨hS.later ((Below.refl _ _).alloc (Nat.le_refl _) _), _, _, rfl, At.lit W #[.int .u8 (X : Int)] _ (0, 0) _ rfl⟩
    refine ⟨fun ρ W vs ⟨hcst, hglb, hfun⟩ hX hp ho => ?_, ?_⟩ -- 9: slot 96 := Op.convert 22 9 t95
    · obtain ⟨p95, -⟩ := hp
      change 0 < vs.length ∧ ρ (.tmp 95) = vs.getD 0 undef at p95
      obtain ⟨hvl, p95⟩ := p95
      obtain ⟨hS, hx⟩ := hX
      refine turn_plain (ok_is ?_ rfl)
      match vs, hx, hvl, p95 with
      | [v], ⟨A2, c2, e2, hat⟩, _, p95 =>
        subst e2
        change ρ (.tmp 95) = .slice A2 1 c2 at p95
        simp only [execOp, p95]; rw [Sem.run_bind, run_str W selt_u8.ht (by kernel_rfl) (by kernel_rfl) (by rfl : [X].length = 1) hat]; rfl
    refine ⟨fun ρ W vs ⟨hcst, hglb, hfun⟩ hX hp ho => ?_, ?_⟩ -- 10: slot 97 := Op.binOp BinOp.add 9 t92 t96 9
    · obtain ⟨p92, p96, -⟩ := hp
      change ρ (.tmp 92) = _ at p92
      change ρ (.tmp 96) = _ at p96
      refine turn_plain (ok_is ?_ rfl)
      rw [← strN_append]
      simp only [execOp, p92, p96]; go_simp; try exact rfl
    refine ⟨fun ρ W vs ⟨hcst, hglb, hfun⟩ hX hp ho => ?_, ?_⟩ -- 11: slot 98 := Op.indexAddr 66 t9 t88
    · obtain ⟨p88, -⟩ := hp
      change ρ (.tmp 88) = _ at p88
      obtain ⟨o9, -⟩ := ho
      change ρ (.tmp 9) = l0.toArray.getD 9 undef at o9
      rw [e9] at o9
      refine turn_plain (ok_is ?_ rfl); simp only [execOp, p88, o9]; go_simp; try exact rfl
    exact trivial
  case mono => exact ⟨mono_isK _, mono_isK _, mono_isK _, mono_isK _, mono_isK _, mono_isK _, mono_isK _, mono_isK _, mono_anyK, mono_isK _, mono_isK _, mono_isK _, trivial⟩
  case st =>
    intro ρ W vs ⟨hcst, hglb, hfun⟩ hvl hX hp ho
    change ∃ W2, (execOp ρ { dst := none, op := Op.store 9 (.tmp 98) (.tmp 97), type := _, pos := _, after := _, guard := _ }).run _ W = _ ∧ _
    obtain ⟨p98, p97, -⟩ := hp
    change ρ (.tmp 98) = _ at p98
    change ρ (.tmp 97) = _ at p97
    obtain ⟨hS, -⟩ := hX
    have q : W.cell? ⟨g9, 0, none⟩ = some (.string (strN (P 0))) := hS.h9.cell 0
    have z := hS.h9.frozen 0
    refine ⟨W.setCell ⟨g9, 0, none⟩ (.string (strN (P 0 ++ [X]))), ?_, hS.put9 0 (by decide) _⟩
    simp only [execOp, p98, p97]; go_simp; try exact rfl
  case fin =>
    intro f W vs _ h
    exact hf f W h
end Go.Proofs.YtodimanghmepoaaDoor
namespace Go.Proofs.YtodimanghmepoaaDoor
open Go.RowKit
set_option maxRecDepth 100000 in
set_option maxHeartbeats 4000000 in
theorem reg23_0 {Q : Exit → Act → World → Prop} {l0 : List Value} {d0} {w0 w : World} {F : Nat → Nat → Prop} {p : Nat → Nat} {s : Nat → LSt} {g7 g8 g9 g10 g13 : Nat} {V : Nat → WyR} {P C : Nat → List Nat} {K T X : Nat} (hlen : l0.length = 312) (e7 : l0.toArray.getD 7 undef = .pointer (some ⟨g7, 0, none⟩)) (e8 : l0.toArray.getD 8 undef = .pointer (some ⟨g8, 0, none⟩)) (e15 : l0.toArray.getD 15 undef = .int .i64 0) (h : SV w0 w F p s g7 g8 g9 g10 g13 V P C K T X) (hn : (V 1).n ≤ 100000)
    (hf : ∀ (f : Nat → Value) (W : World) (F' : Nat → Nat → Prop) (a : WyR), SV w0 W F' p (upd s 0 (outS (s 0))) g7 g8 g9 g10 g13 (upd V 1 a) P C K T X → a.L = (V 1).L ++ (outA (s 0) ++ outB (s 0)) → Q .normal ⟨(over f (inR 105 116 105) 0 l0).toArray, d0⟩ W) :
    (Code.region 23 ops_23.1 true).wp Tryd.prog Q ⟨l0.toArray, d0⟩ w := by
  refine wp_region_chainT (inR 105 116 105) 12 [9, 10] (fun vs W => ∃ (F' : Nat → Nat → Prop) (s' : Nat → LSt) (V' : Nat → WyR), SX w0 W F' p s' g7 g8 g9 g10 g13 (fun i => (V i).v) V' P C K T X ∧ (match vs with
        | [] => s' = s ∧ V' = V
        | [v] => s' = upd s 0 (outS (s 0)) ∧ V' = V ∧ ∃ A k c xs, v = .slice A k c ∧ At W A xs ∧ xs.length = k ∧ DGs W w0.heap.size F' xs (outA (s 0) ++ outB (s 0))
        | [_, u] => s' = upd s 0 (outS (s 0)) ∧ ∃ a : WyR, V' = upd V 1 a ∧ a.L = (V 1).L ++ (outA (s 0) ++ outB (s 0)) ∧ u = a.v
        | _ => False)) (fun _ W => ∃ (F' : Nat → Nat → Prop) (a : WyR), SV w0 W F' p (upd s 0 (outS (s 0))) g7 g8 g9 g10 g13 (upd V 1 a) P C K T X ∧ a.L = (V 1).L ++ (outA (s 0) ++ outB (s 0))) (isK ?c0 :: isK (.int .i64 1) :: isK ?c2 :: isK (.int .i64 1) :: isK (.pointer (some ⟨g8, 1, none⟩)) :: isK ?c5 :: isK ?c6 :: isK (.pointer (some ⟨g7, 0, none⟩)) :: isK ?c8 :: RelK.any_ :: RelK.any_ :: isK (.pointer (some ⟨g8, 1, none⟩)) :: [])
    [⟨[], [15], none⟩, ⟨[(105, 0)], [], none⟩, ⟨[], [15], none⟩, ⟨[(107, 2)], [], none⟩, ⟨[(108, 3)], [8], none⟩, ⟨[(109, 4)], [], none⟩, ⟨[], [15], none⟩, ⟨[(111, 6)], [7], none⟩, ⟨[(112, 7)], [], none⟩, ⟨[(113, 8)], [], none⟩, ⟨[(110, 5), (114, 9)], [], none⟩, ⟨[(106, 1)], [8], none⟩] ⟨[(116, 11), (115, 10)], [], none⟩ _ rfl (by kernel_rfl) (by kernel_rfl) (by rw [hlen]; kernel_rfl) (by kernel_rfl) (by kernel_rfl) (by kernel_rfl) (by kernel_rfl) (by kernel_rfl) (by kernel_rfl) ?hphi ?mono ?h0 ?steps ?st ?fin
  case hphi =>
    rintro vs W W' ⟨F', s', V', hS, hx⟩ hb
    refine ⟨F', s', V', hS.later hb, ?_⟩
    match vs, hx with
    | [], hx => exact hx
    | [v], ⟨h1, h2, A, k, c, xs, h3, h4, h5, h6⟩ => exact ⟨h1, h2, A, k, c, xs, h3, h4.later hb (Nat.le_refl _), h5, h6.keep (Keep.of_below F' hb)⟩
    | [_, _], hx => exact hx
  case h0 =>
    exact ⟨F, s, V, h, rfl, rfl⟩
  case steps =>
    refine ⟨fun ρ W vs ⟨hcst, hglb, hfun⟩ hX hp ho => ?_, ?_⟩ -- 0: slot 105 := Op.move t15
    · obtain ⟨o15, -⟩ := ho
      change ρ (.tmp 15) = l0.toArray.getD 15 undef at o15
      rw [e15] at o15
      refine turn_plain (ok_is ?_ rfl); simp only [execOp, o15]; go_simp; try exact rfl
    refine ⟨fun ρ W vs ⟨hcst, hglb, hfun⟩ hX hp ho => ?_, ?_⟩ -- 1: slot 106 := Op.binOp BinOp.sub 3 (const (1:i64)) t105 3
    · obtain ⟨p105, -⟩ := hp
      change ρ (.tmp 105) = _ at p105
      refine turn_plain (ok_is ?_ rfl); simp only [execOp, hcst, p105]; go_simp; try exact rfl
    refine ⟨fun ρ W vs ⟨hcst, hglb, hfun⟩ hX hp ho => ?_, ?_⟩ -- 2: slot 107 := Op.move t15
    · obtain ⟨o15, -⟩ := ho
      change ρ (.tmp 15) = l0.toArray.getD 15 undef at o15
      rw [e15] at o15
      refine turn_plain (ok_is ?_ rfl); simp only [execOp, o15]; go_simp; try exact rfl
    refine ⟨fun ρ W vs ⟨hcst, hglb, hfun⟩ hX hp ho => ?_, ?_⟩ -- 3: slot 108 := Op.binOp BinOp.sub 3 (const (1:i64)) t107 3
    · obtain ⟨p107, -⟩ := hp
      change ρ (.tmp 107) = _ at p107
      refine turn_plain (ok_is ?_ rfl); simp only [execOp, hcst, p107]; go_simp; try exact rfl
    refine ⟨fun ρ W vs ⟨hcst, hglb, hfun⟩ hX hp ho => ?_, ?_⟩ -- 4: slot 109 := Op.indexAddr 65 t8 t108
    · obtain ⟨p108, -⟩ := hp
      change ρ (.tmp 108) = _ at p108
      obtain ⟨o8, -⟩ := ho
      change ρ (.tmp 8) = l0.toArray.getD 8 undef at o8
      rw [e8] at o8
      refine turn_plain (ok_is ?_ rfl); simp only [execOp, p108, o8]; go_simp; try exact rfl
    refine ⟨fun ρ W vs ⟨hcst, hglb, hfun⟩ hX hp ho => ?_, ?_⟩ -- 5: slot 110 := Op.load 31 t109
    · obtain ⟨p109, -⟩ := hp
      change ρ (.tmp 109) = _ at p109
      obtain ⟨F', s', V', hS, -⟩ := hX
      have q : W.cell? ⟨g8, 1, none⟩ = some (.slice (V 1).A (V 1).n (V 1).c) := hS.h8.cell 1
      refine turn_plain (ok_is ?_ rfl); simp only [execOp, p109]; go_simp; try exact rfl
    refine ⟨fun ρ W vs ⟨hcst, hglb, hfun⟩ hX hp ho => ?_, ?_⟩ -- 6: slot 111 := Op.move t15
    · obtain ⟨o15, -⟩ := ho
      change ρ (.tmp 15) = l0.toArray.getD 15 undef at o15
      rw [e15] at o15
      refine turn_plain (ok_is ?_ rfl); simp only [execOp, o15]; go_simp; try exact rfl
    refine ⟨fun ρ W vs ⟨hcst, hglb, hfun⟩ hX hp ho => ?_, ?_⟩ -- 7: slot 112 := Op.indexAddr 64 t7 t111
    · obtain ⟨p111, -⟩ := hp
      change ρ (.tmp 111) = _ at p111
      obtain ⟨o7, -⟩ := ho
      change ρ (.tmp 7) = l0.toArray.getD 7 undef at o7
      rw [e7] at o7
      refine turn_plain (ok_is ?_ rfl); simp only [execOp, p111, o7]; go_simp; try exact rfl
    refine ⟨fun ρ W vs ⟨hcst, hglb, hfun⟩ hX hp ho => ?_, ?_⟩ -- 8: slot 113 := Op.load 24 t112
    · obtain ⟨p112, -⟩ := hp
      change ρ (.tmp 112) = _ at p112
      obtain ⟨F', s', V', hS, -⟩ := hX
      have q : W.cell? ⟨g7, 0, none⟩ = some (.pointer (some ⟨p 0, 0, none⟩)) := hS.h7.cell 0
      refine turn_plain (ok_is ?_ rfl); simp only [execOp, p112]; go_simp; try exact rfl
    refine ⟨fun ρ W vs ⟨hcst, hglb, hfun⟩ hvl hX hp ho => ?_, ?_⟩ -- 9: slot 114 := Op.call { value (Operand.func 9), args := #[t113], argTypes := #[24] }
    · obtain ⟨p113, -⟩ := hp
      change ρ (.tmp 113) = _ at p113
      have ce := @enter_of Tryd.prog 9 _ Tryd.func9 (by kernel_rfl) (by kernel_rfl)
      obtain rfl := List.eq_nil_of_length_eq_zero hvl
      obtain ⟨F', s', V', hS, rfl, rfl⟩ := hX
      refine actK_call (op_call1 hfun ce (by exact rfl) p113) ?_
      refine (w_outO hS 0 (by decide) rfl).mono ?_
      rintro e W' ⟨A, k, c, xs, F1, rfl, hS', hat, hl, hd⟩
      exact ⟨_, rfl, F1, _, _, hS', rfl, rfl, A, k, c, xs, rfl, hat, hl, hd⟩
    refine ⟨fun ρ W vs ⟨hcst, hglb, hfun⟩ hvl hX hp ho => ?_, ?_⟩ -- 10: slot 115 := Op.call { builtin append, args := #[t110, t114], argTypes := #[31, 31] }
    · obtain ⟨p110, p114, -⟩ := hp
      change ρ (.tmp 110) = _ at p110
      change 0 < vs.length ∧ ρ (.tmp 114) = vs.getD 0 undef at p114
      obtain ⟨v, rfl⟩ := one_of hvl
      obtain ⟨F', s', V', hS, rfl, rfl, A, k, c, xs, rfl, hat, hl, hd⟩ := hX
      obtain ⟨-, p114⟩ := p114
      change ρ (.tmp 114) = .slice A k c at p114
      have o := hS.o 1 (by decide)
      have hk : k ≤ 2 := by have := hd.len; have := out_len (s 0); omega
      obtain ⟨A', c', w', hr, h2, h3, h4⟩ := run_app W elt_sl 31 o.own (c2 := c) (by omega : xs.length = k * 1) hat hd.cell (by unfold maxLen; omega) (by omega) hS.ways.bel.size
      refine actK_val (exec_app _ _ _ rfl p110 p114 hr) ?_
      exact ⟨F', _, _, hS.app 1 (by decide) hd h3 h2 h4, rfl, ⟨A', (V' 1).n + k, c', (V' 1).vs ++ xs, (V' 1).L ++ (outA (s 0) ++ outB (s 0))⟩, rfl, rfl, rfl⟩
    refine ⟨fun ρ W vs ⟨hcst, hglb, hfun⟩ hX hp ho => ?_, ?_⟩ -- 11: slot 116 := Op.indexAddr 65 t8 t106
    · obtain ⟨p106, -⟩ := hp
      change ρ (.tmp 106) = _ at p106
      obtain ⟨o8, -⟩ := ho
      change ρ (.tmp 8) = l0.toArray.getD 8 undef at o8
      rw [e8] at o8
      refine turn_plain (ok_is ?_ rfl); simp only [execOp, p106, o8]; go_simp; try exact rfl
    exact trivial
  case mono => exact ⟨mono_isK _, mono_isK _, mono_isK _, mono_isK _, mono_isK _, mono_isK _, mono_isK _, mono_isK _, mono_isK _, mono_anyK, mono_anyK, mono_isK _, trivial⟩
  case st =>
    intro ρ W vs ⟨hcst, hglb, hfun⟩ hvl hX hp ho
    change ∃ W2, (execOp ρ { dst := none, op := Op.store 31 (.tmp 116) (.tmp 115), type := _, pos := _, after := _, guard := _ }).run _ W = _ ∧ _
    obtain ⟨p116, p115, -⟩ := hp
    change ρ (.tmp 116) = _ at p116
    change 1 < vs.length ∧ ρ (.tmp 115) = vs.getD 1 undef at p115
    obtain ⟨u, v, rfl⟩ := two_of hvl
    obtain ⟨F', s', V', hS, rfl, a, rfl, ha, rfl⟩ := hX
    obtain ⟨-, p115⟩ := p115
    change ρ (.tmp 115) = a.v at p115
    have q : W.cell? ⟨g8, 1, none⟩ = some (V 1).v := hS.h8.cell 1
    have z := hS.h8.frozen 1
    refine ⟨W.setCell ⟨g8, 1, none⟩ a.v, ?_, F', a, ?_, ha⟩
    · simp only [execOp, p116, p115]; unfold WyR.v at *; go_simp; try exact rfl
    · have := hS.put8 1 (by decide) a.v
      rw [upd_v] at this
      exact this
  case fin =>
    intro f W vs _ h
    obtain ⟨F', a, h1, h2⟩ := h
    exact hf f W F' a h1 h2
set_option maxRecDepth 100000 in
set_option maxHeartbeats 4000000 in
theorem reg23_1 {Q : Exit → Act → World → Prop} {l0 : List Value} {d0} {w0 w : World} {F : Nat → Nat → Prop} {p : Nat → Nat} {s : Nat → LSt} {g7 g8 g9 g10 g13 : Nat} {V : Nat → WyR} {P C : Nat → List Nat} {K T X : Nat} (hlen : l0.length = 312) (e7 : l0.toArray.getD 7 undef = .pointer (some ⟨g7, 0, none⟩)) (e8 : l0.toArray.getD 8 undef = .pointer (some ⟨g8, 0, none⟩)) (e15 : l0.toArray.getD 15 undef = .int .i64 1) (h : SV w0 w F p s g7 g8 g9 g10 g13 V P C K T X) (hn : (V 0).n ≤ 100000)
    (hf : ∀ (f : Nat → Value) (W : World) (F' : Nat → Nat → Prop) (a : WyR), SV w0 W F' p (upd s 1 (outS (s 1))) g7 g8 g9 g10 g13 (upd V 0 a) P C K T X → a.L = (V 0).L ++ (outA (s 1) ++ outB (s 1)) → Q .normal ⟨(over f (inR 105 116 105) 0 l0).toArray, d0⟩ W) :
    (Code.region 23 ops_23.1 true).wp Tryd.prog Q ⟨l0.toArray, d0⟩ w := by
  refine wp_region_chainT (inR 105 116 105) 12 [9, 10] (fun vs W => ∃ (F' : Nat → Nat → Prop) (s' : Nat → LSt) (V' : Nat → WyR), SX w0 W F' p s' g7 g8 g9 g10 g13 (fun i => (V i).v) V' P C K T X ∧ (match vs with
        | [] => s' = s ∧ V' = V
        | [v] => s' = upd s 1 (outS (s 1)) ∧ V' = V ∧ ∃ A k c xs, v = .slice A k c ∧ At W A xs ∧ xs.length = k ∧ DGs W w0.heap.size F' xs (outA (s 1) ++ outB (s 1))
        | [_, u] => s' = upd s 1 (outS (s 1)) ∧ ∃ a : WyR, V' = upd V 0 a ∧ a.L = (V 0).L ++ (outA (s 1) ++ outB (s 1)) ∧ u = a.v
        | _ => False)) (fun _ W => ∃ (F' : Nat → Nat → Prop) (a : WyR), SV w0 W F' p (upd s 1 (outS (s 1))) g7 g8 g9 g10 g13 (upd V 0 a) P C K T X ∧ a.L = (V 0).L ++ (outA (s 1) ++ outB (s 1))) (isK ?c0 :: isK (.int .i64 0) :: isK ?c2 :: isK (.int .i64 0) :: isK (.pointer (some ⟨g8, 0, none⟩)) :: isK ?c5 :: isK ?c6 :: isK (.pointer (some ⟨g7, 1, none⟩)) :: isK ?c8 :: RelK.any_ :: RelK.any_ :: isK (.pointer (some ⟨g8, 0, none⟩)) :: [])
    [⟨[], [15], none⟩, ⟨[(105, 0)], [], none⟩, ⟨[], [15], none⟩, ⟨[(107, 2)], [], none⟩, ⟨[(108, 3)], [8], none⟩, ⟨[(109, 4)], [], none⟩, ⟨[], [15], none⟩, ⟨[(111, 6)], [7], none⟩, ⟨[(112, 7)], [], none⟩, ⟨[(113, 8)], [], none⟩, ⟨[(110, 5), (114, 9)], [], none⟩, ⟨[(106, 1)], [8], none⟩] ⟨[(116, 11), (115, 10)], [], none⟩ _ rfl (by kernel_rfl) (by kernel_rfl) (by rw [hlen]; kernel_rfl) (by kernel_rfl) (by kernel_rfl) (by kernel_rfl) (by kernel_rfl) (by kernel_rfl) (by kernel_rfl) ?hphi ?mono ?h0 ?steps ?st ?fin
  case hphi =>
    rintro vs W W' ⟨F', s', V', hS, hx⟩ hb
    refine ⟨F', s', V', hS.later hb, ?_⟩
    match vs, hx with
    | [], hx => exact hx
    | [v], ⟨h1, h2, A, k, c, xs, h3, h4, h5, h6⟩ => exact ⟨h1, h2, A, k, c, xs, h3, h4.later hb (Nat.le_refl _), h5, h6.keep (Keep.of_below F' hb)⟩
    | [_, _], hx => exact hx
  case h0 =>
    exact ⟨F, s, V, h, rfl, rfl⟩
  case steps =>
    refine ⟨fun ρ W vs ⟨hcst, hglb, hfun⟩ hX hp ho => ?_, ?_⟩ -- 0: slot 105 := Op.move t15
    · obtain ⟨o15, -⟩ := ho
      change ρ (.tmp 15) = l0.toArray.getD 15 undef at o15
      rw [e15] at o15
      refine turn_plain (ok_is ?_ rfl); simp only [execOp, o15]; go_simp; try exact rfl
    refine ⟨fun ρ W vs ⟨hcst, hglb, hfun⟩ hX hp ho => ?_, ?_⟩ -- 1: slot 106 := Op.binOp BinOp.sub 3 (const (1:i64)) t105 3
    · obtain ⟨p105, -⟩ := hp
      change ρ (.tmp 105) = _ at p105
      refine turn_plain (ok_is ?_ rfl); simp only [execOp, hcst, p105]; go_simp; try exact rfl
    refine ⟨fun ρ W vs ⟨hcst, hglb, hfun⟩ hX hp ho => ?_, ?_⟩ -- 2: slot 107 := Op.move t15
    · obtain ⟨o15, -⟩ := ho
      change ρ (.tmp 15) = l0.toArray.getD 15 undef at o15
      rw [e15] at o15
      refine turn_plain (ok_is ?_ rfl); simp only [execOp, o15]; go_simp; try exact rfl
    refine ⟨fun ρ W vs ⟨hcst, hglb, hfun⟩ hX hp ho => ?_, ?_⟩ -- 3: slot 108 := Op.binOp BinOp.sub 3 (const (1:i64)) t107 3
    · obtain ⟨p107, -⟩ := hp
      change ρ (.tmp 107) = _ at p107
      refine turn_plain (ok_is ?_ rfl); simp only [execOp, hcst, p107]; go_simp; try exact rfl
    refine ⟨fun ρ W vs ⟨hcst, hglb, hfun⟩ hX hp ho => ?_, ?_⟩ -- 4: slot 109 := Op.indexAddr 65 t8 t108
    · obtain ⟨p108, -⟩ := hp
      change ρ (.tmp 108) = _ at p108
      obtain ⟨o8, -⟩ := ho
      change ρ (.tmp 8) = l0.toArray.getD 8 undef at o8
      rw [e8] at o8
      refine turn_plain (ok_is ?_ rfl); simp only [execOp, p108, o8]; go_simp; try exact rfl
    refine ⟨fun ρ W vs ⟨hcst, hglb, hfun⟩ hX hp ho => ?_, ?_⟩ -- 5: slot 110 := Op.load 31 t109
    · obtain ⟨p109, -⟩ := hp
      change ρ (.tmp 109) = _ at p109
      obtain ⟨F', s', V', hS, -⟩ := hX
      have q : W.cell? ⟨g8, 0, none⟩ = some (.slice (V 0).A (V 0).n (V 0).c) := hS.h8.cell 0
      refine turn_plain (ok_is ?_ rfl); simp only [execOp, p109]; go_simp; try exact rfl
    refine ⟨fun ρ W vs ⟨hcst, hglb, hfun⟩ hX hp ho => ?_, ?_⟩ -- 6: slot 111 := Op.move t15
    · obtain ⟨o15, -⟩ := ho
      change ρ (.tmp 15) = l0.toArray.getD 15 undef at o15
      rw [e15] at o15
      refine turn_plain (ok_is ?_ rfl); simp only [execOp, o15]; go_simp; try exact rfl
    refine ⟨fun ρ W vs ⟨hcst, hglb, hfun⟩ hX hp ho => ?_, ?_⟩ -- 7: slot 112 := Op.indexAddr 64 t7 t111
    · obtain ⟨p111, -⟩ := hp
      change ρ (.tmp 111) = _ at p111
      obtain ⟨o7, -⟩ := ho
      change ρ (.tmp 7) = l0.toArray.getD 7 undef at o7
      rw [e7] at o7
      refine turn_plain (ok_is ?_ rfl); simp only [execOp, p111, o7]; go_simp; try exact rfl
    refine ⟨fun ρ W vs ⟨hcst, hglb, hfun⟩ hX hp ho => ?_, ?_⟩ -- 8: slot 113 := Op.load 24 t112
    · obtain ⟨p112, -⟩ := hp
      change ρ (.tmp 112) = _ at p112
      obtain ⟨F', s', V', hS, -⟩ := hX
      have q : W.cell? ⟨g7, 1, none⟩ = some (.pointer (some ⟨p 1, 0, none⟩)) := hS.h7.cell 1
      refine turn_plain (ok_is ?_ rfl); simp only [execOp, p112]; go_simp; try exact rfl
    refine ⟨fun ρ W vs ⟨hcst, hglb, hfun⟩ hvl hX hp ho => ?_, ?_⟩ -- 9: slot 114 := Op.call { value (Operand.func 9), args := #[t113], argTypes := #[24] }
    · obtain ⟨p113, -⟩ := hp
      change ρ (.tmp 113) = _ at p113
      have ce := @enter_of Tryd.prog 9 _ Tryd.func9 (by kernel_rfl) (by kernel_rfl)
      obtain rfl := List.eq_nil_of_length_eq_zero hvl
      obtain ⟨F', s', V', hS, rfl, rfl⟩ := hX
      refine actK_call (op_call1 hfun ce (by exact rfl) p113) ?_
      refine (w_outO hS 1 (by decide) rfl).mono ?_
      rintro e W' ⟨A, k, c, xs, F1, rfl, hS', hat, hl, hd⟩
      exact ⟨_, rfl, F1, _, _, hS', rfl, rfl, A, k, c, xs, rfl, hat, hl, hd⟩
    refine ⟨fun ρ W vs ⟨hcst, hglb, hfun⟩ hvl hX hp ho => ?_, ?_⟩ -- 10: slot 115 := Op.call { builtin append, args := #[t110, t114], argTypes := #[31, 31] }
    · obtain ⟨p110, p114, -⟩ := hp
      change ρ (.tmp 110) = _ at p110
      change 0 < vs.length ∧ ρ (.tmp 114) = vs.getD 0 undef at p114
      obtain ⟨v, rfl⟩ := one_of hvl
      obtain ⟨F', s', V', hS, rfl, rfl, A, k, c, xs, rfl, hat, hl, hd⟩ := hX
      obtain ⟨-, p114⟩ := p114
      change ρ (.tmp 114) = .slice A k c at p114
      have o := hS.o 0 (by decide)
      have hk : k ≤ 2 := by have := hd.len; have := out_len (s 1); omega
      obtain ⟨A', c', w', hr, h2, h3, h4⟩ := run_app W elt_sl 31 o.own (c2 := c) (by omega : xs.length = k * 1) hat hd.cell (by unfold maxLen; omega) (by omega) hS.ways.bel.size
      refine actK_val (exec_app _ _ _ rfl p110 p114 hr) ?_
      exact ⟨F', _, _, hS.app 0 (by decide) hd h3 h2 h4, rfl, ⟨A', (V' 0).n + k, c', (V' 0).vs ++ xs, (V' 0).L ++ (outA (s 1) ++ outB (s 1))⟩, rfl, rfl, rfl⟩
    refine ⟨fun ρ W vs ⟨hcst, hglb, hfun⟩ hX hp ho => ?_, ?_⟩ -- 11: slot 116 := Op.indexAddr 65 t8 t106
    · obtain ⟨p106, -⟩ := hp
      change ρ (.tmp 106) = _ at p106
      obtain ⟨o8, -⟩ := ho
      change ρ (.tmp 8) = l0.toArray.getD 8 undef at o8
      rw [e8] at o8
      refine turn_plain (ok_is ?_ rfl); simp only [execOp, p106, o8]; go_simp; try exact rfl
    exact trivial
  case mono => exact ⟨mono_isK _, mono_isK _, mono_isK _, mono_isK _, mono_isK _, mono_isK _, mono_isK _, mono_isK _, mono_isK _, mono_anyK, mono_anyK, mono_isK _, trivial⟩
  case st =>
    intro ρ W vs ⟨hcst, hglb, hfun⟩ hvl hX hp ho
    change ∃ W2, (execOp ρ { dst := none, op := Op.store 31 (.tmp 116) (.tmp 115), type := _, pos := _, after := _, guard := _ }).run _ W = _ ∧ _
    obtain ⟨p116, p115, -⟩ := hp
    change ρ (.tmp 116) = _ at p116
    change 1 < vs.length ∧ ρ (.tmp 115) = vs.getD 1 undef at p115
    obtain ⟨u, v, rfl⟩ := two_of hvl
    obtain ⟨F', s', V', hS, rfl, a, rfl, ha, rfl⟩ := hX
    obtain ⟨-, p115⟩ := p115
    change ρ (.tmp 115) = a.v at p115
    have q : W.cell? ⟨g8, 0, none⟩ = some (V 0).v := hS.h8.cell 0
    have z := hS.h8.frozen 0
    refine ⟨W.setCell ⟨g8, 0, none⟩ a.v, ?_, F', a, ?_, ha⟩
    · simp only [execOp, p116, p115]; unfold WyR.v at *; go_simp; try exact rfl
    · have := hS.put8 0 (by decide) a.v
      rw [upd_v] at this
      exact this
  case fin =>
    intro f W vs _ h
    obtain ⟨F', a, h1, h2⟩ := h
    exact hf f W F' a h1 h2
end Go.Proofs.YtodimanghmepoaaDoor
namespace Go.Proofs.YtodimanghmepoaaDoor
open Go.RowKit
set_option maxRecDepth 100000 in
set_option maxHeartbeats 4000000 in
theorem reg31_0 {Q : Exit → Act → World → Prop} {l0 : List Value} {d0} {w0 w : World} {F : Nat → Nat → Prop} {p : Nat → Nat} {s : Nat → LSt} {g7 g8 g9 g10 g13 : Nat} {V : Nat → WyR} {P C : Nat → List Nat} {K T X : Nat} (hlen : l0.length = 312) (e8 : l0.toArray.getD 8 undef = .pointer (some ⟨g8, 0, none⟩)) (e13 : l0.toArray.getD 13 undef = .pointer (some ⟨g13, 0, none⟩)) (e16 : l0.toArray.getD 16 undef = .int .i64 0) (h : SV w0 w F p s g7 g8 g9 g10 g13 V P C K T X) (hT : T < 256) (hn : 0 < (V 0).n)
    (hf : ∀ (f : Nat → Value) (W : World), SV w0 W F p s g7 g8 g9 g10 g13 V P C K T X → f 18 = .int .i64 ((T % (V 0).n : Nat) : Int) → Q .normal ⟨(over f (inR 148 155 18) 0 l0).toArray, d0⟩ W) :
    (Code.region 31 ops_31.1 true).wp Tryd.prog Q ⟨l0.toArray, d0⟩ w := by
  have i1 : (0 : Int) ≤ (T : Int) := by omega
  have i2 : ¬ ((V 0).n : Int) = 0 := by omega
  have i3 : (0 : Int) ≤ ((V 0).n : Int) := by omega
  have i4 : IntKind.i64.wrap (T : Int) = (T : Int) := by simp [IntKind.wrap, IntKind.signed, IntKind.bits]; omega
  have i5 : ¬ (V 0).n = 0 := by omega
  refine wp_region_chainO (inR 148 155 18) 9 [] (fun _ W => SX w0 W F p s g7 g8 g9 g10 g13 (fun i => (V i).v) V P C K T X ∧ True) (isK (.pointer (some ⟨g13, 1, none⟩)) :: isK ?c1 :: isK (.int .i64 (T : Int)) :: isK (.int .i64 0) :: isK (.pointer (some ⟨g8, 0, none⟩)) :: isK ?c5 :: isK (.int .i64 ((V 0).n : Int)) :: isK (.int .i64 ((T : Int) % ((V 0).n : Int))) :: isK (.int .i64 ((T : Int) % ((V 0).n : Int))) :: [])
    [⟨[], [13], none⟩, ⟨[(148, 0)], [], none⟩, ⟨[(149, 1)], [], none⟩, ⟨[], [16], none⟩, ⟨[(151, 3)], [8], none⟩, ⟨[(152, 4)], [], none⟩, ⟨[(153, 5)], [], none⟩, ⟨[(150, 2), (154, 6)], [], none⟩, ⟨[(155, 7)], [], none⟩] (by kernel_rfl) (by kernel_rfl) (by rw [hlen]; kernel_rfl) (by kernel_rfl) (by kernel_rfl) (by kernel_rfl) (by kernel_rfl) ?hphi ?mono ?h0 ?steps ?fin
  case hphi =>
    rintro vs W W' ⟨hS, -⟩ hb
    exact ⟨hS.later hb, trivial⟩
  case h0 =>
    exact ⟨h, trivial⟩
  case steps =>
    refine ⟨fun ρ W vs ⟨hcst, hglb, hfun⟩ hX hp ho => ?_, ?_⟩ -- 0: slot 148 := Op.fieldAddr 68 t13 1
    · obtain ⟨o13, -⟩ := ho
      change ρ (.tmp 13) = l0.toArray.getD 13 undef at o13
      rw [e13] at o13
      refine turn_plain (ok_is ?_ rfl); simp only [execOp, o13]; go_simp; try exact rfl
    refine ⟨fun ρ W vs ⟨hcst, hglb, hfun⟩ hX hp ho => ?_, ?_⟩ -- 1: slot 149 := Op.load 5 t148
    · obtain ⟨p148, -⟩ := hp
      change ρ (.tmp 148) = _ at p148
      obtain ⟨hS, -⟩ := hX
      have q : W.cell? ⟨g13, 1, none⟩ = some (.int .u8 (T : Int)) := hS.h13.cell 1
      refine turn_plain (ok_is ?_ rfl); simp only [execOp, p148]; go_simp; try exact rfl
    refine ⟨fun ρ W vs ⟨hcst, hglb, hfun⟩ hX hp ho => ?_, ?_⟩ -- 2: slot 150 := Op.convert 5 3 t149
    · obtain ⟨p149, -⟩ := hp
      change ρ (.tmp 149) = _ at p149
      refine turn_plain (ok_is ?_ rfl); simp only [execOp, p149]; go_simp; try simp only [i4]; try rfl
    refine ⟨fun ρ W vs ⟨hcst, hglb, hfun⟩ hX hp ho => ?_, ?_⟩ -- 3: slot 151 := Op.move t16
    · obtain ⟨o16, -⟩ := ho
      change ρ (.tmp 16) = l0.toArray.getD 16 undef at o16
      rw [e16] at o16
      refine turn_plain (ok_is ?_ rfl); simp only [execOp, o16]; go_simp; try exact rfl
    refine ⟨fun ρ W vs ⟨hcst, hglb, hfun⟩ hX hp ho => ?_, ?_⟩ -- 4: slot 152 := Op.indexAddr 65 t8 t151
    · obtain ⟨p151, -⟩ := hp
      change ρ (.tmp 151) = _ at p151
      obtain ⟨o8, -⟩ := ho
      change ρ (.tmp 8) = l0.toArray.getD 8 undef at o8
      rw [e8] at o8
      refine turn_plain (ok_is ?_ rfl); simp only [execOp, p151, o8]; go_simp; try exact rfl
    refine ⟨fun ρ W vs ⟨hcst, hglb, hfun⟩ hX hp ho => ?_, ?_⟩ -- 5: slot 153 := Op.load 31 t152
    · obtain ⟨p152, -⟩ := hp
      change ρ (.tmp 152) = _ at p152
      obtain ⟨hS, -⟩ := hX
      have q : W.cell? ⟨g8, 0, none⟩ = some (.slice (V 0).A (V 0).n (V 0).c) := hS.h8.cell 0
      refine turn_plain (ok_is ?_ rfl); simp only [execOp, p152]; go_simp; try exact rfl
    refine ⟨fun ρ W vs ⟨hcst, hglb, hfun⟩ hX hp ho => ?_, ?_⟩ -- 6: slot 154 := Op.call { builtin len, args := #[t153], argTypes := #[31] }
    · obtain ⟨p153, -⟩ := hp
      change ρ (.tmp 153) = _ at p153
      refine turn_plain (ok_is ?_ rfl); simp only [execOp, p153]; go_simp; try exact rfl
    refine ⟨fun ρ W vs ⟨hcst, hglb, hfun⟩ hX hp ho => ?_, ?_⟩ -- 7: slot 155 := Op.binOp BinOp.rem 3 t150 t154 3
    · obtain ⟨p150, p154, -⟩ := hp
      change ρ (.tmp 150) = _ at p150
      change ρ (.tmp 154) = _ at p154
      refine turn_plain (ok_is ?_ rfl); simp only [execOp, p150, p154]; go_simp; simp only [if_neg i5, Int.tmod_eq_emod_of_nonneg i1]
    refine ⟨fun ρ W vs ⟨hcst, hglb, hfun⟩ hX hp ho => ?_, ?_⟩ -- 8: slot 18 := Op.assign t155
    · obtain ⟨p155, -⟩ := hp
      change ρ (.tmp 155) = _ at p155
      refine turn_plain (ok_is ?_ rfl); simp only [execOp, p155]; go_simp; try exact rfl
    exact trivial
  case mono => exact ⟨mono_isK _, mono_isK _, mono_isK _, mono_isK _, mono_isK _, mono_isK _, mono_isK _, mono_isK _, mono_isK _, trivial⟩
  case fin =>
    intro f W vs _ h hR
    exact hf f W h.1 ((hR 8 18 (by omega) rfl).trans (by rw [Int.natCast_emod]))
set_option maxRecDepth 100000 in
set_option maxHeartbeats 4000000 in
theorem reg31_1 {Q : Exit → Act → World → Prop} {l0 : List Value} {d0} {w0 w : World} {F : Nat → Nat → Prop} {p : Nat → Nat} {s : Nat → LSt} {g7 g8 g9 g10 g13 : Nat} {V : Nat → WyR} {P C : Nat → List Nat} {K T X : Nat} (hlen : l0.length = 312) (e8 : l0.toArray.getD 8 undef = .pointer (some ⟨g8, 0, none⟩)) (e13 : l0.toArray.getD 13 undef = .pointer (some ⟨g13, 0, none⟩)) (e16 : l0.toArray.getD 16 undef = .int .i64 1) (h : SV w0 w F p s g7 g8 g9 g10 g13 V P C K T X) (hT : T < 256) (hn : 0 < (V 1).n)
    (hf : ∀ (f : Nat → Value) (W : World), SV w0 W F p s g7 g8 g9 g10 g13 V P C K T X → f 18 = .int .i64 ((T % (V 1).n : Nat) : Int) → Q .normal ⟨(over f (inR 148 155 18) 0 l0).toArray, d0⟩ W) :
    (Code.region 31 ops_31.1 true).wp Tryd.prog Q ⟨l0.toArray, d0⟩ w := by
  have i1 : (0 : Int) ≤ (T : Int) := by omega
  have i2 : ¬ ((V 1).n : Int) = 0 := by omega
  have i3 : (0 : Int) ≤ ((V 1).n : Int) := by omega
  have i4 : IntKind.i64.wrap (T : Int) = (T : Int) := by simp [IntKind.wrap, IntKind.signed, IntKind.bits]; omega
  have i5 : ¬ (V 1).n = 0 := by omega
  refine wp_region_chainO (inR 148 155 18) 9 [] (fun _ W => SX w0 W F p s g7 g8 g9 g10 g13 (fun i => (V i).v) V P C K T X ∧ True) (isK (.pointer (some ⟨g13, 1, none⟩)) :: isK ?c1 :: isK (.int .i64 (T : Int)) :: isK (.int .i64 1) :: isK (.pointer (some ⟨g8, 1, none⟩)) :: isK ?c5 :: isK (.int .i64 ((V 1).n : Int)) :: isK (.int .i64 ((T : Int) % ((V 1).n : Int))) :: isK (.int .i64 ((T : Int) % ((V 1).n : Int))) :: [])
    [⟨[], [13], none⟩, ⟨[(148, 0)], [], none⟩, ⟨[(149, 1)], [], none⟩, ⟨[], [16], none⟩, ⟨[(151, 3)], [8], none⟩, ⟨[(152, 4)], [], none⟩, ⟨[(153, 5)], [], none⟩, ⟨[(150, 2), (154, 6)], [], none⟩, ⟨[(155, 7)], [], none⟩] (by kernel_rfl) (by kernel_rfl) (by rw [hlen]; kernel_rfl) (by kernel_rfl) (by kernel_rfl) (by kernel_rfl) (by kernel_rfl) ?hphi ?mono ?h0 ?steps ?fin
  case hphi =>
    rintro vs W W' ⟨hS, -⟩ hb
    exact ⟨hS.later hb, trivial⟩
  case h0 =>
    exact ⟨h, trivial⟩
  case steps =>
    refine ⟨fun ρ W vs ⟨hcst, hglb, hfun⟩ hX hp ho => ?_, ?_⟩ -- 0: slot 148 := Op.fieldAddr 68 t13 1
    · obtain ⟨o13, -⟩ := ho
      change ρ (.tmp 13) = l0.toArray.getD 13 undef at o13
      rw [e13] at o13
      refine turn_plain (ok_is ?_ rfl); simp only [execOp, o13]; go_simp; try exact rfl
    refine ⟨fun ρ W vs ⟨hcst, hglb, hfun⟩ hX hp ho => ?_, ?_⟩ -- 1: slot 149 := Op.load 5 t148
    · obtain ⟨p148, -⟩ := hp
      change ρ (.tmp 148) = _ at p148
      obtain ⟨hS, -⟩ := hX
      have q : W.cell? ⟨g13, 1, none⟩ = some (.int .u8 (T : Int)) := hS.h13.cell 1
      refine turn_plain (ok_is ?_ rfl); simp only [execOp, p148]; go_simp; try exact rfl
    refine ⟨fun ρ W vs ⟨hcst, hglb, hfun⟩ hX hp ho => ?_, ?_⟩ -- 2: slot 150 := Op.convert 5 3 t149
    · obtain ⟨p149, -⟩ := hp
      change ρ (.tmp 149) = _ at p149
      refine turn_plain (ok_is ?_ rfl); simp only [execOp, p149]; go_simp; try simp only [i4]; try rfl
    refine ⟨fun ρ W vs ⟨hcst, hglb, hfun⟩ hX hp ho => ?_, ?_⟩ -- 3: slot 151 := Op.move t16
    · obtain ⟨o16, -⟩ := ho
      change ρ (.tmp 16) = l0.toArray.getD 16 undef at o16
      rw [e16] at o16
      refine turn_plain (ok_is ?_ rfl); simp only [execOp, o16]; go_simp; try exact rfl
    refine ⟨fun ρ W vs ⟨hcst, hglb, hfun⟩ hX hp ho => ?_, ?_⟩ -- 4: slot 152 := Op.indexAddr 65 t8 t151
    · obtain ⟨p151, -⟩ := hp
      change ρ (.tmp 151) = _ at p151
      obtain ⟨o8, -⟩ := ho
      change ρ (.tmp 8) = l0.toArray.getD 8 undef at o8
      rw [e8] at o8
      refine turn_plain (ok_is ?_ rfl); simp only [execOp, p151, o8]; go_simp; try exact rfl
    refine ⟨fun ρ W vs ⟨hcst, hglb, hfun⟩ hX hp ho => ?_, ?_⟩ -- 5: slot 153 := Op.load 31 t152
    · obtain ⟨p152, -⟩ := hp
      change ρ (.tmp 152) = _ at p152
      obtain ⟨hS, -⟩ := hX
      have q : W.cell? ⟨g8, 1, none⟩ = some (.slice (V 1).A (V 1).n (V 1).c) := hS.h8.cell 1
      refine turn_plain (ok_is ?_ rfl); simp only [execOp, p152]; go_simp; try exact rfl
    refine ⟨fun ρ W vs ⟨hcst, hglb, hfun⟩ hX hp ho => ?_, ?_⟩ -- 6: slot 154 := Op.call { builtin len, args := #[t153], argTypes := #[31] }
    · obtain ⟨p153, -⟩ := hp
      change ρ (.tmp 153) = _ at p153
      refine turn_plain (ok_is ?_ rfl); simp only [execOp, p153]; go_simp; try exact rfl
    refine ⟨fun ρ W vs ⟨hcst, hglb, hfun⟩ hX hp ho => ?_, ?_⟩ -- 7: slot 155 := Op.binOp BinOp.rem 3 t150 t154 3
    · obtain ⟨p150, p154, -⟩ := hp
      change ρ (.tmp 150) = _ at p150
      change ρ (.tmp 154) = _ at p154
      refine turn_plain (ok_is ?_ rfl); simp only [execOp, p150, p154]; go_simp; simp only [if_neg i5, Int.tmod_eq_emod_of_nonneg i1]
    refine ⟨fun ρ W vs ⟨hcst, hglb, hfun⟩ hX hp ho => ?_, ?_⟩ -- 8: slot 18 := Op.assign t155
    · obtain ⟨p155, -⟩ := hp
      change ρ (.tmp 155) = _ at p155
      refine turn_plain (ok_is ?_ rfl); simp only [execOp, p155]; go_simp; try exact rfl
    exact trivial
  case mono => exact ⟨mono_isK _, mono_isK _, mono_isK _, mono_isK _, mono_isK _, mono_isK _, mono_isK _, mono_isK _, mono_isK _, trivial⟩
  case fin =>
    intro f W vs _ h hR
    exact hf f W h.1 ((hR 8 18 (by omega) rfl).trans (by rw [Int.natCast_emod]))
end Go.Proofs.YtodimanghmepoaaDoor
namespace Go.Proofs.YtodimanghmepoaaDoor
open Go.RowKit
set_option maxRecDepth 100000 in
set_option maxHeartbeats 4000000 in
theorem reg33_0 {Q : Exit → Act → World → Prop} {l0 : List Value} {d0} {w0 w : World} {F : Nat → Nat → Prop} {p : Nat → Nat} {s : Nat → LSt} {g7 g8 g9 g10 g13 : Nat} {V : Nat → WyR} {P C : Nat → List Nat} {K T X : Nat} (hlen : l0.length = 312) {a : Nat} (e8 : l0.toArray.getD 8 undef = .pointer (some ⟨g8, 0, none⟩)) (e16 : l0.toArray.getD 16 undef = .int .i64 0) (e18 : l0.toArray.getD 18 undef = .int .i64 (a : Int)) (h : SV w0 w F p s g7 g8 g9 g10 g13 V P C K T X) (ha : a < (V 0).n) (hn : (V 0).n ≤ 100000)
    (hf : ∀ (f : Nat → Value) (W : World) (r : WyR), r.L = (V 0).L.take a ++ (V 0).L.drop (a + 1) → SV w0 W F p s g7 g8 g9 g10 g13 (upd V 0 r) P C K T X → DGs W w0.heap.size F (V 0).vs (V 0).L → Q .normal ⟨(over f (inR 162 177 162) 0 l0).toArray, d0⟩ W) :
    (Code.region 33 ops_33.1 true).wp Tryd.prog Q ⟨l0.toArray, d0⟩ w := by
  obtain ⟨g, eA⟩ : ∃ g, (V 0).A = some ⟨g, 0, none⟩ := by
    rcases (h.o 0 (by decide)).own.lies with ⟨_, h1, _⟩ | ⟨g, h1, _⟩
    · omega
    · exact ⟨g, h1⟩
  have hcap := (h.o 0 (by decide)).own.cap
  have i1 : (0 : Int) ≤ (a : Int) := by omega
  have i2 : (a : Int) ≤ ((V 0).c : Int) := by omega
  have i3 : (a : Int) + 1 ≤ ((V 0).n : Int) := by omega
  have i4 : (0 : Int) ≤ (a : Int) + 1 := by omega
  have i5 : (a : Int) + 1 ≤ 9223372036854775807 := by omega
  have i6 : ((a : Int) + 1).toNat = a + 1 := by omega
  have i7 : ¬ (V 0).c = 0 := by omega
  have i8 : IntKind.i64.wrap ((a : Int) + 1) = (a : Int) + 1 := by simp [IntKind.wrap, IntKind.signed, IntKind.bits]; omega
  refine wp_region_chainT (inR 162 177 162) 16 [1, 7, 14] (fun vs W => SX w0 W F p s g7 g8 g9 g10 g13 (fun i => (V i).v) V P C K T X ∧ (match vs with
        | [] => True
        | [v] => NL w0 W F V v 0 []
        | [_, v] => NL w0 W F V v (0 + a) ([] ++ (V 0).vs.take a)
        | [_, _, v] => NL w0 W F V v (0 + a + ((V 0).n - (a + 1))) ([] ++ (V 0).vs.take a ++ (V 0).vs.drop (a + 1))
        | _ => False)) (fun _ W => ∃ r : WyR, r.L = (V 0).L.take a ++ (V 0).L.drop (a + 1) ∧ SV w0 W F p s g7 g8 g9 g10 g13 (upd V 0 r) P C K T X ∧ DGs W w0.heap.size F (V 0).vs (V 0).L) (isK (.int .i64 0) :: RelK.any_ :: isK (.int .i64 0) :: isK (.pointer (some ⟨g8, 0, none⟩)) :: isK ?c4 :: isK (.int .i64 (a : Int)) :: isK (.slice (some ⟨g, 0, none⟩) a (V 0).c) :: RelK.any_ :: isK (.int .i64 0) :: isK (.pointer (some ⟨g8, 0, none⟩)) :: isK ?c10 :: isK (.int .i64 (a : Int)) :: isK (.int .i64 ((a : Int) + 1)) :: isK (.slice (if (V 0).c = a + 1 then some ⟨g, 0, none⟩ else some ⟨g, a + 1, none⟩) ((V 0).n - (a + 1)) ((V 0).c - (a + 1))) :: RelK.any_ :: isK (.pointer (some ⟨g8, 0, none⟩)) :: [])
    [⟨[], [16], none⟩, ⟨[], [], none⟩, ⟨[], [16], none⟩, ⟨[(164, 2)], [8], none⟩, ⟨[(165, 3)], [], none⟩, ⟨[], [18], none⟩, ⟨[(166, 4), (167, 5)], [], none⟩, ⟨[(163, 1), (168, 6)], [], none⟩, ⟨[], [16], none⟩, ⟨[(170, 8)], [8], none⟩, ⟨[(171, 9)], [], none⟩, ⟨[], [18], none⟩, ⟨[(173, 11)], [], none⟩, ⟨[(172, 10), (174, 12)], [], none⟩, ⟨[(169, 7), (175, 13)], [], none⟩, ⟨[(162, 0)], [8], none⟩] ⟨[(177, 15), (176, 14)], [], none⟩ _ rfl (by kernel_rfl) (by kernel_rfl) (by rw [hlen]; kernel_rfl) (by kernel_rfl) (by kernel_rfl) (by kernel_rfl) (by kernel_rfl) (by kernel_rfl) (by kernel_rfl) ?hphi ?mono ?h0 ?steps ?st ?fin
  case hphi =>
    rintro vs W W' ⟨hS, hx⟩ hb
    refine ⟨hS.later hb, ?_⟩
    match vs, hx with
    | [], hx => trivial
    | [v], hx => exact hx.later hb
    | [_, v], hx => exact hx.later hb
    | [_, _, v], hx => exact hx.later hb
  case h0 =>
    exact ⟨h, trivial⟩
  case steps =>
    refine ⟨fun ρ W vs ⟨hcst, hglb, hfun⟩ hX hp ho => ?_, ?_⟩ -- 0: slot 162 := Op.move t16
    · obtain ⟨o16, -⟩ := ho
      change ρ (.tmp 16) = l0.toArray.getD 16 undef at o16
      rw [e16] at o16
      refine turn_plain (ok_is ?_ rfl); simp only [execOp, o16]; go_simp; try exact rfl
    refine ⟨fun ρ W vs ⟨hcst, hglb, hfun⟩ hvl hX hp ho => ?_, ?_⟩ -- 1: slot 163 := Op.buildSlice 31 0 #[]
    · obtain rfl := List.eq_nil_of_length_eq_zero hvl
      obtain ⟨hS, -⟩ := hX
      refine actK_val (exec_build0 rfl) ?_
      exact ⟨hS.later ((Below.refl _ _).alloc (Nat.le_refl _) _), NL.lit hS #[] 0 rfl (Nat.zero_le _)⟩
    refine ⟨fun ρ W vs ⟨hcst, hglb, hfun⟩ hX hp ho => ?_, ?_⟩ -- 2: slot 164 := Op.move t16
    · obtain ⟨o16, -⟩ := ho
      change ρ (.tmp 16) = l0.toArray.getD 16 undef at o16
      rw [e16] at o16
      refine turn_plain (ok_is ?_ rfl); simp only [execOp, o16]; go_simp; try exact rfl
    refine ⟨fun ρ W vs ⟨hcst, hglb, hfun⟩ hX hp ho => ?_, ?_⟩ -- 3: slot 165 := Op.indexAddr 65 t8 t164
    · obtain ⟨p164, -⟩ := hp
      change ρ (.tmp 164) = _ at p164
      obtain ⟨o8, -⟩ := ho
      change ρ (.tmp 8) = l0.toArray.getD 8 undef at o8
      rw [e8] at o8
      refine turn_plain (ok_is ?_ rfl); simp only [execOp, p164, o8]; go_simp; try exact rfl
    refine ⟨fun ρ W vs ⟨hcst, hglb, hfun⟩ hX hp ho => ?_, ?_⟩ -- 4: slot 166 := Op.load 31 t165
    · obtain ⟨p165, -⟩ := hp
      change ρ (.tmp 165) = _ at p165
      obtain ⟨hS, -⟩ := hX
      have q : W.cell? ⟨g8, 0, none⟩ = some (.slice (some ⟨g, 0, none⟩) (V 0).n (V 0).c) := by rw [← eA]; exact hS.h8.cell 0
      refine turn_plain (ok_is ?_ rfl); simp only [execOp, p165]; go_simp; try exact rfl
    refine ⟨fun ρ W vs ⟨hcst, hglb, hfun⟩ hX hp ho => ?_, ?_⟩ -- 5: slot 167 := Op.move t18
    · obtain ⟨o18, -⟩ := ho
      change ρ (.tmp 18) = l0.toArray.getD 18 undef at o18
      rw [e18] at o18
      refine turn_plain (ok_is ?_ rfl); simp only [execOp, o18]; go_simp; try exact rfl
    refine ⟨fun ρ W vs ⟨hcst, hglb, hfun⟩ hX hp ho => ?_, ?_⟩ -- 6: slot 168 := Op.slice 31 t166 none (some t167) none
    · obtain ⟨p166, p167, -⟩ := hp
      change ρ (.tmp 166) = _ at p166
      change ρ (.tmp 167) = _ at p167
      refine turn_plain (ok_is ?_ rfl); simp only [execOp, p166, p167]; go_simp; try exact rfl
    refine ⟨fun ρ W vs ⟨hcst, hglb, hfun⟩ hvl hX hp ho => ?_, ?_⟩ -- 7: slot 169 := Op.call { builtin append, args := #[t163, t168], argTypes := #[31, 31] }
    · obtain ⟨p163, p168, -⟩ := hp
      change 0 < vs.length ∧ ρ (.tmp 163) = vs.getD 0 undef at p163
      change ρ (.tmp 168) = _ at p168
      obtain ⟨v, rfl⟩ := one_of hvl
      obtain ⟨hS, A, c, rfl, ho2, ha2, hne2⟩ := hX
      obtain ⟨-, p163⟩ := p163
      change ρ (.tmp 163) = .slice A 0 c at p163
      have o := hS.o 0 (by decide)
      have hat : At W (some ⟨g, 0, none⟩) ((V 0).vs.take a) := by rw [← eA]; exact o.own.at_.take
      have hl : ((V 0).vs.take a).length = a * 1 := by have := o.own.len; simp; omega
      obtain ⟨A', c', w', hr, h2, h3, h4⟩ := run_app W elt_sl 31 ho2 (c2 := (V 0).c) hl hat (o.dgs.take a).cell (by unfold maxLen; omega) (by omega) hS.ways.bel.size
      refine actK_val (exec_app _ _ _ rfl p163 p168 hr) ?_
      exact NL.app hS ho2 ha2 hne2 h2 h3 h4
    refine ⟨fun ρ W vs ⟨hcst, hglb, hfun⟩ hX hp ho => ?_, ?_⟩ -- 8: slot 170 := Op.move t16
    · obtain ⟨o16, -⟩ := ho
      change ρ (.tmp 16) = l0.toArray.getD 16 undef at o16
      rw [e16] at o16
      refine turn_plain (ok_is ?_ rfl); simp only [execOp, o16]; go_simp; try exact rfl
    refine ⟨fun ρ W vs ⟨hcst, hglb, hfun⟩ hX hp ho => ?_, ?_⟩ -- 9: slot 171 := Op.indexAddr 65 t8 t170
    · obtain ⟨p170, -⟩ := hp
      change ρ (.tmp 170) = _ at p170
      obtain ⟨o8, -⟩ := ho
      change ρ (.tmp 8) = l0.toArray.getD 8 undef at o8
      rw [e8] at o8
      refine turn_plain (ok_is ?_ rfl); simp only [execOp, p170, o8]; go_simp; try exact rfl
    refine ⟨fun ρ W vs ⟨hcst, hglb, hfun⟩ hX hp ho => ?_, ?_⟩ -- 10: slot 172 := Op.load 31 t171
    · obtain ⟨p171, -⟩ := hp
      change ρ (.tmp 171) = _ at p171
      obtain ⟨hS, -⟩ := hX
      have q : W.cell? ⟨g8, 0, none⟩ = some (.slice (some ⟨g, 0, none⟩) (V 0).n (V 0).c) := by rw [← eA]; exact hS.h8.cell 0
      refine turn_plain (ok_is ?_ rfl); simp only [execOp, p171]; go_simp; try exact rfl
    refine ⟨fun ρ W vs ⟨hcst, hglb, hfun⟩ hX hp ho => ?_, ?_⟩ -- 11: slot 173 := Op.move t18
    · obtain ⟨o18, -⟩ := ho
      change ρ (.tmp 18) = l0.toArray.getD 18 undef at o18
      rw [e18] at o18
      refine turn_plain (ok_is ?_ rfl); simp only [execOp, o18]; go_simp; try exact rfl
    refine ⟨fun ρ W vs ⟨hcst, hglb, hfun⟩ hX hp ho => ?_, ?_⟩ -- 12: slot 174 := Op.binOp BinOp.add 3 t173 (const (1:i64)) 3
    · obtain ⟨p173, -⟩ := hp
      change ρ (.tmp 173) = _ at p173
      refine turn_plain (ok_is ?_ rfl); simp only [execOp, hcst, p173]; go_simp; try simp only [i8]; try rfl
    refine ⟨fun ρ W vs ⟨hcst, hglb, hfun⟩ hX hp ho => ?_, ?_⟩ -- 13: slot 175 := Op.slice 31 t172 (some t174) none none
    · obtain ⟨p172, p174, -⟩ := hp
      change ρ (.tmp 172) = _ at p172
      change ρ (.tmp 174) = _ at p174
      refine turn_plain (ok_is ?_ rfl); simp only [execOp, p172, p174]; go_simp; try exact rfl
    refine ⟨fun ρ W vs ⟨hcst, hglb, hfun⟩ hvl hX hp ho => ?_, ?_⟩ -- 14: slot 176 := Op.call { builtin append, args := #[t169, t175], argTypes := #[31, 31] }
    · obtain ⟨p169, p175, -⟩ := hp
      change 1 < vs.length ∧ ρ (.tmp 169) = vs.getD 1 undef at p169
      change ρ (.tmp 175) = _ at p175
      obtain ⟨u, v, rfl⟩ := two_of hvl
      obtain ⟨hS, A, c, rfl, ho2, ha2, hne2⟩ := hX
      obtain ⟨-, p169⟩ := p169
      change ρ (.tmp 169) = .slice A (0 + a) c at p169
      have o := hS.o 0 (by decide)
      have hat : At W (if (V 0).c = a + 1 then some ⟨g, 0, none⟩ else some ⟨g, a + 1, none⟩) ((V 0).vs.drop (a + 1)) := by
        split
        · have := o.own.cap; have := o.own.len; rw [List.drop_eq_nil_of_le (by omega)]; exact At.nil _ _
        · have h0 := o.own.at_; rw [eA] at h0; have h1 := h0.cut (m := a + 1); rw [Nat.zero_add] at h1; exact h1
      have hl : ((V 0).vs.drop (a + 1)).length = ((V 0).n - (a + 1)) * 1 := by have := o.own.len; simp; omega
      obtain ⟨A', c', w', hr, h2, h3, h4⟩ := run_app W elt_sl 31 ho2 (c2 := (V 0).c - (a + 1)) hl hat (o.dgs.drop (a + 1)).cell (by unfold maxLen; omega) (by omega) hS.ways.bel.size
      refine actK_val (exec_app _ _ _ rfl p169 p175 hr) ?_
      exact NL.app hS ho2 ha2 hne2 h2 h3 h4
    refine ⟨fun ρ W vs ⟨hcst, hglb, hfun⟩ hX hp ho => ?_, ?_⟩ -- 15: slot 177 := Op.indexAddr 65 t8 t162
    · obtain ⟨p162, -⟩ := hp
      change ρ (.tmp 162) = _ at p162
      obtain ⟨o8, -⟩ := ho
      change ρ (.tmp 8) = l0.toArray.getD 8 undef at o8
      rw [e8] at o8
      refine turn_plain (ok_is ?_ rfl); simp only [execOp, p162, o8]; go_simp; try exact rfl
    exact trivial
  case mono => exact ⟨mono_isK _, mono_anyK, mono_isK _, mono_isK _, mono_isK _, mono_isK _, mono_isK _, mono_anyK, mono_isK _, mono_isK _, mono_isK _, mono_isK _, mono_isK _, mono_isK _, mono_anyK, mono_isK _, trivial⟩
  case st =>
    intro ρ W vs ⟨hcst, hglb, hfun⟩ hvl hX hp ho
    change ∃ W2, (execOp ρ { dst := none, op := Op.store 31 (.tmp 177) (.tmp 176), type := _, pos := _, after := _, guard := _ }).run _ W = _ ∧ _
    obtain ⟨p177, p176, -⟩ := hp
    change ρ (.tmp 177) = _ at p177
    change 2 < vs.length ∧ ρ (.tmp 176) = vs.getD 2 undef at p176
    obtain ⟨u1, u2, v, rfl⟩ := three_of hvl
    obtain ⟨hS, hN⟩ := hX
    obtain ⟨-, p176⟩ := p176
    change ρ (.tmp 176) = v at p176
    have o := hS.o 0 (by decide)
    obtain ⟨r, rfl, hr1, hr2, hS2⟩ := NL.way hS 0 (by decide) hN (L := [] ++ (V 0).L.take a ++ (V 0).L.drop (a + 1)) (((DGs.nil _ _ _).app (o.dgs.take a)).app (o.dgs.drop (a + 1)))
    have q : W.cell? ⟨g8, 0, none⟩ = some (V 0).v := hS.h8.cell 0
    have z := hS.h8.frozen 0
    refine ⟨W.setCell ⟨g8, 0, none⟩ r.v, ?_, r, by rw [hr1]; rfl, ?_, (o.off (grown_setW _ _ _) hS.h8 (by decide) (by decide)).dgs⟩
    · simp only [execOp, p177, p176]; unfold WyR.v at *; go_simp; try exact rfl
    · have := hS2.put8 0 (by decide) r.v
      rw [upd_v] at this
      exact this
  case fin =>
    intro f W vs _ h
    obtain ⟨r, h1, h2, h3⟩ := h
    exact hf f W r h1 h2 h3
set_option maxRecDepth 100000 in
set_option maxHeartbeats 4000000 in
theorem reg33_1 {Q : Exit → Act → World → Prop} {l0 : List Value} {d0} {w0 w : World} {F : Nat → Nat → Prop} {p : Nat → Nat} {s : Nat → LSt} {g7 g8 g9 g10 g13 : Nat} {V : Nat → WyR} {P C : Nat → List Nat} {K T X : Nat} (hlen : l0.length = 312) {a : Nat} (e8 : l0.toArray.getD 8 undef = .pointer (some ⟨g8, 0, none⟩)) (e16 : l0.toArray.getD 16 undef = .int .i64 1) (e18 : l0.toArray.getD 18 undef = .int .i64 (a : Int)) (h : SV w0 w F p s g7 g8 g9 g10 g13 V P C K T X) (ha : a < (V 1).n) (hn : (V 1).n ≤ 100000)
    (hf : ∀ (f : Nat → Value) (W : World) (r : WyR), r.L = (V 1).L.take a ++ (V 1).L.drop (a + 1) → SV w0 W F p s g7 g8 g9 g10 g13 (upd V 1 r) P C K T X → DGs W w0.heap.size F (V 1).vs (V 1).L → Q .normal ⟨(over f (inR 162 177 162) 0 l0).toArray, d0⟩ W) :
    (Code.region 33 ops_33.1 true).wp Tryd.prog Q ⟨l0.toArray, d0⟩ w := by
  obtain ⟨g, eA⟩ : ∃ g, (V 1).A = some ⟨g, 0, none⟩ := by
    rcases (h.o 1 (by decide)).own.lies with ⟨_, h1, _⟩ | ⟨g, h1, _⟩
    · omega
    · exact ⟨g, h1⟩
  have hcap := (h.o 1 (by decide)).own.cap
  have i1 : (0 : Int) ≤ (a : Int) := by omega
  have i2 : (a : Int) ≤ ((V 1).c : Int) := by omega
  have i3 : (a : Int) + 1 ≤ ((V 1).n : Int) := by omega
  have i4 : (0 : Int) ≤ (a : Int) + 1 := by omega
  have i5 : (a : Int) + 1 ≤ 9223372036854775807 := by omega
  have i6 : ((a : Int) + 1).toNat = a + 1 := by omega
  have i7 : ¬ (V 1).c = 0 := by omega
  have i8 : IntKind.i64.wrap ((a : Int) + 1) = (a : Int) + 1 := by simp [IntKind.wrap, IntKind.signed, IntKind.bits]; omega
  refine wp_region_chainT (inR 162 177 162) 16 [1, 7, 14] (fun vs W => SX w0 W F p s g7 g8 g9 g10 g13 (fun i => (V i).v) V P C K T X ∧ (match vs with
        | [] => True
        | [v] => NL w0 W F V v 0 []
        | [_, v] => NL w0 W F V v (0 + a) ([] ++ (V 1).vs.take a)
        | [_, _, v] => NL w0 W F V v (0 + a + ((V 1).n - (a + 1))) ([] ++ (V 1).vs.take a ++ (V 1).vs.drop (a + 1))
        | _ => False)) (fun _ W => ∃ r : WyR, r.L = (V 1).L.take a ++ (V 1).L.drop (a + 1) ∧ SV w0 W F p s g7 g8 g9 g10 g13 (upd V 1 r) P C K T X ∧ DGs W w0.heap.size F (V 1).vs (V 1).L) (isK (.int .i64 1) :: RelK.any_ :: isK (.int .i64 1) :: isK (.pointer (some ⟨g8, 1, none⟩)) :: isK ?c4 :: isK (.int .i64 (a : Int)) :: isK (.slice (some ⟨g, 0, none⟩) a (V 1).c) :: RelK.any_ :: isK (.int .i64 1) :: isK (.pointer (some ⟨g8, 1, none⟩)) :: isK ?c10 :: isK (.int .i64 (a : Int)) :: isK (.int .i64 ((a : Int) + 1)) :: isK (.slice (if (V 1).c = a + 1 then some ⟨g, 0, none⟩ else some ⟨g, a + 1, none⟩) ((V 1).n - (a + 1)) ((V 1).c - (a + 1))) :: RelK.any_ :: isK (.pointer (some ⟨g8, 1, none⟩)) :: [])
    [⟨[], [16], none⟩, ⟨[], [], none⟩, ⟨[], [16], none⟩, ⟨[(164, 2)], [8], none⟩, ⟨[(165, 3)], [], none⟩, ⟨[], [18], none⟩, ⟨[(166, 4), (167, 5)], [], none⟩, ⟨[(163, 1), (168, 6)], [], none⟩, ⟨[], [16], none⟩, ⟨[(170, 8)], [8], none⟩, ⟨[(171, 9)], [], none⟩, ⟨[], [18], none⟩, ⟨[(173, 11)], [], none⟩, ⟨[(172, 10), (174, 12)], [], none⟩, ⟨[(169, 7), (175, 13)], [], none⟩, ⟨[(162, 0)], [8], none⟩] ⟨[(177, 15), (176, 14)], [], none⟩ _ rfl (by kernel_rfl) (by kernel_rfl) (by rw [hlen]; kernel_rfl) (by kernel_rfl) (by kernel_rfl) (by kernel_rfl) (by kernel_rfl) (by kernel_rfl) (by kernel_rfl) ?hphi ?mono ?h0 ?steps ?st ?fin
  case hphi =>
    rintro vs W W' ⟨hS, hx⟩ hb
    refine ⟨hS.later hb, ?_⟩
    match vs, hx with
    | [], hx => trivial
    | [v], hx => exact hx.later hb
    | [_, v], hx => exact hx.later hb
    | [_, _, v], hx => exact hx.later hb
  case h0 =>
    exact ⟨h, trivial⟩
  case steps =>
    refine ⟨fun ρ W vs ⟨hcst, hglb, hfun⟩ hX hp ho => ?_, ?_⟩ -- 0: slot 162 := Op.move t16
    · obtain ⟨o16, -⟩ := ho
      change ρ (.tmp 16) = l0.toArray.getD 16 undef at o16
      rw [e16] at o16
      refine turn_plain (ok_is ?_ rfl); simp only [execOp, o16]; go_simp; try exact rfl
    refine ⟨fun ρ W vs ⟨hcst, hglb, hfun⟩ hvl hX hp ho => ?_, ?_⟩ -- 1: slot 163 := Op.buildSlice 31 0 #[]
    · obtain rfl := List.eq_nil_of_length_eq_zero hvl
      obtain ⟨hS, -⟩ := hX
      refine actK_val (exec_build0 rfl) ?_
      exact ⟨hS.later ((Below.refl _ _).alloc (Nat.le_refl _) _), NL.lit hS #[] 0 rfl (Nat.zero_le _)⟩
    refine ⟨fun ρ W vs ⟨hcst, hglb, hfun⟩ hX hp ho => ?_, ?_⟩ -- 2: slot 164 := Op.move t16
    · obtain ⟨o16, -⟩ := ho
      change ρ (.tmp 16) = l0.toArray.getD 16 undef at o16
      rw [e16] at o16
      refine turn_plain (ok_is ?_ rfl); simp only [execOp, o16]; go_simp; try exact rfl
    refine ⟨fun ρ W vs ⟨hcst, hglb, hfun⟩ hX hp ho => ?_, ?_⟩ -- 3: slot 165 := Op.indexAddr 65 t8 t164
    · obtain ⟨p164, -⟩ := hp
      change ρ (.tmp 164) = _ at p164
      obtain ⟨o8, -⟩ := ho
      change ρ (.tmp 8) = l0.toArray.getD 8 undef at o8
      rw [e8] at o8
      refine turn_plain (ok_is ?_ rfl); simp only [execOp, p164, o8]; go_simp; try exact rfl
    refine ⟨fun ρ W vs ⟨hcst, hglb, hfun⟩ hX hp ho => ?_, ?_⟩ -- 4: slot 166 := Op.load 31 t165
    · obtain ⟨p165, -⟩ := hp
      change ρ (.tmp 165) = _ at p165
      obtain ⟨hS, -⟩ := hX
      have q : W.cell? ⟨g8, 1, none⟩ = some (.slice (some ⟨g, 0, none⟩) (V 1).n (V 1).c) := by rw [← eA]; exact hS.h8.cell 1
      refine turn_plain (ok_is ?_ rfl); simp only [execOp, p165]; go_simp; try exact rfl
    refine ⟨fun ρ W vs ⟨hcst, hglb, hfun⟩ hX hp ho => ?_, ?_⟩ -- 5: slot 167 := Op.move t18
    · obtain ⟨o18, -⟩ := ho
      change ρ (.tmp 18) = l0.toArray.getD 18 undef at o18
      rw [e18] at o18
      refine turn_plain (ok_is ?_ rfl); simp only [execOp, o18]; go_simp; try exact rfl
    refine ⟨fun ρ W vs ⟨hcst, hglb, hfun⟩ hX hp ho => ?_, ?_⟩ -- 6: slot 168 := Op.slice 31 t166 none (some t167) none
    · obtain ⟨p166, p167, -⟩ := hp
      change ρ (.tmp 166) = _ at p166
      change ρ (.tmp 167) = _ at p167
      refine turn_plain (ok_is ?_ rfl); simp only [execOp, p166, p167]; go_simp; try exact rfl
    refine ⟨fun ρ W vs ⟨hcst, hglb, hfun⟩ hvl hX hp ho => ?_, ?_⟩ -- 7: slot 169 := Op.call { builtin append, args := #[t163, t168], argTypes := #[31, 31] }
    · obtain ⟨p163, p168, -⟩ := hp
      change 0 < vs.length ∧ ρ (.tmp 163) = vs.getD 0 undef at p163
      change ρ (.tmp 168) = _ at p168
      obtain ⟨v, rfl⟩ := one_of hvl
      obtain ⟨hS, A, c, rfl, ho2, ha2, hne2⟩ := hX
      obtain ⟨-, p163⟩ := p163
      change ρ (.tmp 163) = .slice A 0 c at p163
      have o := hS.o 1 (by decide)
      have hat : At W (some ⟨g, 0, none⟩) ((V 1).vs.take a) := by rw [← eA]; exact o.own.at_.take
      have hl : ((V 1).vs.take a).length = a * 1 := by have := o.own.len; simp; omega
      obtain ⟨A', c', w', hr, h2, h3, h4⟩ := run_app W elt_sl 31 ho2 (c2 := (V 1).c) hl hat (o.dgs.take a).cell (by unfold maxLen; omega) (by omega) hS.ways.bel.size
      refine actK_val (exec_app _ _ _ rfl p163 p168 hr) ?_
      exact NL.app hS ho2 ha2 hne2 h2 h3 h4
    refine ⟨fun ρ W vs ⟨hcst, hglb, hfun⟩ hX hp ho => ?_, ?_⟩ -- 8: slot 170 := Op.move t16
    · obtain ⟨o16, -⟩ := ho
      change ρ (.tmp 16) = l0.toArray.getD 16 undef at o16
      rw [e16] at o16
      refine turn_plain (ok_is ?_ rfl); simp only [execOp, o16]; go_simp; try exact rfl
    refine ⟨fun ρ W vs ⟨hcst, hglb, hfun⟩ hX hp ho => ?_, ?_⟩ -- 9: slot 171 := Op.indexAddr 65 t8 t170
    · obtain ⟨p170, -⟩ := hp
      change ρ (.tmp 170) = _ at p170
      obtain ⟨o8, -⟩ := ho
      change ρ (.tmp 8) = l0.toArray.getD 8 undef at o8
      rw [e8] at o8
      refine turn_plain (ok_is ?_ rfl); simp only [execOp, p170, o8]; go_simp; try exact rfl
    refine ⟨fun ρ W vs ⟨hcst, hglb, hfun⟩ hX hp ho => ?_, ?_⟩ -- 10: slot 172 := Op.load 31 t171
    · obtain ⟨p171, -⟩ := hp
      change ρ (.tmp 171) = _ at p171
      obtain ⟨hS, -⟩ := hX
      have q : W.cell? ⟨g8, 1, none⟩ = some (.slice (some ⟨g, 0, none⟩) (V 1).n (V 1).c) := by rw [← eA]; exact hS.h8.cell 1
      refine turn_plain (ok_is ?_ rfl); simp only [execOp, p171]; go_simp; try exact rfl
    refine ⟨fun ρ W vs ⟨hcst, hglb, hfun⟩ hX hp ho => ?_, ?_⟩ -- 11: slot 173 := Op.move t18
    · obtain ⟨o18, -⟩ := ho
      change ρ (.tmp 18) = l0.toArray.getD 18 undef at o18
      rw [e18] at o18
      refine turn_plain (ok_is ?_ rfl); simp only [execOp, o18]; go_simp; try exact rfl
    refine ⟨fun ρ W vs ⟨hcst, hglb, hfun⟩ hX hp ho => ?_, ?_⟩ -- 12: slot 174 := Op.binOp BinOp.add 3 t173 (const (1:i64)) 3
    · obtain ⟨p173, -⟩ := hp
      change ρ (.tmp 173) = _ at p173
      refine turn_plain (ok_is ?_ rfl); simp only [execOp, hcst, p173]; go_simp; try simp only [i8]; try rfl
    refine ⟨fun ρ W vs ⟨hcst, hglb, hfun⟩ hX hp ho => ?_, ?_⟩ -- 13: slot 175 := Op.slice 31 t172 (some t174) none none
    · obtain ⟨p172, p174, -⟩ := hp
      change ρ (.tmp 172) = _ at p172
      change ρ (.tmp 174) = _ at p174
      refine turn_plain (ok_is ?_ rfl); simp only [execOp, p172, p174]; go_simp; try exact rfl
    refine ⟨fun ρ W vs ⟨hcst, hglb, hfun⟩ hvl hX hp ho => ?_, ?_⟩ -- 14: slot 176 := Op.call { builtin append, args := #[t169, t175], argTypes := #[31, 31] }
    · obtain ⟨p169, p175, -⟩ := hp
      change 1 < vs.length ∧ ρ (.tmp 169) = vs.getD 1 undef at p169
      change ρ (.tmp 175) = _ at p175
      obtain ⟨u, v, rfl⟩ := two_of hvl
      obtain ⟨hS, A, c, rfl, ho2, ha2, hne2⟩ := hX
      obtain ⟨-, p169⟩ := p169
      change ρ (.tmp 169) = .slice A (0 + a) c at p169
      have o := hS.o 1 (by decide)
      have hat : At W (if (V 1).c = a + 1 then some ⟨g, 0, none⟩ else some ⟨g, a + 1, none⟩) ((V 1).vs.drop (a + 1)) := by
        split
        · have := o.own.cap; have := o.own.len; rw [List.drop_eq_nil_of_le (by omega)]; exact At.nil _ _
        · have h0 := o.own.at_; rw [eA] at h0; have h1 := h0.cut (m := a + 1); rw [Nat.zero_add] at h1; exact h1
      have hl : ((V 1).vs.drop (a + 1)).length = ((V 1).n - (a + 1)) * 1 := by have := o.own.len; simp; omega
      obtain ⟨A', c', w', hr, h2, h3, h4⟩ := run_app W elt_sl 31 ho2 (c2 := (V 1).c - (a + 1)) hl hat (o.dgs.drop (a + 1)).cell (by unfold maxLen; omega) (by omega) hS.ways.bel.size
      refine actK_val (exec_app _ _ _ rfl p169 p175 hr) ?_
      exact NL.app hS ho2 ha2 hne2 h2 h3 h4
    refine ⟨fun ρ W vs ⟨hcst, hglb, hfun⟩ hX hp ho => ?_, ?_⟩ -- 15: slot 177 := Op.indexAddr 65 t8 t162
    · obtain ⟨p162, -⟩ := hp
      change ρ (.tmp 162) = _ at p162
      obtain ⟨o8, -⟩ := ho
      change ρ (.tmp 8) = l0.toArray.getD 8 undef at o8
      rw [e8] at o8
      refine turn_plain (ok_is ?_ rfl); simp only [execOp, p162, o8]; go_simp; try exact rfl
    exact trivial
  case mono => exact ⟨mono_isK _, mono_anyK, mono_isK _, mono_isK _, mono_isK _, mono_isK _, mono_isK _, mono_anyK, mono_isK _, mono_isK _, mono_isK _, mono_isK _, mono_isK _, mono_isK _, mono_anyK, mono_isK _, trivial⟩
  case st =>
    intro ρ W vs ⟨hcst, hglb, hfun⟩ hvl hX hp ho
    change ∃ W2, (execOp ρ { dst := none, op := Op.store 31 (.tmp 177) (.tmp 176), type := _, pos := _, after := _, guard := _ }).run _ W = _ ∧ _
    obtain ⟨p177, p176, -⟩ := hp
    change ρ (.tmp 177) = _ at p177
    change 2 < vs.length ∧ ρ (.tmp 176) = vs.getD 2 undef at p176
    obtain ⟨u1, u2, v, rfl⟩ := three_of hvl
    obtain ⟨hS, hN⟩ := hX
    obtain ⟨-, p176⟩ := p176
    change ρ (.tmp 176) = v at p176
    have o := hS.o 1 (by decide)
    obtain ⟨r, rfl, hr1, hr2, hS2⟩ := NL.way hS 1 (by decide) hN (L := [] ++ (V 1).L.take a ++ (V 1).L.drop (a + 1)) (((DGs.nil _ _ _).app (o.dgs.take a)).app (o.dgs.drop (a + 1)))
    have q : W.cell? ⟨g8, 1, none⟩ = some (V 1).v := hS.h8.cell 1
    have z := hS.h8.frozen 1
    refine ⟨W.setCell ⟨g8, 1, none⟩ r.v, ?_, r, by rw [hr1]; rfl, ?_, (o.off (grown_setW _ _ _) hS.h8 (by decide) (by decide)).dgs⟩
    · simp only [execOp, p177, p176]; unfold WyR.v at *; go_simp; try exact rfl
    · have := hS2.put8 1 (by decide) r.v
      rw [upd_v] at this
      exact this
  case fin =>
    intro f W vs _ h
    obtain ⟨r, h1, h2, h3⟩ := h
    exact hf f W r h1 h2 h3
end Go.Proofs.YtodimanghmepoaaDoor
namespace Go.Proofs.YtodimanghmepoaaDoor
open Go.RowKit
set_option maxRecDepth 100000 in
set_option maxHeartbeats 4000000 in
theorem reg38_0 {Q : Exit → Act → World → Prop} {l0 : List Value} {d0} {w0 w : World} {F : Nat → Nat → Prop} {p : Nat → Nat} {s : Nat → LSt} {g7 g8 g9 g10 g13 : Nat} {V : Nat → WyR} {P C : Nat → List Nat} {K T X : Nat} (hlen : l0.length = 312) {A1 : Option Addr} {bd : List Nat} {c1 : Nat} (e10 : l0.toArray.getD 10 undef = .pointer (some ⟨g10, 0, none⟩)) (e16 : l0.toArray.getD 16 undef = .int .i64 0) (e20 : l0.toArray.getD 20 undef = .slice A1 bd.length c1) (h : SV w0 w F p s g7 g8 g9 g10 g13 V P C K T X) (ha : At w A1 (nats .u8 bd)) (hc : (C 0).length + bd.length ≤ 1000000)
    (hf : ∀ (f : Nat → Value) (W : World), SV w0 W F p s g7 g8 g9 g10 g13 V P (upd C 0 (C 0 ++ bd)) K T X → Q .normal ⟨(over f (inR 190 197 190) 0 l0).toArray, d0⟩ W) :
    (Code.region 38 ops_38.1 true).wp Tryd.prog Q ⟨l0.toArray, d0⟩ w := by
  have i1 : (strN (C 0)).size + (strN bd).size ≤ 9223372036854775807 := by rw [strN_size, strN_size]; omega
  refine wp_region_chainT (inR 190 197 190) 8 [] (fun _ W => SX w0 W F p s g7 g8 g9 g10 g13 (fun i => (V i).v) V P C K T X ∧ At W A1 (nats .u8 bd)) (fun _ W => SV w0 W F p s g7 g8 g9 g10 g13 V P (upd C 0 (C 0 ++ bd)) K T X) (isK (.int .i64 0) :: isK (.int .i64 0) :: isK (.pointer (some ⟨g10, 0, none⟩)) :: isK (.string (strN (C 0))) :: isK (.slice A1 bd.length c1) :: isK (.string (strN bd)) :: isK (.string (strN (C 0 ++ bd))) :: isK (.pointer (some ⟨g10, 0, none⟩)) :: [])
    [⟨[], [16], none⟩, ⟨[], [16], none⟩, ⟨[(191, 1)], [10], none⟩, ⟨[(192, 2)], [], none⟩, ⟨[], [20], none⟩, ⟨[(194, 4)], [], none⟩, ⟨[(193, 3), (195, 5)], [], none⟩, ⟨[(190, 0)], [10], none⟩] ⟨[(197, 7), (196, 6)], [], none⟩ _ rfl (by kernel_rfl) (by kernel_rfl) (by rw [hlen]; kernel_rfl) (by kernel_rfl) (by kernel_rfl) (by kernel_rfl) (by kernel_rfl) (by kernel_rfl) (by kernel_rfl) ?hphi ?mono ?h0 ?steps ?st ?fin
  case hphi =>
    rintro vs W W' ⟨hS, ha⟩ hb
    exact ⟨hS.later hb, ha.later hb (Nat.le_refl _)⟩
  case h0 =>
    exact ⟨h, ha⟩
  case steps =>
    refine ⟨fun ρ W vs ⟨hcst, hglb, hfun⟩ hX hp ho => ?_, ?_⟩ -- 0: slot 190 := Op.move t16
    · obtain ⟨o16, -⟩ := ho
      change ρ (.tmp 16) = l0.toArray.getD 16 undef at o16
      rw [e16] at o16
      refine turn_plain (ok_is ?_ rfl); simp only [execOp, o16]; go_simp; try exact rfl
    refine ⟨fun ρ W vs ⟨hcst, hglb, hfun⟩ hX hp ho => ?_, ?_⟩ -- 1: slot 191 := Op.move t16
    · obtain ⟨o16, -⟩ := ho
      change ρ (.tmp 16) = l0.toArray.getD 16 undef at o16
      rw [e16] at o16
      refine turn_plain (ok_is ?_ rfl); simp only [execOp, o16]; go_simp; try exact rfl
    refine ⟨fun ρ W vs ⟨hcst, hglb, hfun⟩ hX hp ho => ?_, ?_⟩ -- 2: slot 192 := Op.indexAddr 66 t10 t191
    · obtain ⟨p191, -⟩ := hp
      change ρ (.tmp 191) = _ at p191
      obtain ⟨o10, -⟩ := ho
      change ρ (.tmp 10) = l0.toArray.getD 10 undef at o10
      rw [e10] at o10
      refine turn_plain (ok_is ?_ rfl); simp only [execOp, p191, o10]; go_simp; try exact rfl
    refine ⟨fun ρ W vs ⟨hcst, hglb, hfun⟩ hX hp ho => ?_, ?_⟩ -- 3: slot 193 := Op.load 9 t192
    · obtain ⟨p192, -⟩ := hp
      change ρ (.tmp 192) = _ at p192
      obtain ⟨hS, -⟩ := hX
      have q : W.cell? ⟨g10, 0, none⟩ = some (.string (strN (C 0))) := hS.h10.cell 0
      refine turn_plain (ok_is ?_ rfl); simp only [execOp, p192]; go_simp; try exact rfl
    refine ⟨fun ρ W vs ⟨hcst, hglb, hfun⟩ hX hp ho => ?_, ?_⟩ -- 4: slot 194 := Op.move t20
    · obtain ⟨o20, -⟩ := ho
      change ρ (.tmp 20) = l0.toArray.getD 20 undef at o20
      rw [e20] at o20
      refine turn_plain (ok_is ?_ rfl); simp only [execOp, o20]; go_simp; try exact rfl
    refine ⟨fun ρ W vs ⟨hcst, hglb, hfun⟩ hX hp ho => ?_, ?_⟩ -- 5: slot 195 := Op.convert 22 9 t194
    · obtain ⟨p194, -⟩ := hp
      change ρ (.tmp 194) = _ at p194
      obtain ⟨hS, ha⟩ := hX
      refine turn_plain (ok_is ?_ rfl)
      simp only [execOp, p194]; rw [Sem.run_bind, run_str W selt_u8.ht (by kernel_rfl) (by kernel_rfl) rfl ha]; rfl
    refine ⟨fun ρ W vs ⟨hcst, hglb, hfun⟩ hX hp ho => ?_, ?_⟩ -- 6: slot 196 := Op.binOp BinOp.add 9 t193 t195 9
    · obtain ⟨p193, p195, -⟩ := hp
      change ρ (.tmp 193) = _ at p193
      change ρ (.tmp 195) = _ at p195
      refine turn_plain (ok_is ?_ rfl)
      rw [← strN_append]
      simp only [execOp, p193, p195]; go_simp; try exact rfl
    refine ⟨fun ρ W vs ⟨hcst, hglb, hfun⟩ hX hp ho => ?_, ?_⟩ -- 7: slot 197 := Op.indexAddr 66 t10 t190
    · obtain ⟨p190, -⟩ := hp
      change ρ (.tmp 190) = _ at p190
      obtain ⟨o10, -⟩ := ho
      change ρ (.tmp 10) = l0.toArray.getD 10 undef at o10
      rw [e10] at o10
      refine turn_plain (ok_is ?_ rfl); simp only [execOp, p190, o10]; go_simp; try exact rfl
    exact trivial
  case mono => exact ⟨mono_isK _, mono_isK _, mono_isK _, mono_isK _, mono_isK _, mono_isK _, mono_isK _, mono_isK _, trivial⟩
  case st =>
    intro ρ W vs ⟨hcst, hglb, hfun⟩ hvl hX hp ho
    change ∃ W2, (execOp ρ { dst := none, op := Op.store 9 (.tmp 197) (.tmp 196), type := _, pos := _, after := _, guard := _ }).run _ W = _ ∧ _
    obtain ⟨p197, p196, -⟩ := hp
    change ρ (.tmp 197) = _ at p197
    change ρ (.tmp 196) = _ at p196
    obtain ⟨hS, -⟩ := hX
    have q : W.cell? ⟨g10, 0, none⟩ = some (.string (strN (C 0))) := hS.h10.cell 0
    have z := hS.h10.frozen 0
    refine ⟨W.setCell ⟨g10, 0, none⟩ (.string (strN (C 0 ++ bd))), ?_, hS.put10 0 (by decide) _⟩
    simp only [execOp, p197, p196]; go_simp; try exact rfl
  case fin =>
    intro f W vs _ h
    exact hf f W h
set_option maxRecDepth 100000 in
set_option maxHeartbeats 4000000 in
theorem reg38_1 {Q : Exit → Act → World → Prop} {l0 : List Value} {d0} {w0 w : World} {F : Nat → Nat → Prop} {p : Nat → Nat} {s : Nat → LSt} {g7 g8 g9 g10 g13 : Nat} {V : Nat → WyR} {P C : Nat → List Nat} {K T X : Nat} (hlen : l0.length = 312) {A1 : Option Addr} {bd : List Nat} {c1 : Nat} (e10 : l0.toArray.getD 10 undef = .pointer (some ⟨g10, 0, none⟩)) (e16 : l0.toArray.getD 16 undef = .int .i64 1) (e20 : l0.toArray.getD 20 undef = .slice A1 bd.length c1) (h : SV w0 w F p s g7 g8 g9 g10 g13 V P C K T X) (ha : At w A1 (nats .u8 bd)) (hc : (C 1).length + bd.length ≤ 1000000)
    (hf : ∀ (f : Nat → Value) (W : World), SV w0 W F p s g7 g8 g9 g10 g13 V P (upd C 1 (C 1 ++ bd)) K T X → Q .normal ⟨(over f (inR 190 197 190) 0 l0).toArray, d0⟩ W) :
    (Code.region 38 ops_38.1 true).wp Tryd.prog Q ⟨l0.toArray, d0⟩ w := by
  have i1 : (strN (C 1)).size + (strN bd).size ≤ 9223372036854775807 := by rw [strN_size, strN_size]; omega
  refine wp_region_chainT (inR 190 197 190) 8 [] (fun _ W => SX w0 W F p s g7 g8 g9 g10 g13 (fun i => (V i).v) V P C K T X ∧ At W A1 (nats .u8 bd)) (fun _ W => SV w0 W F p s g7 g8 g9 g10 g13 V P (upd C 1 (C 1 ++ bd)) K T X) (isK (.int .i64 1) :: isK (.int .i64 1) :: isK (.pointer (some ⟨g10, 1, none⟩)) :: isK (.string (strN (C 1))) :: isK (.slice A1 bd.length c1) :: isK (.string (strN bd)) :: isK (.string (strN (C 1 ++ bd))) :: isK (.pointer (some ⟨g10, 1, none⟩)) :: [])
    [⟨[], [16], none⟩, ⟨[], [16], none⟩, ⟨[(191, 1)], [10], none⟩, ⟨[(192, 2)], [], none⟩, ⟨[], [20], none⟩, ⟨[(194, 4)], [], none⟩, ⟨[(193, 3), (195, 5)], [], none⟩, ⟨[(190, 0)], [10], none⟩] ⟨[(197, 7), (196, 6)], [], none⟩ _ rfl (by kernel_rfl) (by kernel_rfl) (by rw [hlen]; kernel_rfl) (by kernel_rfl) (by kernel_rfl) (by kernel_rfl) (by kernel_rfl) (by kernel_rfl) (by kernel_rfl) ?hphi ?mono ?h0 ?steps ?st ?fin
  case hphi =>
    rintro vs W W' ⟨hS, ha⟩ hb
    exact ⟨hS.later hb, ha.later hb (Nat.le_refl _)⟩
  case h0 =>
    exact ⟨h, ha⟩
  case steps =>
    refine ⟨fun ρ W vs ⟨hcst, hglb, hfun⟩ hX hp ho => ?_, ?_⟩ -- 0: slot 190 := Op.move t16
    · obtain ⟨o16, -⟩ := ho
      change ρ (.tmp 16) = l0.toArray.getD 16 undef at o16
      rw [e16] at o16
      refine turn_plain (ok_is ?_ rfl); simp only [execOp, o16]; go_simp; try exact rfl
    refine ⟨fun ρ W vs ⟨hcst, hglb, hfun⟩ hX hp ho => ?_, ?_⟩ -- 1: slot 191 := Op.move t16
    · obtain ⟨o16, -⟩ := ho
      change ρ (.tmp 16) = l0.toArray.getD 16 undef at o16
      rw [e16] at o16
      refine turn_plain (ok_is ?_ rfl); simp only [execOp, o16]; go_simp; try exact rfl
    refine ⟨fun ρ W vs ⟨hcst, hglb, hfun⟩ hX hp ho => ?_, ?_⟩ -- 2: slot 192 := Op.indexAddr 66 t10 t191
    · obtain ⟨p191, -⟩ := hp
      change ρ (.tmp 191) = _ at p191
      obtain ⟨o10, -⟩ := ho
      change ρ (.tmp 10) = l0.toArray.getD 10 undef at o10
      rw [e10] at o10
      refine turn_plain (ok_is ?_ rfl); simp only [execOp, p191, o10]; go_simp; try exact rfl
    refine ⟨fun ρ W vs ⟨hcst, hglb, hfun⟩ hX hp ho => ?_, ?_⟩ -- 3: slot 193 := Op.load 9 t192
    · obtain ⟨p192, -⟩ := hp
      change ρ (.tmp 192) = _ at p192
      obtain ⟨hS, -⟩ := hX
      have q : W.cell? ⟨g10, 1, none⟩ = some (.string (strN (C 1))) := hS.h10.cell 1
      refine turn_plain (ok_is ?_ rfl); simp only [execOp, p192]; go_simp; try exact rfl
    refine ⟨fun ρ W vs ⟨hcst, hglb, hfun⟩ hX hp ho => ?_, ?_⟩ -- 4: slot 194 := Op.move t20
    · obtain ⟨o20, -⟩ := ho
      change ρ (.tmp 20) = l0.toArray.getD 20 undef at o20
      rw [e20] at o20
      refine turn_plain (ok_is ?_ rfl); simp only [execOp, o20]; go_simp; try exact rfl
    refine ⟨fun ρ W vs ⟨hcst, hglb, hfun⟩ hX hp ho => ?_, ?_⟩ -- 5: slot 195 := Op.convert 22 9 t194
    · obtain ⟨p194, -⟩ := hp
      change ρ (.tmp 194) = _ at p194
      obtain ⟨hS, ha⟩ := hX
      refine turn_plain (ok_is ?_ rfl)
      simp only [execOp, p194]; rw [Sem.run_bind, run_str W selt_u8.ht (by kernel_rfl) (by kernel_rfl) rfl ha]; rfl
    refine ⟨fun ρ W vs ⟨hcst, hglb, hfun⟩ hX hp ho => ?_, ?_⟩ -- 6: slot 196 := Op.binOp BinOp.add 9 t193 t195 9
    · obtain ⟨p193, p195, -⟩ := hp
      change ρ (.tmp 193) = _ at p193
      change ρ (.tmp 195) = _ at p195
      refine turn_plain (ok_is ?_ rfl)
      rw [← strN_append]
      simp only [execOp, p193, p195]; go_simp; try exact rfl
    refine ⟨fun ρ W vs ⟨hcst, hglb, hfun⟩ hX hp ho => ?_, ?_⟩ -- 7: slot 197 := Op.indexAddr 66 t10 t190
    · obtain ⟨p190, -⟩ := hp
      change ρ (.tmp 190) = _ at p190
      obtain ⟨o10, -⟩ := ho
      change ρ (.tmp 10) = l0.toArray.getD 10 undef at o10
      rw [e10] at o10
      refine turn_plain (ok_is ?_ rfl); simp only [execOp, p190, o10]; go_simp; try exact rfl
    exact trivial
  case mono => exact ⟨mono_isK _, mono_isK _, mono_isK _, mono_isK _, mono_isK _, mono_isK _, mono_isK _, mono_isK _, trivial⟩
  case st =>
    intro ρ W vs ⟨hcst, hglb, hfun⟩ hvl hX hp ho
    change ∃ W2, (execOp ρ { dst := none, op := Op.store 9 (.tmp 197) (.tmp 196), type := _, pos := _, after := _, guard := _ }).run _ W = _ ∧ _
    obtain ⟨p197, p196, -⟩ := hp
    change ρ (.tmp 197) = _ at p197
    change ρ (.tmp 196) = _ at p196
    obtain ⟨hS, -⟩ := hX
    have q : W.cell? ⟨g10, 1, none⟩ = some (.string (strN (C 1))) := hS.h10.cell 1
    have z := hS.h10.frozen 1
    refine ⟨W.setCell ⟨g10, 1, none⟩ (.string (strN (C 1 ++ bd))), ?_, hS.put10 1 (by decide) _⟩
    simp only [execOp, p197, p196]; go_simp; try exact rfl
  case fin =>
    intro f W vs _ h
    exact hf f W h
end Go.Proofs.YtodimanghmepoaaDoor
namespace Go.Proofs.YtodimanghmepoaaDoor
open Go.RowKit
set_option maxRecDepth 100000 in
set_option maxHeartbeats 4000000 in
theorem reg41_0 {Q : Exit → Act → World → Prop} {l0 : List Value} {d0} {w0 w : World} {F : Nat → Nat → Prop} {p : Nat → Nat} {s : Nat → LSt} {g7 g8 g9 g10 g13 : Nat} {V : Nat → WyR} {P C : Nat → List Nat} {K T X : Nat} (hlen : l0.length = 312) (e8 : l0.toArray.getD 8 undef = .pointer (some ⟨g8, 0, none⟩)) (e13 : l0.toArray.getD 13 undef = .pointer (some ⟨g13, 0, none⟩)) (e14 : l0.toArray.getD 14 undef = .int .i64 0) (h : SV w0 w F p s g7 g8 g9 g10 g13 V P C K T X) (hT : T < 256) (hn : 0 < (V 0).n) (hn2 : (V 0).n ≤ 100000)
    (hf : ∀ (f : Nat → Value) (W : World) (r : WyR) (b : List Nat), b ∈ (V 0).L → r.L = (V 0).L ++ [b] → SV w0 W F p s g7 g8 g9 g10 g13 (upd V 0 r) P C K T X → Q .normal ⟨(over f (inR 212 231 212) 0 l0).toArray, d0⟩ W) :
    (Code.region 41 ops_41.1 true).wp Tryd.prog Q ⟨l0.toArray, d0⟩ w := by
  obtain ⟨g, eA⟩ : ∃ g, (V 0).A = some ⟨g, 0, none⟩ := by
    rcases (h.o 0 (by decide)).own.lies with ⟨_, h1, _⟩ | ⟨g, h1, _⟩
    · omega
    · exact ⟨g, h1⟩
  obtain ⟨a, ea⟩ : ∃ a, T % (V 0).n = a := ⟨_, rfl⟩
  have ha : a < (V 0).n := by rw [← ea]; exact Nat.mod_lt _ hn
  have hcap := (h.o 0 (by decide)).own.cap
  have hln := (h.o 0 (by decide)).own.len
  have hlL := (h.o 0 (by decide)).len
  obtain ⟨v0, hv0⟩ : ∃ v, (V 0).vs[a]? = some v := ⟨_, List.getElem?_eq_getElem (by omega)⟩
  obtain ⟨b, hb⟩ : ∃ b, (V 0).L[a]? = some b := ⟨_, List.getElem?_eq_getElem (by omega)⟩
  obtain ⟨Ad, cd, rfl, -, -⟩ := (h.o 0 (by decide)).dg a v0 b hv0 hb
  have hv := hv0
  have i1 : (0 : Int) ≤ (T : Int) := by omega
  have i2 : ¬ ((V 0).n : Int) = 0 := by omega
  have i3 : (0 : Int) ≤ ((V 0).n : Int) := by omega
  have i4 : IntKind.i64.wrap (T : Int) = (T : Int) := by simp [IntKind.wrap, IntKind.signed, IntKind.bits]; omega
  have i5 : ¬ (V 0).n = 0 := by omega
  have i6 : (T : Int) % ((V 0).n : Int) = (a : Int) := by rw [← ea, Int.natCast_emod]
  have i7 : (0 : Int) ≤ (a : Int) := by omega
  have i8 : (a : Int) < ((V 0).n : Int) := by omega
  refine wp_region_chainT (inR 212 231 212) 20 [16, 17, 18] (fun vs W => ∃ V' : Nat → WyR, SX w0 W F p s g7 g8 g9 g10 g13 (fun i => (V i).v) V' P C K T X ∧ (match vs with
        | [] => V' = V
        | [u] => V' = V ∧ u = .slice Ad b.length cd
        | [_, v] => V' = V ∧ ∃ A2 c2, v = .slice A2 1 c2 ∧ At W A2 [.slice Ad b.length cd]
        | [_, _, v] => ∃ r : WyR, V' = upd V 0 r ∧ v = r.v ∧ r.L = (V 0).L ++ [b]
        | _ => False)) (fun _ W => ∃ r : WyR, r.L = (V 0).L ++ [b] ∧ SV w0 W F p s g7 g8 g9 g10 g13 (upd V 0 r) P C K T X) (isK (.int .i64 0) :: isK (.int .i64 0) :: isK (.pointer (some ⟨g8, 0, none⟩)) :: isK ?c3 :: isK (.int .i64 0) :: isK (.pointer (some ⟨g8, 0, none⟩)) :: isK ?c6 :: isK (.pointer (some ⟨g13, 1, none⟩)) :: isK ?c8 :: isK (.int .i64 (T : Int)) :: isK (.int .i64 0) :: isK (.pointer (some ⟨g8, 0, none⟩)) :: isK ?c12 :: isK (.int .i64 ((V 0).n : Int)) :: isK (.int .i64 (a : Int)) :: isK (.pointer (some ⟨g, a, none⟩)) :: RelK.any_ :: RelK.any_ :: RelK.any_ :: isK (.pointer (some ⟨g8, 0, none⟩)) :: [])
    [⟨[], [14], none⟩, ⟨[], [14], none⟩, ⟨[(213, 1)], [8], none⟩, ⟨[(214, 2)], [], none⟩, ⟨[], [14], none⟩, ⟨[(216, 4)], [8], none⟩, ⟨[(217, 5)], [], none⟩, ⟨[], [13], none⟩, ⟨[(219, 7)], [], none⟩, ⟨[(220, 8)], [], none⟩, ⟨[], [14], none⟩, ⟨[(222, 10)], [8], none⟩, ⟨[(223, 11)], [], none⟩, ⟨[(224, 12)], [], none⟩, ⟨[(221, 9), (225, 13)], [], none⟩, ⟨[(218, 6), (226, 14)], [], none⟩, ⟨[(227, 15)], [], none⟩, ⟨[(228, 16)], [], none⟩, ⟨[(215, 3), (229, 17)], [], none⟩, ⟨[(212, 0)], [8], none⟩] ⟨[(231, 19), (230, 18)], [], none⟩ _ rfl (by kernel_rfl) (by kernel_rfl) (by rw [hlen]; kernel_rfl) (by kernel_rfl) (by kernel_rfl) (by kernel_rfl) (by kernel_rfl) (by kernel_rfl) (by kernel_rfl) ?hphi ?mono ?h0 ?steps ?st ?fin
  case hphi =>
    rintro vs W W' ⟨V', hS, hx⟩ hb
    refine ⟨V', hS.later hb, ?_⟩
    match vs, hx with
    | [], hx => exact hx
    | [u], hx => exact hx
    | [_, v], ⟨h1, A2, c2, h2, h3⟩ => exact ⟨h1, A2, c2, h2, h3.later hb (Nat.le_refl _)⟩
    | [_, _, v], hx => exact hx
  case h0 =>
    exact ⟨_, h, rfl⟩
  case steps =>
    refine ⟨fun ρ W vs ⟨hcst, hglb, hfun⟩ hX hp ho => ?_, ?_⟩ -- 0: slot 212 := Op.move t14
    · obtain ⟨o14, -⟩ := ho
      change ρ (.tmp 14) = l0.toArray.getD 14 undef at o14
      rw [e14] at o14
      refine turn_plain (ok_is ?_ rfl); simp only [execOp, o14]; go_simp; try exact rfl
    refine ⟨fun ρ W vs ⟨hcst, hglb, hfun⟩ hX hp ho => ?_, ?_⟩ -- 1: slot 213 := Op.move t14
    · obtain ⟨o14, -⟩ := ho
      change ρ (.tmp 14) = l0.toArray.getD 14 undef at o14
      rw [e14] at o14
      refine turn_plain (ok_is ?_ rfl); simp only [execOp, o14]; go_simp; try exact rfl
    refine ⟨fun ρ W vs ⟨hcst, hglb, hfun⟩ hX hp ho => ?_, ?_⟩ -- 2: slot 214 := Op.indexAddr 65 t8 t213
    · obtain ⟨p213, -⟩ := hp
      change ρ (.tmp 213) = _ at p213
      obtain ⟨o8, -⟩ := ho
      change ρ (.tmp 8) = l0.toArray.getD 8 undef at o8
      rw [e8] at o8
      refine turn_plain (ok_is ?_ rfl); simp only [execOp, p213, o8]; go_simp; try exact rfl
    refine ⟨fun ρ W vs ⟨hcst, hglb, hfun⟩ hX hp ho => ?_, ?_⟩ -- 3: slot 215 := Op.load 31 t214
    · obtain ⟨p214, -⟩ := hp
      change ρ (.tmp 214) = _ at p214
      obtain ⟨V', hS, -⟩ := hX
      have q : W.cell? ⟨g8, 0, none⟩ = some (.slice (some ⟨g, 0, none⟩) (V 0).n (V 0).c) := by rw [← eA]; exact hS.h8.cell 0
      refine turn_plain (ok_is ?_ rfl); simp only [execOp, p214]; go_simp; try exact rfl
    refine ⟨fun ρ W vs ⟨hcst, hglb, hfun⟩ hX hp ho => ?_, ?_⟩ -- 4: slot 216 := Op.move t14
    · obtain ⟨o14, -⟩ := ho
      change ρ (.tmp 14) = l0.toArray.getD 14 undef at o14
      rw [e14] at o14
      refine turn_plain (ok_is ?_ rfl); simp only [execOp, o14]; go_simp; try exact rfl
    refine ⟨fun ρ W vs ⟨hcst, hglb, hfun⟩ hX hp ho => ?_, ?_⟩ -- 5: slot 217 := Op.indexAddr 65 t8 t216
    · obtain ⟨p216, -⟩ := hp
      change ρ (.tmp 216) = _ at p216
      obtain ⟨o8, -⟩ := ho
      change ρ (.tmp 8) = l0.toArray.getD 8 undef at o8
      rw [e8] at o8
      refine turn_plain (ok_is ?_ rfl); simp only [execOp, p216, o8]; go_simp; try exact rfl
    refine ⟨fun ρ W vs ⟨hcst, hglb, hfun⟩ hX hp ho => ?_, ?_⟩ -- 6: slot 218 := Op.load 31 t217
    · obtain ⟨p217, -⟩ := hp
      change ρ (.tmp 217) = _ at p217
      obtain ⟨V', hS, -⟩ := hX
      have q : W.cell? ⟨g8, 0, none⟩ = some (.slice (some ⟨g, 0, none⟩) (V 0).n (V 0).c) := by rw [← eA]; exact hS.h8.cell 0
      refine turn_plain (ok_is ?_ rfl); simp only [execOp, p217]; go_simp; try exact rfl
    refine ⟨fun ρ W vs ⟨hcst, hglb, hfun⟩ hX hp ho => ?_, ?_⟩ -- 7: slot 219 := Op.fieldAddr 68 t13 1
    · obtain ⟨o13, -⟩ := ho
      change ρ (.tmp 13) = l0.toArray.getD 13 undef at o13
      rw [e13] at o13
      refine turn_plain (ok_is ?_ rfl); simp only [execOp, o13]; go_simp; try exact rfl
    refine ⟨fun ρ W vs ⟨hcst, hglb, hfun⟩ hX hp ho => ?_, ?_⟩ -- 8: slot 220 := Op.load 5 t219
    · obtain ⟨p219, -⟩ := hp
      change ρ (.tmp 219) = _ at p219
      obtain ⟨V', hS, -⟩ := hX
      have q : W.cell? ⟨g13, 1, none⟩ = some (.int .u8 (T : Int)) := hS.h13.cell 1
      refine turn_plain (ok_is ?_ rfl); simp only [execOp, p219]; go_simp; try exact rfl
    refine ⟨fun ρ W vs ⟨hcst, hglb, hfun⟩ hX hp ho => ?_, ?_⟩ -- 9: slot 221 := Op.convert 5 3 t220
    · obtain ⟨p220, -⟩ := hp
      change ρ (.tmp 220) = _ at p220
      refine turn_plain (ok_is ?_ rfl); simp only [execOp, p220]; go_simp; try simp only [i4]; try rfl
    refine ⟨fun ρ W vs ⟨hcst, hglb, hfun⟩ hX hp ho => ?_, ?_⟩ -- 10: slot 222 := Op.move t14
    · obtain ⟨o14, -⟩ := ho
      change ρ (.tmp 14) = l0.toArray.getD 14 undef at o14
      rw [e14] at o14
      refine turn_plain (ok_is ?_ rfl); simp only [execOp, o14]; go_simp; try exact rfl
    refine ⟨fun ρ W vs ⟨hcst, hglb, hfun⟩ hX hp ho => ?_, ?_⟩ -- 11: slot 223 := Op.indexAddr 65 t8 t222
    · obtain ⟨p222, -⟩ := hp
      change ρ (.tmp 222) = _ at p222
      obtain ⟨o8, -⟩ := ho
      change ρ (.tmp 8) = l0.toArray.getD 8 undef at o8
      rw [e8] at o8
      refine turn_plain (ok_is ?_ rfl); simp only [execOp, p222, o8]; go_simp; try exact rfl
    refine ⟨fun ρ W vs ⟨hcst, hglb, hfun⟩ hX hp ho => ?_, ?_⟩ -- 12: slot 224 := Op.load 31 t223
    · obtain ⟨p223, -⟩ := hp
      change ρ (.tmp 223) = _ at p223
      obtain ⟨V', hS, -⟩ := hX
      have q : W.cell? ⟨g8, 0, none⟩ = some (.slice (some ⟨g, 0, none⟩) (V 0).n (V 0).c) := by rw [← eA]; exact hS.h8.cell 0
      refine turn_plain (ok_is ?_ rfl); simp only [execOp, p223]; go_simp; try exact rfl
    refine ⟨fun ρ W vs ⟨hcst, hglb, hfun⟩ hX hp ho => ?_, ?_⟩ -- 13: slot 225 := Op.call { builtin len, args := #[t224], argTypes := #[31] }
    · obtain ⟨p224, -⟩ := hp
      change ρ (.tmp 224) = _ at p224
      refine turn_plain (ok_is ?_ rfl); simp only [execOp, p224]; go_simp; try exact rfl
    refine ⟨fun ρ W vs ⟨hcst, hglb, hfun⟩ hX hp ho => ?_, ?_⟩ -- 14: slot 226 := Op.binOp BinOp.rem 3 t221 t225 3
    · obtain ⟨p221, p225, -⟩ := hp
      change ρ (.tmp 221) = _ at p221
      change ρ (.tmp 225) = _ at p225
      refine turn_plain (ok_is ?_ rfl); simp only [execOp, p221, p225]; go_simp; simp only [if_neg i5, Int.tmod_eq_emod_of_nonneg i1, i6]
    refine ⟨fun ρ W vs ⟨hcst, hglb, hfun⟩ hX hp ho => ?_, ?_⟩ -- 15: slot 227 := Op.indexAddr 31 t218 t226
    · obtain ⟨p218, p226, -⟩ := hp
      change ρ (.tmp 218) = _ at p218
      change ρ (.tmp 226) = _ at p226
      refine turn_plain (ok_is ?_ rfl); simp only [execOp, p218, p226]; go_simp; try exact rfl
    refine ⟨fun ρ W vs ⟨hcst, hglb, hfun⟩ hvl hX hp ho => ?_, ?_⟩ -- 16: slot 228 := Op.load 22 t227
    · obtain ⟨p227, -⟩ := hp
      change ρ (.tmp 227) = _ at p227
      obtain rfl := List.eq_nil_of_length_eq_zero hvl
      obtain ⟨V', hS, rfl⟩ := hX
      have hat : At W (some ⟨g, 0, none⟩) (V' 0).vs := by rw [← eA]; exact (hS.o 0 (by decide)).own.at_
      obtain ⟨b1, o1, e1, q⟩ := hat a _ hv
      injection e1 with e1; injection e1 with e1 e2; subst e1; subst e2
      rw [Nat.zero_add] at q
      refine actK_val (w' := W) (v := .slice Ad b.length cd) ?_ ⟨_, hS, rfl, rfl⟩
      simp only [execOp, p227]; go_simp; try exact rfl
    refine ⟨fun ρ W vs ⟨hcst, hglb, hfun⟩ hvl hX hp ho => ?_, ?_⟩ -- 17: slot 229 := Op.buildSlice 31 1 #[(0, t228)]
    · obtain ⟨p228, -⟩ := hp
      change 0 < vs.length ∧ ρ (.tmp 228) = vs.getD 0 undef at p228
      obtain ⟨u, rfl⟩ := one_of hvl
      obtain ⟨V', hS, rfl, rfl⟩ := hX
      obtain ⟨-, p228⟩ := p228
      change ρ (.tmp 228) = .slice Ad b.length cd at p228
      refine actK_val (exec_build1 _ rfl p228) ?_
      exact ⟨_, hS.later ((Below.refl _ _).alloc (Nat.le_refl _) _), rfl, _, _, rfl, At.lit W #[.slice Ad b.length cd] _ (0, 0) _ rfl⟩
    refine ⟨fun ρ W vs ⟨hcst, hglb, hfun⟩ hvl hX hp ho => ?_, ?_⟩ -- 18: slot 230 := Op.call { builtin append, args := #[t215, t229], argTypes := #[31, 31] }
    · obtain ⟨p215, p229, -⟩ := hp
      change ρ (.tmp 215) = _ at p215
      change 1 < vs.length ∧ ρ (.tmp 229) = vs.getD 1 undef at p229
      obtain ⟨u, v, rfl⟩ := two_of hvl
      obtain ⟨V', hS, rfl, A2, c2, rfl, hat⟩ := hX
      obtain ⟨-, p229⟩ := p229
      change ρ (.tmp 229) = .slice A2 1 c2 at p229
      have o := hS.o 0 (by decide)
      have hd := o.dgs.one hv hb
      have ho : Own W w0.heap.size 22 1 (some ⟨g, 0, none⟩) (V' 0).n (V' 0).c (V' 0).vs := by rw [← eA]; exact o.own
      obtain ⟨A', c', w', hr, h2, h3, h4⟩ := run_app W elt_sl 31 ho (c2 := c2) (by rfl : [Value.slice Ad b.length cd].length = 1 * 1) hat hd.cell (by unfold maxLen; omega) (by omega) hS.ways.bel.size
      refine actK_val (exec_app _ _ _ rfl p215 p229 hr) ?_
      rw [← eA] at h3 h4
      exact ⟨_, hS.app 0 (by decide) hd h3 h2 h4, _, rfl, rfl, rfl⟩
    refine ⟨fun ρ W vs ⟨hcst, hglb, hfun⟩ hX hp ho => ?_, ?_⟩ -- 19: slot 231 := Op.indexAddr 65 t8 t212
    · obtain ⟨p212, -⟩ := hp
      change ρ (.tmp 212) = _ at p212
      obtain ⟨o8, -⟩ := ho
      change ρ (.tmp 8) = l0.toArray.getD 8 undef at o8
      rw [e8] at o8
      refine turn_plain (ok_is ?_ rfl); simp only [execOp, p212, o8]; go_simp; try exact rfl
    exact trivial
  case mono => exact ⟨mono_isK _, mono_isK _, mono_isK _, mono_isK _, mono_isK _, mono_isK _, mono_isK _, mono_isK _, mono_isK _, mono_isK _, mono_isK _, mono_isK _, mono_isK _, mono_isK _, mono_isK _, mono_isK _, mono_anyK, mono_anyK, mono_anyK, mono_isK _, trivial⟩
  case st =>
    intro ρ W vs ⟨hcst, hglb, hfun⟩ hvl hX hp ho
    change ∃ W2, (execOp ρ { dst := none, op := Op.store 31 (.tmp 231) (.tmp 230), type := _, pos := _, after := _, guard := _ }).run _ W = _ ∧ _
    obtain ⟨p231, p230, -⟩ := hp
    change ρ (.tmp 231) = _ at p231
    change 2 < vs.length ∧ ρ (.tmp 230) = vs.getD 2 undef at p230
    obtain ⟨u0, u1, v, rfl⟩ := three_of hvl
    obtain ⟨V', hS, r, rfl, rfl, hr⟩ := hX
    obtain ⟨-, p230⟩ := p230
    change ρ (.tmp 230) = r.v at p230
    have q : W.cell? ⟨g8, 0, none⟩ = some (V 0).v := hS.h8.cell 0
    have z := hS.h8.frozen 0
    refine ⟨W.setCell ⟨g8, 0, none⟩ r.v, ?_, r, hr, ?_⟩
    · simp only [execOp, p231, p230]; unfold WyR.v at *; go_simp; try exact rfl
    · have := hS.put8 0 (by decide) r.v
      rw [upd_v] at this
      exact this
  case fin =>
    intro f W vs _ h
    obtain ⟨r, h1, h2⟩ := h
    exact hf f W r b (List.mem_of_getElem? hb) h1 h2
set_option maxRecDepth 100000 in
set_option maxHeartbeats 4000000 in
theorem reg41_1 {Q : Exit → Act → World → Prop} {l0 : List Value} {d0} {w0 w : World} {F : Nat → Nat → Prop} {p : Nat → Nat} {s : Nat → LSt} {g7 g8 g9 g10 g13 : Nat} {V : Nat → WyR} {P C : Nat → List Nat} {K T X : Nat} (hlen : l0.length = 312) (e8 : l0.toArray.getD 8 undef = .pointer (some ⟨g8, 0, none⟩)) (e13 : l0.toArray.getD 13 undef = .pointer (some ⟨g13, 0, none⟩)) (e14 : l0.toArray.getD 14 undef = .int .i64 1) (h : SV w0 w F p s g7 g8 g9 g10 g13 V P C K T X) (hT : T < 256) (hn : 0 < (V 1).n) (hn2 : (V 1).n ≤ 100000)
    (hf : ∀ (f : Nat → Value) (W : World) (r : WyR) (b : List Nat), b ∈ (V 1).L → r.L = (V 1).L ++ [b] → SV w0 W F p s g7 g8 g9 g10 g13 (upd V 1 r) P C K T X → Q .normal ⟨(over f (inR 212 231 212) 0 l0).toArray, d0⟩ W) :
    (Code.region 41 ops_41.1 true).wp Tryd.prog Q ⟨l0.toArray, d0⟩ w := by
  obtain ⟨g, eA⟩ : ∃ g, (V 1).A = some ⟨g, 0, none⟩ := by
    rcases (h.o 1 (by decide)).own.lies with ⟨_, h1, _⟩ | ⟨g, h1, _⟩
    · omega
    · exact ⟨g, h1⟩
  obtain ⟨a, ea⟩ : ∃ a, T % (V 1).n = a := ⟨_, rfl⟩
  have ha : a < (V 1).n := by rw [← ea]; exact Nat.mod_lt _ hn
  have hcap := (h.o 1 (by decide)).own.cap
  have hln := (h.o 1 (by decide)).own.len
  have hlL := (h.o 1 (by decide)).len
  obtain ⟨v0, hv0⟩ : ∃ v, (V 1).vs[a]? = some v := ⟨_, List.getElem?_eq_getElem (by omega)⟩
  obtain ⟨b, hb⟩ : ∃ b, (V 1).L[a]? = some b := ⟨_, List.getElem?_eq_getElem (by omega)⟩
  obtain ⟨Ad, cd, rfl, -, -⟩ := (h.o 1 (by decide)).dg a v0 b hv0 hb
  have hv := hv0
  have i1 : (0 : Int) ≤ (T : Int) := by omega
  have i2 : ¬ ((V 1).n : Int) = 0 := by omega
  have i3 : (0 : Int) ≤ ((V 1).n : Int) := by omega
  have i4 : IntKind.i64.wrap (T : Int) = (T : Int) := by simp [IntKind.wrap, IntKind.signed, IntKind.bits]; omega
  have i5 : ¬ (V 1).n = 0 := by omega
  have i6 : (T : Int) % ((V 1).n : Int) = (a : Int) := by rw [← ea, Int.natCast_emod]
  have i7 : (0 : Int) ≤ (a : Int) := by omega
  have i8 : (a : Int) < ((V 1).n : Int) := by omega
  refine wp_region_chainT (inR 212 231 212) 20 [16, 17, 18] (fun vs W => ∃ V' : Nat → WyR, SX w0 W F p s g7 g8 g9 g10 g13 (fun i => (V i).v) V' P C K T X ∧ (match vs with
        | [] => V' = V
        | [u] => V' = V ∧ u = .slice Ad b.length cd
        | [_, v] => V' = V ∧ ∃ A2 c2, v = .slice A2 1 c2 ∧ At W A2 [.slice Ad b.length cd]
        | [_, _, v] => ∃ r : WyR, V' = upd V 1 r ∧ v = r.v ∧ r.L = (V 1).L ++ [b]
        | _ => False)) (fun _ W => ∃ r : WyR, r.L = (V 1).L ++ [b] ∧ SV w0 W F p s g7 g8 g9 g10 g13 (upd V 1 r) P C K T X) (isK (.int .i64 1) :: isK (.int .i64 1) :: isK (.pointer (some ⟨g8, 1, none⟩)) :: isK ?c3 :: isK (.int .i64 1) :: isK (.pointer (some ⟨g8, 1, none⟩)) :: isK ?c6 :: isK (.pointer (some ⟨g13, 1, none⟩)) :: isK ?c8 :: isK (.int .i64 (T : Int)) :: isK (.int .i64 1) :: isK (.pointer (some ⟨g8, 1, none⟩)) :: isK ?c12 :: isK (.int .i64 ((V 1).n : Int)) :: isK (.int .i64 (a : Int)) :: isK (.pointer (some ⟨g, a, none⟩)) :: RelK.any_ :: RelK.any_ :: RelK.any_ :: isK (.pointer (some ⟨g8, 1, none⟩)) :: [])
    [⟨[], [14], none⟩, ⟨[], [14], none⟩, ⟨[(213, 1)], [8], none⟩, ⟨[(214, 2)], [], none⟩, ⟨[], [14], none⟩, ⟨[(216, 4)], [8], none⟩, ⟨[(217, 5)], [], none⟩, ⟨[], [13], none⟩, ⟨[(219, 7)], [], none⟩, ⟨[(220, 8)], [], none⟩, ⟨[], [14], none⟩, ⟨[(222, 10)], [8], none⟩, ⟨[(223, 11)], [], none⟩, ⟨[(224, 12)], [], none⟩, ⟨[(221, 9), (225, 13)], [], none⟩, ⟨[(218, 6), (226, 14)], [], none⟩, ⟨[(227, 15)], [], none⟩, ⟨[(228, 16)], [], none⟩, ⟨[(215, 3), (229, 17)], [], none⟩, ⟨[(212, 0)], [8], none⟩] ⟨[(231, 19), (230, 18)], [], none⟩ _ rfl (by kernel_rfl) (by kernel_rfl) (by rw [hlen]; kernel_rfl) (by kernel_rfl) (by kernel_rfl) (by kernel_rfl) (by kernel_rfl) (by kernel_rfl) (by kernel_rfl) ?hphi ?mono ?h0 ?steps ?st ?fin
  case hphi =>
    rintro vs W W' ⟨V', hS, hx⟩ hb
    refine ⟨V', hS.later hb, ?_⟩
    match vs, hx with
    | [], hx => exact hx
    | [u], hx => exact hx
    | [_, v], ⟨h1, A2, c2, h2, h3⟩ => exact ⟨h1, A2, c2, h2, h3.later hb (Nat.le_refl _)⟩
    | [_, _, v], hx => exact hx
  case h0 =>
    exact ⟨_, h, rfl⟩
  case steps =>
    refine ⟨fun ρ W vs ⟨hcst, hglb, hfun⟩ hX hp ho => ?_, ?_⟩ -- 0: slot 212 := Op.move t14
    · obtain ⟨o14, -⟩ := ho
      change ρ (.tmp 14) = l0.toArray.getD 14 undef at o14
      rw [e14] at o14
      refine turn_plain (ok_is ?_ rfl); simp only [execOp, o14]; go_simp; try exact rfl
    refine ⟨fun ρ W vs ⟨hcst, hglb, hfun⟩ hX hp ho => ?_, ?_⟩ -- 1: slot 213 := Op.move t14
    · obtain ⟨o14, -⟩ := ho
      change ρ (.tmp 14) = l0.toArray.getD 14 undef at o14
      rw [e14] at o14
      refine turn_plain (ok_is ?_ rfl); simp only [execOp, o14]; go_simp; try exact rfl
    refine ⟨fun ρ W vs ⟨hcst, hglb, hfun⟩ hX hp ho => ?_, ?_⟩ -- 2: slot 214 := Op.indexAddr 65 t8 t213
    · obtain ⟨p213, -⟩ := hp
      change ρ (.tmp 213) = _ at p213
      obtain ⟨o8, -⟩ := ho
      change ρ (.tmp 8) = l0.toArray.getD 8 undef at o8
      rw [e8] at o8
      refine turn_plain (ok_is ?_ rfl); simp only [execOp, p213, o8]; go_simp; try exact rfl
    refine ⟨fun ρ W vs ⟨hcst, hglb, hfun⟩ hX hp ho => ?_, ?_⟩ -- 3: slot 215 := Op.load 31 t214
    · obtain ⟨p214, -⟩ := hp
      change ρ (.tmp 214) = _ at p214
      obtain ⟨V', hS, -⟩ := hX
      have q : W.cell? ⟨g8, 1, none⟩ = some (.slice (some ⟨g, 0, none⟩) (V 1).n (V 1).c) := by rw [← eA]; exact hS.h8.cell 1
      refine turn_plain (ok_is ?_ rfl); simp only [execOp, p214]; go_simp; try exact rfl
    refine ⟨fun ρ W vs ⟨hcst, hglb, hfun⟩ hX hp ho => ?_, ?_⟩ -- 4: slot 216 := Op.move t14
    · obtain ⟨o14, -⟩ := ho
      change ρ (.tmp 14) = l0.toArray.getD 14 undef at o14
      rw [e14] at o14
      refine turn_plain (ok_is ?_ rfl); simp only [execOp, o14]; go_simp; try exact rfl
    refine ⟨fun ρ W vs ⟨hcst, hglb, hfun⟩ hX hp ho => ?_, ?_⟩ -- 5: slot 217 := Op.indexAddr 65 t8 t216
    · obtain ⟨p216, -⟩ := hp
      change ρ (.tmp 216) = _ at p216
      obtain ⟨o8, -⟩ := ho
      change ρ (.tmp 8) = l0.toArray.getD 8 undef at o8
      rw [e8] at o8
      refine turn_plain (ok_is ?_ rfl); simp only [execOp, p216, o8]; go_simp; try exact rfl
    refine ⟨fun ρ W vs ⟨hcst, hglb, hfun⟩ hX hp ho => ?_, ?_⟩ -- 6: slot 218 := Op.load 31 t217
    · obtain ⟨p217, -⟩ := hp
      change ρ (.tmp 217) = _ at p217
      obtain ⟨V', hS, -⟩ := hX
      have q : W.cell? ⟨g8, 1, none⟩ = some (.slice (some ⟨g, 0, none⟩) (V 1).n (V 1).c) := by rw [← eA]; exact hS.h8.cell 1
      refine turn_plain (ok_is ?_ rfl); simp only [execOp, p217]; go_simp; try exact rfl
    refine ⟨fun ρ W vs ⟨hcst, hglb, hfun⟩ hX hp ho => ?_, ?_⟩ -- 7: slot 219 := Op.fieldAddr 68 t13 1
    · obtain ⟨o13, -⟩ := ho
      change ρ (.tmp 13) = l0.toArray.getD 13 undef at o13
      rw [e13] at o13
      refine turn_plain (ok_is ?_ rfl); simp only [execOp, o13]; go_simp; try exact rfl
    refine ⟨fun ρ W vs ⟨hcst, hglb, hfun⟩ hX hp ho => ?_, ?_⟩ -- 8: slot 220 := Op.load 5 t219
    · obtain ⟨p219, -⟩ := hp
      change ρ (.tmp 219) = _ at p219
      obtain ⟨V', hS, -⟩ := hX
      have q : W.cell? ⟨g13, 1, none⟩ = some (.int .u8 (T : Int)) := hS.h13.cell 1
      refine turn_plain (ok_is ?_ rfl); simp only [execOp, p219]; go_simp; try exact rfl
    refine ⟨fun ρ W vs ⟨hcst, hglb, hfun⟩ hX hp ho => ?_, ?_⟩ -- 9: slot 221 := Op.convert 5 3 t220
    · obtain ⟨p220, -⟩ := hp
      change ρ (.tmp 220) = _ at p220
      refine turn_plain (ok_is ?_ rfl); simp only [execOp, p220]; go_simp; try simp only [i4]; try rfl
    refine ⟨fun ρ W vs ⟨hcst, hglb, hfun⟩ hX hp ho => ?_, ?_⟩ -- 10: slot 222 := Op.move t14
    · obtain ⟨o14, -⟩ := ho
      change ρ (.tmp 14) = l0.toArray.getD 14 undef at o14
      rw [e14] at o14
      refine turn_plain (ok_is ?_ rfl); simp only [execOp, o14]; go_simp; try exact rfl
    refine ⟨fun ρ W vs ⟨hcst, hglb, hfun⟩ hX hp ho => ?_, ?_⟩ -- 11: slot 223 := Op.indexAddr 65 t8 t222
    · obtain ⟨p222, -⟩ := hp
      change ρ (.tmp 222) = _ at p222
      obtain ⟨o8, -⟩ := ho
      change ρ (.tmp 8) = l0.toArray.getD 8 undef at o8
      rw [e8] at o8
      refine turn_plain (ok_is ?_ rfl); simp only [execOp, p222, o8]; go_simp; try exact rfl
    refine ⟨fun ρ W vs ⟨hcst, hglb, hfun⟩ hX hp ho => ?_, ?_⟩ -- 12: slot 224 := Op.load 31 t223
    · obtain ⟨p223, -⟩ := hp
      change ρ (.tmp 223) = _ at p223
      obtain ⟨V', hS, -⟩ := hX
      have q : W.cell? ⟨g8, 1, none⟩ = some (.slice (some ⟨g, 0, none⟩) (V 1).n (V 1).c) := by rw [← eA]; exact hS.h8.cell 1
      refine turn_plain (ok_is ?_ rfl); simp only [execOp, p223]; go_simp; try exact rfl
    refine ⟨fun ρ W vs ⟨hcst, hglb, hfun⟩ hX hp ho => ?_, ?_⟩ -- 13: slot 225 := Op.call { builtin len, args := #[t224], argTypes := #[31] }
    · obtain ⟨p224, -⟩ := hp
      change ρ (.tmp 224) = _ at p224
      refine turn_plain (ok_is ?_ rfl); simp only [execOp, p224]; go_simp; try exact rfl
    refine ⟨fun ρ W vs ⟨hcst, hglb, hfun⟩ hX hp ho => ?_, ?_⟩ -- 14: slot 226 := Op.binOp BinOp.rem 3 t221 t225 3
    · obtain ⟨p221, p225, -⟩ := hp
      change ρ (.tmp 221) = _ at p221
      change ρ (.tmp 225) = _ at p225
      refine turn_plain (ok_is ?_ rfl); simp only [execOp, p221, p225]; go_simp; simp only [if_neg i5, Int.tmod_eq_emod_of_nonneg i1, i6]
    refine ⟨fun ρ W vs ⟨hcst, hglb, hfun⟩ hX hp ho => ?_, ?_⟩ -- 15: slot 227 := Op.indexAddr 31 t218 t226
    · obtain ⟨p218, p226, -⟩ := hp
      change ρ (.tmp 218) = _ at p218
      change ρ (.tmp 226) = _ at p226
      refine turn_plain (ok_is ?_ rfl); simp only [execOp, p218, p226]; go_simp; try exact rfl
    refine ⟨fun ρ W vs ⟨hcst, hglb, hfun⟩ hvl hX hp ho => ?_, ?_⟩ -- 16: slot 228 := Op.load 22 t227
    · obtain ⟨p227, -⟩ := hp
      change ρ (.tmp 227) = _ at p227
      obtain rfl := List.eq_nil_of_length_eq_zero hvl
      obtain ⟨V', hS, rfl⟩ := hX
      have hat : At W (some ⟨g, 0, none⟩) (V' 1).vs := by rw [← eA]; exact (hS.o 1 (by decide)).own.at_
      obtain ⟨b1, o1, e1, q⟩ := hat a _ hv
      injection e1 with e1; injection e1 with e1 e2; subst e1; subst e2
      rw [Nat.zero_add] at q
      refine actK_val (w' := W) (v := .slice Ad b.length cd) ?_ ⟨_, hS, rfl, rfl⟩
      simp only [execOp, p227]; go_simp; try exact rfl
    refine ⟨fun ρ W vs ⟨hcst, hglb, hfun⟩ hvl hX hp ho => ?_, ?_⟩ -- 17: slot 229 := Op.buildSlice 31 1 #[(0, t228)]
    · obtain ⟨p228, -⟩ := hp
      change 0 < vs.length ∧ ρ (.tmp 228) = vs.getD 0 undef at p228
      obtain ⟨u, rfl⟩ := one_of hvl
      obtain ⟨V', hS, rfl, rfl⟩ := hX
      obtain ⟨-, p228⟩ := p228
      change ρ (.tmp 228) = .slice Ad b.length cd at p228
      refine actK_val (exec_build1 _ rfl p228) ?_
      exact ⟨_, hS.later ((Below.refl _ _).alloc (Nat.le_refl _) _), rfl, _, _, rfl, At.lit W #[.slice Ad b.length cd] _ (0, 0) _ rfl⟩
    refine ⟨fun ρ W vs ⟨hcst, hglb, hfun⟩ hvl hX hp ho => ?_, ?_⟩ -- 18: slot 230 := Op.call { builtin append, args := #[t215, t229], argTypes := #[31, 31] }
    · obtain ⟨p215, p229, -⟩ := hp
      change ρ (.tmp 215) = _ at p215
      change 1 < vs.length ∧ ρ (.tmp 229) = vs.getD 1 undef at p229
      obtain ⟨u, v, rfl⟩ := two_of hvl
      obtain ⟨V', hS, rfl, A2, c2, rfl, hat⟩ := hX
      obtain ⟨-, p229⟩ := p229
      change ρ (.tmp 229) = .slice A2 1 c2 at p229
      have o := hS.o 1 (by decide)
      have hd := o.dgs.one hv hb
      have ho : Own W w0.heap.size 22 1 (some ⟨g, 0, none⟩) (V' 1).n (V' 1).c (V' 1).vs := by rw [← eA]; exact o.own
      obtain ⟨A', c', w', hr, h2, h3, h4⟩ := run_app W elt_sl 31 ho (c2 := c2) (by rfl : [Value.slice Ad b.length cd].length = 1 * 1) hat hd.cell (by unfold maxLen; omega) (by omega) hS.ways.bel.size
      refine actK_val (exec_app _ _ _ rfl p215 p229 hr) ?_
      rw [← eA] at h3 h4
      exact ⟨_, hS.app 1 (by decide) hd h3 h2 h4, _, rfl, rfl, rfl⟩
    refine ⟨fun ρ W vs ⟨hcst, hglb, hfun⟩ hX hp ho => ?_, ?_⟩ -- 19: slot 231 := Op.indexAddr 65 t8 t212
    · obtain ⟨p212, -⟩ := hp
      change ρ (.tmp 212) = _ at p212
      obtain ⟨o8, -⟩ := ho
      change ρ (.tmp 8) = l0.toArray.getD 8 undef at o8
      rw [e8] at o8
      refine turn_plain (ok_is ?_ rfl); simp only [execOp, p212, o8]; go_simp; try exact rfl
    exact trivial
  case mono => exact ⟨mono_isK _, mono_isK _, mono_isK _, mono_isK _, mono_isK _, mono_isK _, mono_isK _, mono_isK _, mono_isK _, mono_isK _, mono_isK _, mono_isK _, mono_isK _, mono_isK _, mono_isK _, mono_isK _, mono_anyK, mono_anyK, mono_anyK, mono_isK _, trivial⟩
  case st =>
    intro ρ W vs ⟨hcst, hglb, hfun⟩ hvl hX hp ho
    change ∃ W2, (execOp ρ { dst := none, op := Op.store 31 (.tmp 231) (.tmp 230), type := _, pos := _, after := _, guard := _ }).run _ W = _ ∧ _
    obtain ⟨p231, p230, -⟩ := hp
    change ρ (.tmp 231) = _ at p231
    change 2 < vs.length ∧ ρ (.tmp 230) = vs.getD 2 undef at p230
    obtain ⟨u0, u1, v, rfl⟩ := three_of hvl
    obtain ⟨V', hS, r, rfl, rfl, hr⟩ := hX
    obtain ⟨-, p230⟩ := p230
    change ρ (.tmp 230) = r.v at p230
    have q : W.cell? ⟨g8, 1, none⟩ = some (V 1).v := hS.h8.cell 1
    have z := hS.h8.frozen 1
    refine ⟨W.setCell ⟨g8, 1, none⟩ r.v, ?_, r, hr, ?_⟩
    · simp only [execOp, p231, p230]; unfold WyR.v at *; go_simp; try exact rfl
    · have := hS.put8 1 (by decide) r.v
      rw [upd_v] at this
      exact this
  case fin =>
    intro f W vs _ h
    obtain ⟨r, h1, h2⟩ := h
    exact hf f W r b (List.mem_of_getElem? hb) h1 h2
end Go.Proofs.YtodimanghmepoaaDoor
namespace Go.Proofs.YtodimanghmepoaaDoor
open Go.RowKit
set_option maxRecDepth 100000 in
set_option maxHeartbeats 4000000 in
theorem reg44_0 {Q : Exit → Act → World → Prop} {l0 : List Value} {d0} {w0 w : World} {F : Nat → Nat → Prop} {p : Nat → Nat} {s : Nat → LSt} {g7 g8 g9 g10 g13 : Nat} {V : Nat → WyR} {P C : Nat → List Nat} {K T X : Nat} (hlen : l0.length = 312) (e8 : l0.toArray.getD 8 undef = .pointer (some ⟨g8, 0, none⟩)) (e13 : l0.toArray.getD 13 undef = .pointer (some ⟨g13, 0, none⟩)) (e14 : l0.toArray.getD 14 undef = .int .i64 0) (h : SV w0 w F p s g7 g8 g9 g10 g13 V P C K T X) (hT : T < 256) (hn : 0 < (V 0).n)
    (hf : ∀ (f : Nat → Value) (W : World), SV w0 W F p s g7 g8 g9 g10 g13 V P C K T X → f 23 = .int .i64 ((T % (V 0).n : Nat) : Int) → Q .normal ⟨(over f (inR 239 246 23) 0 l0).toArray, d0⟩ W) :
    (Code.region 44 ops_44.1 true).wp Tryd.prog Q ⟨l0.toArray, d0⟩ w := by
  have i1 : (0 : Int) ≤ (T : Int) := by omega
  have i2 : ¬ ((V 0).n : Int) = 0 := by omega
  have i3 : (0 : Int) ≤ ((V 0).n : Int) := by omega
  have i4 : IntKind.i64.wrap (T : Int) = (T : Int) := by simp [IntKind.wrap, IntKind.signed, IntKind.bits]; omega
  have i5 : ¬ (V 0).n = 0 := by omega
  refine wp_region_chainO (inR 239 246 23) 9 [] (fun _ W => SX w0 W F p s g7 g8 g9 g10 g13 (fun i => (V i).v) V P C K T X ∧ True) (isK (.pointer (some ⟨g13, 1, none⟩)) :: isK ?c1 :: isK (.int .i64 (T : Int)) :: isK (.int .i64 0) :: isK (.pointer (some ⟨g8, 0, none⟩)) :: isK ?c5 :: isK (.int .i64 ((V 0).n : Int)) :: isK (.int .i64 ((T : Int) % ((V 0).n : Int))) :: isK (.int .i64 ((T : Int) % ((V 0).n : Int))) :: [])
    [⟨[], [13], none⟩, ⟨[(239, 0)], [], none⟩, ⟨[(240, 1)], [], none⟩, ⟨[], [14], none⟩, ⟨[(242, 3)], [8], none⟩, ⟨[(243, 4)], [], none⟩, ⟨[(244, 5)], [], none⟩, ⟨[(241, 2), (245, 6)], [], none⟩, ⟨[(246, 7)], [], none⟩] (by kernel_rfl) (by kernel_rfl) (by rw [hlen]; kernel_rfl) (by kernel_rfl) (by kernel_rfl) (by kernel_rfl) (by kernel_rfl) ?hphi ?mono ?h0 ?steps ?fin
  case hphi =>
    rintro vs W W' ⟨hS, -⟩ hb
    exact ⟨hS.later hb, trivial⟩
  case h0 =>
    exact ⟨h, trivial⟩
  case steps =>
    refine ⟨fun ρ W vs ⟨hcst, hglb, hfun⟩ hX hp ho => ?_, ?_⟩ -- 0: slot 239 := Op.fieldAddr 68 t13 1
    · obtain ⟨o13, -⟩ := ho
      change ρ (.tmp 13) = l0.toArray.getD 13 undef at o13
      rw [e13] at o13
      refine turn_plain (ok_is ?_ rfl); simp only [execOp, o13]; go_simp; try exact rfl
    refine ⟨fun ρ W vs ⟨hcst, hglb, hfun⟩ hX hp ho => ?_, ?_⟩ -- 1: slot 240 := Op.load 5 t239
    · obtain ⟨p239, -⟩ := hp
      change ρ (.tmp 239) = _ at p239
      obtain ⟨hS, -⟩ := hX
      have q : W.cell? ⟨g13, 1, none⟩ = some (.int .u8 (T : Int)) := hS.h13.cell 1
      refine turn_plain (ok_is ?_ rfl); simp only [execOp, p239]; go_simp; try exact rfl
    refine ⟨fun ρ W vs ⟨hcst, hglb, hfun⟩ hX hp ho => ?_, ?_⟩ -- 2: slot 241 := Op.convert 5 3 t240
    · obtain ⟨p240, -⟩ := hp
      change ρ (.tmp 240) = _ at p240
      refine turn_plain (ok_is ?_ rfl); simp only [execOp, p240]; go_simp; try simp only [i4]; try rfl
    refine ⟨fun ρ W vs ⟨hcst, hglb, hfun⟩ hX hp ho => ?_, ?_⟩ -- 3: slot 242 := Op.move t14
    · obtain ⟨o14, -⟩ := ho
      change ρ (.tmp 14) = l0.toArray.getD 14 undef at o14
      rw [e14] at o14
      refine turn_plain (ok_is ?_ rfl); simp only [execOp, o14]; go_simp; try exact rfl
    refine ⟨fun ρ W vs ⟨hcst, hglb, hfun⟩ hX hp ho => ?_, ?_⟩ -- 4: slot 243 := Op.indexAddr 65 t8 t242
    · obtain ⟨p242, -⟩ := hp
      change ρ (.tmp 242) = _ at p242
      obtain ⟨o8, -⟩ := ho
      change ρ (.tmp 8) = l0.toArray.getD 8 undef at o8
      rw [e8] at o8
      refine turn_plain (ok_is ?_ rfl); simp only [execOp, p242, o8]; go_simp; try exact rfl
    refine ⟨fun ρ W vs ⟨hcst, hglb, hfun⟩ hX hp ho => ?_, ?_⟩ -- 5: slot 244 := Op.load 31 t243
    · obtain ⟨p243, -⟩ := hp
      change ρ (.tmp 243) = _ at p243
      obtain ⟨hS, -⟩ := hX
      have q : W.cell? ⟨g8, 0, none⟩ = some (.slice (V 0).A (V 0).n (V 0).c) := hS.h8.cell 0
      refine turn_plain (ok_is ?_ rfl); simp only [execOp, p243]; go_simp; try exact rfl
    refine ⟨fun ρ W vs ⟨hcst, hglb, hfun⟩ hX hp ho => ?_, ?_⟩ -- 6: slot 245 := Op.call { builtin len, args := #[t244], argTypes := #[31] }
    · obtain ⟨p244, -⟩ := hp
      change ρ (.tmp 244) = _ at p244
      refine turn_plain (ok_is ?_ rfl); simp only [execOp, p244]; go_simp; try exact rfl
    refine ⟨fun ρ W vs ⟨hcst, hglb, hfun⟩ hX hp ho => ?_, ?_⟩ -- 7: slot 246 := Op.binOp BinOp.rem 3 t241 t245 3
    · obtain ⟨p241, p245, -⟩ := hp
      change ρ (.tmp 241) = _ at p241
      change ρ (.tmp 245) = _ at p245
      refine turn_plain (ok_is ?_ rfl); simp only [execOp, p241, p245]; go_simp; simp only [if_neg i5, Int.tmod_eq_emod_of_nonneg i1]
    refine ⟨fun ρ W vs ⟨hcst, hglb, hfun⟩ hX hp ho => ?_, ?_⟩ -- 8: slot 23 := Op.assign t246
    · obtain ⟨p246, -⟩ := hp
      change ρ (.tmp 246) = _ at p246
      refine turn_plain (ok_is ?_ rfl); simp only [execOp, p246]; go_simp; try exact rfl
    exact trivial
  case mono => exact ⟨mono_isK _, mono_isK _, mono_isK _, mono_isK _, mono_isK _, mono_isK _, mono_isK _, mono_isK _, mono_isK _, trivial⟩
  case fin =>
    intro f W vs _ h hR
    exact hf f W h.1 ((hR 8 23 (by omega) rfl).trans (by rw [Int.natCast_emod]))
set_option maxRecDepth 100000 in
set_option maxHeartbeats 4000000 in
theorem reg44_1 {Q : Exit → Act → World → Prop} {l0 : List Value} {d0} {w0 w : World} {F : Nat → Nat → Prop} {p : Nat → Nat} {s : Nat → LSt} {g7 g8 g9 g10 g13 : Nat} {V : Nat → WyR} {P C : Nat → List Nat} {K T X : Nat} (hlen : l0.length = 312) (e8 : l0.toArray.getD 8 undef = .pointer (some ⟨g8, 0, none⟩)) (e13 : l0.toArray.getD 13 undef = .pointer (some ⟨g13, 0, none⟩)) (e14 : l0.toArray.getD 14 undef = .int .i64 1) (h : SV w0 w F p s g7 g8 g9 g10 g13 V P C K T X) (hT : T < 256) (hn : 0 < (V 1).n)
    (hf : ∀ (f : Nat → Value) (W : World), SV w0 W F p s g7 g8 g9 g10 g13 V P C K T X → f 23 = .int .i64 ((T % (V 1).n : Nat) : Int) → Q .normal ⟨(over f (inR 239 246 23) 0 l0).toArray, d0⟩ W) :
    (Code.region 44 ops_44.1 true).wp Tryd.prog Q ⟨l0.toArray, d0⟩ w := by
  have i1 : (0 : Int) ≤ (T : Int) := by omega
  have i2 : ¬ ((V 1).n : Int) = 0 := by omega
  have i3 : (0 : Int) ≤ ((V 1).n : Int) := by omega
  have i4 : IntKind.i64.wrap (T : Int) = (T : Int) := by simp [IntKind.wrap, IntKind.signed, IntKind.bits]; omega
  have i5 : ¬ (V 1).n = 0 := by omega
  refine wp_region_chainO (inR 239 246 23) 9 [] (fun _ W => SX w0 W F p s g7 g8 g9 g10 g13 (fun i => (V i).v) V P C K T X ∧ True) (isK (.pointer (some ⟨g13, 1, none⟩)) :: isK ?c1 :: isK (.int .i64 (T : Int)) :: isK (.int .i64 1) :: isK (.pointer (some ⟨g8, 1, none⟩)) :: isK ?c5 :: isK (.int .i64 ((V 1).n : Int)) :: isK (.int .i64 ((T : Int) % ((V 1).n : Int))) :: isK (.int .i64 ((T : Int) % ((V 1).n : Int))) :: [])
    [⟨[], [13], none⟩, ⟨[(239, 0)], [], none⟩, ⟨[(240, 1)], [], none⟩, ⟨[], [14], none⟩, ⟨[(242, 3)], [8], none⟩, ⟨[(243, 4)], [], none⟩, ⟨[(244, 5)], [], none⟩, ⟨[(241, 2), (245, 6)], [], none⟩, ⟨[(246, 7)], [], none⟩] (by kernel_rfl) (by kernel_rfl) (by rw [hlen]; kernel_rfl) (by kernel_rfl) (by kernel_rfl) (by kernel_rfl) (by kernel_rfl) ?hphi ?mono ?h0 ?steps ?fin
  case hphi =>
    rintro vs W W' ⟨hS, -⟩ hb
    exact ⟨hS.later hb, trivial⟩
  case h0 =>
    exact ⟨h, trivial⟩
  case steps =>
    refine ⟨fun ρ W vs ⟨hcst, hglb, hfun⟩ hX hp ho => ?_, ?_⟩ -- 0: slot 239 := Op.fieldAddr 68 t13 1
    · obtain ⟨o13, -⟩ := ho
      change ρ (.tmp 13) = l0.toArray.getD 13 undef at o13
      rw [e13] at o13
      refine turn_plain (ok_is ?_ rfl); simp only [execOp, o13]; go_simp; try exact rfl
    refine ⟨fun ρ W vs ⟨hcst, hglb, hfun⟩ hX hp ho => ?_, ?_⟩ -- 1: slot 240 := Op.load 5 t239
    · obtain ⟨p239, -⟩ := hp
      change ρ (.tmp 239) = _ at p239
      obtain ⟨hS, -⟩ := hX
      have q : W.cell? ⟨g13, 1, none⟩ = some (.int .u8 (T : Int)) := hS.h13.cell 1
      refine turn_plain (ok_is ?_ rfl); simp only [execOp, p239]; go_simp; try exact rfl
    refine ⟨fun ρ W vs ⟨hcst, hglb, hfun⟩ hX hp ho => ?_, ?_⟩ -- 2: slot 241 := Op.convert 5 3 t240
    · obtain ⟨p240, -⟩ := hp
      change ρ (.tmp 240) = _ at p240
      refine turn_plain (ok_is ?_ rfl); simp only [execOp, p240]; go_simp; try simp only [i4]; try rfl
    refine ⟨fun ρ W vs ⟨hcst, hglb, hfun⟩ hX hp ho => ?_, ?_⟩ -- 3: slot 242 := Op.move t14
    · obtain ⟨o14, -⟩ := ho
      change ρ (.tmp 14) = l0.toArray.getD 14 undef at o14
      rw [e14] at o14
      refine turn_plain (ok_is ?_ rfl); simp only [execOp, o14]; go_simp; try exact rfl
    refine ⟨fun ρ W vs ⟨hcst, hglb, hfun⟩ hX hp ho => ?_, ?_⟩ -- 4: slot 243 := Op.indexAddr 65 t8 t242
    · obtain ⟨p242, -⟩ := hp
      change ρ (.tmp 242) = _ at p242
      obtain ⟨o8, -⟩ := ho
      change ρ (.tmp 8) = l0.toArray.getD 8 undef at o8
      rw [e8] at o8
      refine turn_plain (ok_is ?_ rfl); simp only [execOp, p242, o8]; go_simp; try exact rfl
    refine ⟨fun ρ W vs ⟨hcst, hglb, hfun⟩ hX hp ho => ?_, ?_⟩ -- 5: slot 244 := Op.load 31 t243
    · obtain ⟨p243, -⟩ := hp
      change ρ (.tmp 243) = _ at p243
      obtain ⟨hS, -⟩ := hX
      have q : W.cell? ⟨g8, 1, none⟩ = some (.slice (V 1).A (V 1).n (V 1).c) := hS.h8.cell 1
      refine turn_plain (ok_is ?_ rfl); simp only [execOp, p243]; go_simp; try exact rfl
    refine ⟨fun ρ W vs ⟨hcst, hglb, hfun⟩ hX hp ho => ?_, ?_⟩ -- 6: slot 245 := Op.call { builtin len, args := #[t244], argTypes := #[31] }
    · obtain ⟨p244, -⟩ := hp
      change ρ (.tmp 244) = _ at p244
      refine turn_plain (ok_is ?_ rfl); simp only [execOp, p244]; go_simp; try exact rfl
    refine ⟨fun ρ W vs ⟨hcst, hglb, hfun⟩ hX hp ho => ?_, ?_⟩ -- 7: slot 246 := Op.binOp BinOp.rem 3 t241 t245 3
    · obtain ⟨p241, p245, -⟩ := hp
      change ρ (.tmp 241) = _ at p241
      change ρ (.tmp 245) = _ at p245
      refine turn_plain (ok_is ?_ rfl); simp only [execOp, p241, p245]; go_simp; simp only [if_neg i5, Int.tmod_eq_emod_of_nonneg i1]
    refine ⟨fun ρ W vs ⟨hcst, hglb, hfun⟩ hX hp ho => ?_, ?_⟩ -- 8: slot 23 := Op.assign t246
    · obtain ⟨p246, -⟩ := hp
      change ρ (.tmp 246) = _ at p246
      refine turn_plain (ok_is ?_ rfl); simp only [execOp, p246]; go_simp; try exact rfl
    exact trivial
  case mono => exact ⟨mono_isK _, mono_isK _, mono_isK _, mono_isK _, mono_isK _, mono_isK _, mono_isK _, mono_isK _, mono_isK _, trivial⟩
  case fin =>
    intro f W vs _ h hR
    exact hf f W h.1 ((hR 8 23 (by omega) rfl).trans (by rw [Int.natCast_emod]))
end Go.Proofs.YtodimanghmepoaaDoor
namespace Go.Proofs.YtodimanghmepoaaDoor
open Go.RowKit
set_option maxRecDepth 100000 in
set_option maxHeartbeats 4000000 in
theorem reg45_0 {Q : Exit → Act → World → Prop} {l0 : List Value} {d0} {w0 w : World} {F : Nat → Nat → Prop} {p : Nat → Nat} {s : Nat → LSt} {g7 g8 g9 g10 g13 : Nat} {V : Nat → WyR} {P C : Nat → List Nat} {K T X : Nat} (hlen : l0.length = 312) {a : Nat} (e8 : l0.toArray.getD 8 undef = .pointer (some ⟨g8, 0, none⟩)) (e14 : l0.toArray.getD 14 undef = .int .i64 0) (e23 : l0.toArray.getD 23 undef = .int .i64 (a : Int)) (h : SV w0 w F p s g7 g8 g9 g10 g13 V P C K T X) (ha : a < (V 0).n) (hn : (V 0).n ≤ 100000)
    (hf : ∀ (f : Nat → Value) (W : World) (r : WyR), r.L = (V 0).L.take a ++ (V 0).L.drop (a + 1) → SV w0 W F p s g7 g8 g9 g10 g13 (upd V 0 r) P C K T X → DGs W w0.heap.size F (V 0).vs (V 0).L → Q .normal ⟨(over f (inR 247 262 247) 0 l0).toArray, d0⟩ W) :
    (Code.region 45 ops_45.1 true).wp Tryd.prog Q ⟨l0.toArray, d0⟩ w := by
  obtain ⟨g, eA⟩ : ∃ g, (V 0).A = some ⟨g, 0, none⟩ := by
    rcases (h.o 0 (by decide)).own.lies with ⟨_, h1, _⟩ | ⟨g, h1, _⟩
    · omega
    · exact ⟨g, h1⟩
  have hcap := (h.o 0 (by decide)).own.cap
  have i1 : (0 : Int) ≤ (a : Int) := by omega
  have i2 : (a : Int) ≤ ((V 0).c : Int) := by omega
  have i3 : (a : Int) + 1 ≤ ((V 0).n : Int) := by omega
  have i4 : (0 : Int) ≤ (a : Int) + 1 := by omega
  have i5 : (a : Int) + 1 ≤ 9223372036854775807 := by omega
  have i6 : ((a : Int) + 1).toNat = a + 1 := by omega
  have i7 : ¬ (V 0).c = 0 := by omega
  have i8 : IntKind.i64.wrap ((a : Int) + 1) = (a : Int) + 1 := by simp [IntKind.wrap, IntKind.signed, IntKind.bits]; omega
  refine wp_region_chainT (inR 247 262 247) 16 [1, 7, 14] (fun vs W => SX w0 W F p s g7 g8 g9 g10 g13 (fun i => (V i).v) V P C K T X ∧ (match vs with
        | [] => True
        | [v] => NL w0 W F V v 0 []
        | [_, v] => NL w0 W F V v (0 + a) ([] ++ (V 0).vs.take a)
        | [_, _, v] => NL w0 W F V v (0 + a + ((V 0).n - (a + 1))) ([] ++ (V 0).vs.take a ++ (V 0).vs.drop (a + 1))
        | _ => False)) (fun _ W => ∃ r : WyR, r.L = (V 0).L.take a ++ (V 0).L.drop (a + 1) ∧ SV w0 W F p s g7 g8 g9 g10 g13 (upd V 0 r) P C K T X ∧ DGs W w0.heap.size F (V 0).vs (V 0).L) (isK (.int .i64 0) :: RelK.any_ :: isK (.int .i64 0) :: isK (.pointer (some ⟨g8, 0, none⟩)) :: isK ?c4 :: isK (.int .i64 (a : Int)) :: isK (.slice (some ⟨g, 0, none⟩) a (V 0).c) :: RelK.any_ :: isK (.int .i64 0) :: isK (.pointer (some ⟨g8, 0, none⟩)) :: isK ?c10 :: isK (.int .i64 (a : Int)) :: isK (.int .i64 ((a : Int) + 1)) :: isK (.slice (if (V 0).c = a + 1 then some ⟨g, 0, none⟩ else some ⟨g, a + 1, none⟩) ((V 0).n - (a + 1)) ((V 0).c - (a + 1))) :: RelK.any_ :: isK (.pointer (some ⟨g8, 0, none⟩)) :: [])
    [⟨[], [14], none⟩, ⟨[], [], none⟩, ⟨[], [14], none⟩, ⟨[(249, 2)], [8], none⟩, ⟨[(250, 3)], [], none⟩, ⟨[], [23], none⟩, ⟨[(251, 4), (252, 5)], [], none⟩, ⟨[(248, 1), (253, 6)], [], none⟩, ⟨[], [14], none⟩, ⟨[(255, 8)], [8], none⟩, ⟨[(256, 9)], [], none⟩, ⟨[], [23], none⟩, ⟨[(258, 11)], [], none⟩, ⟨[(257, 10), (259, 12)], [], none⟩, ⟨[(254, 7), (260, 13)], [], none⟩, ⟨[(247, 0)], [8], none⟩] ⟨[(262, 15), (261, 14)], [], none⟩ _ rfl (by kernel_rfl) (by kernel_rfl) (by rw [hlen]; kernel_rfl) (by kernel_rfl) (by kernel_rfl) (by kernel_rfl) (by kernel_rfl) (by kernel_rfl) (by kernel_rfl) ?hphi ?mono ?h0 ?steps ?st ?fin
  case hphi =>
    rintro vs W W' ⟨hS, hx⟩ hb
    refine ⟨hS.later hb, ?_⟩
    match vs, hx with
    | [], hx => trivial
    | [v], hx => exact hx.later hb
    | [_, v], hx => exact hx.later hb
    | [_, _, v], hx => exact hx.later hb
  case h0 =>
    exact ⟨h, trivial⟩
  case steps =>
    refine ⟨fun ρ W vs ⟨hcst, hglb, hfun⟩ hX hp ho => ?_, ?_⟩ -- 0: slot 247 := Op.move t14
    · obtain ⟨o14, -⟩ := ho
      change ρ (.tmp 14) = l0.toArray.getD 14 undef at o14
      rw [e14] at o14
      refine turn_plain (ok_is ?_ rfl); simp only [execOp, o14]; go_simp; try exact rfl
    refine ⟨fun ρ W vs ⟨hcst, hglb, hfun⟩ hvl hX hp ho => ?_, ?_⟩ -- 1: slot 248 := Op.buildSlice 31 0 #[]
    · obtain rfl := List.eq_nil_of_length_eq_zero hvl
      obtain ⟨hS, -⟩ := hX
      refine actK_val (exec_build0 rfl) ?_
      exact ⟨hS.later ((Below.refl _ _).alloc (Nat.le_refl _) _), NL.lit hS #[] 0 rfl (Nat.zero_le _)⟩
    refine ⟨fun ρ W vs ⟨hcst, hglb, hfun⟩ hX hp ho => ?_, ?_⟩ -- 2: slot 249 := Op.move t14
    · obtain ⟨o14, -⟩ := ho
      change ρ (.tmp 14) = l0.toArray.getD 14 undef at o14
      rw [e14] at o14
      refine turn_plain (ok_is ?_ rfl); simp only [execOp, o14]; go_simp; try exact rfl
    refine ⟨fun ρ W vs ⟨hcst, hglb, hfun⟩ hX hp ho => ?_, ?_⟩ -- 3: slot 250 := Op.indexAddr 65 t8 t249
    · obtain ⟨p249, -⟩ := hp
      change ρ (.tmp 249) = _ at p249
      obtain ⟨o8, -⟩ := ho
      change ρ (.tmp 8) = l0.toArray.getD 8 undef at o8
      rw [e8] at o8
      refine turn_plain (ok_is ?_ rfl); simp only [execOp, p249, o8]; go_simp; try exact rfl
    refine ⟨fun ρ W vs ⟨hcst, hglb, hfun⟩ hX hp ho => ?_, ?_⟩ -- 4: slot 251 := Op.load 31 t250
    · obtain ⟨p250, -⟩ := hp
      change ρ (.tmp 250) = _ at p250
      obtain ⟨hS, -⟩ := hX
      have q : W.cell? ⟨g8, 0, none⟩ = some (.slice (some ⟨g, 0, none⟩) (V 0).n (V 0).c) := by rw [← eA]; exact hS.h8.cell 0
      refine turn_plain (ok_is ?_ rfl); simp only [execOp, p250]; go_simp; try exact rfl
    refine ⟨fun ρ W vs ⟨hcst, hglb, hfun⟩ hX hp ho => ?_, ?_⟩ -- 5: slot 252 := Op.move t23
    · obtain ⟨o23, -⟩ := ho
      change ρ (.tmp 23) = l0.toArray.getD 23 undef at o23
      rw [e23] at o23
      refine turn_plain (ok_is ?_ rfl); simp only [execOp, o23]; go_simp; try exact rfl
    refine ⟨fun ρ W vs ⟨hcst, hglb, hfun⟩ hX hp ho => ?_, ?_⟩ -- 6: slot 253 := Op.slice 31 t251 none (some t252) none
    · obtain ⟨p251, p252, -⟩ := hp
      change ρ (.tmp 251) = _ at p251
      change ρ (.tmp 252) = _ at p252
      refine turn_plain (ok_is ?_ rfl); simp only [execOp, p251, p252]; go_simp; try exact rfl
    refine ⟨fun ρ W vs ⟨hcst, hglb, hfun⟩ hvl hX hp ho => ?_, ?_⟩ -- 7: slot 254 := Op.call { builtin append, args := #[t248, t253], argTypes := #[31, 31] }
    · obtain ⟨p248, p253, -⟩ := hp
      change 0 < vs.length ∧ ρ (.tmp 248) = vs.getD 0 undef at p248
      change ρ (.tmp 253) = _ at p253
      obtain ⟨v, rfl⟩ := one_of hvl
      obtain ⟨hS, A, c, rfl, ho2, ha2, hne2⟩ := hX
      obtain ⟨-, p248⟩ := p248
      change ρ (.tmp 248) = .slice A 0 c at p248
      have o := hS.o 0 (by decide)
      have hat : At W (some ⟨g, 0, none⟩) ((V 0).vs.take a) := by rw [← eA]; exact o.own.at_.take
      have hl : ((V 0).vs.take a).length = a * 1 := by have := o.own.len; simp; omega
      obtain ⟨A', c', w', hr, h2, h3, h4⟩ := run_app W elt_sl 31 ho2 (c2 := (V 0).c) hl hat (o.dgs.take a).cell (by unfold maxLen; omega) (by omega) hS.ways.bel.size
      refine actK_val (exec_app _ _ _ rfl p248 p253 hr) ?_
      exact NL.app hS ho2 ha2 hne2 h2 h3 h4
    refine ⟨fun ρ W vs ⟨hcst, hglb, hfun⟩ hX hp ho => ?_, ?_⟩ -- 8: slot 255 := Op.move t14
    · obtain ⟨o14, -⟩ := ho
      change ρ (.tmp 14) = l0.toArray.getD 14 undef at o14
      rw [e14] at o14
      refine turn_plain (ok_is ?_ rfl); simp only [execOp, o14]; go_simp; try exact rfl
    refine ⟨fun ρ W vs ⟨hcst, hglb, hfun⟩ hX hp ho => ?_, ?_⟩ -- 9: slot 256 := Op.indexAddr 65 t8 t255
    · obtain ⟨p255, -⟩ := hp
      change ρ (.tmp 255) = _ at p255
      obtain ⟨o8, -⟩ := ho
      change ρ (.tmp 8) = l0.toArray.getD 8 undef at o8
      rw [e8] at o8
      refine turn_plain (ok_is ?_ rfl); simp only [execOp, p255, o8]; go_simp; try exact rfl
    refine ⟨fun ρ W vs ⟨hcst, hglb, hfun⟩ hX hp ho => ?_, ?_⟩ -- 10: slot 257 := Op.load 31 t256
    · obtain ⟨p256, -⟩ := hp
      change ρ (.tmp 256) = _ at p256
      obtain ⟨hS, -⟩ := hX
      have q : W.cell? ⟨g8, 0, none⟩ = some (.slice (some ⟨g, 0, none⟩) (V 0).n (V 0).c) := by rw [← eA]; exact hS.h8.cell 0
      refine turn_plain (ok_is ?_ rfl); simp only [execOp, p256]; go_simp; try exact rfl
    refine ⟨fun ρ W vs ⟨hcst, hglb, hfun⟩ hX hp ho => ?_, ?_⟩ -- 11: slot 258 := Op.move t23
    · obtain ⟨o23, -⟩ := ho
      change ρ (.tmp 23) = l0.toArray.getD 23 undef at o23
      rw [e23] at o23
      refine turn_plain (ok_is ?_ rfl); simp only [execOp, o23]; go_simp; try exact rfl
    refine ⟨fun ρ W vs ⟨hcst, hglb, hfun⟩ hX hp ho => ?_, ?_⟩ -- 12: slot 259 := Op.binOp BinOp.add 3 t258 (const (1:i64)) 3
    · obtain ⟨p258, -⟩ := hp
      change ρ (.tmp 258) = _ at p258
      refine turn_plain (ok_is ?_ rfl); simp only [execOp, hcst, p258]; go_simp; try simp only [i8]; try rfl
    refine ⟨fun ρ W vs ⟨hcst, hglb, hfun⟩ hX hp ho => ?_, ?_⟩ -- 13: slot 260 := Op.slice 31 t257 (some t259) none none
    · obtain ⟨p257, p259, -⟩ := hp
      change ρ (.tmp 257) = _ at p257
      change ρ (.tmp 259) = _ at p259
      refine turn_plain (ok_is ?_ rfl); simp only [execOp, p257, p259]; go_simp; try exact rfl
    refine ⟨fun ρ W vs ⟨hcst, hglb, hfun⟩ hvl hX hp ho => ?_, ?_⟩ -- 14: slot 261 := Op.call { builtin append, args := #[t254, t260], argTypes := #[31, 31] }
    · obtain ⟨p254, p260, -⟩ := hp
      change 1 < vs.length ∧ ρ (.tmp 254) = vs.getD 1 undef at p254
      change ρ (.tmp 260) = _ at p260
      obtain ⟨u, v, rfl⟩ := two_of hvl
      obtain ⟨hS, A, c, rfl, ho2, ha2, hne2⟩ := hX
      obtain ⟨-, p254⟩ := p254
      change ρ (.tmp 254) = .slice A (0 + a) c at p254
      have o := hS.o 0 (by decide)
      have hat : At W (if (V 0).c = a + 1 then some ⟨g, 0, none⟩ else some ⟨g, a + 1, none⟩) ((V 0).vs.drop (a + 1)) := by
        split
        · have := o.own.cap; have := o.own.len; rw [List.drop_eq_nil_of_le (by omega)]; exact At.nil _ _
        · have h0 := o.own.at_; rw [eA] at h0; have h1 := h0.cut (m := a + 1); rw [Nat.zero_add] at h1; exact h1
      have hl : ((V 0).vs.drop (a + 1)).length = ((V 0).n - (a + 1)) * 1 := by have := o.own.len; simp; omega
      obtain ⟨A', c', w', hr, h2, h3, h4⟩ := run_app W elt_sl 31 ho2 (c2 := (V 0).c - (a + 1)) hl hat (o.dgs.drop (a + 1)).cell (by unfold maxLen; omega) (by omega) hS.ways.bel.size
      refine actK_val (exec_app _ _ _ rfl p254 p260 hr) ?_
      exact NL.app hS ho2 ha2 hne2 h2 h3 h4
    refine ⟨fun ρ W vs ⟨hcst, hglb, hfun⟩ hX hp ho => ?_, ?_⟩ -- 15: slot 262 := Op.indexAddr 65 t8 t247
    · obtain ⟨p247, -⟩ := hp
      change ρ (.tmp 247) = _ at p247
      obtain ⟨o8, -⟩ := ho
      change ρ (.tmp 8) = l0.toArray.getD 8 undef at o8
      rw [e8] at o8
      refine turn_plain (ok_is ?_ rfl); simp only [execOp, p247, o8]; go_simp; try exact rfl
    exact trivial
  case mono => exact ⟨mono_isK _, mono_anyK, mono_isK _, mono_isK _, mono_isK _, mono_isK _, mono_isK _, mono_anyK, mono_isK _, mono_isK _, mono_isK _, mono_isK _, mono_isK _, mono_isK _, mono_anyK, mono_isK _, trivial⟩
  case st =>
    intro ρ W vs ⟨hcst, hglb, hfun⟩ hvl hX hp ho
    change ∃ W2, (execOp ρ { dst := none, op := Op.store 31 (.tmp 262) (.tmp 261), type := _, pos := _, after := _, guard := _ }).run _ W = _ ∧ _
    obtain ⟨p262, p261, -⟩ := hp
    change ρ (.tmp 262) = _ at p262
    change 2 < vs.length ∧ ρ (.tmp 261) = vs.getD 2 undef at p261
    obtain ⟨u1, u2, v, rfl⟩ := three_of hvl
    obtain ⟨hS, hN⟩ := hX
    obtain ⟨-, p261⟩ := p261
    change ρ (.tmp 261) = v at p261
    have o := hS.o 0 (by decide)
    obtain ⟨r, rfl, hr1, hr2, hS2⟩ := NL.way hS 0 (by decide) hN (L := [] ++ (V 0).L.take a ++ (V 0).L.drop (a + 1)) (((DGs.nil _ _ _).app (o.dgs.take a)).app (o.dgs.drop (a + 1)))
    have q : W.cell? ⟨g8, 0, none⟩ = some (V 0).v := hS.h8.cell 0
    have z := hS.h8.frozen 0
    refine ⟨W.setCell ⟨g8, 0, none⟩ r.v, ?_, r, by rw [hr1]; rfl, ?_, (o.off (grown_setW _ _ _) hS.h8 (by decide) (by decide)).dgs⟩
    · simp only [execOp, p262, p261]; unfold WyR.v at *; go_simp; try exact rfl
    · have := hS2.put8 0 (by decide) r.v
      rw [upd_v] at this
      exact this
  case fin =>
    intro f W vs _ h
    obtain ⟨r, h1, h2, h3⟩ := h
    exact hf f W r h1 h2 h3
set_option maxRecDepth 100000 in
set_option maxHeartbeats 4000000 in
theorem reg45_1 {Q : Exit → Act → World → Prop} {l0 : List Value} {d0} {w0 w : World} {F : Nat → Nat → Prop} {p : Nat → Nat} {s : Nat → LSt} {g7 g8 g9 g10 g13 : Nat} {V : Nat → WyR} {P C : Nat → List Nat} {K T X : Nat} (hlen : l0.length = 312) {a : Nat} (e8 : l0.toArray.getD 8 undef = .pointer (some ⟨g8, 0, none⟩)) (e14 : l0.toArray.getD 14 undef = .int .i64 1) (e23 : l0.toArray.getD 23 undef = .int .i64 (a : Int)) (h : SV w0 w F p s g7 g8 g9 g10 g13 V P C K T X) (ha : a < (V 1).n) (hn : (V 1).n ≤ 100000)
    (hf : ∀ (f : Nat → Value) (W : World) (r : WyR), r.L = (V 1).L.take a ++ (V 1).L.drop (a + 1) → SV w0 W F p s g7 g8 g9 g10 g13 (upd V 1 r) P C K T X → DGs W w0.heap.size F (V 1).vs (V 1).L → Q .normal ⟨(over f (inR 247 262 247) 0 l0).toArray, d0⟩ W) :
    (Code.region 45 ops_45.1 true).wp Tryd.prog Q ⟨l0.toArray, d0⟩ w := by
  obtain ⟨g, eA⟩ : ∃ g, (V 1).A = some ⟨g, 0, none⟩ := by
    rcases (h.o 1 (by decide)).own.lies with ⟨_, h1, _⟩ | ⟨g, h1, _⟩
    · omega
    · exact ⟨g, h1⟩
  have hcap := (h.o 1 (by decide)).own.cap
  have i1 : (0 : Int) ≤ (a : Int) := by omega
  have i2 : (a : Int) ≤ ((V 1).c : Int) := by omega
  have i3 : (a : Int) + 1 ≤ ((V 1).n : Int) := by omega
  have i4 : (0 : Int) ≤ (a : Int) + 1 := by omega
  have i5 : (a : Int) + 1 ≤ 9223372036854775807 := by omega
  have i6 : ((a : Int) + 1).toNat = a + 1 := by omega
  have i7 : ¬ (V 1).c = 0 := by omega
  have i8 : IntKind.i64.wrap ((a : Int) + 1) = (a : Int) + 1 := by simp [IntKind.wrap, IntKind.signed, IntKind.bits]; omega
  refine wp_region_chainT (inR 247 262 247) 16 [1, 7, 14] (fun vs W => SX w0 W F p s g7 g8 g9 g10 g13 (fun i => (V i).v) V P C K T X ∧ (match vs with
        | [] => True
        | [v] => NL w0 W F V v 0 []
        | [_, v] => NL w0 W F V v (0 + a) ([] ++ (V 1).vs.take a)
        | [_, _, v] => NL w0 W F V v (0 + a + ((V 1).n - (a + 1))) ([] ++ (V 1).vs.take a ++ (V 1).vs.drop (a + 1))
        | _ => False)) (fun _ W => ∃ r : WyR, r.L = (V 1).L.take a ++ (V 1).L.drop (a + 1) ∧ SV w0 W F p s g7 g8 g9 g10 g13 (upd V 1 r) P C K T X ∧ DGs W w0.heap.size F (V 1).vs (V 1).L) (isK (.int .i64 1) :: RelK.any_ :: isK (.int .i64 1) :: isK (.pointer (some ⟨g8, 1, none⟩)) :: isK ?c4 :: isK (.int .i64 (a : Int)) :: isK (.slice (some ⟨g, 0, none⟩) a (V 1).c) :: RelK.any_ :: isK (.int .i64 1) :: isK (.pointer (some ⟨g8, 1, none⟩)) :: isK ?c10 :: isK (.int .i64 (a : Int)) :: isK (.int .i64 ((a : Int) + 1)) :: isK (.slice (if (V 1).c = a + 1 then some ⟨g, 0, none⟩ else some ⟨g, a + 1, none⟩) ((V 1).n - (a + 1)) ((V 1).c - (a + 1))) :: RelK.any_ :: isK (.pointer (some ⟨g8, 1, none⟩)) :: [])
    [⟨[], [14], none⟩, ⟨[], [], none⟩, ⟨[], [14], none⟩, ⟨[(249, 2)], [8], none⟩, ⟨[(250, 3)], [], none⟩, ⟨[], [23], none⟩, ⟨[(251, 4), (252, 5)], [], none⟩, ⟨[(248, 1), (253, 6)], [], none⟩, ⟨[], [14], none⟩, ⟨[(255, 8)], [8], none⟩, ⟨[(256, 9)], [], none⟩, ⟨[], [23], none⟩, ⟨[(258, 11)], [], none⟩, ⟨[(257, 10), (259, 12)], [], none⟩, ⟨[(254, 7), (260, 13)], [], none⟩, ⟨[(247, 0)], [8], none⟩] ⟨[(262, 15), (261, 14)], [], none⟩ _ rfl (by kernel_rfl) (by kernel_rfl) (by rw [hlen]; kernel_rfl) (by kernel_rfl) (by kernel_rfl) (by kernel_rfl) (by kernel_rfl) (by kernel_rfl) (by kernel_rfl) ?hphi ?mono ?h0 ?steps ?st ?fin
  case hphi =>
    rintro vs W W' ⟨hS, hx⟩ hb
    refine ⟨hS.later hb, ?_⟩
    match vs, hx with
    | [], hx => trivial
    | [v], hx => exact hx.later hb
    | [_, v], hx => exact hx.later hb
    | [_, _, v], hx => exact hx.later hb
  case h0 =>
    exact ⟨h, trivial⟩
  case steps =>
    refine ⟨fun ρ W vs ⟨hcst, hglb, hfun⟩ hX hp ho => ?_, ?_⟩ -- 0: slot 247 := Op.move t14
    · obtain ⟨o14, -⟩ := ho
      change ρ (.tmp 14) = l0.toArray.getD 14 undef at o14
      rw [e14] at o14
      refine turn_plain (ok_is ?_ rfl); simp only [execOp, o14]; go_simp; try exact rfl
    refine ⟨fun ρ W vs ⟨hcst, hglb, hfun⟩ hvl hX hp ho => ?_, ?_⟩ -- 1: slot 248 := Op.buildSlice 31 0 #[]
    · obtain rfl := List.eq_nil_of_length_eq_zero hvl
      obtain ⟨hS, -⟩ := hX
      refine actK_val (exec_build0 rfl) ?_
      exact ⟨hS.later ((Below.refl _ _).alloc (Nat.le_refl _) _), NL.lit hS #[] 0 rfl (Nat.zero_le _)⟩
    refine ⟨fun ρ W vs ⟨hcst, hglb, hfun⟩ hX hp ho => ?_, ?_⟩ -- 2: slot 249 := Op.move t14
    · obtain ⟨o14, -⟩ := ho
      change ρ (.tmp 14) = l0.toArray.getD 14 undef at o14
      rw [e14] at o14
      refine turn_plain (ok_is ?_ rfl); simp only [execOp, o14]; go_simp; try exact rfl
    refine ⟨fun ρ W vs ⟨hcst, hglb, hfun⟩ hX hp ho => ?_, ?_⟩ -- 3: slot 250 := Op.indexAddr 65 t8 t249
    · obtain ⟨p249, -⟩ := hp
      change ρ (.tmp 249) = _ at p249
      obtain ⟨o8, -⟩ := ho
      change ρ (.tmp 8) = l0.toArray.getD 8 undef at o8
      rw [e8] at o8
      refine turn_plain (ok_is ?_ rfl); simp only [execOp, p249, o8]; go_simp; try exact rfl
    refine ⟨fun ρ W vs ⟨hcst, hglb, hfun⟩ hX hp ho => ?_, ?_⟩ -- 4: slot 251 := Op.load 31 t250
    · obtain ⟨p250, -⟩ := hp
      change ρ (.tmp 250) = _ at p250
      obtain ⟨hS, -⟩ := hX
      have q : W.cell? ⟨g8, 1, none⟩ = some (.slice (some ⟨g, 0, none⟩) (V 1).n (V 1).c) := by rw [← eA]; exact hS.h8.cell 1
      refine turn_plain (ok_is ?_ rfl); simp only [execOp, p250]; go_simp; try exact rfl
    refine ⟨fun ρ W vs ⟨hcst, hglb, hfun⟩ hX hp ho => ?_, ?_⟩ -- 5: slot 252 := Op.move t23
    · obtain ⟨o23, -⟩ := ho
      change ρ (.tmp 23) = l0.toArray.getD 23 undef at o23
      rw [e23] at o23
      refine turn_plain (ok_is ?_ rfl); simp only [execOp, o23]; go_simp; try exact rfl
    refine ⟨fun ρ W vs ⟨hcst, hglb, hfun⟩ hX hp ho => ?_, ?_⟩ -- 6: slot 253 := Op.slice 31 t251 none (some t252) none
    · obtain ⟨p251, p252, -⟩ := hp
      change ρ (.tmp 251) = _ at p251
      change ρ (.tmp 252) = _ at p252
      refine turn_plain (ok_is ?_ rfl); simp only [execOp, p251, p252]; go_simp; try exact rfl
    refine ⟨fun ρ W vs ⟨hcst, hglb, hfun⟩ hvl hX hp ho => ?_, ?_⟩ -- 7: slot 254 := Op.call { builtin append, args := #[t248, t253], argTypes := #[31, 31] }
    · obtain ⟨p248, p253, -⟩ := hp
      change 0 < vs.length ∧ ρ (.tmp 248) = vs.getD 0 undef at p248
      change ρ (.tmp 253) = _ at p253
      obtain ⟨v, rfl⟩ := one_of hvl
      obtain ⟨hS, A, c, rfl, ho2, ha2, hne2⟩ := hX
      obtain ⟨-, p248⟩ := p248
      change ρ (.tmp 248) = .slice A 0 c at p248
      have o := hS.o 1 (by decide)
      have hat : At W (some ⟨g, 0, none⟩) ((V 1).vs.take a) := by rw [← eA]; exact o.own.at_.take
      have hl : ((V 1).vs.take a).length = a * 1 := by have := o.own.len; simp; omega
      obtain ⟨A', c', w', hr, h2, h3, h4⟩ := run_app W elt_sl 31 ho2 (c2 := (V 1).c) hl hat (o.dgs.take a).cell (by unfold maxLen; omega) (by omega) hS.ways.bel.size
      refine actK_val (exec_app _ _ _ rfl p248 p253 hr) ?_
      exact NL.app hS ho2 ha2 hne2 h2 h3 h4
    refine ⟨fun ρ W vs ⟨hcst, hglb, hfun⟩ hX hp ho => ?_, ?_⟩ -- 8: slot 255 := Op.move t14
    · obtain ⟨o14, -⟩ := ho
      change ρ (.tmp 14) = l0.toArray.getD 14 undef at o14
      rw [e14] at o14
      refine turn_plain (ok_is ?_ rfl); simp only [execOp, o14]; go_simp; try exact rfl
    refine ⟨fun ρ W vs ⟨hcst, hglb, hfun⟩ hX hp ho => ?_, ?_⟩ -- 9: slot 256 := Op.indexAddr 65 t8 t255
    · obtain ⟨p255, -⟩ := hp
      change ρ (.tmp 255) = _ at p255
      obtain ⟨o8, -⟩ := ho
      change ρ (.tmp 8) = l0.toArray.getD 8 undef at o8
      rw [e8] at o8
      refine turn_plain (ok_is ?_ rfl); simp only [execOp, p255, o8]; go_simp; try exact rfl
    refine ⟨fun ρ W vs ⟨hcst, hglb, hfun⟩ hX hp ho => ?_, ?_⟩ -- 10: slot 257 := Op.load 31 t256
    · obtain ⟨p256, -⟩ := hp
      change ρ (.tmp 256) = _ at p256
      obtain ⟨hS, -⟩ := hX
      have q : W.cell? ⟨g8, 1, none⟩ = some (.slice (some ⟨g, 0, none⟩) (V 1).n (V 1).c) := by rw [← eA]; exact hS.h8.cell 1
      refine turn_plain (ok_is ?_ rfl); simp only [execOp, p256]; go_simp; try exact rfl
    refine ⟨fun ρ W vs ⟨hcst, hglb, hfun⟩ hX hp ho => ?_, ?_⟩ -- 11: slot 258 := Op.move t23
    · obtain ⟨o23, -⟩ := ho
      change ρ (.tmp 23) = l0.toArray.getD 23 undef at o23
      rw [e23] at o23
      refine turn_plain (ok_is ?_ rfl); simp only [execOp, o23]; go_simp; try exact rfl
    refine ⟨fun ρ W vs ⟨hcst, hglb, hfun⟩ hX hp ho => ?_, ?_⟩ -- 12: slot 259 := Op.binOp BinOp.add 3 t258 (const (1:i64)) 3
    · obtain ⟨p258, -⟩ := hp
      change ρ (.tmp 258) = _ at p258
      refine turn_plain (ok_is ?_ rfl); simp only [execOp, hcst, p258]; go_simp; try simp only [i8]; try rfl
    refine ⟨fun ρ W vs ⟨hcst, hglb, hfun⟩ hX hp ho => ?_, ?_⟩ -- 13: slot 260 := Op.slice 31 t257 (some t259) none none
    · obtain ⟨p257, p259, -⟩ := hp
      change ρ (.tmp 257) = _ at p257
      change ρ (.tmp 259) = _ at p259
      refine turn_plain (ok_is ?_ rfl); simp only [execOp, p257, p259]; go_simp; try exact rfl
    refine ⟨fun ρ W vs ⟨hcst, hglb, hfun⟩ hvl hX hp ho => ?_, ?_⟩ -- 14: slot 261 := Op.call { builtin append, args := #[t254, t260], argTypes := #[31, 31] }
    · obtain ⟨p254, p260, -⟩ := hp
      change 1 < vs.length ∧ ρ (.tmp 254) = vs.getD 1 undef at p254
      change ρ (.tmp 260) = _ at p260
      obtain ⟨u, v, rfl⟩ := two_of hvl
      obtain ⟨hS, A, c, rfl, ho2, ha2, hne2⟩ := hX
      obtain ⟨-, p254⟩ := p254
      change ρ (.tmp 254) = .slice A (0 + a) c at p254
      have o := hS.o 1 (by decide)
      have hat : At W (if (V 1).c = a + 1 then some ⟨g, 0, none⟩ else some ⟨g, a + 1, none⟩) ((V 1).vs.drop (a + 1)) := by
        split
        · have := o.own.cap; have := o.own.len; rw [List.drop_eq_nil_of_le (by omega)]; exact At.nil _ _
        · have h0 := o.own.at_; rw [eA] at h0; have h1 := h0.cut (m := a + 1); rw [Nat.zero_add] at h1; exact h1
      have hl : ((V 1).vs.drop (a + 1)).length = ((V 1).n - (a + 1)) * 1 := by have := o.own.len; simp; omega
      obtain ⟨A', c', w', hr, h2, h3, h4⟩ := run_app W elt_sl 31 ho2 (c2 := (V 1).c - (a + 1)) hl hat (o.dgs.drop (a + 1)).cell (by unfold maxLen; omega) (by omega) hS.ways.bel.size
      refine actK_val (exec_app _ _ _ rfl p254 p260 hr) ?_
      exact NL.app hS ho2 ha2 hne2 h2 h3 h4
    refine ⟨fun ρ W vs ⟨hcst, hglb, hfun⟩ hX hp ho => ?_, ?_⟩ -- 15: slot 262 := Op.indexAddr 65 t8 t247
    · obtain ⟨p247, -⟩ := hp
      change ρ (.tmp 247) = _ at p247
      obtain ⟨o8, -⟩ := ho
      change ρ (.tmp 8) = l0.toArray.getD 8 undef at o8
      rw [e8] at o8
      refine turn_plain (ok_is ?_ rfl); simp only [execOp, p247, o8]; go_simp; try exact rfl
    exact trivial
  case mono => exact ⟨mono_isK _, mono_anyK, mono_isK _, mono_isK _, mono_isK _, mono_isK _, mono_isK _, mono_anyK, mono_isK _, mono_isK _, mono_isK _, mono_isK _, mono_isK _, mono_isK _, mono_anyK, mono_isK _, trivial⟩
  case st =>
    intro ρ W vs ⟨hcst, hglb, hfun⟩ hvl hX hp ho
    change ∃ W2, (execOp ρ { dst := none, op := Op.store 31 (.tmp 262) (.tmp 261), type := _, pos := _, after := _, guard := _ }).run _ W = _ ∧ _
    obtain ⟨p262, p261, -⟩ := hp
    change ρ (.tmp 262) = _ at p262
    change 2 < vs.length ∧ ρ (.tmp 261) = vs.getD 2 undef at p261
    obtain ⟨u1, u2, v, rfl⟩ := three_of hvl
    obtain ⟨hS, hN⟩ := hX
    obtain ⟨-, p261⟩ := p261
    change ρ (.tmp 261) = v at p261
    have o := hS.o 1 (by decide)
    obtain ⟨r, rfl, hr1, hr2, hS2⟩ := NL.way hS 1 (by decide) hN (L := [] ++ (V 1).L.take a ++ (V 1).L.drop (a + 1)) (((DGs.nil _ _ _).app (o.dgs.take a)).app (o.dgs.drop (a + 1)))
    have q : W.cell? ⟨g8, 1, none⟩ = some (V 1).v := hS.h8.cell 1
    have z := hS.h8.frozen 1
    refine ⟨W.setCell ⟨g8, 1, none⟩ r.v, ?_, r, by rw [hr1]; rfl, ?_, (o.off (grown_setW _ _ _) hS.h8 (by decide) (by decide)).dgs⟩
    · simp only [execOp, p262, p261]; unfold WyR.v at *; go_simp; try exact rfl
    · have := hS2.put8 1 (by decide) r.v
      rw [upd_v] at this
      exact this
  case fin =>
    intro f W vs _ h
    obtain ⟨r, h1, h2, h3⟩ := h
    exact hf f W r h1 h2 h3
end Go.Proofs.YtodimanghmepoaaDoor
namespace Go.Proofs.YtodimanghmepoaaDoor
open Go.RowKit
set_option maxRecDepth 100000 in
set_option maxHeartbeats 4000000 in
theorem reg52_0 {Q : Exit → Act → World → Prop} {l0 : List Value} {d0} {w0 w : World} {F : Nat → Nat → Prop} {p : Nat → Nat} {s : Nat → LSt} {g7 g8 g9 g10 g13 : Nat} {V : Nat → WyR} {P C : Nat → List Nat} {K T X : Nat} (hlen : l0.length = 312) (e9 : l0.toArray.getD 9 undef = .pointer (some ⟨g9, 0, none⟩)) (e10 : l0.toArray.getD 10 undef = .pointer (some ⟨g10, 0, none⟩)) (e24 : l0.toArray.getD 24 undef = .int .i64 0) (h9 : Holds w g9 66 #[.string (strN (P 0)), .string (strN (P 1))]) (h10 : Holds w g10 66 #[.string (strN (C 0)), .string (strN (C 1))]) (hp : ∃ rest, P 0 = C 0 ++ rest) (hc : (P 0).length ≤ 1000000)
    (hf : ∀ (f : Nat → Value) (W : World), Below w.heap.size w W → f 295 = .bool false → Q .normal ⟨(over f (inR 273 295 273) 0 l0).toArray, d0⟩ W) :
    (Code.region 52 ops_52.1 true).wp Tryd.prog Q ⟨l0.toArray, d0⟩ w := by
  obtain ⟨rest, hP⟩ := hp
  have hcut : (strN (P 0)).extract 0 (C 0).length = strN (C 0) := by rw [hP]; exact strN_cut
  have hle : (C 0).length ≤ (P 0).length := by rw [hP]; simp
  have hdec : decide ((((P 0).length : Nat) : Int) < ((C 0).length : Int)) = false := decide_eq_false (by omega)
  have i1 : (0 : Int) ≤ ((C 0).length : Int) := by omega
  have i2 : ((C 0).length : Int) ≤ ((strN (P 0)).size : Int) := by rw [strN_size]; omega
  clear hP
  refine wp_region_chainO (inR 273 295 273) 23 [] (fun _ W => Holds W g9 66 #[.string (strN (P 0)), .string (strN (P 1))] ∧ Holds W g10 66 #[.string (strN (C 0)), .string (strN (C 1))] ∧ Below w.heap.size w W) (isK (.int .i64 0) :: isK (.pointer (some ⟨g10, 0, none⟩)) :: isK (.string (strN (C 0))) :: isK (.int .i64 ((C 0).length : Int)) :: isK (.int .i64 0) :: isK (.pointer (some ⟨g9, 0, none⟩)) :: isK (.string (strN (P 0))) :: isK (.int .i64 ((P 0).length : Int)) :: isK (.bool false) :: isK (.bool false) :: isK (.int .i64 0) :: isK (.pointer (some ⟨g9, 0, none⟩)) :: isK (.string (strN (P 0))) :: isK (.int .i64 0) :: isK (.pointer (some ⟨g10, 0, none⟩)) :: isK (.string (strN (C 0))) :: isK (.int .i64 ((C 0).length : Int)) :: isK (.string (strN (C 0))) :: isK (.int .i64 0) :: isK (.pointer (some ⟨g10, 0, none⟩)) :: isK (.string (strN (C 0))) :: isK (.bool false) :: isK (.bool false) :: [])
    [⟨[], [24], none⟩, ⟨[(273, 0)], [10], none⟩, ⟨[(274, 1)], [], none⟩, ⟨[(275, 2)], [], none⟩, ⟨[], [24], none⟩, ⟨[(277, 4)], [9], none⟩, ⟨[(278, 5)], [], none⟩, ⟨[(279, 6)], [], none⟩, ⟨[(276, 3), (280, 7)], [], none⟩, ⟨[(281, 8)], [], none⟩, ⟨[(282, 9)], [24], some (282, false)⟩, ⟨[(283, 10), (282, 9)], [9], some (282, false)⟩, ⟨[(284, 11), (282, 9)], [], some (282, false)⟩, ⟨[(282, 9)], [24], some (282, false)⟩, ⟨[(286, 13), (282, 9)], [10], some (282, false)⟩, ⟨[(287, 14), (282, 9)], [], some (282, false)⟩, ⟨[(288, 15), (282, 9)], [], some (282, false)⟩, ⟨[(285, 12), (289, 16), (282, 9)], [], some (282, false)⟩, ⟨[(282, 9)], [24], some (282, false)⟩, ⟨[(291, 18), (282, 9)], [10], some (282, false)⟩, ⟨[(292, 19), (282, 9)], [], some (282, false)⟩, ⟨[(290, 17), (293, 20), (282, 9)], [], some (282, false)⟩, ⟨[(282, 9), (294, 21)], [], none⟩] (by kernel_rfl) (by kernel_rfl) (by rw [hlen]; kernel_rfl) (by kernel_rfl) (by kernel_rfl) (by kernel_rfl) (by kernel_rfl) ?hphi ?mono ?h0 ?steps ?fin
  case hphi =>
    rintro vs W W' ⟨h9, h10, hB⟩ hb
    exact ⟨h9.later hb (Nat.le_refl _), h10.later hb (Nat.le_refl _), hB.trans (hb.mono hB.size)⟩
  case h0 =>
    exact ⟨h9, h10, Below.refl _ _⟩
  case steps =>
    refine ⟨fun ρ W vs ⟨hcst, hglb, hfun⟩ hX hp ho => ?_, ?_⟩ -- 0: slot 273 := Op.move t24
    · obtain ⟨o24, -⟩ := ho
      change ρ (.tmp 24) = l0.toArray.getD 24 undef at o24
      rw [e24] at o24
      refine turn_plain (ok_is ?_ rfl); simp only [execOp, o24]; go_simp; try exact rfl
    refine ⟨fun ρ W vs ⟨hcst, hglb, hfun⟩ hX hp ho => ?_, ?_⟩ -- 1: slot 274 := Op.indexAddr 66 t10 t273
    · obtain ⟨p273, -⟩ := hp
      change ρ (.tmp 273) = _ at p273
      obtain ⟨o10, -⟩ := ho
      change ρ (.tmp 10) = l0.toArray.getD 10 undef at o10
      rw [e10] at o10
      refine turn_plain (ok_is ?_ rfl); simp only [execOp, p273, o10]; go_simp; try exact rfl
    refine ⟨fun ρ W vs ⟨hcst, hglb, hfun⟩ hX hp ho => ?_, ?_⟩ -- 2: slot 275 := Op.load 9 t274
    · obtain ⟨p274, -⟩ := hp
      change ρ (.tmp 274) = _ at p274
      obtain ⟨h9, h10, -⟩ := hX
      have q : W.cell? ⟨g10, 0, none⟩ = some (.string (strN (C 0))) := h10.cell 0
      refine turn_plain (ok_is ?_ rfl); simp only [execOp, p274]; go_simp; try exact rfl
    refine ⟨fun ρ W vs ⟨hcst, hglb, hfun⟩ hX hp ho => ?_, ?_⟩ -- 3: slot 276 := Op.call { builtin len, args := #[t275], argTypes := #[9] }
    · obtain ⟨p275, -⟩ := hp
      change ρ (.tmp 275) = _ at p275
      refine turn_plain (ok_is ?_ rfl); simp only [execOp, p275]; go_simp; try simp only [strN_size]; try rfl
    refine ⟨fun ρ W vs ⟨hcst, hglb, hfun⟩ hX hp ho => ?_, ?_⟩ -- 4: slot 277 := Op.move t24
    · obtain ⟨o24, -⟩ := ho
      change ρ (.tmp 24) = l0.toArray.getD 24 undef at o24
      rw [e24] at o24
      refine turn_plain (ok_is ?_ rfl); simp only [execOp, o24]; go_simp; try exact rfl
    refine ⟨fun ρ W vs ⟨hcst, hglb, hfun⟩ hX hp ho => ?_, ?_⟩ -- 5: slot 278 := Op.indexAddr 66 t9 t277
    · obtain ⟨p277, -⟩ := hp
      change ρ (.tmp 277) = _ at p277
      obtain ⟨o9, -⟩ := ho
      change ρ (.tmp 9) = l0.toArray.getD 9 undef at o9
      rw [e9] at o9
      refine turn_plain (ok_is ?_ rfl); simp only [execOp, p277, o9]; go_simp; try exact rfl
    refine ⟨fun ρ W vs ⟨hcst, hglb, hfun⟩ hX hp ho => ?_, ?_⟩ -- 6: slot 279 := Op.load 9 t278
    · obtain ⟨p278, -⟩ := hp
      change ρ (.tmp 278) = _ at p278
      obtain ⟨h9, h10, -⟩ := hX
      have q : W.cell? ⟨g9, 0, none⟩ = some (.string (strN (P 0))) := h9.cell 0
      refine turn_plain (ok_is ?_ rfl); simp only [execOp, p278]; go_simp; try exact rfl
    refine ⟨fun ρ W vs ⟨hcst, hglb, hfun⟩ hX hp ho => ?_, ?_⟩ -- 7: slot 280 := Op.call { builtin len, args := #[t279], argTypes := #[9] }
    · obtain ⟨p279, -⟩ := hp
      change ρ (.tmp 279) = _ at p279
      refine turn_plain (ok_is ?_ rfl); simp only [execOp, p279]; go_simp; try simp only [strN_size]; try rfl
    refine ⟨fun ρ W vs ⟨hcst, hglb, hfun⟩ hX hp ho => ?_, ?_⟩ -- 8: slot 281 := Op.binOp BinOp.gtr 3 t276 t280 3
    · obtain ⟨p276, p280, -⟩ := hp
      change ρ (.tmp 276) = _ at p276
      change ρ (.tmp 280) = _ at p280
      refine turn_plain (ok_is ?_ rfl); simp only [execOp, p276, p280]; go_simp; try exact hdec
    refine ⟨fun ρ W vs ⟨hcst, hglb, hfun⟩ hX hp ho => ?_, ?_⟩ -- 9: slot 282 := Op.move t281
    · obtain ⟨p281, -⟩ := hp
      change ρ (.tmp 281) = _ at p281
      refine turn_plain (ok_is ?_ rfl); simp only [execOp, p281]; go_simp; try exact rfl
    refine ⟨fun ρ W vs ⟨hcst, hglb, hfun⟩ hX hp ho => ?_, ?_⟩ -- 10: slot 283 := Op.move t24   [guarded: some (9, false)]
    · obtain ⟨p282, -⟩ := hp
      change ρ (.tmp 282) = _ at p282
      obtain ⟨o24, -⟩ := ho
      change ρ (.tmp 24) = l0.toArray.getD 24 undef at o24
      rw [e24] at o24
      refine turn_yes p282 (ok_is ?_ rfl); simp only [execOp, p282, o24]; go_simp; try exact rfl
    refine ⟨fun ρ W vs ⟨hcst, hglb, hfun⟩ hX hp ho => ?_, ?_⟩ -- 11: slot 284 := Op.indexAddr 66 t9 t283   [guarded: some (9, false)]
    · obtain ⟨p283, p282, -⟩ := hp
      change ρ (.tmp 283) = _ at p283
      change ρ (.tmp 282) = _ at p282
      obtain ⟨o9, -⟩ := ho
      change ρ (.tmp 9) = l0.toArray.getD 9 undef at o9
      rw [e9] at o9
      refine turn_yes p282 (ok_is ?_ rfl); simp only [execOp, p283, p282, o9]; go_simp; try exact rfl
    refine ⟨fun ρ W vs ⟨hcst, hglb, hfun⟩ hX hp ho => ?_, ?_⟩ -- 12: slot 285 := Op.load 9 t284   [guarded: some (9, false)]
    · obtain ⟨p284, p282, -⟩ := hp
      change ρ (.tmp 284) = _ at p284
      change ρ (.tmp 282) = _ at p282
      obtain ⟨h9, h10, -⟩ := hX
      have q : W.cell? ⟨g9, 0, none⟩ = some (.string (strN (P 0))) := h9.cell 0
      refine turn_yes p282 (ok_is ?_ rfl); simp only [execOp, p284, p282]; go_simp; try exact rfl
    refine ⟨fun ρ W vs ⟨hcst, hglb, hfun⟩ hX hp ho => ?_, ?_⟩ -- 13: slot 286 := Op.move t24   [guarded: some (9, false)]
    · obtain ⟨p282, -⟩ := hp
      change ρ (.tmp 282) = _ at p282
      obtain ⟨o24, -⟩ := ho
      change ρ (.tmp 24) = l0.toArray.getD 24 undef at o24
      rw [e24] at o24
      refine turn_yes p282 (ok_is ?_ rfl); simp only [execOp, p282, o24]; go_simp; try exact rfl
    refine ⟨fun ρ W vs ⟨hcst, hglb, hfun⟩ hX hp ho => ?_, ?_⟩ -- 14: slot 287 := Op.indexAddr 66 t10 t286   [guarded: some (9, false)]
    · obtain ⟨p286, p282, -⟩ := hp
      change ρ (.tmp 286) = _ at p286
      change ρ (.tmp 282) = _ at p282
      obtain ⟨o10, -⟩ := ho
      change ρ (.tmp 10) = l0.toArray.getD 10 undef at o10
      rw [e10] at o10
      refine turn_yes p282 (ok_is ?_ rfl); simp only [execOp, p286, p282, o10]; go_simp; try exact rfl
    refine ⟨fun ρ W vs ⟨hcst, hglb, hfun⟩ hX hp ho => ?_, ?_⟩ -- 15: slot 288 := Op.load 9 t287   [guarded: some (9, false)]
    · obtain ⟨p287, p282, -⟩ := hp
      change ρ (.tmp 287) = _ at p287
      change ρ (.tmp 282) = _ at p282
      obtain ⟨h9, h10, -⟩ := hX
      have q : W.cell? ⟨g10, 0, none⟩ = some (.string (strN (C 0))) := h10.cell 0
      refine turn_yes p282 (ok_is ?_ rfl); simp only [execOp, p287, p282]; go_simp; try exact rfl
    refine ⟨fun ρ W vs ⟨hcst, hglb, hfun⟩ hX hp ho => ?_, ?_⟩ -- 16: slot 289 := Op.call { builtin len, args := #[t288], argTypes := #[9] }   [guarded: some (9, false)]
    · obtain ⟨p288, p282, -⟩ := hp
      change ρ (.tmp 288) = _ at p288
      change ρ (.tmp 282) = _ at p282
      refine turn_yes p282 (ok_is ?_ rfl); simp only [execOp, p288]; go_simp; try simp only [strN_size]; try rfl
    refine ⟨fun ρ W vs ⟨hcst, hglb, hfun⟩ hX hp ho => ?_, ?_⟩ -- 17: slot 290 := Op.slice 9 t285 none (some t289) none   [guarded: some (9, false)]
    · obtain ⟨p285, p289, p282, -⟩ := hp
      change ρ (.tmp 285) = _ at p285
      change ρ (.tmp 289) = _ at p289
      change ρ (.tmp 282) = _ at p282
      refine turn_yes p282 (ok_is ?_ rfl); simp only [execOp, p285, p289]; go_simp; try simp only [hcut]; try exact rfl
    refine ⟨fun ρ W vs ⟨hcst, hglb, hfun⟩ hX hp ho => ?_, ?_⟩ -- 18: slot 291 := Op.move t24   [guarded: some (9, false)]
    · obtain ⟨p282, -⟩ := hp
      change ρ (.tmp 282) = _ at p282
      obtain ⟨o24, -⟩ := ho
      change ρ (.tmp 24) = l0.toArray.getD 24 undef at o24
      rw [e24] at o24
      refine turn_yes p282 (ok_is ?_ rfl); simp only [execOp, p282, o24]; go_simp; try exact rfl
    refine ⟨fun ρ W vs ⟨hcst, hglb, hfun⟩ hX hp ho => ?_, ?_⟩ -- 19: slot 292 := Op.indexAddr 66 t10 t291   [guarded: some (9, false)]
    · obtain ⟨p291, p282, -⟩ := hp
      change ρ (.tmp 291) = _ at p291
      change ρ (.tmp 282) = _ at p282
      obtain ⟨o10, -⟩ := ho
      change ρ (.tmp 10) = l0.toArray.getD 10 undef at o10
      rw [e10] at o10
      refine turn_yes p282 (ok_is ?_ rfl); simp only [execOp, p291, p282, o10]; go_simp; try exact rfl
    refine ⟨fun ρ W vs ⟨hcst, hglb, hfun⟩ hX hp ho => ?_, ?_⟩ -- 20: slot 293 := Op.load 9 t292   [guarded: some (9, false)]
    · obtain ⟨p292, p282, -⟩ := hp
      change ρ (.tmp 292) = _ at p292
      change ρ (.tmp 282) = _ at p282
      obtain ⟨h9, h10, -⟩ := hX
      have q : W.cell? ⟨g10, 0, none⟩ = some (.string (strN (C 0))) := h10.cell 0
      refine turn_yes p282 (ok_is ?_ rfl); simp only [execOp, p292, p282]; go_simp; try exact rfl
    refine ⟨fun ρ W vs ⟨hcst, hglb, hfun⟩ hX hp ho => ?_, ?_⟩ -- 21: slot 294 := Op.binOp BinOp.neq 9 t290 t293 9   [guarded: some (9, false)]
    · obtain ⟨p290, p293, p282, -⟩ := hp
      change ρ (.tmp 290) = _ at p290
      change ρ (.tmp 293) = _ at p293
      change ρ (.tmp 282) = _ at p282
      refine turn_yes p282 (ok_is ?_ rfl); simp only [execOp, p290, p293, p282]; go_simp; try exact rfl
    refine ⟨fun ρ W vs ⟨hcst, hglb, hfun⟩ hX hp ho => ?_, ?_⟩ -- 22: slot 295 := Op.pick t282 (const (Value.bool true)) t294
    · obtain ⟨p282, p294, -⟩ := hp
      change ρ (.tmp 282) = _ at p282
      change ρ (.tmp 294) = _ at p294
      refine turn_plain (ok_is ?_ rfl); simp only [execOp, hcst, p282, p294]; go_simp; try exact rfl
    exact trivial
  case mono => exact ⟨mono_isK _, mono_isK _, mono_isK _, mono_isK _, mono_isK _, mono_isK _, mono_isK _, mono_isK _, mono_isK _, mono_isK _, mono_isK _, mono_isK _, mono_isK _, mono_isK _, mono_isK _, mono_isK _, mono_isK _, mono_isK _, mono_isK _, mono_isK _, mono_isK _, mono_isK _, mono_isK _, trivial⟩
  case fin =>
    intro f W vs _ h hR
    exact hf f W h.2.2 (hR 22 295 (by omega) rfl)
set_option maxRecDepth 100000 in
set_option maxHeartbeats 4000000 in
theorem reg52_1 {Q : Exit → Act → World → Prop} {l0 : List Value} {d0} {w0 w : World} {F : Nat → Nat → Prop} {p : Nat → Nat} {s : Nat → LSt} {g7 g8 g9 g10 g13 : Nat} {V : Nat → WyR} {P C : Nat → List Nat} {K T X : Nat} (hlen : l0.length = 312) (e9 : l0.toArray.getD 9 undef = .pointer (some ⟨g9, 0, none⟩)) (e10 : l0.toArray.getD 10 undef = .pointer (some ⟨g10, 0, none⟩)) (e24 : l0.toArray.getD 24 undef = .int .i64 1) (h9 : Holds w g9 66 #[.string (strN (P 0)), .string (strN (P 1))]) (h10 : Holds w g10 66 #[.string (strN (C 0)), .string (strN (C 1))]) (hp : ∃ rest, P 1 = C 1 ++ rest) (hc : (P 1).length ≤ 1000000)
    (hf : ∀ (f : Nat → Value) (W : World), Below w.heap.size w W → f 295 = .bool false → Q .normal ⟨(over f (inR 273 295 273) 0 l0).toArray, d0⟩ W) :
    (Code.region 52 ops_52.1 true).wp Tryd.prog Q ⟨l0.toArray, d0⟩ w := by
  obtain ⟨rest, hP⟩ := hp
  have hcut : (strN (P 1)).extract 0 (C 1).length = strN (C 1) := by rw [hP]; exact strN_cut
  have hle : (C 1).length ≤ (P 1).length := by rw [hP]; simp
  have hdec : decide ((((P 1).length : Nat) : Int) < ((C 1).length : Int)) = false := decide_eq_false (by omega)
  have i1 : (0 : Int) ≤ ((C 1).length : Int) := by omega
  have i2 : ((C 1).length : Int) ≤ ((strN (P 1)).size : Int) := by rw [strN_size]; omega
  clear hP
  refine wp_region_chainO (inR 273 295 273) 23 [] (fun _ W => Holds W g9 66 #[.string (strN (P 0)), .string (strN (P 1))] ∧ Holds W g10 66 #[.string (strN (C 0)), .string (strN (C 1))] ∧ Below w.heap.size w W) (isK (.int .i64 1) :: isK (.pointer (some ⟨g10, 1, none⟩)) :: isK (.string (strN (C 1))) :: isK (.int .i64 ((C 1).length : Int)) :: isK (.int .i64 1) :: isK (.pointer (some ⟨g9, 1, none⟩)) :: isK (.string (strN (P 1))) :: isK (.int .i64 ((P 1).length : Int)) :: isK (.bool false) :: isK (.bool false) :: isK (.int .i64 1) :: isK (.pointer (some ⟨g9, 1, none⟩)) :: isK (.string (strN (P 1))) :: isK (.int .i64 1) :: isK (.pointer (some ⟨g10, 1, none⟩)) :: isK (.string (strN (C 1))) :: isK (.int .i64 ((C 1).length : Int)) :: isK (.string (strN (C 1))) :: isK (.int .i64 1) :: isK (.pointer (some ⟨g10, 1, none⟩)) :: isK (.string (strN (C 1))) :: isK (.bool false) :: isK (.bool false) :: [])
    [⟨[], [24], none⟩, ⟨[(273, 0)], [10], none⟩, ⟨[(274, 1)], [], none⟩, ⟨[(275, 2)], [], none⟩, ⟨[], [24], none⟩, ⟨[(277, 4)], [9], none⟩, ⟨[(278, 5)], [], none⟩, ⟨[(279, 6)], [], none⟩, ⟨[(276, 3), (280, 7)], [], none⟩, ⟨[(281, 8)], [], none⟩, ⟨[(282, 9)], [24], some (282, false)⟩, ⟨[(283, 10), (282, 9)], [9], some (282, false)⟩, ⟨[(284, 11), (282, 9)], [], some (282, false)⟩, ⟨[(282, 9)], [24], some (282, false)⟩, ⟨[(286, 13), (282, 9)], [10], some (282, false)⟩, ⟨[(287, 14), (282, 9)], [], some (282, false)⟩, ⟨[(288, 15), (282, 9)], [], some (282, false)⟩, ⟨[(285, 12), (289, 16), (282, 9)], [], some (282, false)⟩, ⟨[(282, 9)], [24], some (282, false)⟩, ⟨[(291, 18), (282, 9)], [10], some (282, false)⟩, ⟨[(292, 19), (282, 9)], [], some (282, false)⟩, ⟨[(290, 17), (293, 20), (282, 9)], [], some (282, false)⟩, ⟨[(282, 9), (294, 21)], [], none⟩] (by kernel_rfl) (by kernel_rfl) (by rw [hlen]; kernel_rfl) (by kernel_rfl) (by kernel_rfl) (by kernel_rfl) (by kernel_rfl) ?hphi ?mono ?h0 ?steps ?fin
  case hphi =>
    rintro vs W W' ⟨h9, h10, hB⟩ hb
    exact ⟨h9.later hb (Nat.le_refl _), h10.later hb (Nat.le_refl _), hB.trans (hb.mono hB.size)⟩
  case h0 =>
    exact ⟨h9, h10, Below.refl _ _⟩
  case steps =>
    refine ⟨fun ρ W vs ⟨hcst, hglb, hfun⟩ hX hp ho => ?_, ?_⟩ -- 0: slot 273 := Op.move t24
    · obtain ⟨o24, -⟩ := ho
      change ρ (.tmp 24) = l0.toArray.getD 24 undef at o24
      rw [e24] at o24
      refine turn_plain (ok_is ?_ rfl); simp only [execOp, o24]; go_simp; try exact rfl
    refine ⟨fun ρ W vs ⟨hcst, hglb, hfun⟩ hX hp ho => ?_, ?_⟩ -- 1: slot 274 := Op.indexAddr 66 t10 t273
    · obtain ⟨p273, -⟩ := hp
      change ρ (.tmp 273) = _ at p273
      obtain ⟨o10, -⟩ := ho
      change ρ (.tmp 10) = l0.toArray.getD 10 undef at o10
      rw [e10] at o10
      refine turn_plain (ok_is ?_ rfl); simp only [execOp, p273, o10]; go_simp; try exact rfl
    refine ⟨fun ρ W vs ⟨hcst, hglb, hfun⟩ hX hp ho => ?_, ?_⟩ -- 2: slot 275 := Op.load 9 t274
    · obtain ⟨p274, -⟩ := hp
      change ρ (.tmp 274) = _ at p274
      obtain ⟨h9, h10, -⟩ := hX
      have q : W.cell? ⟨g10, 1, none⟩ = some (.string (strN (C 1))) := h10.cell 1
      refine turn_plain (ok_is ?_ rfl); simp only [execOp, p274]; go_simp; try exact rfl
    refine ⟨fun ρ W vs ⟨hcst, hglb, hfun⟩ hX hp ho => ?_, ?_⟩ -- 3: slot 276 := Op.call { builtin len, args := #[t275], argTypes := #[9] }
    · obtain ⟨p275, -⟩ := hp
      change ρ (.tmp 275) = _ at p275
      refine turn_plain (ok_is ?_ rfl); simp only [execOp, p275]; go_simp; try simp only [strN_size]; try rfl
    refine ⟨fun ρ W vs ⟨hcst, hglb, hfun⟩ hX hp ho => ?_, ?_⟩ -- 4: slot 277 := Op.move t24
    · obtain ⟨o24, -⟩ := ho
      change ρ (.tmp 24) = l0.toArray.getD 24 undef at o24
      rw [e24] at o24
      refine turn_plain (ok_is ?_ rfl); simp only [execOp, o24]; go_simp; try exact rfl
    refine ⟨fun ρ W vs ⟨hcst, hglb, hfun⟩ hX hp ho => ?_, ?_⟩ -- 5: slot 278 := Op.indexAddr 66 t9 t277
    · obtain ⟨p277, -⟩ := hp
      change ρ (.tmp 277) = _ at p277
      obtain ⟨o9, -⟩ := ho
      change ρ (.tmp 9) = l0.toArray.getD 9 undef at o9
      rw [e9] at o9
      refine turn_plain (ok_is ?_ rfl); simp only [execOp, p277, o9]; go_simp; try exact rfl
    refine ⟨fun ρ W vs ⟨hcst, hglb, hfun⟩ hX hp ho => ?_, ?_⟩ -- 6: slot 279 := Op.load 9 t278
    · obtain ⟨p278, -⟩ := hp
      change ρ (.tmp 278) = _ at p278
      obtain ⟨h9, h10, -⟩ := hX
      have q : W.cell? ⟨g9, 1, none⟩ = some (.string (strN (P 1))) := h9.cell 1
      refine turn_plain (ok_is ?_ rfl); simp only [execOp, p278]; go_simp; try exact rfl
    refine ⟨fun ρ W vs ⟨hcst, hglb, hfun⟩ hX hp ho => ?_, ?_⟩ -- 7: slot 280 := Op.call { builtin len, args := #[t279], argTypes := #[9] }
    · obtain ⟨p279, -⟩ := hp
      change ρ (.tmp 279) = _ at p279
      refine turn_plain (ok_is ?_ rfl); simp only [execOp, p279]; go_simp; try simp only [strN_size]; try rfl
    refine ⟨fun ρ W vs ⟨hcst, hglb, hfun⟩ hX hp ho => ?_, ?_⟩ -- 8: slot 281 := Op.binOp BinOp.gtr 3 t276 t280 3
    · obtain ⟨p276, p280, -⟩ := hp
      change ρ (.tmp 276) = _ at p276
      change ρ (.tmp 280) = _ at p280
      refine turn_plain (ok_is ?_ rfl); simp only [execOp, p276, p280]; go_simp; try exact hdec
    refine ⟨fun ρ W vs ⟨hcst, hglb, hfun⟩ hX hp ho => ?_, ?_⟩ -- 9: slot 282 := Op.move t281
    · obtain ⟨p281, -⟩ := hp
      change ρ (.tmp 281) = _ at p281
      refine turn_plain (ok_is ?_ rfl); simp only [execOp, p281]; go_simp; try exact rfl
    refine ⟨fun ρ W vs ⟨hcst, hglb, hfun⟩ hX hp ho => ?_, ?_⟩ -- 10: slot 283 := Op.move t24   [guarded: some (9, false)]
    · obtain ⟨p282, -⟩ := hp
      change ρ (.tmp 282) = _ at p282
      obtain ⟨o24, -⟩ := ho
      change ρ (.tmp 24) = l0.toArray.getD 24 undef at o24
      rw [e24] at o24
      refine turn_yes p282 (ok_is ?_ rfl); simp only [execOp, p282, o24]; go_simp; try exact rfl
    refine ⟨fun ρ W vs ⟨hcst, hglb, hfun⟩ hX hp ho => ?_, ?_⟩ -- 11: slot 284 := Op.indexAddr 66 t9 t283   [guarded: some (9, false)]
    · obtain ⟨p283, p282, -⟩ := hp
      change ρ (.tmp 283) = _ at p283
      change ρ (.tmp 282) = _ at p282
      obtain ⟨o9, -⟩ := ho
      change ρ (.tmp 9) = l0.toArray.getD 9 undef at o9
      rw [e9] at o9
      refine turn_yes p282 (ok_is ?_ rfl); simp only [execOp, p283, p282, o9]; go_simp; try exact rfl
    refine ⟨fun ρ W vs ⟨hcst, hglb, hfun⟩ hX hp ho => ?_, ?_⟩ -- 12: slot 285 := Op.load 9 t284   [guarded: some (9, false)]
    · obtain ⟨p284, p282, -⟩ := hp
      change ρ (.tmp 284) = _ at p284
      change ρ (.tmp 282) = _ at p282
      obtain ⟨h9, h10, -⟩ := hX
      have q : W.cell? ⟨g9, 1, none⟩ = some (.string (strN (P 1))) := h9.cell 1
      refine turn_yes p282 (ok_is ?_ rfl); simp only [execOp, p284, p282]; go_simp; try exact rfl
    refine ⟨fun ρ W vs ⟨hcst, hglb, hfun⟩ hX hp ho => ?_, ?_⟩ -- 13: slot 286 := Op.move t24   [guarded: some (9, false)]
    · obtain ⟨p282, -⟩ := hp
      change ρ (.tmp 282) = _ at p282
      obtain ⟨o24, -⟩ := ho
      change ρ (.tmp 24) = l0.toArray.getD 24 undef at o24
      rw [e24] at o24
      refine turn_yes p282 (ok_is ?_ rfl); simp only [execOp, p282, o24]; go_simp; try exact rfl
    refine ⟨fun ρ W vs ⟨hcst, hglb, hfun⟩ hX hp ho => ?_, ?_⟩ -- 14: slot 287 := Op.indexAddr 66 t10 t286   [guarded: some (9, false)]
    · obtain ⟨p286, p282, -⟩ := hp
      change ρ (.tmp 286) = _ at p286
      change ρ (.tmp 282) = _ at p282
      obtain ⟨o10, -⟩ := ho
      change ρ (.tmp 10) = l0.toArray.getD 10 undef at o10
      rw [e10] at o10
      refine turn_yes p282 (ok_is ?_ rfl); simp only [execOp, p286, p282, o10]; go_simp; try exact rfl
    refine ⟨fun ρ W vs ⟨hcst, hglb, hfun⟩ hX hp ho => ?_, ?_⟩ -- 15: slot 288 := Op.load 9 t287   [guarded: some (9, false)]
    · obtain ⟨p287, p282, -⟩ := hp
      change ρ (.tmp 287) = _ at p287
      change ρ (.tmp 282) = _ at p282
      obtain ⟨h9, h10, -⟩ := hX
      have q : W.cell? ⟨g10, 1, none⟩ = some (.string (strN (C 1))) := h10.cell 1
      refine turn_yes p282 (ok_is ?_ rfl); simp only [execOp, p287, p282]; go_simp; try exact rfl
    refine ⟨fun ρ W vs ⟨hcst, hglb, hfun⟩ hX hp ho => ?_, ?_⟩ -- 16: slot 289 := Op.call { builtin len, args := #[t288], argTypes := #[9] }   [guarded: some (9, false)]
    · obtain ⟨p288, p282, -⟩ := hp
      change ρ (.tmp 288) = _ at p288
      change ρ (.tmp 282) = _ at p282
      refine turn_yes p282 (ok_is ?_ rfl); simp only [execOp, p288]; go_simp; try simp only [strN_size]; try rfl
    refine ⟨fun ρ W vs ⟨hcst, hglb, hfun⟩ hX hp ho => ?_, ?_⟩ -- 17: slot 290 := Op.slice 9 t285 none (some t289) none   [guarded: some (9, false)]
    · obtain ⟨p285, p289, p282, -⟩ := hp
      change ρ (.tmp 285) = _ at p285
      change ρ (.tmp 289) = _ at p289
      change ρ (.tmp 282) = _ at p282
      refine turn_yes p282 (ok_is ?_ rfl); simp only [execOp, p285, p289]; go_simp; try simp only [hcut]; try exact rfl
    refine ⟨fun ρ W vs ⟨hcst, hglb, hfun⟩ hX hp ho => ?_, ?_⟩ -- 18: slot 291 := Op.move t24   [guarded: some (9, false)]
    · obtain ⟨p282, -⟩ := hp
      change ρ (.tmp 282) = _ at p282
      obtain ⟨o24, -⟩ := ho
      change ρ (.tmp 24) = l0.toArray.getD 24 undef at o24
      rw [e24] at o24
      refine turn_yes p282 (ok_is ?_ rfl); simp only [execOp, p282, o24]; go_simp; try exact rfl
    refine ⟨fun ρ W vs ⟨hcst, hglb, hfun⟩ hX hp ho => ?_, ?_⟩ -- 19: slot 292 := Op.indexAddr 66 t10 t291   [guarded: some (9, false)]
    · obtain ⟨p291, p282, -⟩ := hp
      change ρ (.tmp 291) = _ at p291
      change ρ (.tmp 282) = _ at p282
      obtain ⟨o10, -⟩ := ho
      change ρ (.tmp 10) = l0.toArray.getD 10 undef at o10
      rw [e10] at o10
      refine turn_yes p282 (ok_is ?_ rfl); simp only [execOp, p291, p282, o10]; go_simp; try exact rfl
    refine ⟨fun ρ W vs ⟨hcst, hglb, hfun⟩ hX hp ho => ?_, ?_⟩ -- 20: slot 293 := Op.load 9 t292   [guarded: some (9, false)]
    · obtain ⟨p292, p282, -⟩ := hp
      change ρ (.tmp 292) = _ at p292
      change ρ (.tmp 282) = _ at p282
      obtain ⟨h9, h10, -⟩ := hX
      have q : W.cell? ⟨g10, 1, none⟩ = some (.string (strN (C 1))) := h10.cell 1
      refine turn_yes p282 (ok_is ?_ rfl); simp only [execOp, p292, p282]; go_simp; try exact rfl
    refine ⟨fun ρ W vs ⟨hcst, hglb, hfun⟩ hX hp ho => ?_, ?_⟩ -- 21: slot 294 := Op.binOp BinOp.neq 9 t290 t293 9   [guarded: some (9, false)]
    · obtain ⟨p290, p293, p282, -⟩ := hp
      change ρ (.tmp 290) = _ at p290
      change ρ (.tmp 293) = _ at p293
      change ρ (.tmp 282) = _ at p282
      refine turn_yes p282 (ok_is ?_ rfl); simp only [execOp, p290, p293, p282]; go_simp; try exact rfl
    refine ⟨fun ρ W vs ⟨hcst, hglb, hfun⟩ hX hp ho => ?_, ?_⟩ -- 22: slot 295 := Op.pick t282 (const (Value.bool true)) t294
    · obtain ⟨p282, p294, -⟩ := hp
      change ρ (.tmp 282) = _ at p282
      change ρ (.tmp 294) = _ at p294
      refine turn_plain (ok_is ?_ rfl); simp only [execOp, hcst, p282, p294]; go_simp; try exact rfl
    exact trivial
  case mono => exact ⟨mono_isK _, mono_isK _, mono_isK _, mono_isK _, mono_isK _, mono_isK _, mono_isK _, mono_isK _, mono_isK _, mono_isK _, mono_isK _, mono_isK _, mono_isK _, mono_isK _, mono_isK _, mono_isK _, mono_isK _, mono_isK _, mono_isK _, mono_isK _, mono_isK _, mono_isK _, mono_isK _, trivial⟩
  case fin =>
    intro f W vs _ h hR
    exact hf f W h.2.2 (hR 22 295 (by omega) rfl)
end Go.Proofs.YtodimanghmepoaaDoor
