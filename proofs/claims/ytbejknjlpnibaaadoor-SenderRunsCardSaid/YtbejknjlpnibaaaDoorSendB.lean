/- The library's slices.Delete(s, 0, 1), of a slice of the call's own. -/
import Derived.Test.YtbejknjlpnibaaaDoorApp
import Derived.Test.YtbejknjlpnibaaaDoorSend
namespace Go.Proofs.YtbejknjlpnibaaaDoor
open Go.RowKit

theorem zero_sl (w : World) : (zeroValue 24).run Tryd.prog w = .ok (.slice none 0 0) w := by
  go_simp
theorem run_clear1 (w : World) (g n c : Nat) (h : (w.cell? ⟨g, n, none⟩).isSome = true ∧ w.frozen? ⟨g, n, none⟩ = false) :
    (Builtin.clear_ #[37] 0 #[.slice (some ⟨g, n, none⟩) 1 c]).run Tryd.prog w = .ok (.tuple #[]) (w.setCell ⟨g, n, none⟩ (.slice none 0 0)) :=
  Lib.run_clear_slice (P := Tryd.prog) w 37 24 0 (.slice none 0 0) (by kernel_rfl) zero_sl rfl rfl g n 1 c (by omega)
    (fun j hj => by obtain rfl : j = 0 := by omega
                    exact h.1) (fun j hj => by obtain rfl : j = 0 := by omega
                                               exact h.2)
/-- what Delete hands back -/
def Del (w : World) (base g n c : Nat) (vs : List Value) (e : Ending) (w' : World) : Prop :=
  e = .returned (.slice (some ⟨g, 0, none⟩) n c) ∧ Own w' base 24 1 (some ⟨g, 0, none⟩) n c vs ∧ w.grownBy w' (some g)
set_option maxRecDepth 100000 in
set_option maxHeartbeats 1000000 in
theorem delete_any (base g n c : Nat) (v : Value) (vs : List Value) (w : World) (ho : Own w base 24 1 (some ⟨g, 0, none⟩) (n + 1) c (v :: vs)) (hone : ∀ u ∈ vs, u.oneCell' = true) (hc : c ≤ 9223372036854775807) :
    Calls Tryd.prog 22 #[.slice (some ⟨g, 0, none⟩) (n + 1) c, .int .i64 0, .int .i64 1] w (Del w base g n c vs) := by
  have hn := ho.cap.1
  have hlen : vs.length = n := by have := ho.len; simpa using this
  have HL := Lib.hid hlen
  have own0 := Lib.hid ho.zero
  have news := Lib.hid (show At w (some ⟨g, 1, none⟩) vs from by
    have := (ho.at_).cut (m := 1)
    simpa using this)
  clear hlen ho
  go_enter Tryd.func22, Tryd.ntmps22
  go_wp2_with fail
  have hi1 : (1 : Int) ≤ (n : Int) + 1 := by omega
  by_cases hc1 : c = 1
  · obtain rfl : n = 0 := by omega
    subst hc1
    have h0 : vs = [] := List.eq_nil_of_length_eq_zero HL.out
    subst h0
    go_region_law (refine step_fits' rfl elt_sl base (.tmp 22) (.tmp 25) rfl [] rfl own0.out.drew [] rfl (At.nil _ _) (by rw [Nat.mul_one]; exact HL.out) hone (by omega) ?_; intro w1 own1 g1; simp only [Nat.zero_add, List.nil_append] at own1)
    have hs1 := own1.spare 0 (by omega)
    have hclr := run_clear1 w1 g 0 1 hs1
    go_wp2_with fail
    go_ret
    exact ⟨rfl, own1.set_past 0 (Nat.le_refl _) _, grown_set (grown_trans (grown_drew (grown_refl _ _)) g1) _ _⟩
  · have hc1' : decide (c = 1) = false := by simpa using hc1
    go_region_law (refine step_fits' (ad := ⟨g, 1, none⟩) (m := n) (c2 := c - 1) rfl elt_sl base (.tmp 22) (.tmp 25) rfl [] rfl own0.out.drew vs (by simp [Act.eval, Act.put, hc1]) news.out (by rw [Nat.mul_one]; exact HL.out) hone (by omega) ?_; intro w1 own1 g1; simp only [Nat.zero_add, List.nil_append] at own1)
    have hs1 := own1.spare n (by omega)
    have hcn : ¬ c = n := by omega
    have hin : (n : Int) ≤ (n : Int) + 1 := by omega
    have hclr := run_clear1 w1 g n (c - n) hs1
    go_wp2_with fail
    go_ret
    exact ⟨rfl, own1.set_past n (Nat.le_refl _) _, grown_set (grown_trans (grown_drew (grown_refl _ _)) g1) _ _⟩
end Go.Proofs.YtbejknjlpnibaaaDoor
