/- Layer 37: Shown of package ideal where nothing may be shown. -/
import Derived.Test.YtmdilfgeogedpaaDoorIdO
namespace Go.Proofs.YtmdilfgeogedpaaDoor
open Go.RowKit
section
variable (A : Option Addr) (n c : Nat) (vs : List Value) (own : List (List Nat)) (A2 : Option Addr) (n2 c2 : Nat) (vs2 : List Value) (P : List (List (List Nat))) (A3 : Option Addr) (n3 c3 : Nat) (came : List Int)
/-- no table, and error k -/
def TabN (k : Int) (w : World) (e : Ending) (w' : World) : Prop :=
  e = .returned (.tuple #[.agg #[.slice none 0 0, .slice none 0 0], .iface 62 (.int .i64 k)]) ∧ Below w.heap.size w w'
set_option maxRecDepth 100000 in
set_option maxHeartbeats 2000000 in
theorem shown_no (dim : Int) (w : World) (hl : own.length = n) (hn : n ≤ 9223372036854775807) (hr : Rows_ w .u32 A vs own) (hl2 : P.length = n2) (hn2 : n2 ≤ 9223372036854775807) (hr2 : Rows3 w .u32 A2 vs2 P)
    (hl3 : came.length = n3) (h3 : n3 ≤ 9223372036854775807) (ha3 : At w A3 (ints .i64 came)) (hno : ¬ (TMay own P n dim ∧ PlB came n = true)) :
    Calls Tryd.prog 12 #[.agg #[.slice A n c, .slice A2 n2 c2], .slice A3 n3 c3, .int .i64 dim] w (TabN 1 w) := by
  have HB0 := ((Below.refl w.heap.size w).alloc (Nat.le_refl _) (.cells #[.slice A n c, .slice A2 n2 c2] 32)).alloc (by simp) (.cells #[.slice none 0 0, .slice none 0 0] 32)
  have QC := Lib.hid (tcheck_any A n c vs own A2 n2 c2 vs2 P (n : Int) dim _ hl hn (hr.later HB0 (Nat.le_refl _)) hl2 hn2 (hr2.later HB0 (Nat.le_refl _)))
  have H2 := Lib.hid (Holds.new (w.alloc (.cells #[.slice A n c, .slice A2 n2 c2] 32)) 32 #[.slice none 0 0, .slice none 0 0] (w.heap.size + 1) (by simp))
  have HB := Lib.hid HB0
  have HM := Lib.hid hno
  have HA := Lib.hid ha3
  have HL3 := Lib.hid hl3
  clear HB0 hno hr hr2 ha3 hl hl2 hl3
  go_enter Tryd.func12, Tryd.ntmps12
  go_wp2_with fail
  with_reducible refine QC.out.mono ?_
  clear QC
  rintro e w1 ⟨he, b1⟩
  have BS := Lib.hid b1.size
  have H2 := Lib.hid (H2.out.later b1 (Nat.le_refl _))
  have HB := Lib.hid (HB.out.trans (b1.mono HB.out.size))
  clear b1
  have QP := Lib.hid (places_any A3 n3 c3 came (n : Int) w1 HL3.out h3 (HA.out.later HB.out (Nat.le_refl _)))
  generalize hg : w.heap.size = g at *
  have HG := Lib.hid hg
  clear hg
  have r0 : w1.cell? ⟨g + 1, 0, none⟩ = some (.slice none 0 0) := H2.out.cell 0
  have r1 : w1.cell? ⟨g + 1, 1, none⟩ = some (.slice none 0 0) := H2.out.cell 1
  have z0 := H2.out.frozen 0
  have z1 := H2.out.frozen 1
  have V1 := (H2.out.set 0 (.slice none 0 0)).set 1 (.slice none 0 0)
  have VB := Lib.hid ((HB.out.setCell (p := ⟨g + 1, 0, none⟩) (by show g ≤ g + 1; omega) (.slice none 0 0)).setCell (p := ⟨g + 1, 1, none⟩) (by show g ≤ g + 1; omega) (.slice none 0 0))
  rcases he with ⟨rfl, _⟩ | ⟨rfl, hx⟩
  · go_wp2_with fail
    exact bodyPost_ret (v := .tuple #[.agg #[.slice none 0 0, .slice none 0 0], .iface 62 (.int .i64 1)]) (results_cell_two Tryd.results12 _ _ (g + 1) 32 #[.slice none 0 0, .slice none 0 0] _ _ _ rfl rfl V1 tb_under rfl tb_size) rfl ⟨rfl, by rw [HG.out]; exact VB.out⟩
  · have HP := Lib.hid (show PlB came n = false from by
      cases h : PlB came n with
      | false => rfl
      | true => exact absurd ⟨hx, h⟩ HM.out)
    rw [HP.out, show errIf false = .iface 62 (.int .i64 1) from rfl] at QP
    clear hx
    go_wp2_with fail
    with_reducible refine QP.out.mono ?_
    clear QP
    rintro e w2 ⟨rfl, rfl⟩
    go_wp2_with fail
    exact bodyPost_ret (v := .tuple #[.agg #[.slice none 0 0, .slice none 0 0], .iface 62 (.int .i64 1)]) (results_cell_two Tryd.results12 _ _ (g + 1) 32 #[.slice none 0 0, .slice none 0 0] _ _ _ rfl rfl V1 tb_under rfl tb_size) rfl ⟨rfl, by rw [HG.out]; exact VB.out⟩
end
end Go.Proofs.YtmdilfgeogedpaaDoor
