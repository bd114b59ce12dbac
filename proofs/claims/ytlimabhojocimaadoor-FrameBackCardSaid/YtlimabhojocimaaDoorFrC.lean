/- Layer 13: numbers and bytes written. -/
import Derived.Test.YtlimabhojocimaaDoorFrB
namespace Go.Proofs.YtlimabhojocimaaDoor
open Go.RowKit
theorem SlO.mono_ {w : World} {l l' : List Nat} {e : Ending} {w' : World} (h : SlO w l e w') (hl : l = l') : SlO w l' e w' := hl ▸ h
set_option maxRecDepth 100000 in
set_option maxHeartbeats 1000000 in
theorem number_any (v : Nat) (w : World) (hv : v < 18446744073709551616) :
    Calls Tryd.prog 33 #[.int .u64 v] w (SlO w (VM.enc v)) := by
  have C1 : Calls Tryd.prog 44 #[.slice none 0 0, .int .u64 v] w (SlO w (VM.enc v)) := (oput_any none 0 0 [] v w rfl (by decide) (At.nil _ _) hv).mono fun e w' h => h.mono_ (List.nil_append _)
  have CC := Lib.hid C1
  clear C1 hv
  go_enter Tryd.func33, Tryd.ntmps33
  go_wp2_with (go_at_call 44; refine CC.out.mono ?_; rintro e w1 ⟨A1, c1, rfl, o1, b1⟩; have O1 := Lib.hid o1; have B1 := Lib.hid b1; clear o1 b1)
  go_ret
  exact ⟨A1, c1, rfl, O1.out, B1.out⟩
section
variable {g : Nat} {p : Option Addr} {fs : List (List Nat)} {w : World}
theorem far_of {w1 : World} {A : Option Addr} {n c : Nat} {xs : List Value} (h : Wr w g p fs) (ho : Own w1 w.heap.size 5 1 A n c xs) : blk A ≠ some g := fun e => Nat.lt_irrefl _ (Nat.lt_of_lt_of_le h.blk_.lt (ho.lt g e).1)
theorem Wrote.after {w1 : World} {e : Ending} {w2 : World} (hb : Below w.heap.size w w1) (h : Wrote w1 g fs e w2) : Wrote w g fs e w2 := by
  obtain ⟨h1, p', h2, h3⟩ := h
  exact ⟨h1, p', h2, grown_trans ⟨hb.os, hb.tape, hb.output, hb.size, fun k hk _ => hb.block k hk⟩ h3⟩
set_option maxRecDepth 100000 in
set_option maxHeartbeats 1000000 in
theorem wnum_any (v : Nat) (h : Wr w g p fs) (hv : v < 18446744073709551616) (hm : tot fs ≤ 900000) :
    Calls Tryd.prog 15 #[.pointer (some ⟨g, 0, none⟩), .int .u64 v] w (Wrote w g (VM.enc v :: fs)) := by
  have HW := Lib.hid h
  have CC := Lib.hid (number_any v w hv)
  have HS := Lib.hid (VM.size_9 hv)
  clear h hv
  go_enter Tryd.func15, Tryd.ntmps15
  go_wp2_with (first
    | (go_at_call 33; refine CC.out.mono ?_; rintro e w1 ⟨A1, c1, rfl, o1, b1⟩; have O1 := Lib.hid o1; have B1 := Lib.hid b1; clear o1 b1)
    | (go_at_call 32; refine (wput_any A1 c1 (VM.enc v) (HW.out.later B1.out) O1.out.at_ (far_of HW.out O1.out) (by have := HS.out; rw [VM.enc_length]; omega)).mono ?_; rintro e w2 h2; have H2 := Lib.hid (h2.after B1.out); obtain ⟨rfl, _⟩ := h2))
  exact bodyPost_end (v := .tuple #[]) (by simp [results, Tryd.results15, go_sem]) rfl H2.out
set_option maxRecDepth 100000 in
set_option maxHeartbeats 1000000 in
theorem wbytes_any (A : Option Addr) (c : Nat) (b : List Nat) (h : Wr w g p fs) (hat : At w A (nats .u8 b)) (hb : b.length ≤ 10000) (hm : tot fs ≤ 900000) :
    Calls Tryd.prog 16 #[.pointer (some ⟨g, 0, none⟩), .slice A b.length c] w (Wrote w g ((VM.enc b.length ++ b) :: fs)) := by
  have HW := Lib.hid h
  have HT := Lib.hid hat
  have hv : b.length < 18446744073709551616 := by omega
  have CC := Lib.hid (number_any b.length w hv)
  have HS := Lib.hid (VM.size_9 hv)
  have hl1 : (b.length : Int) % 18446744073709551616 = b.length := by omega
  clear h hv hat
  go_enter Tryd.func16, Tryd.ntmps16
  go_wp2_with (first
    | (go_at_call 33; refine CC.out.mono ?_; rintro e w1 ⟨A1, c1, rfl, o1, b1⟩; have O1 := Lib.hid o1; have B1 := Lib.hid b1; have T1 := Lib.hid (HT.out.later b1 (Nat.le_refl _)); have hle := b1.size; clear o1 b1)
    | (at_builtin; refine wpList_app rfl elt_u8 w.heap.size (.tmp 8) (.tmp 9) rfl _ rfl O1.out (nats .u8 b) rfl T1.out (by rw [nats_length, Nat.mul_one]) (nats_one _ _) (by unfold maxLen; have := HS.out; rw [VM.enc_length]; omega) (by have := HS.out; rw [VM.enc_length]; omega) hle ?_; intro A2 c2 w2 own2 g2 _; have O2 := Lib.hid own2; have B2 := Lib.hid (B1.out.grown g2 hle (fun k hk => (O1.out.lt k hk).1)); clear own2 g2)
    | (go_at_call 32; have K := wput_any A2 c2 (VM.enc b.length ++ b) (HW.out.later B2.out) (by have := O2.out.at_; simpa [nats] using this) (far_of HW.out O2.out) (by have := HS.out; rw [List.length_append, VM.enc_length]; omega); rw [List.length_append] at K; refine K.mono ?_; rintro e w2 h2; have H2 := Lib.hid (h2.after B2.out); obtain ⟨rfl, _⟩ := h2))
  exact bodyPost_end (v := .tuple #[]) (by simp [results, Tryd.results16, go_sem]) rfl H2.out
end
end Go.Proofs.YtlimabhojocimaaDoor
