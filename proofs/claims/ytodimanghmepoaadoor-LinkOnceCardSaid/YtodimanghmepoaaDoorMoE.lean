/- Layer 19: LinkOnce: a step. Printed by sws.py. Layer 19: the walk of LinkOnce. Printed by loo.py. -/
import Derived.Test.YtodimanghmepoaaDoorMoD
import Derived.Deep.CutRange
import Derived.Deep.CutBlock
import Derived.Test.YtodimanghmepoaaDoorLkP
import Derived.ChangeKeysEq
import Derived.Laws.StructEq
namespace Go.Proofs.YtodimanghmepoaaDoor
open Go.RowKit
set_option maxRecDepth 100000 in
set_option maxHeartbeats 8000000 in
theorem swJ {Q : Exit → Act → World → Prop} {d0} {u1 u2 u4 u6 u13 u14 u15 u16 u17 u18 u19 u20 u21 u22 u23 u24 u25 u26 u27 u28 u29 u30 u31 u32 u33 u34 u35 u36 u37 u38 u39 u40 u41 u42 u43 u44 u45 u46 u47 u48 u49 u50 u51 u52 u53 u54 u55 u56 u57 u58 u59 u60 u61 u62 u63 u64 u65 u66 u67 u68 u69 u70 u71 u72 u73 u74 u75 u76 u77 u78 u79 u80 u81 u82 u83 u84 u85 u86 u87 u88 u89 u90 u91 u92 u93 u94 u95 u96 u97 u98 u99 u100 u101 u102 u103 u104 u105 u106 u107 u108 u109 u110 u111 u112 u113 u114 u115 u116 u117 u118 u119 u120 u121 u122 u123 u124 u125 u126 u127 u128 u129 u130 u131 u132 u133 u134 u135 u136 u137 u138 u139 u140 u141 u142 u143 u144 u145 u146 u147 u148 u149 u150 u151 u152 u153 u154 u155 u156 u157 u158 u159 u160 u161 u162 u163 u164 u165 u166 u167 u168 u169 u170 u171 u172 u173 u174 u175 u176 u177 u178 u179 u180 u181 u182 u183 u184 u185 u186 u187 u188 u189 u190 u191 u192 u193 u194 u195 u196 u197 u198 u199 u200 u201 u202 u203 u204 u205 u206 u207 u208 u209 u210 u211 u212 u213 u214 u215 u216 u217 u218 u219 u220 u221 u222 u223 u224 u225 u226 u227 u228 u229 u230 u231 u232 u233 u234 u235 u236 u237 u238 u239 u240 u241 u242 u243 u244 u245 u246 u247 u248 u249 u250 u251 u252 u253 u254 u255 u256 u257 u258 u259 u260 u261 u262 u263 u264 u265 u266 u267 u268 u269 u270 u271 u272 u273 u274 u275 u276 u277 u278 u279 u280 u281 u282 u283 u284 u285 u286 u287 u288 u289 u290 u291 u292 u293 u294 u295 u296 u297 u298 u299 u300 u301 u302 u303 u304 u305 u306 u307 u308 u309 u310 u311 : Value} {w0 w : World} {F : Nat → Nat → Prop} {p : Nat → Nat} {s : Nat → LSt} {g7 g8 g9 g10 g13 : Nat} {V : Nat → WyR} {P C : Nat → List Nat} {K T X many k : Nat}
    (h : S0 w0 w F p s g7 g8 g9 g10 V P C) (m : ME s V P C many k) (hm2 : many ≤ 200) {A : Option Addr} {n c : Nat} (m1 : n ≤ 9223372036854775807) (a1 : ∀ i, i < n → StepL w0 A i) (hmany : min n 200 = many)
    (hf : ∀ (l : List Value) (W : World), over (fun t => l.getD t undef) opB1 0 [.slice A n c, u1, u2, .pointer (some ⟨p 0, 0, none⟩), u4, .pointer (some ⟨p 1, 0, none⟩), u6, .pointer (some ⟨g7, 0, none⟩), .pointer (some ⟨g8, 0, none⟩), .pointer (some ⟨g9, 0, none⟩), .pointer (some ⟨g10, 0, none⟩), .int .i64 (many : Int), .int .i64 (k : Int), u13, u14, u15, u16, u17, u18, u19, u20, u21, u22, u23, u24, u25, u26, u27, u28, u29, u30, u31, u32, u33, u34, u35, u36, u37, u38, u39, u40, u41, u42, u43, u44, u45, u46, u47, u48, u49, u50, u51, u52, u53, u54, u55, u56, u57, u58, u59, u60, u61, u62, u63, u64, u65, u66, u67, u68, u69, u70, u71, u72, u73, u74, u75, u76, u77, u78, u79, u80, u81, u82, u83, u84, u85, u86, u87, u88, u89, u90, u91, u92, u93, u94, u95, u96, u97, u98, u99, u100, u101, u102, u103, u104, u105, u106, u107, u108, u109, u110, u111, u112, u113, u114, u115, u116, u117, u118, u119, u120, u121, u122, u123, u124, u125, u126, u127, u128, u129, u130, u131, u132, u133, u134, u135, u136, u137, u138, u139, u140, u141, u142, u143, u144, u145, u146, u147, u148, u149, u150, u151, u152, u153, u154, u155, u156, u157, u158, u159, u160, u161, u162, u163, u164, u165, u166, u167, u168, u169, u170, u171, u172, u173, u174, u175, u176, u177, u178, u179, u180, u181, u182, u183, u184, u185, u186, u187, u188, u189, u190, u191, u192, u193, u194, u195, u196, u197, u198, u199, u200, u201, u202, u203, u204, u205, u206, u207, u208, u209, u210, u211, u212, u213, u214, u215, u216, u217, u218, u219, u220, u221, u222, u223, u224, u225, u226, u227, u228, u229, u230, u231, u232, u233, u234, u235, u236, u237, u238, u239, u240, u241, u242, u243, u244, u245, u246, u247, u248, u249, u250, u251, u252, u253, u254, u255, u256, u257, u258, u259, u260, u261, u262, u263, u264, u265, u266, u267, u268, u269, u270, u271, u272, u273, u274, u275, u276, u277, u278, u279, u280, u281, u282, u283, u284, u285, u286, u287, u288, u289, u290, u291, u292, u293, u294, u295, u296, u297, u298, u299, u300, u301, u302, u303, u304, u305, u306, u307, u308, u309, u310, u311] = l → After w0 p g7 g8 g9 g10 many k W → Q .normal ⟨l.toArray, d0⟩ W) :
    bl1.1.wp Tryd.prog Q ⟨[.slice A n c, u1, u2, .pointer (some ⟨p 0, 0, none⟩), u4, .pointer (some ⟨p 1, 0, none⟩), u6, .pointer (some ⟨g7, 0, none⟩), .pointer (some ⟨g8, 0, none⟩), .pointer (some ⟨g9, 0, none⟩), .pointer (some ⟨g10, 0, none⟩), .int .i64 (many : Int), .int .i64 (k : Int), u13, u14, u15, u16, u17, u18, u19, u20, u21, u22, u23, u24, u25, u26, u27, u28, u29, u30, u31, u32, u33, u34, u35, u36, u37, u38, u39, u40, u41, u42, u43, u44, u45, u46, u47, u48, u49, u50, u51, u52, u53, u54, u55, u56, u57, u58, u59, u60, u61, u62, u63, u64, u65, u66, u67, u68, u69, u70, u71, u72, u73, u74, u75, u76, u77, u78, u79, u80, u81, u82, u83, u84, u85, u86, u87, u88, u89, u90, u91, u92, u93, u94, u95, u96, u97, u98, u99, u100, u101, u102, u103, u104, u105, u106, u107, u108, u109, u110, u111, u112, u113, u114, u115, u116, u117, u118, u119, u120, u121, u122, u123, u124, u125, u126, u127, u128, u129, u130, u131, u132, u133, u134, u135, u136, u137, u138, u139, u140, u141, u142, u143, u144, u145, u146, u147, u148, u149, u150, u151, u152, u153, u154, u155, u156, u157, u158, u159, u160, u161, u162, u163, u164, u165, u166, u167, u168, u169, u170, u171, u172, u173, u174, u175, u176, u177, u178, u179, u180, u181, u182, u183, u184, u185, u186, u187, u188, u189, u190, u191, u192, u193, u194, u195, u196, u197, u198, u199, u200, u201, u202, u203, u204, u205, u206, u207, u208, u209, u210, u211, u212, u213, u214, u215, u216, u217, u218, u219, u220, u221, u222, u223, u224, u225, u226, u227, u228, u229, u230, u231, u232, u233, u234, u235, u236, u237, u238, u239, u240, u241, u242, u243, u244, u245, u246, u247, u248, u249, u250, u251, u252, u253, u254, u255, u256, u257, u258, u259, u260, u261, u262, u263, u264, u265, u266, u267, u268, u269, u270, u271, u272, u273, u274, u275, u276, u277, u278, u279, u280, u281, u282, u283, u284, u285, u286, u287, u288, u289, u290, u291, u292, u293, u294, u295, u296, u297, u298, u299, u300, u301, u302, u303, u304, u305, u306, u307, u308, u309, u310, u311].toArray, d0⟩ w := by
  dsimp only [bl1]
  have MM := Lib.hid h
  have M0 := Lib.hid m
  have HF := Lib.hid hf
  have HC := Lib.hid a1
  have HM := Lib.hid hmany
  clear h m hf a1 hmany
  have k0 : (0 : Int) ≤ k := by omega
  go_upto_region 12 with fail
  go_cut [13] from 53 to 295 (fun v wx => ∃ (K g13 : Nat), v = .pointer (some ⟨g13, 0, none⟩) ∧ Below w.heap.size w wx ∧ Holds wx g13 68 #[.int .u8 (K : Int), .int .u8 (0 : Int), .int .u8 (0 : Int)] ∧ w.heap.size ≤ g13 ∧ K < 256 ∧ ((k % 3 = 0 ∧ K = 0) ∨ (k % 3 = 1 ∧ K = 1) ∨ (k % 3 = 2 ∧ K = 4)))
  case first J K_ hJ hK => as_aux_lemma =>
    have h3 : k % 3 = 0 ∨ k % 3 = 1 ∨ k % 3 = 2 := by omega
    rcases h3 with h3 | h3 | h3
    · have h3' : (k : Int) % 3 = 0 := by omega
      have ix := index3_0
      go_wp2_with fail
      refine Met.intro (hJ _ _ ?_)
      (repeat apply Exists.intro)
      refine ⟨?_, rfl⟩
      exact ⟨0, w.heap.size, rfl, (Below.refl w.heap.size w).alloc (Nat.le_refl _) _, Holds.new w 68 #[.int .u8 (0 : Int), .int .u8 (0 : Int), .int .u8 (0 : Int)] w.heap.size rfl, Nat.le_refl _, by omega, by omega⟩
    · have h3' : (k : Int) % 3 = 1 := by omega
      have ix := index3_1
      go_wp2_with fail
      refine Met.intro (hJ _ _ ?_)
      (repeat apply Exists.intro)
      refine ⟨?_, rfl⟩
      exact ⟨1, w.heap.size, rfl, (Below.refl w.heap.size w).alloc (Nat.le_refl _) _, Holds.new w 68 #[.int .u8 (1 : Int), .int .u8 (0 : Int), .int .u8 (0 : Int)] w.heap.size rfl, Nat.le_refl _, by omega, by omega⟩
    · have h3' : (k : Int) % 3 = 2 := by omega
      have ix := index3_2
      go_wp2_with fail
      refine Met.intro (hJ _ _ ?_)
      (repeat apply Exists.intro)
      refine ⟨?_, rfl⟩
      exact ⟨4, w.heap.size, rfl, (Below.refl w.heap.size w).alloc (Nat.le_refl _) _, Holds.new w 68 #[.int .u8 (4 : Int), .int .u8 (0 : Int), .int .u8 (0 : Int)] w.heap.size rfl, Nat.le_refl _, by omega, by omega⟩
  case rest =>
    obtain ⟨K0, g13, rfl, hbx, h13, hg13, hK0, hcalm⟩ := hcut
    have w9 : wc.heap.size ≤ wc.heap.size := Nat.le_refl _
    go_upto_if 67 with fail
    go_cut [67, 68] from 53 to 295 (fun _ _ wx => ∃ (K T X : Nat), Below w.heap.size w wx ∧ Holds wx g13 68 #[.int .u8 (K : Int), .int .u8 (T : Int), .int .u8 (X : Int)] ∧ K < 256 ∧ T < 256 ∧ X < 256 ∧ (many ≤ k → T = 0 ∧ X = 0 ∧ ((k % 3 = 0 ∧ K = 0) ∨ (k % 3 = 1 ∧ K = 1) ∨ (k % 3 = 2 ∧ K = 4))))
    case first J K_ hJ hK => as_aux_lemma =>
      by_cases hkm : k < many
      · have dm : decide ((k : Int) < (many : Int)) = true := decide_eq_true (by omega)
        obtain ⟨b, o, K, T, X, hA, e0, e1, e2, hK8, hT, hX⟩ := HC.out k (by have := HM.out; omega)
        subst hA
        have hb := World.block_lt_of_cell? w0 _ e0
        have hkn : k < n := by have := HM.out; omega
        have BB := MM.out.ways.bel.trans (hbx.mono MM.out.ways.bel.size)
        have r0 := (BB.cell (p := ⟨b, o + k * 3, none⟩) hb).trans e0
        have r1 := (BB.cell (p := ⟨b, o + k * 3 + 1, none⟩) hb).trans e1
        have r2 := (BB.cell (p := ⟨b, o + k * 3 + 2, none⟩) hb).trans e2
        have HS := Lib.hid (((h13.set 0 (.int .u8 (K : Int))).set 1 (.int .u8 (T : Int))).set 2 (.int .u8 (X : Int)))
        have HD := Lib.hid (((hbx.setCell (p := ⟨g13, 0, none⟩) hg13 (.int .u8 (K : Int))).setCell (p := ⟨g13, 1, none⟩) hg13 (.int .u8 (T : Int))).setCell (p := ⟨g13, 2, none⟩) hg13 (.int .u8 (X : Int)))
        have q0 := h13.cell 0
        have q1 := h13.cell 1
        have q2 := h13.cell 2
        have z0 := h13.frozen 0
        have z1 := h13.frozen 1
        have z2 := h13.frozen 2
        clear BB
        go_wp2_with fail
        refine Met.intro (hJ _ _ ?_)
        (repeat apply Exists.intro)
        refine ⟨?_, rfl⟩
        exact ⟨K, T, X, HD.out, HS.out, hK8, hT, hX, fun h => by omega⟩
      · have dm : decide ((k : Int) < (many : Int)) = false := decide_eq_false (by omega)
        go_wp2_with fail
        refine Met.intro (hJ _ _ ?_)
        (repeat apply Exists.intro)
        refine ⟨?_, rfl⟩
        exact ⟨K0, 0, 0, hbx, h13, hK0, by omega, by omega, fun _ => ⟨rfl, rfl, hcalm⟩⟩
    case rest =>
      obtain ⟨K, T, X, hbx2, h13b, hK8, hT, hX, hcalm2⟩ := hcut
      have SV0 := Lib.hid (MM.out.box hbx2 h13b hg13)
      clear hbx hbx2 h13 h13b hcalm w9
      have x2 : wc.cell? ⟨g13, 2, none⟩ = some (.int .u8 (X : Int)) := SV0.out.h13.cell 2
      have x0 : wc.cell? ⟨g13, 0, none⟩ = some (.int .u8 (K : Int)) := SV0.out.h13.cell 0
      have HCA := Lib.hid hcalm2
      clear hcalm2
      go_upto_region 15 with fail
      go_cut [14] from 53 to 295 (fun v wx => (v = .int .i64 0 ∨ v = .int .i64 1) ∧ wx = wc)
      case first J K_ hJ hK => as_aux_lemma =>
        have hx01 : X % 2 = 0 ∨ X % 2 = 1 := by omega
        rcases hx01 with hx01 | hx01
        · have e1 : (X : Int) % 2 = 0 := by omega
          have e2 : (X : Int).tmod 2 = 0 := by rw [Int.tmod_eq_emod_of_nonneg (by omega)]; exact e1
          go_wp2_with fail
          refine Met.intro (hJ _ _ ?_)
          (repeat apply Exists.intro)
          refine ⟨?_, rfl⟩
          exact ⟨.inl rfl, rfl⟩
        · have e1 : (X : Int) % 2 = 1 := by omega
          have e2 : (X : Int).tmod 2 = 1 := by rw [Int.tmod_eq_emod_of_nonneg (by omega)]; exact e1
          go_wp2_with fail
          refine Met.intro (hJ _ _ ?_)
          (repeat apply Exists.intro)
          refine ⟨?_, rfl⟩
          exact ⟨.inr rfl, rfl⟩
      case rest =>
        obtain ⟨hz, rfl⟩ := hcut
        go_upto_region 16 with fail
        go_cut [78] from 53 to 295 (fun v wx => (∃ k6 : Int, v = .int .u8 k6 ∧ k6 = ((K % 6 : Nat) : Int)) ∧ wx = wc)
        case first J K_ hJ hK => as_aux_lemma =>
          have e2 : (K : Int).tmod 6 = ((K % 6 : Nat) : Int) := by rw [Int.tmod_eq_emod_of_nonneg (by omega), Int.natCast_emod]; rfl
          have e1 : (K : Int) % 6 = ((K % 6 : Nat) : Int) := by rw [Int.natCast_emod]; rfl
          have e3 : K % 6 < 6 := Nat.mod_lt _ (by decide)
          generalize K % 6 = r6 at *
          go_wp2_with fail
          refine Met.intro (hJ _ _ ?_)
          (repeat apply Exists.intro)
          refine ⟨?_, rfl⟩
          exact ⟨⟨_, rfl, rfl⟩, rfl⟩
        case rest =>
          obtain ⟨⟨k6, rfl, h6⟩, rfl⟩ := hcut
          go_upto_block 2 with fail
          go_cut [] from 53 to 295 (fun wx => After w0 p g7 g8 g9 g10 many k wx)
          case first J K_ hJ hK => as_aux_lemma =>
            refine swH SV0.out M0.out hm2 hT hX HCA.out h6 hz ?_
            intro l W he hA
            go_step
            rw [← he]
            refine hK _ _ (Met.intro (hJ _ _ ?_))
            (repeat apply Exists.intro)
            refine ⟨?_, rfl⟩
            exact hA
          case rest =>
            obtain ⟨F5, s5, V5, P5, C5, hS5, hM5⟩ := hcut
            have S5 := Lib.hid hS5
            have M5 := Lib.hid hM5
            clear hS5 hM5 SV0 M0 MM x2 x0
            go_upto_block 9 with fail
            refine swI (g13 := 0) (K := 0) (T := 0) (X := 0) S5.out M5.out ?_
            intro l W he hA
            refine HF.out l W ?_ ⟨F5, s5, V5, P5, C5, hA, M5.out⟩
            refine over_trans he ?_ opB9_B1
            kernel_rfl
end Go.Proofs.YtodimanghmepoaaDoor
namespace Go.Proofs.YtodimanghmepoaaDoor
open Go.RowKit
theorem wpList_load_rowL {P : Program} {ops : Array Oper} {rest : List Oper} {o : Oper} {a : Act} {w : World} {Q : Exit → Act → World → Prop} (hgd : Region.wanted o (yielded ops a.tmps) = true) (ty : TypeId) (x : Operand) (ho : o.op = .load ty x)
    (g : Nat) (hx : a.eval x = .pointer (some ⟨g, 0, none⟩)) (t : TypeId) (cs : Array Value) (fr : Nat × Nat) (d : TypeDesc) (hg : w.heap[g]? = some (.cells cs t fr))
    (hu : P.underlying ty = some d) (hd : (match d with | .struct _ | .array _ _ => true | _ => false) = true) (hi : (P.info? ty).map (·.size) = some cs.size)
    (h : wpList P ops Q rest (a.put o.dst (.agg cs)) w) : wpList P ops Q (o :: rest) a w :=
  wpList_step fun _ hK => by
    rw [if_pos hgd]
    exact wp_load_row ty x ho g hx t cs fr d hg hu hd hi (hK _ _ h)
theorem str2_equal_d (d : Nat) (t0 t1 : ByteArray) (w : World) : (Op.equalIn (d + 1 + 1) 66 (.agg #[.string t0, .string t1]) (.agg #[.string t0, .string t1])).run Tryd.prog w = .ok true w := by
  have hu : Tryd.prog.underlying 66 = some (.array 2 9) := by kernel_rfl
  have hi : (Tryd.prog.info? 9).isSome = true := by kernel_rfl
  have hs : Tryd.prog.underlying 9 = some .string := by kernel_rfl
  have hc : Tryd.prog.cellsOf 9 = 1 := by kernel_rfl
  obtain ⟨i, hi⟩ := Option.isSome_iff_exists.1 hi
  rw [run_equalIn_array w (d + 1) _ _ hu hi, hc]
  have p0 : (part 9 #[.string t0, .string t1] 0).run Tryd.prog w = .ok (.string t0) w := run_part_plain w (by simp [Program.plainKey, hs]) rfl
  have p1 : (part 9 #[.string t0, .string t1] 1).run Tryd.prog w = .ok (.string t1) w := run_part_plain w (by simp [Program.plainKey, hs]) rfl
  have q0 := run_equalIn_string (P := Tryd.prog) w d 9 t0 t0 hs
  have q1 := run_equalIn_string (P := Tryd.prog) w d 9 t1 t1 hs
  rw [show (t0.toList == t0.toList) = true from by simp] at q0
  rw [show (t1.toList == t1.toList) = true from by simp] at q1
  show (Op.eqItems (d + 1) 9 1 _ _ [0, 1]).run _ _ = _
  simp [Op.eqItems, Sem.run_bind, p0, p1, Result.andThen_ok, q0, q1]
theorem str2_equal (t0 t1 : ByteArray) (w : World) : (Op.equalIn 10000 66 (.agg #[.string t0, .string t1]) (.agg #[.string t0, .string t1])).run Tryd.prog w = .ok true w := str2_equal_d 9998 t0 t1 w
theorem dir_new {a b : LSt} (h1 : a.E = 1) (h2 : a.S = 1) (h3 : a.l = []) (h4 : b.RE = 0) (h5 : b.RL = 0) (h6 : b.gv = false) : Dir a b [] [] :=
  ⟨h1, ⟨0, 0, h2, h5, Nat.le_refl _, by omega, Nat.le_refl _, h3, rfl⟩, .inl ⟨h4, h5⟩, fun h => by rw [h6] at h; cases h⟩
theorem ti_new : TI (newS 0 1 1) (newS 1 0 1) 0 1 [] [] [] [] [] [] :=
  ⟨⟨rfl, rfl⟩, ⟨rfl, rfl⟩, ⟨by omega, by omega, by omega⟩, dir_new rfl rfl rfl rfl rfl rfl, dir_new rfl rfl rfl rfl rfl rfl, (fun d h => by cases h), (fun d h => by cases h)⟩
theorem s0_new {w0 w2 : World} {F : Nat → Nat → Prop} {p q : Nat} {z : LSt} (h : Ways w0 w2 2 F (tri p q 0) (tri (newS 0 1 1) (newS 1 0 1) z)) :
    S0 w0 ((((w2.alloc (.cells #[.pointer (some ⟨p, 0, none⟩), .pointer (some ⟨q, 0, none⟩)] 64)).alloc (.cells #[.slice none 0 0, .slice none 0 0] 65)).alloc (.cells #[.string ⟨#[]⟩, .string ⟨#[]⟩] 66)).alloc (.cells #[.string ⟨#[]⟩, .string ⟨#[]⟩] 66)) F (tri p q 0) (tri (newS 0 1 1) (newS 1 0 1) z) w2.heap.size (w2.heap.size + 1) (w2.heap.size + 1 + 1) (w2.heap.size + 1 + 1 + 1) (fun _ => ⟨none, 0, 0, [], []⟩) (fun _ => []) (fun _ => []) := by
  have hs := h.bel.size
  have nf : ∀ i k, w2.heap.size ≤ k → ¬ F i k := fun i k hk hf => by have := (h.ge i k hf).2; omega
  have b1 := (Below.refl w2.heap.size w2).alloc (Nat.le_refl _) (.cells #[.pointer (some ⟨p, 0, none⟩), .pointer (some ⟨q, 0, none⟩)] 64)
  have b2 := b1.alloc (by simp) (.cells #[.slice none 0 0, .slice none 0 0] 65)
  have b3 := b2.alloc (by simp; omega) (.cells #[.string ⟨#[]⟩, .string ⟨#[]⟩] 66)
  have b4 := b3.alloc (by simp; omega) (.cells #[.string ⟨#[]⟩, .string ⟨#[]⟩] 66)
  refine ⟨h.later b4, (((Holds.new w2 _ _ w2.heap.size rfl).alloc _).alloc _).alloc _, ((Holds.new _ _ _ (w2.heap.size + 1) (by simp)).alloc _).alloc _, (Holds.new _ _ _ (w2.heap.size + 1 + 1) (by simp)).alloc _, Holds.new _ _ _ (w2.heap.size + 1 + 1 + 1) (by simp), fun _ _ => WayO.none_ _ _ _, .inl rfl, ⟨by omega, by omega, by omega, by omega⟩, ⟨by omega, by omega, by omega, by omega, by omega, by omega⟩, fun i => ⟨nf i _ (Nat.le_refl _), nf i _ (by omega), nf i _ (by omega), nf i _ (by omega)⟩⟩
theorem me_new {z : LSt} {many : Nat} : ME (tri (newS 0 1 1) (newS 1 0 1) z) (fun _ => ⟨none, 0, 0, [], []⟩) (fun _ => []) (fun _ => []) many 0 :=
  ⟨ti_new, Nat.zero_le _, Nat.zero_le _, ⟨Nat.zero_le _, fun _ => Nat.le_refl _⟩, ⟨Nat.zero_le _, fun _ => Nat.le_refl _⟩, by simp, by simp, CalmI.early (Nat.zero_le _)⟩
set_option maxRecDepth 100000 in
set_option maxHeartbeats 8000000 in
theorem lonce_any (A : Option Addr) (n c : Nat) (w : World) (m1 : n ≤ 9223372036854775807) (a1 : ∀ i, i < n → StepL w A i) (hg : Glob w) :
    Calls Tryd.prog 5 #[.slice A n c] w fun e w' => e = .returned (.bool true) ∧ Below w.heap.size w w' := by
  have HG := Lib.hid hg
  have HC := Lib.hid a1
  clear hg a1
  go_enter Tryd.func5, Tryd.ntmps5
  go_wp2_with fail
  with_reducible refine (wt_new0 w 0 1 1 (newS 0 0 0) (by decide) (by decide) (by decide) (by decide)).mono ?_
  rintro e w1 ⟨p, F1, rfl, hw, hI⟩
  have HW := Lib.hid hw
  have HI := Lib.hid hI
  clear hw hI
  go_wp2_with fail
  with_reducible refine (wt_new1 HW.out HI.out 1 0 1 (by decide) (by decide) (by decide) (by decide)).mono ?_
  rintro e w2 ⟨q, F2, rfl, hw, -⟩
  replace HW := Lib.hid (show Ways w w2 2 F2 (tri p q 0) (tri (newS 0 1 1) (newS 1 0 1) (newS 0 0 0)) from hw)
  clear hw HI
  go_upto_region 8 with fail
  have HX := Lib.hid (s0_new HW.out)
  clear HW
  generalize ((((w2.alloc (.cells #[.pointer (some ⟨p, 0, none⟩), .pointer (some ⟨q, 0, none⟩)] 64)).alloc (.cells #[.slice none 0 0, .slice none 0 0] 65)).alloc (.cells #[.string ⟨#[]⟩, .string ⟨#[]⟩] 66)).alloc (.cells #[.string ⟨#[]⟩, .string ⟨#[]⟩] 66)) = w3 at *
  obtain ⟨g7, hg7⟩ : ∃ g, w2.heap.size = g := ⟨_, rfl⟩
  obtain ⟨g8, hg8⟩ : ∃ g, w2.heap.size + 1 = g := ⟨_, rfl⟩
  obtain ⟨g9, hg9⟩ : ∃ g, w2.heap.size + 1 + 1 = g := ⟨_, rfl⟩
  obtain ⟨g10, hg10⟩ : ∃ g, w2.heap.size + 1 + 1 + 1 = g := ⟨_, rfl⟩
  rw [hg10, hg9, hg8, hg7] at HX ⊢
  clear hg7 hg8 hg9 hg10
  obtain ⟨many, hmany⟩ : ∃ m, min n 200 = m := ⟨_, rfl⟩
  have HM := Lib.hid hmany
  have hm2 : many ≤ 200 := by omega
  have hme : min (n : Int) 200 = (many : Int) := by omega
  go_upto_region 9 with fail
  clear hme hmany
  go_wp2_with fail
  go_loopw [12] (fun i wr => ∃ (k : Nat) (F : Nat → Nat → Prop) (s : Nat → LSt) (V : Nat → WyR) (P C : Nat → List Nat), k ≤ many + 600 ∧ i = .int .i64 (k : Int) ∧ S0 w wr F (tri p q 0) s g7 g8 g9 g10 V P C ∧ ME s V P C many k) (fun i _ => many + 600 - (intOf i).toNat)
  case atStart => exact ⟨0, F2, _, _, _, _, by omega, rfl, HX.out, me_new⟩
  case round =>
    clear HX
    obtain ⟨k, F, s, V, P, C, hk, rfl, hr, hm⟩ := hrel
    have MM := Lib.hid hr
    have M0 := Lib.hid hm
    clear hr hm
    by_cases hk6 : k < many + 600
    · have dk : decide ((k : Int) < (many : Int) + 600) = true := decide_eq_true (by omega)
      go_upto_block 1 with fail
      go_cut [] from 53 to 295 (fun wx => After w (tri p q 0) g7 g8 g9 g10 many k wx)
      case first J K_ hJ hK => as_aux_lemma =>
        refine swJ (g13 := 0) (K := 0) (T := 0) (X := 0) MM.out M0.out hm2 m1 HC.out HM.out ?_
        intro l W he hA
        go_step
        rw [← he]
        refine hK _ _ (Met.intro (hJ _ _ ?_))
        (repeat apply Exists.intro)
        refine ⟨?_, rfl⟩
        exact hA
      case rest =>
        obtain ⟨F5, s5, V5, P5, C5, hS5, hM5⟩ := hcut
        clear MM M0
        go_wp2_with fail
        go_round
        case rel => exact ⟨k + 1, F5, s5, V5, P5, C5, by omega, by go_num, hS5, hM5⟩
        case measure => simp [intOf]; omega
    · obtain rfl : k = many + 600 := by omega
      have dk : decide (((many + 600 : Nat) : Int) < (many : Int) + 600) = false := decide_eq_false (by omega)
      have q90 : wr.cell? ⟨g9, 0, none⟩ = some (.string (strN (P 0))) := MM.out.h9.cell 0
      have q91 : wr.cell? ⟨g9, 1, none⟩ = some (.string (strN (P 1))) := MM.out.h9.cell 1
      have z0 : (strN (P 0)).size ≤ 200 := by rw [strN_size]; exact M0.out.p0.1
      have z1 : (strN (P 1)).size ≤ 200 := by rw [strN_size]; exact M0.out.p1.1
      have BB := Lib.hid MM.out.ways.bel
      by_cases htot : 20 < (strN (P 0)).size + (strN (P 1)).size
      · have dt : decide ((20 : Int) < ((strN (P 0)).size : Int) + ((strN (P 1)).size : Int)) = true := decide_eq_true (by omega)
        go_wp2_with fail
        refine (sure19 _ (HG.out.later BB.out (Nat.le_refl _))).mono ?_
        rintro e w5 ⟨rfl, bb⟩
        have BB2 := Lib.hid (BB.out.trans (bb.mono BB.out.size))
        clear bb
        go_wp2_with fail
        go_ret
        exact ⟨rfl, BB2.out⟩
      · have dt : decide ((20 : Int) < ((strN (P 0)).size : Int) + ((strN (P 1)).size : Int)) = false := decide_eq_false (by omega)
        obtain ⟨eC0, eC1⟩ := M0.out.calm.end_ M0.out.ti (by rw [strN_size, strN_size] at htot; omega)
        have h9 := MM.out.h9
        have h10 := MM.out.h10
        rw [eC0, eC1] at h10
        have H9 := Lib.hid h9
        have H10 := Lib.hid h10
        clear h9 h10 eC0 eC1 MM M0
        generalize strN (P 0) = t0 at *
        generalize strN (P 1) = t1 at *
        have heq := fun (w : World) => str2_equal t0 t1 w
        have hun : Tryd.prog.underlying 66 = some (.array 2 9) := by kernel_rfl
        have hsz : (Tryd.prog.info? 66).map (·.size) = some (#[Value.string t0, Value.string t1] : Array Value).size := by kernel_rfl
        go_wp2_with (first
          | (refine wpList_load_rowL rfl 66 (.tmp 10) rfl g10 rfl _ _ _ _ H10.out hun rfl hsz ?_)
          | (refine wpList_load_rowL rfl 66 (.tmp 9) rfl g9 rfl _ _ _ _ H9.out hun rfl hsz ?_))
        refine (sure19 _ (HG.out.later BB.out (Nat.le_refl _))).mono ?_
        rintro e w5 ⟨rfl, bb⟩
        have BB2 := Lib.hid (BB.out.trans (bb.mono BB.out.size))
        clear bb
        go_wp2_with fail
        go_ret
        exact ⟨rfl, BB2.out⟩

end Go.Proofs.YtodimanghmepoaaDoor
