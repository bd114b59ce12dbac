/- Layer 19: LinkOnce: an end sends, then the other one. Printed by sws.py. Layer 19: LinkOnce: a datagram comes once more. Printed by sws.py. Layer 19: LinkOnce: a datagram comes once more. Printed by sws.py. Layer 19: LinkOnce: a datagram is lost. Printed by sws.py. Layer 19: LinkOnce: a datagram is lost. Printed by sws.py. Layer 19: LinkOnce: a tick. Printed by sws.py. Layer 19: LinkOnce: an end puts a byte. Printed by sws.py. Layer 19: LinkOnce: an end puts a byte. Printed by sws.py. -/
import Derived.Test.YtodimanghmepoaaDoorMoA
import Derived.Test.YtodimanghmepoaaDoorMoB
import Derived.Deep.CutRange
import Derived.Deep.CutBlock
namespace Go.Proofs.YtodimanghmepoaaDoor
open Go.RowKit
set_option maxRecDepth 100000 in
set_option maxHeartbeats 8000000 in
theorem swA {Q : Exit → Act → World → Prop} {d0} {u0 u1 u2 u4 u6 u14 u15 u16 u17 u18 u19 u20 u21 u22 u23 u24 u25 u26 u27 u28 u29 u30 u31 u32 u33 u34 u35 u36 u37 u38 u39 u40 u41 u42 u43 u44 u45 u46 u47 u48 u49 u50 u51 u52 u53 u54 u55 u56 u57 u58 u59 u60 u61 u62 u63 u64 u65 u66 u67 u68 u69 u70 u71 u72 u73 u74 u75 u76 u77 u79 u80 u81 u82 u83 u84 u85 u86 u87 u88 u89 u90 u91 u92 u93 u94 u95 u96 u97 u98 u99 u100 u101 u102 u103 u104 u105 u106 u107 u108 u109 u110 u111 u112 u113 u114 u115 u116 u117 u118 u119 u120 u121 u122 u123 u124 u125 u126 u127 u128 u129 u130 u131 u132 u133 u134 u135 u136 u137 u138 u139 u140 u141 u142 u143 u144 u145 u146 u147 u148 u149 u150 u151 u152 u153 u154 u155 u156 u157 u158 u159 u160 u161 u162 u163 u164 u165 u166 u167 u168 u169 u170 u171 u172 u173 u174 u175 u176 u177 u178 u179 u180 u181 u182 u183 u184 u185 u186 u187 u188 u189 u190 u191 u192 u193 u194 u195 u196 u197 u198 u199 u200 u201 u202 u203 u204 u205 u206 u207 u208 u209 u210 u211 u212 u213 u214 u215 u216 u217 u218 u219 u220 u221 u222 u223 u224 u225 u226 u227 u228 u229 u230 u231 u232 u233 u234 u235 u236 u237 u238 u239 u240 u241 u242 u243 u244 u245 u246 u247 u248 u249 u250 u251 u252 u253 u254 u255 u256 u257 u258 u259 u260 u261 u262 u263 u264 u265 u266 u267 u268 u269 u270 u271 u272 u273 u274 u275 u276 u277 u278 u279 u280 u281 u282 u283 u284 u285 u286 u287 u288 u289 u290 u291 u292 u293 u294 u295 u296 u297 u298 u299 u300 u301 u302 u303 u304 u305 u306 u307 u308 u309 u310 u311 : Value} {w0 w : World} {F : Nat → Nat → Prop} {p : Nat → Nat} {s : Nat → LSt} {g7 g8 g9 g10 g13 : Nat} {V : Nat → WyR} {P C : Nat → List Nat} {K T X many k : Nat}
    (h : SV w0 w F p s g7 g8 g9 g10 g13 V P C K T X) (m : ME s V P C many k) (hm2 : many ≤ 200) (hc : many ≤ k → k % 3 = 0)
    (hf : ∀ (l : List Value) (W : World), over (fun t => l.getD t undef) opSw 0 [u0, u1, u2, .pointer (some ⟨p 0, 0, none⟩), u4, .pointer (some ⟨p 1, 0, none⟩), u6, .pointer (some ⟨g7, 0, none⟩), .pointer (some ⟨g8, 0, none⟩), .pointer (some ⟨g9, 0, none⟩), .pointer (some ⟨g10, 0, none⟩), .int .i64 (many : Int), .int .i64 (k : Int), .pointer (some ⟨g13, 0, none⟩), u14, u15, u16, u17, u18, u19, u20, u21, u22, u23, u24, u25, u26, u27, u28, u29, u30, u31, u32, u33, u34, u35, u36, u37, u38, u39, u40, u41, u42, u43, u44, u45, u46, u47, u48, u49, u50, u51, u52, u53, u54, u55, u56, u57, u58, u59, u60, u61, u62, u63, u64, u65, u66, u67, u68, u69, u70, u71, u72, u73, u74, u75, u76, u77, .int .u8 0, u79, u80, u81, u82, u83, u84, u85, u86, u87, u88, u89, u90, u91, u92, u93, u94, u95, u96, u97, u98, u99, u100, u101, u102, u103, u104, u105, u106, u107, u108, u109, u110, u111, u112, u113, u114, u115, u116, u117, u118, u119, u120, u121, u122, u123, u124, u125, u126, u127, u128, u129, u130, u131, u132, u133, u134, u135, u136, u137, u138, u139, u140, u141, u142, u143, u144, u145, u146, u147, u148, u149, u150, u151, u152, u153, u154, u155, u156, u157, u158, u159, u160, u161, u162, u163, u164, u165, u166, u167, u168, u169, u170, u171, u172, u173, u174, u175, u176, u177, u178, u179, u180, u181, u182, u183, u184, u185, u186, u187, u188, u189, u190, u191, u192, u193, u194, u195, u196, u197, u198, u199, u200, u201, u202, u203, u204, u205, u206, u207, u208, u209, u210, u211, u212, u213, u214, u215, u216, u217, u218, u219, u220, u221, u222, u223, u224, u225, u226, u227, u228, u229, u230, u231, u232, u233, u234, u235, u236, u237, u238, u239, u240, u241, u242, u243, u244, u245, u246, u247, u248, u249, u250, u251, u252, u253, u254, u255, u256, u257, u258, u259, u260, u261, u262, u263, u264, u265, u266, u267, u268, u269, u270, u271, u272, u273, u274, u275, u276, u277, u278, u279, u280, u281, u282, u283, u284, u285, u286, u287, u288, u289, u290, u291, u292, u293, u294, u295, u296, u297, u298, u299, u300, u301, u302, u303, u304, u305, u306, u307, u308, u309, u310, u311] = l → After w0 p g7 g8 g9 g10 many k W → Q .normal ⟨l.toArray, d0⟩ W) :
    sw.1.wp Tryd.prog Q ⟨[u0, u1, u2, .pointer (some ⟨p 0, 0, none⟩), u4, .pointer (some ⟨p 1, 0, none⟩), u6, .pointer (some ⟨g7, 0, none⟩), .pointer (some ⟨g8, 0, none⟩), .pointer (some ⟨g9, 0, none⟩), .pointer (some ⟨g10, 0, none⟩), .int .i64 (many : Int), .int .i64 (k : Int), .pointer (some ⟨g13, 0, none⟩), u14, u15, u16, u17, u18, u19, u20, u21, u22, u23, u24, u25, u26, u27, u28, u29, u30, u31, u32, u33, u34, u35, u36, u37, u38, u39, u40, u41, u42, u43, u44, u45, u46, u47, u48, u49, u50, u51, u52, u53, u54, u55, u56, u57, u58, u59, u60, u61, u62, u63, u64, u65, u66, u67, u68, u69, u70, u71, u72, u73, u74, u75, u76, u77, .int .u8 0, u79, u80, u81, u82, u83, u84, u85, u86, u87, u88, u89, u90, u91, u92, u93, u94, u95, u96, u97, u98, u99, u100, u101, u102, u103, u104, u105, u106, u107, u108, u109, u110, u111, u112, u113, u114, u115, u116, u117, u118, u119, u120, u121, u122, u123, u124, u125, u126, u127, u128, u129, u130, u131, u132, u133, u134, u135, u136, u137, u138, u139, u140, u141, u142, u143, u144, u145, u146, u147, u148, u149, u150, u151, u152, u153, u154, u155, u156, u157, u158, u159, u160, u161, u162, u163, u164, u165, u166, u167, u168, u169, u170, u171, u172, u173, u174, u175, u176, u177, u178, u179, u180, u181, u182, u183, u184, u185, u186, u187, u188, u189, u190, u191, u192, u193, u194, u195, u196, u197, u198, u199, u200, u201, u202, u203, u204, u205, u206, u207, u208, u209, u210, u211, u212, u213, u214, u215, u216, u217, u218, u219, u220, u221, u222, u223, u224, u225, u226, u227, u228, u229, u230, u231, u232, u233, u234, u235, u236, u237, u238, u239, u240, u241, u242, u243, u244, u245, u246, u247, u248, u249, u250, u251, u252, u253, u254, u255, u256, u257, u258, u259, u260, u261, u262, u263, u264, u265, u266, u267, u268, u269, u270, u271, u272, u273, u274, u275, u276, u277, u278, u279, u280, u281, u282, u283, u284, u285, u286, u287, u288, u289, u290, u291, u292, u293, u294, u295, u296, u297, u298, u299, u300, u301, u302, u303, u304, u305, u306, u307, u308, u309, u310, u311].toArray, d0⟩ w := by
  dsimp only [sw]
  have n0 : (V 0).n ≤ 100000 := by have := (h.o 0 (by decide)).len; have := m.b0; omega
  have n1 : (V 1).n ≤ 100000 := by have := (h.o 1 (by decide)).len; have := m.b1; omega
  have l0 := (h.ways.ok 0 (by decide)).1.lf
  have l1 := (h.ways.ok 1 (by decide)).1.lf
  have H0 := Lib.hid h
  have M0 := Lib.hid m
  have HF := Lib.hid hf
  clear h m hf
  go_wp2_with fail
  go_loopw [15] (fun i wr => ∃ (F' : Nat → Nat → Prop) (s' : Nat → LSt) (V' : Nat → WyR), SV w0 wr F' p s' g7 g8 g9 g10 g13 V' P C K T X ∧ ((i = .int .i64 0 ∧ s' = s ∧ V' = V) ∨ (i = .int .i64 1 ∧ s' = upd s 0 (outS (s 0)) ∧ ∃ a : WyR, V' = upd V 1 a ∧ a.L = (V 1).L ++ (outA (s 0) ++ outB (s 0))) ∨ (i = .int .i64 2 ∧ ME s' V' P C many (k + 1)))) (fun i _ => 2 - (intOf i).toNat)
  case atStart => exact ⟨F, s, V, H0.out, .inl ⟨rfl, rfl, rfl⟩⟩
  case round =>
    obtain ⟨F', s', V', hr, hrel⟩ := hrel
    have HR := Lib.hid hr
    clear hr H0
    rcases hrel with ⟨rfl, rfl, rfl⟩ | ⟨rfl, rfl, a, rfl, ha⟩ | ⟨rfl, hA⟩
    · go_upto_block 4 with fail
      go_cut [] from 101 to 116 (fun wx => ∃ (F2 : Nat → Nat → Prop) (a : WyR), SV w0 wx F2 p (upd s' 0 (outS (s' 0))) g7 g8 g9 g10 g13 (upd V' 1 a) P C K T X ∧ a.L = (V' 1).L ++ (outA (s' 0) ++ outB (s' 0)))
      case first J K_ hJ hK =>
        go_upto_region 23 with fail
        refine reg23_0 (by kernel_rfl) (by kernel_rfl) (by kernel_rfl) (by kernel_rfl) HR.out n1 ?_
        intro f W F2 a hS hL
        go_step
        refine hK _ _ (Met.intro (hJ _ _ ?_))
        (repeat apply Exists.intro)
        refine ⟨?_, rfl⟩
        exact ⟨F2, a, hS, hL⟩
      case rest =>
        obtain ⟨F2, a, hS, hL⟩ := hcut
        go_wp2_with fail
        go_round
        case rel => exact ⟨F2, _, _, hS, .inr (.inl ⟨rfl, rfl, a, rfl, hL⟩)⟩
        case measure => decide
    · go_upto_block 4 with fail
      go_cut [] from 101 to 116 (fun wx => ∃ (F2 : Nat → Nat → Prop) (b : WyR), SV w0 wx F2 p (upd (upd s 0 (outS (s 0))) 1 (outS ((upd s 0 (outS (s 0))) 1))) g7 g8 g9 g10 g13 (upd (upd V 1 a) 0 b) P C K T X ∧ b.L = (upd V 1 a 0).L ++ (outA ((upd s 0 (outS (s 0))) 1) ++ outB ((upd s 0 (outS (s 0))) 1)))
      case first J K_ hJ hK =>
        go_upto_region 23 with fail
        refine reg23_1 (by kernel_rfl) (by kernel_rfl) (by kernel_rfl) (by kernel_rfl) HR.out (show (upd V 1 a 0).n ≤ 100000 from n0) ?_
        intro f W F2 b hS hL
        go_step
        refine hK _ _ (Met.intro (hJ _ _ ?_))
        (repeat apply Exists.intro)
        refine ⟨?_, rfl⟩
        exact ⟨F2, b, hS, hL⟩
      case rest =>
        obtain ⟨F2, b, hS, hL⟩ := hcut
        go_wp2_with fail
        go_round
        case rel => exact ⟨F2, _, _, hS, .inr (.inr ⟨rfl, M0.out.send hc l0.1 l1.1 rfl rfl hL ha⟩)⟩
        case measure => decide
    · go_wp2_with fail
      refine HF.out _ _ ?_ ⟨F', s', V', P, C, to_S0 HR.out, hA⟩; kernel_rfl
end Go.Proofs.YtodimanghmepoaaDoor
namespace Go.Proofs.YtodimanghmepoaaDoor
open Go.RowKit
set_option maxRecDepth 100000 in
set_option maxHeartbeats 8000000 in
theorem swC0 {Q : Exit → Act → World → Prop} {d0} {u0 u1 u2 u4 u6 u15 u16 u17 u18 u19 u20 u21 u22 u23 u24 u25 u26 u27 u28 u29 u30 u31 u32 u33 u34 u35 u36 u37 u38 u39 u40 u41 u42 u43 u44 u45 u46 u47 u48 u49 u50 u51 u52 u53 u54 u55 u56 u57 u58 u59 u60 u61 u62 u63 u64 u65 u66 u67 u68 u69 u70 u71 u72 u73 u74 u75 u76 u77 u79 u80 u81 u82 u83 u84 u85 u86 u87 u88 u89 u90 u91 u92 u93 u94 u95 u96 u97 u98 u99 u100 u101 u102 u103 u104 u105 u106 u107 u108 u109 u110 u111 u112 u113 u114 u115 u116 u117 u118 u119 u120 u121 u122 u123 u124 u125 u126 u127 u128 u129 u130 u131 u132 u133 u134 u135 u136 u137 u138 u139 u140 u141 u142 u143 u144 u145 u146 u147 u148 u149 u150 u151 u152 u153 u154 u155 u156 u157 u158 u159 u160 u161 u162 u163 u164 u165 u166 u167 u168 u169 u170 u171 u172 u173 u174 u175 u176 u177 u178 u179 u180 u181 u182 u183 u184 u185 u186 u187 u188 u189 u190 u191 u192 u193 u194 u195 u196 u197 u198 u199 u200 u201 u202 u203 u204 u205 u206 u207 u208 u209 u210 u211 u212 u213 u214 u215 u216 u217 u218 u219 u220 u221 u222 u223 u224 u225 u226 u227 u228 u229 u230 u231 u232 u233 u234 u235 u236 u237 u238 u239 u240 u241 u242 u243 u244 u245 u246 u247 u248 u249 u250 u251 u252 u253 u254 u255 u256 u257 u258 u259 u260 u261 u262 u263 u264 u265 u266 u267 u268 u269 u270 u271 u272 u273 u274 u275 u276 u277 u278 u279 u280 u281 u282 u283 u284 u285 u286 u287 u288 u289 u290 u291 u292 u293 u294 u295 u296 u297 u298 u299 u300 u301 u302 u303 u304 u305 u306 u307 u308 u309 u310 u311 : Value} {w0 w : World} {F : Nat → Nat → Prop} {p : Nat → Nat} {s : Nat → LSt} {g7 g8 g9 g10 g13 : Nat} {V : Nat → WyR} {P C : Nat → List Nat} {K T X many k : Nat}
    (h : SV w0 w F p s g7 g8 g9 g10 g13 V P C K T X) (m : ME s V P C many k) (hm2 : many ≤ 200) (hk : k < many) (hT : T < 256)
    (hf : ∀ (l : List Value) (W : World), over (fun t => l.getD t undef) opSw 0 [u0, u1, u2, .pointer (some ⟨p 0, 0, none⟩), u4, .pointer (some ⟨p 1, 0, none⟩), u6, .pointer (some ⟨g7, 0, none⟩), .pointer (some ⟨g8, 0, none⟩), .pointer (some ⟨g9, 0, none⟩), .pointer (some ⟨g10, 0, none⟩), .int .i64 (many : Int), .int .i64 (k : Int), .pointer (some ⟨g13, 0, none⟩), .int .i64 0, u15, u16, u17, u18, u19, u20, u21, u22, u23, u24, u25, u26, u27, u28, u29, u30, u31, u32, u33, u34, u35, u36, u37, u38, u39, u40, u41, u42, u43, u44, u45, u46, u47, u48, u49, u50, u51, u52, u53, u54, u55, u56, u57, u58, u59, u60, u61, u62, u63, u64, u65, u66, u67, u68, u69, u70, u71, u72, u73, u74, u75, u76, u77, .int .u8 2, u79, u80, u81, u82, u83, u84, u85, u86, u87, u88, u89, u90, u91, u92, u93, u94, u95, u96, u97, u98, u99, u100, u101, u102, u103, u104, u105, u106, u107, u108, u109, u110, u111, u112, u113, u114, u115, u116, u117, u118, u119, u120, u121, u122, u123, u124, u125, u126, u127, u128, u129, u130, u131, u132, u133, u134, u135, u136, u137, u138, u139, u140, u141, u142, u143, u144, u145, u146, u147, u148, u149, u150, u151, u152, u153, u154, u155, u156, u157, u158, u159, u160, u161, u162, u163, u164, u165, u166, u167, u168, u169, u170, u171, u172, u173, u174, u175, u176, u177, u178, u179, u180, u181, u182, u183, u184, u185, u186, u187, u188, u189, u190, u191, u192, u193, u194, u195, u196, u197, u198, u199, u200, u201, u202, u203, u204, u205, u206, u207, u208, u209, u210, u211, u212, u213, u214, u215, u216, u217, u218, u219, u220, u221, u222, u223, u224, u225, u226, u227, u228, u229, u230, u231, u232, u233, u234, u235, u236, u237, u238, u239, u240, u241, u242, u243, u244, u245, u246, u247, u248, u249, u250, u251, u252, u253, u254, u255, u256, u257, u258, u259, u260, u261, u262, u263, u264, u265, u266, u267, u268, u269, u270, u271, u272, u273, u274, u275, u276, u277, u278, u279, u280, u281, u282, u283, u284, u285, u286, u287, u288, u289, u290, u291, u292, u293, u294, u295, u296, u297, u298, u299, u300, u301, u302, u303, u304, u305, u306, u307, u308, u309, u310, u311] = l → After w0 p g7 g8 g9 g10 many k W → Q .normal ⟨l.toArray, d0⟩ W) :
    sw.1.wp Tryd.prog Q ⟨[u0, u1, u2, .pointer (some ⟨p 0, 0, none⟩), u4, .pointer (some ⟨p 1, 0, none⟩), u6, .pointer (some ⟨g7, 0, none⟩), .pointer (some ⟨g8, 0, none⟩), .pointer (some ⟨g9, 0, none⟩), .pointer (some ⟨g10, 0, none⟩), .int .i64 (many : Int), .int .i64 (k : Int), .pointer (some ⟨g13, 0, none⟩), .int .i64 0, u15, u16, u17, u18, u19, u20, u21, u22, u23, u24, u25, u26, u27, u28, u29, u30, u31, u32, u33, u34, u35, u36, u37, u38, u39, u40, u41, u42, u43, u44, u45, u46, u47, u48, u49, u50, u51, u52, u53, u54, u55, u56, u57, u58, u59, u60, u61, u62, u63, u64, u65, u66, u67, u68, u69, u70, u71, u72, u73, u74, u75, u76, u77, .int .u8 2, u79, u80, u81, u82, u83, u84, u85, u86, u87, u88, u89, u90, u91, u92, u93, u94, u95, u96, u97, u98, u99, u100, u101, u102, u103, u104, u105, u106, u107, u108, u109, u110, u111, u112, u113, u114, u115, u116, u117, u118, u119, u120, u121, u122, u123, u124, u125, u126, u127, u128, u129, u130, u131, u132, u133, u134, u135, u136, u137, u138, u139, u140, u141, u142, u143, u144, u145, u146, u147, u148, u149, u150, u151, u152, u153, u154, u155, u156, u157, u158, u159, u160, u161, u162, u163, u164, u165, u166, u167, u168, u169, u170, u171, u172, u173, u174, u175, u176, u177, u178, u179, u180, u181, u182, u183, u184, u185, u186, u187, u188, u189, u190, u191, u192, u193, u194, u195, u196, u197, u198, u199, u200, u201, u202, u203, u204, u205, u206, u207, u208, u209, u210, u211, u212, u213, u214, u215, u216, u217, u218, u219, u220, u221, u222, u223, u224, u225, u226, u227, u228, u229, u230, u231, u232, u233, u234, u235, u236, u237, u238, u239, u240, u241, u242, u243, u244, u245, u246, u247, u248, u249, u250, u251, u252, u253, u254, u255, u256, u257, u258, u259, u260, u261, u262, u263, u264, u265, u266, u267, u268, u269, u270, u271, u272, u273, u274, u275, u276, u277, u278, u279, u280, u281, u282, u283, u284, u285, u286, u287, u288, u289, u290, u291, u292, u293, u294, u295, u296, u297, u298, u299, u300, u301, u302, u303, u304, u305, u306, u307, u308, u309, u310, u311].toArray, d0⟩ w := by
  dsimp only [sw]
  have n0 : (V 0).n ≤ 100000 := by have := (h.o 0 (by decide)).len; have := m.b0; omega
  have n1 : (V 1).n ≤ 100000 := by have := (h.o 1 (by decide)).len; have := m.b1; omega
  have l0 := (h.ways.ok 0 (by decide)).1.lf
  have l1 := (h.ways.ok 1 (by decide)).1.lf
  have H0 := Lib.hid h
  have M0 := Lib.hid m
  have HF := Lib.hid hf
  clear h m hf
  have q : w.cell? ⟨g8, 0, none⟩ = some (.slice (V 0).A (V 0).n (V 0).c) := H0.out.h8.cell 0
  have hl := (H0.out.o 0 (by decide)).len
  have HL := Lib.hid hl
  clear hl
  by_cases hz : (V 0).n = 0
  · have dz : decide ((0 : Int) < ((V 0).n : Int)) = false := decide_eq_false (by omega)
    have dz' : decide (0 < (V 0).n) = false := decide_eq_false (by omega)
    clear hz
    go_wp2_with fail
    refine HF.out _ _ ?_ ⟨F, s, V, P, C, to_S0 H0.out, M0.out.stay hk⟩; kernel_rfl
  have hz' : 0 < (V 0).n := by omega
  have HZ := Lib.hid hz'
  have dz : decide ((0 : Int) < ((V 0).n : Int)) = true := decide_eq_true (by omega)
  clear hz
  by_cases h40 : (V 0).n < 40
  · have d40 : decide (((V 0).n : Int) < 40) = true := decide_eq_true (by omega)
    go_upto_region 41 with fail
    refine reg41_0 (by kernel_rfl) (by kernel_rfl) (by kernel_rfl) (by kernel_rfl) H0.out hT HZ.out n0 ?_
    intro f W r b hb hL hS
    have hin : ∀ d ∈ r.L, d ∈ (V 0).L := by
      intro d hd
      rw [hL] at hd
      rcases List.mem_append.1 hd with h1 | h1
      · exact h1
      · rw [List.mem_singleton.1 h1]; exact hb
    have hle : r.L.length ≤ (V 0).L.length + 1 := by rw [hL]; simp
    have hA : After w0 p g7 g8 g9 g10 many k W := ⟨F, s, _, P, C, to_S0 hS, M0.out.ways (V' := upd V 0 r) hk hin (fun _ h => h) hle (Nat.le_succ _)⟩
    refine HF.out _ _ ?_ hA; kernel_rfl
  · have d40 : decide (((V 0).n : Int) < 40) = false := decide_eq_false (by omega)
    go_wp2_with fail
    refine HF.out _ _ ?_ ⟨F, s, V, P, C, to_S0 H0.out, M0.out.stay hk⟩; kernel_rfl
end Go.Proofs.YtodimanghmepoaaDoor
namespace Go.Proofs.YtodimanghmepoaaDoor
open Go.RowKit
set_option maxRecDepth 100000 in
set_option maxHeartbeats 8000000 in
theorem swC1 {Q : Exit → Act → World → Prop} {d0} {u0 u1 u2 u4 u6 u15 u16 u17 u18 u19 u20 u21 u22 u23 u24 u25 u26 u27 u28 u29 u30 u31 u32 u33 u34 u35 u36 u37 u38 u39 u40 u41 u42 u43 u44 u45 u46 u47 u48 u49 u50 u51 u52 u53 u54 u55 u56 u57 u58 u59 u60 u61 u62 u63 u64 u65 u66 u67 u68 u69 u70 u71 u72 u73 u74 u75 u76 u77 u79 u80 u81 u82 u83 u84 u85 u86 u87 u88 u89 u90 u91 u92 u93 u94 u95 u96 u97 u98 u99 u100 u101 u102 u103 u104 u105 u106 u107 u108 u109 u110 u111 u112 u113 u114 u115 u116 u117 u118 u119 u120 u121 u122 u123 u124 u125 u126 u127 u128 u129 u130 u131 u132 u133 u134 u135 u136 u137 u138 u139 u140 u141 u142 u143 u144 u145 u146 u147 u148 u149 u150 u151 u152 u153 u154 u155 u156 u157 u158 u159 u160 u161 u162 u163 u164 u165 u166 u167 u168 u169 u170 u171 u172 u173 u174 u175 u176 u177 u178 u179 u180 u181 u182 u183 u184 u185 u186 u187 u188 u189 u190 u191 u192 u193 u194 u195 u196 u197 u198 u199 u200 u201 u202 u203 u204 u205 u206 u207 u208 u209 u210 u211 u212 u213 u214 u215 u216 u217 u218 u219 u220 u221 u222 u223 u224 u225 u226 u227 u228 u229 u230 u231 u232 u233 u234 u235 u236 u237 u238 u239 u240 u241 u242 u243 u244 u245 u246 u247 u248 u249 u250 u251 u252 u253 u254 u255 u256 u257 u258 u259 u260 u261 u262 u263 u264 u265 u266 u267 u268 u269 u270 u271 u272 u273 u274 u275 u276 u277 u278 u279 u280 u281 u282 u283 u284 u285 u286 u287 u288 u289 u290 u291 u292 u293 u294 u295 u296 u297 u298 u299 u300 u301 u302 u303 u304 u305 u306 u307 u308 u309 u310 u311 : Value} {w0 w : World} {F : Nat → Nat → Prop} {p : Nat → Nat} {s : Nat → LSt} {g7 g8 g9 g10 g13 : Nat} {V : Nat → WyR} {P C : Nat → List Nat} {K T X many k : Nat}
    (h : SV w0 w F p s g7 g8 g9 g10 g13 V P C K T X) (m : ME s V P C many k) (hm2 : many ≤ 200) (hk : k < many) (hT : T < 256)
    (hf : ∀ (l : List Value) (W : World), over (fun t => l.getD t undef) opSw 0 [u0, u1, u2, .pointer (some ⟨p 0, 0, none⟩), u4, .pointer (some ⟨p 1, 0, none⟩), u6, .pointer (some ⟨g7, 0, none⟩), .pointer (some ⟨g8, 0, none⟩), .pointer (some ⟨g9, 0, none⟩), .pointer (some ⟨g10, 0, none⟩), .int .i64 (many : Int), .int .i64 (k : Int), .pointer (some ⟨g13, 0, none⟩), .int .i64 1, u15, u16, u17, u18, u19, u20, u21, u22, u23, u24, u25, u26, u27, u28, u29, u30, u31, u32, u33, u34, u35, u36, u37, u38, u39, u40, u41, u42, u43, u44, u45, u46, u47, u48, u49, u50, u51, u52, u53, u54, u55, u56, u57, u58, u59, u60, u61, u62, u63, u64, u65, u66, u67, u68, u69, u70, u71, u72, u73, u74, u75, u76, u77, .int .u8 2, u79, u80, u81, u82, u83, u84, u85, u86, u87, u88, u89, u90, u91, u92, u93, u94, u95, u96, u97, u98, u99, u100, u101, u102, u103, u104, u105, u106, u107, u108, u109, u110, u111, u112, u113, u114, u115, u116, u117, u118, u119, u120, u121, u122, u123, u124, u125, u126, u127, u128, u129, u130, u131, u132, u133, u134, u135, u136, u137, u138, u139, u140, u141, u142, u143, u144, u145, u146, u147, u148, u149, u150, u151, u152, u153, u154, u155, u156, u157, u158, u159, u160, u161, u162, u163, u164, u165, u166, u167, u168, u169, u170, u171, u172, u173, u174, u175, u176, u177, u178, u179, u180, u181, u182, u183, u184, u185, u186, u187, u188, u189, u190, u191, u192, u193, u194, u195, u196, u197, u198, u199, u200, u201, u202, u203, u204, u205, u206, u207, u208, u209, u210, u211, u212, u213, u214, u215, u216, u217, u218, u219, u220, u221, u222, u223, u224, u225, u226, u227, u228, u229, u230, u231, u232, u233, u234, u235, u236, u237, u238, u239, u240, u241, u242, u243, u244, u245, u246, u247, u248, u249, u250, u251, u252, u253, u254, u255, u256, u257, u258, u259, u260, u261, u262, u263, u264, u265, u266, u267, u268, u269, u270, u271, u272, u273, u274, u275, u276, u277, u278, u279, u280, u281, u282, u283, u284, u285, u286, u287, u288, u289, u290, u291, u292, u293, u294, u295, u296, u297, u298, u299, u300, u301, u302, u303, u304, u305, u306, u307, u308, u309, u310, u311] = l → After w0 p g7 g8 g9 g10 many k W → Q .normal ⟨l.toArray, d0⟩ W) :
    sw.1.wp Tryd.prog Q ⟨[u0, u1, u2, .pointer (some ⟨p 0, 0, none⟩), u4, .pointer (some ⟨p 1, 0, none⟩), u6, .pointer (some ⟨g7, 0, none⟩), .pointer (some ⟨g8, 0, none⟩), .pointer (some ⟨g9, 0, none⟩), .pointer (some ⟨g10, 0, none⟩), .int .i64 (many : Int), .int .i64 (k : Int), .pointer (some ⟨g13, 0, none⟩), .int .i64 1, u15, u16, u17, u18, u19, u20, u21, u22, u23, u24, u25, u26, u27, u28, u29, u30, u31, u32, u33, u34, u35, u36, u37, u38, u39, u40, u41, u42, u43, u44, u45, u46, u47, u48, u49, u50, u51, u52, u53, u54, u55, u56, u57, u58, u59, u60, u61, u62, u63, u64, u65, u66, u67, u68, u69, u70, u71, u72, u73, u74, u75, u76, u77, .int .u8 2, u79, u80, u81, u82, u83, u84, u85, u86, u87, u88, u89, u90, u91, u92, u93, u94, u95, u96, u97, u98, u99, u100, u101, u102, u103, u104, u105, u106, u107, u108, u109, u110, u111, u112, u113, u114, u115, u116, u117, u118, u119, u120, u121, u122, u123, u124, u125, u126, u127, u128, u129, u130, u131, u132, u133, u134, u135, u136, u137, u138, u139, u140, u141, u142, u143, u144, u145, u146, u147, u148, u149, u150, u151, u152, u153, u154, u155, u156, u157, u158, u159, u160, u161, u162, u163, u164, u165, u166, u167, u168, u169, u170, u171, u172, u173, u174, u175, u176, u177, u178, u179, u180, u181, u182, u183, u184, u185, u186, u187, u188, u189, u190, u191, u192, u193, u194, u195, u196, u197, u198, u199, u200, u201, u202, u203, u204, u205, u206, u207, u208, u209, u210, u211, u212, u213, u214, u215, u216, u217, u218, u219, u220, u221, u222, u223, u224, u225, u226, u227, u228, u229, u230, u231, u232, u233, u234, u235, u236, u237, u238, u239, u240, u241, u242, u243, u244, u245, u246, u247, u248, u249, u250, u251, u252, u253, u254, u255, u256, u257, u258, u259, u260, u261, u262, u263, u264, u265, u266, u267, u268, u269, u270, u271, u272, u273, u274, u275, u276, u277, u278, u279, u280, u281, u282, u283, u284, u285, u286, u287, u288, u289, u290, u291, u292, u293, u294, u295, u296, u297, u298, u299, u300, u301, u302, u303, u304, u305, u306, u307, u308, u309, u310, u311].toArray, d0⟩ w := by
  dsimp only [sw]
  have n0 : (V 0).n ≤ 100000 := by have := (h.o 0 (by decide)).len; have := m.b0; omega
  have n1 : (V 1).n ≤ 100000 := by have := (h.o 1 (by decide)).len; have := m.b1; omega
  have l0 := (h.ways.ok 0 (by decide)).1.lf
  have l1 := (h.ways.ok 1 (by decide)).1.lf
  have H0 := Lib.hid h
  have M0 := Lib.hid m
  have HF := Lib.hid hf
  clear h m hf
  have q : w.cell? ⟨g8, 1, none⟩ = some (.slice (V 1).A (V 1).n (V 1).c) := H0.out.h8.cell 1
  have hl := (H0.out.o 1 (by decide)).len
  have HL := Lib.hid hl
  clear hl
  by_cases hz : (V 1).n = 0
  · have dz : decide ((0 : Int) < ((V 1).n : Int)) = false := decide_eq_false (by omega)
    have dz' : decide (0 < (V 1).n) = false := decide_eq_false (by omega)
    clear hz
    go_wp2_with fail
    refine HF.out _ _ ?_ ⟨F, s, V, P, C, to_S0 H0.out, M0.out.stay hk⟩; kernel_rfl
  have hz' : 0 < (V 1).n := by omega
  have HZ := Lib.hid hz'
  have dz : decide ((0 : Int) < ((V 1).n : Int)) = true := decide_eq_true (by omega)
  clear hz
  by_cases h40 : (V 1).n < 40
  · have d40 : decide (((V 1).n : Int) < 40) = true := decide_eq_true (by omega)
    go_upto_region 41 with fail
    refine reg41_1 (by kernel_rfl) (by kernel_rfl) (by kernel_rfl) (by kernel_rfl) H0.out hT HZ.out n1 ?_
    intro f W r b hb hL hS
    have hin : ∀ d ∈ r.L, d ∈ (V 1).L := by
      intro d hd
      rw [hL] at hd
      rcases List.mem_append.1 hd with h1 | h1
      · exact h1
      · rw [List.mem_singleton.1 h1]; exact hb
    have hle : r.L.length ≤ (V 1).L.length + 1 := by rw [hL]; simp
    have hA : After w0 p g7 g8 g9 g10 many k W := ⟨F, s, _, P, C, to_S0 hS, M0.out.ways (V' := upd V 1 r) hk (fun _ h => h) hin (Nat.le_succ _) hle⟩
    refine HF.out _ _ ?_ hA; kernel_rfl
  · have d40 : decide (((V 1).n : Int) < 40) = false := decide_eq_false (by omega)
    go_wp2_with fail
    refine HF.out _ _ ?_ ⟨F, s, V, P, C, to_S0 H0.out, M0.out.stay hk⟩; kernel_rfl
end Go.Proofs.YtodimanghmepoaaDoor
namespace Go.Proofs.YtodimanghmepoaaDoor
open Go.RowKit
set_option maxRecDepth 100000 in
set_option maxHeartbeats 8000000 in
theorem swD0 {Q : Exit → Act → World → Prop} {d0} {u0 u1 u2 u4 u6 u15 u16 u17 u18 u19 u20 u21 u22 u23 u24 u25 u26 u27 u28 u29 u30 u31 u32 u33 u34 u35 u36 u37 u38 u39 u40 u41 u42 u43 u44 u45 u46 u47 u48 u49 u50 u51 u52 u53 u54 u55 u56 u57 u58 u59 u60 u61 u62 u63 u64 u65 u66 u67 u68 u69 u70 u71 u72 u73 u74 u75 u76 u77 u79 u80 u81 u82 u83 u84 u85 u86 u87 u88 u89 u90 u91 u92 u93 u94 u95 u96 u97 u98 u99 u100 u101 u102 u103 u104 u105 u106 u107 u108 u109 u110 u111 u112 u113 u114 u115 u116 u117 u118 u119 u120 u121 u122 u123 u124 u125 u126 u127 u128 u129 u130 u131 u132 u133 u134 u135 u136 u137 u138 u139 u140 u141 u142 u143 u144 u145 u146 u147 u148 u149 u150 u151 u152 u153 u154 u155 u156 u157 u158 u159 u160 u161 u162 u163 u164 u165 u166 u167 u168 u169 u170 u171 u172 u173 u174 u175 u176 u177 u178 u179 u180 u181 u182 u183 u184 u185 u186 u187 u188 u189 u190 u191 u192 u193 u194 u195 u196 u197 u198 u199 u200 u201 u202 u203 u204 u205 u206 u207 u208 u209 u210 u211 u212 u213 u214 u215 u216 u217 u218 u219 u220 u221 u222 u223 u224 u225 u226 u227 u228 u229 u230 u231 u232 u233 u234 u235 u236 u237 u238 u239 u240 u241 u242 u243 u244 u245 u246 u247 u248 u249 u250 u251 u252 u253 u254 u255 u256 u257 u258 u259 u260 u261 u262 u263 u264 u265 u266 u267 u268 u269 u270 u271 u272 u273 u274 u275 u276 u277 u278 u279 u280 u281 u282 u283 u284 u285 u286 u287 u288 u289 u290 u291 u292 u293 u294 u295 u296 u297 u298 u299 u300 u301 u302 u303 u304 u305 u306 u307 u308 u309 u310 u311 : Value} {w0 w : World} {F : Nat → Nat → Prop} {p : Nat → Nat} {s : Nat → LSt} {g7 g8 g9 g10 g13 : Nat} {V : Nat → WyR} {P C : Nat → List Nat} {K T X many k : Nat}
    (h : SV w0 w F p s g7 g8 g9 g10 g13 V P C K T X) (m : ME s V P C many k) (hm2 : many ≤ 200) (hk : k < many) (hT : T < 256)
    (hf : ∀ (l : List Value) (W : World), over (fun t => l.getD t undef) opSw 0 [u0, u1, u2, .pointer (some ⟨p 0, 0, none⟩), u4, .pointer (some ⟨p 1, 0, none⟩), u6, .pointer (some ⟨g7, 0, none⟩), .pointer (some ⟨g8, 0, none⟩), .pointer (some ⟨g9, 0, none⟩), .pointer (some ⟨g10, 0, none⟩), .int .i64 (many : Int), .int .i64 (k : Int), .pointer (some ⟨g13, 0, none⟩), .int .i64 0, u15, u16, u17, u18, u19, u20, u21, u22, u23, u24, u25, u26, u27, u28, u29, u30, u31, u32, u33, u34, u35, u36, u37, u38, u39, u40, u41, u42, u43, u44, u45, u46, u47, u48, u49, u50, u51, u52, u53, u54, u55, u56, u57, u58, u59, u60, u61, u62, u63, u64, u65, u66, u67, u68, u69, u70, u71, u72, u73, u74, u75, u76, u77, .int .u8 3, u79, u80, u81, u82, u83, u84, u85, u86, u87, u88, u89, u90, u91, u92, u93, u94, u95, u96, u97, u98, u99, u100, u101, u102, u103, u104, u105, u106, u107, u108, u109, u110, u111, u112, u113, u114, u115, u116, u117, u118, u119, u120, u121, u122, u123, u124, u125, u126, u127, u128, u129, u130, u131, u132, u133, u134, u135, u136, u137, u138, u139, u140, u141, u142, u143, u144, u145, u146, u147, u148, u149, u150, u151, u152, u153, u154, u155, u156, u157, u158, u159, u160, u161, u162, u163, u164, u165, u166, u167, u168, u169, u170, u171, u172, u173, u174, u175, u176, u177, u178, u179, u180, u181, u182, u183, u184, u185, u186, u187, u188, u189, u190, u191, u192, u193, u194, u195, u196, u197, u198, u199, u200, u201, u202, u203, u204, u205, u206, u207, u208, u209, u210, u211, u212, u213, u214, u215, u216, u217, u218, u219, u220, u221, u222, u223, u224, u225, u226, u227, u228, u229, u230, u231, u232, u233, u234, u235, u236, u237, u238, u239, u240, u241, u242, u243, u244, u245, u246, u247, u248, u249, u250, u251, u252, u253, u254, u255, u256, u257, u258, u259, u260, u261, u262, u263, u264, u265, u266, u267, u268, u269, u270, u271, u272, u273, u274, u275, u276, u277, u278, u279, u280, u281, u282, u283, u284, u285, u286, u287, u288, u289, u290, u291, u292, u293, u294, u295, u296, u297, u298, u299, u300, u301, u302, u303, u304, u305, u306, u307, u308, u309, u310, u311] = l → After w0 p g7 g8 g9 g10 many k W → Q .normal ⟨l.toArray, d0⟩ W) :
    sw.1.wp Tryd.prog Q ⟨[u0, u1, u2, .pointer (some ⟨p 0, 0, none⟩), u4, .pointer (some ⟨p 1, 0, none⟩), u6, .pointer (some ⟨g7, 0, none⟩), .pointer (some ⟨g8, 0, none⟩), .pointer (some ⟨g9, 0, none⟩), .pointer (some ⟨g10, 0, none⟩), .int .i64 (many : Int), .int .i64 (k : Int), .pointer (some ⟨g13, 0, none⟩), .int .i64 0, u15, u16, u17, u18, u19, u20, u21, u22, u23, u24, u25, u26, u27, u28, u29, u30, u31, u32, u33, u34, u35, u36, u37, u38, u39, u40, u41, u42, u43, u44, u45, u46, u47, u48, u49, u50, u51, u52, u53, u54, u55, u56, u57, u58, u59, u60, u61, u62, u63, u64, u65, u66, u67, u68, u69, u70, u71, u72, u73, u74, u75, u76, u77, .int .u8 3, u79, u80, u81, u82, u83, u84, u85, u86, u87, u88, u89, u90, u91, u92, u93, u94, u95, u96, u97, u98, u99, u100, u101, u102, u103, u104, u105, u106, u107, u108, u109, u110, u111, u112, u113, u114, u115, u116, u117, u118, u119, u120, u121, u122, u123, u124, u125, u126, u127, u128, u129, u130, u131, u132, u133, u134, u135, u136, u137, u138, u139, u140, u141, u142, u143, u144, u145, u146, u147, u148, u149, u150, u151, u152, u153, u154, u155, u156, u157, u158, u159, u160, u161, u162, u163, u164, u165, u166, u167, u168, u169, u170, u171, u172, u173, u174, u175, u176, u177, u178, u179, u180, u181, u182, u183, u184, u185, u186, u187, u188, u189, u190, u191, u192, u193, u194, u195, u196, u197, u198, u199, u200, u201, u202, u203, u204, u205, u206, u207, u208, u209, u210, u211, u212, u213, u214, u215, u216, u217, u218, u219, u220, u221, u222, u223, u224, u225, u226, u227, u228, u229, u230, u231, u232, u233, u234, u235, u236, u237, u238, u239, u240, u241, u242, u243, u244, u245, u246, u247, u248, u249, u250, u251, u252, u253, u254, u255, u256, u257, u258, u259, u260, u261, u262, u263, u264, u265, u266, u267, u268, u269, u270, u271, u272, u273, u274, u275, u276, u277, u278, u279, u280, u281, u282, u283, u284, u285, u286, u287, u288, u289, u290, u291, u292, u293, u294, u295, u296, u297, u298, u299, u300, u301, u302, u303, u304, u305, u306, u307, u308, u309, u310, u311].toArray, d0⟩ w := by
  dsimp only [sw]
  have n0 : (V 0).n ≤ 100000 := by have := (h.o 0 (by decide)).len; have := m.b0; omega
  have n1 : (V 1).n ≤ 100000 := by have := (h.o 1 (by decide)).len; have := m.b1; omega
  have l0 := (h.ways.ok 0 (by decide)).1.lf
  have l1 := (h.ways.ok 1 (by decide)).1.lf
  have H0 := Lib.hid h
  have M0 := Lib.hid m
  have HF := Lib.hid hf
  clear h m hf
  have q : w.cell? ⟨g8, 0, none⟩ = some (.slice (V 0).A (V 0).n (V 0).c) := H0.out.h8.cell 0
  have hl := (H0.out.o 0 (by decide)).len
  have HL := Lib.hid hl
  clear hl
  by_cases hz : (V 0).n = 0
  · have dz : decide ((0 : Int) < ((V 0).n : Int)) = false := decide_eq_false (by omega)
    have dz' : decide (0 < (V 0).n) = false := decide_eq_false (by omega)
    clear hz
    go_wp2_with fail
    refine HF.out _ _ ?_ ⟨F, s, V, P, C, to_S0 H0.out, M0.out.stay hk⟩; kernel_rfl
  have hz' : 0 < (V 0).n := by omega
  have HZ := Lib.hid hz'
  have dz : decide ((0 : Int) < ((V 0).n : Int)) = true := decide_eq_true (by omega)
  clear hz
  go_upto_region 44 with fail
  go_cut [23] from 53 to 295 (fun v wx => v = .int .i64 ((T % (V 0).n : Nat) : Int) ∧ SV w0 wx F p s g7 g8 g9 g10 g13 V P C K T X)
  case first J K_ hJ hK =>
    refine reg44_0 (by kernel_rfl) (by kernel_rfl) (by kernel_rfl) (by kernel_rfl) H0.out hT HZ.out ?_
    intro f W hS h23
    go_step
    refine hK _ _ (Met.intro (hJ _ _ ?_))
    (repeat apply Exists.intro)
    refine ⟨?_, rfl⟩
    exact ⟨h23, hS⟩
  case rest =>
    obtain ⟨rfl, hS⟩ := hcut
    have ha : T % (V 0).n < (V 0).n := Nat.mod_lt _ HZ.out
    generalize T % (V 0).n = a at *
    go_upto_region 45 with fail
    refine reg45_0 (by kernel_rfl) (by kernel_rfl) (by kernel_rfl) (by kernel_rfl) hS ha n0 ?_
    intro f W r hL hS2 _
    have hin : ∀ d ∈ r.L, d ∈ (V 0).L := by
      intro d hd
      rw [hL] at hd
      rcases List.mem_append.1 hd with h1 | h1
      · exact List.mem_of_mem_take h1
      · exact List.mem_of_mem_drop h1
    have hle : r.L.length ≤ (V 0).L.length + 1 := by rw [hL]; simp; omega
    have hA : After w0 p g7 g8 g9 g10 many k W := ⟨F, s, _, P, C, to_S0 hS2, M0.out.ways (V' := upd V 0 r) hk hin (fun _ h => h) hle (Nat.le_succ _)⟩
    refine HF.out _ _ ?_ hA; kernel_rfl
end Go.Proofs.YtodimanghmepoaaDoor
namespace Go.Proofs.YtodimanghmepoaaDoor
open Go.RowKit
set_option maxRecDepth 100000 in
set_option maxHeartbeats 8000000 in
theorem swD1 {Q : Exit → Act → World → Prop} {d0} {u0 u1 u2 u4 u6 u15 u16 u17 u18 u19 u20 u21 u22 u23 u24 u25 u26 u27 u28 u29 u30 u31 u32 u33 u34 u35 u36 u37 u38 u39 u40 u41 u42 u43 u44 u45 u46 u47 u48 u49 u50 u51 u52 u53 u54 u55 u56 u57 u58 u59 u60 u61 u62 u63 u64 u65 u66 u67 u68 u69 u70 u71 u72 u73 u74 u75 u76 u77 u79 u80 u81 u82 u83 u84 u85 u86 u87 u88 u89 u90 u91 u92 u93 u94 u95 u96 u97 u98 u99 u100 u101 u102 u103 u104 u105 u106 u107 u108 u109 u110 u111 u112 u113 u114 u115 u116 u117 u118 u119 u120 u121 u122 u123 u124 u125 u126 u127 u128 u129 u130 u131 u132 u133 u134 u135 u136 u137 u138 u139 u140 u141 u142 u143 u144 u145 u146 u147 u148 u149 u150 u151 u152 u153 u154 u155 u156 u157 u158 u159 u160 u161 u162 u163 u164 u165 u166 u167 u168 u169 u170 u171 u172 u173 u174 u175 u176 u177 u178 u179 u180 u181 u182 u183 u184 u185 u186 u187 u188 u189 u190 u191 u192 u193 u194 u195 u196 u197 u198 u199 u200 u201 u202 u203 u204 u205 u206 u207 u208 u209 u210 u211 u212 u213 u214 u215 u216 u217 u218 u219 u220 u221 u222 u223 u224 u225 u226 u227 u228 u229 u230 u231 u232 u233 u234 u235 u236 u237 u238 u239 u240 u241 u242 u243 u244 u245 u246 u247 u248 u249 u250 u251 u252 u253 u254 u255 u256 u257 u258 u259 u260 u261 u262 u263 u264 u265 u266 u267 u268 u269 u270 u271 u272 u273 u274 u275 u276 u277 u278 u279 u280 u281 u282 u283 u284 u285 u286 u287 u288 u289 u290 u291 u292 u293 u294 u295 u296 u297 u298 u299 u300 u301 u302 u303 u304 u305 u306 u307 u308 u309 u310 u311 : Value} {w0 w : World} {F : Nat → Nat → Prop} {p : Nat → Nat} {s : Nat → LSt} {g7 g8 g9 g10 g13 : Nat} {V : Nat → WyR} {P C : Nat → List Nat} {K T X many k : Nat}
    (h : SV w0 w F p s g7 g8 g9 g10 g13 V P C K T X) (m : ME s V P C many k) (hm2 : many ≤ 200) (hk : k < many) (hT : T < 256)
    (hf : ∀ (l : List Value) (W : World), over (fun t => l.getD t undef) opSw 0 [u0, u1, u2, .pointer (some ⟨p 0, 0, none⟩), u4, .pointer (some ⟨p 1, 0, none⟩), u6, .pointer (some ⟨g7, 0, none⟩), .pointer (some ⟨g8, 0, none⟩), .pointer (some ⟨g9, 0, none⟩), .pointer (some ⟨g10, 0, none⟩), .int .i64 (many : Int), .int .i64 (k : Int), .pointer (some ⟨g13, 0, none⟩), .int .i64 1, u15, u16, u17, u18, u19, u20, u21, u22, u23, u24, u25, u26, u27, u28, u29, u30, u31, u32, u33, u34, u35, u36, u37, u38, u39, u40, u41, u42, u43, u44, u45, u46, u47, u48, u49, u50, u51, u52, u53, u54, u55, u56, u57, u58, u59, u60, u61, u62, u63, u64, u65, u66, u67, u68, u69, u70, u71, u72, u73, u74, u75, u76, u77, .int .u8 3, u79, u80, u81, u82, u83, u84, u85, u86, u87, u88, u89, u90, u91, u92, u93, u94, u95, u96, u97, u98, u99, u100, u101, u102, u103, u104, u105, u106, u107, u108, u109, u110, u111, u112, u113, u114, u115, u116, u117, u118, u119, u120, u121, u122, u123, u124, u125, u126, u127, u128, u129, u130, u131, u132, u133, u134, u135, u136, u137, u138, u139, u140, u141, u142, u143, u144, u145, u146, u147, u148, u149, u150, u151, u152, u153, u154, u155, u156, u157, u158, u159, u160, u161, u162, u163, u164, u165, u166, u167, u168, u169, u170, u171, u172, u173, u174, u175, u176, u177, u178, u179, u180, u181, u182, u183, u184, u185, u186, u187, u188, u189, u190, u191, u192, u193, u194, u195, u196, u197, u198, u199, u200, u201, u202, u203, u204, u205, u206, u207, u208, u209, u210, u211, u212, u213, u214, u215, u216, u217, u218, u219, u220, u221, u222, u223, u224, u225, u226, u227, u228, u229, u230, u231, u232, u233, u234, u235, u236, u237, u238, u239, u240, u241, u242, u243, u244, u245, u246, u247, u248, u249, u250, u251, u252, u253, u254, u255, u256, u257, u258, u259, u260, u261, u262, u263, u264, u265, u266, u267, u268, u269, u270, u271, u272, u273, u274, u275, u276, u277, u278, u279, u280, u281, u282, u283, u284, u285, u286, u287, u288, u289, u290, u291, u292, u293, u294, u295, u296, u297, u298, u299, u300, u301, u302, u303, u304, u305, u306, u307, u308, u309, u310, u311] = l → After w0 p g7 g8 g9 g10 many k W → Q .normal ⟨l.toArray, d0⟩ W) :
    sw.1.wp Tryd.prog Q ⟨[u0, u1, u2, .pointer (some ⟨p 0, 0, none⟩), u4, .pointer (some ⟨p 1, 0, none⟩), u6, .pointer (some ⟨g7, 0, none⟩), .pointer (some ⟨g8, 0, none⟩), .pointer (some ⟨g9, 0, none⟩), .pointer (some ⟨g10, 0, none⟩), .int .i64 (many : Int), .int .i64 (k : Int), .pointer (some ⟨g13, 0, none⟩), .int .i64 1, u15, u16, u17, u18, u19, u20, u21, u22, u23, u24, u25, u26, u27, u28, u29, u30, u31, u32, u33, u34, u35, u36, u37, u38, u39, u40, u41, u42, u43, u44, u45, u46, u47, u48, u49, u50, u51, u52, u53, u54, u55, u56, u57, u58, u59, u60, u61, u62, u63, u64, u65, u66, u67, u68, u69, u70, u71, u72, u73, u74, u75, u76, u77, .int .u8 3, u79, u80, u81, u82, u83, u84, u85, u86, u87, u88, u89, u90, u91, u92, u93, u94, u95, u96, u97, u98, u99, u100, u101, u102, u103, u104, u105, u106, u107, u108, u109, u110, u111, u112, u113, u114, u115, u116, u117, u118, u119, u120, u121, u122, u123, u124, u125, u126, u127, u128, u129, u130, u131, u132, u133, u134, u135, u136, u137, u138, u139, u140, u141, u142, u143, u144, u145, u146, u147, u148, u149, u150, u151, u152, u153, u154, u155, u156, u157, u158, u159, u160, u161, u162, u163, u164, u165, u166, u167, u168, u169, u170, u171, u172, u173, u174, u175, u176, u177, u178, u179, u180, u181, u182, u183, u184, u185, u186, u187, u188, u189, u190, u191, u192, u193, u194, u195, u196, u197, u198, u199, u200, u201, u202, u203, u204, u205, u206, u207, u208, u209, u210, u211, u212, u213, u214, u215, u216, u217, u218, u219, u220, u221, u222, u223, u224, u225, u226, u227, u228, u229, u230, u231, u232, u233, u234, u235, u236, u237, u238, u239, u240, u241, u242, u243, u244, u245, u246, u247, u248, u249, u250, u251, u252, u253, u254, u255, u256, u257, u258, u259, u260, u261, u262, u263, u264, u265, u266, u267, u268, u269, u270, u271, u272, u273, u274, u275, u276, u277, u278, u279, u280, u281, u282, u283, u284, u285, u286, u287, u288, u289, u290, u291, u292, u293, u294, u295, u296, u297, u298, u299, u300, u301, u302, u303, u304, u305, u306, u307, u308, u309, u310, u311].toArray, d0⟩ w := by
  dsimp only [sw]
  have n0 : (V 0).n ≤ 100000 := by have := (h.o 0 (by decide)).len; have := m.b0; omega
  have n1 : (V 1).n ≤ 100000 := by have := (h.o 1 (by decide)).len; have := m.b1; omega
  have l0 := (h.ways.ok 0 (by decide)).1.lf
  have l1 := (h.ways.ok 1 (by decide)).1.lf
  have H0 := Lib.hid h
  have M0 := Lib.hid m
  have HF := Lib.hid hf
  clear h m hf
  have q : w.cell? ⟨g8, 1, none⟩ = some (.slice (V 1).A (V 1).n (V 1).c) := H0.out.h8.cell 1
  have hl := (H0.out.o 1 (by decide)).len
  have HL := Lib.hid hl
  clear hl
  by_cases hz : (V 1).n = 0
  · have dz : decide ((0 : Int) < ((V 1).n : Int)) = false := decide_eq_false (by omega)
    have dz' : decide (0 < (V 1).n) = false := decide_eq_false (by omega)
    clear hz
    go_wp2_with fail
    refine HF.out _ _ ?_ ⟨F, s, V, P, C, to_S0 H0.out, M0.out.stay hk⟩; kernel_rfl
  have hz' : 0 < (V 1).n := by omega
  have HZ := Lib.hid hz'
  have dz : decide ((0 : Int) < ((V 1).n : Int)) = true := decide_eq_true (by omega)
  clear hz
  go_upto_region 44 with fail
  go_cut [23] from 53 to 295 (fun v wx => v = .int .i64 ((T % (V 1).n : Nat) : Int) ∧ SV w0 wx F p s g7 g8 g9 g10 g13 V P C K T X)
  case first J K_ hJ hK =>
    refine reg44_1 (by kernel_rfl) (by kernel_rfl) (by kernel_rfl) (by kernel_rfl) H0.out hT HZ.out ?_
    intro f W hS h23
    go_step
    refine hK _ _ (Met.intro (hJ _ _ ?_))
    (repeat apply Exists.intro)
    refine ⟨?_, rfl⟩
    exact ⟨h23, hS⟩
  case rest =>
    obtain ⟨rfl, hS⟩ := hcut
    have ha : T % (V 1).n < (V 1).n := Nat.mod_lt _ HZ.out
    generalize T % (V 1).n = a at *
    go_upto_region 45 with fail
    refine reg45_1 (by kernel_rfl) (by kernel_rfl) (by kernel_rfl) (by kernel_rfl) hS ha n1 ?_
    intro f W r hL hS2 _
    have hin : ∀ d ∈ r.L, d ∈ (V 1).L := by
      intro d hd
      rw [hL] at hd
      rcases List.mem_append.1 hd with h1 | h1
      · exact List.mem_of_mem_take h1
      · exact List.mem_of_mem_drop h1
    have hle : r.L.length ≤ (V 1).L.length + 1 := by rw [hL]; simp; omega
    have hA : After w0 p g7 g8 g9 g10 many k W := ⟨F, s, _, P, C, to_S0 hS2, M0.out.ways (V' := upd V 1 r) hk (fun _ h => h) hin (Nat.le_succ _) hle⟩
    refine HF.out _ _ ?_ hA; kernel_rfl
end Go.Proofs.YtodimanghmepoaaDoor
namespace Go.Proofs.YtodimanghmepoaaDoor
open Go.RowKit
set_option maxRecDepth 100000 in
set_option maxHeartbeats 8000000 in
theorem swE {Q : Exit → Act → World → Prop} {d0} {u0 u1 u2 u4 u6 u14 u15 u16 u17 u18 u19 u20 u21 u22 u23 u24 u25 u26 u27 u28 u29 u30 u31 u32 u33 u34 u35 u36 u37 u38 u39 u40 u41 u42 u43 u44 u45 u46 u47 u48 u49 u50 u51 u52 u53 u54 u55 u56 u57 u58 u59 u60 u61 u62 u63 u64 u65 u66 u67 u68 u69 u70 u71 u72 u73 u74 u75 u76 u77 u79 u80 u81 u82 u83 u84 u85 u86 u87 u88 u89 u90 u91 u92 u93 u94 u95 u96 u97 u98 u99 u100 u101 u102 u103 u104 u105 u106 u107 u108 u109 u110 u111 u112 u113 u114 u115 u116 u117 u118 u119 u120 u121 u122 u123 u124 u125 u126 u127 u128 u129 u130 u131 u132 u133 u134 u135 u136 u137 u138 u139 u140 u141 u142 u143 u144 u145 u146 u147 u148 u149 u150 u151 u152 u153 u154 u155 u156 u157 u158 u159 u160 u161 u162 u163 u164 u165 u166 u167 u168 u169 u170 u171 u172 u173 u174 u175 u176 u177 u178 u179 u180 u181 u182 u183 u184 u185 u186 u187 u188 u189 u190 u191 u192 u193 u194 u195 u196 u197 u198 u199 u200 u201 u202 u203 u204 u205 u206 u207 u208 u209 u210 u211 u212 u213 u214 u215 u216 u217 u218 u219 u220 u221 u222 u223 u224 u225 u226 u227 u228 u229 u230 u231 u232 u233 u234 u235 u236 u237 u238 u239 u240 u241 u242 u243 u244 u245 u246 u247 u248 u249 u250 u251 u252 u253 u254 u255 u256 u257 u258 u259 u260 u261 u262 u263 u264 u265 u266 u267 u268 u269 u270 u271 u272 u273 u274 u275 u276 u277 u278 u279 u280 u281 u282 u283 u284 u285 u286 u287 u288 u289 u290 u291 u292 u293 u294 u295 u296 u297 u298 u299 u300 u301 u302 u303 u304 u305 u306 u307 u308 u309 u310 u311 : Value} {w0 w : World} {F : Nat → Nat → Prop} {p : Nat → Nat} {s : Nat → LSt} {g7 g8 g9 g10 g13 : Nat} {V : Nat → WyR} {P C : Nat → List Nat} {K T X many k : Nat}
    (h : SV w0 w F p s g7 g8 g9 g10 g13 V P C K T X) (m : ME s V P C many k) (hm2 : many ≤ 200) (hc : many ≤ k → k % 3 = 2)
    (hf : ∀ (l : List Value) (W : World), over (fun t => l.getD t undef) opSw 0 [u0, u1, u2, .pointer (some ⟨p 0, 0, none⟩), u4, .pointer (some ⟨p 1, 0, none⟩), u6, .pointer (some ⟨g7, 0, none⟩), .pointer (some ⟨g8, 0, none⟩), .pointer (some ⟨g9, 0, none⟩), .pointer (some ⟨g10, 0, none⟩), .int .i64 (many : Int), .int .i64 (k : Int), .pointer (some ⟨g13, 0, none⟩), u14, u15, u16, u17, u18, u19, u20, u21, u22, u23, u24, u25, u26, u27, u28, u29, u30, u31, u32, u33, u34, u35, u36, u37, u38, u39, u40, u41, u42, u43, u44, u45, u46, u47, u48, u49, u50, u51, u52, u53, u54, u55, u56, u57, u58, u59, u60, u61, u62, u63, u64, u65, u66, u67, u68, u69, u70, u71, u72, u73, u74, u75, u76, u77, .int .u8 4, u79, u80, u81, u82, u83, u84, u85, u86, u87, u88, u89, u90, u91, u92, u93, u94, u95, u96, u97, u98, u99, u100, u101, u102, u103, u104, u105, u106, u107, u108, u109, u110, u111, u112, u113, u114, u115, u116, u117, u118, u119, u120, u121, u122, u123, u124, u125, u126, u127, u128, u129, u130, u131, u132, u133, u134, u135, u136, u137, u138, u139, u140, u141, u142, u143, u144, u145, u146, u147, u148, u149, u150, u151, u152, u153, u154, u155, u156, u157, u158, u159, u160, u161, u162, u163, u164, u165, u166, u167, u168, u169, u170, u171, u172, u173, u174, u175, u176, u177, u178, u179, u180, u181, u182, u183, u184, u185, u186, u187, u188, u189, u190, u191, u192, u193, u194, u195, u196, u197, u198, u199, u200, u201, u202, u203, u204, u205, u206, u207, u208, u209, u210, u211, u212, u213, u214, u215, u216, u217, u218, u219, u220, u221, u222, u223, u224, u225, u226, u227, u228, u229, u230, u231, u232, u233, u234, u235, u236, u237, u238, u239, u240, u241, u242, u243, u244, u245, u246, u247, u248, u249, u250, u251, u252, u253, u254, u255, u256, u257, u258, u259, u260, u261, u262, u263, u264, u265, u266, u267, u268, u269, u270, u271, u272, u273, u274, u275, u276, u277, u278, u279, u280, u281, u282, u283, u284, u285, u286, u287, u288, u289, u290, u291, u292, u293, u294, u295, u296, u297, u298, u299, u300, u301, u302, u303, u304, u305, u306, u307, u308, u309, u310, u311] = l → After w0 p g7 g8 g9 g10 many k W → Q .normal ⟨l.toArray, d0⟩ W) :
    sw.1.wp Tryd.prog Q ⟨[u0, u1, u2, .pointer (some ⟨p 0, 0, none⟩), u4, .pointer (some ⟨p 1, 0, none⟩), u6, .pointer (some ⟨g7, 0, none⟩), .pointer (some ⟨g8, 0, none⟩), .pointer (some ⟨g9, 0, none⟩), .pointer (some ⟨g10, 0, none⟩), .int .i64 (many : Int), .int .i64 (k : Int), .pointer (some ⟨g13, 0, none⟩), u14, u15, u16, u17, u18, u19, u20, u21, u22, u23, u24, u25, u26, u27, u28, u29, u30, u31, u32, u33, u34, u35, u36, u37, u38, u39, u40, u41, u42, u43, u44, u45, u46, u47, u48, u49, u50, u51, u52, u53, u54, u55, u56, u57, u58, u59, u60, u61, u62, u63, u64, u65, u66, u67, u68, u69, u70, u71, u72, u73, u74, u75, u76, u77, .int .u8 4, u79, u80, u81, u82, u83, u84, u85, u86, u87, u88, u89, u90, u91, u92, u93, u94, u95, u96, u97, u98, u99, u100, u101, u102, u103, u104, u105, u106, u107, u108, u109, u110, u111, u112, u113, u114, u115, u116, u117, u118, u119, u120, u121, u122, u123, u124, u125, u126, u127, u128, u129, u130, u131, u132, u133, u134, u135, u136, u137, u138, u139, u140, u141, u142, u143, u144, u145, u146, u147, u148, u149, u150, u151, u152, u153, u154, u155, u156, u157, u158, u159, u160, u161, u162, u163, u164, u165, u166, u167, u168, u169, u170, u171, u172, u173, u174, u175, u176, u177, u178, u179, u180, u181, u182, u183, u184, u185, u186, u187, u188, u189, u190, u191, u192, u193, u194, u195, u196, u197, u198, u199, u200, u201, u202, u203, u204, u205, u206, u207, u208, u209, u210, u211, u212, u213, u214, u215, u216, u217, u218, u219, u220, u221, u222, u223, u224, u225, u226, u227, u228, u229, u230, u231, u232, u233, u234, u235, u236, u237, u238, u239, u240, u241, u242, u243, u244, u245, u246, u247, u248, u249, u250, u251, u252, u253, u254, u255, u256, u257, u258, u259, u260, u261, u262, u263, u264, u265, u266, u267, u268, u269, u270, u271, u272, u273, u274, u275, u276, u277, u278, u279, u280, u281, u282, u283, u284, u285, u286, u287, u288, u289, u290, u291, u292, u293, u294, u295, u296, u297, u298, u299, u300, u301, u302, u303, u304, u305, u306, u307, u308, u309, u310, u311].toArray, d0⟩ w := by
  dsimp only [sw]
  have n0 : (V 0).n ≤ 100000 := by have := (h.o 0 (by decide)).len; have := m.b0; omega
  have n1 : (V 1).n ≤ 100000 := by have := (h.o 1 (by decide)).len; have := m.b1; omega
  have l0 := (h.ways.ok 0 (by decide)).1.lf
  have l1 := (h.ways.ok 1 (by decide)).1.lf
  have H0 := Lib.hid h
  have M0 := Lib.hid m
  have HF := Lib.hid hf
  clear h m hf
  go_wp2_with fail
  with_reducible refine (w_tick H0.out.ways 0 (by decide)).mono ?_
  rintro e w1 ⟨rfl, F1, hw1, hk1, -⟩
  have H1 := Lib.hid (H0.out.prog hw1 hk1)
  clear hw1 hk1 H0
  go_wp2_with fail
  with_reducible refine (w_tick H1.out.ways 1 (by decide)).mono ?_
  rintro e w2 ⟨rfl, F2, hw2, hk2, -⟩
  have H2 := Lib.hid (H1.out.prog hw2 hk2)
  clear hw2 hk2 H1
  go_wp2_with fail
  refine HF.out _ _ ?_ ⟨F2, _, V, P, C, to_S0 H2.out, M0.out.tick hc l0.1 l1.1 rfl rfl⟩; kernel_rfl
end Go.Proofs.YtodimanghmepoaaDoor
namespace Go.Proofs.YtodimanghmepoaaDoor
open Go.RowKit
set_option maxRecDepth 100000 in
set_option maxHeartbeats 8000000 in
theorem swF0 {Q : Exit → Act → World → Prop} {d0} {u0 u1 u2 u4 u6 u15 u16 u17 u18 u19 u20 u21 u22 u23 u24 u25 u26 u27 u28 u29 u30 u31 u32 u33 u34 u35 u36 u37 u38 u39 u40 u41 u42 u43 u44 u45 u46 u47 u48 u49 u50 u51 u52 u53 u54 u55 u56 u57 u58 u59 u60 u61 u62 u63 u64 u65 u66 u67 u68 u69 u70 u71 u72 u73 u74 u75 u76 u77 u79 u80 u81 u82 u83 u84 u85 u86 u87 u88 u89 u90 u91 u92 u93 u94 u95 u96 u97 u98 u99 u100 u101 u102 u103 u104 u105 u106 u107 u108 u109 u110 u111 u112 u113 u114 u115 u116 u117 u118 u119 u120 u121 u122 u123 u124 u125 u126 u127 u128 u129 u130 u131 u132 u133 u134 u135 u136 u137 u138 u139 u140 u141 u142 u143 u144 u145 u146 u147 u148 u149 u150 u151 u152 u153 u154 u155 u156 u157 u158 u159 u160 u161 u162 u163 u164 u165 u166 u167 u168 u169 u170 u171 u172 u173 u174 u175 u176 u177 u178 u179 u180 u181 u182 u183 u184 u185 u186 u187 u188 u189 u190 u191 u192 u193 u194 u195 u196 u197 u198 u199 u200 u201 u202 u203 u204 u205 u206 u207 u208 u209 u210 u211 u212 u213 u214 u215 u216 u217 u218 u219 u220 u221 u222 u223 u224 u225 u226 u227 u228 u229 u230 u231 u232 u233 u234 u235 u236 u237 u238 u239 u240 u241 u242 u243 u244 u245 u246 u247 u248 u249 u250 u251 u252 u253 u254 u255 u256 u257 u258 u259 u260 u261 u262 u263 u264 u265 u266 u267 u268 u269 u270 u271 u272 u273 u274 u275 u276 u277 u278 u279 u280 u281 u282 u283 u284 u285 u286 u287 u288 u289 u290 u291 u292 u293 u294 u295 u296 u297 u298 u299 u300 u301 u302 u303 u304 u305 u306 u307 u308 u309 u310 u311 : Value} {w0 w : World} {F : Nat → Nat → Prop} {p : Nat → Nat} {s : Nat → LSt} {g7 g8 g9 g10 g13 : Nat} {V : Nat → WyR} {P C : Nat → List Nat} {K T X many k : Nat}
    (h : SV w0 w F p s g7 g8 g9 g10 g13 V P C K T X) (m : ME s V P C many k) (hm2 : many ≤ 200) (hk : k < many) (hX : X < 256)
    (hf : ∀ (l : List Value) (W : World), over (fun t => l.getD t undef) opSw 0 [u0, u1, u2, .pointer (some ⟨p 0, 0, none⟩), u4, .pointer (some ⟨p 1, 0, none⟩), u6, .pointer (some ⟨g7, 0, none⟩), .pointer (some ⟨g8, 0, none⟩), .pointer (some ⟨g9, 0, none⟩), .pointer (some ⟨g10, 0, none⟩), .int .i64 (many : Int), .int .i64 (k : Int), .pointer (some ⟨g13, 0, none⟩), .int .i64 0, u15, u16, u17, u18, u19, u20, u21, u22, u23, u24, u25, u26, u27, u28, u29, u30, u31, u32, u33, u34, u35, u36, u37, u38, u39, u40, u41, u42, u43, u44, u45, u46, u47, u48, u49, u50, u51, u52, u53, u54, u55, u56, u57, u58, u59, u60, u61, u62, u63, u64, u65, u66, u67, u68, u69, u70, u71, u72, u73, u74, u75, u76, u77, .int .u8 5, u79, u80, u81, u82, u83, u84, u85, u86, u87, u88, u89, u90, u91, u92, u93, u94, u95, u96, u97, u98, u99, u100, u101, u102, u103, u104, u105, u106, u107, u108, u109, u110, u111, u112, u113, u114, u115, u116, u117, u118, u119, u120, u121, u122, u123, u124, u125, u126, u127, u128, u129, u130, u131, u132, u133, u134, u135, u136, u137, u138, u139, u140, u141, u142, u143, u144, u145, u146, u147, u148, u149, u150, u151, u152, u153, u154, u155, u156, u157, u158, u159, u160, u161, u162, u163, u164, u165, u166, u167, u168, u169, u170, u171, u172, u173, u174, u175, u176, u177, u178, u179, u180, u181, u182, u183, u184, u185, u186, u187, u188, u189, u190, u191, u192, u193, u194, u195, u196, u197, u198, u199, u200, u201, u202, u203, u204, u205, u206, u207, u208, u209, u210, u211, u212, u213, u214, u215, u216, u217, u218, u219, u220, u221, u222, u223, u224, u225, u226, u227, u228, u229, u230, u231, u232, u233, u234, u235, u236, u237, u238, u239, u240, u241, u242, u243, u244, u245, u246, u247, u248, u249, u250, u251, u252, u253, u254, u255, u256, u257, u258, u259, u260, u261, u262, u263, u264, u265, u266, u267, u268, u269, u270, u271, u272, u273, u274, u275, u276, u277, u278, u279, u280, u281, u282, u283, u284, u285, u286, u287, u288, u289, u290, u291, u292, u293, u294, u295, u296, u297, u298, u299, u300, u301, u302, u303, u304, u305, u306, u307, u308, u309, u310, u311] = l → After w0 p g7 g8 g9 g10 many k W → Q .normal ⟨l.toArray, d0⟩ W) :
    sw.1.wp Tryd.prog Q ⟨[u0, u1, u2, .pointer (some ⟨p 0, 0, none⟩), u4, .pointer (some ⟨p 1, 0, none⟩), u6, .pointer (some ⟨g7, 0, none⟩), .pointer (some ⟨g8, 0, none⟩), .pointer (some ⟨g9, 0, none⟩), .pointer (some ⟨g10, 0, none⟩), .int .i64 (many : Int), .int .i64 (k : Int), .pointer (some ⟨g13, 0, none⟩), .int .i64 0, u15, u16, u17, u18, u19, u20, u21, u22, u23, u24, u25, u26, u27, u28, u29, u30, u31, u32, u33, u34, u35, u36, u37, u38, u39, u40, u41, u42, u43, u44, u45, u46, u47, u48, u49, u50, u51, u52, u53, u54, u55, u56, u57, u58, u59, u60, u61, u62, u63, u64, u65, u66, u67, u68, u69, u70, u71, u72, u73, u74, u75, u76, u77, .int .u8 5, u79, u80, u81, u82, u83, u84, u85, u86, u87, u88, u89, u90, u91, u92, u93, u94, u95, u96, u97, u98, u99, u100, u101, u102, u103, u104, u105, u106, u107, u108, u109, u110, u111, u112, u113, u114, u115, u116, u117, u118, u119, u120, u121, u122, u123, u124, u125, u126, u127, u128, u129, u130, u131, u132, u133, u134, u135, u136, u137, u138, u139, u140, u141, u142, u143, u144, u145, u146, u147, u148, u149, u150, u151, u152, u153, u154, u155, u156, u157, u158, u159, u160, u161, u162, u163, u164, u165, u166, u167, u168, u169, u170, u171, u172, u173, u174, u175, u176, u177, u178, u179, u180, u181, u182, u183, u184, u185, u186, u187, u188, u189, u190, u191, u192, u193, u194, u195, u196, u197, u198, u199, u200, u201, u202, u203, u204, u205, u206, u207, u208, u209, u210, u211, u212, u213, u214, u215, u216, u217, u218, u219, u220, u221, u222, u223, u224, u225, u226, u227, u228, u229, u230, u231, u232, u233, u234, u235, u236, u237, u238, u239, u240, u241, u242, u243, u244, u245, u246, u247, u248, u249, u250, u251, u252, u253, u254, u255, u256, u257, u258, u259, u260, u261, u262, u263, u264, u265, u266, u267, u268, u269, u270, u271, u272, u273, u274, u275, u276, u277, u278, u279, u280, u281, u282, u283, u284, u285, u286, u287, u288, u289, u290, u291, u292, u293, u294, u295, u296, u297, u298, u299, u300, u301, u302, u303, u304, u305, u306, u307, u308, u309, u310, u311].toArray, d0⟩ w := by
  dsimp only [sw]
  have n0 : (V 0).n ≤ 100000 := by have := (h.o 0 (by decide)).len; have := m.b0; omega
  have n1 : (V 1).n ≤ 100000 := by have := (h.o 1 (by decide)).len; have := m.b1; omega
  have l0 := (h.ways.ok 0 (by decide)).1.lf
  have l1 := (h.ways.ok 1 (by decide)).1.lf
  have H0 := Lib.hid h
  have M0 := Lib.hid m
  have HF := Lib.hid hf
  clear h m hf
  have hSl : (s 0).S + (s 0).l.length ≤ 1073741824 := dir_S M0.out.ti.dy (by have := M0.out.p1.1; omega)
  go_upto_region 17 with fail
  go_cut [86] from 53 to 295 (fun v wx => ∃ (F' : Nat → Nat → Prop) (s' : Nat → LSt) (b : Bool), v = .bool b ∧ SV w0 wx F' p s' g7 g8 g9 g10 g13 V P C K T X ∧ ((b = true ∧ s' = upd s 0 (putS (s 0) [X])) ∨ (b = false ∧ s' = s)))
  case first J K_ hJ hK =>
    refine reg17_0 (by kernel_rfl) (by kernel_rfl) (by kernel_rfl) (by kernel_rfl) H0.out hX hSl ?_
    intro f W F' s' b hS h86 hb
    go_step
    refine hK _ _ (Met.intro (hJ _ _ ?_))
    (repeat apply Exists.intro)
    refine ⟨?_, rfl⟩
    exact ⟨F', s', b, h86, hS, hb.imp (fun h => ⟨h.1, h.2.2⟩) id⟩
  case rest =>
    obtain ⟨F', s', b, rfl, hS, hb⟩ := hcut
    rcases hb with ⟨rfl, rfl⟩ | ⟨rfl, rfl⟩
    · go_upto_region 18 with fail
      refine reg18_0 (by kernel_rfl) (by kernel_rfl) (by kernel_rfl) (by kernel_rfl) hS (by have := M0.out.p1.1; omega) ?_
      intro f W hS2
      have hA : After w0 p g7 g8 g9 g10 many k W := ⟨F', _, V, _, C, to_S0 hS2, M0.out.put0 hk hX rfl rfl rfl rfl hm2⟩
      refine HF.out _ _ ?_ hA; kernel_rfl
    · have hA : After w0 p g7 g8 g9 g10 many k wc := ⟨F', _, V, P, C, to_S0 hS, M0.out.stay hk⟩
      go_wp2_with fail
      refine HF.out _ _ ?_ hA; kernel_rfl
end Go.Proofs.YtodimanghmepoaaDoor
namespace Go.Proofs.YtodimanghmepoaaDoor
open Go.RowKit
set_option maxRecDepth 100000 in
set_option maxHeartbeats 8000000 in
theorem swF1 {Q : Exit → Act → World → Prop} {d0} {u0 u1 u2 u4 u6 u15 u16 u17 u18 u19 u20 u21 u22 u23 u24 u25 u26 u27 u28 u29 u30 u31 u32 u33 u34 u35 u36 u37 u38 u39 u40 u41 u42 u43 u44 u45 u46 u47 u48 u49 u50 u51 u52 u53 u54 u55 u56 u57 u58 u59 u60 u61 u62 u63 u64 u65 u66 u67 u68 u69 u70 u71 u72 u73 u74 u75 u76 u77 u79 u80 u81 u82 u83 u84 u85 u86 u87 u88 u89 u90 u91 u92 u93 u94 u95 u96 u97 u98 u99 u100 u101 u102 u103 u104 u105 u106 u107 u108 u109 u110 u111 u112 u113 u114 u115 u116 u117 u118 u119 u120 u121 u122 u123 u124 u125 u126 u127 u128 u129 u130 u131 u132 u133 u134 u135 u136 u137 u138 u139 u140 u141 u142 u143 u144 u145 u146 u147 u148 u149 u150 u151 u152 u153 u154 u155 u156 u157 u158 u159 u160 u161 u162 u163 u164 u165 u166 u167 u168 u169 u170 u171 u172 u173 u174 u175 u176 u177 u178 u179 u180 u181 u182 u183 u184 u185 u186 u187 u188 u189 u190 u191 u192 u193 u194 u195 u196 u197 u198 u199 u200 u201 u202 u203 u204 u205 u206 u207 u208 u209 u210 u211 u212 u213 u214 u215 u216 u217 u218 u219 u220 u221 u222 u223 u224 u225 u226 u227 u228 u229 u230 u231 u232 u233 u234 u235 u236 u237 u238 u239 u240 u241 u242 u243 u244 u245 u246 u247 u248 u249 u250 u251 u252 u253 u254 u255 u256 u257 u258 u259 u260 u261 u262 u263 u264 u265 u266 u267 u268 u269 u270 u271 u272 u273 u274 u275 u276 u277 u278 u279 u280 u281 u282 u283 u284 u285 u286 u287 u288 u289 u290 u291 u292 u293 u294 u295 u296 u297 u298 u299 u300 u301 u302 u303 u304 u305 u306 u307 u308 u309 u310 u311 : Value} {w0 w : World} {F : Nat → Nat → Prop} {p : Nat → Nat} {s : Nat → LSt} {g7 g8 g9 g10 g13 : Nat} {V : Nat → WyR} {P C : Nat → List Nat} {K T X many k : Nat}
    (h : SV w0 w F p s g7 g8 g9 g10 g13 V P C K T X) (m : ME s V P C many k) (hm2 : many ≤ 200) (hk : k < many) (hX : X < 256)
    (hf : ∀ (l : List Value) (W : World), over (fun t => l.getD t undef) opSw 0 [u0, u1, u2, .pointer (some ⟨p 0, 0, none⟩), u4, .pointer (some ⟨p 1, 0, none⟩), u6, .pointer (some ⟨g7, 0, none⟩), .pointer (some ⟨g8, 0, none⟩), .pointer (some ⟨g9, 0, none⟩), .pointer (some ⟨g10, 0, none⟩), .int .i64 (many : Int), .int .i64 (k : Int), .pointer (some ⟨g13, 0, none⟩), .int .i64 1, u15, u16, u17, u18, u19, u20, u21, u22, u23, u24, u25, u26, u27, u28, u29, u30, u31, u32, u33, u34, u35, u36, u37, u38, u39, u40, u41, u42, u43, u44, u45, u46, u47, u48, u49, u50, u51, u52, u53, u54, u55, u56, u57, u58, u59, u60, u61, u62, u63, u64, u65, u66, u67, u68, u69, u70, u71, u72, u73, u74, u75, u76, u77, .int .u8 5, u79, u80, u81, u82, u83, u84, u85, u86, u87, u88, u89, u90, u91, u92, u93, u94, u95, u96, u97, u98, u99, u100, u101, u102, u103, u104, u105, u106, u107, u108, u109, u110, u111, u112, u113, u114, u115, u116, u117, u118, u119, u120, u121, u122, u123, u124, u125, u126, u127, u128, u129, u130, u131, u132, u133, u134, u135, u136, u137, u138, u139, u140, u141, u142, u143, u144, u145, u146, u147, u148, u149, u150, u151, u152, u153, u154, u155, u156, u157, u158, u159, u160, u161, u162, u163, u164, u165, u166, u167, u168, u169, u170, u171, u172, u173, u174, u175, u176, u177, u178, u179, u180, u181, u182, u183, u184, u185, u186, u187, u188, u189, u190, u191, u192, u193, u194, u195, u196, u197, u198, u199, u200, u201, u202, u203, u204, u205, u206, u207, u208, u209, u210, u211, u212, u213, u214, u215, u216, u217, u218, u219, u220, u221, u222, u223, u224, u225, u226, u227, u228, u229, u230, u231, u232, u233, u234, u235, u236, u237, u238, u239, u240, u241, u242, u243, u244, u245, u246, u247, u248, u249, u250, u251, u252, u253, u254, u255, u256, u257, u258, u259, u260, u261, u262, u263, u264, u265, u266, u267, u268, u269, u270, u271, u272, u273, u274, u275, u276, u277, u278, u279, u280, u281, u282, u283, u284, u285, u286, u287, u288, u289, u290, u291, u292, u293, u294, u295, u296, u297, u298, u299, u300, u301, u302, u303, u304, u305, u306, u307, u308, u309, u310, u311] = l → After w0 p g7 g8 g9 g10 many k W → Q .normal ⟨l.toArray, d0⟩ W) :
    sw.1.wp Tryd.prog Q ⟨[u0, u1, u2, .pointer (some ⟨p 0, 0, none⟩), u4, .pointer (some ⟨p 1, 0, none⟩), u6, .pointer (some ⟨g7, 0, none⟩), .pointer (some ⟨g8, 0, none⟩), .pointer (some ⟨g9, 0, none⟩), .pointer (some ⟨g10, 0, none⟩), .int .i64 (many : Int), .int .i64 (k : Int), .pointer (some ⟨g13, 0, none⟩), .int .i64 1, u15, u16, u17, u18, u19, u20, u21, u22, u23, u24, u25, u26, u27, u28, u29, u30, u31, u32, u33, u34, u35, u36, u37, u38, u39, u40, u41, u42, u43, u44, u45, u46, u47, u48, u49, u50, u51, u52, u53, u54, u55, u56, u57, u58, u59, u60, u61, u62, u63, u64, u65, u66, u67, u68, u69, u70, u71, u72, u73, u74, u75, u76, u77, .int .u8 5, u79, u80, u81, u82, u83, u84, u85, u86, u87, u88, u89, u90, u91, u92, u93, u94, u95, u96, u97, u98, u99, u100, u101, u102, u103, u104, u105, u106, u107, u108, u109, u110, u111, u112, u113, u114, u115, u116, u117, u118, u119, u120, u121, u122, u123, u124, u125, u126, u127, u128, u129, u130, u131, u132, u133, u134, u135, u136, u137, u138, u139, u140, u141, u142, u143, u144, u145, u146, u147, u148, u149, u150, u151, u152, u153, u154, u155, u156, u157, u158, u159, u160, u161, u162, u163, u164, u165, u166, u167, u168, u169, u170, u171, u172, u173, u174, u175, u176, u177, u178, u179, u180, u181, u182, u183, u184, u185, u186, u187, u188, u189, u190, u191, u192, u193, u194, u195, u196, u197, u198, u199, u200, u201, u202, u203, u204, u205, u206, u207, u208, u209, u210, u211, u212, u213, u214, u215, u216, u217, u218, u219, u220, u221, u222, u223, u224, u225, u226, u227, u228, u229, u230, u231, u232, u233, u234, u235, u236, u237, u238, u239, u240, u241, u242, u243, u244, u245, u246, u247, u248, u249, u250, u251, u252, u253, u254, u255, u256, u257, u258, u259, u260, u261, u262, u263, u264, u265, u266, u267, u268, u269, u270, u271, u272, u273, u274, u275, u276, u277, u278, u279, u280, u281, u282, u283, u284, u285, u286, u287, u288, u289, u290, u291, u292, u293, u294, u295, u296, u297, u298, u299, u300, u301, u302, u303, u304, u305, u306, u307, u308, u309, u310, u311].toArray, d0⟩ w := by
  dsimp only [sw]
  have n0 : (V 0).n ≤ 100000 := by have := (h.o 0 (by decide)).len; have := m.b0; omega
  have n1 : (V 1).n ≤ 100000 := by have := (h.o 1 (by decide)).len; have := m.b1; omega
  have l0 := (h.ways.ok 0 (by decide)).1.lf
  have l1 := (h.ways.ok 1 (by decide)).1.lf
  have H0 := Lib.hid h
  have M0 := Lib.hid m
  have HF := Lib.hid hf
  clear h m hf
  have hSl : (s 1).S + (s 1).l.length ≤ 1073741824 := dir_S M0.out.ti.dx (by have := M0.out.p0.1; omega)
  go_upto_region 17 with fail
  go_cut [86] from 53 to 295 (fun v wx => ∃ (F' : Nat → Nat → Prop) (s' : Nat → LSt) (b : Bool), v = .bool b ∧ SV w0 wx F' p s' g7 g8 g9 g10 g13 V P C K T X ∧ ((b = true ∧ s' = upd s 1 (putS (s 1) [X])) ∨ (b = false ∧ s' = s)))
  case first J K_ hJ hK =>
    refine reg17_1 (by kernel_rfl) (by kernel_rfl) (by kernel_rfl) (by kernel_rfl) H0.out hX hSl ?_
    intro f W F' s' b hS h86 hb
    go_step
    refine hK _ _ (Met.intro (hJ _ _ ?_))
    (repeat apply Exists.intro)
    refine ⟨?_, rfl⟩
    exact ⟨F', s', b, h86, hS, hb.imp (fun h => ⟨h.1, h.2.2⟩) id⟩
  case rest =>
    obtain ⟨F', s', b, rfl, hS, hb⟩ := hcut
    rcases hb with ⟨rfl, rfl⟩ | ⟨rfl, rfl⟩
    · go_upto_region 18 with fail
      refine reg18_1 (by kernel_rfl) (by kernel_rfl) (by kernel_rfl) (by kernel_rfl) hS (by have := M0.out.p0.1; omega) ?_
      intro f W hS2
      have hA : After w0 p g7 g8 g9 g10 many k W := ⟨F', _, V, _, C, to_S0 hS2, M0.out.put1 hk hX rfl rfl rfl rfl hm2⟩
      refine HF.out _ _ ?_ hA; kernel_rfl
    · have hA : After w0 p g7 g8 g9 g10 many k wc := ⟨F', _, V, P, C, to_S0 hS, M0.out.stay hk⟩
      go_wp2_with fail
      refine HF.out _ _ ?_ hA; kernel_rfl
end Go.Proofs.YtodimanghmepoaaDoor
