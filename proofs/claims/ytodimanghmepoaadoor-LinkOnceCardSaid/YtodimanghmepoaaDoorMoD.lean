/- Layer 19: LinkOnce: an end hears. Printed by sws.py. Layer 19: LinkOnce: an end hears. Printed by sws.py. Layer 19: LinkOnce: both ends hear. Printed by sws.py. Layer 19: LinkOnce: the switch. Printed by sws.py. Layer 19: LinkOnce: what came is what was put. Printed by sws.py. -/
import Derived.Test.YtodimanghmepoaaDoorMoA
import Derived.Test.YtodimanghmepoaaDoorMoB
import Derived.Deep.CutRange
import Derived.Deep.CutBlock
import Derived.Test.YtodimanghmepoaaDoorMoC
namespace Go.Proofs.YtodimanghmepoaaDoor
open Go.RowKit
set_option maxRecDepth 100000 in
set_option maxHeartbeats 8000000 in
theorem swB0 {Q : Exit → Act → World → Prop} {d0} {u0 u1 u2 u3 u4 u5 u6 u15 u17 u18 u19 u20 u21 u22 u23 u24 u25 u26 u27 u28 u29 u30 u31 u32 u33 u34 u35 u36 u37 u38 u39 u40 u41 u42 u43 u44 u45 u46 u47 u48 u49 u50 u51 u52 u53 u54 u55 u56 u57 u58 u59 u60 u61 u62 u63 u64 u65 u66 u67 u68 u69 u70 u71 u72 u73 u74 u75 u76 u77 u78 u79 u80 u81 u82 u83 u84 u85 u86 u87 u88 u89 u90 u91 u92 u93 u94 u95 u96 u97 u98 u99 u100 u101 u102 u103 u104 u105 u106 u107 u108 u109 u110 u111 u112 u113 u114 u115 u116 u117 u118 u119 u120 u121 u122 u123 u124 u125 u126 u127 u128 u129 u130 u131 u132 u133 u134 u135 u136 u137 u138 u139 u140 u141 u142 u143 u144 u145 u146 u147 u148 u149 u150 u151 u152 u153 u154 u155 u156 u157 u158 u159 u160 u161 u162 u163 u164 u165 u166 u167 u168 u169 u170 u171 u172 u173 u174 u175 u176 u177 u178 u179 u180 u181 u182 u183 u184 u185 u186 u187 u188 u189 u190 u191 u192 u193 u194 u195 u196 u197 u198 u199 u200 u201 u202 u203 u204 u205 u206 u207 u208 u209 u210 u211 u212 u213 u214 u215 u216 u217 u218 u219 u220 u221 u222 u223 u224 u225 u226 u227 u228 u229 u230 u231 u232 u233 u234 u235 u236 u237 u238 u239 u240 u241 u242 u243 u244 u245 u246 u247 u248 u249 u250 u251 u252 u253 u254 u255 u256 u257 u258 u259 u260 u261 u262 u263 u264 u265 u266 u267 u268 u269 u270 u271 u272 u273 u274 u275 u276 u277 u278 u279 u280 u281 u282 u283 u284 u285 u286 u287 u288 u289 u290 u291 u292 u293 u294 u295 u296 u297 u298 u299 u300 u301 u302 u303 u304 u305 u306 u307 u308 u309 u310 u311 : Value} {w0 w : World} {F : Nat → Nat → Prop} {p : Nat → Nat} {s : Nat → LSt} {g7 g8 g9 g10 g13 : Nat} {V : Nat → WyR} {P C : Nat → List Nat} {K T X many k : Nat}
    (h : SV w0 w F p s g7 g8 g9 g10 g13 V P C K T X) (ti : TI (s 0) (s 1) 0 1 (V 0).L (V 1).L (P 0) (P 1) (C 0) (C 1)) (hL7 : (V 0).L.length ≤ 700) (hP : (P 0).length ≤ 1000) (hP' : (P 1).length ≤ 1000) (yP : ∀ y ∈ P 0, y < 256) (hT : T < 256) (hT0 : many ≤ k → T = 0) {zz : Int} (hz : zz = 0 ∨ zz = 1)
    (hf : ∀ (l : List Value) (W : World), over (fun t => l.getD t undef) opB6 0 [u0, u1, u2, u3, u4, u5, u6, .pointer (some ⟨g7, 0, none⟩), .pointer (some ⟨g8, 0, none⟩), .pointer (some ⟨g9, 0, none⟩), .pointer (some ⟨g10, 0, none⟩), .int .i64 (many : Int), .int .i64 (k : Int), .pointer (some ⟨g13, 0, none⟩), .int .i64 zz, u15, .int .i64 0, u17, u18, u19, u20, u21, u22, u23, u24, u25, u26, u27, u28, u29, u30, u31, u32, u33, u34, u35, u36, u37, u38, u39, u40, u41, u42, u43, u44, u45, u46, u47, u48, u49, u50, u51, u52, u53, u54, u55, u56, u57, u58, u59, u60, u61, u62, u63, u64, u65, u66, u67, u68, u69, u70, u71, u72, u73, u74, u75, u76, u77, u78, u79, u80, u81, u82, u83, u84, u85, u86, u87, u88, u89, u90, u91, u92, u93, u94, u95, u96, u97, u98, u99, u100, u101, u102, u103, u104, u105, u106, u107, u108, u109, u110, u111, u112, u113, u114, u115, u116, u117, u118, u119, u120, u121, u122, u123, u124, u125, u126, u127, u128, u129, u130, u131, u132, u133, u134, u135, u136, u137, u138, u139, u140, u141, u142, u143, u144, u145, u146, u147, u148, u149, u150, u151, u152, u153, u154, u155, u156, u157, u158, u159, u160, u161, u162, u163, u164, u165, u166, u167, u168, u169, u170, u171, u172, u173, u174, u175, u176, u177, u178, u179, u180, u181, u182, u183, u184, u185, u186, u187, u188, u189, u190, u191, u192, u193, u194, u195, u196, u197, u198, u199, u200, u201, u202, u203, u204, u205, u206, u207, u208, u209, u210, u211, u212, u213, u214, u215, u216, u217, u218, u219, u220, u221, u222, u223, u224, u225, u226, u227, u228, u229, u230, u231, u232, u233, u234, u235, u236, u237, u238, u239, u240, u241, u242, u243, u244, u245, u246, u247, u248, u249, u250, u251, u252, u253, u254, u255, u256, u257, u258, u259, u260, u261, u262, u263, u264, u265, u266, u267, u268, u269, u270, u271, u272, u273, u274, u275, u276, u277, u278, u279, u280, u281, u282, u283, u284, u285, u286, u287, u288, u289, u290, u291, u292, u293, u294, u295, u296, u297, u298, u299, u300, u301, u302, u303, u304, u305, u306, u307, u308, u309, u310, u311] = l → (∃ (F' : Nat → Nat → Prop) (s' : Nat → LSt) (V' : Nat → WyR) (C' : Nat → List Nat) (x : Nat), SV w0 W F' p s' g7 g8 g9 g10 g13 V' P C' K T X ∧ HR s V C s' V' C' P 0 1 many k x ∧ (many ≤ k → (V' 0).L = [])) → Q .normal ⟨l.toArray, d0⟩ W) :
    hb6.1.wp Tryd.prog Q ⟨[u0, u1, u2, u3, u4, u5, u6, .pointer (some ⟨g7, 0, none⟩), .pointer (some ⟨g8, 0, none⟩), .pointer (some ⟨g9, 0, none⟩), .pointer (some ⟨g10, 0, none⟩), .int .i64 (many : Int), .int .i64 (k : Int), .pointer (some ⟨g13, 0, none⟩), .int .i64 zz, u15, .int .i64 0, u17, u18, u19, u20, u21, u22, u23, u24, u25, u26, u27, u28, u29, u30, u31, u32, u33, u34, u35, u36, u37, u38, u39, u40, u41, u42, u43, u44, u45, u46, u47, u48, u49, u50, u51, u52, u53, u54, u55, u56, u57, u58, u59, u60, u61, u62, u63, u64, u65, u66, u67, u68, u69, u70, u71, u72, u73, u74, u75, u76, u77, u78, u79, u80, u81, u82, u83, u84, u85, u86, u87, u88, u89, u90, u91, u92, u93, u94, u95, u96, u97, u98, u99, u100, u101, u102, u103, u104, u105, u106, u107, u108, u109, u110, u111, u112, u113, u114, u115, u116, u117, u118, u119, u120, u121, u122, u123, u124, u125, u126, u127, u128, u129, u130, u131, u132, u133, u134, u135, u136, u137, u138, u139, u140, u141, u142, u143, u144, u145, u146, u147, u148, u149, u150, u151, u152, u153, u154, u155, u156, u157, u158, u159, u160, u161, u162, u163, u164, u165, u166, u167, u168, u169, u170, u171, u172, u173, u174, u175, u176, u177, u178, u179, u180, u181, u182, u183, u184, u185, u186, u187, u188, u189, u190, u191, u192, u193, u194, u195, u196, u197, u198, u199, u200, u201, u202, u203, u204, u205, u206, u207, u208, u209, u210, u211, u212, u213, u214, u215, u216, u217, u218, u219, u220, u221, u222, u223, u224, u225, u226, u227, u228, u229, u230, u231, u232, u233, u234, u235, u236, u237, u238, u239, u240, u241, u242, u243, u244, u245, u246, u247, u248, u249, u250, u251, u252, u253, u254, u255, u256, u257, u258, u259, u260, u261, u262, u263, u264, u265, u266, u267, u268, u269, u270, u271, u272, u273, u274, u275, u276, u277, u278, u279, u280, u281, u282, u283, u284, u285, u286, u287, u288, u289, u290, u291, u292, u293, u294, u295, u296, u297, u298, u299, u300, u301, u302, u303, u304, u305, u306, u307, u308, u309, u310, u311].toArray, d0⟩ w := by
  dsimp only [hb6]
  have H0 := Lib.hid h
  have HF := Lib.hid hf
  have TI0 := Lib.hid ti
  have Y0 := Lib.hid yP
  clear h ti hf yP
  go_wp2_with fail
  go_loopw [17] (fun i wr => ∃ (x : Nat) (F' : Nat → Nat → Prop) (s' : Nat → LSt) (V' : Nat → WyR) (C' : Nat → List Nat), i = .int .i64 (x : Int) ∧ SV w0 wr F' p s' g7 g8 g9 g10 g13 V' P C' K T X ∧ HR s V C s' V' C' P 0 1 many k x) (fun i _ => 2000 - (intOf i).toNat)
  case atStart => exact ⟨0, F, s, V, C, rfl, H0.out, HR.start TI0.out⟩
  case round =>
    obtain ⟨x, F', s', V', C', rfl, hs, hr⟩ := hrel
    have HS := Lib.hid hs
    have RR := Lib.hid hr
    clear hs hr H0 TI0
    have hln := (HS.out.o 0 (by decide)).len
    have hx := RR.out.len
    have hx7 : x ≤ 700 := by omega
    have LN := Lib.hid hln
    have nn : (V' 0).n ≤ 700 := by omega
    clear hx hln
    have q : wr.cell? ⟨g8, 0, none⟩ = some (.slice (V' 0).A (V' 0).n (V' 0).c) := HS.out.h8.cell 0
    have dx : decide ((x : Int) < 2000) = true := decide_eq_true (by omega)
    go_upto_region 29 with fail
    go_cut [145] from 123 to 197 (fun v wx => v = .bool (goB (V' 0).n many k x zz 0) ∧ wx = wr)
    case first J K_ hJ hK =>
      rcases hz with rfl | rfl
      · by_cases hz0 : (V' 0).n = 0
        · have dz : decide ((0 : Int) < ((V' 0).n : Int)) = false := decide_eq_false (by omega)
          have dz' : decide (0 < (V' 0).n) = false := decide_eq_false (by omega)
          have HZ := Lib.hid hz0
          clear hz0
          go_wp2_with fail
          refine Met.intro (hJ _ _ ?_)
          (repeat apply Exists.intro)
          refine ⟨?_, rfl⟩
          exact ⟨congrArg Value.bool (goB_f (by have := HZ.out; omega)).symm, rfl⟩
        have HZ := Lib.hid (show 0 < (V' 0).n from by omega)
        have dz : decide ((0 : Int) < ((V' 0).n : Int)) = true := decide_eq_true (by omega)
        clear hz0
        by_cases hmk : many ≤ k
        · have dm : decide ((many : Int) ≤ (k : Int)) = true := decide_eq_true (by omega)
          have dm' : decide (many ≤ k) = true := decide_eq_true hmk
          have HMK := Lib.hid hmk
          clear hmk
          by_cases hx0 : x = 0
          · subst hx0
            go_wp2_with fail
            refine Met.intro (hJ _ _ ?_)
            (repeat apply Exists.intro)
            refine ⟨?_, rfl⟩
            exact ⟨congrArg Value.bool (goB_t ⟨HZ.out, .inl HMK.out⟩).symm, rfl⟩
          have dx0 : decide ((x : Int) = 0) = false := decide_eq_false (by omega)
          have dx2 : decide (x = 0) = false := decide_eq_false hx0
          have dx1 : ((x : Int) == 0) = false := by simpa using hx0
          clear hx0
          go_wp2_with fail
          refine Met.intro (hJ _ _ ?_)
          (repeat apply Exists.intro)
          refine ⟨?_, rfl⟩
          exact ⟨congrArg Value.bool (goB_t ⟨HZ.out, .inl HMK.out⟩).symm, rfl⟩
        have dm : decide ((many : Int) ≤ (k : Int)) = false := decide_eq_false (by omega)
        have dm' : decide (many ≤ k) = false := decide_eq_false hmk
        have HMK := Lib.hid hmk
        clear hmk
        by_cases hx0 : x = 0
        · subst hx0
          go_wp2_with fail
          refine Met.intro (hJ _ _ ?_)
          (repeat apply Exists.intro)
          refine ⟨?_, rfl⟩
          exact ⟨congrArg Value.bool (goB_t ⟨HZ.out, .inr ⟨rfl, rfl⟩⟩).symm, rfl⟩
        have dx0 : decide ((x : Int) = 0) = false := decide_eq_false (by omega)
        have dx2 : decide (x = 0) = false := decide_eq_false hx0
        have dx1 : ((x : Int) == 0) = false := by simpa using hx0
        have HX0 := Lib.hid hx0
        clear hx0
        go_wp2_with fail
        refine Met.intro (hJ _ _ ?_)
        (repeat apply Exists.intro)
        refine ⟨?_, rfl⟩
        exact ⟨congrArg Value.bool (goB_f (by have := HMK.out; have := HX0.out; omega)).symm, rfl⟩
      · by_cases hz0 : (V' 0).n = 0
        · have dz : decide ((0 : Int) < ((V' 0).n : Int)) = false := decide_eq_false (by omega)
          have dz' : decide (0 < (V' 0).n) = false := decide_eq_false (by omega)
          have HZ := Lib.hid hz0
          clear hz0
          go_wp2_with fail
          refine Met.intro (hJ _ _ ?_)
          (repeat apply Exists.intro)
          refine ⟨?_, rfl⟩
          exact ⟨congrArg Value.bool (goB_f (by have := HZ.out; omega)).symm, rfl⟩
        have HZ := Lib.hid (show 0 < (V' 0).n from by omega)
        have dz : decide ((0 : Int) < ((V' 0).n : Int)) = true := decide_eq_true (by omega)
        clear hz0
        by_cases hmk : many ≤ k
        · have dm : decide ((many : Int) ≤ (k : Int)) = true := decide_eq_true (by omega)
          have dm' : decide (many ≤ k) = true := decide_eq_true hmk
          have HMK := Lib.hid hmk
          clear hmk
          go_wp2_with fail
          refine Met.intro (hJ _ _ ?_)
          (repeat apply Exists.intro)
          refine ⟨?_, rfl⟩
          exact ⟨congrArg Value.bool (goB_t ⟨HZ.out, .inl HMK.out⟩).symm, rfl⟩
        have dm : decide ((many : Int) ≤ (k : Int)) = false := decide_eq_false (by omega)
        have dm' : decide (many ≤ k) = false := decide_eq_false hmk
        have HMK := Lib.hid hmk
        clear hmk
        go_wp2_with fail
        refine Met.intro (hJ _ _ ?_)
        (repeat apply Exists.intro)
        refine ⟨?_, rfl⟩
        exact ⟨congrArg Value.bool (goB_f (by have := HMK.out; omega)).symm, rfl⟩
    case rest =>
      obtain ⟨rfl, rfl⟩ := hcut
      by_cases hgo : (0 < (V' 0).n ∧ (many ≤ k ∨ (zz = 0 ∧ x = 0)))
      · have dg : (goB (V' 0).n many k x zz 0) = true := goB_t hgo
        rw [dg]
        obtain ⟨hpos, hor⟩ := hgo
        have HO := Lib.hid hor
        have HPOS := Lib.hid hpos
        clear hor dg dx
        go_upto_block 8 with fail
        go_cut [] from 123 to 197 (fun wx => ∃ (F2 : Nat → Nat → Prop) (s2 : Nat → LSt) (V2 : Nat → WyR) (C2 : Nat → List Nat), SV w0 wx F2 p s2 g7 g8 g9 g10 g13 V2 P C2 K T X ∧ HR s V C s2 V2 C2 P 0 1 many k (x + 1))
        case first J K_ hJ hK =>
          have J1 := Lib.hid hJ
          have K1 := Lib.hid hK
          go_upto_region 31 with fail
          go_cut [18] from 123 to 197 (fun v wx => v = .int .i64 ((T % (V' 0).n : Nat) : Int) ∧ SV w0 wx F' p s' g7 g8 g9 g10 g13 V' P C' K T X)
          case first J K_ hJ hK =>
            refine reg31_0 (by kernel_rfl) (by kernel_rfl) (by kernel_rfl) (by kernel_rfl) HS.out hT hpos ?_
            intro f W hS h18
            go_step
            refine hK _ _ (Met.intro (hJ _ _ ?_))
            (repeat apply Exists.intro)
            refine ⟨?_, rfl⟩
            exact ⟨h18, hS⟩
          case rest =>
            obtain ⟨rfl, hS⟩ := hcut
            clear HS
            have HS := Lib.hid hS
            clear hS q
            obtain ⟨a, ea⟩ : ∃ a, T % (V' 0).n = a := ⟨_, rfl⟩
            have ha : a < (V' 0).n := by rw [← ea]; exact Nat.mod_lt _ hpos
            have HA0 := Lib.hid (show many ≤ k → a = 0 from fun hk => by rw [← ea, hT0 hk]; exact Nat.zero_mod _)
            rw [ea]
            clear ea
            obtain ⟨g, eA⟩ : ∃ g, (V' 0).A = some ⟨g, 0, none⟩ := by
              rcases (HS.out.o 0 (by decide)).own.lies with ⟨_, h1, _⟩ | ⟨g, h1, _⟩
              · omega
              · exact ⟨g, h1⟩
            obtain ⟨v0, hv0⟩ : ∃ v, (V' 0).vs[a]? = some v := ⟨_, List.getElem?_eq_getElem (by have := (HS.out.o 0 (by decide)).own.len; omega)⟩
            obtain ⟨d, hd⟩ : ∃ b, (V' 0).L[a]? = some b := ⟨_, List.getElem?_eq_getElem (by have := LN.out; omega)⟩
            obtain ⟨Ad, cd, rfl, -, -⟩ := (HS.out.o 0 (by decide)).dg a v0 d hv0 hd
            have q8 : wc.cell? ⟨g8, 0, none⟩ = some (.slice (some ⟨g, 0, none⟩) (V' 0).n (V' 0).c) := by rw [← eA]; exact HS.out.h8.cell 0
            have qa : wc.cell? ⟨g, a, none⟩ = some (.slice Ad d.length cd) := by
              have hat : At wc (some ⟨g, 0, none⟩) (V' 0).vs := by rw [← eA]; exact (HS.out.o 0 (by decide)).own.at_
              obtain ⟨b1, o1, e1, q⟩ := hat a _ hv0
              injection e1 with e1; injection e1 with e1 e2; subst e1; subst e2
              rw [Nat.zero_add] at q
              exact q
            have i7 : (0 : Int) ≤ (a : Int) := by omega
            have i8 : (a : Int) < ((V' 0).n : Int) := by omega
            have HV := Lib.hid hv0
            have HD := Lib.hid hd
            clear hv0 hd
            go_upto_region 33 with fail
            go_cut [] from 123 to 197 (fun wx => ∃ r : WyR, r.L = (V' 0).L.take a ++ (V' 0).L.drop (a + 1) ∧ SV w0 wx F' p s' g7 g8 g9 g10 g13 (upd V' 0 r) P C' K T X ∧ DGs wx w0.heap.size F' (V' 0).vs (V' 0).L)
            case first J K_ hJ hK =>
              refine reg33_0 (by kernel_rfl) (by kernel_rfl) (by kernel_rfl) (by kernel_rfl) HS.out ha (by omega) ?_
              intro f W r hL hS hD
              go_step
              refine hK _ _ (Met.intro (hJ _ _ ?_))
              (repeat apply Exists.intro)
              refine ⟨?_, rfl⟩
              exact ⟨r, hL, hS, hD⟩
            case rest =>
              obtain ⟨r, hrL, hS, hD⟩ := hcut
              obtain ⟨A1, c1, e1, ho, -⟩ := hD.dg a _ d HV.out HD.out
              injection e1 with e1 _ e2
              subst e1; subst e2
              obtain ⟨s1, bd, is, h1, h3, hstep⟩ := RR.out.step (by decide) hP hP' HD.out HA0.out
              have HST := Lib.hid (hstep r hrL)
              have hby : ∀ y ∈ d, y < 256 := (RR.out.ti.gx d (List.mem_of_getElem? HD.out)).byte Y0.out
              have hcl : (C' 0).length + bd.length ≤ 1000000 := by
                have := (HST.out.ti.dx).front.1
                rw [upd_self, List.length_append] at this
                omega
              have q7 : wc.cell? ⟨g7, 0, none⟩ = some (.pointer (some ⟨p 0, 0, none⟩)) := hS.h7.cell 0
              have HS3 := Lib.hid hS
              have HO3 := Lib.hid ho
              have HBY := Lib.hid hby
              have H1 := Lib.hid h1
              have H3 := Lib.hid h3
              clear hS ho hby h1 h3 hstep hD HS q8 qa hrL eA HV
              go_wp2_with fail
              with_reducible refine (w_hearO HS3.out 0 (by decide) rfl rfl HO3.out HBY.out H1.out).mono ?_
              rintro e W2 ⟨A2, c2, F2, rfl, hS2, hat2⟩
              cases is with
              | false =>
                obtain rfl := H3.out rfl
                have eC : upd C' 0 (C' 0 ++ []) = C' := by
                  funext i
                  by_cases e : i = 0
                  · subst e; rw [upd_self, List.append_nil]
                  · rw [upd_ne _ _ e]
                have HS4 := Lib.hid hS2
                have HST2 := Lib.hid (eC ▸ HST.out)
                clear hS2 hat2 eC
                go_wp2_with fail
                refine Met.intro (J1.out _ _ ?_)
                (repeat apply Exists.intro)
                refine ⟨?_, rfl⟩
                exact ⟨F2, _, _, _, HS4.out, HST2.out⟩
              | true =>
                have HS4 := Lib.hid hS2
                have HAT2 := Lib.hid hat2
                clear hS2 hat2
                go_upto_region 38 with fail
                refine reg38_0 (c1 := c2) (by kernel_rfl) (by kernel_rfl) (by kernel_rfl) (by kernel_rfl) HS4.out HAT2.out hcl ?_
                intro f W hS5
                go_step
                refine K1.out _ _ (Met.intro (J1.out _ _ ?_))
                (repeat apply Exists.intro)
                refine ⟨?_, rfl⟩
                exact ⟨F2, _, _, _, hS5, HST.out⟩
        case rest =>
          obtain ⟨F2, s2, V2, C2, hS, hR⟩ := hcut
          go_wp2_with fail
          go_round
          case rel => exact ⟨x + 1, F2, s2, V2, C2, by go_num, hS, hR⟩
          case measure => simp [intOf]; omega
      · have dg : (goB (V' 0).n many k x zz 0) = false := goB_f hgo
        rw [dg]
        have hemp : many ≤ k → (V' 0).L = [] := by
          intro hk
          have h0 : (V' 0).n = 0 := by
            rcases Nat.eq_zero_or_pos (V' 0).n with h0 | h0
            · exact h0
            · exact absurd ⟨h0, .inl hk⟩ hgo
          have := LN.out
          rw [h0] at this
          exact List.eq_nil_of_length_eq_zero this
        have HE := Lib.hid hemp
        clear hemp hgo dg
        go_wp2_with fail
        refine HF.out _ _ ?_ ⟨F', s', V', C', x, HS.out, RR.out, HE.out⟩; kernel_rfl
end Go.Proofs.YtodimanghmepoaaDoor
namespace Go.Proofs.YtodimanghmepoaaDoor
open Go.RowKit
set_option maxRecDepth 100000 in
set_option maxHeartbeats 8000000 in
theorem swB1 {Q : Exit → Act → World → Prop} {d0} {u0 u1 u2 u3 u4 u5 u6 u15 u17 u18 u19 u20 u21 u22 u23 u24 u25 u26 u27 u28 u29 u30 u31 u32 u33 u34 u35 u36 u37 u38 u39 u40 u41 u42 u43 u44 u45 u46 u47 u48 u49 u50 u51 u52 u53 u54 u55 u56 u57 u58 u59 u60 u61 u62 u63 u64 u65 u66 u67 u68 u69 u70 u71 u72 u73 u74 u75 u76 u77 u78 u79 u80 u81 u82 u83 u84 u85 u86 u87 u88 u89 u90 u91 u92 u93 u94 u95 u96 u97 u98 u99 u100 u101 u102 u103 u104 u105 u106 u107 u108 u109 u110 u111 u112 u113 u114 u115 u116 u117 u118 u119 u120 u121 u122 u123 u124 u125 u126 u127 u128 u129 u130 u131 u132 u133 u134 u135 u136 u137 u138 u139 u140 u141 u142 u143 u144 u145 u146 u147 u148 u149 u150 u151 u152 u153 u154 u155 u156 u157 u158 u159 u160 u161 u162 u163 u164 u165 u166 u167 u168 u169 u170 u171 u172 u173 u174 u175 u176 u177 u178 u179 u180 u181 u182 u183 u184 u185 u186 u187 u188 u189 u190 u191 u192 u193 u194 u195 u196 u197 u198 u199 u200 u201 u202 u203 u204 u205 u206 u207 u208 u209 u210 u211 u212 u213 u214 u215 u216 u217 u218 u219 u220 u221 u222 u223 u224 u225 u226 u227 u228 u229 u230 u231 u232 u233 u234 u235 u236 u237 u238 u239 u240 u241 u242 u243 u244 u245 u246 u247 u248 u249 u250 u251 u252 u253 u254 u255 u256 u257 u258 u259 u260 u261 u262 u263 u264 u265 u266 u267 u268 u269 u270 u271 u272 u273 u274 u275 u276 u277 u278 u279 u280 u281 u282 u283 u284 u285 u286 u287 u288 u289 u290 u291 u292 u293 u294 u295 u296 u297 u298 u299 u300 u301 u302 u303 u304 u305 u306 u307 u308 u309 u310 u311 : Value} {w0 w : World} {F : Nat → Nat → Prop} {p : Nat → Nat} {s : Nat → LSt} {g7 g8 g9 g10 g13 : Nat} {V : Nat → WyR} {P C : Nat → List Nat} {K T X many k : Nat}
    (h : SV w0 w F p s g7 g8 g9 g10 g13 V P C K T X) (ti : TI (s 1) (s 0) 1 0 (V 1).L (V 0).L (P 1) (P 0) (C 1) (C 0)) (hL7 : (V 1).L.length ≤ 700) (hP : (P 1).length ≤ 1000) (hP' : (P 0).length ≤ 1000) (yP : ∀ y ∈ P 1, y < 256) (hT : T < 256) (hT0 : many ≤ k → T = 0) {zz : Int} (hz : zz = 0 ∨ zz = 1)
    (hf : ∀ (l : List Value) (W : World), over (fun t => l.getD t undef) opB6 0 [u0, u1, u2, u3, u4, u5, u6, .pointer (some ⟨g7, 0, none⟩), .pointer (some ⟨g8, 0, none⟩), .pointer (some ⟨g9, 0, none⟩), .pointer (some ⟨g10, 0, none⟩), .int .i64 (many : Int), .int .i64 (k : Int), .pointer (some ⟨g13, 0, none⟩), .int .i64 zz, u15, .int .i64 1, u17, u18, u19, u20, u21, u22, u23, u24, u25, u26, u27, u28, u29, u30, u31, u32, u33, u34, u35, u36, u37, u38, u39, u40, u41, u42, u43, u44, u45, u46, u47, u48, u49, u50, u51, u52, u53, u54, u55, u56, u57, u58, u59, u60, u61, u62, u63, u64, u65, u66, u67, u68, u69, u70, u71, u72, u73, u74, u75, u76, u77, u78, u79, u80, u81, u82, u83, u84, u85, u86, u87, u88, u89, u90, u91, u92, u93, u94, u95, u96, u97, u98, u99, u100, u101, u102, u103, u104, u105, u106, u107, u108, u109, u110, u111, u112, u113, u114, u115, u116, u117, u118, u119, u120, u121, u122, u123, u124, u125, u126, u127, u128, u129, u130, u131, u132, u133, u134, u135, u136, u137, u138, u139, u140, u141, u142, u143, u144, u145, u146, u147, u148, u149, u150, u151, u152, u153, u154, u155, u156, u157, u158, u159, u160, u161, u162, u163, u164, u165, u166, u167, u168, u169, u170, u171, u172, u173, u174, u175, u176, u177, u178, u179, u180, u181, u182, u183, u184, u185, u186, u187, u188, u189, u190, u191, u192, u193, u194, u195, u196, u197, u198, u199, u200, u201, u202, u203, u204, u205, u206, u207, u208, u209, u210, u211, u212, u213, u214, u215, u216, u217, u218, u219, u220, u221, u222, u223, u224, u225, u226, u227, u228, u229, u230, u231, u232, u233, u234, u235, u236, u237, u238, u239, u240, u241, u242, u243, u244, u245, u246, u247, u248, u249, u250, u251, u252, u253, u254, u255, u256, u257, u258, u259, u260, u261, u262, u263, u264, u265, u266, u267, u268, u269, u270, u271, u272, u273, u274, u275, u276, u277, u278, u279, u280, u281, u282, u283, u284, u285, u286, u287, u288, u289, u290, u291, u292, u293, u294, u295, u296, u297, u298, u299, u300, u301, u302, u303, u304, u305, u306, u307, u308, u309, u310, u311] = l → (∃ (F' : Nat → Nat → Prop) (s' : Nat → LSt) (V' : Nat → WyR) (C' : Nat → List Nat) (x : Nat), SV w0 W F' p s' g7 g8 g9 g10 g13 V' P C' K T X ∧ HR s V C s' V' C' P 1 0 many k x ∧ (many ≤ k → (V' 1).L = [])) → Q .normal ⟨l.toArray, d0⟩ W) :
    hb6.1.wp Tryd.prog Q ⟨[u0, u1, u2, u3, u4, u5, u6, .pointer (some ⟨g7, 0, none⟩), .pointer (some ⟨g8, 0, none⟩), .pointer (some ⟨g9, 0, none⟩), .pointer (some ⟨g10, 0, none⟩), .int .i64 (many : Int), .int .i64 (k : Int), .pointer (some ⟨g13, 0, none⟩), .int .i64 zz, u15, .int .i64 1, u17, u18, u19, u20, u21, u22, u23, u24, u25, u26, u27, u28, u29, u30, u31, u32, u33, u34, u35, u36, u37, u38, u39, u40, u41, u42, u43, u44, u45, u46, u47, u48, u49, u50, u51, u52, u53, u54, u55, u56, u57, u58, u59, u60, u61, u62, u63, u64, u65, u66, u67, u68, u69, u70, u71, u72, u73, u74, u75, u76, u77, u78, u79, u80, u81, u82, u83, u84, u85, u86, u87, u88, u89, u90, u91, u92, u93, u94, u95, u96, u97, u98, u99, u100, u101, u102, u103, u104, u105, u106, u107, u108, u109, u110, u111, u112, u113, u114, u115, u116, u117, u118, u119, u120, u121, u122, u123, u124, u125, u126, u127, u128, u129, u130, u131, u132, u133, u134, u135, u136, u137, u138, u139, u140, u141, u142, u143, u144, u145, u146, u147, u148, u149, u150, u151, u152, u153, u154, u155, u156, u157, u158, u159, u160, u161, u162, u163, u164, u165, u166, u167, u168, u169, u170, u171, u172, u173, u174, u175, u176, u177, u178, u179, u180, u181, u182, u183, u184, u185, u186, u187, u188, u189, u190, u191, u192, u193, u194, u195, u196, u197, u198, u199, u200, u201, u202, u203, u204, u205, u206, u207, u208, u209, u210, u211, u212, u213, u214, u215, u216, u217, u218, u219, u220, u221, u222, u223, u224, u225, u226, u227, u228, u229, u230, u231, u232, u233, u234, u235, u236, u237, u238, u239, u240, u241, u242, u243, u244, u245, u246, u247, u248, u249, u250, u251, u252, u253, u254, u255, u256, u257, u258, u259, u260, u261, u262, u263, u264, u265, u266, u267, u268, u269, u270, u271, u272, u273, u274, u275, u276, u277, u278, u279, u280, u281, u282, u283, u284, u285, u286, u287, u288, u289, u290, u291, u292, u293, u294, u295, u296, u297, u298, u299, u300, u301, u302, u303, u304, u305, u306, u307, u308, u309, u310, u311].toArray, d0⟩ w := by
  dsimp only [hb6]
  have H0 := Lib.hid h
  have HF := Lib.hid hf
  have TI0 := Lib.hid ti
  have Y0 := Lib.hid yP
  clear h ti hf yP
  go_wp2_with fail
  go_loopw [17] (fun i wr => ∃ (x : Nat) (F' : Nat → Nat → Prop) (s' : Nat → LSt) (V' : Nat → WyR) (C' : Nat → List Nat), i = .int .i64 (x : Int) ∧ SV w0 wr F' p s' g7 g8 g9 g10 g13 V' P C' K T X ∧ HR s V C s' V' C' P 1 0 many k x) (fun i _ => 2000 - (intOf i).toNat)
  case atStart => exact ⟨0, F, s, V, C, rfl, H0.out, HR.start TI0.out⟩
  case round =>
    obtain ⟨x, F', s', V', C', rfl, hs, hr⟩ := hrel
    have HS := Lib.hid hs
    have RR := Lib.hid hr
    clear hs hr H0 TI0
    have hln := (HS.out.o 1 (by decide)).len
    have hx := RR.out.len
    have hx7 : x ≤ 700 := by omega
    have LN := Lib.hid hln
    have nn : (V' 1).n ≤ 700 := by omega
    clear hx hln
    have q : wr.cell? ⟨g8, 1, none⟩ = some (.slice (V' 1).A (V' 1).n (V' 1).c) := HS.out.h8.cell 1
    have dx : decide ((x : Int) < 2000) = true := decide_eq_true (by omega)
    go_upto_region 29 with fail
    go_cut [145] from 123 to 197 (fun v wx => v = .bool (goB (V' 1).n many k x zz 1) ∧ wx = wr)
    case first J K_ hJ hK =>
      rcases hz with rfl | rfl
      · by_cases hz0 : (V' 1).n = 0
        · have dz : decide ((0 : Int) < ((V' 1).n : Int)) = false := decide_eq_false (by omega)
          have dz' : decide (0 < (V' 1).n) = false := decide_eq_false (by omega)
          have HZ := Lib.hid hz0
          clear hz0
          go_wp2_with fail
          refine Met.intro (hJ _ _ ?_)
          (repeat apply Exists.intro)
          refine ⟨?_, rfl⟩
          exact ⟨congrArg Value.bool (goB_f (by have := HZ.out; omega)).symm, rfl⟩
        have HZ := Lib.hid (show 0 < (V' 1).n from by omega)
        have dz : decide ((0 : Int) < ((V' 1).n : Int)) = true := decide_eq_true (by omega)
        clear hz0
        by_cases hmk : many ≤ k
        · have dm : decide ((many : Int) ≤ (k : Int)) = true := decide_eq_true (by omega)
          have dm' : decide (many ≤ k) = true := decide_eq_true hmk
          have HMK := Lib.hid hmk
          clear hmk
          go_wp2_with fail
          refine Met.intro (hJ _ _ ?_)
          (repeat apply Exists.intro)
          refine ⟨?_, rfl⟩
          exact ⟨congrArg Value.bool (goB_t ⟨HZ.out, .inl HMK.out⟩).symm, rfl⟩
        have dm : decide ((many : Int) ≤ (k : Int)) = false := decide_eq_false (by omega)
        have dm' : decide (many ≤ k) = false := decide_eq_false hmk
        have HMK := Lib.hid hmk
        clear hmk
        go_wp2_with fail
        refine Met.intro (hJ _ _ ?_)
        (repeat apply Exists.intro)
        refine ⟨?_, rfl⟩
        exact ⟨congrArg Value.bool (goB_f (by have := HMK.out; omega)).symm, rfl⟩
      · by_cases hz0 : (V' 1).n = 0
        · have dz : decide ((0 : Int) < ((V' 1).n : Int)) = false := decide_eq_false (by omega)
          have dz' : decide (0 < (V' 1).n) = false := decide_eq_false (by omega)
          have HZ := Lib.hid hz0
          clear hz0
          go_wp2_with fail
          refine Met.intro (hJ _ _ ?_)
          (repeat apply Exists.intro)
          refine ⟨?_, rfl⟩
          exact ⟨congrArg Value.bool (goB_f (by have := HZ.out; omega)).symm, rfl⟩
        have HZ := Lib.hid (show 0 < (V' 1).n from by omega)
        have dz : decide ((0 : Int) < ((V' 1).n : Int)) = true := decide_eq_true (by omega)
        clear hz0
        by_cases hmk : many ≤ k
        · have dm : decide ((many : Int) ≤ (k : Int)) = true := decide_eq_true (by omega)
          have dm' : decide (many ≤ k) = true := decide_eq_true hmk
          have HMK := Lib.hid hmk
          clear hmk
          by_cases hx0 : x = 0
          · subst hx0
            go_wp2_with fail
            refine Met.intro (hJ _ _ ?_)
            (repeat apply Exists.intro)
            refine ⟨?_, rfl⟩
            exact ⟨congrArg Value.bool (goB_t ⟨HZ.out, .inl HMK.out⟩).symm, rfl⟩
          have dx0 : decide ((x : Int) = 0) = false := decide_eq_false (by omega)
          have dx2 : decide (x = 0) = false := decide_eq_false hx0
          have dx1 : ((x : Int) == 0) = false := by simpa using hx0
          clear hx0
          go_wp2_with fail
          refine Met.intro (hJ _ _ ?_)
          (repeat apply Exists.intro)
          refine ⟨?_, rfl⟩
          exact ⟨congrArg Value.bool (goB_t ⟨HZ.out, .inl HMK.out⟩).symm, rfl⟩
        have dm : decide ((many : Int) ≤ (k : Int)) = false := decide_eq_false (by omega)
        have dm' : decide (many ≤ k) = false := decide_eq_false hmk
        have HMK := Lib.hid hmk
        clear hmk
        by_cases hx0 : x = 0
        · subst hx0
          go_wp2_with fail
          refine Met.intro (hJ _ _ ?_)
          (repeat apply Exists.intro)
          refine ⟨?_, rfl⟩
          exact ⟨congrArg Value.bool (goB_t ⟨HZ.out, .inr ⟨rfl, rfl⟩⟩).symm, rfl⟩
        have dx0 : decide ((x : Int) = 0) = false := decide_eq_false (by omega)
        have dx2 : decide (x = 0) = false := decide_eq_false hx0
        have dx1 : ((x : Int) == 0) = false := by simpa using hx0
        have HX0 := Lib.hid hx0
        clear hx0
        go_wp2_with fail
        refine Met.intro (hJ _ _ ?_)
        (repeat apply Exists.intro)
        refine ⟨?_, rfl⟩
        exact ⟨congrArg Value.bool (goB_f (by have := HMK.out; have := HX0.out; omega)).symm, rfl⟩
    case rest =>
      obtain ⟨rfl, rfl⟩ := hcut
      by_cases hgo : (0 < (V' 1).n ∧ (many ≤ k ∨ (zz = 1 ∧ x = 0)))
      · have dg : (goB (V' 1).n many k x zz 1) = true := goB_t hgo
        rw [dg]
        obtain ⟨hpos, hor⟩ := hgo
        have HO := Lib.hid hor
        have HPOS := Lib.hid hpos
        clear hor dg dx
        go_upto_block 8 with fail
        go_cut [] from 123 to 197 (fun wx => ∃ (F2 : Nat → Nat → Prop) (s2 : Nat → LSt) (V2 : Nat → WyR) (C2 : Nat → List Nat), SV w0 wx F2 p s2 g7 g8 g9 g10 g13 V2 P C2 K T X ∧ HR s V C s2 V2 C2 P 1 0 many k (x + 1))
        case first J K_ hJ hK =>
          have J1 := Lib.hid hJ
          have K1 := Lib.hid hK
          go_upto_region 31 with fail
          go_cut [18] from 123 to 197 (fun v wx => v = .int .i64 ((T % (V' 1).n : Nat) : Int) ∧ SV w0 wx F' p s' g7 g8 g9 g10 g13 V' P C' K T X)
          case first J K_ hJ hK =>
            refine reg31_1 (by kernel_rfl) (by kernel_rfl) (by kernel_rfl) (by kernel_rfl) HS.out hT hpos ?_
            intro f W hS h18
            go_step
            refine hK _ _ (Met.intro (hJ _ _ ?_))
            (repeat apply Exists.intro)
            refine ⟨?_, rfl⟩
            exact ⟨h18, hS⟩
          case rest =>
            obtain ⟨rfl, hS⟩ := hcut
            clear HS
            have HS := Lib.hid hS
            clear hS q
            obtain ⟨a, ea⟩ : ∃ a, T % (V' 1).n = a := ⟨_, rfl⟩
            have ha : a < (V' 1).n := by rw [← ea]; exact Nat.mod_lt _ hpos
            have HA0 := Lib.hid (show many ≤ k → a = 0 from fun hk => by rw [← ea, hT0 hk]; exact Nat.zero_mod _)
            rw [ea]
            clear ea
            obtain ⟨g, eA⟩ : ∃ g, (V' 1).A = some ⟨g, 0, none⟩ := by
              rcases (HS.out.o 1 (by decide)).own.lies with ⟨_, h1, _⟩ | ⟨g, h1, _⟩
              · omega
              · exact ⟨g, h1⟩
            obtain ⟨v0, hv0⟩ : ∃ v, (V' 1).vs[a]? = some v := ⟨_, List.getElem?_eq_getElem (by have := (HS.out.o 1 (by decide)).own.len; omega)⟩
            obtain ⟨d, hd⟩ : ∃ b, (V' 1).L[a]? = some b := ⟨_, List.getElem?_eq_getElem (by have := LN.out; omega)⟩
            obtain ⟨Ad, cd, rfl, -, -⟩ := (HS.out.o 1 (by decide)).dg a v0 d hv0 hd
            have q8 : wc.cell? ⟨g8, 1, none⟩ = some (.slice (some ⟨g, 0, none⟩) (V' 1).n (V' 1).c) := by rw [← eA]; exact HS.out.h8.cell 1
            have qa : wc.cell? ⟨g, a, none⟩ = some (.slice Ad d.length cd) := by
              have hat : At wc (some ⟨g, 0, none⟩) (V' 1).vs := by rw [← eA]; exact (HS.out.o 1 (by decide)).own.at_
              obtain ⟨b1, o1, e1, q⟩ := hat a _ hv0
              injection e1 with e1; injection e1 with e1 e2; subst e1; subst e2
              rw [Nat.zero_add] at q
              exact q
            have i7 : (0 : Int) ≤ (a : Int) := by omega
            have i8 : (a : Int) < ((V' 1).n : Int) := by omega
            have HV := Lib.hid hv0
            have HD := Lib.hid hd
            clear hv0 hd
            go_upto_region 33 with fail
            go_cut [] from 123 to 197 (fun wx => ∃ r : WyR, r.L = (V' 1).L.take a ++ (V' 1).L.drop (a + 1) ∧ SV w0 wx F' p s' g7 g8 g9 g10 g13 (upd V' 1 r) P C' K T X ∧ DGs wx w0.heap.size F' (V' 1).vs (V' 1).L)
            case first J K_ hJ hK =>
              refine reg33_1 (by kernel_rfl) (by kernel_rfl) (by kernel_rfl) (by kernel_rfl) HS.out ha (by omega) ?_
              intro f W r hL hS hD
              go_step
              refine hK _ _ (Met.intro (hJ _ _ ?_))
              (repeat apply Exists.intro)
              refine ⟨?_, rfl⟩
              exact ⟨r, hL, hS, hD⟩
            case rest =>
              obtain ⟨r, hrL, hS, hD⟩ := hcut
              obtain ⟨A1, c1, e1, ho, -⟩ := hD.dg a _ d HV.out HD.out
              injection e1 with e1 _ e2
              subst e1; subst e2
              obtain ⟨s1, bd, is, h1, h3, hstep⟩ := RR.out.step (by decide) hP hP' HD.out HA0.out
              have HST := Lib.hid (hstep r hrL)
              have hby : ∀ y ∈ d, y < 256 := (RR.out.ti.gx d (List.mem_of_getElem? HD.out)).byte Y0.out
              have hcl : (C' 1).length + bd.length ≤ 1000000 := by
                have := (HST.out.ti.dx).front.1
                rw [upd_self, List.length_append] at this
                omega
              have q7 : wc.cell? ⟨g7, 1, none⟩ = some (.pointer (some ⟨p 1, 0, none⟩)) := hS.h7.cell 1
              have HS3 := Lib.hid hS
              have HO3 := Lib.hid ho
              have HBY := Lib.hid hby
              have H1 := Lib.hid h1
              have H3 := Lib.hid h3
              clear hS ho hby h1 h3 hstep hD HS q8 qa hrL eA HV
              go_wp2_with fail
              with_reducible refine (w_hearO HS3.out 1 (by decide) rfl rfl HO3.out HBY.out H1.out).mono ?_
              rintro e W2 ⟨A2, c2, F2, rfl, hS2, hat2⟩
              cases is with
              | false =>
                obtain rfl := H3.out rfl
                have eC : upd C' 1 (C' 1 ++ []) = C' := by
                  funext i
                  by_cases e : i = 1
                  · subst e; rw [upd_self, List.append_nil]
                  · rw [upd_ne _ _ e]
                have HS4 := Lib.hid hS2
                have HST2 := Lib.hid (eC ▸ HST.out)
                clear hS2 hat2 eC
                go_wp2_with fail
                refine Met.intro (J1.out _ _ ?_)
                (repeat apply Exists.intro)
                refine ⟨?_, rfl⟩
                exact ⟨F2, _, _, _, HS4.out, HST2.out⟩
              | true =>
                have HS4 := Lib.hid hS2
                have HAT2 := Lib.hid hat2
                clear hS2 hat2
                go_upto_region 38 with fail
                refine reg38_1 (c1 := c2) (by kernel_rfl) (by kernel_rfl) (by kernel_rfl) (by kernel_rfl) HS4.out HAT2.out hcl ?_
                intro f W hS5
                go_step
                refine K1.out _ _ (Met.intro (J1.out _ _ ?_))
                (repeat apply Exists.intro)
                refine ⟨?_, rfl⟩
                exact ⟨F2, _, _, _, hS5, HST.out⟩
        case rest =>
          obtain ⟨F2, s2, V2, C2, hS, hR⟩ := hcut
          go_wp2_with fail
          go_round
          case rel => exact ⟨x + 1, F2, s2, V2, C2, by go_num, hS, hR⟩
          case measure => simp [intOf]; omega
      · have dg : (goB (V' 1).n many k x zz 1) = false := goB_f hgo
        rw [dg]
        have hemp : many ≤ k → (V' 1).L = [] := by
          intro hk
          have h0 : (V' 1).n = 0 := by
            rcases Nat.eq_zero_or_pos (V' 1).n with h0 | h0
            · exact h0
            · exact absurd ⟨h0, .inl hk⟩ hgo
          have := LN.out
          rw [h0] at this
          exact List.eq_nil_of_length_eq_zero this
        have HE := Lib.hid hemp
        clear hemp hgo dg
        go_wp2_with fail
        refine HF.out _ _ ?_ ⟨F', s', V', C', x, HS.out, RR.out, HE.out⟩; kernel_rfl
end Go.Proofs.YtodimanghmepoaaDoor
namespace Go.Proofs.YtodimanghmepoaaDoor
open Go.RowKit
set_option maxRecDepth 100000 in
set_option maxHeartbeats 8000000 in
theorem swG {Q : Exit → Act → World → Prop} {d0} {u0 u1 u2 u4 u6 u15 u16 u17 u18 u19 u20 u21 u22 u23 u24 u25 u26 u27 u28 u29 u30 u31 u32 u33 u34 u35 u36 u37 u38 u39 u40 u41 u42 u43 u44 u45 u46 u47 u48 u49 u50 u51 u52 u53 u54 u55 u56 u57 u58 u59 u60 u61 u62 u63 u64 u65 u66 u67 u68 u69 u70 u71 u72 u73 u74 u75 u76 u77 u79 u80 u81 u82 u83 u84 u85 u86 u87 u88 u89 u90 u91 u92 u93 u94 u95 u96 u97 u98 u99 u100 u101 u102 u103 u104 u105 u106 u107 u108 u109 u110 u111 u112 u113 u114 u115 u116 u117 u118 u119 u120 u121 u122 u123 u124 u125 u126 u127 u128 u129 u130 u131 u132 u133 u134 u135 u136 u137 u138 u139 u140 u141 u142 u143 u144 u145 u146 u147 u148 u149 u150 u151 u152 u153 u154 u155 u156 u157 u158 u159 u160 u161 u162 u163 u164 u165 u166 u167 u168 u169 u170 u171 u172 u173 u174 u175 u176 u177 u178 u179 u180 u181 u182 u183 u184 u185 u186 u187 u188 u189 u190 u191 u192 u193 u194 u195 u196 u197 u198 u199 u200 u201 u202 u203 u204 u205 u206 u207 u208 u209 u210 u211 u212 u213 u214 u215 u216 u217 u218 u219 u220 u221 u222 u223 u224 u225 u226 u227 u228 u229 u230 u231 u232 u233 u234 u235 u236 u237 u238 u239 u240 u241 u242 u243 u244 u245 u246 u247 u248 u249 u250 u251 u252 u253 u254 u255 u256 u257 u258 u259 u260 u261 u262 u263 u264 u265 u266 u267 u268 u269 u270 u271 u272 u273 u274 u275 u276 u277 u278 u279 u280 u281 u282 u283 u284 u285 u286 u287 u288 u289 u290 u291 u292 u293 u294 u295 u296 u297 u298 u299 u300 u301 u302 u303 u304 u305 u306 u307 u308 u309 u310 u311 : Value} {w0 w : World} {F : Nat → Nat → Prop} {p : Nat → Nat} {s : Nat → LSt} {g7 g8 g9 g10 g13 : Nat} {V : Nat → WyR} {P C : Nat → List Nat} {K T X many k : Nat}
    (h : SV w0 w F p s g7 g8 g9 g10 g13 V P C K T X) (m : ME s V P C many k) (hm2 : many ≤ 200) (hc : many ≤ k → k % 3 = 1) (hT : T < 256) (hT0 : many ≤ k → T = 0) {zz : Int} (hz : zz = 0 ∨ zz = 1)
    (hf : ∀ (l : List Value) (W : World), over (fun t => l.getD t undef) opSw 0 [u0, u1, u2, .pointer (some ⟨p 0, 0, none⟩), u4, .pointer (some ⟨p 1, 0, none⟩), u6, .pointer (some ⟨g7, 0, none⟩), .pointer (some ⟨g8, 0, none⟩), .pointer (some ⟨g9, 0, none⟩), .pointer (some ⟨g10, 0, none⟩), .int .i64 (many : Int), .int .i64 (k : Int), .pointer (some ⟨g13, 0, none⟩), .int .i64 zz, u15, u16, u17, u18, u19, u20, u21, u22, u23, u24, u25, u26, u27, u28, u29, u30, u31, u32, u33, u34, u35, u36, u37, u38, u39, u40, u41, u42, u43, u44, u45, u46, u47, u48, u49, u50, u51, u52, u53, u54, u55, u56, u57, u58, u59, u60, u61, u62, u63, u64, u65, u66, u67, u68, u69, u70, u71, u72, u73, u74, u75, u76, u77, .int .u8 1, u79, u80, u81, u82, u83, u84, u85, u86, u87, u88, u89, u90, u91, u92, u93, u94, u95, u96, u97, u98, u99, u100, u101, u102, u103, u104, u105, u106, u107, u108, u109, u110, u111, u112, u113, u114, u115, u116, u117, u118, u119, u120, u121, u122, u123, u124, u125, u126, u127, u128, u129, u130, u131, u132, u133, u134, u135, u136, u137, u138, u139, u140, u141, u142, u143, u144, u145, u146, u147, u148, u149, u150, u151, u152, u153, u154, u155, u156, u157, u158, u159, u160, u161, u162, u163, u164, u165, u166, u167, u168, u169, u170, u171, u172, u173, u174, u175, u176, u177, u178, u179, u180, u181, u182, u183, u184, u185, u186, u187, u188, u189, u190, u191, u192, u193, u194, u195, u196, u197, u198, u199, u200, u201, u202, u203, u204, u205, u206, u207, u208, u209, u210, u211, u212, u213, u214, u215, u216, u217, u218, u219, u220, u221, u222, u223, u224, u225, u226, u227, u228, u229, u230, u231, u232, u233, u234, u235, u236, u237, u238, u239, u240, u241, u242, u243, u244, u245, u246, u247, u248, u249, u250, u251, u252, u253, u254, u255, u256, u257, u258, u259, u260, u261, u262, u263, u264, u265, u266, u267, u268, u269, u270, u271, u272, u273, u274, u275, u276, u277, u278, u279, u280, u281, u282, u283, u284, u285, u286, u287, u288, u289, u290, u291, u292, u293, u294, u295, u296, u297, u298, u299, u300, u301, u302, u303, u304, u305, u306, u307, u308, u309, u310, u311] = l → After w0 p g7 g8 g9 g10 many k W → Q .normal ⟨l.toArray, d0⟩ W) :
    sw.1.wp Tryd.prog Q ⟨[u0, u1, u2, .pointer (some ⟨p 0, 0, none⟩), u4, .pointer (some ⟨p 1, 0, none⟩), u6, .pointer (some ⟨g7, 0, none⟩), .pointer (some ⟨g8, 0, none⟩), .pointer (some ⟨g9, 0, none⟩), .pointer (some ⟨g10, 0, none⟩), .int .i64 (many : Int), .int .i64 (k : Int), .pointer (some ⟨g13, 0, none⟩), .int .i64 zz, u15, u16, u17, u18, u19, u20, u21, u22, u23, u24, u25, u26, u27, u28, u29, u30, u31, u32, u33, u34, u35, u36, u37, u38, u39, u40, u41, u42, u43, u44, u45, u46, u47, u48, u49, u50, u51, u52, u53, u54, u55, u56, u57, u58, u59, u60, u61, u62, u63, u64, u65, u66, u67, u68, u69, u70, u71, u72, u73, u74, u75, u76, u77, .int .u8 1, u79, u80, u81, u82, u83, u84, u85, u86, u87, u88, u89, u90, u91, u92, u93, u94, u95, u96, u97, u98, u99, u100, u101, u102, u103, u104, u105, u106, u107, u108, u109, u110, u111, u112, u113, u114, u115, u116, u117, u118, u119, u120, u121, u122, u123, u124, u125, u126, u127, u128, u129, u130, u131, u132, u133, u134, u135, u136, u137, u138, u139, u140, u141, u142, u143, u144, u145, u146, u147, u148, u149, u150, u151, u152, u153, u154, u155, u156, u157, u158, u159, u160, u161, u162, u163, u164, u165, u166, u167, u168, u169, u170, u171, u172, u173, u174, u175, u176, u177, u178, u179, u180, u181, u182, u183, u184, u185, u186, u187, u188, u189, u190, u191, u192, u193, u194, u195, u196, u197, u198, u199, u200, u201, u202, u203, u204, u205, u206, u207, u208, u209, u210, u211, u212, u213, u214, u215, u216, u217, u218, u219, u220, u221, u222, u223, u224, u225, u226, u227, u228, u229, u230, u231, u232, u233, u234, u235, u236, u237, u238, u239, u240, u241, u242, u243, u244, u245, u246, u247, u248, u249, u250, u251, u252, u253, u254, u255, u256, u257, u258, u259, u260, u261, u262, u263, u264, u265, u266, u267, u268, u269, u270, u271, u272, u273, u274, u275, u276, u277, u278, u279, u280, u281, u282, u283, u284, u285, u286, u287, u288, u289, u290, u291, u292, u293, u294, u295, u296, u297, u298, u299, u300, u301, u302, u303, u304, u305, u306, u307, u308, u309, u310, u311].toArray, d0⟩ w := by
  dsimp only [sw]
  have L0 : (V 0).L.length ≤ 700 := by have := m.b0; omega
  have L1 : (V 1).L.length ≤ 700 := by have := m.b1; omega
  have P0 : (P 0).length ≤ 1000 := by have := m.p0.1; omega
  have P1 : (P 1).length ≤ 1000 := by have := m.p1.1; omega
  have H0 := Lib.hid h
  have M0 := Lib.hid m
  have HF := Lib.hid hf
  clear h m hf
  go_wp2_with fail
  go_loopw [16] (fun i wr => ∃ (F' : Nat → Nat → Prop) (s' : Nat → LSt) (V' : Nat → WyR) (C' : Nat → List Nat), SV w0 wr F' p s' g7 g8 g9 g10 g13 V' P C' K T X ∧ ((i = .int .i64 0 ∧ s' = s ∧ V' = V ∧ C' = C) ∨ (i = .int .i64 1 ∧ ∃ x, HR s V C s' V' C' P 0 1 many k x ∧ (many ≤ k → (V' 0).L = [])) ∨ (i = .int .i64 2 ∧ ME s' V' P C' many (k + 1)))) (fun i _ => 2 - (intOf i).toNat)
  case atStart => exact ⟨F, s, V, C, H0.out, .inl ⟨rfl, rfl, rfl, rfl⟩⟩
  case round =>
    obtain ⟨F', s', V', C', hr, hrel⟩ := hrel
    have HS := Lib.hid hr
    clear hr H0
    rcases hrel with ⟨rfl, rfl, rfl, rfl⟩ | ⟨rfl, x, hrr, hx0⟩ | ⟨rfl, hA⟩
    · go_upto_block 6 with fail
      go_cut [] from 119 to 197 (fun wx => ∃ (F2 : Nat → Nat → Prop) (s2 : Nat → LSt) (V2 : Nat → WyR) (C2 : Nat → List Nat) (x : Nat), SV w0 wx F2 p s2 g7 g8 g9 g10 g13 V2 P C2 K T X ∧ HR s' V' C' s2 V2 C2 P 0 1 many k x ∧ (many ≤ k → (V2 0).L = []))
      case first J K_ hJ hK =>
        refine swB0 HS.out M0.out.ti L0 P0 P1 M0.out.y0 hT hT0 hz ?_
        intro l W he hA
        go_step
        rw [← he]
        refine hK _ _ (Met.intro (hJ _ _ ?_))
        (repeat apply Exists.intro)
        refine ⟨?_, rfl⟩
        exact hA
      case rest =>
        obtain ⟨F2, s2, V2, C2, x, hS, hR, hz0⟩ := hcut
        go_wp2_with fail
        go_round
        case rel => exact ⟨F2, s2, V2, C2, hS, .inr (.inl ⟨rfl, x, hR, hz0⟩)⟩
        case measure => decide
    · have RR := Lib.hid hrr
      have HX0 := Lib.hid hx0
      clear hrr hx0
      go_upto_block 6 with fail
      go_cut [] from 119 to 197 (fun wx => ∃ (F2 : Nat → Nat → Prop) (s2 : Nat → LSt) (V2 : Nat → WyR) (C2 : Nat → List Nat) (x : Nat), SV w0 wx F2 p s2 g7 g8 g9 g10 g13 V2 P C2 K T X ∧ HR s' V' C' s2 V2 C2 P 1 0 many k x ∧ (many ≤ k → (V2 1).L = []))
      case first J K_ hJ hK =>
        refine swB1 HS.out RR.out.ti.symm (by rw [RR.out.so.2.1]; exact L1) P1 P0 M0.out.y1 hT hT0 hz ?_
        intro l W he hA
        go_step
        rw [← he]
        refine hK _ _ (Met.intro (hJ _ _ ?_))
        (repeat apply Exists.intro)
        refine ⟨?_, rfl⟩
        exact hA
      case rest =>
        obtain ⟨F2, s2, V2, C2, y, hS, hR, hz1⟩ := hcut
        go_wp2_with fail
        go_round
        case rel => exact ⟨F2, s2, V2, C2, hS, .inr (.inr ⟨rfl, M0.out.hear hc RR.out hR HX0.out hz1 (fun i hi => (hS.ways.ok i hi).1.lf)⟩)⟩
        case measure => decide
    · go_wp2_with fail
      refine HF.out _ _ ?_ ⟨F', s', V', P, C', to_S0 HS.out, hA⟩; kernel_rfl
end Go.Proofs.YtodimanghmepoaaDoor
namespace Go.Proofs.YtodimanghmepoaaDoor
open Go.RowKit
set_option maxRecDepth 100000 in
set_option maxHeartbeats 8000000 in
theorem swH {Q : Exit → Act → World → Prop} {d0} {u0 u1 u2 u4 u6 u15 u16 u17 u18 u19 u20 u21 u22 u23 u24 u25 u26 u27 u28 u29 u30 u31 u32 u33 u34 u35 u36 u37 u38 u39 u40 u41 u42 u43 u44 u45 u46 u47 u48 u49 u50 u51 u52 u53 u54 u55 u56 u57 u58 u59 u60 u61 u62 u63 u64 u65 u66 u67 u68 u69 u70 u71 u72 u73 u74 u75 u76 u77 u79 u80 u81 u82 u83 u84 u85 u86 u87 u88 u89 u90 u91 u92 u93 u94 u95 u96 u97 u98 u99 u100 u101 u102 u103 u104 u105 u106 u107 u108 u109 u110 u111 u112 u113 u114 u115 u116 u117 u118 u119 u120 u121 u122 u123 u124 u125 u126 u127 u128 u129 u130 u131 u132 u133 u134 u135 u136 u137 u138 u139 u140 u141 u142 u143 u144 u145 u146 u147 u148 u149 u150 u151 u152 u153 u154 u155 u156 u157 u158 u159 u160 u161 u162 u163 u164 u165 u166 u167 u168 u169 u170 u171 u172 u173 u174 u175 u176 u177 u178 u179 u180 u181 u182 u183 u184 u185 u186 u187 u188 u189 u190 u191 u192 u193 u194 u195 u196 u197 u198 u199 u200 u201 u202 u203 u204 u205 u206 u207 u208 u209 u210 u211 u212 u213 u214 u215 u216 u217 u218 u219 u220 u221 u222 u223 u224 u225 u226 u227 u228 u229 u230 u231 u232 u233 u234 u235 u236 u237 u238 u239 u240 u241 u242 u243 u244 u245 u246 u247 u248 u249 u250 u251 u252 u253 u254 u255 u256 u257 u258 u259 u260 u261 u262 u263 u264 u265 u266 u267 u268 u269 u270 u271 u272 u273 u274 u275 u276 u277 u278 u279 u280 u281 u282 u283 u284 u285 u286 u287 u288 u289 u290 u291 u292 u293 u294 u295 u296 u297 u298 u299 u300 u301 u302 u303 u304 u305 u306 u307 u308 u309 u310 u311 : Value} {w0 w : World} {F : Nat → Nat → Prop} {p : Nat → Nat} {s : Nat → LSt} {g7 g8 g9 g10 g13 : Nat} {V : Nat → WyR} {P C : Nat → List Nat} {K T X many k : Nat}
    (h : SV w0 w F p s g7 g8 g9 g10 g13 V P C K T X) (m : ME s V P C many k) (hm2 : many ≤ 200) (hT : T < 256) (hX : X < 256) (hcalm : many ≤ k → T = 0 ∧ X = 0 ∧ ((k % 3 = 0 ∧ K = 0) ∨ (k % 3 = 1 ∧ K = 1) ∨ (k % 3 = 2 ∧ K = 4))) {k6 : Int} (h6 : k6 = ((K % 6 : Nat) : Int)) {vz : Value} (hz : vz = .int .i64 0 ∨ vz = .int .i64 1)
    (hf : ∀ (l : List Value) (W : World), over (fun t => l.getD t undef) opSw 0 [u0, u1, u2, .pointer (some ⟨p 0, 0, none⟩), u4, .pointer (some ⟨p 1, 0, none⟩), u6, .pointer (some ⟨g7, 0, none⟩), .pointer (some ⟨g8, 0, none⟩), .pointer (some ⟨g9, 0, none⟩), .pointer (some ⟨g10, 0, none⟩), .int .i64 (many : Int), .int .i64 (k : Int), .pointer (some ⟨g13, 0, none⟩), vz, u15, u16, u17, u18, u19, u20, u21, u22, u23, u24, u25, u26, u27, u28, u29, u30, u31, u32, u33, u34, u35, u36, u37, u38, u39, u40, u41, u42, u43, u44, u45, u46, u47, u48, u49, u50, u51, u52, u53, u54, u55, u56, u57, u58, u59, u60, u61, u62, u63, u64, u65, u66, u67, u68, u69, u70, u71, u72, u73, u74, u75, u76, u77, .int .u8 k6, u79, u80, u81, u82, u83, u84, u85, u86, u87, u88, u89, u90, u91, u92, u93, u94, u95, u96, u97, u98, u99, u100, u101, u102, u103, u104, u105, u106, u107, u108, u109, u110, u111, u112, u113, u114, u115, u116, u117, u118, u119, u120, u121, u122, u123, u124, u125, u126, u127, u128, u129, u130, u131, u132, u133, u134, u135, u136, u137, u138, u139, u140, u141, u142, u143, u144, u145, u146, u147, u148, u149, u150, u151, u152, u153, u154, u155, u156, u157, u158, u159, u160, u161, u162, u163, u164, u165, u166, u167, u168, u169, u170, u171, u172, u173, u174, u175, u176, u177, u178, u179, u180, u181, u182, u183, u184, u185, u186, u187, u188, u189, u190, u191, u192, u193, u194, u195, u196, u197, u198, u199, u200, u201, u202, u203, u204, u205, u206, u207, u208, u209, u210, u211, u212, u213, u214, u215, u216, u217, u218, u219, u220, u221, u222, u223, u224, u225, u226, u227, u228, u229, u230, u231, u232, u233, u234, u235, u236, u237, u238, u239, u240, u241, u242, u243, u244, u245, u246, u247, u248, u249, u250, u251, u252, u253, u254, u255, u256, u257, u258, u259, u260, u261, u262, u263, u264, u265, u266, u267, u268, u269, u270, u271, u272, u273, u274, u275, u276, u277, u278, u279, u280, u281, u282, u283, u284, u285, u286, u287, u288, u289, u290, u291, u292, u293, u294, u295, u296, u297, u298, u299, u300, u301, u302, u303, u304, u305, u306, u307, u308, u309, u310, u311] = l → After w0 p g7 g8 g9 g10 many k W → Q .normal ⟨l.toArray, d0⟩ W) :
    sw.1.wp Tryd.prog Q ⟨[u0, u1, u2, .pointer (some ⟨p 0, 0, none⟩), u4, .pointer (some ⟨p 1, 0, none⟩), u6, .pointer (some ⟨g7, 0, none⟩), .pointer (some ⟨g8, 0, none⟩), .pointer (some ⟨g9, 0, none⟩), .pointer (some ⟨g10, 0, none⟩), .int .i64 (many : Int), .int .i64 (k : Int), .pointer (some ⟨g13, 0, none⟩), vz, u15, u16, u17, u18, u19, u20, u21, u22, u23, u24, u25, u26, u27, u28, u29, u30, u31, u32, u33, u34, u35, u36, u37, u38, u39, u40, u41, u42, u43, u44, u45, u46, u47, u48, u49, u50, u51, u52, u53, u54, u55, u56, u57, u58, u59, u60, u61, u62, u63, u64, u65, u66, u67, u68, u69, u70, u71, u72, u73, u74, u75, u76, u77, .int .u8 k6, u79, u80, u81, u82, u83, u84, u85, u86, u87, u88, u89, u90, u91, u92, u93, u94, u95, u96, u97, u98, u99, u100, u101, u102, u103, u104, u105, u106, u107, u108, u109, u110, u111, u112, u113, u114, u115, u116, u117, u118, u119, u120, u121, u122, u123, u124, u125, u126, u127, u128, u129, u130, u131, u132, u133, u134, u135, u136, u137, u138, u139, u140, u141, u142, u143, u144, u145, u146, u147, u148, u149, u150, u151, u152, u153, u154, u155, u156, u157, u158, u159, u160, u161, u162, u163, u164, u165, u166, u167, u168, u169, u170, u171, u172, u173, u174, u175, u176, u177, u178, u179, u180, u181, u182, u183, u184, u185, u186, u187, u188, u189, u190, u191, u192, u193, u194, u195, u196, u197, u198, u199, u200, u201, u202, u203, u204, u205, u206, u207, u208, u209, u210, u211, u212, u213, u214, u215, u216, u217, u218, u219, u220, u221, u222, u223, u224, u225, u226, u227, u228, u229, u230, u231, u232, u233, u234, u235, u236, u237, u238, u239, u240, u241, u242, u243, u244, u245, u246, u247, u248, u249, u250, u251, u252, u253, u254, u255, u256, u257, u258, u259, u260, u261, u262, u263, u264, u265, u266, u267, u268, u269, u270, u271, u272, u273, u274, u275, u276, u277, u278, u279, u280, u281, u282, u283, u284, u285, u286, u287, u288, u289, u290, u291, u292, u293, u294, u295, u296, u297, u298, u299, u300, u301, u302, u303, u304, u305, u306, u307, u308, u309, u310, u311].toArray, d0⟩ w := by
  have h06 : k6 = 0 ∨ k6 = 1 ∨ k6 = 2 ∨ k6 = 3 ∨ k6 = 4 ∨ k6 = 5 := by omega
  rcases h06 with rfl | rfl | rfl | rfl | rfl | rfl <;> rcases hz with rfl | rfl
  · exact swA h m hm2 (fun h => by have := hcalm h; omega) hf
  · exact swA h m hm2 (fun h => by have := hcalm h; omega) hf
  · exact swG h m hm2 (fun h => by have := hcalm h; omega) hT (fun h => (hcalm h).1) (.inl rfl) hf
  · exact swG h m hm2 (fun h => by have := hcalm h; omega) hT (fun h => (hcalm h).1) (.inr rfl) hf
  · exact swC0 h m hm2 (Nat.lt_of_not_le fun h => by have := hcalm h; omega) hT hf
  · exact swC1 h m hm2 (Nat.lt_of_not_le fun h => by have := hcalm h; omega) hT hf
  · exact swD0 h m hm2 (Nat.lt_of_not_le fun h => by have := hcalm h; omega) hT hf
  · exact swD1 h m hm2 (Nat.lt_of_not_le fun h => by have := hcalm h; omega) hT hf
  · exact swE h m hm2 (fun h => by have := hcalm h; omega) hf
  · exact swE h m hm2 (fun h => by have := hcalm h; omega) hf
  · exact swF0 h m hm2 (Nat.lt_of_not_le fun h => by have := hcalm h; omega) hX hf
  · exact swF1 h m hm2 (Nat.lt_of_not_le fun h => by have := hcalm h; omega) hX hf
end Go.Proofs.YtodimanghmepoaaDoor
namespace Go.Proofs.YtodimanghmepoaaDoor
open Go.RowKit
set_option maxRecDepth 100000 in
set_option maxHeartbeats 8000000 in
theorem swI {Q : Exit → Act → World → Prop} {d0} {u0 u1 u2 u4 u6 u13 u14 u15 u16 u17 u18 u19 u20 u21 u22 u23 u25 u26 u27 u28 u29 u30 u31 u32 u33 u34 u35 u36 u37 u38 u39 u40 u41 u42 u43 u44 u45 u46 u47 u48 u49 u50 u51 u52 u53 u54 u55 u56 u57 u58 u59 u60 u61 u62 u63 u64 u65 u66 u67 u68 u69 u70 u71 u72 u73 u74 u75 u76 u77 u78 u79 u80 u81 u82 u83 u84 u85 u86 u87 u88 u89 u90 u91 u92 u93 u94 u95 u96 u97 u98 u99 u100 u101 u102 u103 u104 u105 u106 u107 u108 u109 u110 u111 u112 u113 u114 u115 u116 u117 u118 u119 u120 u121 u122 u123 u124 u125 u126 u127 u128 u129 u130 u131 u132 u133 u134 u135 u136 u137 u138 u139 u140 u141 u142 u143 u144 u145 u146 u147 u148 u149 u150 u151 u152 u153 u154 u155 u156 u157 u158 u159 u160 u161 u162 u163 u164 u165 u166 u167 u168 u169 u170 u171 u172 u173 u174 u175 u176 u177 u178 u179 u180 u181 u182 u183 u184 u185 u186 u187 u188 u189 u190 u191 u192 u193 u194 u195 u196 u197 u198 u199 u200 u201 u202 u203 u204 u205 u206 u207 u208 u209 u210 u211 u212 u213 u214 u215 u216 u217 u218 u219 u220 u221 u222 u223 u224 u225 u226 u227 u228 u229 u230 u231 u232 u233 u234 u235 u236 u237 u238 u239 u240 u241 u242 u243 u244 u245 u246 u247 u248 u249 u250 u251 u252 u253 u254 u255 u256 u257 u258 u259 u260 u261 u262 u263 u264 u265 u266 u267 u268 u269 u270 u271 u272 u273 u274 u275 u276 u277 u278 u279 u280 u281 u282 u283 u284 u285 u286 u287 u288 u289 u290 u291 u292 u293 u294 u295 u296 u297 u298 u299 u300 u301 u302 u303 u304 u305 u306 u307 u308 u309 u310 u311 : Value} {w0 w : World} {F : Nat → Nat → Prop} {p : Nat → Nat} {s : Nat → LSt} {g7 g8 g9 g10 g13 : Nat} {V : Nat → WyR} {P C : Nat → List Nat} {K T X many k : Nat}
    {j : Nat} (h : S0 w0 w F p s g7 g8 g9 g10 V P C) (m : ME s V P C many j)
    (hf : ∀ (l : List Value) (W : World), over (fun t => l.getD t undef) opB9 0 [u0, u1, u2, .pointer (some ⟨p 0, 0, none⟩), u4, .pointer (some ⟨p 1, 0, none⟩), u6, .pointer (some ⟨g7, 0, none⟩), .pointer (some ⟨g8, 0, none⟩), .pointer (some ⟨g9, 0, none⟩), .pointer (some ⟨g10, 0, none⟩), .int .i64 (many : Int), .int .i64 (k : Int), u13, u14, u15, u16, u17, u18, u19, u20, u21, u22, u23, .int .i64 0, u25, u26, u27, u28, u29, u30, u31, u32, u33, u34, u35, u36, u37, u38, u39, u40, u41, u42, u43, u44, u45, u46, u47, u48, u49, u50, u51, u52, u53, u54, u55, u56, u57, u58, u59, u60, u61, u62, u63, u64, u65, u66, u67, u68, u69, u70, u71, u72, u73, u74, u75, u76, u77, u78, u79, u80, u81, u82, u83, u84, u85, u86, u87, u88, u89, u90, u91, u92, u93, u94, u95, u96, u97, u98, u99, u100, u101, u102, u103, u104, u105, u106, u107, u108, u109, u110, u111, u112, u113, u114, u115, u116, u117, u118, u119, u120, u121, u122, u123, u124, u125, u126, u127, u128, u129, u130, u131, u132, u133, u134, u135, u136, u137, u138, u139, u140, u141, u142, u143, u144, u145, u146, u147, u148, u149, u150, u151, u152, u153, u154, u155, u156, u157, u158, u159, u160, u161, u162, u163, u164, u165, u166, u167, u168, u169, u170, u171, u172, u173, u174, u175, u176, u177, u178, u179, u180, u181, u182, u183, u184, u185, u186, u187, u188, u189, u190, u191, u192, u193, u194, u195, u196, u197, u198, u199, u200, u201, u202, u203, u204, u205, u206, u207, u208, u209, u210, u211, u212, u213, u214, u215, u216, u217, u218, u219, u220, u221, u222, u223, u224, u225, u226, u227, u228, u229, u230, u231, u232, u233, u234, u235, u236, u237, u238, u239, u240, u241, u242, u243, u244, u245, u246, u247, u248, u249, u250, u251, u252, u253, u254, u255, u256, u257, u258, u259, u260, u261, u262, u263, u264, u265, u266, u267, u268, u269, u270, u271, u272, u273, u274, u275, u276, u277, u278, u279, u280, u281, u282, u283, u284, u285, u286, u287, u288, u289, u290, u291, u292, u293, u294, u295, u296, u297, u298, u299, u300, u301, u302, u303, u304, u305, u306, u307, u308, u309, u310, u311] = l → S0 w0 W F p s g7 g8 g9 g10 V P C → Q .normal ⟨l.toArray, d0⟩ W) :
    bl9.1.wp Tryd.prog Q ⟨[u0, u1, u2, .pointer (some ⟨p 0, 0, none⟩), u4, .pointer (some ⟨p 1, 0, none⟩), u6, .pointer (some ⟨g7, 0, none⟩), .pointer (some ⟨g8, 0, none⟩), .pointer (some ⟨g9, 0, none⟩), .pointer (some ⟨g10, 0, none⟩), .int .i64 (many : Int), .int .i64 (k : Int), u13, u14, u15, u16, u17, u18, u19, u20, u21, u22, u23, .int .i64 0, u25, u26, u27, u28, u29, u30, u31, u32, u33, u34, u35, u36, u37, u38, u39, u40, u41, u42, u43, u44, u45, u46, u47, u48, u49, u50, u51, u52, u53, u54, u55, u56, u57, u58, u59, u60, u61, u62, u63, u64, u65, u66, u67, u68, u69, u70, u71, u72, u73, u74, u75, u76, u77, u78, u79, u80, u81, u82, u83, u84, u85, u86, u87, u88, u89, u90, u91, u92, u93, u94, u95, u96, u97, u98, u99, u100, u101, u102, u103, u104, u105, u106, u107, u108, u109, u110, u111, u112, u113, u114, u115, u116, u117, u118, u119, u120, u121, u122, u123, u124, u125, u126, u127, u128, u129, u130, u131, u132, u133, u134, u135, u136, u137, u138, u139, u140, u141, u142, u143, u144, u145, u146, u147, u148, u149, u150, u151, u152, u153, u154, u155, u156, u157, u158, u159, u160, u161, u162, u163, u164, u165, u166, u167, u168, u169, u170, u171, u172, u173, u174, u175, u176, u177, u178, u179, u180, u181, u182, u183, u184, u185, u186, u187, u188, u189, u190, u191, u192, u193, u194, u195, u196, u197, u198, u199, u200, u201, u202, u203, u204, u205, u206, u207, u208, u209, u210, u211, u212, u213, u214, u215, u216, u217, u218, u219, u220, u221, u222, u223, u224, u225, u226, u227, u228, u229, u230, u231, u232, u233, u234, u235, u236, u237, u238, u239, u240, u241, u242, u243, u244, u245, u246, u247, u248, u249, u250, u251, u252, u253, u254, u255, u256, u257, u258, u259, u260, u261, u262, u263, u264, u265, u266, u267, u268, u269, u270, u271, u272, u273, u274, u275, u276, u277, u278, u279, u280, u281, u282, u283, u284, u285, u286, u287, u288, u289, u290, u291, u292, u293, u294, u295, u296, u297, u298, u299, u300, u301, u302, u303, u304, u305, u306, u307, u308, u309, u310, u311].toArray, d0⟩ w := by
  dsimp only [bl9]
  have H0 := Lib.hid h
  have M0 := Lib.hid m
  have HF := Lib.hid hf
  clear h m hf
  go_wp2_with fail
  go_loopw [24] (fun i wx => ∃ n : Nat, n ≤ 2 ∧ i = .int .i64 (n : Int) ∧ S0 w0 wx F p s g7 g8 g9 g10 V P C) (fun i _ => 2 - (intOf i).toNat)
  case atStart => exact ⟨0, by omega, rfl, H0.out⟩
  case round =>
    clear H0
    obtain ⟨n5, hn5, rfl, hs5⟩ := hrel
    have S5 := Lib.hid hs5
    clear hs5
    have hn3 : n5 = 0 ∨ n5 = 1 ∨ n5 = 2 := by omega
    rcases hn3 with rfl | rfl | rfl
    · go_upto_region 52 with fail
      go_cut [295] from 269 to 295 (fun v wx => v = .bool false ∧ S0 w0 wx F p s g7 g8 g9 g10 V P C)
      case first J K_ hJ hK =>
        refine reg52_0 (w0 := w0) (F := F) (p := p) (s := s) (g7 := g7) (g8 := g8) (g13 := 0) (V := V) (K := 0) (T := 0) (X := 0) (by kernel_rfl) (by kernel_rfl) (by kernel_rfl) (by kernel_rfl) S5.out.h9 S5.out.h10 (pre_of M0.out.ti.dx) (by have := M0.out.p0.1; omega) ?_
        intro f W hB h295
        go_step
        refine hK _ _ (Met.intro (hJ _ _ ?_))
        (repeat apply Exists.intro)
        refine ⟨?_, rfl⟩
        exact ⟨h295, S5.out.later hB⟩
      case rest =>
        obtain ⟨rfl, hs5⟩ := hcut
        clear S5
        have S5 := Lib.hid hs5
        clear hs5
        go_wp2_with fail
        go_round
        case rel => exact ⟨1, by omega, by rfl, S5.out⟩
        case measure => decide
    · go_upto_region 52 with fail
      go_cut [295] from 269 to 295 (fun v wx => v = .bool false ∧ S0 w0 wx F p s g7 g8 g9 g10 V P C)
      case first J K_ hJ hK =>
        refine reg52_1 (w0 := w0) (F := F) (p := p) (s := s) (g7 := g7) (g8 := g8) (g13 := 0) (V := V) (K := 0) (T := 0) (X := 0) (by kernel_rfl) (by kernel_rfl) (by kernel_rfl) (by kernel_rfl) S5.out.h9 S5.out.h10 (pre_of M0.out.ti.dy) (by have := M0.out.p1.1; omega) ?_
        intro f W hB h295
        go_step
        refine hK _ _ (Met.intro (hJ _ _ ?_))
        (repeat apply Exists.intro)
        refine ⟨?_, rfl⟩
        exact ⟨h295, S5.out.later hB⟩
      case rest =>
        obtain ⟨rfl, hs5⟩ := hcut
        clear S5
        have S5 := Lib.hid hs5
        clear hs5
        go_wp2_with fail
        go_round
        case rel => exact ⟨2, by omega, by rfl, S5.out⟩
        case measure => decide
    · go_wp2_with fail
      refine HF.out _ _ ?_ S5.out; kernel_rfl
end Go.Proofs.YtodimanghmepoaaDoor
