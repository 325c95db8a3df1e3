/- The reference's reader, walked: its loop. Printed by wip/tools/gen_ref.py. -/
import Derived.Test.YtpilifhdhgdbjaaRefC
namespace Go.Proofs.Ytpilifhdhgdbjaa
open Go.RowKit
set_option linter.unusedVariables false
set_option linter.unusedSimpArgs false

set_option maxHeartbeats 4000000 in
set_option maxRecDepth 20000 in
theorem r0l0 {w W : World} {s : ByteArray} {X : Except Nat Sp.St} {x : Sp.St} {v : Value} {i : Nat} {Q0 : Exit → Act → World → Prop} (c17 c18 c19 c20 c232 u3 u4 u13 u14 u15 u16 u21 u22 u23 u24 u25 u26 u27 u28 u29 u30 u31 u32 u33 u34 u35 u36 u37 u38 u39 u40 u41 u42 u43 u44 u45 u46 u47 u48 u49 u50 u51 u52 u53 u54 u55 u56 u57 u58 u59 u60 u61 u62 u63 u64 u65 u66 u67 u68 u69 u70 u71 u72 u73 u74 u75 u76 u77 u78 u79 u80 u81 u82 u83 u84 u85 u86 u87 u88 u89 u90 u91 u92 u93 u94 u95 u96 u97 u98 u99 u100 u101 u102 u103 u104 u105 u106 u107 u108 u109 u110 u111 u112 u113 u114 u115 u116 u117 u118 u119 u120 u121 u122 u123 u124 u125 u126 u127 u128 u129 u130 u131 u132 u133 u134 u135 u136 u137 u138 u139 u140 u141 u142 u143 u144 u145 u146 u147 u148 u149 u150 u151 u152 u153 u154 u155 u156 u157 u158 u159 u160 u161 u162 u163 u164 u165 u166 u167 u168 u169 u170 u171 u172 u173 u174 u175 u176 u177 u178 u179 u180 u181 u182 u183 u184 u185 u186 u187 u188 u189 u190 u191 u192 u193 u194 u195 u196 u197 u198 u199 u200 u201 u202 u203 u204 u205 u206 u207 u208 u209 u210 u211 u212 u213 u214 u215 u216 u217 u218 u219 u220 u221 u222 u223 u224 u225 u226 u227 u228 u229 u230 u231 : Value)
    (hs : s.size ≤ 4096) (hM : RMem w x.cmd x.name x.opts v W) (hB : RBd x i) (hlt : i < s.size) (hf : Sp.isFi s[i] = true) (hb : Sp.isBl s[i] = false) (h35 : ((s[i].toNat : Int) == 35) = false) (hl : Sp.isLe s[i] = true) (hX : RGood s X { x with word := [s[i]], st := 1, fields := 0 + 1 } (i + 1)) :
    rbody.wp Try.prog (Exit.then (fun a' W' => RI w s X c17 c18 c19 c20 c232 a' W' ∧ Rmu s a' W' < Rmu s ⟨#[.string s, undef, .pointer (some ⟨w.heap.size, 0, none⟩), u3, u4, .pointer (some ⟨w.heap.size + 1, 0, none⟩), .pointer (some ⟨w.heap.size + 1 + 1, 0, none⟩), .int .i64 0, .int .i64 0, .string (bs x.word), .string (bs x.value), .int .i64 x.half, .int .i64 i, u13, u14, u15, u16, c17, c18, c19, c20, u21, u22, u23, u24, u25, u26, u27, u28, u29, u30, u31, u32, u33, u34, u35, u36, u37, u38, u39, u40, u41, u42, u43, u44, u45, u46, u47, u48, u49, u50, u51, u52, u53, u54, u55, u56, u57, u58, u59, u60, u61, u62, u63, u64, u65, u66, u67, u68, u69, u70, u71, u72, u73, u74, u75, u76, u77, u78, u79, u80, u81, u82, u83, u84, u85, u86, u87, u88, u89, u90, u91, u92, u93, u94, u95, u96, u97, u98, u99, u100, u101, u102, u103, u104, u105, u106, u107, u108, u109, u110, u111, u112, u113, u114, u115, u116, u117, u118, u119, u120, u121, u122, u123, u124, u125, u126, u127, u128, u129, u130, u131, u132, u133, u134, u135, u136, u137, u138, u139, u140, u141, u142, u143, u144, u145, u146, u147, u148, u149, u150, u151, u152, u153, u154, u155, u156, u157, u158, u159, u160, u161, u162, u163, u164, u165, u166, u167, u168, u169, u170, u171, u172, u173, u174, u175, u176, u177, u178, u179, u180, u181, u182, u183, u184, u185, u186, u187, u188, u189, u190, u191, u192, u193, u194, u195, u196, u197, u198, u199, u200, u201, u202, u203, u204, u205, u206, u207, u208, u209, u210, u211, u212, u213, u214, u215, u216, u217, u218, u219, u220, u221, u222, u223, u224, u225, u226, u227, u228, u229, u230, u231, c232], []⟩ W) Q0) ⟨#[.string s, undef, .pointer (some ⟨w.heap.size, 0, none⟩), u3, u4, .pointer (some ⟨w.heap.size + 1, 0, none⟩), .pointer (some ⟨w.heap.size + 1 + 1, 0, none⟩), .int .i64 0, .int .i64 0, .string (bs x.word), .string (bs x.value), .int .i64 x.half, .int .i64 i, u13, u14, u15, u16, c17, c18, c19, c20, u21, u22, u23, u24, u25, u26, u27, u28, u29, u30, u31, u32, u33, u34, u35, u36, u37, u38, u39, u40, u41, u42, u43, u44, u45, u46, u47, u48, u49, u50, u51, u52, u53, u54, u55, u56, u57, u58, u59, u60, u61, u62, u63, u64, u65, u66, u67, u68, u69, u70, u71, u72, u73, u74, u75, u76, u77, u78, u79, u80, u81, u82, u83, u84, u85, u86, u87, u88, u89, u90, u91, u92, u93, u94, u95, u96, u97, u98, u99, u100, u101, u102, u103, u104, u105, u106, u107, u108, u109, u110, u111, u112, u113, u114, u115, u116, u117, u118, u119, u120, u121, u122, u123, u124, u125, u126, u127, u128, u129, u130, u131, u132, u133, u134, u135, u136, u137, u138, u139, u140, u141, u142, u143, u144, u145, u146, u147, u148, u149, u150, u151, u152, u153, u154, u155, u156, u157, u158, u159, u160, u161, u162, u163, u164, u165, u166, u167, u168, u169, u170, u171, u172, u173, u174, u175, u176, u177, u178, u179, u180, u181, u182, u183, u184, u185, u186, u187, u188, u189, u190, u191, u192, u193, u194, u195, u196, u197, u198, u199, u200, u201, u202, u203, u204, u205, u206, u207, u208, u209, u210, u211, u212, u213, u214, u215, u216, u217, u218, u219, u220, u221, u222, u223, u224, u225, u226, u227, u228, u229, u230, u231, c232], []⟩ W := by
  conv => arg 2; whnf
  have hws : (bs x.word).size ≤ 4096 := by rw [bs_size]; have := hB.2.1; omega
  have hvs : (bs x.value).size ≤ 4096 := by rw [bs_size]; have := hB.2.2.1; omega
  have hcv := conv1 W s[i]
  have hone : (bs [s[i]]).size = 1 := rfl
  have hne : ((i : Int) == (s.size : Int)) = false := by simp; omega
  have HF := Lib.hid hf; clear hf
  have HB := Lib.hid hb; clear hb
  have HL := Lib.hid hl; clear hl
  have HX := Lib.hid hX; clear hX
  have hz2 := hM.size
  have hz1 : w.heap.size + 1 < W.heap.size := by omega
  have hz0 : w.heap.size < W.heap.size := by omega
  have n0 := hM.n0
  have n1 := hM.n1
  have n2 := hM.n2
  have r0 := hM.r0
  have r1 := hM.r1
  have r2 := hM.r2
  have rf := hM.rf
  have l0 := hM.l0
  have l1 := hM.l1
  have l2 := hM.l2
  have lf := hM.lf
  have HM := Lib.hid hM; clear hM
  go_wp2_with (first | (go_at_call 11; refine (rfine_c _ _).mono ?_; rw [HF.out]; rintro e w' ⟨rfl, rfl⟩) | (go_at_call 12; refine (rblank_c _ _).mono ?_; rw [HB.out]; rintro e w' ⟨rfl, rfl⟩) | (go_at_call 13; refine (rletter_c _ _).mono ?_; rw [HL.out]; rintro e w' ⟨rfl, rfl⟩) | (go_at_call 14; refine (rdigit_c _ _).mono ?_; rw [HD.out]; rintro e w' ⟨rfl, rfl⟩) | (go_at_call 15; refine (rhexa_c _ _).mono ?_; (try rw [HH.out]); rintro e w' ⟨rfl, rfl⟩))
  refine ⟨⟨_, _, _, _, _, _, _, _, _, _, _, _, _, _, _, _, _, _, _, _, _, _, _, _, _, _, _, _, _, _, _, _, _, _, _, _, _, _, _, _, _, _, _, _, _, _, _, _, _, _, _, _, _, _, _, _, _, _, _, _, _, _, _, _, _, _, _, _, _, _, _, _, _, _, _, _, _, _, _, _, _, _, _, _, _, _, _, _, _, _, _, _, _, _, _, _, _, _, _, _, _, _, _, _, _, _, _, _, _, _, _, _, _, _, _, _, _, _, _, _, _, _, _, _, _, _, _, _, _, _, _, _, _, _, _, _, _, _, _, _, _, _, _, _, _, _, _, _, _, _, _, _, _, _, _, _, _, _, _, _, _, _, _, _, _, _, _, _, _, _, _, _, _, _, _, _, _, _, _, _, _, _, _, _, _, _, _, _, _, _, _, _, _, _, _, _, _, _, _, _, _, _, _, _, _, _, _, _, _, _, _, _, _, _, _, _, _, _, _, _, _, _, _, ⟨{ x with word := [s[i]], st := 1, fields := 0 + 1 }, _, i + 1, rfl, rfl, rfl, rfl, rfl, rfl, HM.out.alloc _, HX.out⟩, rfl⟩, ?_⟩
  rw [rmu_of rfl, rmu_of rfl]; omega

set_option maxHeartbeats 4000000 in
set_option maxRecDepth 20000 in
theorem r0xn {w W : World} {s : ByteArray} {X : Except Nat Sp.St} {x : Sp.St} {v : Value} {i : Nat} {Q0 : Exit → Act → World → Prop} (c17 c18 c19 c20 c232 u3 u4 u13 u14 u15 u16 u21 u22 u23 u24 u25 u26 u27 u28 u29 u30 u31 u32 u33 u34 u35 u36 u37 u38 u39 u40 u41 u42 u43 u44 u45 u46 u47 u48 u49 u50 u51 u52 u53 u54 u55 u56 u57 u58 u59 u60 u61 u62 u63 u64 u65 u66 u67 u68 u69 u70 u71 u72 u73 u74 u75 u76 u77 u78 u79 u80 u81 u82 u83 u84 u85 u86 u87 u88 u89 u90 u91 u92 u93 u94 u95 u96 u97 u98 u99 u100 u101 u102 u103 u104 u105 u106 u107 u108 u109 u110 u111 u112 u113 u114 u115 u116 u117 u118 u119 u120 u121 u122 u123 u124 u125 u126 u127 u128 u129 u130 u131 u132 u133 u134 u135 u136 u137 u138 u139 u140 u141 u142 u143 u144 u145 u146 u147 u148 u149 u150 u151 u152 u153 u154 u155 u156 u157 u158 u159 u160 u161 u162 u163 u164 u165 u166 u167 u168 u169 u170 u171 u172 u173 u174 u175 u176 u177 u178 u179 u180 u181 u182 u183 u184 u185 u186 u187 u188 u189 u190 u191 u192 u193 u194 u195 u196 u197 u198 u199 u200 u201 u202 u203 u204 u205 u206 u207 u208 u209 u210 u211 u212 u213 u214 u215 u216 u217 u218 u219 u220 u221 u222 u223 u224 u225 u226 u227 u228 u229 u230 u231 : Value)
    (hs : s.size ≤ 4096) (hM : RMem w x.cmd x.name x.opts v W) (hB : RBd x i) (hlt : i < s.size) (hf : Sp.isFi s[i] = true) (hb : Sp.isBl s[i] = false) (h35 : ((s[i].toNat : Int) == 35) = false) (hl : Sp.isLe s[i] = false) (hf2 : 2 ≤ x.fields) (hfl : x.fields ≤ 4097) (hX : X = .error (i + 1)) (hret : ∀ a W', RRet w s X a W' → Q0 .ret a W') :
    rbody.wp Try.prog (Exit.then (fun a' W' => RI w s X c17 c18 c19 c20 c232 a' W' ∧ Rmu s a' W' < Rmu s ⟨#[.string s, undef, .pointer (some ⟨w.heap.size, 0, none⟩), u3, u4, .pointer (some ⟨w.heap.size + 1, 0, none⟩), .pointer (some ⟨w.heap.size + 1 + 1, 0, none⟩), .int .i64 0, .int .i64 x.fields, .string (bs x.word), .string (bs x.value), .int .i64 x.half, .int .i64 i, u13, u14, u15, u16, c17, c18, c19, c20, u21, u22, u23, u24, u25, u26, u27, u28, u29, u30, u31, u32, u33, u34, u35, u36, u37, u38, u39, u40, u41, u42, u43, u44, u45, u46, u47, u48, u49, u50, u51, u52, u53, u54, u55, u56, u57, u58, u59, u60, u61, u62, u63, u64, u65, u66, u67, u68, u69, u70, u71, u72, u73, u74, u75, u76, u77, u78, u79, u80, u81, u82, u83, u84, u85, u86, u87, u88, u89, u90, u91, u92, u93, u94, u95, u96, u97, u98, u99, u100, u101, u102, u103, u104, u105, u106, u107, u108, u109, u110, u111, u112, u113, u114, u115, u116, u117, u118, u119, u120, u121, u122, u123, u124, u125, u126, u127, u128, u129, u130, u131, u132, u133, u134, u135, u136, u137, u138, u139, u140, u141, u142, u143, u144, u145, u146, u147, u148, u149, u150, u151, u152, u153, u154, u155, u156, u157, u158, u159, u160, u161, u162, u163, u164, u165, u166, u167, u168, u169, u170, u171, u172, u173, u174, u175, u176, u177, u178, u179, u180, u181, u182, u183, u184, u185, u186, u187, u188, u189, u190, u191, u192, u193, u194, u195, u196, u197, u198, u199, u200, u201, u202, u203, u204, u205, u206, u207, u208, u209, u210, u211, u212, u213, u214, u215, u216, u217, u218, u219, u220, u221, u222, u223, u224, u225, u226, u227, u228, u229, u230, u231, c232], []⟩ W) Q0) ⟨#[.string s, undef, .pointer (some ⟨w.heap.size, 0, none⟩), u3, u4, .pointer (some ⟨w.heap.size + 1, 0, none⟩), .pointer (some ⟨w.heap.size + 1 + 1, 0, none⟩), .int .i64 0, .int .i64 x.fields, .string (bs x.word), .string (bs x.value), .int .i64 x.half, .int .i64 i, u13, u14, u15, u16, c17, c18, c19, c20, u21, u22, u23, u24, u25, u26, u27, u28, u29, u30, u31, u32, u33, u34, u35, u36, u37, u38, u39, u40, u41, u42, u43, u44, u45, u46, u47, u48, u49, u50, u51, u52, u53, u54, u55, u56, u57, u58, u59, u60, u61, u62, u63, u64, u65, u66, u67, u68, u69, u70, u71, u72, u73, u74, u75, u76, u77, u78, u79, u80, u81, u82, u83, u84, u85, u86, u87, u88, u89, u90, u91, u92, u93, u94, u95, u96, u97, u98, u99, u100, u101, u102, u103, u104, u105, u106, u107, u108, u109, u110, u111, u112, u113, u114, u115, u116, u117, u118, u119, u120, u121, u122, u123, u124, u125, u126, u127, u128, u129, u130, u131, u132, u133, u134, u135, u136, u137, u138, u139, u140, u141, u142, u143, u144, u145, u146, u147, u148, u149, u150, u151, u152, u153, u154, u155, u156, u157, u158, u159, u160, u161, u162, u163, u164, u165, u166, u167, u168, u169, u170, u171, u172, u173, u174, u175, u176, u177, u178, u179, u180, u181, u182, u183, u184, u185, u186, u187, u188, u189, u190, u191, u192, u193, u194, u195, u196, u197, u198, u199, u200, u201, u202, u203, u204, u205, u206, u207, u208, u209, u210, u211, u212, u213, u214, u215, u216, u217, u218, u219, u220, u221, u222, u223, u224, u225, u226, u227, u228, u229, u230, u231, c232], []⟩ W := by
  conv => arg 2; whnf
  have hws : (bs x.word).size ≤ 4096 := by rw [bs_size]; have := hB.2.1; omega
  have hvs : (bs x.value).size ≤ 4096 := by rw [bs_size]; have := hB.2.2.1; omega
  have hcv := conv1 W s[i]
  have hone : (bs [s[i]]).size = 1 := rfl
  have hne : ((i : Int) == (s.size : Int)) = false := by simp; omega
  have HF := Lib.hid hf; clear hf
  have HB := Lib.hid hb; clear hb
  have HL := Lib.hid hl; clear hl
  have hf0 : ((x.fields : Int) == 0) = false := by simp; omega
  have hf1 : ((x.fields : Int) == 1) = false := by simp; omega
  have HX := Lib.hid hX; clear hX
  have hA := hM.alloc (.cells #[.int .u8 s[i].toNat] 5)
  have a_n0 := hA.n0
  have a_n1 := hA.n1
  have a_n2 := hA.n2
  have a_r0 := hA.r0
  have a_r1 := hA.r1
  have a_r2 := hA.r2
  have a_rf := hA.rf
  clear hA
  have hz2 := hM.size
  have hz1 : w.heap.size + 1 < W.heap.size := by omega
  have hz0 : w.heap.size < W.heap.size := by omega
  have n0 := hM.n0
  have n1 := hM.n1
  have n2 := hM.n2
  have r0 := hM.r0
  have r1 := hM.r1
  have r2 := hM.r2
  have rf := hM.rf
  have l0 := hM.l0
  have l1 := hM.l1
  have l2 := hM.l2
  have lf := hM.lf
  have HM := Lib.hid hM; clear hM
  go_wp2_with (first | (go_at_call 11; refine (rfine_c _ _).mono ?_; rw [HF.out]; rintro e w' ⟨rfl, rfl⟩) | (go_at_call 12; refine (rblank_c _ _).mono ?_; rw [HB.out]; rintro e w' ⟨rfl, rfl⟩) | (go_at_call 13; refine (rletter_c _ _).mono ?_; rw [HL.out]; rintro e w' ⟨rfl, rfl⟩) | (go_at_call 14; refine (rdigit_c _ _).mono ?_; rw [HD.out]; rintro e w' ⟨rfl, rfl⟩) | (go_at_call 15; refine (rhexa_c _ _).mono ?_; (try rw [HH.out]); rintro e w' ⟨rfl, rfl⟩))
  first | exact rret_bad rfl rfl rfl hs HM.out HX.out | exact rret_bad_alloc rfl rfl rfl hs HM.out HX.out

set_option maxHeartbeats 4000000 in
set_option maxRecDepth 20000 in
theorem r1y {w W : World} {s : ByteArray} {X : Except Nat Sp.St} {x : Sp.St} {v : Value} {i : Nat} {Q0 : Exit → Act → World → Prop} (c17 c18 c19 c20 c232 u3 u4 u13 u14 u15 u16 u21 u22 u23 u24 u25 u26 u27 u28 u29 u30 u31 u32 u33 u34 u35 u36 u37 u38 u39 u40 u41 u42 u43 u44 u45 u46 u47 u48 u49 u50 u51 u52 u53 u54 u55 u56 u57 u58 u59 u60 u61 u62 u63 u64 u65 u66 u67 u68 u69 u70 u71 u72 u73 u74 u75 u76 u77 u78 u79 u80 u81 u82 u83 u84 u85 u86 u87 u88 u89 u90 u91 u92 u93 u94 u95 u96 u97 u98 u99 u100 u101 u102 u103 u104 u105 u106 u107 u108 u109 u110 u111 u112 u113 u114 u115 u116 u117 u118 u119 u120 u121 u122 u123 u124 u125 u126 u127 u128 u129 u130 u131 u132 u133 u134 u135 u136 u137 u138 u139 u140 u141 u142 u143 u144 u145 u146 u147 u148 u149 u150 u151 u152 u153 u154 u155 u156 u157 u158 u159 u160 u161 u162 u163 u164 u165 u166 u167 u168 u169 u170 u171 u172 u173 u174 u175 u176 u177 u178 u179 u180 u181 u182 u183 u184 u185 u186 u187 u188 u189 u190 u191 u192 u193 u194 u195 u196 u197 u198 u199 u200 u201 u202 u203 u204 u205 u206 u207 u208 u209 u210 u211 u212 u213 u214 u215 u216 u217 u218 u219 u220 u221 u222 u223 u224 u225 u226 u227 u228 u229 u230 u231 : Value)
    (hs : s.size ≤ 4096) (hM : RMem w x.cmd x.name x.opts v W) (hB : RBd x i) (hlt : i < s.size) (hf : Sp.isFi s[i] = true) (hb : Sp.isBl s[i] = false) (hl : Sp.isLe s[i] = true) (h16 : x.word.length = 16) (hX : X = .error (i + 1)) (hret : ∀ a W', RRet w s X a W' → Q0 .ret a W') :
    rbody.wp Try.prog (Exit.then (fun a' W' => RI w s X c17 c18 c19 c20 c232 a' W' ∧ Rmu s a' W' < Rmu s ⟨#[.string s, undef, .pointer (some ⟨w.heap.size, 0, none⟩), u3, u4, .pointer (some ⟨w.heap.size + 1, 0, none⟩), .pointer (some ⟨w.heap.size + 1 + 1, 0, none⟩), .int .i64 1, .int .i64 x.fields, .string (bs x.word), .string (bs x.value), .int .i64 x.half, .int .i64 i, u13, u14, u15, u16, c17, c18, c19, c20, u21, u22, u23, u24, u25, u26, u27, u28, u29, u30, u31, u32, u33, u34, u35, u36, u37, u38, u39, u40, u41, u42, u43, u44, u45, u46, u47, u48, u49, u50, u51, u52, u53, u54, u55, u56, u57, u58, u59, u60, u61, u62, u63, u64, u65, u66, u67, u68, u69, u70, u71, u72, u73, u74, u75, u76, u77, u78, u79, u80, u81, u82, u83, u84, u85, u86, u87, u88, u89, u90, u91, u92, u93, u94, u95, u96, u97, u98, u99, u100, u101, u102, u103, u104, u105, u106, u107, u108, u109, u110, u111, u112, u113, u114, u115, u116, u117, u118, u119, u120, u121, u122, u123, u124, u125, u126, u127, u128, u129, u130, u131, u132, u133, u134, u135, u136, u137, u138, u139, u140, u141, u142, u143, u144, u145, u146, u147, u148, u149, u150, u151, u152, u153, u154, u155, u156, u157, u158, u159, u160, u161, u162, u163, u164, u165, u166, u167, u168, u169, u170, u171, u172, u173, u174, u175, u176, u177, u178, u179, u180, u181, u182, u183, u184, u185, u186, u187, u188, u189, u190, u191, u192, u193, u194, u195, u196, u197, u198, u199, u200, u201, u202, u203, u204, u205, u206, u207, u208, u209, u210, u211, u212, u213, u214, u215, u216, u217, u218, u219, u220, u221, u222, u223, u224, u225, u226, u227, u228, u229, u230, u231, c232], []⟩ W) Q0) ⟨#[.string s, undef, .pointer (some ⟨w.heap.size, 0, none⟩), u3, u4, .pointer (some ⟨w.heap.size + 1, 0, none⟩), .pointer (some ⟨w.heap.size + 1 + 1, 0, none⟩), .int .i64 1, .int .i64 x.fields, .string (bs x.word), .string (bs x.value), .int .i64 x.half, .int .i64 i, u13, u14, u15, u16, c17, c18, c19, c20, u21, u22, u23, u24, u25, u26, u27, u28, u29, u30, u31, u32, u33, u34, u35, u36, u37, u38, u39, u40, u41, u42, u43, u44, u45, u46, u47, u48, u49, u50, u51, u52, u53, u54, u55, u56, u57, u58, u59, u60, u61, u62, u63, u64, u65, u66, u67, u68, u69, u70, u71, u72, u73, u74, u75, u76, u77, u78, u79, u80, u81, u82, u83, u84, u85, u86, u87, u88, u89, u90, u91, u92, u93, u94, u95, u96, u97, u98, u99, u100, u101, u102, u103, u104, u105, u106, u107, u108, u109, u110, u111, u112, u113, u114, u115, u116, u117, u118, u119, u120, u121, u122, u123, u124, u125, u126, u127, u128, u129, u130, u131, u132, u133, u134, u135, u136, u137, u138, u139, u140, u141, u142, u143, u144, u145, u146, u147, u148, u149, u150, u151, u152, u153, u154, u155, u156, u157, u158, u159, u160, u161, u162, u163, u164, u165, u166, u167, u168, u169, u170, u171, u172, u173, u174, u175, u176, u177, u178, u179, u180, u181, u182, u183, u184, u185, u186, u187, u188, u189, u190, u191, u192, u193, u194, u195, u196, u197, u198, u199, u200, u201, u202, u203, u204, u205, u206, u207, u208, u209, u210, u211, u212, u213, u214, u215, u216, u217, u218, u219, u220, u221, u222, u223, u224, u225, u226, u227, u228, u229, u230, u231, c232], []⟩ W := by
  conv => arg 2; whnf
  have hws : (bs x.word).size ≤ 4096 := by rw [bs_size]; have := hB.2.1; omega
  have hvs : (bs x.value).size ≤ 4096 := by rw [bs_size]; have := hB.2.2.1; omega
  have hcv := conv1 W s[i]
  have hone : (bs [s[i]]).size = 1 := rfl
  have hne : ((i : Int) == (s.size : Int)) = false := by simp; omega
  have HF := Lib.hid hf; clear hf
  have HB := Lib.hid hb; clear hb
  have HL := Lib.hid hl; clear hl
  have h16i : (((bs x.word).size : Int) == 16) = true := by simp [bs, ByteArray.size, h16]
  have HX := Lib.hid hX; clear hX
  have hA := hM.alloc (.cells #[.int .u8 s[i].toNat] 5)
  have a_n0 := hA.n0
  have a_n1 := hA.n1
  have a_n2 := hA.n2
  have a_r0 := hA.r0
  have a_r1 := hA.r1
  have a_r2 := hA.r2
  have a_rf := hA.rf
  clear hA
  have hz2 := hM.size
  have hz1 : w.heap.size + 1 < W.heap.size := by omega
  have hz0 : w.heap.size < W.heap.size := by omega
  have n0 := hM.n0
  have n1 := hM.n1
  have n2 := hM.n2
  have r0 := hM.r0
  have r1 := hM.r1
  have r2 := hM.r2
  have rf := hM.rf
  have l0 := hM.l0
  have l1 := hM.l1
  have l2 := hM.l2
  have lf := hM.lf
  have HM := Lib.hid hM; clear hM
  go_wp2_with (first | (go_at_call 11; refine (rfine_c _ _).mono ?_; rw [HF.out]; rintro e w' ⟨rfl, rfl⟩) | (go_at_call 12; refine (rblank_c _ _).mono ?_; rw [HB.out]; rintro e w' ⟨rfl, rfl⟩) | (go_at_call 13; refine (rletter_c _ _).mono ?_; rw [HL.out]; rintro e w' ⟨rfl, rfl⟩) | (go_at_call 14; refine (rdigit_c _ _).mono ?_; rw [HD.out]; rintro e w' ⟨rfl, rfl⟩) | (go_at_call 15; refine (rhexa_c _ _).mono ?_; (try rw [HH.out]); rintro e w' ⟨rfl, rfl⟩))
  first | exact rret_bad rfl rfl rfl hs HM.out HX.out | exact rret_bad_alloc rfl rfl rfl hs HM.out HX.out

set_option maxHeartbeats 4000000 in
set_option maxRecDepth 20000 in
theorem r2ly {w W : World} {s : ByteArray} {X : Except Nat Sp.St} {x : Sp.St} {v : Value} {i : Nat} {Q0 : Exit → Act → World → Prop} (c17 c18 c19 c20 c232 u3 u4 u13 u14 u15 u16 u21 u22 u23 u24 u25 u26 u27 u28 u29 u30 u31 u32 u33 u34 u35 u36 u37 u38 u39 u40 u41 u42 u43 u44 u45 u46 u47 u48 u49 u50 u51 u52 u53 u54 u55 u56 u57 u58 u59 u60 u61 u62 u63 u64 u65 u66 u67 u68 u69 u70 u71 u72 u73 u74 u75 u76 u77 u78 u79 u80 u81 u82 u83 u84 u85 u86 u87 u88 u89 u90 u91 u92 u93 u94 u95 u96 u97 u98 u99 u100 u101 u102 u103 u104 u105 u106 u107 u108 u109 u110 u111 u112 u113 u114 u115 u116 u117 u118 u119 u120 u121 u122 u123 u124 u125 u126 u127 u128 u129 u130 u131 u132 u133 u134 u135 u136 u137 u138 u139 u140 u141 u142 u143 u144 u145 u146 u147 u148 u149 u150 u151 u152 u153 u154 u155 u156 u157 u158 u159 u160 u161 u162 u163 u164 u165 u166 u167 u168 u169 u170 u171 u172 u173 u174 u175 u176 u177 u178 u179 u180 u181 u182 u183 u184 u185 u186 u187 u188 u189 u190 u191 u192 u193 u194 u195 u196 u197 u198 u199 u200 u201 u202 u203 u204 u205 u206 u207 u208 u209 u210 u211 u212 u213 u214 u215 u216 u217 u218 u219 u220 u221 u222 u223 u224 u225 u226 u227 u228 u229 u230 u231 : Value)
    (hs : s.size ≤ 4096) (hM : RMem w x.cmd x.name x.opts v W) (hB : RBd x i) (hlt : i < s.size) (hf : Sp.isFi s[i] = true) (hb : Sp.isBl s[i] = false) (h61 : ((s[i].toNat : Int) == 61) = false) (hl : Sp.isLe s[i] = true) (h16 : x.word.length = 16) (hX : X = .error (i + 1)) (hret : ∀ a W', RRet w s X a W' → Q0 .ret a W') :
    rbody.wp Try.prog (Exit.then (fun a' W' => RI w s X c17 c18 c19 c20 c232 a' W' ∧ Rmu s a' W' < Rmu s ⟨#[.string s, undef, .pointer (some ⟨w.heap.size, 0, none⟩), u3, u4, .pointer (some ⟨w.heap.size + 1, 0, none⟩), .pointer (some ⟨w.heap.size + 1 + 1, 0, none⟩), .int .i64 2, .int .i64 x.fields, .string (bs x.word), .string (bs x.value), .int .i64 x.half, .int .i64 i, u13, u14, u15, u16, c17, c18, c19, c20, u21, u22, u23, u24, u25, u26, u27, u28, u29, u30, u31, u32, u33, u34, u35, u36, u37, u38, u39, u40, u41, u42, u43, u44, u45, u46, u47, u48, u49, u50, u51, u52, u53, u54, u55, u56, u57, u58, u59, u60, u61, u62, u63, u64, u65, u66, u67, u68, u69, u70, u71, u72, u73, u74, u75, u76, u77, u78, u79, u80, u81, u82, u83, u84, u85, u86, u87, u88, u89, u90, u91, u92, u93, u94, u95, u96, u97, u98, u99, u100, u101, u102, u103, u104, u105, u106, u107, u108, u109, u110, u111, u112, u113, u114, u115, u116, u117, u118, u119, u120, u121, u122, u123, u124, u125, u126, u127, u128, u129, u130, u131, u132, u133, u134, u135, u136, u137, u138, u139, u140, u141, u142, u143, u144, u145, u146, u147, u148, u149, u150, u151, u152, u153, u154, u155, u156, u157, u158, u159, u160, u161, u162, u163, u164, u165, u166, u167, u168, u169, u170, u171, u172, u173, u174, u175, u176, u177, u178, u179, u180, u181, u182, u183, u184, u185, u186, u187, u188, u189, u190, u191, u192, u193, u194, u195, u196, u197, u198, u199, u200, u201, u202, u203, u204, u205, u206, u207, u208, u209, u210, u211, u212, u213, u214, u215, u216, u217, u218, u219, u220, u221, u222, u223, u224, u225, u226, u227, u228, u229, u230, u231, c232], []⟩ W) Q0) ⟨#[.string s, undef, .pointer (some ⟨w.heap.size, 0, none⟩), u3, u4, .pointer (some ⟨w.heap.size + 1, 0, none⟩), .pointer (some ⟨w.heap.size + 1 + 1, 0, none⟩), .int .i64 2, .int .i64 x.fields, .string (bs x.word), .string (bs x.value), .int .i64 x.half, .int .i64 i, u13, u14, u15, u16, c17, c18, c19, c20, u21, u22, u23, u24, u25, u26, u27, u28, u29, u30, u31, u32, u33, u34, u35, u36, u37, u38, u39, u40, u41, u42, u43, u44, u45, u46, u47, u48, u49, u50, u51, u52, u53, u54, u55, u56, u57, u58, u59, u60, u61, u62, u63, u64, u65, u66, u67, u68, u69, u70, u71, u72, u73, u74, u75, u76, u77, u78, u79, u80, u81, u82, u83, u84, u85, u86, u87, u88, u89, u90, u91, u92, u93, u94, u95, u96, u97, u98, u99, u100, u101, u102, u103, u104, u105, u106, u107, u108, u109, u110, u111, u112, u113, u114, u115, u116, u117, u118, u119, u120, u121, u122, u123, u124, u125, u126, u127, u128, u129, u130, u131, u132, u133, u134, u135, u136, u137, u138, u139, u140, u141, u142, u143, u144, u145, u146, u147, u148, u149, u150, u151, u152, u153, u154, u155, u156, u157, u158, u159, u160, u161, u162, u163, u164, u165, u166, u167, u168, u169, u170, u171, u172, u173, u174, u175, u176, u177, u178, u179, u180, u181, u182, u183, u184, u185, u186, u187, u188, u189, u190, u191, u192, u193, u194, u195, u196, u197, u198, u199, u200, u201, u202, u203, u204, u205, u206, u207, u208, u209, u210, u211, u212, u213, u214, u215, u216, u217, u218, u219, u220, u221, u222, u223, u224, u225, u226, u227, u228, u229, u230, u231, c232], []⟩ W := by
  conv => arg 2; whnf
  have hws : (bs x.word).size ≤ 4096 := by rw [bs_size]; have := hB.2.1; omega
  have hvs : (bs x.value).size ≤ 4096 := by rw [bs_size]; have := hB.2.2.1; omega
  have hcv := conv1 W s[i]
  have hone : (bs [s[i]]).size = 1 := rfl
  have hne : ((i : Int) == (s.size : Int)) = false := by simp; omega
  have HF := Lib.hid hf; clear hf
  have HB := Lib.hid hb; clear hb
  have HL := Lib.hid hl; clear hl
  have h16i : (((bs x.word).size : Int) == 16) = true := by simp [bs, ByteArray.size, h16]
  have HX := Lib.hid hX; clear hX
  have hA := hM.alloc (.cells #[.int .u8 s[i].toNat] 5)
  have a_n0 := hA.n0
  have a_n1 := hA.n1
  have a_n2 := hA.n2
  have a_r0 := hA.r0
  have a_r1 := hA.r1
  have a_r2 := hA.r2
  have a_rf := hA.rf
  clear hA
  have hz2 := hM.size
  have hz1 : w.heap.size + 1 < W.heap.size := by omega
  have hz0 : w.heap.size < W.heap.size := by omega
  have n0 := hM.n0
  have n1 := hM.n1
  have n2 := hM.n2
  have r0 := hM.r0
  have r1 := hM.r1
  have r2 := hM.r2
  have rf := hM.rf
  have l0 := hM.l0
  have l1 := hM.l1
  have l2 := hM.l2
  have lf := hM.lf
  have HM := Lib.hid hM; clear hM
  go_wp2_with (first | (go_at_call 11; refine (rfine_c _ _).mono ?_; rw [HF.out]; rintro e w' ⟨rfl, rfl⟩) | (go_at_call 12; refine (rblank_c _ _).mono ?_; rw [HB.out]; rintro e w' ⟨rfl, rfl⟩) | (go_at_call 13; refine (rletter_c _ _).mono ?_; rw [HL.out]; rintro e w' ⟨rfl, rfl⟩) | (go_at_call 14; refine (rdigit_c _ _).mono ?_; rw [HD.out]; rintro e w' ⟨rfl, rfl⟩) | (go_at_call 15; refine (rhexa_c _ _).mono ?_; (try rw [HH.out]); rintro e w' ⟨rfl, rfl⟩))
  first | exact rret_bad rfl rfl rfl hs HM.out HX.out | exact rret_bad_alloc rfl rfl rfl hs HM.out HX.out

set_option maxHeartbeats 4000000 in
set_option maxRecDepth 20000 in
theorem r2x {w W : World} {s : ByteArray} {X : Except Nat Sp.St} {x : Sp.St} {v : Value} {i : Nat} {Q0 : Exit → Act → World → Prop} (c17 c18 c19 c20 c232 u3 u4 u13 u14 u15 u16 u21 u22 u23 u24 u25 u26 u27 u28 u29 u30 u31 u32 u33 u34 u35 u36 u37 u38 u39 u40 u41 u42 u43 u44 u45 u46 u47 u48 u49 u50 u51 u52 u53 u54 u55 u56 u57 u58 u59 u60 u61 u62 u63 u64 u65 u66 u67 u68 u69 u70 u71 u72 u73 u74 u75 u76 u77 u78 u79 u80 u81 u82 u83 u84 u85 u86 u87 u88 u89 u90 u91 u92 u93 u94 u95 u96 u97 u98 u99 u100 u101 u102 u103 u104 u105 u106 u107 u108 u109 u110 u111 u112 u113 u114 u115 u116 u117 u118 u119 u120 u121 u122 u123 u124 u125 u126 u127 u128 u129 u130 u131 u132 u133 u134 u135 u136 u137 u138 u139 u140 u141 u142 u143 u144 u145 u146 u147 u148 u149 u150 u151 u152 u153 u154 u155 u156 u157 u158 u159 u160 u161 u162 u163 u164 u165 u166 u167 u168 u169 u170 u171 u172 u173 u174 u175 u176 u177 u178 u179 u180 u181 u182 u183 u184 u185 u186 u187 u188 u189 u190 u191 u192 u193 u194 u195 u196 u197 u198 u199 u200 u201 u202 u203 u204 u205 u206 u207 u208 u209 u210 u211 u212 u213 u214 u215 u216 u217 u218 u219 u220 u221 u222 u223 u224 u225 u226 u227 u228 u229 u230 u231 : Value)
    (hs : s.size ≤ 4096) (hM : RMem w x.cmd x.name x.opts v W) (hB : RBd x i) (hlt : i < s.size) (hf : Sp.isFi s[i] = true) (hb : Sp.isBl s[i] = false) (h61 : ((s[i].toNat : Int) == 61) = false) (hl : Sp.isLe s[i] = false) (hd : Sp.isDi s[i] = false) (h95 : ((s[i].toNat : Int) == 95) = false) (hX : X = .error (i + 1)) (hret : ∀ a W', RRet w s X a W' → Q0 .ret a W') :
    rbody.wp Try.prog (Exit.then (fun a' W' => RI w s X c17 c18 c19 c20 c232 a' W' ∧ Rmu s a' W' < Rmu s ⟨#[.string s, undef, .pointer (some ⟨w.heap.size, 0, none⟩), u3, u4, .pointer (some ⟨w.heap.size + 1, 0, none⟩), .pointer (some ⟨w.heap.size + 1 + 1, 0, none⟩), .int .i64 2, .int .i64 x.fields, .string (bs x.word), .string (bs x.value), .int .i64 x.half, .int .i64 i, u13, u14, u15, u16, c17, c18, c19, c20, u21, u22, u23, u24, u25, u26, u27, u28, u29, u30, u31, u32, u33, u34, u35, u36, u37, u38, u39, u40, u41, u42, u43, u44, u45, u46, u47, u48, u49, u50, u51, u52, u53, u54, u55, u56, u57, u58, u59, u60, u61, u62, u63, u64, u65, u66, u67, u68, u69, u70, u71, u72, u73, u74, u75, u76, u77, u78, u79, u80, u81, u82, u83, u84, u85, u86, u87, u88, u89, u90, u91, u92, u93, u94, u95, u96, u97, u98, u99, u100, u101, u102, u103, u104, u105, u106, u107, u108, u109, u110, u111, u112, u113, u114, u115, u116, u117, u118, u119, u120, u121, u122, u123, u124, u125, u126, u127, u128, u129, u130, u131, u132, u133, u134, u135, u136, u137, u138, u139, u140, u141, u142, u143, u144, u145, u146, u147, u148, u149, u150, u151, u152, u153, u154, u155, u156, u157, u158, u159, u160, u161, u162, u163, u164, u165, u166, u167, u168, u169, u170, u171, u172, u173, u174, u175, u176, u177, u178, u179, u180, u181, u182, u183, u184, u185, u186, u187, u188, u189, u190, u191, u192, u193, u194, u195, u196, u197, u198, u199, u200, u201, u202, u203, u204, u205, u206, u207, u208, u209, u210, u211, u212, u213, u214, u215, u216, u217, u218, u219, u220, u221, u222, u223, u224, u225, u226, u227, u228, u229, u230, u231, c232], []⟩ W) Q0) ⟨#[.string s, undef, .pointer (some ⟨w.heap.size, 0, none⟩), u3, u4, .pointer (some ⟨w.heap.size + 1, 0, none⟩), .pointer (some ⟨w.heap.size + 1 + 1, 0, none⟩), .int .i64 2, .int .i64 x.fields, .string (bs x.word), .string (bs x.value), .int .i64 x.half, .int .i64 i, u13, u14, u15, u16, c17, c18, c19, c20, u21, u22, u23, u24, u25, u26, u27, u28, u29, u30, u31, u32, u33, u34, u35, u36, u37, u38, u39, u40, u41, u42, u43, u44, u45, u46, u47, u48, u49, u50, u51, u52, u53, u54, u55, u56, u57, u58, u59, u60, u61, u62, u63, u64, u65, u66, u67, u68, u69, u70, u71, u72, u73, u74, u75, u76, u77, u78, u79, u80, u81, u82, u83, u84, u85, u86, u87, u88, u89, u90, u91, u92, u93, u94, u95, u96, u97, u98, u99, u100, u101, u102, u103, u104, u105, u106, u107, u108, u109, u110, u111, u112, u113, u114, u115, u116, u117, u118, u119, u120, u121, u122, u123, u124, u125, u126, u127, u128, u129, u130, u131, u132, u133, u134, u135, u136, u137, u138, u139, u140, u141, u142, u143, u144, u145, u146, u147, u148, u149, u150, u151, u152, u153, u154, u155, u156, u157, u158, u159, u160, u161, u162, u163, u164, u165, u166, u167, u168, u169, u170, u171, u172, u173, u174, u175, u176, u177, u178, u179, u180, u181, u182, u183, u184, u185, u186, u187, u188, u189, u190, u191, u192, u193, u194, u195, u196, u197, u198, u199, u200, u201, u202, u203, u204, u205, u206, u207, u208, u209, u210, u211, u212, u213, u214, u215, u216, u217, u218, u219, u220, u221, u222, u223, u224, u225, u226, u227, u228, u229, u230, u231, c232], []⟩ W := by
  conv => arg 2; whnf
  have hws : (bs x.word).size ≤ 4096 := by rw [bs_size]; have := hB.2.1; omega
  have hvs : (bs x.value).size ≤ 4096 := by rw [bs_size]; have := hB.2.2.1; omega
  have hcv := conv1 W s[i]
  have hone : (bs [s[i]]).size = 1 := rfl
  have hne : ((i : Int) == (s.size : Int)) = false := by simp; omega
  have HF := Lib.hid hf; clear hf
  have HB := Lib.hid hb; clear hb
  have HL := Lib.hid hl; clear hl
  have HD := Lib.hid hd; clear hd
  have HX := Lib.hid hX; clear hX
  have hA := hM.alloc (.cells #[.int .u8 s[i].toNat] 5)
  have a_n0 := hA.n0
  have a_n1 := hA.n1
  have a_n2 := hA.n2
  have a_r0 := hA.r0
  have a_r1 := hA.r1
  have a_r2 := hA.r2
  have a_rf := hA.rf
  clear hA
  have hz2 := hM.size
  have hz1 : w.heap.size + 1 < W.heap.size := by omega
  have hz0 : w.heap.size < W.heap.size := by omega
  have n0 := hM.n0
  have n1 := hM.n1
  have n2 := hM.n2
  have r0 := hM.r0
  have r1 := hM.r1
  have r2 := hM.r2
  have rf := hM.rf
  have l0 := hM.l0
  have l1 := hM.l1
  have l2 := hM.l2
  have lf := hM.lf
  have HM := Lib.hid hM; clear hM
  go_wp2_with (first | (go_at_call 11; refine (rfine_c _ _).mono ?_; rw [HF.out]; rintro e w' ⟨rfl, rfl⟩) | (go_at_call 12; refine (rblank_c _ _).mono ?_; rw [HB.out]; rintro e w' ⟨rfl, rfl⟩) | (go_at_call 13; refine (rletter_c _ _).mono ?_; rw [HL.out]; rintro e w' ⟨rfl, rfl⟩) | (go_at_call 14; refine (rdigit_c _ _).mono ?_; rw [HD.out]; rintro e w' ⟨rfl, rfl⟩) | (go_at_call 15; refine (rhexa_c _ _).mono ?_; (try rw [HH.out]); rintro e w' ⟨rfl, rfl⟩))
  first | exact rret_bad rfl rfl rfl hs HM.out HX.out | exact rret_bad_alloc rfl rfl rfl hs HM.out HX.out

set_option maxHeartbeats 4000000 in
set_option maxRecDepth 20000 in
theorem r3ly {w W : World} {s : ByteArray} {X : Except Nat Sp.St} {x : Sp.St} {v : Value} {i : Nat} {Q0 : Exit → Act → World → Prop} (c17 c18 c19 c20 c232 u3 u4 u13 u14 u15 u16 u21 u22 u23 u24 u25 u26 u27 u28 u29 u30 u31 u32 u33 u34 u35 u36 u37 u38 u39 u40 u41 u42 u43 u44 u45 u46 u47 u48 u49 u50 u51 u52 u53 u54 u55 u56 u57 u58 u59 u60 u61 u62 u63 u64 u65 u66 u67 u68 u69 u70 u71 u72 u73 u74 u75 u76 u77 u78 u79 u80 u81 u82 u83 u84 u85 u86 u87 u88 u89 u90 u91 u92 u93 u94 u95 u96 u97 u98 u99 u100 u101 u102 u103 u104 u105 u106 u107 u108 u109 u110 u111 u112 u113 u114 u115 u116 u117 u118 u119 u120 u121 u122 u123 u124 u125 u126 u127 u128 u129 u130 u131 u132 u133 u134 u135 u136 u137 u138 u139 u140 u141 u142 u143 u144 u145 u146 u147 u148 u149 u150 u151 u152 u153 u154 u155 u156 u157 u158 u159 u160 u161 u162 u163 u164 u165 u166 u167 u168 u169 u170 u171 u172 u173 u174 u175 u176 u177 u178 u179 u180 u181 u182 u183 u184 u185 u186 u187 u188 u189 u190 u191 u192 u193 u194 u195 u196 u197 u198 u199 u200 u201 u202 u203 u204 u205 u206 u207 u208 u209 u210 u211 u212 u213 u214 u215 u216 u217 u218 u219 u220 u221 u222 u223 u224 u225 u226 u227 u228 u229 u230 u231 : Value)
    (hs : s.size ≤ 4096) (hM : RMem w x.cmd x.name x.opts v W) (hB : RBd x i) (hlt : i < s.size) (hf : Sp.isFi s[i] = true) (hb : Sp.isBl s[i] = false) (h61 : ((s[i].toNat : Int) == 61) = false) (hl : Sp.isLe s[i] = true) (h16 : x.word.length = 16) (hX : X = .error (i + 1)) (hret : ∀ a W', RRet w s X a W' → Q0 .ret a W') :
    rbody.wp Try.prog (Exit.then (fun a' W' => RI w s X c17 c18 c19 c20 c232 a' W' ∧ Rmu s a' W' < Rmu s ⟨#[.string s, undef, .pointer (some ⟨w.heap.size, 0, none⟩), u3, u4, .pointer (some ⟨w.heap.size + 1, 0, none⟩), .pointer (some ⟨w.heap.size + 1 + 1, 0, none⟩), .int .i64 3, .int .i64 x.fields, .string (bs x.word), .string (bs x.value), .int .i64 x.half, .int .i64 i, u13, u14, u15, u16, c17, c18, c19, c20, u21, u22, u23, u24, u25, u26, u27, u28, u29, u30, u31, u32, u33, u34, u35, u36, u37, u38, u39, u40, u41, u42, u43, u44, u45, u46, u47, u48, u49, u50, u51, u52, u53, u54, u55, u56, u57, u58, u59, u60, u61, u62, u63, u64, u65, u66, u67, u68, u69, u70, u71, u72, u73, u74, u75, u76, u77, u78, u79, u80, u81, u82, u83, u84, u85, u86, u87, u88, u89, u90, u91, u92, u93, u94, u95, u96, u97, u98, u99, u100, u101, u102, u103, u104, u105, u106, u107, u108, u109, u110, u111, u112, u113, u114, u115, u116, u117, u118, u119, u120, u121, u122, u123, u124, u125, u126, u127, u128, u129, u130, u131, u132, u133, u134, u135, u136, u137, u138, u139, u140, u141, u142, u143, u144, u145, u146, u147, u148, u149, u150, u151, u152, u153, u154, u155, u156, u157, u158, u159, u160, u161, u162, u163, u164, u165, u166, u167, u168, u169, u170, u171, u172, u173, u174, u175, u176, u177, u178, u179, u180, u181, u182, u183, u184, u185, u186, u187, u188, u189, u190, u191, u192, u193, u194, u195, u196, u197, u198, u199, u200, u201, u202, u203, u204, u205, u206, u207, u208, u209, u210, u211, u212, u213, u214, u215, u216, u217, u218, u219, u220, u221, u222, u223, u224, u225, u226, u227, u228, u229, u230, u231, c232], []⟩ W) Q0) ⟨#[.string s, undef, .pointer (some ⟨w.heap.size, 0, none⟩), u3, u4, .pointer (some ⟨w.heap.size + 1, 0, none⟩), .pointer (some ⟨w.heap.size + 1 + 1, 0, none⟩), .int .i64 3, .int .i64 x.fields, .string (bs x.word), .string (bs x.value), .int .i64 x.half, .int .i64 i, u13, u14, u15, u16, c17, c18, c19, c20, u21, u22, u23, u24, u25, u26, u27, u28, u29, u30, u31, u32, u33, u34, u35, u36, u37, u38, u39, u40, u41, u42, u43, u44, u45, u46, u47, u48, u49, u50, u51, u52, u53, u54, u55, u56, u57, u58, u59, u60, u61, u62, u63, u64, u65, u66, u67, u68, u69, u70, u71, u72, u73, u74, u75, u76, u77, u78, u79, u80, u81, u82, u83, u84, u85, u86, u87, u88, u89, u90, u91, u92, u93, u94, u95, u96, u97, u98, u99, u100, u101, u102, u103, u104, u105, u106, u107, u108, u109, u110, u111, u112, u113, u114, u115, u116, u117, u118, u119, u120, u121, u122, u123, u124, u125, u126, u127, u128, u129, u130, u131, u132, u133, u134, u135, u136, u137, u138, u139, u140, u141, u142, u143, u144, u145, u146, u147, u148, u149, u150, u151, u152, u153, u154, u155, u156, u157, u158, u159, u160, u161, u162, u163, u164, u165, u166, u167, u168, u169, u170, u171, u172, u173, u174, u175, u176, u177, u178, u179, u180, u181, u182, u183, u184, u185, u186, u187, u188, u189, u190, u191, u192, u193, u194, u195, u196, u197, u198, u199, u200, u201, u202, u203, u204, u205, u206, u207, u208, u209, u210, u211, u212, u213, u214, u215, u216, u217, u218, u219, u220, u221, u222, u223, u224, u225, u226, u227, u228, u229, u230, u231, c232], []⟩ W := by
  conv => arg 2; whnf
  have hws : (bs x.word).size ≤ 4096 := by rw [bs_size]; have := hB.2.1; omega
  have hvs : (bs x.value).size ≤ 4096 := by rw [bs_size]; have := hB.2.2.1; omega
  have hcv := conv1 W s[i]
  have hone : (bs [s[i]]).size = 1 := rfl
  have hne : ((i : Int) == (s.size : Int)) = false := by simp; omega
  have HF := Lib.hid hf; clear hf
  have HB := Lib.hid hb; clear hb
  have HL := Lib.hid hl; clear hl
  have h16i : (((bs x.word).size : Int) == 16) = true := by simp [bs, ByteArray.size, h16]
  have HX := Lib.hid hX; clear hX
  have hA := hM.alloc (.cells #[.int .u8 s[i].toNat] 5)
  have a_n0 := hA.n0
  have a_n1 := hA.n1
  have a_n2 := hA.n2
  have a_r0 := hA.r0
  have a_r1 := hA.r1
  have a_r2 := hA.r2
  have a_rf := hA.rf
  clear hA
  have hz2 := hM.size
  have hz1 : w.heap.size + 1 < W.heap.size := by omega
  have hz0 : w.heap.size < W.heap.size := by omega
  have n0 := hM.n0
  have n1 := hM.n1
  have n2 := hM.n2
  have r0 := hM.r0
  have r1 := hM.r1
  have r2 := hM.r2
  have rf := hM.rf
  have l0 := hM.l0
  have l1 := hM.l1
  have l2 := hM.l2
  have lf := hM.lf
  have HM := Lib.hid hM; clear hM
  go_wp2_with (first | (go_at_call 11; refine (rfine_c _ _).mono ?_; rw [HF.out]; rintro e w' ⟨rfl, rfl⟩) | (go_at_call 12; refine (rblank_c _ _).mono ?_; rw [HB.out]; rintro e w' ⟨rfl, rfl⟩) | (go_at_call 13; refine (rletter_c _ _).mono ?_; rw [HL.out]; rintro e w' ⟨rfl, rfl⟩) | (go_at_call 14; refine (rdigit_c _ _).mono ?_; rw [HD.out]; rintro e w' ⟨rfl, rfl⟩) | (go_at_call 15; refine (rhexa_c _ _).mono ?_; (try rw [HH.out]); rintro e w' ⟨rfl, rfl⟩))
  first | exact rret_bad rfl rfl rfl hs HM.out HX.out | exact rret_bad_alloc rfl rfl rfl hs HM.out HX.out

set_option maxHeartbeats 4000000 in
set_option maxRecDepth 20000 in
theorem r3x {w W : World} {s : ByteArray} {X : Except Nat Sp.St} {x : Sp.St} {v : Value} {i : Nat} {Q0 : Exit → Act → World → Prop} (c17 c18 c19 c20 c232 u3 u4 u13 u14 u15 u16 u21 u22 u23 u24 u25 u26 u27 u28 u29 u30 u31 u32 u33 u34 u35 u36 u37 u38 u39 u40 u41 u42 u43 u44 u45 u46 u47 u48 u49 u50 u51 u52 u53 u54 u55 u56 u57 u58 u59 u60 u61 u62 u63 u64 u65 u66 u67 u68 u69 u70 u71 u72 u73 u74 u75 u76 u77 u78 u79 u80 u81 u82 u83 u84 u85 u86 u87 u88 u89 u90 u91 u92 u93 u94 u95 u96 u97 u98 u99 u100 u101 u102 u103 u104 u105 u106 u107 u108 u109 u110 u111 u112 u113 u114 u115 u116 u117 u118 u119 u120 u121 u122 u123 u124 u125 u126 u127 u128 u129 u130 u131 u132 u133 u134 u135 u136 u137 u138 u139 u140 u141 u142 u143 u144 u145 u146 u147 u148 u149 u150 u151 u152 u153 u154 u155 u156 u157 u158 u159 u160 u161 u162 u163 u164 u165 u166 u167 u168 u169 u170 u171 u172 u173 u174 u175 u176 u177 u178 u179 u180 u181 u182 u183 u184 u185 u186 u187 u188 u189 u190 u191 u192 u193 u194 u195 u196 u197 u198 u199 u200 u201 u202 u203 u204 u205 u206 u207 u208 u209 u210 u211 u212 u213 u214 u215 u216 u217 u218 u219 u220 u221 u222 u223 u224 u225 u226 u227 u228 u229 u230 u231 : Value)
    (hs : s.size ≤ 4096) (hM : RMem w x.cmd x.name x.opts v W) (hB : RBd x i) (hlt : i < s.size) (hf : Sp.isFi s[i] = true) (hb : Sp.isBl s[i] = false) (h61 : ((s[i].toNat : Int) == 61) = false) (hl : Sp.isLe s[i] = false) (hd : Sp.isDi s[i] = false) (h95 : ((s[i].toNat : Int) == 95) = false) (hX : X = .error (i + 1)) (hret : ∀ a W', RRet w s X a W' → Q0 .ret a W') :
    rbody.wp Try.prog (Exit.then (fun a' W' => RI w s X c17 c18 c19 c20 c232 a' W' ∧ Rmu s a' W' < Rmu s ⟨#[.string s, undef, .pointer (some ⟨w.heap.size, 0, none⟩), u3, u4, .pointer (some ⟨w.heap.size + 1, 0, none⟩), .pointer (some ⟨w.heap.size + 1 + 1, 0, none⟩), .int .i64 3, .int .i64 x.fields, .string (bs x.word), .string (bs x.value), .int .i64 x.half, .int .i64 i, u13, u14, u15, u16, c17, c18, c19, c20, u21, u22, u23, u24, u25, u26, u27, u28, u29, u30, u31, u32, u33, u34, u35, u36, u37, u38, u39, u40, u41, u42, u43, u44, u45, u46, u47, u48, u49, u50, u51, u52, u53, u54, u55, u56, u57, u58, u59, u60, u61, u62, u63, u64, u65, u66, u67, u68, u69, u70, u71, u72, u73, u74, u75, u76, u77, u78, u79, u80, u81, u82, u83, u84, u85, u86, u87, u88, u89, u90, u91, u92, u93, u94, u95, u96, u97, u98, u99, u100, u101, u102, u103, u104, u105, u106, u107, u108, u109, u110, u111, u112, u113, u114, u115, u116, u117, u118, u119, u120, u121, u122, u123, u124, u125, u126, u127, u128, u129, u130, u131, u132, u133, u134, u135, u136, u137, u138, u139, u140, u141, u142, u143, u144, u145, u146, u147, u148, u149, u150, u151, u152, u153, u154, u155, u156, u157, u158, u159, u160, u161, u162, u163, u164, u165, u166, u167, u168, u169, u170, u171, u172, u173, u174, u175, u176, u177, u178, u179, u180, u181, u182, u183, u184, u185, u186, u187, u188, u189, u190, u191, u192, u193, u194, u195, u196, u197, u198, u199, u200, u201, u202, u203, u204, u205, u206, u207, u208, u209, u210, u211, u212, u213, u214, u215, u216, u217, u218, u219, u220, u221, u222, u223, u224, u225, u226, u227, u228, u229, u230, u231, c232], []⟩ W) Q0) ⟨#[.string s, undef, .pointer (some ⟨w.heap.size, 0, none⟩), u3, u4, .pointer (some ⟨w.heap.size + 1, 0, none⟩), .pointer (some ⟨w.heap.size + 1 + 1, 0, none⟩), .int .i64 3, .int .i64 x.fields, .string (bs x.word), .string (bs x.value), .int .i64 x.half, .int .i64 i, u13, u14, u15, u16, c17, c18, c19, c20, u21, u22, u23, u24, u25, u26, u27, u28, u29, u30, u31, u32, u33, u34, u35, u36, u37, u38, u39, u40, u41, u42, u43, u44, u45, u46, u47, u48, u49, u50, u51, u52, u53, u54, u55, u56, u57, u58, u59, u60, u61, u62, u63, u64, u65, u66, u67, u68, u69, u70, u71, u72, u73, u74, u75, u76, u77, u78, u79, u80, u81, u82, u83, u84, u85, u86, u87, u88, u89, u90, u91, u92, u93, u94, u95, u96, u97, u98, u99, u100, u101, u102, u103, u104, u105, u106, u107, u108, u109, u110, u111, u112, u113, u114, u115, u116, u117, u118, u119, u120, u121, u122, u123, u124, u125, u126, u127, u128, u129, u130, u131, u132, u133, u134, u135, u136, u137, u138, u139, u140, u141, u142, u143, u144, u145, u146, u147, u148, u149, u150, u151, u152, u153, u154, u155, u156, u157, u158, u159, u160, u161, u162, u163, u164, u165, u166, u167, u168, u169, u170, u171, u172, u173, u174, u175, u176, u177, u178, u179, u180, u181, u182, u183, u184, u185, u186, u187, u188, u189, u190, u191, u192, u193, u194, u195, u196, u197, u198, u199, u200, u201, u202, u203, u204, u205, u206, u207, u208, u209, u210, u211, u212, u213, u214, u215, u216, u217, u218, u219, u220, u221, u222, u223, u224, u225, u226, u227, u228, u229, u230, u231, c232], []⟩ W := by
  conv => arg 2; whnf
  have hws : (bs x.word).size ≤ 4096 := by rw [bs_size]; have := hB.2.1; omega
  have hvs : (bs x.value).size ≤ 4096 := by rw [bs_size]; have := hB.2.2.1; omega
  have hcv := conv1 W s[i]
  have hone : (bs [s[i]]).size = 1 := rfl
  have hne : ((i : Int) == (s.size : Int)) = false := by simp; omega
  have HF := Lib.hid hf; clear hf
  have HB := Lib.hid hb; clear hb
  have HL := Lib.hid hl; clear hl
  have HD := Lib.hid hd; clear hd
  have HX := Lib.hid hX; clear hX
  have hA := hM.alloc (.cells #[.int .u8 s[i].toNat] 5)
  have a_n0 := hA.n0
  have a_n1 := hA.n1
  have a_n2 := hA.n2
  have a_r0 := hA.r0
  have a_r1 := hA.r1
  have a_r2 := hA.r2
  have a_rf := hA.rf
  clear hA
  have hz2 := hM.size
  have hz1 : w.heap.size + 1 < W.heap.size := by omega
  have hz0 : w.heap.size < W.heap.size := by omega
  have n0 := hM.n0
  have n1 := hM.n1
  have n2 := hM.n2
  have r0 := hM.r0
  have r1 := hM.r1
  have r2 := hM.r2
  have rf := hM.rf
  have l0 := hM.l0
  have l1 := hM.l1
  have l2 := hM.l2
  have lf := hM.lf
  have HM := Lib.hid hM; clear hM
  go_wp2_with (first | (go_at_call 11; refine (rfine_c _ _).mono ?_; rw [HF.out]; rintro e w' ⟨rfl, rfl⟩) | (go_at_call 12; refine (rblank_c _ _).mono ?_; rw [HB.out]; rintro e w' ⟨rfl, rfl⟩) | (go_at_call 13; refine (rletter_c _ _).mono ?_; rw [HL.out]; rintro e w' ⟨rfl, rfl⟩) | (go_at_call 14; refine (rdigit_c _ _).mono ?_; rw [HD.out]; rintro e w' ⟨rfl, rfl⟩) | (go_at_call 15; refine (rhexa_c _ _).mono ?_; (try rw [HH.out]); rintro e w' ⟨rfl, rfl⟩))
  first | exact rret_bad rfl rfl rfl hs HM.out HX.out | exact rret_bad_alloc rfl rfl rfl hs HM.out HX.out

set_option maxHeartbeats 4000000 in
set_option maxRecDepth 20000 in
theorem r4x {w W : World} {s : ByteArray} {X : Except Nat Sp.St} {x : Sp.St} {v : Value} {i : Nat} {Q0 : Exit → Act → World → Prop} (c17 c18 c19 c20 c232 u3 u4 u13 u14 u15 u16 u21 u22 u23 u24 u25 u26 u27 u28 u29 u30 u31 u32 u33 u34 u35 u36 u37 u38 u39 u40 u41 u42 u43 u44 u45 u46 u47 u48 u49 u50 u51 u52 u53 u54 u55 u56 u57 u58 u59 u60 u61 u62 u63 u64 u65 u66 u67 u68 u69 u70 u71 u72 u73 u74 u75 u76 u77 u78 u79 u80 u81 u82 u83 u84 u85 u86 u87 u88 u89 u90 u91 u92 u93 u94 u95 u96 u97 u98 u99 u100 u101 u102 u103 u104 u105 u106 u107 u108 u109 u110 u111 u112 u113 u114 u115 u116 u117 u118 u119 u120 u121 u122 u123 u124 u125 u126 u127 u128 u129 u130 u131 u132 u133 u134 u135 u136 u137 u138 u139 u140 u141 u142 u143 u144 u145 u146 u147 u148 u149 u150 u151 u152 u153 u154 u155 u156 u157 u158 u159 u160 u161 u162 u163 u164 u165 u166 u167 u168 u169 u170 u171 u172 u173 u174 u175 u176 u177 u178 u179 u180 u181 u182 u183 u184 u185 u186 u187 u188 u189 u190 u191 u192 u193 u194 u195 u196 u197 u198 u199 u200 u201 u202 u203 u204 u205 u206 u207 u208 u209 u210 u211 u212 u213 u214 u215 u216 u217 u218 u219 u220 u221 u222 u223 u224 u225 u226 u227 u228 u229 u230 u231 : Value)
    (hs : s.size ≤ 4096) (hM : RMem w x.cmd x.name x.opts v W) (hB : RBd x i) (hlt : i < s.size) (hf : Sp.isFi s[i] = true) (hb : Sp.isBl s[i] = false) (h61 : ((s[i].toNat : Int) == 61) = false) (hl : Sp.isLe s[i] = false) (hX : X = .error (i + 1)) (hret : ∀ a W', RRet w s X a W' → Q0 .ret a W') :
    rbody.wp Try.prog (Exit.then (fun a' W' => RI w s X c17 c18 c19 c20 c232 a' W' ∧ Rmu s a' W' < Rmu s ⟨#[.string s, undef, .pointer (some ⟨w.heap.size, 0, none⟩), u3, u4, .pointer (some ⟨w.heap.size + 1, 0, none⟩), .pointer (some ⟨w.heap.size + 1 + 1, 0, none⟩), .int .i64 4, .int .i64 x.fields, .string (bs x.word), .string (bs x.value), .int .i64 x.half, .int .i64 i, u13, u14, u15, u16, c17, c18, c19, c20, u21, u22, u23, u24, u25, u26, u27, u28, u29, u30, u31, u32, u33, u34, u35, u36, u37, u38, u39, u40, u41, u42, u43, u44, u45, u46, u47, u48, u49, u50, u51, u52, u53, u54, u55, u56, u57, u58, u59, u60, u61, u62, u63, u64, u65, u66, u67, u68, u69, u70, u71, u72, u73, u74, u75, u76, u77, u78, u79, u80, u81, u82, u83, u84, u85, u86, u87, u88, u89, u90, u91, u92, u93, u94, u95, u96, u97, u98, u99, u100, u101, u102, u103, u104, u105, u106, u107, u108, u109, u110, u111, u112, u113, u114, u115, u116, u117, u118, u119, u120, u121, u122, u123, u124, u125, u126, u127, u128, u129, u130, u131, u132, u133, u134, u135, u136, u137, u138, u139, u140, u141, u142, u143, u144, u145, u146, u147, u148, u149, u150, u151, u152, u153, u154, u155, u156, u157, u158, u159, u160, u161, u162, u163, u164, u165, u166, u167, u168, u169, u170, u171, u172, u173, u174, u175, u176, u177, u178, u179, u180, u181, u182, u183, u184, u185, u186, u187, u188, u189, u190, u191, u192, u193, u194, u195, u196, u197, u198, u199, u200, u201, u202, u203, u204, u205, u206, u207, u208, u209, u210, u211, u212, u213, u214, u215, u216, u217, u218, u219, u220, u221, u222, u223, u224, u225, u226, u227, u228, u229, u230, u231, c232], []⟩ W) Q0) ⟨#[.string s, undef, .pointer (some ⟨w.heap.size, 0, none⟩), u3, u4, .pointer (some ⟨w.heap.size + 1, 0, none⟩), .pointer (some ⟨w.heap.size + 1 + 1, 0, none⟩), .int .i64 4, .int .i64 x.fields, .string (bs x.word), .string (bs x.value), .int .i64 x.half, .int .i64 i, u13, u14, u15, u16, c17, c18, c19, c20, u21, u22, u23, u24, u25, u26, u27, u28, u29, u30, u31, u32, u33, u34, u35, u36, u37, u38, u39, u40, u41, u42, u43, u44, u45, u46, u47, u48, u49, u50, u51, u52, u53, u54, u55, u56, u57, u58, u59, u60, u61, u62, u63, u64, u65, u66, u67, u68, u69, u70, u71, u72, u73, u74, u75, u76, u77, u78, u79, u80, u81, u82, u83, u84, u85, u86, u87, u88, u89, u90, u91, u92, u93, u94, u95, u96, u97, u98, u99, u100, u101, u102, u103, u104, u105, u106, u107, u108, u109, u110, u111, u112, u113, u114, u115, u116, u117, u118, u119, u120, u121, u122, u123, u124, u125, u126, u127, u128, u129, u130, u131, u132, u133, u134, u135, u136, u137, u138, u139, u140, u141, u142, u143, u144, u145, u146, u147, u148, u149, u150, u151, u152, u153, u154, u155, u156, u157, u158, u159, u160, u161, u162, u163, u164, u165, u166, u167, u168, u169, u170, u171, u172, u173, u174, u175, u176, u177, u178, u179, u180, u181, u182, u183, u184, u185, u186, u187, u188, u189, u190, u191, u192, u193, u194, u195, u196, u197, u198, u199, u200, u201, u202, u203, u204, u205, u206, u207, u208, u209, u210, u211, u212, u213, u214, u215, u216, u217, u218, u219, u220, u221, u222, u223, u224, u225, u226, u227, u228, u229, u230, u231, c232], []⟩ W := by
  conv => arg 2; whnf
  have hws : (bs x.word).size ≤ 4096 := by rw [bs_size]; have := hB.2.1; omega
  have hvs : (bs x.value).size ≤ 4096 := by rw [bs_size]; have := hB.2.2.1; omega
  have hcv := conv1 W s[i]
  have hone : (bs [s[i]]).size = 1 := rfl
  have hne : ((i : Int) == (s.size : Int)) = false := by simp; omega
  have HF := Lib.hid hf; clear hf
  have HB := Lib.hid hb; clear hb
  have HL := Lib.hid hl; clear hl
  have HX := Lib.hid hX; clear hX
  have hA := hM.alloc (.cells #[.int .u8 s[i].toNat] 5)
  have a_n0 := hA.n0
  have a_n1 := hA.n1
  have a_n2 := hA.n2
  have a_r0 := hA.r0
  have a_r1 := hA.r1
  have a_r2 := hA.r2
  have a_rf := hA.rf
  clear hA
  have hz2 := hM.size
  have hz1 : w.heap.size + 1 < W.heap.size := by omega
  have hz0 : w.heap.size < W.heap.size := by omega
  have n0 := hM.n0
  have n1 := hM.n1
  have n2 := hM.n2
  have r0 := hM.r0
  have r1 := hM.r1
  have r2 := hM.r2
  have rf := hM.rf
  have l0 := hM.l0
  have l1 := hM.l1
  have l2 := hM.l2
  have lf := hM.lf
  have HM := Lib.hid hM; clear hM
  go_wp2_with (first | (go_at_call 11; refine (rfine_c _ _).mono ?_; rw [HF.out]; rintro e w' ⟨rfl, rfl⟩) | (go_at_call 12; refine (rblank_c _ _).mono ?_; rw [HB.out]; rintro e w' ⟨rfl, rfl⟩) | (go_at_call 13; refine (rletter_c _ _).mono ?_; rw [HL.out]; rintro e w' ⟨rfl, rfl⟩) | (go_at_call 14; refine (rdigit_c _ _).mono ?_; rw [HD.out]; rintro e w' ⟨rfl, rfl⟩) | (go_at_call 15; refine (rhexa_c _ _).mono ?_; (try rw [HH.out]); rintro e w' ⟨rfl, rfl⟩))
  first | exact rret_bad rfl rfl rfl hs HM.out HX.out | exact rret_bad_alloc rfl rfl rfl hs HM.out HX.out

set_option maxHeartbeats 4000000 in
set_option maxRecDepth 20000 in
theorem r5v {w W : World} {s : ByteArray} {X : Except Nat Sp.St} {x : Sp.St} {v : Value} {i : Nat} {Q0 : Exit → Act → World → Prop} (c17 c18 c19 c20 c232 u3 u4 u13 u14 u15 u16 u21 u22 u23 u24 u25 u26 u27 u28 u29 u30 u31 u32 u33 u34 u35 u36 u37 u38 u39 u40 u41 u42 u43 u44 u45 u46 u47 u48 u49 u50 u51 u52 u53 u54 u55 u56 u57 u58 u59 u60 u61 u62 u63 u64 u65 u66 u67 u68 u69 u70 u71 u72 u73 u74 u75 u76 u77 u78 u79 u80 u81 u82 u83 u84 u85 u86 u87 u88 u89 u90 u91 u92 u93 u94 u95 u96 u97 u98 u99 u100 u101 u102 u103 u104 u105 u106 u107 u108 u109 u110 u111 u112 u113 u114 u115 u116 u117 u118 u119 u120 u121 u122 u123 u124 u125 u126 u127 u128 u129 u130 u131 u132 u133 u134 u135 u136 u137 u138 u139 u140 u141 u142 u143 u144 u145 u146 u147 u148 u149 u150 u151 u152 u153 u154 u155 u156 u157 u158 u159 u160 u161 u162 u163 u164 u165 u166 u167 u168 u169 u170 u171 u172 u173 u174 u175 u176 u177 u178 u179 u180 u181 u182 u183 u184 u185 u186 u187 u188 u189 u190 u191 u192 u193 u194 u195 u196 u197 u198 u199 u200 u201 u202 u203 u204 u205 u206 u207 u208 u209 u210 u211 u212 u213 u214 u215 u216 u217 u218 u219 u220 u221 u222 u223 u224 u225 u226 u227 u228 u229 u230 u231 : Value)
    (hs : s.size ≤ 4096) (hM : RMem w x.cmd x.name x.opts v W) (hB : RBd x i) (hlt : i < s.size) (hf : Sp.isFi s[i] = true) (hb : Sp.isBl s[i] = false) (h34 : ((s[i].toNat : Int) == 34) = false) (hX : RGood s X { x with st := 6, value := x.value ++ [s[i]] } (i + 1)) :
    rbody.wp Try.prog (Exit.then (fun a' W' => RI w s X c17 c18 c19 c20 c232 a' W' ∧ Rmu s a' W' < Rmu s ⟨#[.string s, undef, .pointer (some ⟨w.heap.size, 0, none⟩), u3, u4, .pointer (some ⟨w.heap.size + 1, 0, none⟩), .pointer (some ⟨w.heap.size + 1 + 1, 0, none⟩), .int .i64 5, .int .i64 x.fields, .string (bs x.word), .string (bs x.value), .int .i64 x.half, .int .i64 i, u13, u14, u15, u16, c17, c18, c19, c20, u21, u22, u23, u24, u25, u26, u27, u28, u29, u30, u31, u32, u33, u34, u35, u36, u37, u38, u39, u40, u41, u42, u43, u44, u45, u46, u47, u48, u49, u50, u51, u52, u53, u54, u55, u56, u57, u58, u59, u60, u61, u62, u63, u64, u65, u66, u67, u68, u69, u70, u71, u72, u73, u74, u75, u76, u77, u78, u79, u80, u81, u82, u83, u84, u85, u86, u87, u88, u89, u90, u91, u92, u93, u94, u95, u96, u97, u98, u99, u100, u101, u102, u103, u104, u105, u106, u107, u108, u109, u110, u111, u112, u113, u114, u115, u116, u117, u118, u119, u120, u121, u122, u123, u124, u125, u126, u127, u128, u129, u130, u131, u132, u133, u134, u135, u136, u137, u138, u139, u140, u141, u142, u143, u144, u145, u146, u147, u148, u149, u150, u151, u152, u153, u154, u155, u156, u157, u158, u159, u160, u161, u162, u163, u164, u165, u166, u167, u168, u169, u170, u171, u172, u173, u174, u175, u176, u177, u178, u179, u180, u181, u182, u183, u184, u185, u186, u187, u188, u189, u190, u191, u192, u193, u194, u195, u196, u197, u198, u199, u200, u201, u202, u203, u204, u205, u206, u207, u208, u209, u210, u211, u212, u213, u214, u215, u216, u217, u218, u219, u220, u221, u222, u223, u224, u225, u226, u227, u228, u229, u230, u231, c232], []⟩ W) Q0) ⟨#[.string s, undef, .pointer (some ⟨w.heap.size, 0, none⟩), u3, u4, .pointer (some ⟨w.heap.size + 1, 0, none⟩), .pointer (some ⟨w.heap.size + 1 + 1, 0, none⟩), .int .i64 5, .int .i64 x.fields, .string (bs x.word), .string (bs x.value), .int .i64 x.half, .int .i64 i, u13, u14, u15, u16, c17, c18, c19, c20, u21, u22, u23, u24, u25, u26, u27, u28, u29, u30, u31, u32, u33, u34, u35, u36, u37, u38, u39, u40, u41, u42, u43, u44, u45, u46, u47, u48, u49, u50, u51, u52, u53, u54, u55, u56, u57, u58, u59, u60, u61, u62, u63, u64, u65, u66, u67, u68, u69, u70, u71, u72, u73, u74, u75, u76, u77, u78, u79, u80, u81, u82, u83, u84, u85, u86, u87, u88, u89, u90, u91, u92, u93, u94, u95, u96, u97, u98, u99, u100, u101, u102, u103, u104, u105, u106, u107, u108, u109, u110, u111, u112, u113, u114, u115, u116, u117, u118, u119, u120, u121, u122, u123, u124, u125, u126, u127, u128, u129, u130, u131, u132, u133, u134, u135, u136, u137, u138, u139, u140, u141, u142, u143, u144, u145, u146, u147, u148, u149, u150, u151, u152, u153, u154, u155, u156, u157, u158, u159, u160, u161, u162, u163, u164, u165, u166, u167, u168, u169, u170, u171, u172, u173, u174, u175, u176, u177, u178, u179, u180, u181, u182, u183, u184, u185, u186, u187, u188, u189, u190, u191, u192, u193, u194, u195, u196, u197, u198, u199, u200, u201, u202, u203, u204, u205, u206, u207, u208, u209, u210, u211, u212, u213, u214, u215, u216, u217, u218, u219, u220, u221, u222, u223, u224, u225, u226, u227, u228, u229, u230, u231, c232], []⟩ W := by
  conv => arg 2; whnf
  have hws : (bs x.word).size ≤ 4096 := by rw [bs_size]; have := hB.2.1; omega
  have hvs : (bs x.value).size ≤ 4096 := by rw [bs_size]; have := hB.2.2.1; omega
  have hcv := conv1 W s[i]
  have hone : (bs [s[i]]).size = 1 := rfl
  have hne : ((i : Int) == (s.size : Int)) = false := by simp; omega
  have HF := Lib.hid hf; clear hf
  have HB := Lib.hid hb; clear hb
  have HX := Lib.hid hX; clear hX
  have hz2 := hM.size
  have hz1 : w.heap.size + 1 < W.heap.size := by omega
  have hz0 : w.heap.size < W.heap.size := by omega
  have n0 := hM.n0
  have n1 := hM.n1
  have n2 := hM.n2
  have r0 := hM.r0
  have r1 := hM.r1
  have r2 := hM.r2
  have rf := hM.rf
  have l0 := hM.l0
  have l1 := hM.l1
  have l2 := hM.l2
  have lf := hM.lf
  have HM := Lib.hid hM; clear hM
  go_wp2_with (first | (go_at_call 11; refine (rfine_c _ _).mono ?_; rw [HF.out]; rintro e w' ⟨rfl, rfl⟩) | (go_at_call 12; refine (rblank_c _ _).mono ?_; rw [HB.out]; rintro e w' ⟨rfl, rfl⟩) | (go_at_call 13; refine (rletter_c _ _).mono ?_; rw [HL.out]; rintro e w' ⟨rfl, rfl⟩) | (go_at_call 14; refine (rdigit_c _ _).mono ?_; rw [HD.out]; rintro e w' ⟨rfl, rfl⟩) | (go_at_call 15; refine (rhexa_c _ _).mono ?_; (try rw [HH.out]); rintro e w' ⟨rfl, rfl⟩))
  rw [← bs_snoc]
  refine ⟨⟨_, _, _, _, _, _, _, _, _, _, _, _, _, _, _, _, _, _, _, _, _, _, _, _, _, _, _, _, _, _, _, _, _, _, _, _, _, _, _, _, _, _, _, _, _, _, _, _, _, _, _, _, _, _, _, _, _, _, _, _, _, _, _, _, _, _, _, _, _, _, _, _, _, _, _, _, _, _, _, _, _, _, _, _, _, _, _, _, _, _, _, _, _, _, _, _, _, _, _, _, _, _, _, _, _, _, _, _, _, _, _, _, _, _, _, _, _, _, _, _, _, _, _, _, _, _, _, _, _, _, _, _, _, _, _, _, _, _, _, _, _, _, _, _, _, _, _, _, _, _, _, _, _, _, _, _, _, _, _, _, _, _, _, _, _, _, _, _, _, _, _, _, _, _, _, _, _, _, _, _, _, _, _, _, _, _, _, _, _, _, _, _, _, _, _, _, _, _, _, _, _, _, _, _, _, _, _, _, _, _, _, _, _, _, _, _, _, _, _, _, _, _, _, ⟨{ x with st := 6, value := x.value ++ [s[i]] }, _, i + 1, rfl, rfl, rfl, rfl, rfl, rfl, HM.out.alloc _, HX.out⟩, rfl⟩, ?_⟩
  rw [rmu_of rfl, rmu_of rfl]; omega

set_option maxHeartbeats 4000000 in
set_option maxRecDepth 20000 in
theorem r7q {w W : World} {s : ByteArray} {X : Except Nat Sp.St} {x : Sp.St} {v : Value} {i : Nat} {Q0 : Exit → Act → World → Prop} (c17 c18 c19 c20 c232 u3 u4 u13 u14 u15 u16 u21 u22 u23 u24 u25 u26 u27 u28 u29 u30 u31 u32 u33 u34 u35 u36 u37 u38 u39 u40 u41 u42 u43 u44 u45 u46 u47 u48 u49 u50 u51 u52 u53 u54 u55 u56 u57 u58 u59 u60 u61 u62 u63 u64 u65 u66 u67 u68 u69 u70 u71 u72 u73 u74 u75 u76 u77 u78 u79 u80 u81 u82 u83 u84 u85 u86 u87 u88 u89 u90 u91 u92 u93 u94 u95 u96 u97 u98 u99 u100 u101 u102 u103 u104 u105 u106 u107 u108 u109 u110 u111 u112 u113 u114 u115 u116 u117 u118 u119 u120 u121 u122 u123 u124 u125 u126 u127 u128 u129 u130 u131 u132 u133 u134 u135 u136 u137 u138 u139 u140 u141 u142 u143 u144 u145 u146 u147 u148 u149 u150 u151 u152 u153 u154 u155 u156 u157 u158 u159 u160 u161 u162 u163 u164 u165 u166 u167 u168 u169 u170 u171 u172 u173 u174 u175 u176 u177 u178 u179 u180 u181 u182 u183 u184 u185 u186 u187 u188 u189 u190 u191 u192 u193 u194 u195 u196 u197 u198 u199 u200 u201 u202 u203 u204 u205 u206 u207 u208 u209 u210 u211 u212 u213 u214 u215 u216 u217 u218 u219 u220 u221 u222 u223 u224 u225 u226 u227 u228 u229 u230 u231 : Value)
    (hs : s.size ≤ 4096) (hM : RMem w x.cmd x.name x.opts v W) (hB : RBd x i) (hlt : i < s.size) (hf : Sp.isFi s[i] = true) (bl : Bool) (hb : Sp.isBl s[i] = bl) (h34 : ((s[i].toNat : Int) == 34) = true) (hX : RGood s X { x with st := 11 } (i + 1)) :
    rbody.wp Try.prog (Exit.then (fun a' W' => RI w s X c17 c18 c19 c20 c232 a' W' ∧ Rmu s a' W' < Rmu s ⟨#[.string s, undef, .pointer (some ⟨w.heap.size, 0, none⟩), u3, u4, .pointer (some ⟨w.heap.size + 1, 0, none⟩), .pointer (some ⟨w.heap.size + 1 + 1, 0, none⟩), .int .i64 7, .int .i64 x.fields, .string (bs x.word), .string (bs x.value), .int .i64 x.half, .int .i64 i, u13, u14, u15, u16, c17, c18, c19, c20, u21, u22, u23, u24, u25, u26, u27, u28, u29, u30, u31, u32, u33, u34, u35, u36, u37, u38, u39, u40, u41, u42, u43, u44, u45, u46, u47, u48, u49, u50, u51, u52, u53, u54, u55, u56, u57, u58, u59, u60, u61, u62, u63, u64, u65, u66, u67, u68, u69, u70, u71, u72, u73, u74, u75, u76, u77, u78, u79, u80, u81, u82, u83, u84, u85, u86, u87, u88, u89, u90, u91, u92, u93, u94, u95, u96, u97, u98, u99, u100, u101, u102, u103, u104, u105, u106, u107, u108, u109, u110, u111, u112, u113, u114, u115, u116, u117, u118, u119, u120, u121, u122, u123, u124, u125, u126, u127, u128, u129, u130, u131, u132, u133, u134, u135, u136, u137, u138, u139, u140, u141, u142, u143, u144, u145, u146, u147, u148, u149, u150, u151, u152, u153, u154, u155, u156, u157, u158, u159, u160, u161, u162, u163, u164, u165, u166, u167, u168, u169, u170, u171, u172, u173, u174, u175, u176, u177, u178, u179, u180, u181, u182, u183, u184, u185, u186, u187, u188, u189, u190, u191, u192, u193, u194, u195, u196, u197, u198, u199, u200, u201, u202, u203, u204, u205, u206, u207, u208, u209, u210, u211, u212, u213, u214, u215, u216, u217, u218, u219, u220, u221, u222, u223, u224, u225, u226, u227, u228, u229, u230, u231, c232], []⟩ W) Q0) ⟨#[.string s, undef, .pointer (some ⟨w.heap.size, 0, none⟩), u3, u4, .pointer (some ⟨w.heap.size + 1, 0, none⟩), .pointer (some ⟨w.heap.size + 1 + 1, 0, none⟩), .int .i64 7, .int .i64 x.fields, .string (bs x.word), .string (bs x.value), .int .i64 x.half, .int .i64 i, u13, u14, u15, u16, c17, c18, c19, c20, u21, u22, u23, u24, u25, u26, u27, u28, u29, u30, u31, u32, u33, u34, u35, u36, u37, u38, u39, u40, u41, u42, u43, u44, u45, u46, u47, u48, u49, u50, u51, u52, u53, u54, u55, u56, u57, u58, u59, u60, u61, u62, u63, u64, u65, u66, u67, u68, u69, u70, u71, u72, u73, u74, u75, u76, u77, u78, u79, u80, u81, u82, u83, u84, u85, u86, u87, u88, u89, u90, u91, u92, u93, u94, u95, u96, u97, u98, u99, u100, u101, u102, u103, u104, u105, u106, u107, u108, u109, u110, u111, u112, u113, u114, u115, u116, u117, u118, u119, u120, u121, u122, u123, u124, u125, u126, u127, u128, u129, u130, u131, u132, u133, u134, u135, u136, u137, u138, u139, u140, u141, u142, u143, u144, u145, u146, u147, u148, u149, u150, u151, u152, u153, u154, u155, u156, u157, u158, u159, u160, u161, u162, u163, u164, u165, u166, u167, u168, u169, u170, u171, u172, u173, u174, u175, u176, u177, u178, u179, u180, u181, u182, u183, u184, u185, u186, u187, u188, u189, u190, u191, u192, u193, u194, u195, u196, u197, u198, u199, u200, u201, u202, u203, u204, u205, u206, u207, u208, u209, u210, u211, u212, u213, u214, u215, u216, u217, u218, u219, u220, u221, u222, u223, u224, u225, u226, u227, u228, u229, u230, u231, c232], []⟩ W := by
  conv => arg 2; whnf
  have hws : (bs x.word).size ≤ 4096 := by rw [bs_size]; have := hB.2.1; omega
  have hvs : (bs x.value).size ≤ 4096 := by rw [bs_size]; have := hB.2.2.1; omega
  have hcv := conv1 W s[i]
  have hone : (bs [s[i]]).size = 1 := rfl
  have hne : ((i : Int) == (s.size : Int)) = false := by simp; omega
  have HF := Lib.hid hf; clear hf
  have HB := Lib.hid hb; clear hb
  have HX := Lib.hid hX; clear hX
  have hz2 := hM.size
  have hz1 : w.heap.size + 1 < W.heap.size := by omega
  have hz0 : w.heap.size < W.heap.size := by omega
  have n0 := hM.n0
  have n1 := hM.n1
  have n2 := hM.n2
  have r0 := hM.r0
  have r1 := hM.r1
  have r2 := hM.r2
  have rf := hM.rf
  have l0 := hM.l0
  have l1 := hM.l1
  have l2 := hM.l2
  have lf := hM.lf
  have HM := Lib.hid hM; clear hM
  go_wp2_with (first | (go_at_call 11; refine (rfine_c _ _).mono ?_; rw [HF.out]; rintro e w' ⟨rfl, rfl⟩) | (go_at_call 12; refine (rblank_c _ _).mono ?_; rw [HB.out]; rintro e w' ⟨rfl, rfl⟩) | (go_at_call 13; refine (rletter_c _ _).mono ?_; rw [HL.out]; rintro e w' ⟨rfl, rfl⟩) | (go_at_call 14; refine (rdigit_c _ _).mono ?_; rw [HD.out]; rintro e w' ⟨rfl, rfl⟩) | (go_at_call 15; refine (rhexa_c _ _).mono ?_; (try rw [HH.out]); rintro e w' ⟨rfl, rfl⟩))
  refine ⟨⟨_, _, _, _, _, _, _, _, _, _, _, _, _, _, _, _, _, _, _, _, _, _, _, _, _, _, _, _, _, _, _, _, _, _, _, _, _, _, _, _, _, _, _, _, _, _, _, _, _, _, _, _, _, _, _, _, _, _, _, _, _, _, _, _, _, _, _, _, _, _, _, _, _, _, _, _, _, _, _, _, _, _, _, _, _, _, _, _, _, _, _, _, _, _, _, _, _, _, _, _, _, _, _, _, _, _, _, _, _, _, _, _, _, _, _, _, _, _, _, _, _, _, _, _, _, _, _, _, _, _, _, _, _, _, _, _, _, _, _, _, _, _, _, _, _, _, _, _, _, _, _, _, _, _, _, _, _, _, _, _, _, _, _, _, _, _, _, _, _, _, _, _, _, _, _, _, _, _, _, _, _, _, _, _, _, _, _, _, _, _, _, _, _, _, _, _, _, _, _, _, _, _, _, _, _, _, _, _, _, _, _, _, _, _, _, _, _, _, _, _, _, _, _, ⟨{ x with st := 11 }, _, i + 1, rfl, rfl, rfl, rfl, rfl, rfl, HM.out, HX.out⟩, rfl⟩, ?_⟩
  rw [rmu_of rfl, rmu_of rfl]; omega

set_option maxHeartbeats 4000000 in
set_option maxRecDepth 20000 in
theorem r8q {w W : World} {s : ByteArray} {X : Except Nat Sp.St} {x : Sp.St} {v : Value} {i : Nat} {Q0 : Exit → Act → World → Prop} (c17 c18 c19 c20 c232 u3 u4 u13 u14 u15 u16 u21 u22 u23 u24 u25 u26 u27 u28 u29 u30 u31 u32 u33 u34 u35 u36 u37 u38 u39 u40 u41 u42 u43 u44 u45 u46 u47 u48 u49 u50 u51 u52 u53 u54 u55 u56 u57 u58 u59 u60 u61 u62 u63 u64 u65 u66 u67 u68 u69 u70 u71 u72 u73 u74 u75 u76 u77 u78 u79 u80 u81 u82 u83 u84 u85 u86 u87 u88 u89 u90 u91 u92 u93 u94 u95 u96 u97 u98 u99 u100 u101 u102 u103 u104 u105 u106 u107 u108 u109 u110 u111 u112 u113 u114 u115 u116 u117 u118 u119 u120 u121 u122 u123 u124 u125 u126 u127 u128 u129 u130 u131 u132 u133 u134 u135 u136 u137 u138 u139 u140 u141 u142 u143 u144 u145 u146 u147 u148 u149 u150 u151 u152 u153 u154 u155 u156 u157 u158 u159 u160 u161 u162 u163 u164 u165 u166 u167 u168 u169 u170 u171 u172 u173 u174 u175 u176 u177 u178 u179 u180 u181 u182 u183 u184 u185 u186 u187 u188 u189 u190 u191 u192 u193 u194 u195 u196 u197 u198 u199 u200 u201 u202 u203 u204 u205 u206 u207 u208 u209 u210 u211 u212 u213 u214 u215 u216 u217 u218 u219 u220 u221 u222 u223 u224 u225 u226 u227 u228 u229 u230 u231 : Value)
    (hs : s.size ≤ 4096) (hM : RMem w x.cmd x.name x.opts v W) (hB : RBd x i) (hlt : i < s.size) (hf : Sp.isFi s[i] = true) (bl : Bool) (hb : Sp.isBl s[i] = bl) (h120 : ((s[i].toNat : Int) == 120) = false) (h34 : ((s[i].toNat : Int) != 34) = false) (hX : RGood s X { x with st := 7, value := x.value ++ [s[i]] } (i + 1)) :
    rbody.wp Try.prog (Exit.then (fun a' W' => RI w s X c17 c18 c19 c20 c232 a' W' ∧ Rmu s a' W' < Rmu s ⟨#[.string s, undef, .pointer (some ⟨w.heap.size, 0, none⟩), u3, u4, .pointer (some ⟨w.heap.size + 1, 0, none⟩), .pointer (some ⟨w.heap.size + 1 + 1, 0, none⟩), .int .i64 8, .int .i64 x.fields, .string (bs x.word), .string (bs x.value), .int .i64 x.half, .int .i64 i, u13, u14, u15, u16, c17, c18, c19, c20, u21, u22, u23, u24, u25, u26, u27, u28, u29, u30, u31, u32, u33, u34, u35, u36, u37, u38, u39, u40, u41, u42, u43, u44, u45, u46, u47, u48, u49, u50, u51, u52, u53, u54, u55, u56, u57, u58, u59, u60, u61, u62, u63, u64, u65, u66, u67, u68, u69, u70, u71, u72, u73, u74, u75, u76, u77, u78, u79, u80, u81, u82, u83, u84, u85, u86, u87, u88, u89, u90, u91, u92, u93, u94, u95, u96, u97, u98, u99, u100, u101, u102, u103, u104, u105, u106, u107, u108, u109, u110, u111, u112, u113, u114, u115, u116, u117, u118, u119, u120, u121, u122, u123, u124, u125, u126, u127, u128, u129, u130, u131, u132, u133, u134, u135, u136, u137, u138, u139, u140, u141, u142, u143, u144, u145, u146, u147, u148, u149, u150, u151, u152, u153, u154, u155, u156, u157, u158, u159, u160, u161, u162, u163, u164, u165, u166, u167, u168, u169, u170, u171, u172, u173, u174, u175, u176, u177, u178, u179, u180, u181, u182, u183, u184, u185, u186, u187, u188, u189, u190, u191, u192, u193, u194, u195, u196, u197, u198, u199, u200, u201, u202, u203, u204, u205, u206, u207, u208, u209, u210, u211, u212, u213, u214, u215, u216, u217, u218, u219, u220, u221, u222, u223, u224, u225, u226, u227, u228, u229, u230, u231, c232], []⟩ W) Q0) ⟨#[.string s, undef, .pointer (some ⟨w.heap.size, 0, none⟩), u3, u4, .pointer (some ⟨w.heap.size + 1, 0, none⟩), .pointer (some ⟨w.heap.size + 1 + 1, 0, none⟩), .int .i64 8, .int .i64 x.fields, .string (bs x.word), .string (bs x.value), .int .i64 x.half, .int .i64 i, u13, u14, u15, u16, c17, c18, c19, c20, u21, u22, u23, u24, u25, u26, u27, u28, u29, u30, u31, u32, u33, u34, u35, u36, u37, u38, u39, u40, u41, u42, u43, u44, u45, u46, u47, u48, u49, u50, u51, u52, u53, u54, u55, u56, u57, u58, u59, u60, u61, u62, u63, u64, u65, u66, u67, u68, u69, u70, u71, u72, u73, u74, u75, u76, u77, u78, u79, u80, u81, u82, u83, u84, u85, u86, u87, u88, u89, u90, u91, u92, u93, u94, u95, u96, u97, u98, u99, u100, u101, u102, u103, u104, u105, u106, u107, u108, u109, u110, u111, u112, u113, u114, u115, u116, u117, u118, u119, u120, u121, u122, u123, u124, u125, u126, u127, u128, u129, u130, u131, u132, u133, u134, u135, u136, u137, u138, u139, u140, u141, u142, u143, u144, u145, u146, u147, u148, u149, u150, u151, u152, u153, u154, u155, u156, u157, u158, u159, u160, u161, u162, u163, u164, u165, u166, u167, u168, u169, u170, u171, u172, u173, u174, u175, u176, u177, u178, u179, u180, u181, u182, u183, u184, u185, u186, u187, u188, u189, u190, u191, u192, u193, u194, u195, u196, u197, u198, u199, u200, u201, u202, u203, u204, u205, u206, u207, u208, u209, u210, u211, u212, u213, u214, u215, u216, u217, u218, u219, u220, u221, u222, u223, u224, u225, u226, u227, u228, u229, u230, u231, c232], []⟩ W := by
  conv => arg 2; whnf
  have hws : (bs x.word).size ≤ 4096 := by rw [bs_size]; have := hB.2.1; omega
  have hvs : (bs x.value).size ≤ 4096 := by rw [bs_size]; have := hB.2.2.1; omega
  have hcv := conv1 W s[i]
  have hone : (bs [s[i]]).size = 1 := rfl
  have hne : ((i : Int) == (s.size : Int)) = false := by simp; omega
  have HF := Lib.hid hf; clear hf
  have HB := Lib.hid hb; clear hb
  have HX := Lib.hid hX; clear hX
  have hz2 := hM.size
  have hz1 : w.heap.size + 1 < W.heap.size := by omega
  have hz0 : w.heap.size < W.heap.size := by omega
  have n0 := hM.n0
  have n1 := hM.n1
  have n2 := hM.n2
  have r0 := hM.r0
  have r1 := hM.r1
  have r2 := hM.r2
  have rf := hM.rf
  have l0 := hM.l0
  have l1 := hM.l1
  have l2 := hM.l2
  have lf := hM.lf
  have HM := Lib.hid hM; clear hM
  go_wp2_with (first | (go_at_call 11; refine (rfine_c _ _).mono ?_; rw [HF.out]; rintro e w' ⟨rfl, rfl⟩) | (go_at_call 12; refine (rblank_c _ _).mono ?_; rw [HB.out]; rintro e w' ⟨rfl, rfl⟩) | (go_at_call 13; refine (rletter_c _ _).mono ?_; rw [HL.out]; rintro e w' ⟨rfl, rfl⟩) | (go_at_call 14; refine (rdigit_c _ _).mono ?_; rw [HD.out]; rintro e w' ⟨rfl, rfl⟩) | (go_at_call 15; refine (rhexa_c _ _).mono ?_; (try rw [HH.out]); rintro e w' ⟨rfl, rfl⟩))
  rw [← bs_snoc]
  refine ⟨⟨_, _, _, _, _, _, _, _, _, _, _, _, _, _, _, _, _, _, _, _, _, _, _, _, _, _, _, _, _, _, _, _, _, _, _, _, _, _, _, _, _, _, _, _, _, _, _, _, _, _, _, _, _, _, _, _, _, _, _, _, _, _, _, _, _, _, _, _, _, _, _, _, _, _, _, _, _, _, _, _, _, _, _, _, _, _, _, _, _, _, _, _, _, _, _, _, _, _, _, _, _, _, _, _, _, _, _, _, _, _, _, _, _, _, _, _, _, _, _, _, _, _, _, _, _, _, _, _, _, _, _, _, _, _, _, _, _, _, _, _, _, _, _, _, _, _, _, _, _, _, _, _, _, _, _, _, _, _, _, _, _, _, _, _, _, _, _, _, _, _, _, _, _, _, _, _, _, _, _, _, _, _, _, _, _, _, _, _, _, _, _, _, _, _, _, _, _, _, _, _, _, _, _, _, _, _, _, _, _, _, _, _, _, _, _, _, _, _, _, _, _, _, _, ⟨{ x with st := 7, value := x.value ++ [s[i]] }, _, i + 1, rfl, rfl, rfl, rfl, rfl, rfl, HM.out.alloc _, HX.out⟩, rfl⟩, ?_⟩
  rw [rmu_of rfl, rmu_of rfl]; omega

set_option maxHeartbeats 4000000 in
set_option maxRecDepth 20000 in
theorem r9x {w W : World} {s : ByteArray} {X : Except Nat Sp.St} {x : Sp.St} {v : Value} {i : Nat} {Q0 : Exit → Act → World → Prop} (c17 c18 c19 c20 c232 u3 u4 u13 u14 u15 u16 u21 u22 u23 u24 u25 u26 u27 u28 u29 u30 u31 u32 u33 u34 u35 u36 u37 u38 u39 u40 u41 u42 u43 u44 u45 u46 u47 u48 u49 u50 u51 u52 u53 u54 u55 u56 u57 u58 u59 u60 u61 u62 u63 u64 u65 u66 u67 u68 u69 u70 u71 u72 u73 u74 u75 u76 u77 u78 u79 u80 u81 u82 u83 u84 u85 u86 u87 u88 u89 u90 u91 u92 u93 u94 u95 u96 u97 u98 u99 u100 u101 u102 u103 u104 u105 u106 u107 u108 u109 u110 u111 u112 u113 u114 u115 u116 u117 u118 u119 u120 u121 u122 u123 u124 u125 u126 u127 u128 u129 u130 u131 u132 u133 u134 u135 u136 u137 u138 u139 u140 u141 u142 u143 u144 u145 u146 u147 u148 u149 u150 u151 u152 u153 u154 u155 u156 u157 u158 u159 u160 u161 u162 u163 u164 u165 u166 u167 u168 u169 u170 u171 u172 u173 u174 u175 u176 u177 u178 u179 u180 u181 u182 u183 u184 u185 u186 u187 u188 u189 u190 u191 u192 u193 u194 u195 u196 u197 u198 u199 u200 u201 u202 u203 u204 u205 u206 u207 u208 u209 u210 u211 u212 u213 u214 u215 u216 u217 u218 u219 u220 u221 u222 u223 u224 u225 u226 u227 u228 u229 u230 u231 : Value)
    (hs : s.size ≤ 4096) (hM : RMem w x.cmd x.name x.opts v W) (hB : RBd x i) (hlt : i < s.size) (hf : Sp.isFi s[i] = true) (bl : Bool) (hb : Sp.isBl s[i] = bl) (hh : Sp.hexa s[i] = -1) (hX : X = .error (i + 1)) (hret : ∀ a W', RRet w s X a W' → Q0 .ret a W') :
    rbody.wp Try.prog (Exit.then (fun a' W' => RI w s X c17 c18 c19 c20 c232 a' W' ∧ Rmu s a' W' < Rmu s ⟨#[.string s, undef, .pointer (some ⟨w.heap.size, 0, none⟩), u3, u4, .pointer (some ⟨w.heap.size + 1, 0, none⟩), .pointer (some ⟨w.heap.size + 1 + 1, 0, none⟩), .int .i64 9, .int .i64 x.fields, .string (bs x.word), .string (bs x.value), .int .i64 x.half, .int .i64 i, u13, u14, u15, u16, c17, c18, c19, c20, u21, u22, u23, u24, u25, u26, u27, u28, u29, u30, u31, u32, u33, u34, u35, u36, u37, u38, u39, u40, u41, u42, u43, u44, u45, u46, u47, u48, u49, u50, u51, u52, u53, u54, u55, u56, u57, u58, u59, u60, u61, u62, u63, u64, u65, u66, u67, u68, u69, u70, u71, u72, u73, u74, u75, u76, u77, u78, u79, u80, u81, u82, u83, u84, u85, u86, u87, u88, u89, u90, u91, u92, u93, u94, u95, u96, u97, u98, u99, u100, u101, u102, u103, u104, u105, u106, u107, u108, u109, u110, u111, u112, u113, u114, u115, u116, u117, u118, u119, u120, u121, u122, u123, u124, u125, u126, u127, u128, u129, u130, u131, u132, u133, u134, u135, u136, u137, u138, u139, u140, u141, u142, u143, u144, u145, u146, u147, u148, u149, u150, u151, u152, u153, u154, u155, u156, u157, u158, u159, u160, u161, u162, u163, u164, u165, u166, u167, u168, u169, u170, u171, u172, u173, u174, u175, u176, u177, u178, u179, u180, u181, u182, u183, u184, u185, u186, u187, u188, u189, u190, u191, u192, u193, u194, u195, u196, u197, u198, u199, u200, u201, u202, u203, u204, u205, u206, u207, u208, u209, u210, u211, u212, u213, u214, u215, u216, u217, u218, u219, u220, u221, u222, u223, u224, u225, u226, u227, u228, u229, u230, u231, c232], []⟩ W) Q0) ⟨#[.string s, undef, .pointer (some ⟨w.heap.size, 0, none⟩), u3, u4, .pointer (some ⟨w.heap.size + 1, 0, none⟩), .pointer (some ⟨w.heap.size + 1 + 1, 0, none⟩), .int .i64 9, .int .i64 x.fields, .string (bs x.word), .string (bs x.value), .int .i64 x.half, .int .i64 i, u13, u14, u15, u16, c17, c18, c19, c20, u21, u22, u23, u24, u25, u26, u27, u28, u29, u30, u31, u32, u33, u34, u35, u36, u37, u38, u39, u40, u41, u42, u43, u44, u45, u46, u47, u48, u49, u50, u51, u52, u53, u54, u55, u56, u57, u58, u59, u60, u61, u62, u63, u64, u65, u66, u67, u68, u69, u70, u71, u72, u73, u74, u75, u76, u77, u78, u79, u80, u81, u82, u83, u84, u85, u86, u87, u88, u89, u90, u91, u92, u93, u94, u95, u96, u97, u98, u99, u100, u101, u102, u103, u104, u105, u106, u107, u108, u109, u110, u111, u112, u113, u114, u115, u116, u117, u118, u119, u120, u121, u122, u123, u124, u125, u126, u127, u128, u129, u130, u131, u132, u133, u134, u135, u136, u137, u138, u139, u140, u141, u142, u143, u144, u145, u146, u147, u148, u149, u150, u151, u152, u153, u154, u155, u156, u157, u158, u159, u160, u161, u162, u163, u164, u165, u166, u167, u168, u169, u170, u171, u172, u173, u174, u175, u176, u177, u178, u179, u180, u181, u182, u183, u184, u185, u186, u187, u188, u189, u190, u191, u192, u193, u194, u195, u196, u197, u198, u199, u200, u201, u202, u203, u204, u205, u206, u207, u208, u209, u210, u211, u212, u213, u214, u215, u216, u217, u218, u219, u220, u221, u222, u223, u224, u225, u226, u227, u228, u229, u230, u231, c232], []⟩ W := by
  conv => arg 2; whnf
  have hws : (bs x.word).size ≤ 4096 := by rw [bs_size]; have := hB.2.1; omega
  have hvs : (bs x.value).size ≤ 4096 := by rw [bs_size]; have := hB.2.2.1; omega
  have hcv := conv1 W s[i]
  have hone : (bs [s[i]]).size = 1 := rfl
  have hne : ((i : Int) == (s.size : Int)) = false := by simp; omega
  have HF := Lib.hid hf; clear hf
  have HB := Lib.hid hb; clear hb
  have HH := Lib.hid hh; clear hh
  have HX := Lib.hid hX; clear hX
  have hA := hM.alloc (.cells #[.int .u8 s[i].toNat] 5)
  have a_n0 := hA.n0
  have a_n1 := hA.n1
  have a_n2 := hA.n2
  have a_r0 := hA.r0
  have a_r1 := hA.r1
  have a_r2 := hA.r2
  have a_rf := hA.rf
  clear hA
  have hz2 := hM.size
  have hz1 : w.heap.size + 1 < W.heap.size := by omega
  have hz0 : w.heap.size < W.heap.size := by omega
  have n0 := hM.n0
  have n1 := hM.n1
  have n2 := hM.n2
  have r0 := hM.r0
  have r1 := hM.r1
  have r2 := hM.r2
  have rf := hM.rf
  have l0 := hM.l0
  have l1 := hM.l1
  have l2 := hM.l2
  have lf := hM.lf
  have HM := Lib.hid hM; clear hM
  go_wp2_with (first | (go_at_call 11; refine (rfine_c _ _).mono ?_; rw [HF.out]; rintro e w' ⟨rfl, rfl⟩) | (go_at_call 12; refine (rblank_c _ _).mono ?_; rw [HB.out]; rintro e w' ⟨rfl, rfl⟩) | (go_at_call 13; refine (rletter_c _ _).mono ?_; rw [HL.out]; rintro e w' ⟨rfl, rfl⟩) | (go_at_call 14; refine (rdigit_c _ _).mono ?_; rw [HD.out]; rintro e w' ⟨rfl, rfl⟩) | (go_at_call 15; refine (rhexa_c _ _).mono ?_; (try rw [HH.out]); rintro e w' ⟨rfl, rfl⟩))
  first | exact rret_bad rfl rfl rfl hs HM.out HX.out | exact rret_bad_alloc rfl rfl rfl hs HM.out HX.out

set_option maxHeartbeats 4000000 in
set_option maxRecDepth 20000 in
theorem r11b {w W : World} {s : ByteArray} {X : Except Nat Sp.St} {x : Sp.St} {v : Value} {i : Nat} {Q0 : Exit → Act → World → Prop} (c17 c18 c19 c20 c232 u3 u4 u13 u14 u15 u16 u21 u22 u23 u24 u25 u26 u27 u28 u29 u30 u31 u32 u33 u34 u35 u36 u37 u38 u39 u40 u41 u42 u43 u44 u45 u46 u47 u48 u49 u50 u51 u52 u53 u54 u55 u56 u57 u58 u59 u60 u61 u62 u63 u64 u65 u66 u67 u68 u69 u70 u71 u72 u73 u74 u75 u76 u77 u78 u79 u80 u81 u82 u83 u84 u85 u86 u87 u88 u89 u90 u91 u92 u93 u94 u95 u96 u97 u98 u99 u100 u101 u102 u103 u104 u105 u106 u107 u108 u109 u110 u111 u112 u113 u114 u115 u116 u117 u118 u119 u120 u121 u122 u123 u124 u125 u126 u127 u128 u129 u130 u131 u132 u133 u134 u135 u136 u137 u138 u139 u140 u141 u142 u143 u144 u145 u146 u147 u148 u149 u150 u151 u152 u153 u154 u155 u156 u157 u158 u159 u160 u161 u162 u163 u164 u165 u166 u167 u168 u169 u170 u171 u172 u173 u174 u175 u176 u177 u178 u179 u180 u181 u182 u183 u184 u185 u186 u187 u188 u189 u190 u191 u192 u193 u194 u195 u196 u197 u198 u199 u200 u201 u202 u203 u204 u205 u206 u207 u208 u209 u210 u211 u212 u213 u214 u215 u216 u217 u218 u219 u220 u221 u222 u223 u224 u225 u226 u227 u228 u229 u230 u231 : Value)
    (hs : s.size ≤ 4096) (hM : RMem w x.cmd x.name x.opts v W) (hB : RBd x i) (hlt : i < s.size) (hf : Sp.isFi s[i] = true) (hb : Sp.isBl s[i] = true) (hX : RGood s X { x with opts := x.opts ++ [(x.word, x.value)], value := [], st := 0 } (i + 1)) :
    rbody.wp Try.prog (Exit.then (fun a' W' => RI w s X c17 c18 c19 c20 c232 a' W' ∧ Rmu s a' W' < Rmu s ⟨#[.string s, undef, .pointer (some ⟨w.heap.size, 0, none⟩), u3, u4, .pointer (some ⟨w.heap.size + 1, 0, none⟩), .pointer (some ⟨w.heap.size + 1 + 1, 0, none⟩), .int .i64 11, .int .i64 x.fields, .string (bs x.word), .string (bs x.value), .int .i64 x.half, .int .i64 i, u13, u14, u15, u16, c17, c18, c19, c20, u21, u22, u23, u24, u25, u26, u27, u28, u29, u30, u31, u32, u33, u34, u35, u36, u37, u38, u39, u40, u41, u42, u43, u44, u45, u46, u47, u48, u49, u50, u51, u52, u53, u54, u55, u56, u57, u58, u59, u60, u61, u62, u63, u64, u65, u66, u67, u68, u69, u70, u71, u72, u73, u74, u75, u76, u77, u78, u79, u80, u81, u82, u83, u84, u85, u86, u87, u88, u89, u90, u91, u92, u93, u94, u95, u96, u97, u98, u99, u100, u101, u102, u103, u104, u105, u106, u107, u108, u109, u110, u111, u112, u113, u114, u115, u116, u117, u118, u119, u120, u121, u122, u123, u124, u125, u126, u127, u128, u129, u130, u131, u132, u133, u134, u135, u136, u137, u138, u139, u140, u141, u142, u143, u144, u145, u146, u147, u148, u149, u150, u151, u152, u153, u154, u155, u156, u157, u158, u159, u160, u161, u162, u163, u164, u165, u166, u167, u168, u169, u170, u171, u172, u173, u174, u175, u176, u177, u178, u179, u180, u181, u182, u183, u184, u185, u186, u187, u188, u189, u190, u191, u192, u193, u194, u195, u196, u197, u198, u199, u200, u201, u202, u203, u204, u205, u206, u207, u208, u209, u210, u211, u212, u213, u214, u215, u216, u217, u218, u219, u220, u221, u222, u223, u224, u225, u226, u227, u228, u229, u230, u231, c232], []⟩ W) Q0) ⟨#[.string s, undef, .pointer (some ⟨w.heap.size, 0, none⟩), u3, u4, .pointer (some ⟨w.heap.size + 1, 0, none⟩), .pointer (some ⟨w.heap.size + 1 + 1, 0, none⟩), .int .i64 11, .int .i64 x.fields, .string (bs x.word), .string (bs x.value), .int .i64 x.half, .int .i64 i, u13, u14, u15, u16, c17, c18, c19, c20, u21, u22, u23, u24, u25, u26, u27, u28, u29, u30, u31, u32, u33, u34, u35, u36, u37, u38, u39, u40, u41, u42, u43, u44, u45, u46, u47, u48, u49, u50, u51, u52, u53, u54, u55, u56, u57, u58, u59, u60, u61, u62, u63, u64, u65, u66, u67, u68, u69, u70, u71, u72, u73, u74, u75, u76, u77, u78, u79, u80, u81, u82, u83, u84, u85, u86, u87, u88, u89, u90, u91, u92, u93, u94, u95, u96, u97, u98, u99, u100, u101, u102, u103, u104, u105, u106, u107, u108, u109, u110, u111, u112, u113, u114, u115, u116, u117, u118, u119, u120, u121, u122, u123, u124, u125, u126, u127, u128, u129, u130, u131, u132, u133, u134, u135, u136, u137, u138, u139, u140, u141, u142, u143, u144, u145, u146, u147, u148, u149, u150, u151, u152, u153, u154, u155, u156, u157, u158, u159, u160, u161, u162, u163, u164, u165, u166, u167, u168, u169, u170, u171, u172, u173, u174, u175, u176, u177, u178, u179, u180, u181, u182, u183, u184, u185, u186, u187, u188, u189, u190, u191, u192, u193, u194, u195, u196, u197, u198, u199, u200, u201, u202, u203, u204, u205, u206, u207, u208, u209, u210, u211, u212, u213, u214, u215, u216, u217, u218, u219, u220, u221, u222, u223, u224, u225, u226, u227, u228, u229, u230, u231, c232], []⟩ W := by
  conv => arg 2; whnf
  have hws : (bs x.word).size ≤ 4096 := by rw [bs_size]; have := hB.2.1; omega
  have hvs : (bs x.value).size ≤ 4096 := by rw [bs_size]; have := hB.2.2.1; omega
  have hcv := conv1 W s[i]
  have hone : (bs [s[i]]).size = 1 := rfl
  have hne : ((i : Int) == (s.size : Int)) = false := by simp; omega
  have HF := Lib.hid hf; clear hf
  have HB := Lib.hid hb; clear hb
  have hol : x.opts.length ≤ 4096 := by have := hB.2.2.2.1; omega
  have HX := Lib.hid hX; clear hX
  have hA := hM.alloc (.cells #[.int .u8 s[i].toNat] 5)
  have a_n0 := hA.n0
  have a_n1 := hA.n1
  have a_n2 := hA.n2
  have a_r0 := hA.r0
  have a_r1 := hA.r1
  have a_r2 := hA.r2
  have a_rf := hA.rf
  clear hA
  have hz2 := hM.size
  have hz1 : w.heap.size + 1 < W.heap.size := by omega
  have hz0 : w.heap.size < W.heap.size := by omega
  have n0 := hM.n0
  have n1 := hM.n1
  have n2 := hM.n2
  have r0 := hM.r0
  have r1 := hM.r1
  have r2 := hM.r2
  have rf := hM.rf
  have l0 := hM.l0
  have l1 := hM.l1
  have l2 := hM.l2
  have lf := hM.lf
  have HM := Lib.hid hM; clear hM
  go_wp2_with (first | (go_at_call 11; refine (rfine_c _ _).mono ?_; rw [HF.out]; rintro e w' ⟨rfl, rfl⟩) | (go_at_call 12; refine (rblank_c _ _).mono ?_; rw [HB.out]; rintro e w' ⟨rfl, rfl⟩) | (go_at_call 13; refine (rletter_c _ _).mono ?_; rw [HL.out]; rintro e w' ⟨rfl, rfl⟩) | (go_at_call 14; refine (rdigit_c _ _).mono ?_; rw [HD.out]; rintro e w' ⟨rfl, rfl⟩) | (go_at_call 15; refine (rhexa_c _ _).mono ?_; (try rw [HH.out]); rintro e w' ⟨rfl, rfl⟩) | (at_builtin; obtain ⟨i0, hi, hz0, hz1, hz2⟩ := info_parts info33; refine wpList_append_lies _ rfl _ _ 22 rfl (w.heap.size + 1 + 1 + 1) 33 i0 (.agg #[.string ⟨#[]⟩, .string ⟨#[]⟩]) 2 32 Try.underlying22 hi hz0 hz1 hz2 rfl (by decide) v x.opts.length (optCells x.opts) rfl (HM.out.own.alloc _) ⟨W.heap.size, 0, none⟩ 1 1 [.string (bs x.word), .string (bs x.value)] rfl rfl (app_cells _ _ _ _) (app_one _ _) (by decide) (by unfold maxLen; omega) (by omega) (by simp; omega) (W.heap.size + 1) (by simp) ?_; intro g5 cap5 W5 ho5 hg5 _ _; have hA5 := HM.out.lie5 hg5; have q0 := hA5.n0; have q1 := hA5.n1; have q2 := hA5.n2; have q3 := hA5.r0; have q4 := hA5.r1; have q5 := hA5.r2; have q6 := hA5.rf; have q7 := hA5.l2; have q8 := hA5.lf; clear hi hz0 hz1 hz2 hA5; have HO5 := Lib.hid ho5; have HG5 := Lib.hid hg5; clear ho5 hg5))
  refine ⟨⟨_, _, _, _, _, _, _, _, _, _, _, _, _, _, _, _, _, _, _, _, _, _, _, _, _, _, _, _, _, _, _, _, _, _, _, _, _, _, _, _, _, _, _, _, _, _, _, _, _, _, _, _, _, _, _, _, _, _, _, _, _, _, _, _, _, _, _, _, _, _, _, _, _, _, _, _, _, _, _, _, _, _, _, _, _, _, _, _, _, _, _, _, _, _, _, _, _, _, _, _, _, _, _, _, _, _, _, _, _, _, _, _, _, _, _, _, _, _, _, _, _, _, _, _, _, _, _, _, _, _, _, _, _, _, _, _, _, _, _, _, _, _, _, _, _, _, _, _, _, _, _, _, _, _, _, _, _, _, _, _, _, _, _, _, _, _, _, _, _, _, _, _, _, _, _, _, _, _, _, _, _, _, _, _, _, _, _, _, _, _, _, _, _, _, _, _, _, _, _, _, _, _, _, _, _, _, _, _, _, _, _, _, _, _, _, _, _, _, _, _, _, _, _, ⟨{ x with opts := x.opts ++ [(x.word, x.value)], value := [], st := 0 }, _, i + 1, rfl, rfl, rfl, rfl, rfl, rfl, HM.out.app HG5.out HO5.out, HX.out⟩, rfl⟩, ?_⟩
  rw [rmu_of rfl, rmu_of rfl]; omega

end Go.Proofs.Ytpilifhdhgdbjaa
