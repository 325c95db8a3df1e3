/- The reference's reader, walked: its loop. Printed by wip/tools/gen_ref.py. -/
import Derived.Test.YtpilifhdhgdbjaaRefB
namespace Go.Proofs.Ytpilifhdhgdbjaa
open Go.RowKit
set_option linter.unusedVariables false
set_option linter.unusedSimpArgs false

/-- The first loop in a code. -/
def firstLoop : Code → Option Code
  | .loop c => some c
  | .seq a b => match firstLoop a with
    | some c => some c
    | none => firstLoop b
  | .block _ c => firstLoop c
  | .scope c => firstLoop c
  | .cond _ a b => match firstLoop a with
    | some c => some c
    | none => firstLoop b
  | _ => none
noncomputable def rbody : Code := (Try.f5.body.bind firstLoop).getD .skip

theorem conv1 (W : World) (u : UInt8) : (convert 38 9 (.slice (some ⟨W.heap.size, 0, none⟩) 1 1)).run Try.prog (W.alloc (.cells #[.int .u8 u.toNat] 5)) = .ok (.string (bs [u])) (W.alloc (.cells #[.int .u8 u.toNat] 5)) :=
  run_convert_bytes_back (P := Try.prog) _ 38 9 5 ⟨W.heap.size, 0, none⟩ 1 [u] (by kernel_rfl) (by kernel_rfl) (by kernel_rfl) (fun j hj => by
    obtain rfl : j = 0 := by simp at hj; omega
    exact World.cell?_alloc_mark W _ 5 (0, 0) 0)
theorem conv0 (W : World) : (convert 38 9 (.slice (some ⟨W.heap.size, 0, none⟩) 1 1)).run Try.prog (W.alloc (.cells #[.int .u8 0] 5)) = .ok (.string (bs [0])) (W.alloc (.cells #[.int .u8 0] 5)) := conv1 W 0
theorem rhexa0 (w : World) : Calls Try.prog 15 #[.int .u8 0] w fun e w' => e = .returned (.int .i64 (-1)) ∧ w = w' := rhexa_c 0 w
theorem conv_hex (W : World) {a b : Int} (h1 : 0 ≤ a) (h2 : a ≤ 15) (h3 : 0 ≤ b) (h4 : b ≤ 15) : (convert 38 9 (.slice (some ⟨W.heap.size, 0, none⟩) 1 1)).run Try.prog (W.alloc (.cells #[.int .u8 (16 * a + b)] 5)) = .ok (.string (bs [(16 * a + b).toNat.toUInt8])) (W.alloc (.cells #[.int .u8 (16 * a + b)] 5)) := by
  have e : ((((16 * a + b).toNat.toUInt8).toNat : Nat) : Int) = 16 * a + b := by
    simp [Nat.toUInt8]; omega
  have := conv1 W (16 * a + b).toNat.toUInt8
  rw [e] at this; exact this
theorem bs_snoc (l : Sp.Bs) (u : UInt8) : bs (l ++ [u]) = bs l ++ bs [u] := by
  apply ByteArray.ext; simp [bs]

/-- The bounds that the loop keeps. -/
def RBd (x : Sp.St) (i : Nat) : Prop := x.fields ≤ i ∧ x.word.length ≤ i ∧ x.value.length ≤ i ∧ x.opts.length ≤ i ∧ 0 ≤ x.half ∧ x.half ≤ 15

/-- How far the machine is. -/
def RGood (s : ByteArray) (X : Except Nat Sp.St) (x : Sp.St) (i : Nat) : Prop := x.st ≤ 12 ∧ RBd x i ∧ ((i ≤ s.size ∧ Sp.runP (BL s) x i = X) ∨ (i = s.size + 1 ∧ X = .ok x))

/-- What the loop keeps. -/
def RRel (w : World) (s : ByteArray) (X : Except Nat Sp.St) (t7 t8 t9 t10 t11 t12 : Value) (W : World) : Prop :=
  ∃ (x : Sp.St) (v : Value) (i : Nat), t7 = .int .i64 x.st ∧ t8 = .int .i64 x.fields ∧ t9 = .string (bs x.word) ∧ t10 = .string (bs x.value) ∧ t11 = .int .i64 x.half ∧ t12 = .int .i64 i ∧
    RMem w x.cmd x.name x.opts v W ∧ RGood s X x i

set_option maxRecDepth 1000000 in
/-- The loop's invariant, in the frame. -/
def RI (w : World) (s : ByteArray) (X : Except Nat Sp.St) (c17 c18 c19 c20 c232 : Value) (a : Act) (W : World) : Prop :=
  ∃ u3 u4 u7 u8 u9 u10 u11 u12 u13 u14 u15 u16 u21 u22 u23 u24 u25 u26 u27 u28 u29 u30 u31 u32 u33 u34 u35 u36 u37 u38 u39 u40 u41 u42 u43 u44 u45 u46 u47 u48 u49 u50 u51 u52 u53 u54 u55 u56 u57 u58 u59 u60 u61 u62 u63 u64 u65 u66 u67 u68 u69 u70 u71 u72 u73 u74 u75 u76 u77 u78 u79 u80 u81 u82 u83 u84 u85 u86 u87 u88 u89 u90 u91 u92 u93 u94 u95 u96 u97 u98 u99 u100 u101 u102 u103 u104 u105 u106 u107 u108 u109 u110 u111 u112 u113 u114 u115 u116 u117 u118 u119 u120 u121 u122 u123 u124 u125 u126 u127 u128 u129 u130 u131 u132 u133 u134 u135 u136 u137 u138 u139 u140 u141 u142 u143 u144 u145 u146 u147 u148 u149 u150 u151 u152 u153 u154 u155 u156 u157 u158 u159 u160 u161 u162 u163 u164 u165 u166 u167 u168 u169 u170 u171 u172 u173 u174 u175 u176 u177 u178 u179 u180 u181 u182 u183 u184 u185 u186 u187 u188 u189 u190 u191 u192 u193 u194 u195 u196 u197 u198 u199 u200 u201 u202 u203 u204 u205 u206 u207 u208 u209 u210 u211 u212 u213 u214 u215 u216 u217 u218 u219 u220 u221 u222 u223 u224 u225 u226 u227 u228 u229 u230 u231 : Value, RRel w s X u7 u8 u9 u10 u11 u12 W ∧ a = ⟨#[.string s, undef, .pointer (some ⟨w.heap.size, 0, none⟩), u3, u4, .pointer (some ⟨w.heap.size + 1, 0, none⟩), .pointer (some ⟨w.heap.size + 1 + 1, 0, none⟩), u7, u8, u9, u10, u11, u12, u13, u14, u15, u16, c17, c18, c19, c20, u21, u22, u23, u24, u25, u26, u27, u28, u29, u30, u31, u32, u33, u34, u35, u36, u37, u38, u39, u40, u41, u42, u43, u44, u45, u46, u47, u48, u49, u50, u51, u52, u53, u54, u55, u56, u57, u58, u59, u60, u61, u62, u63, u64, u65, u66, u67, u68, u69, u70, u71, u72, u73, u74, u75, u76, u77, u78, u79, u80, u81, u82, u83, u84, u85, u86, u87, u88, u89, u90, u91, u92, u93, u94, u95, u96, u97, u98, u99, u100, u101, u102, u103, u104, u105, u106, u107, u108, u109, u110, u111, u112, u113, u114, u115, u116, u117, u118, u119, u120, u121, u122, u123, u124, u125, u126, u127, u128, u129, u130, u131, u132, u133, u134, u135, u136, u137, u138, u139, u140, u141, u142, u143, u144, u145, u146, u147, u148, u149, u150, u151, u152, u153, u154, u155, u156, u157, u158, u159, u160, u161, u162, u163, u164, u165, u166, u167, u168, u169, u170, u171, u172, u173, u174, u175, u176, u177, u178, u179, u180, u181, u182, u183, u184, u185, u186, u187, u188, u189, u190, u191, u192, u193, u194, u195, u196, u197, u198, u199, u200, u201, u202, u203, u204, u205, u206, u207, u208, u209, u210, u211, u212, u213, u214, u215, u216, u217, u218, u219, u220, u221, u222, u223, u224, u225, u226, u227, u228, u229, u230, u231, c232], []⟩

/-- The loop's measure. -/
def Rmu (s : ByteArray) (a : Act) (_ : World) : Nat := s.size + 2 - (match a.tmps.getD 12 undef with | .int _ q => q.toNat | _ => 0)

set_option maxRecDepth 1000000 in
/-- What holds when the loop is left behind the last byte. -/
def RX (w : World) (s : ByteArray) (X : Except Nat Sp.St) (c17 c18 c19 c20 c232 : Value) (a : Act) (W : World) : Prop :=
  ∃ u3 u4 u7 u8 u9 u10 u11 u12 u13 u14 u15 u16 u21 u22 u23 u24 u25 u26 u27 u28 u29 u30 u31 u32 u33 u34 u35 u36 u37 u38 u39 u40 u41 u42 u43 u44 u45 u46 u47 u48 u49 u50 u51 u52 u53 u54 u55 u56 u57 u58 u59 u60 u61 u62 u63 u64 u65 u66 u67 u68 u69 u70 u71 u72 u73 u74 u75 u76 u77 u78 u79 u80 u81 u82 u83 u84 u85 u86 u87 u88 u89 u90 u91 u92 u93 u94 u95 u96 u97 u98 u99 u100 u101 u102 u103 u104 u105 u106 u107 u108 u109 u110 u111 u112 u113 u114 u115 u116 u117 u118 u119 u120 u121 u122 u123 u124 u125 u126 u127 u128 u129 u130 u131 u132 u133 u134 u135 u136 u137 u138 u139 u140 u141 u142 u143 u144 u145 u146 u147 u148 u149 u150 u151 u152 u153 u154 u155 u156 u157 u158 u159 u160 u161 u162 u163 u164 u165 u166 u167 u168 u169 u170 u171 u172 u173 u174 u175 u176 u177 u178 u179 u180 u181 u182 u183 u184 u185 u186 u187 u188 u189 u190 u191 u192 u193 u194 u195 u196 u197 u198 u199 u200 u201 u202 u203 u204 u205 u206 u207 u208 u209 u210 u211 u212 u213 u214 u215 u216 u217 u218 u219 u220 u221 u222 u223 u224 u225 u226 u227 u228 u229 u230 u231 : Value, ∃ (x : Sp.St) (v : Value), RMem w x.cmd x.name x.opts v W ∧ X = .ok x ∧ a = ⟨#[.string s, undef, .pointer (some ⟨w.heap.size, 0, none⟩), u3, u4, .pointer (some ⟨w.heap.size + 1, 0, none⟩), .pointer (some ⟨w.heap.size + 1 + 1, 0, none⟩), u7, u8, u9, u10, u11, u12, u13, u14, u15, u16, c17, c18, c19, c20, u21, u22, u23, u24, u25, u26, u27, u28, u29, u30, u31, u32, u33, u34, u35, u36, u37, u38, u39, u40, u41, u42, u43, u44, u45, u46, u47, u48, u49, u50, u51, u52, u53, u54, u55, u56, u57, u58, u59, u60, u61, u62, u63, u64, u65, u66, u67, u68, u69, u70, u71, u72, u73, u74, u75, u76, u77, u78, u79, u80, u81, u82, u83, u84, u85, u86, u87, u88, u89, u90, u91, u92, u93, u94, u95, u96, u97, u98, u99, u100, u101, u102, u103, u104, u105, u106, u107, u108, u109, u110, u111, u112, u113, u114, u115, u116, u117, u118, u119, u120, u121, u122, u123, u124, u125, u126, u127, u128, u129, u130, u131, u132, u133, u134, u135, u136, u137, u138, u139, u140, u141, u142, u143, u144, u145, u146, u147, u148, u149, u150, u151, u152, u153, u154, u155, u156, u157, u158, u159, u160, u161, u162, u163, u164, u165, u166, u167, u168, u169, u170, u171, u172, u173, u174, u175, u176, u177, u178, u179, u180, u181, u182, u183, u184, u185, u186, u187, u188, u189, u190, u191, u192, u193, u194, u195, u196, u197, u198, u199, u200, u201, u202, u203, u204, u205, u206, u207, u208, u209, u210, u211, u212, u213, u214, u215, u216, u217, u218, u219, u220, u221, u222, u223, u224, u225, u226, u227, u228, u229, u230, u231, c232], []⟩

/-- What is asked where the function returns out of its loop. -/
def RRet (w : World) (s : ByteArray) (X : Except Nat Sp.St) (a : Act) (W : World) : Prop := bodyPost Try.prog Try.f5 (ParseQ w X s.size) .ret a W

theorem rret_any {w W1 : World} {s : ByteArray} {X : Except Nat Sp.St} {t : Array Value} {a b : Int} (h2 : t.getD 2 undef = .pointer (some ⟨w.heap.size, 0, none⟩)) (h3 : t.getD 3 undef = .int .i64 a) (h4 : t.getD 4 undef = .int .i64 b)
    (c0 : Value) (c1 : Value) (c2 : Value) (e0 : W1.cell? ⟨w.heap.size, 0, none⟩ = some c0) (e1 : W1.cell? ⟨w.heap.size, 1, none⟩ = some c1) (e2 : W1.cell? ⟨w.heap.size, 2, none⟩ = some c2)
    (hQ : ParseQ w X s.size (.returned (.tuple #[.agg #[c0, c1, c2], .int .i64 a, .int .i64 b])) W1) : RRet w s X ⟨t, []⟩ W1 := by
  simp only [Array.getD_eq_getD_getElem?] at h2 h3 h4
  refine ⟨rfl, _, ?_, hQ⟩
  rw [results, show Try.f5.results = #[.cell 2 24, .tmp 3, .tmp 4] from rfl]
  simp [Array.mapM_eq_mapM_toList, h2, h3, h4]
  go_simp

/-- A line that says nothing. -/
theorem rret_bad {w W : World} {s : ByteArray} {X : Except Nat Sp.St} {c n : Sp.Bs} {o : List (Sp.Bs × Sp.Bs)} {v : Value} {t : Array Value} {p : Nat} (h2 : t.getD 2 undef = .pointer (some ⟨w.heap.size, 0, none⟩)) (h3 : t.getD 3 undef = .int .i64 160) (h4 : t.getD 4 undef = .int .i64 p)
    (hs : s.size ≤ 4096) (hM : RMem w c n o v W) (hX : X = .error p) :
    RRet w s X ⟨t, []⟩ (((W.setCell ⟨w.heap.size, 0, none⟩ (.string ⟨#[]⟩)).setCell ⟨w.heap.size, 1, none⟩ (.string ⟨#[]⟩)).setCell ⟨w.heap.size, 2, none⟩ (.slice none 0 0)) := by
  have r0 := hM.r0
  have r1 := hM.r1
  have r2 := hM.r2
  refine rret_any h2 h3 h4 (.string ⟨#[]⟩) (.string ⟨#[]⟩) (.slice none 0 0) (by go_simp) (by go_simp) (by go_simp) ⟨?_, .inr (.inl ⟨p, hs, hX, rfl⟩)⟩
  exact gr_setHi (gr_setHi (gr_setHi hM.gr (by omega) _ _) (by omega) _ _) (by omega) _ _

theorem rret_bad_alloc {w W : World} {s : ByteArray} {X : Except Nat Sp.St} {c n : Sp.Bs} {o : List (Sp.Bs × Sp.Bs)} {v : Value} {t : Array Value} {p : Nat} {ob : Obj} (h2 : t.getD 2 undef = .pointer (some ⟨w.heap.size, 0, none⟩)) (h3 : t.getD 3 undef = .int .i64 160) (h4 : t.getD 4 undef = .int .i64 p)
    (hs : s.size ≤ 4096) (hM : RMem w c n o v W) (hX : X = .error p) :
    RRet w s X ⟨t, []⟩ ((((W.setCell ⟨w.heap.size, 0, none⟩ (.string ⟨#[]⟩)).setCell ⟨w.heap.size, 1, none⟩ (.string ⟨#[]⟩)).setCell ⟨w.heap.size, 2, none⟩ (.slice none 0 0)).alloc ob) := by
  have hz := hM.size
  have r0 := hM.r0
  have r1 := hM.r1
  have r2 := hM.r2
  have g : w.grownBy ((((W.setCell ⟨w.heap.size, 0, none⟩ (.string ⟨#[]⟩)).setCell ⟨w.heap.size, 1, none⟩ (.string ⟨#[]⟩)).setCell ⟨w.heap.size, 2, none⟩ (.slice none 0 0)).alloc ob) none :=
    gr_trans (gr_setHi (gr_setHi (gr_setHi hM.gr (by omega) _ _) (by omega) _ _) (by omega) _ _) (World.grownBy_alloc _ _ _)
  refine rret_any h2 h3 h4 (.string ⟨#[]⟩) (.string ⟨#[]⟩) (.slice none 0 0) ?_ ?_ ?_ ⟨g, .inr (.inl ⟨p, hs, hX, rfl⟩)⟩
  all_goals
    refine (World.grownBy_alloc _ ob none).cell ?_ (by simp)
    go_simp

theorem rmu_of {s : ByteArray} {t : Array Value} {d : List Deferred} {W : World} {k : IntKind} {q : Int} (h : t.getD 12 undef = .int k q) : Rmu s ⟨t, d⟩ W = s.size + 2 - q.toNat := by unfold Rmu; simp only [h]

end Go.Proofs.Ytpilifhdhgdbjaa
