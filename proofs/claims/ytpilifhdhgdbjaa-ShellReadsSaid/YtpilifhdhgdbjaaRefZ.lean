/- The reference's reader, walked whole: what it answers of any line. -/
import Derived.Test.YtpilifhdhgdbjaaRefY
namespace Go.Proofs.Ytpilifhdhgdbjaa
open Go.RowKit

set_option maxRecDepth 100000 in
theorem rparse_long {s : ByteArray} (hs : 4096 < s.size) (X : Except Nat Sp.St) (w : World) : Calls Try.prog 5 #[.string s] w (ParseQ w X s.size) := by
  go_enter Try.func5, Try.ntmps5
  go_wp2
  refine ⟨rfl, .tuple #[.agg #[.string ⟨#[]⟩, .string ⟨#[]⟩, .slice none 0 0], .int .i64 160, .int .i64 4097], ?_, ?_, .inl ⟨hs, rfl⟩⟩
  · rw [results, show Try.f5.results = #[.cell 2 24, .tmp 3, .tmp 4] from rfl]
    simp [Array.mapM_eq_mapM_toList]
    go_simp
  · exact gr_trans (World.grownBy_alloc _ _ _) (World.grownBy_alloc _ _ _)

/-- What lies when the loop sets out. -/
theorem rstart (w : World) : RMem w [] [] [] (.slice none 0 0) (((w.alloc (.cells #[.string ⟨#[]⟩, .string ⟨#[]⟩, .slice none 0 0] 24)).alloc (.cells #[.string ⟨#[]⟩, .string ⟨#[]⟩, .slice none 0 0] 24)).alloc (.cells #[.string ⟨#[]⟩, .string ⟨#[]⟩, .slice none 0 0] 24)) := by
  refine ⟨gr_trans (gr_trans (World.grownBy_alloc _ _ _) (World.grownBy_alloc _ _ _)) (World.grownBy_alloc _ _ _), ?_, ?_, ?_, ?_⟩
  · rw [Below.heap_alloc _ _ _ (by first | omega | (simp; done) | (simp; omega)), Below.heap_alloc _ _ _ (by first | omega | (simp; done) | (simp; omega)), at_new _ _ _ (by first | omega | (simp; done) | (simp; omega))]
  · rw [Below.heap_alloc _ _ _ (by first | omega | (simp; done) | (simp; omega)), at_new _ _ _ (by first | omega | (simp; done) | (simp; omega))]
  · rw [at_new _ _ _ (by first | omega | (simp; done) | (simp; omega))]; rfl
  · exact ⟨by simp [optCells], .inl ⟨rfl, rfl⟩⟩

set_option maxHeartbeats 4000000 in
set_option maxRecDepth 100000 in
theorem rparse_short {s : ByteArray} (hs : s.size ≤ 4096) (X : Except Nat Sp.St) (hX : Sp.runP (BL s) Sp.St.start 0 = X) (w : World) : Calls Try.prog 5 #[.string s] w (ParseQ w X s.size) := by
  have HX := Lib.hid hX; clear hX
  go_enter Try.func5, Try.ntmps5
  go_wp2
  refine rloop _ _ _ _ _ _ _ _ _ _ _ _ _ _ _ _ _ _ _ _ _ _ _ _ _ _ _ _ _ _ _ _ _ _ _ _ _ _ _ _ _ _ _ _ _ _ _ _ _ _ _ _ _ _ _ _ _ _ _ _ _ _ _ _ _ _ _ _ _ _ _ _ _ _ _ _ _ _ _ _ _ _ _ _ _ _ _ _ _ _ _ _ _ _ _ _ _ _ _ _ _ _ _ _ _ _ _ _ _ _ _ _ _ _ _ _ _ _ _ _ _ _ _ _ _ _ _ _ _ _ _ _ _ _ _ _ _ _ _ _ _ _ _ _ _ _ _ _ _ _ _ _ _ _ _ _ _ _ _ _ _ _ _ _ _ _ _ _ _ _ _ _ _ _ _ _ _ _ _ _ _ _ _ _ _ _ _ _ _ _ _ _ _ _ _ _ _ _ _ _ _ _ _ _ _ _ _ _ _ _ _ _ _ _ _ _ _ _ _ _ _ _ hs (rstart w) HX.out ?_ ?_
  · intro a W' hx
    rename_i K hK
    show K a W'
    unfold RX at hx
    obtain ⟨u3, hx⟩ := hx
    obtain ⟨u4, hx⟩ := hx
    obtain ⟨u7, hx⟩ := hx
    obtain ⟨u8, hx⟩ := hx
    obtain ⟨u9, hx⟩ := hx
    obtain ⟨u10, hx⟩ := hx
    obtain ⟨u11, hx⟩ := hx
    obtain ⟨u12, hx⟩ := hx
    obtain ⟨u13, hx⟩ := hx
    obtain ⟨u14, hx⟩ := hx
    obtain ⟨u15, hx⟩ := hx
    obtain ⟨u16, hx⟩ := hx
    obtain ⟨u21, hx⟩ := hx
    obtain ⟨u22, hx⟩ := hx
    obtain ⟨u23, hx⟩ := hx
    obtain ⟨u24, hx⟩ := hx
    obtain ⟨u25, hx⟩ := hx
    obtain ⟨u26, hx⟩ := hx
    obtain ⟨u27, hx⟩ := hx
    obtain ⟨u28, hx⟩ := hx
    obtain ⟨u29, hx⟩ := hx
    obtain ⟨u30, hx⟩ := hx
    obtain ⟨u31, hx⟩ := hx
    obtain ⟨u32, hx⟩ := hx
    obtain ⟨u33, hx⟩ := hx
    obtain ⟨u34, hx⟩ := hx
    obtain ⟨u35, hx⟩ := hx
    obtain ⟨u36, hx⟩ := hx
    obtain ⟨u37, hx⟩ := hx
    obtain ⟨u38, hx⟩ := hx
    obtain ⟨u39, hx⟩ := hx
    obtain ⟨u40, hx⟩ := hx
    obtain ⟨u41, hx⟩ := hx
    obtain ⟨u42, hx⟩ := hx
    obtain ⟨u43, hx⟩ := hx
    obtain ⟨u44, hx⟩ := hx
    obtain ⟨u45, hx⟩ := hx
    obtain ⟨u46, hx⟩ := hx
    obtain ⟨u47, hx⟩ := hx
    obtain ⟨u48, hx⟩ := hx
    obtain ⟨u49, hx⟩ := hx
    obtain ⟨u50, hx⟩ := hx
    obtain ⟨u51, hx⟩ := hx
    obtain ⟨u52, hx⟩ := hx
    obtain ⟨u53, hx⟩ := hx
    obtain ⟨u54, hx⟩ := hx
    obtain ⟨u55, hx⟩ := hx
    obtain ⟨u56, hx⟩ := hx
    obtain ⟨u57, hx⟩ := hx
    obtain ⟨u58, hx⟩ := hx
    obtain ⟨u59, hx⟩ := hx
    obtain ⟨u60, hx⟩ := hx
    obtain ⟨u61, hx⟩ := hx
    obtain ⟨u62, hx⟩ := hx
    obtain ⟨u63, hx⟩ := hx
    obtain ⟨u64, hx⟩ := hx
    obtain ⟨u65, hx⟩ := hx
    obtain ⟨u66, hx⟩ := hx
    obtain ⟨u67, hx⟩ := hx
    obtain ⟨u68, hx⟩ := hx
    obtain ⟨u69, hx⟩ := hx
    obtain ⟨u70, hx⟩ := hx
    obtain ⟨u71, hx⟩ := hx
    obtain ⟨u72, hx⟩ := hx
    obtain ⟨u73, hx⟩ := hx
    obtain ⟨u74, hx⟩ := hx
    obtain ⟨u75, hx⟩ := hx
    obtain ⟨u76, hx⟩ := hx
    obtain ⟨u77, hx⟩ := hx
    obtain ⟨u78, hx⟩ := hx
    obtain ⟨u79, hx⟩ := hx
    obtain ⟨u80, hx⟩ := hx
    obtain ⟨u81, hx⟩ := hx
    obtain ⟨u82, hx⟩ := hx
    obtain ⟨u83, hx⟩ := hx
    obtain ⟨u84, hx⟩ := hx
    obtain ⟨u85, hx⟩ := hx
    obtain ⟨u86, hx⟩ := hx
    obtain ⟨u87, hx⟩ := hx
    obtain ⟨u88, hx⟩ := hx
    obtain ⟨u89, hx⟩ := hx
    obtain ⟨u90, hx⟩ := hx
    obtain ⟨u91, hx⟩ := hx
    obtain ⟨u92, hx⟩ := hx
    obtain ⟨u93, hx⟩ := hx
    obtain ⟨u94, hx⟩ := hx
    obtain ⟨u95, hx⟩ := hx
    obtain ⟨u96, hx⟩ := hx
    obtain ⟨u97, hx⟩ := hx
    obtain ⟨u98, hx⟩ := hx
    obtain ⟨u99, hx⟩ := hx
    obtain ⟨u100, hx⟩ := hx
    obtain ⟨u101, hx⟩ := hx
    obtain ⟨u102, hx⟩ := hx
    obtain ⟨u103, hx⟩ := hx
    obtain ⟨u104, hx⟩ := hx
    obtain ⟨u105, hx⟩ := hx
    obtain ⟨u106, hx⟩ := hx
    obtain ⟨u107, hx⟩ := hx
    obtain ⟨u108, hx⟩ := hx
    obtain ⟨u109, hx⟩ := hx
    obtain ⟨u110, hx⟩ := hx
    obtain ⟨u111, hx⟩ := hx
    obtain ⟨u112, hx⟩ := hx
    obtain ⟨u113, hx⟩ := hx
    obtain ⟨u114, hx⟩ := hx
    obtain ⟨u115, hx⟩ := hx
    obtain ⟨u116, hx⟩ := hx
    obtain ⟨u117, hx⟩ := hx
    obtain ⟨u118, hx⟩ := hx
    obtain ⟨u119, hx⟩ := hx
    obtain ⟨u120, hx⟩ := hx
    obtain ⟨u121, hx⟩ := hx
    obtain ⟨u122, hx⟩ := hx
    obtain ⟨u123, hx⟩ := hx
    obtain ⟨u124, hx⟩ := hx
    obtain ⟨u125, hx⟩ := hx
    obtain ⟨u126, hx⟩ := hx
    obtain ⟨u127, hx⟩ := hx
    obtain ⟨u128, hx⟩ := hx
    obtain ⟨u129, hx⟩ := hx
    obtain ⟨u130, hx⟩ := hx
    obtain ⟨u131, hx⟩ := hx
    obtain ⟨u132, hx⟩ := hx
    obtain ⟨u133, hx⟩ := hx
    obtain ⟨u134, hx⟩ := hx
    obtain ⟨u135, hx⟩ := hx
    obtain ⟨u136, hx⟩ := hx
    obtain ⟨u137, hx⟩ := hx
    obtain ⟨u138, hx⟩ := hx
    obtain ⟨u139, hx⟩ := hx
    obtain ⟨u140, hx⟩ := hx
    obtain ⟨u141, hx⟩ := hx
    obtain ⟨u142, hx⟩ := hx
    obtain ⟨u143, hx⟩ := hx
    obtain ⟨u144, hx⟩ := hx
    obtain ⟨u145, hx⟩ := hx
    obtain ⟨u146, hx⟩ := hx
    obtain ⟨u147, hx⟩ := hx
    obtain ⟨u148, hx⟩ := hx
    obtain ⟨u149, hx⟩ := hx
    obtain ⟨u150, hx⟩ := hx
    obtain ⟨u151, hx⟩ := hx
    obtain ⟨u152, hx⟩ := hx
    obtain ⟨u153, hx⟩ := hx
    obtain ⟨u154, hx⟩ := hx
    obtain ⟨u155, hx⟩ := hx
    obtain ⟨u156, hx⟩ := hx
    obtain ⟨u157, hx⟩ := hx
    obtain ⟨u158, hx⟩ := hx
    obtain ⟨u159, hx⟩ := hx
    obtain ⟨u160, hx⟩ := hx
    obtain ⟨u161, hx⟩ := hx
    obtain ⟨u162, hx⟩ := hx
    obtain ⟨u163, hx⟩ := hx
    obtain ⟨u164, hx⟩ := hx
    obtain ⟨u165, hx⟩ := hx
    obtain ⟨u166, hx⟩ := hx
    obtain ⟨u167, hx⟩ := hx
    obtain ⟨u168, hx⟩ := hx
    obtain ⟨u169, hx⟩ := hx
    obtain ⟨u170, hx⟩ := hx
    obtain ⟨u171, hx⟩ := hx
    obtain ⟨u172, hx⟩ := hx
    obtain ⟨u173, hx⟩ := hx
    obtain ⟨u174, hx⟩ := hx
    obtain ⟨u175, hx⟩ := hx
    obtain ⟨u176, hx⟩ := hx
    obtain ⟨u177, hx⟩ := hx
    obtain ⟨u178, hx⟩ := hx
    obtain ⟨u179, hx⟩ := hx
    obtain ⟨u180, hx⟩ := hx
    obtain ⟨u181, hx⟩ := hx
    obtain ⟨u182, hx⟩ := hx
    obtain ⟨u183, hx⟩ := hx
    obtain ⟨u184, hx⟩ := hx
    obtain ⟨u185, hx⟩ := hx
    obtain ⟨u186, hx⟩ := hx
    obtain ⟨u187, hx⟩ := hx
    obtain ⟨u188, hx⟩ := hx
    obtain ⟨u189, hx⟩ := hx
    obtain ⟨u190, hx⟩ := hx
    obtain ⟨u191, hx⟩ := hx
    obtain ⟨u192, hx⟩ := hx
    obtain ⟨u193, hx⟩ := hx
    obtain ⟨u194, hx⟩ := hx
    obtain ⟨u195, hx⟩ := hx
    obtain ⟨u196, hx⟩ := hx
    obtain ⟨u197, hx⟩ := hx
    obtain ⟨u198, hx⟩ := hx
    obtain ⟨u199, hx⟩ := hx
    obtain ⟨u200, hx⟩ := hx
    obtain ⟨u201, hx⟩ := hx
    obtain ⟨u202, hx⟩ := hx
    obtain ⟨u203, hx⟩ := hx
    obtain ⟨u204, hx⟩ := hx
    obtain ⟨u205, hx⟩ := hx
    obtain ⟨u206, hx⟩ := hx
    obtain ⟨u207, hx⟩ := hx
    obtain ⟨u208, hx⟩ := hx
    obtain ⟨u209, hx⟩ := hx
    obtain ⟨u210, hx⟩ := hx
    obtain ⟨u211, hx⟩ := hx
    obtain ⟨u212, hx⟩ := hx
    obtain ⟨u213, hx⟩ := hx
    obtain ⟨u214, hx⟩ := hx
    obtain ⟨u215, hx⟩ := hx
    obtain ⟨u216, hx⟩ := hx
    obtain ⟨u217, hx⟩ := hx
    obtain ⟨u218, hx⟩ := hx
    obtain ⟨u219, hx⟩ := hx
    obtain ⟨u220, hx⟩ := hx
    obtain ⟨u221, hx⟩ := hx
    obtain ⟨u222, hx⟩ := hx
    obtain ⟨u223, hx⟩ := hx
    obtain ⟨u224, hx⟩ := hx
    obtain ⟨u225, hx⟩ := hx
    obtain ⟨u226, hx⟩ := hx
    obtain ⟨u227, hx⟩ := hx
    obtain ⟨u228, hx⟩ := hx
    obtain ⟨u229, hx⟩ := hx
    obtain ⟨u230, hx⟩ := hx
    obtain ⟨u231, hx⟩ := hx
    obtain ⟨x, v, hM, hXx, rfl⟩ := hx
    refine hK _ _ ?_
    clear hK K HX
    have HX := Lib.hid hXx
    clear hXx
    have hz2 := hM.size
    have hz1 : w.heap.size + 1 < W'.heap.size := by omega
    have hz0 : w.heap.size < W'.heap.size := by omega
    have r0 := hM.r0
    have r1 := hM.r1
    have r2 := hM.r2
    have rf := hM.rf
    have l0 := hM.l0
    have l1 := hM.l1
    have l2 := hM.l2
    rcases hM.own.2 with ⟨rfl, h0⟩ | ⟨g, cap, cur, rfl, h0⟩ <;> clear h0
    · have HM := Lib.hid hM
      clear hM
      go_wp2
      refine rret_any rfl rfl rfl (.string (bs x.cmd)) (.string (bs x.name)) (.slice none 0 0) (by go_simp) (by go_simp) (by go_simp) ?_
      refine ⟨gr_setHi (gr_setHi (gr_setHi HM.out.gr (by omega) _ _) (by omega) _ _) (by omega) _ _, .inr (.inr ⟨x, _, x.st, w.heap.size + 1 + 1 + 1, hs, HX.out, rfl, by omega, ?_⟩)⟩
      exact ownsRow_setCell_below (ownsRow_setCell_below (ownsRow_setCell_below HM.out.own (by simp; omega) _) (by simp; omega) _) (by simp; omega) _
    · have HM := Lib.hid hM
      clear hM
      go_wp2
      refine rret_any rfl rfl rfl (.string (bs x.cmd)) (.string (bs x.name)) (.slice (some ⟨g, 0, none⟩) x.opts.length cap) (by go_simp) (by go_simp) (by go_simp) ?_
      refine ⟨gr_setHi (gr_setHi (gr_setHi HM.out.gr (by omega) _ _) (by omega) _ _) (by omega) _ _, .inr (.inr ⟨x, _, x.st, w.heap.size + 1 + 1 + 1, hs, HX.out, rfl, by omega, ?_⟩)⟩
      exact ownsRow_setCell_below (ownsRow_setCell_below (ownsRow_setCell_below HM.out.own (by simp; omega) _) (by simp; omega) _) (by simp; omega) _
  · exact fun a W' h => h

end Go.Proofs.Ytpilifhdhgdbjaa
