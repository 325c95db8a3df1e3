/- The law's helpers, walked: an error's number; two lines that say the same are the same. -/
import Derived.Test.YtpilifhdhgdbjaaRefZ
import Derived.Test.YtpilifhdhgdbjaaAns
import Derived.Laws.OwnMore
import Derived.OneCell
namespace Go.Proofs.Ytpilifhdhgdbjaa
open Go.RowKit

theorem optCells_len (o : List (Sp.Bs × Sp.Bs)) : (optCells o).length = o.length * 2 := by
  induction o with
  | nil => rfl
  | cons a r ih => simp [optCells] at ih ⊢; omega
theorem optCells_even (o : List (Sp.Bs × Sp.Bs)) (k : Nat) (h : k < o.length) : (optCells o)[k * 2]? = some (.string (bs o[k].1)) ∧ (optCells o)[k * 2 + 1]? = some (.string (bs o[k].2)) := by
  induction o generalizing k with
  | nil => simp at h
  | cons a r ih =>
    cases k with
    | zero => simp [optCells]
    | succ k =>
      have := ih k (by simpa using h)
      have e : optCells (a :: r) = .string (bs a.1) :: .string (bs a.2) :: optCells r := by simp [optCells]
      rw [e, show (k + 1) * 2 = k * 2 + 1 + 1 from by omega]
      simpa using this

/-- The two lines, boxed. -/
structure SameW (w : World) (c n : Sp.Bs) (v1 v2 : Value) (W : World) : Prop where
  gr : w.grownBy W none
  one : W.heap[w.heap.size]? = some (.cells #[.string (bs c), .string (bs n), v1] 24 (0, 0))
  two : W.heap[w.heap.size + 1]? = some (.cells #[.string (bs c), .string (bs n), v2] 24 (0, 0))
theorem SameW.drewN {w : World} {c n : Sp.Bs} {v1 v2 : Value} {W : World} (h : SameW w c n v1 v2 W) (k : Nat) : SameW w c n v1 v2 (W.drewN k) := ⟨gr_drewN h.gr k, h.one, h.two⟩
theorem SameW.a2 {w : World} {c n : Sp.Bs} {v1 v2 : Value} {W : World} (h : SameW w c n v1 v2 W) : W.cell? ⟨w.heap.size, 2, none⟩ = some v1 := by rw [Lib.cell_of_heap h.one]; rfl
theorem SameW.b2 {w : World} {c n : Sp.Bs} {v1 v2 : Value} {W : World} (h : SameW w c n v1 v2 W) : W.cell? ⟨w.heap.size + 1, 2, none⟩ = some v2 := by rw [Lib.cell_of_heap h.two]; rfl
theorem same_start (w : World) (c n : Sp.Bs) (v1 v2 : Value) : SameW w c n v1 v2 ((w.alloc (.cells #[.string (bs c), .string (bs n), v1] 24)).alloc (.cells #[.string (bs c), .string (bs n), v2] 24)) := by
  refine ⟨gr_trans (World.grownBy_alloc _ _ _) (World.grownBy_alloc _ _ _), ?_, ?_⟩
  · rw [Below.heap_alloc _ _ _ (by first | omega | (simp; done) | (simp; omega)), at_new _ _ _ (by first | omega | (simp; done) | (simp; omega))]
  · rw [at_new _ _ _ (by first | omega | (simp; done) | (simp; omega))]

set_option maxHeartbeats 1000000 in
theorem same_none {w : World} {c n : Sp.Bs} {v1 v2 : Value} 
    (h1 : v1 = .slice none 0 0 ∨ ∃ g cap, v1 = .slice (some ⟨g, 0, none⟩) 0 cap) (h2 : v2 = .slice none 0 0 ∨ ∃ g cap, v2 = .slice (some ⟨g, 0, none⟩) 0 cap) :
    Calls Try.prog 7 #[.agg #[.string (bs c), .string (bs n), v1], .agg #[.string (bs c), .string (bs n), v2]] w fun e w' => e = .returned (.bool true) ∧ w.grownBy w' none := by
  have H0 := Lib.hid (same_start w c n v1 v2)
  rcases h1 with rfl | ⟨g1, cap1, rfl⟩ <;> rcases h2 with rfl | ⟨g2, cap2, rfl⟩
  all_goals
    go_enter Try.func7, Try.ntmps7
    go_wp2
    go_loop [5] (fun i => i = .int .i64 0) (fun _ => 0)
    case atStart => rfl
    case round =>
      obtain rfl := hrel
      go_wp2
      go_ret
      exact ⟨rfl, H0.out.gr⟩

set_option maxHeartbeats 1000000 in
theorem same_some {w : World} {c n : Sp.Bs} {o : List (Sp.Bs × Sp.Bs)} {g1 g2 cap1 cap2 b1 b2 : Nat} (ho : o.length ≤ 4097)
    (h1 : w.ownsRow b1 33 2 (.slice (some ⟨g1, 0, none⟩) o.length cap1) o.length (optCells o)) (h2 : w.ownsRow b2 33 2 (.slice (some ⟨g2, 0, none⟩) o.length cap2) o.length (optCells o)) :
    Calls Try.prog 7 #[.agg #[.string (bs c), .string (bs n), .slice (some ⟨g1, 0, none⟩) o.length cap1], .agg #[.string (bs c), .string (bs n), .slice (some ⟨g2, 0, none⟩) o.length cap2]] w fun e w' => e = .returned (.bool true) ∧ w.grownBy w' none := by
  have H0 := Lib.hid (same_start w c n (.slice (some ⟨g1, 0, none⟩) o.length cap1) (.slice (some ⟨g2, 0, none⟩) o.length cap2))
  have H1 := Lib.hid h1
  have H2 := Lib.hid h2
  clear h1 h2
  go_enter Try.func7, Try.ntmps7
  go_wp2
  go_loopw [5] (fun i wr => ∃ k : Nat, k ≤ o.length ∧ i = .int .i64 k ∧ SameW w c n (.slice (some ⟨g1, 0, none⟩) o.length cap1) (.slice (some ⟨g2, 0, none⟩) o.length cap2) wr) (fun i _ => o.length - (intOf i).toNat)
  case atStart => exact ⟨0, Nat.zero_le _, rfl, H0.out⟩
  case round =>
    obtain ⟨k, hk, rfl, hS⟩ := hrel
    have a2 := hS.a2
    have q2 := hS.b2
    have hr1 := H1.out.kept hS.gr (.inr (by simp [Value.ownBlock]))
    have hr2 := H2.out.kept hS.gr (.inr (by simp [Value.ownBlock]))
    have HS := Lib.hid hS
    clear hS
    by_cases hlt : k < o.length
    · have hcell := optCells_even o k hlt
      have p1 := (hr1.cellAt (k * 2) (by omega)).trans hcell.1
      have p2 := (hr1.cellAt (k * 2 + 1) (by omega)).trans hcell.2
      have p3 := (hr2.cellAt (k * 2) (by omega)).trans hcell.1
      have p4 := (hr2.cellAt (k * 2 + 1) (by omega)).trans hcell.2
      clear hr1 hr2 hcell
      go_wp2
      go_quiet (fail)
      go_wp2
      go_roundw
      case rel => exact ⟨k + 1, by omega, by go_num, HS.out.drewN _⟩
      case measure => simp [intOf]; omega
    · clear hr1 hr2
      have hlt' : ¬ (k : Int) < (o.length : Int) := by omega
      go_wp2
      go_ret
      exact ⟨rfl, HS.out.gr⟩

theorem same_true {w : World} {b1 b2 : Nat} {c n : Sp.Bs} {o : List (Sp.Bs × Sp.Bs)} {v1 v2 : Value} (ho : o.length ≤ 4097)
    (h1 : w.ownsRow b1 33 2 v1 o.length (optCells o)) (h2 : w.ownsRow b2 33 2 v2 o.length (optCells o)) :
    Calls Try.prog 7 #[.agg #[.string (bs c), .string (bs n), v1], .agg #[.string (bs c), .string (bs n), v2]] w fun e w' => e = .returned (.bool true) ∧ w.grownBy w' none := by
  by_cases h0 : o.length = 0
  · refine same_none ?_ ?_
    · rcases h1.2 with ⟨rfl, _⟩ | ⟨g, cap, _, rfl, _⟩
      · exact .inl rfl
      · exact .inr ⟨g, cap, by rw [h0]⟩
    · rcases h2.2 with ⟨rfl, _⟩ | ⟨g, cap, _, rfl, _⟩
      · exact .inl rfl
      · exact .inr ⟨g, cap, by rw [h0]⟩
  · obtain ⟨g1, cap1, rfl, _, _⟩ := h1.form (by omega)
    obtain ⟨g2, cap2, rfl, _, _⟩ := h2.form (by omega)
    exact same_some ho h1 h2

end Go.Proofs.Ytpilifhdhgdbjaa
