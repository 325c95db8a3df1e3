/- The reference's reader, walked: what lies in memory in its loop. -/
import Derived.Test.YtpilifhdhgdbjaaRefA
import Derived.Test.YtpilifhdhgdbjaaAns
import Derived.Deep.AppendLies
namespace Go.Proofs.Ytpilifhdhgdbjaa
open Go.RowKit

/-- What lies in memory between two bytes. -/
structure RMem (w0 : World) (c n : Sp.Bs) (o : List (Sp.Bs × Sp.Bs)) (v : Value) (W : World) : Prop where
  gr : w0.grownBy W none
  ret : W.heap[w0.heap.size]? = some (.cells #[.string ⟨#[]⟩, .string ⟨#[]⟩, .slice none 0 0] 24 (0, 0))
  non : W.heap[w0.heap.size + 1]? = some (.cells #[.string ⟨#[]⟩, .string ⟨#[]⟩, .slice none 0 0] 24 (0, 0))
  lin : W.heap[w0.heap.size + 1 + 1]? = some (.cells #[.string (bs c), .string (bs n), v] 24 (0, 0))
  own : W.ownsRow (w0.heap.size + 1 + 1 + 1) 33 2 v o.length (optCells o)

section
variable {w0 : World} {c n : Sp.Bs} {o : List (Sp.Bs × Sp.Bs)} {v : Value} {W W' : World}

theorem RMem.size (h : RMem w0 c n o v W) : w0.heap.size + 1 + 1 < W.heap.size := (Array.getElem?_eq_some_iff.1 h.lin).1
theorem RMem.drewN (h : RMem w0 c n o v W) (k : Nat) : RMem w0 c n o v (W.drewN k) := ⟨gr_drewN h.gr k, h.ret, h.non, h.lin, h.own⟩
theorem RMem.r0 (h : RMem w0 c n o v W) : W.cell? ⟨w0.heap.size, 0, none⟩ = some (.string ⟨#[]⟩) := by rw [Lib.cell_of_heap h.ret]; rfl
theorem RMem.r1 (h : RMem w0 c n o v W) : W.cell? ⟨w0.heap.size, 1, none⟩ = some (.string ⟨#[]⟩) := by rw [Lib.cell_of_heap h.ret]; rfl
theorem RMem.r2 (h : RMem w0 c n o v W) : W.cell? ⟨w0.heap.size, 2, none⟩ = some (.slice none 0 0) := by rw [Lib.cell_of_heap h.ret]; rfl
theorem RMem.rf (h : RMem w0 c n o v W) (k : Nat) : W.frozen? ⟨w0.heap.size, k, none⟩ = false := Lib.frozen_of_heap h.ret k
theorem RMem.n0 (h : RMem w0 c n o v W) : W.cell? ⟨w0.heap.size + 1, 0, none⟩ = some (.string ⟨#[]⟩) := by rw [Lib.cell_of_heap h.non]; rfl
theorem RMem.n1 (h : RMem w0 c n o v W) : W.cell? ⟨w0.heap.size + 1, 1, none⟩ = some (.string ⟨#[]⟩) := by rw [Lib.cell_of_heap h.non]; rfl
theorem RMem.n2 (h : RMem w0 c n o v W) : W.cell? ⟨w0.heap.size + 1, 2, none⟩ = some (.slice none 0 0) := by rw [Lib.cell_of_heap h.non]; rfl
theorem RMem.l0 (h : RMem w0 c n o v W) : W.cell? ⟨w0.heap.size + 1 + 1, 0, none⟩ = some (.string (bs c)) := by rw [Lib.cell_of_heap h.lin]; rfl
theorem RMem.l1 (h : RMem w0 c n o v W) : W.cell? ⟨w0.heap.size + 1 + 1, 1, none⟩ = some (.string (bs n)) := by rw [Lib.cell_of_heap h.lin]; rfl
theorem RMem.l2 (h : RMem w0 c n o v W) : W.cell? ⟨w0.heap.size + 1 + 1, 2, none⟩ = some v := by rw [Lib.cell_of_heap h.lin]; rfl
theorem RMem.lf (h : RMem w0 c n o v W) (k : Nat) : W.frozen? ⟨w0.heap.size + 1 + 1, k, none⟩ = false := Lib.frozen_of_heap h.lin k

/-- Blocks more. -/
theorem RMem.more (h : RMem w0 c n o v W) {row : Option Nat} (hg : W.grownBy W' row) (hr : ∀ k, row = some k → W.heap.size ≤ k) : RMem w0 c n o v W' := by
  have hs := h.size
  have key : ∀ (k : Nat) (ob : Obj), W.heap[k]? = some ob → W'.heap[k]? = some ob := fun k ob ho => by
    have hk := (Array.getElem?_eq_some_iff.1 ho).1
    rw [hg.block k hk (fun e => by have := hr k e.symm; omega)]; exact ho
  refine ⟨?_, key _ _ h.ret, key _ _ h.non, key _ _ h.lin, h.own.kept hg ?_⟩
  · exact ⟨hg.os.trans h.gr.os, hg.tape.trans h.gr.tape, hg.output.trans h.gr.output, Nat.le_trans h.gr.size hg.size, fun i hi _ =>
      (hg.block i (by have := h.gr.size; omega) (fun e => by have := hr i e.symm; have := h.gr.size; omega)).trans (h.gr.block i hi (by simp))⟩
  · rcases h.own.2 with ⟨hv, _⟩ | ⟨g, cap, cur, hv, hg', hgb, _⟩
    · left; rw [hv]; rfl
    · right; rw [hv]; simp only [Value.ownBlock]
      intro e
      have h1 := hr g e.symm
      have h2 := (Array.getElem?_eq_some_iff.1 hgb).1
      omega
theorem RMem.alloc (h : RMem w0 c n o v W) (ob : Obj) : RMem w0 c n o v (W.alloc ob) := h.more (World.grownBy_alloc W ob none) (fun k e => by cases e)

theorem RMem.setLin (h : RMem w0 c n o v W) {c' n' : Sp.Bs} {o' : List (Sp.Bs × Sp.Bs)} {v' : Value} (k : Nat) (u : Value)
    (hc : (W.setCell ⟨w0.heap.size + 1 + 1, k, none⟩ u).heap[w0.heap.size + 1 + 1]? = some (.cells #[.string (bs c'), .string (bs n'), v'] 24 (0, 0)))
    (ho : W.ownsRow (w0.heap.size + 1 + 1 + 1) 33 2 v' o'.length (optCells o')) : RMem w0 c' n' o' v' (W.setCell ⟨w0.heap.size + 1 + 1, k, none⟩ u) := by
  have key : ∀ j, j ≠ w0.heap.size + 1 + 1 → (W.setCell ⟨w0.heap.size + 1 + 1, k, none⟩ u).heap[j]? = W.heap[j]? := fun j hj => Below.heap_setCell _ _ _ _ hj
  exact ⟨gr_setHi h.gr (by omega) _ _, by rw [key _ (by omega)]; exact h.ret, by rw [key _ (by omega)]; exact h.non, hc, ownsRow_setCell_below ho (by simp) u⟩
theorem RMem.setCmd (h : RMem w0 c n o v W) (c' : Sp.Bs) : RMem w0 c' n o v (W.setCell ⟨w0.heap.size + 1 + 1, 0, none⟩ (.string (bs c'))) :=
  h.setLin 0 _ (by simp [World.setCell, Array.getElem?_modify, h.lin]) h.own
theorem RMem.setName (h : RMem w0 c n o v W) (n' : Sp.Bs) : RMem w0 c n' o v (W.setCell ⟨w0.heap.size + 1 + 1, 1, none⟩ (.string (bs n'))) :=
  h.setLin 1 _ (by simp [World.setCell, Array.getElem?_modify, h.lin]) h.own

end
theorem app_cells (W : World) (a b : Value) (t : TypeId) : ∀ j u, [a, b][j]? = some u → (W.alloc (.cells #[a, b] t)).cell? ((⟨W.heap.size, 0, none⟩ : Addr).add j) = some u := by
  intro j u hj
  match j, hj with
  | 0, hj => simp at hj; subst hj; simp [Addr.add]
  | 1, hj => simp at hj; subst hj; simp [Addr.add]
theorem app_one (a b : ByteArray) : ∀ u ∈ [Value.string a, Value.string b], u.oneCell' = true := by
  intro u hu; simp at hu; rcases hu with rfl | rfl <;> rfl

/-- What lies behind an option's append, ahead of its store. -/
structure RLie (w0 : World) (c n : Sp.Bs) (v : Value) (W : World) : Prop where
  gr : w0.grownBy W none
  ret : W.heap[w0.heap.size]? = some (.cells #[.string ⟨#[]⟩, .string ⟨#[]⟩, .slice none 0 0] 24 (0, 0))
  non : W.heap[w0.heap.size + 1]? = some (.cells #[.string ⟨#[]⟩, .string ⟨#[]⟩, .slice none 0 0] 24 (0, 0))
  lin : W.heap[w0.heap.size + 1 + 1]? = some (.cells #[.string (bs c), .string (bs n), v] 24 (0, 0))

section
variable {w0 : World} {c n : Sp.Bs} {o : List (Sp.Bs × Sp.Bs)} {v : Value} {W W1 : World}
theorem RLie.r0 (h : RLie w0 c n v W) : W.cell? ⟨w0.heap.size, 0, none⟩ = some (.string ⟨#[]⟩) := by rw [Lib.cell_of_heap h.ret]; rfl
theorem RLie.r1 (h : RLie w0 c n v W) : W.cell? ⟨w0.heap.size, 1, none⟩ = some (.string ⟨#[]⟩) := by rw [Lib.cell_of_heap h.ret]; rfl
theorem RLie.r2 (h : RLie w0 c n v W) : W.cell? ⟨w0.heap.size, 2, none⟩ = some (.slice none 0 0) := by rw [Lib.cell_of_heap h.ret]; rfl
theorem RLie.rf (h : RLie w0 c n v W) (k : Nat) : W.frozen? ⟨w0.heap.size, k, none⟩ = false := Lib.frozen_of_heap h.ret k
theorem RLie.n0 (h : RLie w0 c n v W) : W.cell? ⟨w0.heap.size + 1, 0, none⟩ = some (.string ⟨#[]⟩) := by rw [Lib.cell_of_heap h.non]; rfl
theorem RLie.n1 (h : RLie w0 c n v W) : W.cell? ⟨w0.heap.size + 1, 1, none⟩ = some (.string ⟨#[]⟩) := by rw [Lib.cell_of_heap h.non]; rfl
theorem RLie.n2 (h : RLie w0 c n v W) : W.cell? ⟨w0.heap.size + 1, 2, none⟩ = some (.slice none 0 0) := by rw [Lib.cell_of_heap h.non]; rfl
theorem RLie.l2 (h : RLie w0 c n v W) : W.cell? ⟨w0.heap.size + 1 + 1, 2, none⟩ = some v := by rw [Lib.cell_of_heap h.lin]; rfl
theorem RLie.lf (h : RLie w0 c n v W) (k : Nat) : W.frozen? ⟨w0.heap.size + 1 + 1, k, none⟩ = false := Lib.frozen_of_heap h.lin k

theorem RMem.apart (h : RMem w0 c n o v W) : ∀ k, k ≤ w0.heap.size + 1 + 1 → some k ≠ v.ownBlock := by
  intro k hk e
  rcases h.own.2 with ⟨hv, _⟩ | ⟨g, cap, cur, hv, hg', _⟩
  · rw [hv] at e; cases e
  · rw [hv] at e; simp [Value.ownBlock] at e; omega
theorem RMem.lie5 (h : RMem w0 c n o v W) {ob : Obj} (hg : (W.alloc ob).grownBy W1 v.ownBlock) : RLie w0 c n v W1 := by
  have hs := h.size
  have hap := h.apart
  have key : ∀ (k : Nat) (x : Obj), k ≤ w0.heap.size + 1 + 1 → W.heap[k]? = some x → W1.heap[k]? = some x := fun k x hk ho => by
    rw [hg.block k (by simp; omega) (hap k hk), Below.heap_alloc _ _ _ (by omega)]; exact ho
  refine ⟨⟨hg.os.trans h.gr.os, hg.tape.trans h.gr.tape, hg.output.trans h.gr.output, ?_, fun k hk hr => ?_⟩, key _ _ (by omega) h.ret, key _ _ (by omega) h.non, key _ _ (by omega) h.lin⟩
  · have a1 := hg.size
    have a2 := h.gr.size
    have a3 : (W.alloc ob).heap.size = W.heap.size + 1 := by simp
    omega
  · rw [hg.block k (by simp; have := h.gr.size; omega) (hap k (by omega)), Below.heap_alloc _ _ _ (by have := h.gr.size; omega)]
    exact h.gr.block k hk hr
/-- An option more. -/
theorem RMem.app (h : RMem w0 c n o v W) {ob : Obj} {v5 : Value} {kb vb : Sp.Bs} (hg : (W.alloc ob).grownBy W1 v.ownBlock)
    (ho : W1.ownsRow (w0.heap.size + 1 + 1 + 1) 33 2 v5 (o.length + 1) (optCells o ++ [.string (bs kb), .string (bs vb)])) :
    RMem w0 c n (o ++ [(kb, vb)]) v5 (W1.setCell ⟨w0.heap.size + 1 + 1, 2, none⟩ v5) := by
  have h5 := h.lie5 hg
  have key : ∀ j, j ≠ w0.heap.size + 1 + 1 → (W1.setCell ⟨w0.heap.size + 1 + 1, 2, none⟩ v5).heap[j]? = W1.heap[j]? := fun j hj => Below.heap_setCell _ _ _ _ hj
  refine ⟨gr_setHi h5.gr (by omega) _ _, by rw [key _ (by omega)]; exact h5.ret, by rw [key _ (by omega)]; exact h5.non, ?_, ?_⟩
  · have := h5.lin
    simp [World.setCell, Array.getElem?_modify, this]
  · rw [optCells_snoc]
    simp only [List.length_append, List.length_cons, List.length_nil]
    exact ownsRow_setCell_below ho (by simp) v5
end

end Go.Proofs.Ytpilifhdhgdbjaa
