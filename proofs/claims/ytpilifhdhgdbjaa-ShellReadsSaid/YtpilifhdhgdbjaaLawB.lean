/- The law ShellReads, walked: what each reader answers, as data; what lies in memory behind the calls. -/
import Derived.Test.YtpilifhdhgdbjaaLawA
import Derived.Test.YtpilifhdhgdbjaaLawP
import Derived.Deep.Onto
namespace Go.Proofs.Ytpilifhdhgdbjaa
open Go.RowKit

theorem rparse_q (s : ByteArray) (w : World) : Calls Try.prog 5 #[.string s] w (ParseQ w (Sp.runP (BL s) Sp.St.start 0) s.size) := by
  by_cases h : 4096 < s.size
  · exact rparse_long h _ w
  · exact rparse_short (by omega) _ rfl w
theorem rparse_any {s : ByteArray} {c n : Sp.Bs} {o : List (Sp.Bs × Sp.Bs)} {E P : Int} (ha : Sp.ansOf (Sp.runP (BL s) Sp.St.start 0) s.size = (c, n, o, E, P)) (w : World) : Calls Try.prog 5 #[.string s] w (AnsQ w c n o E P) :=
  (rparse_q s w).mono fun _ _ h => ans_of h ha

/-- What lies in memory while the law spoils what it was told. -/
structure LW (w : World) (c n : Sp.Bs) (o : List (Sp.Bs × Sp.Bs)) (B5 B8 B11 : Nat) (vw va vb : Value) (na : Nat) (xa : List Value) (W : World) : Prop where
  gr : w.grownBy W none
  b5 : W.heap[B5]? = some (.cells #[.string (bs c), .string (bs n), vw] 24 (0, 0))
  b8 : W.heap[B8]? = some (.cells #[.string (bs c), .string (bs n), va] 24 (0, 0))
  b11 : W.heap[B11]? = some (.cells #[.string (bs c), .string (bs n), vb] 24 (0, 0))
  rw : W.ownsRow w.heap.size 33 2 vw o.length (optCells o)
  ra : W.ownsRow w.heap.size 33 2 va na xa
  rb : W.ownsRow w.heap.size 33 2 vb o.length (optCells o)
  aw : ∀ k, va.ownBlock = some k → vw.ownBlock ≠ some k ∧ vb.ownBlock ≠ some k ∧ k ≠ B5 ∧ k ≠ B8 ∧ k ≠ B11
  w8 : vw.ownBlock ≠ some B8 ∧ vb.ownBlock ≠ some B8
  lo : w.heap.size ≤ B5 ∧ w.heap.size ≤ B8 ∧ w.heap.size ≤ B11 ∧ B8 ≠ B5 ∧ B8 ≠ B11

section
variable {w : World} {c n : Sp.Bs} {o : List (Sp.Bs × Sp.Bs)} {B5 B8 B11 : Nat} {vw va vb : Value} {na : Nat} {xa : List Value} {W W' : World}

theorem LW.grow (h : LW w c n o B5 B8 B11 vw va vb na xa W) (hg : W.grownBy W' none) : LW w c n o B5 B8 B11 vw va vb na xa W' := by
  have key : ∀ (k : Nat) (x : Obj), W.heap[k]? = some x → W'.heap[k]? = some x := fun k x ho => by
    rw [hg.block k (Array.getElem?_eq_some_iff.1 ho).1 (by simp)]; exact ho
  have kept : ∀ {v : Value} {k : Nat} {xs : List Value}, W.ownsRow w.heap.size 33 2 v k xs → W'.ownsRow w.heap.size 33 2 v k xs := fun {v k xs} hr => hr.kept hg (by cases v.ownBlock <;> simp)
  exact ⟨gr_trans h.gr hg, key _ _ h.b5, key _ _ h.b8, key _ _ h.b11, kept h.rw, kept h.ra, kept h.rb, h.aw, h.w8, h.lo⟩
theorem LW.drewN (h : LW w c n o B5 B8 B11 vw va vb na xa W) (k : Nat) : LW w c n o B5 B8 B11 vw va vb na xa (W.drewN k) := h.grow (gr_drewN (gr_refl _ _) k)
theorem LW.p0 (h : LW w c n o B5 B8 B11 vw va vb na xa W) : W.cell? ⟨B5, 0, none⟩ = some (.string (bs c)) := by rw [Lib.cell_of_heap h.b5]; rfl
theorem LW.p1 (h : LW w c n o B5 B8 B11 vw va vb na xa W) : W.cell? ⟨B5, 1, none⟩ = some (.string (bs n)) := by rw [Lib.cell_of_heap h.b5]; rfl
theorem LW.p2 (h : LW w c n o B5 B8 B11 vw va vb na xa W) : W.cell? ⟨B5, 2, none⟩ = some vw := by rw [Lib.cell_of_heap h.b5]; rfl
theorem LW.q0 (h : LW w c n o B5 B8 B11 vw va vb na xa W) : W.cell? ⟨B8, 0, none⟩ = some (.string (bs c)) := by rw [Lib.cell_of_heap h.b8]; rfl
theorem LW.q1 (h : LW w c n o B5 B8 B11 vw va vb na xa W) : W.cell? ⟨B8, 1, none⟩ = some (.string (bs n)) := by rw [Lib.cell_of_heap h.b8]; rfl
theorem LW.q2 (h : LW w c n o B5 B8 B11 vw va vb na xa W) : W.cell? ⟨B8, 2, none⟩ = some va := by rw [Lib.cell_of_heap h.b8]; rfl
theorem LW.qf (h : LW w c n o B5 B8 B11 vw va vb na xa W) (k : Nat) : W.frozen? ⟨B8, k, none⟩ = false := Lib.frozen_of_heap h.b8 k
theorem LW.s0 (h : LW w c n o B5 B8 B11 vw va vb na xa W) : W.cell? ⟨B11, 0, none⟩ = some (.string (bs c)) := by rw [Lib.cell_of_heap h.b11]; rfl
theorem LW.s1 (h : LW w c n o B5 B8 B11 vw va vb na xa W) : W.cell? ⟨B11, 1, none⟩ = some (.string (bs n)) := by rw [Lib.cell_of_heap h.b11]; rfl
theorem LW.s2 (h : LW w c n o B5 B8 B11 vw va vb na xa W) : W.cell? ⟨B11, 2, none⟩ = some vb := by rw [Lib.cell_of_heap h.b11]; rfl

/-- The row of the first answer grows, or is written: all else stays. -/
theorem LW.row (h : LW w c n o B5 B8 B11 vw va vb na xa W) {na' : Nat} {xa' : List Value} {va' : Value} (hg : W.grownBy W' va.ownBlock) (hr : W'.ownsRow w.heap.size 33 2 va' na' xa') :
    w.grownBy W' none ∧ W'.heap[B5]? = some (.cells #[.string (bs c), .string (bs n), vw] 24 (0, 0)) ∧ W'.heap[B8]? = some (.cells #[.string (bs c), .string (bs n), va] 24 (0, 0)) ∧
      W'.heap[B11]? = some (.cells #[.string (bs c), .string (bs n), vb] 24 (0, 0)) ∧ W'.ownsRow w.heap.size 33 2 vw o.length (optCells o) ∧ W'.ownsRow w.heap.size 33 2 vb o.length (optCells o) := by
  have key : ∀ (k : Nat) (x : Obj), va.ownBlock ≠ some k → W.heap[k]? = some x → W'.heap[k]? = some x := fun k x hk ho => by
    rw [hg.block k (Array.getElem?_eq_some_iff.1 ho).1 (fun e => hk e.symm)]; exact ho
  have hlo : ∀ k, k < w.heap.size → va.ownBlock ≠ some k := fun k hk e => by
    have := (h.ra.lt k e).1; omega
  refine ⟨⟨hg.os.trans h.gr.os, hg.tape.trans h.gr.tape, hg.output.trans h.gr.output, Nat.le_trans h.gr.size hg.size, fun i hi hr => ?_⟩, key _ _ (fun e => (h.aw _ e).2.2.1 rfl) h.b5, key _ _ (fun e => (h.aw _ e).2.2.2.1 rfl) h.b8,
    key _ _ (fun e => (h.aw _ e).2.2.2.2 rfl) h.b11, h.rw.kept hg ?_, h.rb.kept hg ?_⟩
  · rw [hg.block i (by have := h.gr.size; omega) (fun e => hlo i hi e.symm)]; exact h.gr.block i hi hr
  · cases e : va.ownBlock with
    | none => cases vw.ownBlock <;> simp
    | some k => exact .inr (h.aw k e).1
  · cases e : va.ownBlock with
    | none => cases vb.ownBlock <;> simp
    | some k => exact .inr (h.aw k e).2.1

theorem LW.spoil (h : LW w c n o B5 B8 B11 vw va vb na xa W) {xa' : List Value} (hg : W.grownBy W' va.ownBlock) (hr : W'.ownsRow w.heap.size 33 2 va na xa') : LW w c n o B5 B8 B11 vw va vb na xa' W' := by
  obtain ⟨h1, h2, h3, h4, h5, h6⟩ := h.row hg hr
  exact ⟨h1, h2, h3, h4, h5, hr, h6, h.aw, h.w8, h.lo⟩

theorem LW.box8 (h : LW w c n o B5 B8 B11 vw va vb na xa W) {ob : Obj} {na' : Nat} {xa' : List Value} {va' : Value} (hg : (W.alloc ob).grownBy W' va.ownBlock) (hr : W'.ownsRow w.heap.size 33 2 va' na' xa') :
    W'.heap[B8]? = some (.cells #[.string (bs c), .string (bs n), va] 24 (0, 0)) := ((h.grow (World.grownBy_alloc W ob none)).row hg hr).2.2.1
theorem LW.append (h : LW w c n o B5 B8 B11 vw va vb na xa W) {ob : Obj} {g cap na' : Nat} {xa' : List Value} (hg : (W.alloc ob).grownBy W' va.ownBlock)
    (hr : W'.ownsRow w.heap.size 33 2 (.slice (some ⟨g, 0, none⟩) na' cap) na' xa') (hat : va.ownBlock = some g ∨ g = W.heap.size + 1) :
    LW w c n o B5 B8 B11 vw (.slice (some ⟨g, 0, none⟩) na' cap) vb na' xa' (W'.setCell ⟨B8, 2, none⟩ (.slice (some ⟨g, 0, none⟩) na' cap)) := by
  have hA := h.grow (World.grownBy_alloc W ob none)
  obtain ⟨h1, h2, h3, h4, h5, h6⟩ := hA.row hg hr
  have z5 := (Array.getElem?_eq_some_iff.1 h.b5).1
  have z8 := (Array.getElem?_eq_some_iff.1 h.b8).1
  have z11 := (Array.getElem?_eq_some_iff.1 h.b11).1
  have zw := h.rw.lt
  have zb := h.rb.lt
  obtain ⟨l5, l8, l11, n5, n11⟩ := h.lo
  have hne : g ≠ B8 := by
    rcases hat with e | e
    · exact (h.aw g e).2.2.2.1
    · omega
  have key : ∀ j, j ≠ B8 → (W'.setCell ⟨B8, 2, none⟩ (.slice (some ⟨g, 0, none⟩) na' cap)).heap[j]? = W'.heap[j]? := fun j hj => Below.heap_setCell _ _ _ _ hj
  refine ⟨gr_setHi h1 l8 _ _, by rw [key _ (Ne.symm n5)]; exact h2, by simp [World.setCell, Array.getElem?_modify, h3], by rw [key _ (Ne.symm n11)]; exact h4,
    ownsRow_setCell_other h5 h.w8.1 _, ownsRow_setCell_other hr (by simp [Value.ownBlock]; exact hne) _, ownsRow_setCell_other h6 h.w8.2 _, ?_, h.w8, h.lo⟩
  intro k hk
  obtain rfl : g = k := by simpa [Value.ownBlock] using hk
  rcases hat with e | e
  · exact h.aw g e
  · exact ⟨fun e' => by have := (zw _ e').2; omega, fun e' => by have := (zb _ e').2; omega, by omega, by omega, by omega⟩

end
end Go.Proofs.Ytpilifhdhgdbjaa
