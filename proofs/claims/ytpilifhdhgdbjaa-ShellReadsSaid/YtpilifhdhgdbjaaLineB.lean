/- The shell's reader, walked: a round of the loop over the fields. -/
import Derived.Test.YtpilifhdhgdbjaaLineA
namespace Go.Proofs.Ytpilifhdhgdbjaa
open Go.RowKit
attribute [local go_sem] Oper.semAt_some

/-- The two codes of a range over a function that stand in a code. -/
def findRF : Code → List (Code × Code)
  | .rangeFunc _ _ a b => [(a, b)]
  | .seq x y => findRF x ++ findRF y
  | .block _ c => findRF c
  | .cond _ x y => findRF x ++ findRF y
  | _ => []

/-- Options as cells. -/
def optCells (o : List (Sp.Bs × Sp.Bs)) : List Value := o.flatMap fun p => [.string (bs p.1), .string (bs p.2)]
theorem optCells_snoc (o : List (Sp.Bs × Sp.Bs)) (k v : Sp.Bs) : optCells (o ++ [(k, v)]) = optCells o ++ [.string (bs k), .string (bs v)] := by simp [optCells]

/-- What lies in memory between two steps of the loop over the fields. -/
structure Mem (w0 : World) (b B0 B1 B2 D l : Nat) (s : ByteArray) (rec : Loop) (y : Sp.St) (v : Value) (j : Nat) (W : World) : Prop where
  gr : w0.grownBy W (some b)
  rd : Rd W b s j
  box0 : W.heap[B0]? = some (.cells #[.pointer (some ⟨b, 0, none⟩)] 41 (0, 0))
  res : W.heap[B1]? = some (.cells #[.string (bs y.cmd), .string (bs y.name), v] 24 (0, 0))
  box2 : W.heap[B2]? = some (.cells #[.pointer (some ⟨b, 0, none⟩)] 41 (0, 0))
  dfr : W.heap[D]? = some (.deferred (some []))
  lp : W.heap[l]? = some (.loop rec)
  own : W.ownsRow (l + 1) 33 2 v y.opts.length (optCells y.opts)

/-- How the blocks lie. -/
structure Lie (w0 : World) (b B0 B1 B2 D l : Nat) : Prop where
  hb : b < w0.heap.size
  h0 : B0 = w0.heap.size
  h1 : B1 = w0.heap.size + 1
  h2 : B2 = w0.heap.size + 1 + 1
  hD : D = w0.heap.size + 1 + 1 + 1
  hl : l = w0.heap.size + 1 + 1 + 1 + 1

section
variable {w0 : World} {b B0 B1 B2 D l : Nat} {s : ByteArray} {rec : Loop} {y : Sp.St} {v : Value} {j : Nat} {W W' : World}

theorem Mem.c0 (h : Mem w0 b B0 B1 B2 D l s rec y v j W) : W.cell? ⟨B0, 0, none⟩ = some (.pointer (some ⟨b, 0, none⟩)) := by rw [Lib.cell_of_heap h.box0]; rfl
theorem Mem.c2 (h : Mem w0 b B0 B1 B2 D l s rec y v j W) : W.cell? ⟨B2, 0, none⟩ = some (.pointer (some ⟨b, 0, none⟩)) := by rw [Lib.cell_of_heap h.box2]; rfl
theorem Mem.r0 (h : Mem w0 b B0 B1 B2 D l s rec y v j W) : W.cell? ⟨B1, 0, none⟩ = some (.string (bs y.cmd)) := by rw [Lib.cell_of_heap h.res]; rfl
theorem Mem.r1 (h : Mem w0 b B0 B1 B2 D l s rec y v j W) : W.cell? ⟨B1, 1, none⟩ = some (.string (bs y.name)) := by rw [Lib.cell_of_heap h.res]; rfl
theorem Mem.r2 (h : Mem w0 b B0 B1 B2 D l s rec y v j W) : W.cell? ⟨B1, 2, none⟩ = some v := by rw [Lib.cell_of_heap h.res]; rfl
theorem Mem.f (h : Mem w0 b B0 B1 B2 D l s rec y v j W) (o : Nat) : W.frozen? ⟨B1, o, none⟩ = false := Lib.frozen_of_heap h.res o
theorem Mem.size (h : Mem w0 b B0 B1 B2 D l s rec y v j W) : l < W.heap.size := (Array.getElem?_eq_some_iff.1 h.lp).1

/-- The reader goes on; all else lies as it lay. -/
theorem Mem.grown (L : Lie w0 b B0 B1 B2 D l) (h : Mem w0 b B0 B1 B2 D l s rec y v j W) {j' : Nat} (hg : W.grownBy W' (some b)) (hr : Rd W' b s j') :
    Mem w0 b B0 B1 B2 D l s rec y v j' W' := by
  obtain ⟨hb, h0, h1, h2, hD, hl⟩ := L
  have key : ∀ (k : Nat) (o : Obj), w0.heap.size ≤ k → W.heap[k]? = some o → W'.heap[k]? = some o := fun k o hk ho => by
    rw [hg.block k (Array.getElem?_eq_some_iff.1 ho).1 (by simp; omega)]; exact ho
  exact ⟨gr_trans h.gr hg, hr, key _ _ (by omega) h.box0, key _ _ (by omega) h.res, key _ _ (by omega) h.box2, key _ _ (by omega) h.dfr, key _ _ (by omega) h.lp,
    h.own.kept hg (by
      rcases h.own.2 with ⟨hv, _⟩ | ⟨g, cap, cur, hv, hg', _⟩
      · left; rw [hv]; rfl
      · right; rw [hv]; simp [Value.ownBlock]; omega)⟩
theorem Mem.drewN (h : Mem w0 b B0 B1 B2 D l s rec y v j W) (n : Nat) : Mem w0 b B0 B1 B2 D l s rec y v j (W.drewN n) :=
  ⟨gr_drewN h.gr n, h.rd, h.box0, h.res, h.box2, h.dfr, h.lp, h.own⟩

theorem Mem.setOther (h : Mem w0 b B0 B1 B2 D l s rec y v j W) (L : Lie w0 b B0 B1 B2 D l) {y' : Sp.St} {v' : Value} (o : Nat) (u : Value)
    (hc : (W.setCell ⟨B1, o, none⟩ u).heap[B1]? = some (.cells #[.string (bs y'.cmd), .string (bs y'.name), v'] 24 (0, 0)))
    (ho : W.ownsRow (l + 1) 33 2 v' y'.opts.length (optCells y'.opts)) : Mem w0 b B0 B1 B2 D l s rec y' v' j (W.setCell ⟨B1, o, none⟩ u) := by
  obtain ⟨hb, h0, h1, h2, hD, hl⟩ := L
  have key : ∀ k, k ≠ B1 → (W.setCell ⟨B1, o, none⟩ u).heap[k]? = W.heap[k]? := fun k hk => Below.heap_setCell _ _ _ _ hk
  refine ⟨?_, ?_, by rw [key _ (by omega)]; exact h.box0, hc, by rw [key _ (by omega)]; exact h.box2, by rw [key _ (by omega)]; exact h.dfr, by rw [key _ (by omega)]; exact h.lp, ?_⟩
  · exact ⟨h.gr.os, h.gr.tape, h.gr.output, by simpa [World.setCell] using h.gr.size, fun k hk hr => by rw [key k (by omega)]; exact h.gr.block k hk hr⟩
  · have := h.rd; unfold Rd at *; rw [key _ (by omega)]; exact this
  · exact ownsRow_setCell_below ho (by simp; omega) u

theorem Mem.setCmd (h : Mem w0 b B0 B1 B2 D l s rec y v j W) (L : Lie w0 b B0 B1 B2 D l) (c : Sp.Bs) :
    Mem w0 b B0 B1 B2 D l s rec { y with cmd := c } v j (W.setCell ⟨B1, 0, none⟩ (.string (bs c))) :=
  h.setOther (y' := { y with cmd := c }) L 0 _ (by simp [World.setCell, Array.getElem?_modify, h.res]) h.own
theorem Mem.setName (h : Mem w0 b B0 B1 B2 D l s rec y v j W) (L : Lie w0 b B0 B1 B2 D l) (c : Sp.Bs) :
    Mem w0 b B0 B1 B2 D l s rec { y with name := c } v j (W.setCell ⟨B1, 1, none⟩ (.string (bs c))) :=
  h.setOther (y' := { y with name := c }) L 1 _ (by simp [World.setCell, Array.getElem?_modify, h.res]) h.own

theorem grownBy_putObj (W : World) (l : Nat) (o : Obj) : W.grownBy (W.putObj l o) (some l) :=
  ⟨rfl, rfl, rfl, by simp, fun k _ hk => World.putObj_heap_other (fun e => hk (by rw [e]))⟩
/-- The record turns. -/
theorem Mem.put (h : Mem w0 b B0 B1 B2 D l s rec y v j W) (L : Lie w0 b B0 B1 B2 D l) (rec' : Loop) : Mem w0 b B0 B1 B2 D l s rec' y v j (W.putObj l (.loop rec')) := by
  have hs := h.size
  obtain ⟨hb, h0, h1, h2, hD, hl⟩ := L
  have key : ∀ k, k ≠ l → (W.putObj l (.loop rec')).heap[k]? = W.heap[k]? := fun k hk => World.putObj_heap_other hk
  refine ⟨?_, ?_, by rw [key _ (by omega)]; exact h.box0, by rw [key _ (by omega)]; exact h.res, by rw [key _ (by omega)]; exact h.box2, by rw [key _ (by omega)]; exact h.dfr, World.putObj_heap_same hs, ?_⟩
  · exact ⟨h.gr.os, h.gr.tape, h.gr.output, by simpa using h.gr.size, fun k hk hr => by rw [key k (by omega)]; exact h.gr.block k hk hr⟩
  · have := h.rd; unfold Rd at *; rw [key _ (by omega)]; exact this
  · refine h.own.kept (grownBy_putObj W l (.loop rec')) ?_
    rcases h.own.2 with ⟨hv, _⟩ | ⟨g, cap, cur, hv, hg', _⟩
    · left; rw [hv]; rfl
    · right; rw [hv]; simp [Value.ownBlock]; omega
theorem Mem.cast (h : Mem w0 b B0 B1 B2 D l s rec y v j W) {y' : Sp.St} (h1 : y'.cmd = y.cmd) (h2 : y'.name = y.name) (h3 : y'.opts = y.opts) : Mem w0 b B0 B1 B2 D l s rec y' v j W :=
  ⟨h.gr, h.rd, h.box0, by rw [h1, h2]; exact h.res, h.box2, h.dfr, h.lp, by rw [h3]; exact h.own⟩

theorem Mem.apart (h : Mem w0 b B0 B1 B2 D l s rec y v j W) : ∀ k, k ≤ l → some k ≠ v.ownBlock := by
  intro k hk e
  rcases h.own.2 with ⟨hv, _⟩ | ⟨g, cap, cur, hv, hg', _⟩
  · rw [hv] at e; cases e
  · rw [hv] at e; simp [Value.ownBlock] at e; omega

/-- An option more. -/
theorem Mem.appended (h : Mem w0 b B0 B1 B2 D l s rec y v j W) (L : Lie w0 b B0 B1 B2 D l) {o : Obj} {W5 : World} {v5 : Value} {kb vb : Sp.Bs} (hg : (W.alloc o).grownBy W5 v.ownBlock)
    (ho : W5.ownsRow (l + 1) 33 2 v5 (y.opts.length + 1) (optCells y.opts ++ [.string (bs kb), .string (bs vb)])) :
    Mem w0 b B0 B1 B2 D l s rec { y with opts := y.opts ++ [(kb, vb)] } v5 j (W5.setCell ⟨B1, 2, none⟩ v5) := by
  have hap := h.apart
  have hsz := h.size
  obtain ⟨hb, h0, h1, h2, hD, hl⟩ := L
  have k5 : ∀ k, k ≤ l → W5.heap[k]? = W.heap[k]? := fun k hk => by
    rw [hg.block k (by simp; omega) (hap k hk), Below.heap_alloc _ _ _ (by omega)]
  have k6 : ∀ k, k ≠ B1 → (W5.setCell ⟨B1, 2, none⟩ v5).heap[k]? = W5.heap[k]? := fun k hk => Below.heap_setCell _ _ _ _ hk
  have hr5 := (k5 B1 (by omega)).trans h.res
  refine ⟨?_, ?_, by rw [k6 _ (by omega), k5 _ (by omega)]; exact h.box0, ?_, by rw [k6 _ (by omega), k5 _ (by omega)]; exact h.box2, by rw [k6 _ (by omega), k5 _ (by omega)]; exact h.dfr, by rw [k6 _ (by omega), k5 _ (by omega)]; exact h.lp, ?_⟩
  · have g1 := h.gr
    refine ⟨hg.os.trans g1.os, hg.tape.trans g1.tape, hg.output.trans g1.output, ?_, fun k hk hr => ?_⟩
    · have a1 := hg.size
      have a2 := g1.size
      have a3 : (W.alloc o).heap.size = W.heap.size + 1 := by simp
      simp only [World.setCell, Array.size_modify]
      omega
    · rw [k6 k (by omega), k5 k (by omega)]; exact g1.block k hk hr
  · have h3 := h.rd; unfold Rd at *; rw [k6 _ (by omega), k5 _ (by omega)]; exact h3
  · simp [World.setCell, Array.getElem?_modify, hr5]
  · rw [optCells_snoc]
    simp only [List.length_append, List.length_cons, List.length_nil]
    exact ownsRow_setCell_below ho (by simp; omega) v5
end

theorem info33 : (Try.prog.info? 33).map (fun i => (i.zero, i.size, i.bytes)) = some (some (.agg #[.string ⟨#[]⟩, .string ⟨#[]⟩]), 2, 32) := by kernel_rfl

/-- The record of the loop, ready. -/
def lineRec (b B0 B1 B2 D : Nat) (assign body : Code) : Loop :=
  { state := .ready, pending := none, fn := 17, tmps := #[.pointer (some ⟨b, 0, none⟩), .pointer (some ⟨B0, 0, none⟩), .pointer (some ⟨B1, 0, none⟩), undef, undef, .pointer (some ⟨b, 0, none⟩), .func (.func 33) #[] #[.pointer (some ⟨B2, 0, none⟩)], undef, undef, undef, undef, undef, undef, undef, undef, undef, undef, undef, undef, undef, undef, undef, undef, undef, undef, undef, undef, undef, undef, undef, undef, undef, undef, undef, undef, undef, undef, undef, undef, undef, undef, undef, undef, undef, undef], params := #[7], assign, body, defers := D }

end Go.Proofs.Ytpilifhdhgdbjaa
