/- The shell's reader, walked: a line. -/
import Derived.Test.YtpilifhdhgdbjaaLineF
import Derived.RangeFuncBox
namespace Go.Proofs.Ytpilifhdhgdbjaa
open Go.RowKit
attribute [local go_sem] Oper.semAt_some

/-- What a line answers. -/
def LineQ (w0 : World) (b : Nat) (X : Except Nat Sp.St) (e : Ending) (W' : World) : Prop :=
  w0.grownBy W' (some b) ∧
  ((∃ p, e = .panicked (flt p) ∧ X = .error (p + 1)) ∨
   (∃ (y : Sp.St) (v : Value) (st base : Nat), e = .returned (.agg #[.string (bs y.cmd), .string (bs y.name), v]) ∧ X = .ok { y with st := st } ∧ w0.heap.size ≤ base ∧ W'.ownsRow base 33 2 v y.opts.length (optCells y.opts)))

section
variable {w : World} {b : Nat} {s : ByteArray}

theorem at_new (w : World) (o : Obj) (k : Nat) (h : k = w.heap.size) : (w.alloc o).heap[k]? = some o := by subst h; exact World.alloc_heap_new w o
theorem gr_put {w W : World} {row : Option Nat} (h : w.grownBy W row) {D : Nat} (hD : w.heap.size ≤ D) (o : Obj) : w.grownBy (W.putObj D o) row :=
  ⟨h.os, h.tape, h.output, by simpa using h.size, fun k hk hr => by rw [World.putObj_heap_other (by omega)]; exact h.block k hk hr⟩

/-- What the loop finds. -/
theorem line_start (hR : Rd w b s 0) (rec : Loop) :
    Mem w b w.heap.size (w.heap.size + 1) (w.heap.size + 1 + 1) (w.heap.size + 1 + 1 + 1) (w.heap.size + 1 + 1 + 1 + 1) s rec Sp.St.start (.slice none 0 0) 0
      (((((w.alloc (.cells #[.pointer (some ⟨b, 0, none⟩)] 41)).alloc (.cells #[.string ⟨#[]⟩, .string ⟨#[]⟩, .slice none 0 0] 24)).alloc (.cells #[.pointer (some ⟨b, 0, none⟩)] 41)).alloc (.deferred (some []))).alloc (.loop rec)) := by
  have hb := hR.lt
  refine ⟨⟨rfl, rfl, rfl, by simp; omega, fun k hk hr => ?_⟩, ?_, ?_, ?_, ?_, ?_, ?_, ?_, ?_⟩
  · rw [Below.heap_alloc _ _ _ (by first | omega | (simp; omega)), Below.heap_alloc _ _ _ (by first | omega | (simp; omega)), Below.heap_alloc _ _ _ (by first | omega | (simp; omega)), Below.heap_alloc _ _ _ (by first | omega | (simp; omega)), Below.heap_alloc _ _ _ (by first | omega | (simp; omega))]
  · unfold Rd at *
    rw [Below.heap_alloc _ _ _ (by first | omega | (simp; omega)), Below.heap_alloc _ _ _ (by first | omega | (simp; omega)), Below.heap_alloc _ _ _ (by first | omega | (simp; omega)), Below.heap_alloc _ _ _ (by first | omega | (simp; omega)), Below.heap_alloc _ _ _ (by first | omega | (simp; omega))]
    exact hR
  · rw [Below.heap_alloc _ _ _ (by first | omega | (simp; done) | (simp; omega)), Below.heap_alloc _ _ _ (by first | omega | (simp; done) | (simp; omega)), Below.heap_alloc _ _ _ (by first | omega | (simp; done) | (simp; omega)), Below.heap_alloc _ _ _ (by first | omega | (simp; done) | (simp; omega)), at_new _ _ _ (by first | omega | (simp; done) | (simp; omega))]
  · rw [Below.heap_alloc _ _ _ (by first | omega | (simp; done) | (simp; omega)), Below.heap_alloc _ _ _ (by first | omega | (simp; done) | (simp; omega)), Below.heap_alloc _ _ _ (by first | omega | (simp; done) | (simp; omega)), at_new _ _ _ (by first | omega | (simp; done) | (simp; omega))]; rfl
  · rw [Below.heap_alloc _ _ _ (by first | omega | (simp; done) | (simp; omega)), Below.heap_alloc _ _ _ (by first | omega | (simp; done) | (simp; omega)), at_new _ _ _ (by first | omega | (simp; done) | (simp; omega))]
  · rw [Below.heap_alloc _ _ _ (by first | omega | (simp; done) | (simp; omega)), at_new _ _ _ (by first | omega | (simp; done) | (simp; omega))]
  · rw [at_new _ _ _ (by first | omega | (simp; done) | (simp; omega))]
  · simp [Sp.St.start, optCells]
  · exact .inl ⟨rfl, rfl⟩

theorem line_end {W4 : World} {B1 D base : Nat} {c n v : Value} {k : Nat} {xs : List Value} (hres : W4.heap[B1]? = some (.cells #[c, n, v] 24 (0, 0))) (hD : W4.heap[D]? = some (.deferred (some []))) (hne : B1 ≠ D)
    (h1 : w.heap.size ≤ B1) (h2 : w.heap.size ≤ D) (hB : B1 < base) (hg : w.grownBy W4 (some b)) (ho : W4.ownsRow base 33 2 v k xs) {W5 : World} (h5 : ((W4.setCell ⟨B1, 0, none⟩ c).setCell ⟨B1, 1, none⟩ n).setCell ⟨B1, 2, none⟩ v = W5) :
    W5.heap[D]? = some (.deferred (some [])) ∧ ∀ W6, W5.putObj D (.deferred none) = W6 → (W6.heap[B1]? = some (.cells #[c, n, v] 24 (0, 0)) ∧ w.grownBy W6 (some b) ∧ W6.ownsRow base 33 2 v k xs) := by
  have k5 : ∀ k, k ≠ B1 → W5.heap[k]? = W4.heap[k]? := fun k hk => by
    subst h5; rw [Below.heap_setCell _ _ _ _ hk, Below.heap_setCell _ _ _ _ hk, Below.heap_setCell _ _ _ _ hk]
  have hD5 := (k5 D (Ne.symm hne)).trans hD
  have h0 : W5.heap[B1]? = some (.cells #[c, n, v] 24 (0, 0)) := by
    subst h5; simp [World.setCell, Array.getElem?_modify, hres]
  have g5 : w.grownBy W5 (some b) := by
    subst h5
    refine ⟨hg.os, hg.tape, hg.output, by simpa [World.setCell] using hg.size, fun k hk hr => ?_⟩
    rw [k5 k (by omega)]; exact hg.block k hk hr
  have o5 : W5.ownsRow base 33 2 v k xs := by
    subst h5; exact ownsRow_setCell_below (ownsRow_setCell_below (ownsRow_setCell_below ho hB _) hB _) hB _
  refine ⟨hD5, fun W6 h6 => ?_⟩
  subst h6
  exact ⟨(World.putObj_heap_other hne).trans h0, gr_put g5 h2 _, ownsRow_putObj o5 _ hD5 rfl⟩

set_option maxHeartbeats 4000000 in
theorem line_c (hR : Rd w b s 0) (hs : s.size ≤ 4096) (X : Except Nat Sp.St) (hX : Sp.runP (BL s) Sp.St.start 0 = X) :
    Calls Try.prog 17 #[.pointer (some ⟨b, 0, none⟩)] w (LineQ w b X) := by
  have HR := Lib.hid hR; clear hR
  have HX := Lib.hid hX; clear hX
  refine calls_of_WpF Try.func17 rfl ?_
  simp only [Try.ntmps17, List.size_toArray, List.length_cons, List.length_nil, Nat.reduceAdd, Nat.reduceSub, Array.replicate_succ,
     Array.replicate_zero, List.push_toArray, List.append_toArray, List.nil_append, List.cons_append]
  refine WpF.seq (WpF.of_wp ?_)
  go_wp2
  refine WpF.seq (WpF.seq (WpF.of_wp ?_))
  have HF := Lib.hid (fields_c b ((w.alloc (.cells #[.pointer (some ⟨b, 0, none⟩)] 41)).alloc (.cells #[.string ⟨#[]⟩, .string ⟨#[]⟩, .slice none 0 0] 24)))
  go_wp2_with (go_at_call 24; refine (HF.out).mono ?_; rintro e w' ⟨rfl, rfl⟩)
  refine WpF.block ?_
  refine WpF.rangeFunc rfl (enters_of Try.func33 (by kernel_rfl) rfl) ?_
  have hM := line_start HR.out
  have h3 : (((w.alloc (.cells #[.pointer (some ⟨b, 0, none⟩)] 41)).alloc (.cells #[.string ⟨#[]⟩, .string ⟨#[]⟩, .slice none 0 0] 24)).alloc (.cells #[.pointer (some ⟨b, 0, none⟩)] 41)).heap.size = w.heap.size + 1 + 1 + 1 := by simp
  rw [h3]
  have L : Lie w b w.heap.size (w.heap.size + 1) (w.heap.size + 1 + 1) (w.heap.size + 1 + 1 + 1) (w.heap.size + 1 + 1 + 1 + 1) := ⟨HR.out.lt, rfl, rfl, rfl, rfl, rfl⟩
  generalize hl : w.heap.size + 1 + 1 + 1 + 1 = l at *
  generalize hD : w.heap.size + 1 + 1 + 1 = D at *
  generalize hB2 : w.heap.size + 1 + 1 = B2 at *
  generalize hB1 : w.heap.size + 1 = B1 at *
  refine (callsIn_wide.1 (iter_c (by rfl) L hs X rfl (hM _) rfl rfl rfl HX.out rfl)).mono ?_
  intro e W3 hq
  obtain ⟨rec, hq, hst, hpe⟩ : ∃ rec, IterQ w b B1 D l rec X e W3 ∧ rec.state = .ready ∧ rec.pending = none := ⟨_, hq, rfl, rfl⟩
  unfold IterQ at hq
  rcases hq with ⟨p, rfl, hXp, hg, hd⟩ | ⟨y, v, st, rfl, hXs, hE⟩
  · refine ⟨by simp, .inl ⟨_, _, rfl, run_takeDeferred hd, ?_⟩⟩
    exact ⟨gr_put hg (by omega) _, .inl ⟨p, rfl, hXp⟩⟩
  · have hlz : l < W3.heap.size := (Array.getElem?_eq_some_iff.1 hE.lp).1
    have g4 := gr_put hE.gr (D := l) (by omega) (.loop { rec with state := .exhausted })
    have k4 : ∀ k, k ≠ l → (W3.putObj l (.loop { rec with state := .exhausted })).heap[k]? = W3.heap[k]? := fun k hk => World.putObj_heap_other hk
    have o4 := ownsRow_putObj hE.own (.loop { rec with state := .exhausted }) hE.lp rfl
    have hend := (run_endLoop (P := Try.prog) hE.lp (by rw [hst]; simp)).trans (congrArg (fun x => Result.ok x _) hpe)
    have hres := (k4 B1 (by omega)).trans hE.res
    have hdfr := (k4 D (by omega)).trans hE.dfr
    refine ⟨_, hend, ?_⟩
    clear hend
    generalize (W3.putObj l (.loop { rec with state := .exhausted })) = W4 at *
    have r0 : W4.cell? ⟨B1, 0, none⟩ = some (.string (bs y.cmd)) := by rw [Lib.cell_of_heap hres]; rfl
    have r1 : W4.cell? ⟨B1, 1, none⟩ = some (.string (bs y.name)) := by rw [Lib.cell_of_heap hres]; rfl
    have r2 : W4.cell? ⟨B1, 2, none⟩ = some v := by rw [Lib.cell_of_heap hres]; rfl
    have f := Lib.frozen_of_heap hres
    have HO := Lib.hid o4
    have HG := Lib.hid g4
    have HRes := Lib.hid hres
    have HD := Lib.hid hdfr
    clear k4 hE hres hdfr g4 hM HF hpe hst
    refine WpF.of_wp ?_
    rcases o4.2 with ⟨rfl, _⟩ | ⟨g, cap, cur, rfl, _⟩
    · clear o4
      go_wp2
      obtain ⟨q1, q2⟩ := line_end HRes.out HD.out (by omega) (by omega) (by omega) (by omega) HG.out HO.out rfl
      refine ⟨by simp, .inl ⟨_, _, rfl, run_takeDeferred q1, ?_⟩⟩
      obtain ⟨q3, q4, q5⟩ := q2 _ rfl
      generalize World.putObj _ _ _ = W6 at q3 q4 q5 ⊢
      have t0 : W6.cell? ⟨B1, 0, none⟩ = some (.string (bs y.cmd)) := by rw [Lib.cell_of_heap q3]; rfl
      have t1 : W6.cell? ⟨B1, 1, none⟩ = some (.string (bs y.name)) := by rw [Lib.cell_of_heap q3]; rfl
      have t2 : W6.cell? ⟨B1, 2, none⟩ = some (.slice none 0 0) := by rw [Lib.cell_of_heap q3]; rfl
      refine ⟨.agg #[.string (bs y.cmd), .string (bs y.name), .slice none 0 0], by rw [results, show Try.f17.results = #[.cell 2 24] from rfl]; simp [Array.mapM_eq_mapM_toList]; go_simp, q4, .inr ⟨y, _, st, l + 1, rfl, rfl, by omega, q5⟩⟩
    · clear o4
      go_wp2
      obtain ⟨q1, q2⟩ := line_end HRes.out HD.out (by omega) (by omega) (by omega) (by omega) HG.out HO.out rfl
      refine ⟨by simp, .inl ⟨_, _, rfl, run_takeDeferred q1, ?_⟩⟩
      obtain ⟨q3, q4, q5⟩ := q2 _ rfl
      generalize World.putObj _ _ _ = W6 at q3 q4 q5 ⊢
      have t0 : W6.cell? ⟨B1, 0, none⟩ = some (.string (bs y.cmd)) := by rw [Lib.cell_of_heap q3]; rfl
      have t1 : W6.cell? ⟨B1, 1, none⟩ = some (.string (bs y.name)) := by rw [Lib.cell_of_heap q3]; rfl
      have t2 : W6.cell? ⟨B1, 2, none⟩ = some (.slice (some ⟨g, 0, none⟩) y.opts.length cap) := by rw [Lib.cell_of_heap q3]; rfl
      refine ⟨.agg #[.string (bs y.cmd), .string (bs y.name), .slice (some ⟨g, 0, none⟩) y.opts.length cap], by rw [results, show Try.f17.results = #[.cell 2 24] from rfl]; simp [Array.mapM_eq_mapM_toList]; go_simp, q4, .inr ⟨y, _, st, l + 1, rfl, rfl, by omega, q5⟩⟩

end
end Go.Proofs.Ytpilifhdhgdbjaa
