/- The shell's Parse, walked: the deferred closure that recovers. -/
import Derived.Test.YtpilifhdhgdbjaaLineG
import Derived.Defers
import Derived.Recover
namespace Go.Proofs.Ytpilifhdhgdbjaa
open Go.RowKit

theorem assert_flt (W : World) (v : Value) : (Instr.typeAssert (.iface 40 v) 20 40 true).run Try.prog W = .ok (.tuple #[v, .bool true]) W := by kernel_rfl

section
variable {w : World} {b : Nat} {s : ByteArray}

theorem catch_panicking (B p : Nat) (hp : p ≤ 4096) (w : World) (a0 : w.cell? ⟨B, 0, none⟩ = some (.string ⟨#[]⟩)) (a1 : w.cell? ⟨B, 1, none⟩ = some (.string ⟨#[]⟩)) (a2 : w.cell? ⟨B, 2, none⟩ = some (.slice none 0 0))
    (f : ∀ o, w.frozen? ⟨B, o, none⟩ = false) (b0 : w.cell? ⟨B + 1, 0, none⟩ = some (.int .i64 0)) (fb : w.frozen? ⟨B + 1, 0, none⟩ = false) (n0 : w.cell? ⟨B + 1 + 1, 0, none⟩ = some (.int .i64 0)) (fn : w.frozen? ⟨B + 1 + 1, 0, none⟩ = false) :
    CallsD Try.prog 16 #[.pointer (some ⟨B, 0, none⟩), .pointer (some ⟨B + 1, 0, none⟩), .pointer (some ⟨B + 1 + 1, 0, none⟩)] (.panicking (flt p)) w fun e u' w' =>
      e = .returned (.tuple #[]) ∧ settle u' = .returning ∧ w' = ((((w.setCell ⟨B, 0, none⟩ (.string ⟨#[]⟩)).setCell ⟨B, 1, none⟩ (.string ⟨#[]⟩)).setCell ⟨B, 2, none⟩ (.slice none 0 0)).setCell ⟨B + 1, 0, none⟩ (.int .i64 160)).setCell ⟨B + 1 + 1, 0, none⟩ (.int .i64 ((p : Int) + 1)) := by
  refine callsD_of_wpS Try.func16 rfl fun c₀ cs hu => ?_
  apply wpS_seq
  apply wpS_region
  simp only [flt] at hu
  simp [wpOpsS, go_sem, recoverD, hu, Try.ntmps16, Exit.thenS, Array.replicate_succ]
  refine wpS_of_wp ?_
  have Hu := Lib.hid hu; clear hu
  have ha := assert_flt w (.int .i64 p)
  go_wp2
  exact ⟨rfl, _, rfl, .tuple #[], results_none rfl _ _ _, rfl, rfl, rfl⟩

theorem catch_idle (B : Nat) (w : World) :
    CallsD Try.prog 16 #[.pointer (some ⟨B, 0, none⟩), .pointer (some ⟨B + 1, 0, none⟩), .pointer (some ⟨B + 1 + 1, 0, none⟩)] .returning w fun e u' w' =>
      e = .returned (.tuple #[]) ∧ u' = .returning ∧ w' = w := by
  refine callsD_of_wpS Try.func16 rfl fun c₀ cs hu => ?_
  apply wpS_seq
  apply wpS_region
  simp [wpOpsS, go_sem, recoverD, hu, Try.ntmps16, Exit.thenS, Array.replicate_succ]
  refine wpS_of_wp ?_
  have Hu := Lib.hid hu; clear hu
  go_wp2
  exact ⟨rfl, _, by rw [← Hu.out], .tuple #[], results_none rfl _ _ _, rfl, rfl, rfl⟩


/-- What Parse answers. -/
def ParseQ (w0 : World) (X : Except Nat Sp.St) (n : Nat) (e : Ending) (W' : World) : Prop :=
  w0.grownBy W' none ∧
  ((4096 < n ∧ e = .returned (.tuple #[.agg #[.string ⟨#[]⟩, .string ⟨#[]⟩, .slice none 0 0], .int .i64 160, .int .i64 4097])) ∨
   (∃ p, n ≤ 4096 ∧ X = .error p ∧ e = .returned (.tuple #[.agg #[.string ⟨#[]⟩, .string ⟨#[]⟩, .slice none 0 0], .int .i64 160, .int .i64 p])) ∨
   (∃ (y : Sp.St) (v : Value) (st base : Nat), n ≤ 4096 ∧ X = .ok { y with st := st } ∧ e = .returned (.tuple #[.agg #[.string (bs y.cmd), .string (bs y.name), v], .int .i64 0, .int .i64 0]) ∧
      w0.heap.size ≤ base ∧ W'.ownsRow base 33 2 v y.opts.length (optCells y.opts)))

theorem parse_long (hs : 4096 < s.size) (X : Except Nat Sp.St) (w : World) : Calls Try.prog 6 #[.string s] w (ParseQ w X s.size) := by
  have hmf : ∀ (fn : Fn) (first cap : Array Value) (w : World), (Instr.makeFunc fn first cap).run Try.prog w = .ok (.func fn first cap) w := fun _ _ _ _ => rfl
  go_enter Try.func6, Try.ntmps6
  go_wp2
  refine ⟨rfl, .tuple #[.agg #[.string ⟨#[]⟩, .string ⟨#[]⟩, .slice none 0 0], .int .i64 160, .int .i64 4097], ?_, ?_, .inl ⟨hs, rfl⟩⟩
  · rw [results, show Try.f6.results = #[.cell 2 24, .cell 3 27, .cell 4 3] from rfl]
    simp [Array.mapM_eq_mapM_toList]
    go_simp
  · refine ⟨rfl, rfl, rfl, by simp; omega, fun k hk hr => ?_⟩
    rw [Below.heap_alloc _ _ _ (by first | omega | (simp; omega)), Below.heap_alloc _ _ _ (by first | omega | (simp; omega)), Below.heap_alloc _ _ _ (by first | omega | (simp; omega))]

theorem gr_setHi {w W : World} {row : Option Nat} (h : w.grownBy W row) {B : Nat} (hB : w.heap.size ≤ B) (o : Nat) (v : Value) : w.grownBy (W.setCell ⟨B, o, none⟩ v) row :=
  ⟨h.os, h.tape, h.output, by simpa [World.setCell] using h.size, fun k hk hr => by rw [Below.heap_setCell _ _ _ _ (by simp; omega)]; exact h.block k hk hr⟩
theorem gr_mix {w W0 W1 : World} {b : Nat} (h : w.grownBy W0 none) (hb : w.heap.size ≤ b) (g : W0.grownBy W1 (some b)) : w.grownBy W1 none :=
  ⟨g.os.trans h.os, g.tape.trans h.tape, g.output.trans h.output, Nat.le_trans h.size g.size, fun i hi hr => (g.block i (Nat.lt_of_lt_of_le hi h.size) (by simp; omega)).trans (h.block i hi hr)⟩

/-- What lies when the reader sets out. -/
theorem parse_start (w : World) {W0 : World} (h : (((w.alloc (.cells #[.string ⟨#[]⟩, .string ⟨#[]⟩, .slice none 0 0] 24)).alloc (.cells #[.int .i64 0] 27)).alloc (.cells #[.int .i64 0] 3)).alloc (.cells #[.string s, .int .i64 0] 43) = W0) :
    W0.heap[w.heap.size]? = some (.cells #[.string ⟨#[]⟩, .string ⟨#[]⟩, .slice none 0 0] 24 (0, 0)) ∧ W0.heap[w.heap.size + 1]? = some (.cells #[.int .i64 0] 27 (0, 0)) ∧
    W0.heap[w.heap.size + 1 + 1]? = some (.cells #[.int .i64 0] 3 (0, 0)) ∧ Rd W0 (w.heap.size + 1 + 1 + 1) s 0 ∧ w.grownBy W0 none ∧ W0.heap.size = w.heap.size + 1 + 1 + 1 + 1 := by
  subst h
  refine ⟨?_, ?_, ?_, ?_, ⟨rfl, rfl, rfl, by simp; omega, fun k hk hr => ?_⟩, by simp⟩
  · rw [Below.heap_alloc _ _ _ (by first | omega | (simp; done) | (simp; omega)), Below.heap_alloc _ _ _ (by first | omega | (simp; done) | (simp; omega)), Below.heap_alloc _ _ _ (by first | omega | (simp; done) | (simp; omega)), at_new _ _ _ (by first | omega | (simp; done) | (simp; omega))]
  · rw [Below.heap_alloc _ _ _ (by first | omega | (simp; done) | (simp; omega)), Below.heap_alloc _ _ _ (by first | omega | (simp; done) | (simp; omega)), at_new _ _ _ (by first | omega | (simp; done) | (simp; omega))]
  · rw [Below.heap_alloc _ _ _ (by first | omega | (simp; done) | (simp; omega)), at_new _ _ _ (by first | omega | (simp; done) | (simp; omega))]
  · unfold Rd; rw [at_new _ _ _ (by first | omega | (simp; done) | (simp; omega))]; rfl
  · rw [Below.heap_alloc _ _ _ (by first | omega | (simp; done) | (simp; omega)), Below.heap_alloc _ _ _ (by first | omega | (simp; done) | (simp; omega)), Below.heap_alloc _ _ _ (by first | omega | (simp; done) | (simp; omega)), Below.heap_alloc _ _ _ (by first | omega | (simp; done) | (simp; omega))]

theorem parse_short (hs : s.size ≤ 4096) (X : Except Nat Sp.St) (hX : Sp.runP (BL s) Sp.St.start 0 = X) (hp : ∀ p, X = .error (p + 1) → p ≤ 4096) (w : World) : Calls Try.prog 6 #[.string s] w (ParseQ w X s.size) := by
  have hmf : ∀ (fn : Fn) (first cap : Array Value) (w : World), (Instr.makeFunc fn first cap).run Try.prog w = .ok (.func fn first cap) w := fun _ _ _ _ => rfl
  have HX := Lib.hid hX; clear hX
  have HP := Lib.hid hp; clear hp
  go_enter_defers Try.func6, Try.ntmps6
  go_wp2_with fail
  generalize hW : ((((w.alloc _).alloc _).alloc _).alloc _) = W0
  obtain ⟨q0, q1, q2, q3, q4, q5⟩ := parse_start w hW
  refine (line_c q3 hs X HX.out).mono ?_
  rintro e W1 ⟨hg, ⟨p, rfl, hXp⟩ | ⟨y, v, st, base, rfl, hXs, hbase, hown⟩⟩
  all_goals
    have g1 := Lib.hid (gr_mix q4 (by omega) hg)
    have t0 := (hg.block w.heap.size (by omega) (by simp; omega)).trans q0
    have t1 := (hg.block (w.heap.size + 1) (by omega) (by simp)).trans q1
    have t2 := (hg.block (w.heap.size + 1 + 1) (by omega) (by simp)).trans q2
    have c0 : W1.cell? ⟨w.heap.size, 0, none⟩ = some (.string ⟨#[]⟩) := by rw [Lib.cell_of_heap t0]; rfl
    have c1 : W1.cell? ⟨w.heap.size, 1, none⟩ = some (.string ⟨#[]⟩) := by rw [Lib.cell_of_heap t0]; rfl
    have c2 : W1.cell? ⟨w.heap.size, 2, none⟩ = some (.slice none 0 0) := by rw [Lib.cell_of_heap t0]; rfl
    have c3 : W1.cell? ⟨w.heap.size + 1, 0, none⟩ = some (.int .i64 0) := by rw [Lib.cell_of_heap t1]; rfl
    have c4 : W1.cell? ⟨w.heap.size + 1 + 1, 0, none⟩ = some (.int .i64 0) := by rw [Lib.cell_of_heap t2]; rfl
    have f0 := Lib.frozen_of_heap t0
    have f1 := Lib.frozen_of_heap t1
    have f2 := Lib.frozen_of_heap t2
    clear hg q0 q1 q2 q3 q4 t0 t1 t2 hW
  · refine leaves_cons (f := 16) (args := #[.pointer (some ⟨w.heap.size, 0, none⟩), .pointer (some ⟨w.heap.size + 1, 0, none⟩), .pointer (some ⟨w.heap.size + 1 + 1, 0, none⟩)]) (by simp) (by simp [go_sem]) ?_
    refine (catch_panicking w.heap.size p (HP.out p hXp) W1 c0 c1 c2 f0 c3 (f1 0) c4 (f2 0)).mono ?_
    rintro e u' w'' ⟨rfl, hu, rfl⟩
    simp only [hu]
    refine ⟨.tuple #[.agg #[.string ⟨#[]⟩, .string ⟨#[]⟩, .slice none 0 0], .int .i64 160, .int .i64 ((p : Int) + 1)], ?_, ?_, .inr (.inl ⟨p + 1, hs, hXp, by simp⟩)⟩
    · rw [results, show Try.f6.results = #[.cell 2 24, .cell 3 27, .cell 4 3] from rfl]
      simp [Array.mapM_eq_mapM_toList]
      go_simp
    · exact gr_setHi (gr_setHi (gr_setHi (gr_setHi (gr_setHi g1.out (by omega) _ _) (by omega) _ _) (by omega) _ _) (by omega) _ _) (by omega) _ _
  · rcases hown.2 with ⟨rfl, _⟩ | ⟨g, cap, cur, rfl, _⟩
    · have HO := Lib.hid hown
      clear hown
      go_wp2
      refine leaves_cons (f := 16) (args := #[.pointer (some ⟨w.heap.size, 0, none⟩), .pointer (some ⟨w.heap.size + 1, 0, none⟩), .pointer (some ⟨w.heap.size + 1 + 1, 0, none⟩)]) (by simp) (by simp [go_sem]) ?_
      refine (catch_idle w.heap.size _).mono ?_
      rintro e u' w'' ⟨rfl, rfl, rfl⟩
      refine ⟨.tuple #[.agg #[.string (bs y.cmd), .string (bs y.name), .slice none 0 0], .int .i64 0, .int .i64 0], ?_, ?_, .inr (.inr ⟨y, _, st, base, hs, hXs, rfl, by omega, ?_⟩)⟩
      · rw [results, show Try.f6.results = #[.cell 2 24, .cell 3 27, .cell 4 3] from rfl]
        simp [Array.mapM_eq_mapM_toList]
        go_simp
      · exact gr_setHi (gr_setHi (gr_setHi (gr_setHi (gr_setHi g1.out (by omega) _ _) (by omega) _ _) (by omega) _ _) (by omega) _ _) (by omega) _ _
      · exact ownsRow_setCell_below (ownsRow_setCell_below (ownsRow_setCell_below (ownsRow_setCell_below (ownsRow_setCell_below HO.out (by simp; omega) _) (by simp; omega) _) (by simp; omega) _) (by simp; omega) _) (by simp; omega) _
    · have HO := Lib.hid hown
      clear hown
      go_wp2
      refine leaves_cons (f := 16) (args := #[.pointer (some ⟨w.heap.size, 0, none⟩), .pointer (some ⟨w.heap.size + 1, 0, none⟩), .pointer (some ⟨w.heap.size + 1 + 1, 0, none⟩)]) (by simp) (by simp [go_sem]) ?_
      refine (catch_idle w.heap.size _).mono ?_
      rintro e u' w'' ⟨rfl, rfl, rfl⟩
      refine ⟨.tuple #[.agg #[.string (bs y.cmd), .string (bs y.name), .slice (some ⟨g, 0, none⟩) y.opts.length cap], .int .i64 0, .int .i64 0], ?_, ?_, .inr (.inr ⟨y, _, st, base, hs, hXs, rfl, by omega, ?_⟩)⟩
      · rw [results, show Try.f6.results = #[.cell 2 24, .cell 3 27, .cell 4 3] from rfl]
        simp [Array.mapM_eq_mapM_toList]
        go_simp
      · exact gr_setHi (gr_setHi (gr_setHi (gr_setHi (gr_setHi g1.out (by omega) _ _) (by omega) _ _) (by omega) _ _) (by omega) _ _) (by omega) _ _
      · exact ownsRow_setCell_below (ownsRow_setCell_below (ownsRow_setCell_below (ownsRow_setCell_below (ownsRow_setCell_below HO.out (by simp; omega) _) (by simp; omega) _) (by simp; omega) _) (by simp; omega) _) (by simp; omega) _

end
end Go.Proofs.Ytpilifhdhgdbjaa
