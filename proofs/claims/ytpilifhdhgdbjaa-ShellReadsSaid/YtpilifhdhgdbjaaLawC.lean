/- The law ShellReads, walked. -/
import Derived.Test.YtpilifhdhgdbjaaLawB
namespace Go.Proofs.Ytpilifhdhgdbjaa
open Go.RowKit

theorem lw_start {w W1 W2 W3 W4 : World} {c n : Sp.Bs} {o : List (Sp.Bs × Sp.Bs)} {v1 v2 v3 : Value} {b1 b2 b3 : Nat}
    (hg1 : w.grownBy W1 none) (hb1 : w.heap.size ≤ b1) (r1 : W1.ownsRow b1 33 2 v1 o.length (optCells o))
    (hg2 : (W1.alloc (.cells #[.string (bs c), .string (bs n), v1] 24)).grownBy W2 none) (hb2 : (W1.alloc (.cells #[.string (bs c), .string (bs n), v1] 24)).heap.size ≤ b2) (r2 : W2.ownsRow b2 33 2 v2 o.length (optCells o))
    (hg3 : (W2.alloc (.cells #[.string (bs c), .string (bs n), v2] 24)).grownBy W3 none) (hb3 : (W2.alloc (.cells #[.string (bs c), .string (bs n), v2] 24)).heap.size ≤ b3) (r3 : W3.ownsRow b3 33 2 v3 o.length (optCells o))
    (hg4 : (W3.alloc (.cells #[.string (bs c), .string (bs n), v3] 24)).grownBy W4 none) :
    LW w c n o W1.heap.size W2.heap.size W3.heap.size v1 v2 v3 o.length (optCells o) W4 := by
  simp only [World.size_alloc] at hb2 hb3
  have s1 := hg1.size
  have s2 := hg2.size
  have s3 := hg3.size
  have s4 := hg4.size
  simp only [World.size_alloc] at s2 s3 s4
  have lift : ∀ {V V' : World} {ob : Obj} {v : Value} {k b : Nat} {xs : List Value}, V.ownsRow b 33 2 v k xs → (V.alloc ob).grownBy V' none → V'.ownsRow b 33 2 v k xs := fun {V V' ob v k b xs} hr hg => (hr.alloc ob).kept hg (by cases v.ownBlock <;> simp)
  have q1 := lift (lift (lift r1 hg2) hg3) hg4
  have q2 := lift (lift r2 hg3) hg4
  have q3 := lift r3 hg4
  have keep : ∀ {V V' : World} {ob : Obj} (k : Nat) (x : Obj), k ≤ V.heap.size → (V.alloc ob).grownBy V' none → (V.alloc ob).heap[k]? = some x → V'.heap[k]? = some x := fun {V V' ob} k x hk hg hx => by
    rw [hg.block k (by simp; omega) (by simp)]; exact hx
  have a1 := keep (V' := W2) W1.heap.size _ (Nat.le_refl _) hg2 (at_new _ _ _ (by simp))
  have a2 := keep (V' := W3) W2.heap.size _ (Nat.le_refl _) hg3 (at_new _ _ _ (by simp))
  have a3 := keep (V' := W4) W3.heap.size _ (Nat.le_refl _) hg4 (at_new _ _ _ (by simp))
  have a1' := keep (V' := W3) (V := W2) (ob := .cells #[.string (bs c), .string (bs n), v2] 24) W1.heap.size _ (by omega) hg3 (by rw [Below.heap_alloc _ _ _ (by omega)]; exact a1)
  have a1'' := keep (V' := W4) (V := W3) (ob := .cells #[.string (bs c), .string (bs n), v3] 24) W1.heap.size _ (by omega) hg4 (by rw [Below.heap_alloc _ _ _ (by omega)]; exact a1')
  have a2' := keep (V' := W4) (V := W3) (ob := .cells #[.string (bs c), .string (bs n), v3] 24) W2.heap.size _ (by omega) hg4 (by rw [Below.heap_alloc _ _ _ (by omega)]; exact a2)
  refine ⟨gr_trans hg1 (gr_trans (gr_trans (World.grownBy_alloc _ _ _) hg2) (gr_trans (gr_trans (World.grownBy_alloc _ _ _) hg3) (gr_trans (World.grownBy_alloc _ _ _) hg4))), a1'', a2', a3,
    q1.mono hb1, q2.mono (by omega), q3.mono (by omega), fun k hk => ?_, ⟨fun e => ?_, fun e => ?_⟩, by omega, by omega, by omega, by omega, by omega⟩
  · have t := r2.lt k hk
    refine ⟨fun e => ?_, fun e => ?_, by omega, by omega, by omega⟩
    · have := r1.lt k e; omega
    · have := r3.lt k e; omega
  · have := r1.lt _ e; omega
  · have := r3.lt _ e; omega

set_option maxHeartbeats 4000000 in
theorem reads_c (s other : ByteArray) (w : World) : Calls Try.prog 3 #[.string s, .string other] w fun e W' => e = .returned (.bool true) ∧ w.grownBy W' none := by
  obtain ⟨c, n, o, E, P, ha⟩ : ∃ c n o E P, Sp.ansOf (Sp.runP (BL s) Sp.St.start 0) s.size = (c, n, o, E, P) := ⟨_, _, _, _, _, rfl⟩
  obtain ⟨c', n', o', E', P', ha'⟩ : ∃ c n o E P, Sp.ansOf (Sp.runP (BL other) Sp.St.start 0) other.size = (c, n, o, E, P) := ⟨_, _, _, _, _, rfl⟩
  have ho := few_of ha
  have H1 := Lib.hid (fun w => rparse_any ha w)
  have H2 := Lib.hid (fun w => parse_any ha w)
  have H3 := Lib.hid (fun w => parse_any ha' w)
  clear ha ha'
  go_enter Try.func3, Try.ntmps3
  go_wp2_with fail
  refine (H1.out _).mono ?_
  rintro e W1 ⟨d1, cap1, b1, hg1, hb1, rfl, r1⟩
  have G1 := Lib.hid hg1
  have R1 := Lib.hid r1
  have B1 := Lib.hid hb1
  clear hg1 hb1 r1
  go_wp2_with fail
  refine (H2.out _).mono ?_
  rintro e W2 ⟨d2, cap2, b2, hg2, hb2, rfl, r2⟩
  have G2 := Lib.hid hg2
  have R2 := Lib.hid r2
  have B2 := Lib.hid hb2
  clear hg2 hb2 r2
  go_wp2_with fail
  refine (H2.out _).mono ?_
  rintro e W3 ⟨d3, cap3, b3, hg3, hb3, rfl, r3⟩
  have G3 := Lib.hid hg3
  have R3 := Lib.hid r3
  have B3 := Lib.hid hb3
  clear hg3 hb3 r3
  go_wp2_with fail
  refine (H3.out _).mono ?_
  rintro e W4 ⟨d4, cap4, b4, hg4, hb4, rfl, r4⟩
  have L := lw_start G1.out B1.out R1.out G2.out B2.out R2.out G3.out B3.out R3.out hg4
  clear hg4 hb4 r4 G1 R1 B1 G2 R2 B2 G3 R3 B3 H1 H2 H3
  have p0 := L.p0
  have p1 := L.p1
  have p2 := L.p2
  have q0 := L.q0
  have q1 := L.q1
  have q2 := L.q2
  have s0 := L.s0
  have s1 := L.s1
  have s2 := L.s2
  have HL := Lib.hid L
  clear L
  go_wp2_with fail
  refine (same_true (c := c) (n := n) (o := o) ho HL.out.ra HL.out.rw).mono ?_
  rintro e W5 ⟨rfl, hg5⟩
  have L5 := HL.out.grow hg5
  clear hg5 HL p0 p1 p2 q0 q1 q2 s0 s1 s2
  have p0 := L5.p0
  have p1 := L5.p1
  have p2 := L5.p2
  have q0 := L5.q0
  have q1 := L5.q1
  have q2 := L5.q2
  have s0 := L5.s0
  have s1 := L5.s1
  have s2 := L5.s2
  have HL := Lib.hid L5
  clear L5
  go_wp2_with fail
  refine (same_true (c := c) (n := n) (o := o) ho HL.out.rb HL.out.rw).mono ?_
  rintro e W6 ⟨rfl, hg6⟩
  have L6 := HL.out.grow hg6
  clear hg6 HL p0 p1 p2 q0 q1 q2 s0 s1 s2
  have p0 := L6.p0
  have p1 := L6.p1
  have p2 := L6.p2
  have q0 := L6.q0
  have q1 := L6.q1
  have q2 := L6.q2
  have s0 := L6.s0
  have s1 := L6.s1
  have s2 := L6.s2
  have HL := Lib.hid L6
  clear L6
  go_wp2_with (go_at_call 8; refine (num_c _ _).mono ?_; rintro e w' ⟨rfl, rfl⟩)
  clear p0 p1 p2 q0 q1 q2 s0 s1 s2
  go_loopw [14] (fun i wr => ∃ k : Nat, k ≤ o.length ∧ i = .int .i64 k ∧ ∃ xa, LW w c n o W1.heap.size W2.heap.size W3.heap.size (.slice d1 o.length cap1) (.slice d2 o.length cap2) (.slice d3 o.length cap3) o.length xa wr) (fun i _ => o.length - (intOf i).toNat)
  case atStart => exact ⟨0, Nat.zero_le _, rfl, _, HL.out⟩
  case round =>
    obtain ⟨k, hk, rfl, xa, L⟩ := hrel
    clear HL
    have q2 := L.q2
    by_cases hlt : k < o.length
    · obtain ⟨g, cap', e, _, _⟩ := L.ra.form (by omega)
      simp only [Value.slice.injEq, true_and] at e
      obtain ⟨rfl, rfl⟩ := e
      have hxl := L.ra.1
      have c1 : wr.cell? ⟨g, k * 2, none⟩ = some (xa[k * 2]'(by omega)) := by rw [L.ra.cellAt (k * 2) (by omega)]; simp
      have c2 : wr.cell? ⟨g, k * 2 + 1, none⟩ = some (xa[k * 2 + 1]'(by omega)) := by rw [L.ra.cellAt (k * 2 + 1) (by omega)]; simp
      generalize xa[k * 2]'(by omega) = u1 at c1
      generalize xa[k * 2 + 1]'(by omega) = u2 at c2
      have f := L.ra.frozenAt
      have HL := Lib.hid L
      have hlt' : (k : Int) < (o.length : Int) := by omega
      clear L hxl
      go_wp2
      go_roundw
      case rel =>
        have r1 := HL.out.ra.stored (k * 2) (.string ⟨#[115, 112, 111, 105, 108, 116]⟩)
        have L1 := HL.out.spoil r1.2 r1.1
        have r2 := L1.ra.stored (k * 2 + 1) (.string ⟨#[]⟩)
        exact ⟨k + 1, by omega, by go_num, _, L1.spoil r2.2 r2.1⟩
      case measure => simp [intOf]; omega
    · have hlt' : ¬ (k : Int) < (o.length : Int) := by omega
      have HL := Lib.hid L
      clear L
      go_wp2
      clear q2
      go_loopw [15] (fun i wr => ∃ k : Nat, k ≤ 30 ∧ i = .int .i64 k ∧ ∃ ad cap xa, LW w c n o W1.heap.size W2.heap.size W3.heap.size (.slice d1 o.length cap1) (.slice ad (o.length + k) cap) (.slice d3 o.length cap3) (o.length + k) xa wr) (fun i _ => 30 - (intOf i).toNat)
      case atStart => exact ⟨0, Nat.zero_le _, rfl, _, _, _, HL.out⟩
      case round =>
        obtain ⟨q, hq, rfl, ad, cap, xb, L⟩ := hrel
        clear HL
        have q2 := L.q2
        by_cases hlt2 : q < 30
        · have HL := Lib.hid L
          have hlt2' : (q : Int) < 30 := by omega
          clear L
          go_wp2_with (at_builtin; obtain ⟨i0, hi, hz0, hz1, hz2⟩ := info_parts info33; refine wpList_append_lies _ rfl _ _ 22 rfl w.heap.size 33 i0 (.agg #[.string ⟨#[]⟩, .string ⟨#[]⟩]) 2 32 Try.underlying22 hi hz0 hz1 hz2 rfl (by decide) (.slice ad (o.length + q) cap) (o.length + q) xb rfl (HL.out.ra.alloc _) ⟨wr.heap.size, 0, none⟩ 1 1 [.string ⟨#[109, 111, 114, 101]⟩, .string ⟨#[]⟩] rfl rfl (app_cells _ _ _ _) (app_one _ _) (by decide) (by unfold maxLen; omega) (by omega) (by have := HL.out.gr.size; simp; omega) (wr.heap.size + 1) (by simp) ?_; intro g5 cap5 W7 ho5 hg5 hat5 _; have hr5 := HL.out.box8 hg5 ho5; have q8 : W7.cell? ⟨W2.heap.size, 2, none⟩ = some (.slice ad (o.length + q) cap) := (Lib.cell_of_heap hr5 2).trans rfl; have f8 := Lib.frozen_of_heap hr5; clear hi hz0 hz1 hz2 hr5; have HO5 := Lib.hid ho5; have HG5 := Lib.hid hg5; have HA5 := Lib.hid hat5; clear ho5 hg5 hat5)
          go_roundw
          case rel => exact ⟨q + 1, by omega, by go_num, _, _, _, HL.out.append HG5.out HO5.out HA5.out⟩
          case measure => simp [intOf]; omega
        · have hlt2' : ¬ (q : Int) < 30 := by omega
          have h30 : (30 : Int) ≤ (o.length : Int) + (q : Int) := by omega
          have h31 : decide ((30 : Int) ≤ (o.length : Int) + (q : Int)) = true := by simp; omega
          have p0 := L.p0
          have p1 := L.p1
          have p2 := L.p2
          have s0 := L.s0
          have s1 := L.s1
          have s2 := L.s2
          have HL := Lib.hid L
          clear L
          go_wp2_with fail
          refine (same_true (c := c) (n := n) (o := o) ho HL.out.rb HL.out.rw).mono ?_
          rintro e W8 ⟨rfl, hg8⟩
          have L8 := HL.out.grow hg8
          clear hg8 HL p0 p1 p2 s0 s1 s2 q2
          have q2 := L8.q2
          have HL := Lib.hid L8
          clear L8
          go_wp2
          go_ret
          exact ⟨rfl, HL.out.gr⟩

end Go.Proofs.Ytpilifhdhgdbjaa
