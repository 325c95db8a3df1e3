/- What the shell's reader answers of any line, as data; small lemmas on bytes. -/
import Derived.Test.YtpilifhdhgdbjaaParseA
import Derived.Test.YtpilifhdhgdbjaaLawP
namespace Go.Proofs.Ytpilifhdhgdbjaa
open Go.RowKit

theorem bs_size (l : Sp.Bs) : (bs l).size = l.length := by simp [bs, ByteArray.size]
theorem keq {u : UInt8} {n : Nat} (hn : n < 256) (h : u = UInt8.ofNat n) : ((u.toNat : Int) == (n : Int)) = true := by
  subst h; simp; omega
theorem kne {u : UInt8} {n : Nat} (hn : n < 256) (h : u ≠ UInt8.ofNat n) : ((u.toNat : Int) == (n : Int)) = false := by
  simp [← UInt8.toNat_inj] at h ⊢; omega
theorem keq' {u : UInt8} {n : Nat} (hn : n < 256) (h : u = UInt8.ofNat n) : ((u.toNat : Int) != (n : Int)) = false := by
  simp [bne, keq hn h]
theorem kne' {u : UInt8} {n : Nat} (hn : n < 256) (h : u ≠ UInt8.ofNat n) : ((u.toNat : Int) != (n : Int)) = true := by
  simp [bne, kne hn h]

theorem num_c (n : Int) (w : World) : Calls Try.prog 8 #[.int .i64 n] w fun e w' => e = .returned (.int .i64 n) ∧ w = w' := by
  go_enter Try.func8, Try.ntmps8
  go_wp2
  go_ret
  exact ⟨rfl, rfl⟩

/-- What a reader answers, and where the options lie. -/
def AnsQ (w0 : World) (c n : Sp.Bs) (o : List (Sp.Bs × Sp.Bs)) (E P : Int) (e : Ending) (W' : World) : Prop :=
  ∃ (ad : Option Addr) (cap base : Nat), w0.grownBy W' none ∧ w0.heap.size ≤ base ∧ e = .returned (.tuple #[.agg #[.string (bs c), .string (bs n), .slice ad o.length cap], .int .i64 E, .int .i64 P]) ∧
    W'.ownsRow base 33 2 (.slice ad o.length cap) o.length (optCells o)

theorem ans_of {w0 W' : World} {s : ByteArray} {e : Ending} (h : ParseQ w0 (Sp.runP (BL s) Sp.St.start 0) s.size e W') {c n : Sp.Bs} {o : List (Sp.Bs × Sp.Bs)} {E P : Int}
    (ha : Sp.ansOf (Sp.runP (BL s) Sp.St.start 0) s.size = (c, n, o, E, P)) : AnsQ w0 c n o E P e W' := by
  unfold Sp.ansOf at ha
  obtain ⟨hg, h | ⟨p, hs, hX, rfl⟩ | ⟨y, v, st, base, hs, hX, rfl, hb, ho⟩⟩ := h
  · rw [if_pos h.1] at ha
    simp only [Prod.mk.injEq] at ha
    obtain ⟨rfl, rfl, rfl, rfl, rfl⟩ := ha
    exact ⟨none, 0, w0.heap.size, hg, Nat.le_refl _, h.2, World.ownsRow_nil _ _ _ _⟩
  · rw [if_neg (by omega), hX] at ha
    simp only [Prod.mk.injEq] at ha
    obtain ⟨rfl, rfl, rfl, rfl, rfl⟩ := ha
    exact ⟨none, 0, w0.heap.size, hg, Nat.le_refl _, rfl, World.ownsRow_nil _ _ _ _⟩
  · rw [if_neg (by omega), hX] at ha
    simp only [Prod.mk.injEq] at ha
    obtain ⟨rfl, rfl, rfl, rfl, rfl⟩ := ha
    rcases ho.2 with ⟨rfl, h0⟩ | ⟨g, cap, cur, rfl, _⟩
    · refine ⟨none, 0, base, hg, hb, by rw [h0], ?_⟩
      simpa [h0] using ho
    · exact ⟨_, cap, base, hg, hb, rfl, ho⟩

theorem few_of {s : ByteArray} {c n : Sp.Bs} {o : List (Sp.Bs × Sp.Bs)} {E P : Int} (ha : Sp.ansOf (Sp.runP (BL s) Sp.St.start 0) s.size = (c, n, o, E, P)) : o.length ≤ 4097 := by
  unfold Sp.ansOf at ha
  by_cases h : 4096 < s.size
  · rw [if_pos h] at ha
    simp only [Prod.mk.injEq] at ha
    obtain ⟨_, _, rfl, _, _⟩ := ha
    simp
  · rw [if_neg h] at ha
    cases hX : Sp.runP (BL s) Sp.St.start 0 with
    | error p =>
      rw [hX] at ha
      simp only [Prod.mk.injEq] at ha
      obtain ⟨_, _, rfl, _, _⟩ := ha
      simp
    | ok y =>
      rw [hX] at ha
      simp only [Prod.mk.injEq] at ha
      obtain ⟨_, _, rfl, _, _⟩ := ha
      have := Sp.runP_few hX
      rw [bl_len] at this
      omega

theorem parse_q (s : ByteArray) (w : World) : Calls Try.prog 6 #[.string s] w (ParseQ w (Sp.runP (BL s) Sp.St.start 0) s.size) := by
  by_cases h : 4096 < s.size
  · exact parse_long h _ w
  · refine parse_short (by omega) _ rfl (fun p hp => ?_) w
    have := Sp.runP_err hp
    rw [bl_len] at this
    omega
theorem parse_any {s : ByteArray} {c n : Sp.Bs} {o : List (Sp.Bs × Sp.Bs)} {E P : Int} (ha : Sp.ansOf (Sp.runP (BL s) Sp.St.start 0) s.size = (c, n, o, E, P)) (w : World) : Calls Try.prog 6 #[.string s] w (AnsQ w c n o E P) :=
  (parse_q s w).mono fun _ _ h => ans_of h ha
theorem below_of_gr {W W' : World} (h : W.grownBy W' none) : Below W.heap.size W W' := ⟨h.os, h.tape, h.output, h.size, fun k hk => h.block k hk (by simp)⟩

end Go.Proofs.Ytpilifhdhgdbjaa
