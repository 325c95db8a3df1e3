/- The words of the walks over the shell's reader: where it lies in memory, what a walk leaves alone, and the contracts of the small predicates on bytes. -/
import Derived.Test.YtpilifhdhgdbjaaProg
import Derived.WalkKit
import Derived.WalkLawsBesides
import Derived.Deep.QuietTactic
import Derived.BigQuiet
import Derived.Lib.Hide
import Derived.Test.YtpilifhdhgdbjaaSpec
namespace Go.Proofs.Ytpilifhdhgdbjaa
open Go.RowKit

/-- The reader lies whole in block b. -/
def Rd (w : World) (b : Nat) (s : ByteArray) (i : Nat) : Prop := w.heap[b]? = some (.cells #[.string s, .int .i64 i] 43 (0, 0))

section
variable {w w' : World} {b : Nat} {s : ByteArray} {i : Nat}

theorem Rd.c0 (h : Rd w b s i) : w.cell? ⟨b, 0, none⟩ = some (.string s) := by
  unfold Rd at h; simp [World.cell?, h]
theorem Rd.c1 (h : Rd w b s i) : w.cell? ⟨b, 1, none⟩ = some (.int .i64 i) := by
  unfold Rd at h; simp [World.cell?, h]
theorem Rd.f1 (h : Rd w b s i) : w.frozen? ⟨b, 1, none⟩ = false := by
  unfold Rd at h; simp [World.frozen?, h]
theorem Rd.lt (h : Rd w b s i) : b < w.heap.size := (Array.getElem?_eq_some_iff.1 h).1
theorem Rd.set (h : Rd w b s i) (j : Nat) : Rd (w.setCell ⟨b, 1, none⟩ (.int .i64 j)) b s j := by
  unfold Rd at *
  simp [World.setCell, Array.getElem?_modify, h]
theorem Rd.set1 (h : Rd w b s i) : Rd (w.setCell ⟨b, 1, none⟩ (.int .i64 ((i : Int) + 1))) b s (i + 1) := h.set (i + 1)
theorem Rd.drewN (h : Rd w b s i) (n : Nat) : Rd (w.drewN n) b s i := h
theorem Rd.drew (h : Rd w b s i) : Rd w.drew b s i := h
theorem Rd.grown {row : Option Nat} (h : Rd w b s i) (hg : w.grownBy w' row) (hne : some b ≠ row) : Rd w' b s i := by
  unfold Rd at *
  rw [hg.block b (Array.getElem?_eq_some_iff.1 h).1 hne]; exact h

theorem gr_refl (w : World) (row : Option Nat) : w.grownBy w row := ⟨rfl, rfl, rfl, Nat.le_refl _, fun _ _ _ => rfl⟩
theorem gr_trans {w1 w2 w3 : World} {row : Option Nat} (h : w1.grownBy w2 row) (k : w2.grownBy w3 row) : w1.grownBy w3 row :=
  ⟨k.os.trans h.os, k.tape.trans h.tape, k.output.trans h.output, Nat.le_trans h.size k.size, fun i hi hr => (k.block i (Nat.lt_of_lt_of_le hi h.size) hr).trans (h.block i hi hr)⟩
theorem gr_drewN {w1 w2 : World} {row : Option Nat} (h : w1.grownBy w2 row) (n : Nat) : w1.grownBy (w2.drewN n) row := ⟨h.os, h.tape, h.output, h.size, h.block⟩
theorem gr_drew {w1 w2 : World} {row : Option Nat} (h : w1.grownBy w2 row) : w1.grownBy w2.drew row := ⟨h.os, h.tape, h.output, h.size, h.block⟩
theorem gr_set {w1 w2 : World} {b : Nat} (h : w1.grownBy w2 (some b)) (o : Nat) (v : Value) : w1.grownBy (w2.setCell ⟨b, o, none⟩ v) (some b) :=
  gr_trans h ⟨rfl, rfl, rfl, by simp [World.setCell], fun k _ hr => Below.heap_setCell _ _ _ _ (fun e => hr (by rw [e]))⟩
end

/-- The fault at a place, as a panic's value. -/
def flt (p : Nat) : List PanicEntry := [{ v := .iface 40 (.int .i64 p), recovered := false }]

/-! ### The predicates on bytes -/
theorem u8_lt (u : UInt8) : (u.toNat : Int) < 256 := by have := u.toNat_lt; omega

theorem isBl_i (u : UInt8) : Sp.isBl u = ((u.toNat : Int) == 32 || (u.toNat : Int) == 9) := by
  unfold Sp.isBl; rw [Bool.eq_iff_iff]; simp [← UInt8.toNat_inj]; omega
theorem isLe_i (u : UInt8) : Sp.isLe u = (decide (97 ≤ (u.toNat : Int)) && decide ((u.toNat : Int) ≤ 122)) := by
  unfold Sp.isLe; rw [Bool.eq_iff_iff]; simp [UInt8.le_iff_toNat_le]; omega
theorem isDi_i (u : UInt8) : Sp.isDi u = (decide (48 ≤ (u.toNat : Int)) && decide ((u.toNat : Int) ≤ 57)) := by
  unfold Sp.isDi; rw [Bool.eq_iff_iff]; simp [UInt8.le_iff_toNat_le]; omega
theorem isPl_i (u : UInt8) : Sp.isPl u = (decide (32 < (u.toNat : Int)) && decide ((u.toNat : Int) ≤ 126)) := by
  unfold Sp.isPl; rw [Bool.eq_iff_iff]; simp [UInt8.le_iff_toNat_le, UInt8.lt_iff_toNat_lt]; omega
theorem isFi_i (u : UInt8) : Sp.isFi u = ((u.toNat : Int) == 9 || (decide (32 ≤ (u.toNat : Int)) && decide ((u.toNat : Int) ≤ 126))) := by
  unfold Sp.isFi; rw [Bool.eq_iff_iff]; simp [UInt8.le_iff_toNat_le, ← UInt8.toNat_inj]; omega

theorem ret_bool {a b : Bool} (h : a = b) : Ending.returned (.bool a) = .returned (.bool b) := by rw [h]
theorem ret_int {k : IntKind} {a b : Int} (h : a = b) : Ending.returned (.int k a) = .returned (.int k b) := by rw [h]

theorem isBlank_c (u : UInt8) (w : World) : Calls Try.prog 37 #[.int .u8 u.toNat] w fun e w' => e = .returned (.bool (Sp.isBl u)) ∧ w = w' := by
  have hb := isBl_i u
  generalize (u.toNat : Int) = c at *
  generalize Sp.isBl u = r at *
  have H := Lib.hid hb; clear hb
  cases h1 : (c == 32) <;> (go_enter Try.func37, Try.ntmps37; go_wp2; go_ret; exact ⟨ret_bool (by rw [H.out, h1]; simp), rfl⟩)

theorem isLetter_c (u : UInt8) (w : World) : Calls Try.prog 35 #[.int .u8 u.toNat] w fun e w' => e = .returned (.bool (Sp.isLe u)) ∧ w = w' := by
  have hb := isLe_i u
  generalize (u.toNat : Int) = c at *
  generalize Sp.isLe u = r at *
  have H := Lib.hid hb; clear hb
  cases h1 : decide (97 ≤ c) <;> (go_enter Try.func35, Try.ntmps35; go_wp2; go_ret; exact ⟨ret_bool (by rw [H.out, h1]; simp), rfl⟩)

theorem isDigit_c (u : UInt8) (w : World) : Calls Try.prog 40 #[.int .u8 u.toNat] w fun e w' => e = .returned (.bool (Sp.isDi u)) ∧ w = w' := by
  have hb := isDi_i u
  generalize (u.toNat : Int) = c at *
  generalize Sp.isDi u = r at *
  have H := Lib.hid hb; clear hb
  cases h1 : decide (48 ≤ c) <;> (go_enter Try.func40, Try.ntmps40; go_wp2; go_ret; exact ⟨ret_bool (by rw [H.out, h1]; simp), rfl⟩)

theorem isPlain_c (u : UInt8) (w : World) : Calls Try.prog 19 #[.int .u8 u.toNat] w fun e w' => e = .returned (.bool (Sp.isPl u)) ∧ w = w' := by
  have hb := isPl_i u
  generalize (u.toNat : Int) = c at *
  generalize Sp.isPl u = r at *
  have H := Lib.hid hb; clear hb
  cases h1 : decide (32 < c) <;> (go_enter Try.func19, Try.ntmps19; go_wp2; go_ret; exact ⟨ret_bool (by rw [H.out, h1]; simp), rfl⟩)

theorem isNamed_c (u : UInt8) (w : World) : Calls Try.prog 36 #[.int .u8 u.toNat] w fun e w' => e = .returned (.bool (Sp.isNa u)) ∧ w = w' := by
  have hb : Sp.isNa u = (Sp.isLe u || Sp.isDi u || ((u.toNat : Int) == 95)) := by
    unfold Sp.isNa; congr 1; rw [Bool.eq_iff_iff]; simp [← UInt8.toNat_inj]; omega
  generalize Sp.isNa u = r at *
  have H := Lib.hid hb; clear hb
  have h1 := fun w => isLetter_c u w
  have h2 := fun w => isDigit_c u w
  cases e1 : Sp.isLe u <;> cases e2 : Sp.isDi u
  all_goals
    rw [e1] at h1
    rw [e2] at h2
    have H1 := Lib.hid h1
    have H2 := Lib.hid h2
    have E1 := Lib.hid e1
    have E2 := Lib.hid e2
    clear h1 h2 e1 e2
    go_enter Try.func36, Try.ntmps36
    go_wp2_with (first | (go_at_call 35; refine (H1.out _).mono ?_; rintro e w' ⟨rfl, rfl⟩) | (go_at_call 40; refine (H2.out _).mono ?_; rintro e w' ⟨rfl, rfl⟩))
    go_ret
    exact ⟨ret_bool (by rw [H.out, E1.out, E2.out]; simp), rfl⟩

end Go.Proofs.Ytpilifhdhgdbjaa
