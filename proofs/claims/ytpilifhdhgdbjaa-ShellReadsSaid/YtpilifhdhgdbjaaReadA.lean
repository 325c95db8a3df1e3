/- The shell's reader, walked: look, over, fail, next. -/
import Derived.Test.YtpilifhdhgdbjaaBase
import Derived.Test.YtpilifhdhgdbjaaRuns
namespace Go.Proofs.Ytpilifhdhgdbjaa
open Go.RowKit

/-- A string's bytes. -/
abbrev BL (s : ByteArray) : Sp.Bs := s.data.toList

theorem bl_len (s : ByteArray) : (BL s).length = s.size := by simp [BL]
theorem ch_get (s : ByteArray) (i : Nat) (h : i < s.size) : s[i] = Sp.ch (BL s) i := by
  have hl : i < (BL s).length := by rw [bl_len]; exact h
  unfold Sp.ch
  rw [List.getD_eq_getElem?_getD, List.getElem?_eq_getElem hl]
  rfl

/-- How far the reader is, out of its cell. -/
def atOf (w : World) (b : Nat) : Nat := match w.cell? ⟨b, 1, none⟩ with | some (.int _ n) => n.toNat | _ => 0
theorem atOf_of {w : World} {b i : Nat} {s : ByteArray} (h : Rd w b s i) : atOf w b = i := by unfold atOf; rw [h.c1]; simp

theorem meas {w w' : World} {b j : Nat} {s : ByteArray} (h : Rd w b s j) (h' : Rd w' b s (j + 1)) (hlt : j < s.size) : s.size - atOf w' b < s.size - atOf w b := by
  rw [atOf_of h, atOf_of h']; omega

section
variable {w : World} {b i : Nat} {s : ByteArray}

theorem look_c (hR : Rd w b s i) (hi : i ≤ s.size) :
    Calls Try.prog 28 #[.pointer (some ⟨b, 0, none⟩)] w fun e w' => e = .returned (.int .u8 (Sp.ch (BL s) i).toNat) ∧ ∃ n, w.drewN n = w' := by
  have h0 := hR.c0
  have h1 := hR.c1
  by_cases hlt : i < s.size
  · have hg := ch_get s i hlt
    rw [← hg]; clear hg
    go_enter Try.func28, Try.ntmps28
    go_wp2
    go_quiet (fail)
    go_wp2
    go_quiet (fail)
    go_wp2
    go_ret
    exact ⟨rfl, _, (World.drewN_drewN _ _ _).symm⟩
  · have hz : Sp.ch (BL s) i = 0 := Sp.ch_end (by rw [bl_len]; omega)
    rw [hz]; clear hz
    go_enter Try.func28, Try.ntmps28
    go_wp2
    go_quiet (fail)
    go_wp2
    go_ret
    exact ⟨rfl, _, rfl⟩

theorem over_c (hR : Rd w b s i) (hi : i ≤ s.size) :
    Calls Try.prog 27 #[.pointer (some ⟨b, 0, none⟩)] w fun e w' => e = .returned (.bool (Sp.ov (BL s) i)) ∧ ∃ n, w.drewN n = w' := by
  have h0 := hR.c0
  have h1 := hR.c1
  by_cases hlt : i < s.size
  · have ho : Sp.ov (BL s) i = Sp.isBl s[i] := by
      rw [ch_get s i hlt]; unfold Sp.ov; rw [bl_len]
      have : (i == s.size) = false := by simp; omega
      simp [this]
    rw [ho]; clear ho
    have hne : ((i : Int) == (s.size : Int)) = false := by simp; omega
    have hb := fun w => isBlank_c s[i] w
    have HB := Lib.hid hb; clear hb
    go_enter Try.func27, Try.ntmps27
    go_wp2
    go_quiet ((go_at_call 37; exact Calls.quiet_of_same ((HB.out _).mono fun _ _ h => ⟨h.1, h.2.symm⟩)))
    go_wp2
    go_ret
    exact ⟨rfl, _, rfl⟩
  · have ho : Sp.ov (BL s) i = true := by
      unfold Sp.ov; rw [bl_len]
      have : (i == s.size) = true := by simp; omega
      simp [this]
    rw [ho]; clear ho
    have hne : ((i : Int) == (s.size : Int)) = true := by simp; omega
    go_enter Try.func27, Try.ntmps27
    go_wp2
    go_quiet (fail)
    go_wp2
    go_ret
    exact ⟨rfl, _, rfl⟩

theorem fail_c (hR : Rd w b s i) : Calls Try.prog 29 #[.pointer (some ⟨b, 0, none⟩)] w fun e w' => e = .panicked (flt i) ∧ w = w' := by
  have h1 := hR.c1
  go_enter Try.func29, Try.ntmps29
  go_wp2
  exact ⟨rfl, rfl, rfl⟩

end
end Go.Proofs.Ytpilifhdhgdbjaa
