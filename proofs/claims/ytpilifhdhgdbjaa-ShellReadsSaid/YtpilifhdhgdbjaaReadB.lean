/- The shell's reader, walked: letters, next. -/
import Derived.Test.YtpilifhdhgdbjaaReadA
namespace Go.Proofs.Ytpilifhdhgdbjaa
open Go.RowKit

section
variable {w : World} {b i : Nat} {s : ByteArray}

set_option maxHeartbeats 1000000 in
theorem letters_c (hR : Rd w b s i) (hi : i ≤ s.size) (hs : s.size ≤ 4096) :
    Calls Try.prog 25 #[.pointer (some ⟨b, 0, none⟩)] w fun e w' => w.grownBy w' (some b) ∧
      ((e = .panicked (flt i) ∧ Sp.isLe (Sp.ch (BL s) i) = false) ∨
       ∃ j, e = .returned (.string (s.extract i j)) ∧ i < j ∧ j ≤ i + 16 ∧ j ≤ s.size ∧ (∀ t, i ≤ t → t < j → Sp.isLe (Sp.ch (BL s) t) = true) ∧
         (Sp.isLe (Sp.ch (BL s) j) = false ∨ j = i + 16) ∧ Rd w' b s j) := by
  have h1 := hR.c1
  have HR := Lib.hid hR; clear hR
  go_enter Try.func25, Try.ntmps25
  go_wp2
  go_loopw [] (fun wr => w.grownBy wr (some b) ∧ ∃ j, i ≤ j ∧ j ≤ i + 16 ∧ j ≤ s.size ∧ (∀ t, i ≤ t → t < j → Sp.isLe (Sp.ch (BL s) t) = true) ∧ Rd wr b s j) (fun wr => s.size - atOf wr b)
  case atStart => exact ⟨gr_refl _ _, i, by omega, by omega, hi, fun _ _ _ => by omega, HR.out⟩
  case round =>
    obtain ⟨hg, j, hij, hj16, hjs, hall, hRr⟩ := hrel
    have c1 := hRr.c1
    have f1 := hRr.f1
    have c0 := hRr.c0
    have HL := Lib.hid (look_c hRr hjs)
    have HG := Lib.hid hg
    have HA := Lib.hid hall
    have HRr := Lib.hid hRr
    clear hg hall hRr h1
    have HX := Lib.hid (fun w => isLetter_c (Sp.ch (BL s) j) w)
    by_cases hl : Sp.isLe (Sp.ch (BL s) j) = true
    · have hlt : j < s.size := by
        by_cases h : j < s.size
        · exact h
        · rw [Sp.ch_end (by rw [bl_len]; omega)] at hl; exact absurd hl (by decide)
      have Hl := Lib.hid hl; clear hl
      by_cases h16 : j < i + 16
      · go_wp2_with (first | (go_at_call 28; refine HL.out.mono ?_; rintro e w' ⟨rfl, n, rfl⟩) | (go_at_call 35; refine (HX.out _).mono ?_; rw [Hl.out]; rintro e w' ⟨rfl, rfl⟩))
        go_roundw
        case rel =>
          refine ⟨by repeat (first | exact HG.out | apply gr_drewN | apply gr_set), j + 1, by omega, by omega, by omega, fun t h1 h2 => ?_, by exact Rd.set1 (by repeat (first | exact HRr.out | apply Rd.drewN))⟩
          by_cases ht : t = j
          · rw [ht]; exact Hl.out
          · exact HA.out t h1 (by omega)
        case measure => exact meas HRr.out (by exact Rd.set1 (by repeat (first | exact HRr.out | apply Rd.drewN))) hlt
      · have hne : ((j : Int) == (i : Int)) = false := by simp; omega
        go_wp2_with (first | (go_at_call 28; refine HL.out.mono ?_; rintro e w' ⟨rfl, n, rfl⟩) | (go_at_call 35; refine (HX.out _).mono ?_; rw [Hl.out]; rintro e w' ⟨rfl, rfl⟩))
        go_quiet (fail)
        go_wp2
        go_ret
        exact ⟨by repeat (first | exact HG.out | apply gr_drewN), .inr ⟨j, rfl, by omega, hj16, hjs, HA.out, .inr (by omega), (HRr.out.drewN _).drewN _⟩⟩
    · have Hl := Lib.hid (by simpa using hl : Sp.isLe (Sp.ch (BL s) j) = false); clear hl
      by_cases he : j = i
      · subst he
        have hne : ((j : Int) == (j : Int)) = true := by simp
        have HF := Lib.hid (fun n => fail_c (HRr.out.drewN n))
        go_wp2_with (first | (go_at_call 28; refine HL.out.mono ?_; rintro e w' ⟨rfl, n, rfl⟩) | (go_at_call 35; refine (HX.out _).mono ?_; rw [Hl.out]; rintro e w' ⟨rfl, rfl⟩) | (go_at_call 29; refine (HF.out _).mono ?_; rintro e w' ⟨rfl, rfl⟩))
        exact ⟨rfl, gr_drewN HG.out _, .inl ⟨rfl, Hl.out⟩⟩
      · have hne : ((j : Int) == (i : Int)) = false := by simp; omega
        go_wp2_with (first | (go_at_call 28; refine HL.out.mono ?_; rintro e w' ⟨rfl, n, rfl⟩) | (go_at_call 35; refine (HX.out _).mono ?_; rw [Hl.out]; rintro e w' ⟨rfl, rfl⟩))
        go_quiet (fail)
        go_wp2
        go_ret
        exact ⟨by repeat (first | exact HG.out | apply gr_drewN), .inr ⟨j, rfl, by omega, hj16, hjs, HA.out, .inl Hl.out, (HRr.out.drewN _).drewN _⟩⟩

end
end Go.Proofs.Ytpilifhdhgdbjaa
