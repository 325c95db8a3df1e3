/- The shell's reader, walked: next. -/
import Derived.Test.YtpilifhdhgdbjaaReadB
namespace Go.Proofs.Ytpilifhdhgdbjaa
open Go.RowKit

section
variable {w : World} {b i : Nat} {s : ByteArray}

/-- The reader at a place, all that a walk asks of it. -/
theorem ne_end {j : Nat} (h : j ≤ s.size) {u : UInt8} (hu : u ≠ 0) (hc : Sp.ch (BL s) j = u) : j < s.size := by
  by_cases hlt : j < s.size
  · exact hlt
  · rw [Sp.ch_end (by rw [bl_len]; omega)] at hc; exact absurd hc.symm hu

theorem pl_or_bl_fi {c : UInt8} (h : Sp.isPl c = true ∨ Sp.isBl c = true) : Sp.isFi c = true := by
  cases hb : Sp.isBl c
  · rw [Sp.fi_iff_pl hb]; simpa [hb] using h
  · exact Sp.fi_of_bl hb

set_option maxHeartbeats 2000000 in
theorem next_c (hR : Rd w b s i) (hi : i ≤ s.size) (hs : s.size ≤ 4096) (x : Sp.St) (hx : x.st = 0) (X : Except Nat Sp.St) (hX : Sp.runP (BL s) x i = X) :
    Calls Try.prog 34 #[.pointer (some ⟨b, 0, none⟩)] w fun e w' => w.grownBy w' (some b) ∧
      ((∃ p, e = .panicked (flt p) ∧ X = .error (p + 1)) ∨
       (∃ st, e = .returned (.bool false) ∧ X = .ok { x with st := st }) ∨
       (∃ j, e = .returned (.bool true) ∧ i ≤ j ∧ j < s.size ∧ Sp.isBl (Sp.ch (BL s) j) = false ∧ Sp.ch (BL s) j ≠ 35 ∧ Sp.runP (BL s) x j = X ∧ Rd w' b s j)) := by
  have h1 := hR.c1
  have HR := Lib.hid hR; clear hR
  have HX0 := Lib.hid hX; clear hX
  have Hx := Lib.hid hx; clear hx
  have hlen := Lib.hid (bl_len s)
  go_enter Try.func34, Try.ntmps34
  go_wp2
  go_loopw [] (fun wr => w.grownBy wr (some b) ∧ ∃ j, i ≤ j ∧ j ≤ s.size ∧ Sp.runP (BL s) x j = X ∧ Rd wr b s j) (fun wr => s.size - atOf wr b)
  case atStart => exact ⟨gr_refl _ _, i, Nat.le_refl _, hi, HX0.out, HR.out⟩
  case round =>
    obtain ⟨hg, j, hij, hjs, hrun, hRr⟩ := hrel
    have c1 := hRr.c1
    have f1 := hRr.f1
    have c0 := hRr.c0
    have HL := Lib.hid (fun n => look_c (hRr.drewN n) hjs)
    have HG := Lib.hid hg
    have HRr := Lib.hid hRr
    have HU := Lib.hid hrun
    clear hg hRr h1 hrun
    by_cases hlt : j < s.size
    · have hg := ch_get s j hlt
      have Hg := Lib.hid hg
      have HX := Lib.hid (fun w => isBlank_c s[j] w)
      by_cases hb : Sp.isBl s[j] = true
      · rw [hg] at hb
        have Hb := Lib.hid hb; clear hb hg
        go_wp2
        go_quiet ((go_at_call 37; exact Calls.quiet_of_same ((HX.out _).mono fun _ _ h => ⟨by rw [h.1, Hg.out, Hb.out], h.2.symm⟩)))
        go_wp2
        go_roundw
        case rel =>
          exact ⟨by repeat (first | exact HG.out | apply gr_drewN | apply gr_set), j + 1, by omega, by omega, by rw [← Sp.st0_blank Hx.out (by rw [hlen.out]; exact hlt) Hb.out]; exact HU.out, by exact Rd.set1 (by repeat (first | exact HRr.out | apply Rd.drewN))⟩
        case measure => exact meas HRr.out (by exact Rd.set1 (by repeat (first | exact HRr.out | apply Rd.drewN))) hlt
      · have Hb := Lib.hid (by rw [← hg]; simpa using hb : Sp.isBl (Sp.ch (BL s) j) = false)
        clear hb hg
        by_cases h35 : Sp.ch (BL s) j = 35
        · have h35i : ((Sp.ch (BL s) j).toNat : Int) = 35 := by rw [h35]; rfl
          have H35 := Lib.hid h35; clear h35
          have H35i := Lib.hid h35i; clear h35i
          go_wp2
          go_quiet ((go_at_call 37; exact Calls.quiet_of_same ((HX.out _).mono fun _ _ h => ⟨by rw [h.1, Hg.out, Hb.out], h.2.symm⟩)))
          go_wp2_with (go_at_call 28; refine (HL.out _).mono ?_; rw [H35i.out]; rintro e w' ⟨rfl, n, rfl⟩)
          generalize hwo : wr.drewN _ = wo
          have HGo : Hid (w.grownBy wo (some b)) := by rw [← hwo]; exact gr_drewN HG.out _
          have HRo : Hid (Rd wo b s j) := by rw [← hwo]; exact HRr.out.drewN _
          clear hwo c0 c1 f1 HL HG HRr
          have HUo : Hid (Sp.runP (BL s) { x with st := 12 } j = X) := by
            rw [← Sp.st0_hash Hx.out (by rw [hlen.out]; exact hlt) H35.out]; exact HU.out
          clear HU HX Hb Hg H35 H35i
          go_loopw [] (fun wr => w.grownBy wr (some b) ∧ ∃ j, j ≤ s.size ∧ Sp.runP (BL s) { x with st := 12 } j = X ∧ Rd wr b s j) (fun wr => s.size - atOf wr b)
          case atStart => exact ⟨HGo.out, j, hjs, HUo.out, HRo.out⟩
          case round =>
            clear HGo HUo HRo
            obtain ⟨hg, j, hjs, hrun, hRr⟩ := hrel
            have c1 := hRr.c1
            have f1 := hRr.f1
            have c0 := hRr.c0
            have HG := Lib.hid hg
            have HRr := Lib.hid hRr
            have HU := Lib.hid hrun
            clear hg hRr hrun
            by_cases hlt : j < s.size
            · have Hg := Lib.hid (ch_get s j hlt)
              have HP := Lib.hid (fun w => isPlain_c s[j] w)
              have HB := Lib.hid (fun w => isBlank_c s[j] w)
              have HF := Lib.hid (fun n => fail_c (HRr.out.drewN n))
              by_cases hp : Sp.isPl s[j] = true
              · have Hf : Hid (Sp.isFi (Sp.ch (BL s) j) = true) := by rw [← Hg.out]; exact pl_or_bl_fi (.inl hp)
                have Hp := Lib.hid hp; clear hp
                go_wp2
                go_quiet (fail)
                go_wp2
                go_quiet (fail)
                go_wp2_with (first | (go_at_call 19; refine (HP.out _).mono ?_; rw [Hp.out]; rintro e w' ⟨rfl, rfl⟩))
                go_roundw
                case rel =>
                  exact ⟨by repeat (first | exact HG.out | apply gr_drewN | apply gr_set), j + 1, by omega, by rw [← Sp.st12_fine rfl (by rw [hlen.out]; exact hlt) Hf.out]; exact HU.out, by exact Rd.set1 (by repeat (first | exact HRr.out | apply Rd.drewN))⟩
                case measure => exact meas HRr.out (by exact Rd.set1 (by repeat (first | exact HRr.out | apply Rd.drewN))) hlt
              · have Hp := Lib.hid (by simpa using hp : Sp.isPl s[j] = false)
                clear hp
                by_cases hb : Sp.isBl s[j] = true
                · have Hf : Hid (Sp.isFi (Sp.ch (BL s) j) = true) := by rw [← Hg.out]; exact pl_or_bl_fi (.inr hb)
                  have Hb := Lib.hid hb; clear hb
                  go_wp2
                  go_quiet (fail)
                  go_wp2
                  go_quiet (fail)
                  go_wp2_with (first | (go_at_call 19; refine (HP.out _).mono ?_; rw [Hp.out]; rintro e w' ⟨rfl, rfl⟩) | (go_at_call 37; refine (HB.out _).mono ?_; rw [Hb.out]; rintro e w' ⟨rfl, rfl⟩))
                  go_roundw
                  case rel =>
                    exact ⟨by repeat (first | exact HG.out | apply gr_drewN | apply gr_set), j + 1, by omega, by rw [← Sp.st12_fine rfl (by rw [hlen.out]; exact hlt) Hf.out]; exact HU.out, by exact Rd.set1 (by repeat (first | exact HRr.out | apply Rd.drewN))⟩
                  case measure => exact meas HRr.out (by exact Rd.set1 (by repeat (first | exact HRr.out | apply Rd.drewN))) hlt
                · have hb' : Sp.isBl s[j] = false := by simpa using hb
                  have Hf : Hid (Sp.isFi (Sp.ch (BL s) j) = false) := by rw [← Hg.out, Sp.fi_iff_pl hb']; exact Hp.out
                  have Hb := Lib.hid hb'; clear hb hb'
                  go_wp2
                  go_quiet (fail)
                  go_wp2
                  go_quiet (fail)
                  go_wp2_with (first | (go_at_call 19; refine (HP.out _).mono ?_; rw [Hp.out]; rintro e w' ⟨rfl, rfl⟩) | (go_at_call 37; refine (HB.out _).mono ?_; rw [Hb.out]; rintro e w' ⟨rfl, rfl⟩) | (go_at_call 29; refine (HF.out _).mono ?_; rintro e w' ⟨rfl, rfl⟩))
                  exact ⟨rfl, by repeat (first | exact HG.out | apply gr_drewN), .inl ⟨j, rfl, by rw [← HU.out]; exact Sp.st12_bad (by rw [hlen.out]; exact hlt) Hf.out⟩⟩
            · obtain rfl : j = s.size := by omega
              go_wp2
              go_quiet (fail)
              go_wp2
              go_quiet (fail)
              go_wp2
              go_ret
              exact ⟨by repeat (first | exact HG.out | apply gr_drewN), .inr (.inl ⟨12, rfl, by rw [← HU.out]; exact Sp.st12_end rfl (by rw [hlen.out])⟩)⟩
        · have h35i : (((Sp.ch (BL s) j).toNat : Int) == 35) = false := by
            simp [← UInt8.toNat_inj] at h35 ⊢; omega
          have H35 := Lib.hid h35; clear h35
          go_wp2
          go_quiet ((go_at_call 37; exact Calls.quiet_of_same ((HX.out _).mono fun _ _ h => ⟨by rw [h.1, Hg.out, Hb.out], h.2.symm⟩)))
          go_wp2_with (go_at_call 28; refine (HL.out _).mono ?_; rintro e w' ⟨rfl, n, rfl⟩)
          go_quiet (fail)
          go_wp2
          go_ret
          exact ⟨by repeat (first | exact HG.out | apply gr_drewN), .inr (.inr ⟨j, by simp, hij, hlt, Hb.out, H35.out, HU.out, by repeat (first | exact HRr.out | apply Rd.drewN)⟩)⟩
    · obtain rfl : j = s.size := by omega
      have H0 : Hid (((Sp.ch (BL s) s.size).toNat : Int) = 0) := by
        rw [Sp.ch_end (by rw [bl_len]; omega)]; rfl
      go_wp2
      go_quiet (fail)
      go_wp2_with (go_at_call 28; refine (HL.out _).mono ?_; rw [H0.out]; rintro e w' ⟨rfl, n, rfl⟩)
      go_quiet (fail)
      go_wp2
      go_ret
      exact ⟨by repeat (first | exact HG.out | apply gr_drewN), .inr (.inl ⟨x.st, rfl, by rw [← HU.out]; exact Sp.st0_end Hx.out (by rw [hlen.out])⟩)⟩

end
end Go.Proofs.Ytpilifhdhgdbjaa
