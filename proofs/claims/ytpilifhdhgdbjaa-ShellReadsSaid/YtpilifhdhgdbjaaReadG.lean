/- The shell's reader, walked: value. -/
import Derived.Test.YtpilifhdhgdbjaaReadF
namespace Go.Proofs.Ytpilifhdhgdbjaa
open Go.RowKit

/-- What value answers. -/
def ValQ (b : Nat) (s : ByteArray) (i : Nat) (x : Sp.St) (X : Except Nat Sp.St) (w : World) (e : Ending) (w' : World) : Prop :=
  w.grownBy w' (some b) ∧
      ((∃ p, e = .panicked (flt p) ∧ X = .error (p + 1)) ∨
       (∃ (v : Sp.Bs) (j : Nat) (hf : Int), e = .returned (.string (bs v)) ∧ i ≤ j ∧ j ≤ s.size ∧
         (Sp.ov (BL s) j = true → Sp.runP (BL s) { x with opts := x.opts ++ [(x.word, v)], value := [], st := 0, half := hf } j = X) ∧
         (Sp.ov (BL s) j = false → X = .error (j + 1)) ∧ Rd w' b s j))

section
variable {w : World} {b i : Nat} {s : ByteArray}

set_option maxHeartbeats 4000000 in
theorem value_c (hR : Rd w b s i) (hi : i ≤ s.size) (hs : s.size ≤ 4096) (x : Sp.St) (hx : x.st = 5) (hv : x.value = []) (X : Except Nat Sp.St) (hX : Sp.runP (BL s) x i = X) :
    Calls Try.prog 30 #[.pointer (some ⟨b, 0, none⟩)] w (ValQ b s i x X w) := by
  have c1 := hR.c1
  have c0 := hR.c0
  have HR := Lib.hid hR
  have HL := Lib.hid (look_c hR hi)
  clear hR
  by_cases h34 : Sp.ch (BL s) i = 34
  · have h34i : (((Sp.ch (BL s) i).toNat : Int) == 34) = true := by rw [h34]; rfl
    have hlt := ne_end hi (by decide) h34
    have HU := Lib.hid ((Sp.val_quote hx h34).symm.trans hX)
    have HQ := Lib.hid (fun n => quoted_c (HR.out.drewN n) hlt hs { x with st := 7 } rfl hv X HU.out)
    clear h34 hX hx hv
    go_enter Try.func30, Try.ntmps30
    go_wp2_with (go_at_call 28; refine HL.out.mono ?_; rintro e w' ⟨rfl, n, rfl⟩)
    refine (HQ.out _).mono ?_
    rintro e w2 hq
    unfold QuoQ at hq
    obtain ⟨hg2, hq⟩ := hq
    have HG2 : Hid (w.grownBy w2 (some b)) := gr_trans (by repeat (first | exact gr_refl _ _ | apply gr_drewN)) hg2
    clear hg2 c0 c1
    rcases hq with ⟨p, rfl, hX⟩ | ⟨v, j, hf, rfl, hj, hjs, hrun, hR2⟩
    · refine ⟨rfl, ?_⟩
      unfold ValQ
      exact ⟨HG2.out, .inl ⟨p, rfl, hX⟩⟩
    · have HR2 := Lib.hid hR2; clear hR2
      have HU2 := Lib.hid hrun; clear hrun
      go_wp2
      go_ret
      unfold ValQ
      refine ⟨HG2.out, .inr ⟨v, j, hf, rfl, by omega, hjs, fun ho => ?_, fun ho => ?_, HR2.out⟩⟩
      · exact (Sp.shut_over (x := { x with st := 11, value := v, half := hf }) rfl (by rw [bl_len]; exact hjs) ho).symm.trans HU2.out
      · rw [← HU2.out]; exact Sp.shut_bad rfl (by rw [bl_len]; exact hjs) ho
  · have h34i : (((Sp.ch (BL s) i).toNat : Int) == 34) = false := by
      simp [← UInt8.toNat_inj] at h34 ⊢; omega
    have H34 := Lib.hid h34; clear h34
    have HX := Lib.hid hX; clear hX
    have Hx := Lib.hid hx; clear hx
    have Hv := Lib.hid hv; clear hv
    go_enter Try.func30, Try.ntmps30
    go_wp2_with (go_at_call 28; refine HL.out.mono ?_; rintro e w' ⟨rfl, n, rfl⟩)
    generalize hwo : World.drewN _ _ = wo
    have HGo : Hid (w.grownBy wo (some b)) := by rw [← hwo]; exact gr_drewN (gr_refl _ _) _
    have HRo : Hid (Rd wo b s i) := by rw [← hwo]; exact HR.out.drewN _
    have HU0 : Hid (Sp.runP (BL s) { x with st := 5, value := Sp.sl (BL s) i (i - i) } i = X) := by
      have e : ({ x with st := 5, value := Sp.sl (BL s) i (i - i) } : Sp.St) = x := by
        rw [Nat.sub_self, Sp.sl_zero, ← Hv.out, ← Hx.out]
      rw [e]; exact HX.out
    clear hwo c0 c1 HL HR h34i HX
    go_loopw [] (fun wr => w.grownBy wr (some b) ∧ ∃ (j st : Nat), i ≤ j ∧ j ≤ s.size ∧ ((st = 5 ∧ j = i) ∨ st = 6) ∧ Sp.runP (BL s) { x with st := st, value := Sp.sl (BL s) i (j - i) } j = X ∧ Rd wr b s j) (fun wr => s.size - atOf wr b)
    case atStart => exact ⟨HGo.out, i, 5, by omega, hi, .inl ⟨rfl, rfl⟩, HU0.out, HRo.out⟩
    case round =>
      clear HGo HRo HU0
      obtain ⟨hg, j, st, hij, hjs, hst, hrun, hRr⟩ := hrel
      have c1 := hRr.c1
      have f1 := hRr.f1
      have c0 := hRr.c0
      have HG := Lib.hid hg
      have HR := Lib.hid hRr
      have HU := Lib.hid hrun
      have HSt := Lib.hid hst
      clear hg hRr hrun hst
      have HO := Lib.hid (over_c HR.out hjs)
      have HF := Lib.hid (fun n => fail_c (HR.out.drewN n))
      by_cases hov : Sp.ov (BL s) j = true
      · have hst2 : st = 5 ∨ st = 6 := by rcases HSt.out with h | h; exact .inl h.1; exact .inr h
        have HU1 := Lib.hid ((Sp.val_over (x := { x with st := st, value := Sp.sl (BL s) i (j - i) }) hst2 (by rw [bl_len]; exact hjs) hov).symm.trans HU.out)
        have Hov := Lib.hid hov
        clear hov hst2
        go_wp2_with (go_at_call 27; refine HO.out.mono ?_; rw [Hov.out]; rintro e w' ⟨rfl, n, rfl⟩)
        go_quiet (fail)
        go_wp2
        go_ret
        unfold ValQ
        refine ⟨by repeat (first | exact HG.out | apply gr_drewN), .inr ⟨Sp.sl (BL s) i (j - i), j, x.half, by rw [← ext_sl]; rfl, hij, hjs, fun _ => ?_, fun h => ?_, by repeat (first | exact HR.out | apply Rd.drewN)⟩⟩
        · rw [← HU1.out]
        · rw [Hov.out] at h; cases h
      · have hov' : Sp.ov (BL s) j = false := by simpa using hov
        have hov2 := hov'
        unfold Sp.ov at hov2
        simp only [Bool.or_eq_false_iff, bl_len] at hov2
        have hlt : j < s.size := by
          have h := hov2.1
          simp at h; omega
        have hbl := hov2.2
        have Hov := Lib.hid hov'
        clear hov hov' hov2
        have hg := ch_get s j hlt
        have HP := Lib.hid (fun w => isPlain_c s[j] w)
        by_cases hp : Sp.isPl (Sp.ch (BL s) j) = true
        · have hxx : (st = 5 ∧ Sp.ch (BL s) j ≠ 34) ∨ st = 6 := by
            rcases HSt.out with ⟨h, h'⟩ | h
            · exact .inl ⟨h, by rw [h']; exact H34.out⟩
            · exact .inr h
          have HU1 := Lib.hid ((Sp.val_more (x := { x with st := st, value := Sp.sl (BL s) i (j - i) }) hxx (by rw [bl_len]; exact hlt) hbl hp).symm.trans HU.out)
          have Hp : Hid (Sp.isPl s[j] = true) := by rw [hg]; exact hp
          clear hxx hp hg hbl
          go_wp2_with (go_at_call 27; refine HO.out.mono ?_; rw [Hov.out]; rintro e w' ⟨rfl, n, rfl⟩)
          generalize hwq : World.drewN _ _ = wq
          have HGq : Hid (w.grownBy wq (some b)) := by rw [← hwq]; exact gr_drewN HG.out _
          have HRq : Hid (Rd wq b s j) := by rw [← hwq]; exact HR.out.drewN _
          clear hwq c0 c1 f1 HF HO
          have c1 := HRq.out.c1
          have f1 := HRq.out.f1
          have c0 := HRq.out.c0
          have HF := Lib.hid (fun n => fail_c (HRq.out.drewN n))
          go_quiet ((go_at_call 19; exact Calls.quiet_of_same ((HP.out _).mono fun _ _ h => ⟨by rw [h.1, Hp.out], h.2.symm⟩)))
          go_wp2
          go_roundw
          case rel =>
            refine ⟨by repeat (first | exact HGq.out | apply gr_drewN | apply gr_set), j + 1, 6, by omega, by omega, .inr rfl, ?_, by exact Rd.set1 (by repeat (first | exact HRq.out | apply Rd.drewN))⟩
            have e : Sp.sl (BL s) i (j + 1 - i) = Sp.sl (BL s) i (j - i) ++ [Sp.ch (BL s) j] := by
              rw [show j + 1 - i = (j - i) + 1 from by omega, Sp.sl_succ (by rw [bl_len]; omega), show i + (j - i) = j from by omega]
            rw [e]; exact HU1.out
          case measure => exact meas HR.out (by exact Rd.set1 (by repeat (first | exact HRq.out | apply Rd.drewN))) hlt
        · have hp' : Sp.isPl (Sp.ch (BL s) j) = false := by simpa using hp
          have HX := Lib.hid (HU.out.symm.trans (Sp.val_bad (by rw [bl_len]; exact hlt) hbl hp'))
          have Hp : Hid (Sp.isPl s[j] = false) := by rw [hg]; exact hp'
          clear hp hp' hg hbl
          go_wp2_with (go_at_call 27; refine HO.out.mono ?_; rw [Hov.out]; rintro e w' ⟨rfl, n, rfl⟩)
          generalize hwq : World.drewN _ _ = wq
          have HGq : Hid (w.grownBy wq (some b)) := by rw [← hwq]; exact gr_drewN HG.out _
          have HRq : Hid (Rd wq b s j) := by rw [← hwq]; exact HR.out.drewN _
          clear hwq c0 c1 f1 HF HO
          have c1 := HRq.out.c1
          have f1 := HRq.out.f1
          have c0 := HRq.out.c0
          have HF := Lib.hid (fun n => fail_c (HRq.out.drewN n))
          go_quiet ((go_at_call 19; exact Calls.quiet_of_same ((HP.out _).mono fun _ _ h => ⟨by rw [h.1, Hp.out], h.2.symm⟩)))
          go_wp2_with (go_at_call 29; refine (HF.out _).mono ?_; rintro e w' ⟨rfl, rfl⟩)
          refine ⟨rfl, ?_⟩
          unfold ValQ
          exact ⟨by repeat (first | exact HGq.out | apply gr_drewN), .inl ⟨j, rfl, HX.out⟩⟩

end
end Go.Proofs.Ytpilifhdhgdbjaa
