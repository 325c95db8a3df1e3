/- The shell's reader, walked: word. -/
import Derived.Test.YtpilifhdhgdbjaaReadC
namespace Go.Proofs.Ytpilifhdhgdbjaa
open Go.RowKit

/-- Bytes as a string. -/
def bs (l : Sp.Bs) : ByteArray := ⟨l.toArray⟩

theorem ext_sl (s : ByteArray) (i j : Nat) : s.extract i j = bs (Sp.sl (BL s) i (j - i)) := by
  unfold bs Sp.sl
  apply ByteArray.ext
  rw [ByteArray.data_extract]
  apply Array.ext'
  simp [BL, List.take_drop]

section
variable {w : World} {b i : Nat} {s : ByteArray}

/-- The state behind some bytes of the second field. -/
def wordSt (x : Sp.St) (L : Sp.Bs) (i j st : Nat) : Sp.St := { x with word := Sp.sl L i (j - i), st := st, fields := x.fields + 1 }

theorem word_letters {x : Sp.St} {j : Nat} (hx : x.st = 0) (hf : x.fields = 1) (hij : i < j) (hj16 : j ≤ i + 16) (hjs : j ≤ s.size)
    (hall : ∀ t, i ≤ t → t < j → Sp.isLe (Sp.ch (BL s) t) = true) : Sp.runP (BL s) x i = Sp.runP (BL s) (wordSt x (BL s) i j 2) j := by
  have h := Sp.letters_run (L := BL s) (i := i) hx (j - i) (by omega) (by omega) (by rw [bl_len]; omega) (fun t ht => hall (i + t) (by omega) (by omega))
  rw [h, show i + (j - i) = j from by omega, hf]
  unfold wordSt
  rw [hf]; rfl

theorem word_more {x : Sp.St} {m st : Nat} (hst : st = 2 ∨ st = 3) (him : i ≤ m) (hm : m < s.size) (h16 : m < i + 16) (hn : Sp.isNa (Sp.ch (BL s) m) = true) :
    Sp.runP (BL s) (wordSt x (BL s) i m st) m = Sp.runP (BL s) (wordSt x (BL s) i (m + 1) (if Sp.isLe (Sp.ch (BL s) m) then st else 3)) (m + 1) := by
  have hl := bl_len s
  have hlen := Sp.sl_length (L := BL s) (i := i) (k := m - i) (by omega)
  rw [Sp.name_more (by unfold wordSt; exact hst) (by omega) hn (by unfold wordSt; rw [hlen]; omega)]
  unfold wordSt
  simp only
  have e : m + 1 - i = (m - i) + 1 := by omega
  rw [e, Sp.sl_succ (by omega), show i + (m - i) = m from by omega]

set_option maxHeartbeats 2000000 in
theorem word_c (hR : Rd w b s i) (hi : i < s.size) (hs : s.size ≤ 4096) (x : Sp.St) (hx : x.st = 0) (hf : x.fields = 1)
    (hb : Sp.isBl (Sp.ch (BL s) i) = false) (h35 : Sp.ch (BL s) i ≠ 35) (X : Except Nat Sp.St) (hX : Sp.runP (BL s) x i = X) :
    Calls Try.prog 26 #[.pointer (some ⟨b, 0, none⟩)] w fun e w' => w.grownBy w' (some b) ∧
      ((∃ p, e = .panicked (flt p) ∧ X = .error (p + 1)) ∨
       (∃ j, e = .returned (.string (s.extract i j)) ∧ i < j ∧ j < s.size ∧ Sp.ch (BL s) j = 61 ∧ Sp.runP (BL s) (wordSt x (BL s) i j 2) j = X ∧ Rd w' b s j) ∨
       (∃ j st, e = .returned (.string (s.extract i j)) ∧ i < j ∧ j ≤ s.size ∧ Sp.ov (BL s) j = true ∧ (st = 2 ∨ st = 3) ∧ Sp.runP (BL s) (wordSt x (BL s) i j st) j = X ∧ Rd w' b s j)) := by
  have h1 := hR.c1
  have HT := Lib.hid (letters_c hR (by omega) hs)
  have HBad := Lib.hid (fun (h : Sp.isLe (Sp.ch (BL s) i) = false) => hX.symm.trans (Sp.st0_bad hx (by rw [bl_len]; exact hi) hb h35 h))
  have HW := Lib.hid (fun (j : Nat) h1 h2 h3 h4 => (word_letters (j := j) hx hf h1 h2 h3 h4).symm.trans hX)
  clear hR hX hb h35 hx hf
  go_enter Try.func26, Try.ntmps26
  go_wp2_with fail
  refine HT.out.mono ?_
  rintro e w1 ⟨hg1, hq⟩
  clear HT h1
  rcases hq with ⟨rfl, hl⟩ | ⟨j, rfl, hij, hj16, hjs, hall, hstop, hRj⟩
  · exact ⟨rfl, hg1, .inl ⟨i, rfl, HBad.out hl⟩⟩
  · have HG := Lib.hid hg1
    have HRj := Lib.hid hRj
    have HWj := Lib.hid (HW.out j hij hj16 hjs hall)
    have HL := Lib.hid (fun n => look_c (hRj.drewN n) hjs)
    have HS := Lib.hid hstop
    have c0 := hRj.c0
    have c1 := hRj.c1
    clear hg1 hRj HW HBad hstop hall
    by_cases h61 : Sp.ch (BL s) j = 61
    · have h61i : ((Sp.ch (BL s) j).toNat : Int) = 61 := by rw [h61]; rfl
      have hjlt := ne_end hjs (by decide) h61
      have H61 := Lib.hid h61
      have H61i := Lib.hid h61i
      clear h61 h61i
      go_wp2_with (first | (go_at_call 28; refine (HL.out 0).mono ?_; rw [H61i.out]; rintro e w' ⟨rfl, n, rfl⟩))
      go_ret
      exact ⟨by repeat (first | exact HG.out | apply gr_drewN), .inr (.inl ⟨j, rfl, hij, hjlt, H61.out, HWj.out, by repeat (first | exact HRj.out | apply Rd.drewN)⟩)⟩
    · have h61i : (((Sp.ch (BL s) j).toNat : Int) == 61) = false := by
        simp [← UInt8.toNat_inj] at h61 ⊢; omega
      have H61 := Lib.hid h61; clear h61
      go_wp2_with (first | (go_at_call 28; refine (HL.out 0).mono ?_; rintro e w' ⟨rfl, n, rfl⟩))
      generalize hwo : World.drewN _ _ = wo
      have HGo : Hid (w.grownBy wo (some b)) := by rw [← hwo]; repeat (first | exact HG.out | apply gr_drewN)
      have HRo : Hid (Rd wo b s j) := by rw [← hwo]; repeat (first | exact HRj.out | apply Rd.drewN)
      clear hwo c0 c1 HL HG HRj h61i
      go_loopw [] (fun wr => w.grownBy wr (some b) ∧ ∃ m st, j ≤ m ∧ m ≤ i + 16 ∧ m ≤ s.size ∧ (st = 3 ∨ (st = 2 ∧ m = j)) ∧ Sp.runP (BL s) (wordSt x (BL s) i m st) m = X ∧ Rd wr b s m) (fun wr => s.size - atOf wr b)
      case atStart => exact ⟨HGo.out, j, 2, by omega, hj16, hjs, .inr ⟨rfl, rfl⟩, HWj.out, HRo.out⟩
      case round =>
        clear HGo HRo
        obtain ⟨hg, m, st, hjm, hm16, hms, hst, hrun, hRr⟩ := hrel
        have him : i ≤ m := by omega
        have c1 := hRr.c1
        have f1 := hRr.f1
        have c0 := hRr.c0
        have HL := Lib.hid (fun n => look_c (hRr.drewN n) hms)
        have HN := Lib.hid (fun w => isNamed_c (Sp.ch (BL s) m) w)
        have HO := Lib.hid (fun n => over_c (hRr.drewN n) hms)
        have HF := Lib.hid (fun n => fail_c (hRr.drewN n))
        have HG := Lib.hid hg
        have HRr := Lib.hid hRr
        have HU := Lib.hid hrun
        have HSt := Lib.hid hst
        clear hg hRr hrun hst
        have hst2 : Hid (st = 2 ∨ st = 3) := by rcases HSt.out with h | h; exact .inr h; exact .inl h.1
        have stop : (Sp.isNa (Sp.ch (BL s) m) = false ∨ m = i + 16) → Sp.ov (BL s) m = false → X = .error (m + 1) := by
          intro h1 h2
          rw [← HU.out]
          refine Sp.name_bad ?_ (by rw [bl_len]; exact hms) h2 ?_
          · rcases HSt.out with h | ⟨h, h'⟩
            · exact .inl h
            · exact .inr ⟨h, by rw [h']; exact H61.out⟩
          · rcases h1 with h1 | h1
            · exact .inl h1
            · refine .inr ?_
              unfold wordSt
              simp only
              rw [Sp.sl_length (by rw [bl_len]; omega)]; omega
        have HStop := Lib.hid stop; clear stop
        by_cases hn : Sp.isNa (Sp.ch (BL s) m) = true ∧ m < i + 16
        · have Hn := Lib.hid hn.1
          have h16 := hn.2
          clear hn
          have hlt : m < s.size := by
            by_cases h : m < s.size
            · exact h
            · have := Hn.out; rw [Sp.ch_end (by rw [bl_len]; omega)] at this; exact absurd this (by decide)
          go_wp2_with (first | (go_at_call 28; refine (HL.out 0).mono ?_; rintro e w' ⟨rfl, n, rfl⟩) | (go_at_call 36; refine (HN.out _).mono ?_; rw [Hn.out]; rintro e w' ⟨rfl, rfl⟩))
          go_roundw
          case rel =>
            refine ⟨by repeat (first | exact HG.out | apply gr_drewN | apply gr_set), m + 1, 3, by omega, by omega, by omega, .inl rfl, ?_, by exact Rd.set1 (by repeat (first | exact HRr.out | apply Rd.drewN))⟩
            have h := word_more (x := x) hst2.out (i := i) (m := m) (by omega) hlt h16 Hn.out
            have he : (if Sp.isLe (Sp.ch (BL s) m) then st else 3) = 3 := by
              rcases HSt.out with h | ⟨h, h'⟩
              · rw [h]; split <;> rfl
              · rcases HS.out with h2 | h2
                · rw [h', h2]; simp
                · omega
            rw [he] at h
            rw [← h]; exact HU.out
          case measure => exact meas HRr.out (by exact Rd.set1 (by repeat (first | exact HRr.out | apply Rd.drewN))) hlt
        · by_cases hov : Sp.ov (BL s) m = true
          · have Hov := Lib.hid hov; clear hov
            by_cases hn1 : Sp.isNa (Sp.ch (BL s) m) = true
            · have h16 : ¬ m < i + 16 := fun h => hn ⟨hn1, h⟩
              have Hn := Lib.hid hn1
              clear hn hn1
              go_wp2_with (first | (go_at_call 28; refine (HL.out 0).mono ?_; rintro e w' ⟨rfl, n, rfl⟩) | (go_at_call 36; refine (HN.out _).mono ?_; rw [Hn.out]; rintro e w' ⟨rfl, rfl⟩) | (go_at_call 27; refine (HO.out _).mono ?_; rw [Hov.out]; rintro e w' ⟨rfl, n, rfl⟩))
              go_quiet (fail)
              go_wp2
              go_ret
              exact ⟨by repeat (first | exact HG.out | apply gr_drewN), .inr (.inr ⟨m, st, rfl, by omega, hms, Hov.out, hst2.out, HU.out, by repeat (first | exact HRr.out | apply Rd.drewN)⟩)⟩
            · have Hn := Lib.hid (by simpa using hn1 : Sp.isNa (Sp.ch (BL s) m) = false)
              clear hn hn1
              go_wp2_with (first | (go_at_call 28; refine (HL.out 0).mono ?_; rintro e w' ⟨rfl, n, rfl⟩) | (go_at_call 36; refine (HN.out _).mono ?_; rw [Hn.out]; rintro e w' ⟨rfl, rfl⟩) | (go_at_call 27; refine (HO.out _).mono ?_; rw [Hov.out]; rintro e w' ⟨rfl, n, rfl⟩))
              go_quiet (fail)
              go_wp2
              go_ret
              exact ⟨by repeat (first | exact HG.out | apply gr_drewN), .inr (.inr ⟨m, st, rfl, by omega, hms, Hov.out, hst2.out, HU.out, by repeat (first | exact HRr.out | apply Rd.drewN)⟩)⟩
          · have Hov := Lib.hid (by simpa using hov : Sp.ov (BL s) m = false); clear hov
            by_cases hn1 : Sp.isNa (Sp.ch (BL s) m) = true
            · have h16 : ¬ m < i + 16 := fun h => hn ⟨hn1, h⟩
              have Hn := Lib.hid hn1
              clear hn hn1
              go_wp2_with (first | (go_at_call 28; refine (HL.out 0).mono ?_; rintro e w' ⟨rfl, n, rfl⟩) | (go_at_call 36; refine (HN.out _).mono ?_; rw [Hn.out]; rintro e w' ⟨rfl, rfl⟩) | (go_at_call 27; refine (HO.out _).mono ?_; rw [Hov.out]; rintro e w' ⟨rfl, n, rfl⟩) | (go_at_call 29; refine (HF.out _).mono ?_; rintro e w' ⟨rfl, rfl⟩))
              exact ⟨rfl, by repeat (first | exact HG.out | apply gr_drewN), .inl ⟨m, rfl, HStop.out (.inr (by omega)) Hov.out⟩⟩
            · have Hn := Lib.hid (by simpa using hn1 : Sp.isNa (Sp.ch (BL s) m) = false)
              clear hn hn1
              go_wp2_with (first | (go_at_call 28; refine (HL.out 0).mono ?_; rintro e w' ⟨rfl, n, rfl⟩) | (go_at_call 36; refine (HN.out _).mono ?_; rw [Hn.out]; rintro e w' ⟨rfl, rfl⟩) | (go_at_call 27; refine (HO.out _).mono ?_; rw [Hov.out]; rintro e w' ⟨rfl, n, rfl⟩) | (go_at_call 29; refine (HF.out _).mono ?_; rintro e w' ⟨rfl, rfl⟩))
              exact ⟨rfl, by repeat (first | exact HG.out | apply gr_drewN), .inl ⟨m, rfl, HStop.out (.inl Hn.out) Hov.out⟩⟩

end
end Go.Proofs.Ytpilifhdhgdbjaa
