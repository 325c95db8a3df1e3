/- The shell's reader, walked: quoted. -/
import Derived.Test.YtpilifhdhgdbjaaReadE
namespace Go.Proofs.Ytpilifhdhgdbjaa
open Go.RowKit

/-- What quoted answers. -/
def QuoQ (b : Nat) (s : ByteArray) (i : Nat) (x : Sp.St) (X : Except Nat Sp.St) (w : World) (e : Ending) (w' : World) : Prop :=
  w.grownBy w' (some b) ∧
      ((∃ p, e = .panicked (flt p) ∧ X = .error (p + 1)) ∨
       (∃ (v : Sp.Bs) (j : Nat) (hf : Int), e = .returned (.string (bs v)) ∧ i < j ∧ j ≤ s.size ∧ Sp.runP (BL s) { x with st := 11, value := v, half := hf } j = X ∧ Rd w' b s j))

section
variable {w : World} {b i : Nat} {s : ByteArray}

theorem Rd.alloc (h : Rd w b s i) (o : Obj) : Rd (w.alloc o) b s i := h.grown (row := none) (World.grownBy_alloc _ _ _) (by simp)

set_option maxHeartbeats 4000000 in
theorem quoted_c (hR : Rd w b s i) (hi : i < s.size) (hs : s.size ≤ 4096) (x : Sp.St) (hx : x.st = 7) (hv : x.value = []) (X : Except Nat Sp.St) (hX : Sp.runP (BL s) x (i + 1) = X) :
    Calls Try.prog 38 #[.pointer (some ⟨b, 0, none⟩)] w (QuoQ b s i x X w) := by
  have hbB := hR.lt
  have c1 := hR.c1
  have f1 := hR.f1
  have c0 := hR.c0
  have HR := Lib.hid hR
  have HU0 : Hid (Sp.runP (BL s) { x with value := [], half := x.half } (i + 1) = X) := by
    have e : ({ x with value := [], half := x.half } : Sp.St) = x := by rw [← hv]
    rw [e]; exact hX
  have Hx := Lib.hid hx
  clear hR hv hX hx
  go_enter Try.func38, Try.ntmps38
  go_wp2_with fail
  generalize hwo : (w.setCell ⟨b, 1, none⟩ (.int .i64 ((i : Int) + 1))).alloc (.cells #[.pointer none, .slice none 0 0] 47) = wo
  have HGo : Hid (w.grownBy wo (some b)) := by rw [← hwo]; exact gr_alloc (gr_set (gr_refl _ _) _ _) _
  have HRo : Hid (Rd wo b s (i + 1)) := by rw [← hwo]; exact HR.out.set1.alloc _
  have HBo : Hid (Bd wo w.heap.size w.heap.size []) := by
    have h := Bd.new (w.setCell ⟨b, 1, none⟩ (.int .i64 ((i : Int) + 1)))
    rw [← hwo]
    have e : (w.setCell ⟨b, 1, none⟩ (.int .i64 ((i : Int) + 1))).heap.size = w.heap.size := by simp [World.setCell]
    rw [e] at h; exact h
  clear hwo c0 c1 f1 HR
  go_loopw [] (fun wr => w.grownBy wr (some b) ∧ ∃ (j : Nat) (v : Sp.Bs) (hf : Int), i < j ∧ j ≤ s.size ∧ v.length ≤ j ∧ Sp.runP (BL s) { x with value := v, half := hf } j = X ∧ Rd wr b s j ∧ Bd wr w.heap.size w.heap.size v) (fun wr => s.size - atOf wr b)
  case atStart => exact ⟨HGo.out, i + 1, [], x.half, by omega, by omega, by simp, HU0.out, HRo.out, HBo.out⟩
  case round =>
    clear HGo HRo HBo HU0
    obtain ⟨hg, j, v, hf, hij, hjs, hvj, hrun, hRr, hBr⟩ := hrel
    have c1 := hRr.c1
    have f1 := hRr.f1
    have c0 := hRr.c0
    have HG := Lib.hid hg
    have HR := Lib.hid hRr
    have HB := Lib.hid hBr
    have HU := Lib.hid hrun
    have hsz := hg.size
    clear hg hRr hBr hrun
    have HL := Lib.hid (fun n => look_c (HR.out.drewN n) hjs)
    have HF := Lib.hid (fun n => fail_c (HR.out.drewN n))
    have HP := Lib.hid (fun w => isPlain_c (Sp.ch (BL s) j) w)
    have HBl := Lib.hid (fun w => isBlank_c (Sp.ch (BL s) j) w)
    by_cases h34 : Sp.ch (BL s) j = 34
    · have h34i : (((Sp.ch (BL s) j).toNat : Int) == 34) = true := by rw [h34]; rfl
      have hlt := ne_end hjs (by decide) h34
      have HU1 := Lib.hid ((Sp.q_shut (x := { x with value := v, half := hf }) Hx.out h34).symm.trans HU.out)
      clear h34
      go_wp2_with (first | (go_at_call 28; refine (HL.out 0).mono ?_; rintro e w' ⟨rfl, n, rfl⟩) | (go_at_call 22; refine (bstr_c (((HB.out.drewN _).set hbB _ _)) (by simp; omega)).mono ?_; rintro e w' ⟨rfl, hb2⟩))
      go_ret
      unfold QuoQ
      refine ⟨gr_below (by repeat (first | exact HG.out | apply gr_drewN | apply gr_set)) hb2 (Nat.le_refl _), .inr ⟨v, j + 1, hf, rfl, by omega, by omega, HU1.out, ?_⟩⟩
      exact Rd.below (by exact Rd.set1 (by repeat (first | exact HR.out | apply Rd.drewN))) hb2 hbB
    · have h34i : (((Sp.ch (BL s) j).toNat : Int) == 34) = false := by
        simp [← UInt8.toNat_inj] at h34 ⊢; omega
      by_cases hfi : Sp.isFi (Sp.ch (BL s) j) = true
      · have hlt : j < s.size := by
          by_cases h : j < s.size
          · exact h
          · rw [Sp.ch_end (by rw [bl_len]; omega)] at hfi; exact absurd hfi (by decide)
        have hpb : Sp.isPl (Sp.ch (BL s) j) = true ∨ (Sp.isPl (Sp.ch (BL s) j) = false ∧ Sp.isBl (Sp.ch (BL s) j) = true) := by
          cases hb : Sp.isBl (Sp.ch (BL s) j)
          · rw [Sp.fi_iff_pl hb] at hfi; exact .inl hfi
          · cases hp : Sp.isPl (Sp.ch (BL s) j)
            · exact .inr ⟨rfl, rfl⟩
            · exact .inl rfl
        by_cases h92 : Sp.ch (BL s) j = 92
        · have h92i : (((Sp.ch (BL s) j).toNat : Int) == 92) = true := by rw [h92]; rfl
          have Hp : Hid (Sp.isPl (Sp.ch (BL s) j) = true) := by rw [h92]; exact (by decide : Sp.isPl 92 = true)
          have HU1 := Lib.hid ((Sp.q_stroke (x := { x with value := v, half := hf }) Hx.out h92).symm.trans HU.out)
          have HE := Lib.hid (fun n => escape_c (HR.out.drewN n) hlt hs { { x with value := v, half := hf } with st := 8 } rfl X HU1.out)
          clear h92 h34 hfi hpb
          go_wp2_with (first | (go_at_call 28; refine (HL.out _).mono ?_; rintro e w' ⟨rfl, n, rfl⟩) | (go_at_call 28; refine (HL.out 0).mono ?_; rintro e w' ⟨rfl, n, rfl⟩) | (go_at_call 19; refine (HP.out _).mono ?_; rw [Hp.out]; rintro e w' ⟨rfl, rfl⟩))
          refine (HE.out _).mono ?_
          rintro e w2 hq
          unfold EscQ at hq
          obtain ⟨hg2, hq⟩ := hq
          have HG2 : Hid (w.grownBy w2 (some b)) := gr_trans (by repeat (first | exact HG.out | apply gr_drewN)) hg2
          have HB2 : Hid (Bd w2 w.heap.size w.heap.size v) := Bd.grown (by repeat (first | exact HB.out | apply Bd.drewN)) hbB hg2
          have hsz2 := HG2.out.size
          clear hg2 c0 c1 f1
          rcases hq with ⟨p, rfl, hX⟩ | ⟨c, j2, hf2, rfl, hj2, hj2s, hrun2, hR2⟩
          · refine ⟨rfl, ?_⟩
            unfold QuoQ
            exact ⟨HG2.out, .inl ⟨p, rfl, hX⟩⟩
          · have HR2 := Lib.hid hR2; clear hR2
            have HU2 := Lib.hid hrun2; clear hrun2
            go_wp2_with fail
            refine (wb_c c HB2.out (by omega) (by omega)).mono ?_
            rintro e w3 ⟨rfl, hB3, hbel⟩
            have hR3 := Rd.below HR2.out hbel hbB
            have c1 := hR3.c1
            have f1 := hR3.f1
            have HR3 := Lib.hid hR3; clear hR3
            have HB3 := Lib.hid hB3; clear hB3
            have HG3 := Lib.hid (gr_below HG2.out hbel (Nat.le_refl _)); clear hbel
            go_wp2
            go_roundw
            case rel =>
              exact ⟨gr_set HG3.out _ _, j2 + 1, v ++ [c], hf2, by omega, by omega, by simp; omega, by rw [Hx.out]; exact HU2.out, HR3.out.set1, HB3.out.set hbB _ _⟩
            case measure => rw [atOf_of HR.out, atOf_of (Rd.set1 HR3.out)]; omega
        · have h92i : (((Sp.ch (BL s) j).toNat : Int) == 92) = false := by
            simp [← UInt8.toNat_inj] at h92 ⊢; omega
          have HU1 := Lib.hid ((Sp.q_plain (x := { x with value := v, half := hf }) Hx.out (by rw [bl_len]; exact hlt) hfi h34 h92).symm.trans HU.out)
          clear h92 h34 hfi
          rcases hpb with hp | ⟨hp, hb⟩
          · have Hp := Lib.hid hp; clear hp
            go_wp2_with (first | (go_at_call 28; refine (HL.out _).mono ?_; rintro e w' ⟨rfl, n, rfl⟩) | (go_at_call 28; refine (HL.out 0).mono ?_; rintro e w' ⟨rfl, n, rfl⟩) | (go_at_call 19; refine (HP.out _).mono ?_; rw [Hp.out]; rintro e w' ⟨rfl, rfl⟩))
            refine (wb_c (Sp.ch (BL s) j) (by repeat (first | exact HB.out | apply Bd.drewN)) (by omega) (by first | omega | (simp; omega))).mono ?_
            rintro e w3 ⟨rfl, hB3, hbel⟩
            have hR3 := Rd.below (by repeat (first | exact HR.out | apply Rd.drewN)) hbel hbB
            clear c0 c1 f1
            have c1 := hR3.c1
            have f1 := hR3.f1
            have HR3 := Lib.hid hR3; clear hR3
            have HB3 := Lib.hid hB3; clear hB3
            have HG3 := Lib.hid (gr_below (by repeat (first | exact HG.out | apply gr_drewN)) hbel (Nat.le_refl _)); clear hbel
            go_wp2
            go_roundw
            case rel =>
              exact ⟨gr_set HG3.out _ _, j + 1, v ++ [Sp.ch (BL s) j], hf, by omega, by omega, by simp; omega, HU1.out, HR3.out.set1, HB3.out.set hbB _ _⟩
            case measure => rw [atOf_of HR.out, atOf_of (Rd.set1 HR3.out)]; omega
          · have Hp := Lib.hid hp; clear hp
            have Hb := Lib.hid hb; clear hb
            go_wp2_with (first | (go_at_call 28; refine (HL.out _).mono ?_; rintro e w' ⟨rfl, n, rfl⟩) | (go_at_call 28; refine (HL.out 0).mono ?_; rintro e w' ⟨rfl, n, rfl⟩) | (go_at_call 19; refine (HP.out _).mono ?_; rw [Hp.out]; rintro e w' ⟨rfl, rfl⟩) | (go_at_call 37; refine (HBl.out _).mono ?_; rw [Hb.out]; rintro e w' ⟨rfl, rfl⟩))
            refine (wb_c (Sp.ch (BL s) j) (by repeat (first | exact HB.out | apply Bd.drewN)) (by omega) (by first | omega | (simp; omega))).mono ?_
            rintro e w3 ⟨rfl, hB3, hbel⟩
            have hR3 := Rd.below (by repeat (first | exact HR.out | apply Rd.drewN)) hbel hbB
            clear c0 c1 f1
            have c1 := hR3.c1
            have f1 := hR3.f1
            have HR3 := Lib.hid hR3; clear hR3
            have HB3 := Lib.hid hB3; clear hB3
            have HG3 := Lib.hid (gr_below (by repeat (first | exact HG.out | apply gr_drewN)) hbel (Nat.le_refl _)); clear hbel
            go_wp2
            go_roundw
            case rel =>
              exact ⟨gr_set HG3.out _ _, j + 1, v ++ [Sp.ch (BL s) j], hf, by omega, by omega, by simp; omega, HU1.out, HR3.out.set1, HB3.out.set hbB _ _⟩
            case measure => rw [atOf_of HR.out, atOf_of (Rd.set1 HR3.out)]; omega
      · have hX : X = .error (j + 1) := by
          rw [← HU.out]
          by_cases he : j = s.size
          · exact Sp.q_end Hx.out (by rw [bl_len]; exact he)
          · exact Sp.q_notfine (by rw [bl_len]; omega) (by simpa using hfi)
        have hp : Sp.isPl (Sp.ch (BL s) j) = false := by
          cases h : Sp.isPl (Sp.ch (BL s) j)
          · rfl
          · exact absurd (pl_or_bl_fi (.inl h)) hfi
        have hb : Sp.isBl (Sp.ch (BL s) j) = false := by
          cases h : Sp.isBl (Sp.ch (BL s) j)
          · rfl
          · exact absurd (pl_or_bl_fi (.inr h)) hfi
        have Hp := Lib.hid hp
        have Hb := Lib.hid hb
        have HX := Lib.hid hX
        clear hp hb hX hfi h34
        go_wp2_with (first | (go_at_call 28; refine (HL.out _).mono ?_; rintro e w' ⟨rfl, n, rfl⟩) | (go_at_call 28; refine (HL.out 0).mono ?_; rintro e w' ⟨rfl, n, rfl⟩) | (go_at_call 19; refine (HP.out _).mono ?_; rw [Hp.out]; rintro e w' ⟨rfl, rfl⟩) | (go_at_call 37; refine (HBl.out _).mono ?_; rw [Hb.out]; rintro e w' ⟨rfl, rfl⟩) | (go_at_call 29; refine (HF.out _).mono ?_; rintro e w' ⟨rfl, rfl⟩))
        refine ⟨rfl, ?_⟩
        unfold QuoQ
        exact ⟨by repeat (first | exact HG.out | apply gr_drewN), .inl ⟨j, rfl, HX.out⟩⟩

end
end Go.Proofs.Ytpilifhdhgdbjaa
