/- The shell's reader, walked: escape. -/
import Derived.Test.YtpilifhdhgdbjaaBuild
namespace Go.Proofs.Ytpilifhdhgdbjaa
open Go.RowKit

/-- The sixteen digits. -/
def digs : ByteArray := ⟨#[48, 49, 50, 51, 52, 53, 54, 55, 56, 57, 97, 98, 99, 100, 101, 102]⟩

/-- Where a byte, made small, stands among the digits. -/
def dOf (u : UInt8) : Int := Lib.indexByte digs.data.toList (u ||| 32)

theorem hex_all : ∀ n : Fin 256, ((Sp.isDi (UInt8.ofNat n) || Sp.isLe (UInt8.ofNat n ||| 32)) && !decide (dOf (UInt8.ofNat n) < 0)) = !decide (Sp.hexa (UInt8.ofNat n) < 0) ∧
    (Sp.hexa (UInt8.ofNat n) < 0 ∨ dOf (UInt8.ofNat n) = Sp.hexa (UInt8.ofNat n)) := by decide +kernel

theorem hex_u (u : UInt8) : ((Sp.isDi u || Sp.isLe (u ||| 32)) && !decide (dOf u < 0)) = !decide (Sp.hexa u < 0) ∧ (Sp.hexa u < 0 ∨ dOf u = Sp.hexa u) := by
  have h := hex_all ⟨u.toNat, u.toNat_lt⟩
  simpa using h

theorem hex_one {L : Sp.Bs} {x : Sp.St} {X : Except Nat Sp.St} {p : Nat} {u : UInt8} (hu : Sp.ch L p = u) (hlt : p < L.length) (h0 : 0 ≤ Sp.hexa u)
    (hr : Sp.runP L { x with st := 9 } p = X) : Sp.runP L { x with st := 10, half := Sp.hexa u } (p + 1) = X := by
  subst hu; rw [← hr, Sp.h1_ok rfl hlt h0]
theorem hex_two {L : Sp.Bs} {x : Sp.St} {X : Except Nat Sp.St} {p : Nat} {u : UInt8} {vv : Int} (hu : Sp.ch L p = u) (hlt : p < L.length) (h0 : 0 ≤ Sp.hexa u)
    (hr : Sp.runP L { x with st := 10, half := vv } p = X) :
    Sp.runP L { x with st := 7, value := x.value ++ [(16 * vv + Sp.hexa u).toNat.toUInt8], half := vv } (p + 1) = X := by
  subst hu; rw [← hr, Sp.h2_ok rfl hlt h0]

theorem or_all : ∀ n : Fin 256, bits BinOp.or IntKind.u8 ((UInt8.ofNat n).toNat : Int) 32 = ((UInt8.ofNat n ||| 32).toNat : Int) := by decide +kernel
theorem or_u (u : UInt8) : bits BinOp.or IntKind.u8 (u.toNat : Int) 32 = ((u ||| 32).toNat : Int) := by
  have h := or_all ⟨u.toNat, u.toNat_lt⟩
  simpa using h

theorem ib_c (u : UInt8) (w : World) : Calls Try.prog 42 #[.string ⟨#[48, 49, 50, 51, 52, 53, 54, 55, 56, 57, 97, 98, 99, 100, 101, 102]⟩, .int .u8 (bits BinOp.or IntKind.u8 (u.toNat : Int) 32)] w
    fun e w' => e = .returned (.int .i64 (dOf u)) ∧ w = w' := by
  rw [or_u]
  refine (Try.strings_IndexByte digs _ w).mono ?_
  rintro e w' ⟨rfl, rfl⟩
  refine ⟨ret_int ?_, rfl⟩
  unfold dOf
  simp

theorem isLetter_or (u : UInt8) (w : World) : Calls Try.prog 35 #[.int .u8 (bits BinOp.or IntKind.u8 (u.toNat : Int) 32)] w fun e w' => e = .returned (.bool (Sp.isLe (u ||| 32))) ∧ w = w' := by
  rw [or_u]; exact isLetter_c _ w

section
variable {w : World} {b i : Nat} {s : ByteArray}

/-- What escape answers. -/
def EscQ (b : Nat) (s : ByteArray) (i : Nat) (x : Sp.St) (X : Except Nat Sp.St) (w : World) (e : Ending) (w' : World) : Prop :=
  w.grownBy w' (some b) ∧
      ((∃ p, e = .panicked (flt p) ∧ X = .error (p + 1)) ∨
       (∃ (c : UInt8) (j : Nat) (hf : Int), e = .returned (.int .u8 c.toNat) ∧ i < j ∧ j < s.size ∧ Sp.runP (BL s) { x with st := 7, value := x.value ++ [c], half := hf } (j + 1) = X ∧ Rd w' b s j))

set_option maxHeartbeats 2000000 in
theorem escape_c (hR : Rd w b s i) (hi : i < s.size) (hs : s.size ≤ 4096) (x : Sp.St) (hx : x.st = 8) (X : Except Nat Sp.St) (hX : Sp.runP (BL s) x (i + 1) = X) :
    Calls Try.prog 41 #[.pointer (some ⟨b, 0, none⟩)] w (EscQ b s i x X w) := by
  have c0 := hR.c0
  have c1 := hR.c1
  have f1 := hR.f1
  have HR := Lib.hid hR
  have HL := Lib.hid (fun n => look_c ((hR.drewN n).set1) (by omega))
  clear hR
  by_cases h120 : Sp.ch (BL s) (i + 1) = 120
  · have h120i : ((Sp.ch (BL s) (i + 1)).toNat : Int) = 120 := by rw [h120]; rfl
    have hlt1 := ne_end (s := s) (by omega) (by decide) h120
    have H120 := Lib.hid h120; clear h120
    have H120i := Lib.hid h120i; clear h120i
    have HU0 := Lib.hid ((Sp.s_x hx H120.out).symm.trans hX)
    clear hX hx
    go_enter Try.func41, Try.ntmps41
    go_wp2_with (go_at_call 28; refine (HL.out 0).mono ?_; rw [H120i.out]; rintro e w' ⟨rfl, n, rfl⟩)
    generalize hwo : World.drewN (World.setCell _ _ _) _ = wo
    have HGo : Hid (w.grownBy wo (some b)) := by rw [← hwo]; repeat (first | exact gr_refl _ _ | apply gr_drewN | apply gr_set)
    have HRo : Hid (Rd wo b s (i + 1)) := by rw [← hwo]; exact ((HR.out.drewN _).set1).drewN _
    clear hwo c0 c1 f1 HL HR
    go_loopw [4, 25] (fun v k wr => w.grownBy wr (some b) ∧ ∃ (q : Nat) (vv : Int), k = .int .i64 q ∧ v = .int .i64 vv ∧ q ≤ 2 ∧ i + 1 + q < s.size ∧ Rd wr b s (i + 1 + q) ∧
        ((q = 0 ∧ vv = 0 ∧ Sp.runP (BL s) { x with st := 9 } (i + 2) = X) ∨ (q = 1 ∧ 0 ≤ vv ∧ vv ≤ 15 ∧ Sp.runP (BL s) { x with st := 10, half := vv } (i + 3) = X) ∨
         (q = 2 ∧ ∃ (c : UInt8) (hf : Int), vv = c.toNat ∧ Sp.runP (BL s) { x with st := 7, value := x.value ++ [c], half := hf } (i + 4) = X)))
      (fun _ k _ => 2 - (intOf k).toNat)
    case atStart => exact ⟨HGo.out, 0, 0, rfl, rfl, by omega, hlt1, HRo.out, .inl ⟨rfl, rfl, HU0.out⟩⟩
    case round =>
      clear HGo HRo
      obtain ⟨hg, q, vv, rfl, rfl, hq2, hlt, hRr, hcase⟩ := hrel
      have HC := Lib.hid hcase; clear hcase
      have HG := Lib.hid hg; clear hg
      by_cases hq : q < 2
      · have c1 := hRr.c1
        have f1 := hRr.f1
        have c0 := hRr.c0
        have HRr := Lib.hid hRr; clear hRr
        have HL := Lib.hid (fun n => look_c ((HRr.out.drewN n).set1) (by omega))
        have HL2 := Lib.hid (fun n m => look_c (((HRr.out.drewN n).set1).drewN m) (by omega))
        have HF := Lib.hid (fun n => fail_c (((HRr.out.drewN 0).set1).drewN n))
        have hx9 : Sp.hexa (Sp.ch (BL s) (i + 1 + q + 1)) < 0 → X = .error (i + 1 + q + 1 + 1) := by
          intro h
          rcases HC.out with ⟨h0, _, hr⟩ | ⟨h0, _, _, hr⟩ | ⟨h0, _⟩
          · rw [← hr]; subst h0; exact Sp.h_bad (.inl rfl) (by rw [bl_len]; omega) h
          · rw [← hr]; subst h0; exact Sp.h_bad (.inr rfl) (by rw [bl_len]; omega) h
          · omega
        have HX9 := Lib.hid hx9; clear hx9
        generalize hu : Sp.ch (BL s) (i + 1 + q + 1) = u at *
        have HUu := Lib.hid hu; clear hu
        have HI := Lib.hid (fun w => ib_c u w)
        have HLo := Lib.hid (fun w => isLetter_or u w)
        have HD := Lib.hid (fun w => isDigit_c u w)
        obtain ⟨hex1, hex2⟩ := hex_u u
        have hlt2 : 0 ≤ Sp.hexa u → i + 1 + q + 1 < s.size := by
          intro h
          by_cases h' : i + 1 + q + 1 < s.size
          · exact h'
          · have h3 := HUu.out; rw [Sp.ch_end (by rw [bl_len]; omega)] at h3; subst h3; exact absurd h (by decide)
        have hx15 := Sp.hex_le u
        have hnext : 0 ≤ Sp.hexa u → ∃ vw : Int, vw = 16 * vv + Sp.hexa u ∧ ((q + 1 = 0 ∧ vw = 0 ∧ Sp.runP (BL s) { x with st := 9 } (i + 2) = X) ∨ (q + 1 = 1 ∧ 0 ≤ vw ∧ vw ≤ 15 ∧ Sp.runP (BL s) { x with st := 10, half := vw } (i + 3) = X) ∨
            (q + 1 = 2 ∧ ∃ (c : UInt8) (hf : Int), vw = c.toNat ∧ Sp.runP (BL s) { x with st := 7, value := x.value ++ [c], half := hf } (i + 4) = X)) := by
          intro h0
          have hl := hlt2 h0
          refine ⟨_, rfl, ?_⟩
          rcases HC.out with ⟨h1, h2, hr⟩ | ⟨h1, h2, h3, hr⟩ | ⟨h1, _⟩
          · subst h1; subst h2
            have hl' : i + 2 < s.size := hl
            exact .inr (.inl ⟨rfl, by omega, by omega, by
              have h := hex_one (p := i + 2) HUu.out (by rw [bl_len]; exact hl') h0 hr
              simpa using h⟩)
          · subst h1
            have hl' : i + 3 < s.size := hl
            refine .inr (.inr ⟨rfl, (16 * vv + Sp.hexa u).toNat.toUInt8, vv, ?_, ?_⟩)
            · simp; omega
            · exact hex_two (p := i + 3) HUu.out (by rw [bl_len]; exact hl') h0 hr
          · omega
        have HN := Lib.hid hnext
        have HL2' := Lib.hid hlt2
        clear hnext hlt2
        have hvv : 0 ≤ vv ∧ vv ≤ 15 := by
          rcases HC.out with ⟨_, h2, _⟩ | ⟨_, h2, h3, _⟩ | ⟨h1, _⟩
          · omega
          · omega
          · omega
        obtain ⟨hv0, hv15⟩ := hvv
        by_cases hh : Sp.hexa u < 0
        · have HX := Lib.hid (HX9.out hh)
          have hall : (Sp.isDi u || Sp.isLe (u ||| 32)) = false ∨ decide (dOf u < 0) = true := by
            have h := hex1
            rw [show decide (Sp.hexa u < 0) = true from by simpa using hh] at h
            cases hd : (Sp.isDi u || Sp.isLe (u ||| 32)) <;> cases hz : decide (dOf u < 0) <;> rw [hd, hz] at h <;> simp at h ⊢
          clear hex1 hex2
          generalize dOf u = d at *
          cases e1 : Sp.isDi u
          · cases e2 : Sp.isLe (u ||| 32)
            · clear hall
              have E1 := Lib.hid e1; clear e1
              have E2 := Lib.hid e2; clear e2
              by_cases hd0 : d < 0
              all_goals
                go_wp2_with (first | (go_at_call 28; refine (HL.out 0).mono ?_; rintro e w' ⟨rfl, n, rfl⟩) | (go_at_call 28; refine (HL2.out 0 _).mono ?_; rintro e w' ⟨rfl, n, rfl⟩) | (go_at_call 42; refine (HI.out _).mono ?_; rintro e w' ⟨rfl, rfl⟩) | (go_at_call 40; refine (HD.out _).mono ?_; rw [E1.out]; rintro e w' ⟨rfl, rfl⟩) | (go_at_call 35; refine (HLo.out _).mono ?_; rw [E2.out]; rintro e w' ⟨rfl, rfl⟩) | (go_at_call 29; refine (HF.out _).mono ?_; rintro e w' ⟨rfl, rfl⟩))
                refine ⟨rfl, ?_⟩
                unfold EscQ
                exact ⟨by repeat (first | exact HG.out | apply gr_drewN | apply gr_set), .inl ⟨_, rfl, HX.out⟩⟩
            · have hd0 : d < 0 := by rw [e1, e2] at hall; simpa using hall
              clear hall
              have E1 := Lib.hid e1; clear e1
              have E2 := Lib.hid e2; clear e2
              go_wp2_with (first | (go_at_call 28; refine (HL.out 0).mono ?_; rintro e w' ⟨rfl, n, rfl⟩) | (go_at_call 28; refine (HL2.out 0 _).mono ?_; rintro e w' ⟨rfl, n, rfl⟩) | (go_at_call 42; refine (HI.out _).mono ?_; rintro e w' ⟨rfl, rfl⟩) | (go_at_call 40; refine (HD.out _).mono ?_; rw [E1.out]; rintro e w' ⟨rfl, rfl⟩) | (go_at_call 35; refine (HLo.out _).mono ?_; rw [E2.out]; rintro e w' ⟨rfl, rfl⟩) | (go_at_call 29; refine (HF.out _).mono ?_; rintro e w' ⟨rfl, rfl⟩))
              refine ⟨rfl, ?_⟩
              unfold EscQ
              exact ⟨by repeat (first | exact HG.out | apply gr_drewN | apply gr_set), .inl ⟨_, rfl, HX.out⟩⟩
          · have hd0 : d < 0 := by rw [e1] at hall; simpa using hall
            clear hall
            have E1 := Lib.hid e1; clear e1
            go_wp2_with (first | (go_at_call 28; refine (HL.out 0).mono ?_; rintro e w' ⟨rfl, n, rfl⟩) | (go_at_call 28; refine (HL2.out 0 _).mono ?_; rintro e w' ⟨rfl, n, rfl⟩) | (go_at_call 42; refine (HI.out _).mono ?_; rintro e w' ⟨rfl, rfl⟩) | (go_at_call 40; refine (HD.out _).mono ?_; rw [E1.out]; rintro e w' ⟨rfl, rfl⟩) | (go_at_call 29; refine (HF.out _).mono ?_; rintro e w' ⟨rfl, rfl⟩))
            refine ⟨rfl, ?_⟩
            unfold EscQ
            exact ⟨by repeat (first | exact HG.out | apply gr_drewN | apply gr_set), .inl ⟨_, rfl, HX.out⟩⟩
        · have hh0 : 0 ≤ Sp.hexa u := by omega
          have hlq := HL2'.out hh0
          have HNN := Lib.hid (HN.out hh0)
          have hd : dOf u = Sp.hexa u := by rcases hex2 with h | h; omega; exact h
          have hall : (Sp.isDi u || Sp.isLe (u ||| 32)) = true := by
            have h := hex1
            rw [show decide (Sp.hexa u < 0) = false from by simpa using hh0, hd, show decide (Sp.hexa u < 0) = false from by simpa using hh0] at h
            simpa using h
          rw [hd] at HI
          clear hd hex1 hex2 hh HN HL2' HX9
          generalize Sp.hexa u = d at *
          cases e1 : Sp.isDi u
          · have e2 : Sp.isLe (u ||| 32) = true := by rw [e1] at hall; simpa using hall
            clear hall
            have E1 := Lib.hid e1; clear e1
            have E2 := Lib.hid e2; clear e2
            go_wp2_with (first | (go_at_call 28; refine (HL.out 0).mono ?_; rintro e w' ⟨rfl, n, rfl⟩) | (go_at_call 28; refine (HL2.out 0 _).mono ?_; rintro e w' ⟨rfl, n, rfl⟩) | (go_at_call 42; refine (HI.out _).mono ?_; rintro e w' ⟨rfl, rfl⟩) | (go_at_call 40; refine (HD.out _).mono ?_; rw [E1.out]; rintro e w' ⟨rfl, rfl⟩) | (go_at_call 35; refine (HLo.out _).mono ?_; rw [E2.out]; rintro e w' ⟨rfl, rfl⟩))
            go_roundw
            case rel =>
              obtain ⟨vw, hvw, hc⟩ := HNN.out
              exact ⟨by repeat (first | exact HG.out | apply gr_drewN | apply gr_set), q + 1, vw, by go_num, by rw [hvw], by omega, by omega, by repeat (first | exact (HRr.out.drewN 0).set1 | apply Rd.drewN), hc⟩
            case measure => simp [intOf]; omega
          · clear hall
            have E1 := Lib.hid e1; clear e1
            go_wp2_with (first | (go_at_call 28; refine (HL.out 0).mono ?_; rintro e w' ⟨rfl, n, rfl⟩) | (go_at_call 28; refine (HL2.out 0 _).mono ?_; rintro e w' ⟨rfl, n, rfl⟩) | (go_at_call 42; refine (HI.out _).mono ?_; rintro e w' ⟨rfl, rfl⟩) | (go_at_call 40; refine (HD.out _).mono ?_; rw [E1.out]; rintro e w' ⟨rfl, rfl⟩))
            go_roundw
            case rel =>
              obtain ⟨vw, hvw, hc⟩ := HNN.out
              exact ⟨by repeat (first | exact HG.out | apply gr_drewN | apply gr_set), q + 1, vw, by go_num, by rw [hvw], by omega, by omega, by repeat (first | exact (HRr.out.drewN 0).set1 | apply Rd.drewN), hc⟩
            case measure => simp [intOf]; omega
      · obtain rfl : q = 2 := by omega
        rcases HC.out with ⟨h1, _⟩ | ⟨h1, _⟩ | ⟨_, c, hf, rfl, hr⟩
        · omega
        · omega
        · have HRr := Lib.hid hRr; clear hRr
          have HU := Lib.hid hr; clear hr
          clear HC
          have hc := u8_lt c
          go_wp2
          go_ret
          unfold EscQ
          exact ⟨HG.out, .inr ⟨c, i + 3, hf, rfl, by omega, by omega, HU.out, HRr.out⟩⟩
  · have h120i : (((Sp.ch (BL s) (i + 1)).toNat : Int) == 120) = false := by
      simp [← UInt8.toNat_inj] at h120 ⊢; omega
    by_cases h34 : Sp.ch (BL s) (i + 1) = 34
    · have h34i : ((Sp.ch (BL s) (i + 1)).toNat : Int) = 34 := by rw [h34]; rfl
      have hlt1 := ne_end (s := s) (by omega) (by decide) h34
      have HU := Lib.hid ((Sp.s_same hx (by rw [bl_len]; exact hlt1) (.inl h34)).symm.trans hX)
      have H34 := Lib.hid h34; clear h34
      have H34i := Lib.hid h34i; clear h34i h120i h120 hX hx
      go_enter Try.func41, Try.ntmps41
      go_wp2_with (go_at_call 28; refine (HL.out 0).mono ?_; rw [H34i.out]; rintro e w' ⟨rfl, n, rfl⟩)
      go_ret
      unfold EscQ
      exact ⟨by repeat (first | exact gr_refl _ _ | apply gr_drewN | apply gr_set), .inr ⟨34, i + 1, x.half, rfl, by omega, hlt1, by have h := HU.out; rw [H34.out] at h; exact h, by exact Rd.drewN (Rd.set1 (by repeat (first | exact HR.out | apply Rd.drewN))) _⟩⟩
    · have h34i : (((Sp.ch (BL s) (i + 1)).toNat : Int) == 34) = false := by
        simp [← UInt8.toNat_inj] at h34 ⊢; omega
      by_cases h92 : Sp.ch (BL s) (i + 1) = 92
      · have h92i : ((Sp.ch (BL s) (i + 1)).toNat : Int) = 92 := by rw [h92]; rfl
        have hlt1 := ne_end (s := s) (by omega) (by decide) h92
        have HU := Lib.hid ((Sp.s_same hx (by rw [bl_len]; exact hlt1) (.inr h92)).symm.trans hX)
        have H92 := Lib.hid h92; clear h92
        have H92i := Lib.hid h92i; clear h92i h120i h120 hX hx h34i h34
        go_enter Try.func41, Try.ntmps41
        go_wp2_with (go_at_call 28; refine (HL.out 0).mono ?_; rw [H92i.out]; rintro e w' ⟨rfl, n, rfl⟩)
        go_ret
        unfold EscQ
        exact ⟨by repeat (first | exact gr_refl _ _ | apply gr_drewN | apply gr_set), .inr ⟨92, i + 1, x.half, rfl, by omega, hlt1, by have h := HU.out; rw [H92.out] at h; exact h, by exact Rd.drewN (Rd.set1 (by repeat (first | exact HR.out | apply Rd.drewN))) _⟩⟩
      · have h92i : (((Sp.ch (BL s) (i + 1)).toNat : Int) == 92) = false := by
          simp [← UInt8.toNat_inj] at h92 ⊢; omega
        have HX := Lib.hid (hX.symm.trans (Sp.s_bad hx (by rw [bl_len]; omega) h34 h92 h120))
        have HF := Lib.hid (fun n => fail_c (((HR.out.drewN 0).set1).drewN n))
        clear hX hx h34 h92 h120
        go_enter Try.func41, Try.ntmps41
        go_wp2_with (first | (go_at_call 28; refine (HL.out 0).mono ?_; rintro e w' ⟨rfl, n, rfl⟩) | (go_at_call 29; refine (HF.out _).mono ?_; rintro e w' ⟨rfl, rfl⟩))
        refine ⟨rfl, ?_⟩
        unfold EscQ
        exact ⟨by repeat (first | exact gr_refl _ _ | apply gr_drewN | apply gr_set), .inl ⟨_, rfl, HX.out⟩⟩

end
end Go.Proofs.Ytpilifhdhgdbjaa
