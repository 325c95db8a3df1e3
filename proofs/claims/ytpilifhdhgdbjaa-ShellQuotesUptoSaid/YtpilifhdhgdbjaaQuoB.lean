/- The shell's Quote, walked. -/
import Derived.Test.YtpilifhdhgdbjaaQuoA
import Derived.Test.YtpilifhdhgdbjaaAns
namespace Go.Proofs.Ytpilifhdhgdbjaa
open Go.RowKit

theorem bs_app (a b : Sp.Bs) : bs a ++ bs b = bs (a ++ b) := by
  apply ByteArray.ext; simp [bs]
theorem take_ch (L : Sp.Bs) (k : Nat) (h : k < L.length) : L.take (k + 1) = L.take k ++ [Sp.ch L k] := by
  rw [List.take_succ_eq_append_getElem h]; simp [Sp.ch, h]
theorem body_snoc (L : Sp.Bs) (k : Nat) (h : k < L.length) : (L.take (k + 1)).flatMap Sp.qb = (L.take k).flatMap Sp.qb ++ Sp.qb (Sp.ch L k) := by
  rw [take_ch L k h]; simp

/-- What is written up to a byte. -/
def upto (L : Sp.Bs) (k : Nat) : Sp.Bs := 34 :: (L.take k).flatMap Sp.qb
theorem upto_zero (L : Sp.Bs) : upto L 0 = [34] := by simp [upto]
theorem upto_snoc (L : Sp.Bs) (k : Nat) (h : k < L.length) : upto L (k + 1) = upto L k ++ Sp.qb (Sp.ch L k) := by
  unfold upto; rw [body_snoc L k h]; simp
theorem upto_all (L : Sp.Bs) : upto L L.length ++ [34] = Sp.quo L := by simp [upto, Sp.quo]
theorem upto_len (L : Sp.Bs) (k : Nat) (h : k ≤ L.length) : (upto L k).length ≤ 4 * L.length + 1 := by
  have := Sp.body_len (L.take k)
  have h2 : (L.take k).length ≤ L.length := List.length_take_le' _ _
  unfold upto; simp at this ⊢; omega

set_option maxHeartbeats 4000000 in
set_option maxRecDepth 20000 in
theorem quote_c {s : ByteArray} (hs : s.size ≤ 1048576) (w : World) :
    Calls Try.prog 9 #[.string s] w fun e w' => e = .returned (.string (bs (Sp.quo (BL s)))) ∧ Below w.heap.size w w' := by
  have hL : (BL s).length = s.size := bl_len s
  have hmax : s.size ≤ 1048576 := hs
  go_enter Try.func9, Try.ntmps9
  go_wp2_with fail
  generalize hwo : w.alloc (.cells #[.pointer none, .slice none 0 0] 47) = wo
  have HBo : Bd wo w.heap.size w.heap.size [] := by rw [← hwo]; exact Bd.new w
  have HGo : Below w.heap.size w wo := by rw [← hwo]; exact (Below.refl _ _).alloc (Nat.le_refl _) _
  have hst := HGo.size
  refine (wb_c 34 HBo (by simp) hst).mono ?_
  rintro e w1 ⟨rfl, hB1, hb1⟩
  have HB1 := Lib.hid hB1
  have HG1 := Lib.hid (HGo.trans hb1)
  have HL := Lib.hid hL
  clear hwo hB1 hb1 HGo HBo hst hL hs
  go_wp2_with fail
  go_loopw [9] (fun i wr => ∃ k : Nat, k ≤ s.size ∧ i = .int .i64 k ∧ Below w.heap.size w wr ∧ Bd wr w.heap.size w.heap.size (upto (BL s) k)) (fun i _ => s.size - (intOf i).toNat)
  case atStart => exact ⟨0, by omega, rfl, HG1.out, by simpa [upto_zero] using HB1.out⟩
  case round =>
    obtain ⟨k, hk, rfl, hg, hB⟩ := hrel
    clear HG1 HB1
    have hul := upto_len (BL s) k (by rw [HL.out]; exact hk)
    rw [HL.out] at hul
    have HG := Lib.hid hg
    have HB := Lib.hid hB
    clear hg hB
    by_cases hlt : k < s.size
    · have hlt' : (k : Int) < (s.size : Int) := by omega
      have hsn := Lib.hid (upto_snoc (BL s) k (by rw [HL.out]; exact hlt))
      have HCH := Lib.hid (ch_get s k hlt)
      have hsz := HG.out.size
      have HP := Lib.hid (fun w => isPlain_c s[k] w)
      by_cases h1 : s[k] = 34 ∨ s[k] = 92
      · have HQ : Hid (Sp.qb s[k] = [92, s[k]]) := Lib.hid (by unfold Sp.qb; rw [if_pos h1])
        rcases h1 with h1 | h1
        · have h34 := keq (n := 34) (by omega) h1
          clear h1
          go_wp2_with fail
          refine (wb_c 92 HB.out (by omega) HG.out.size).mono ?_
          rintro e w2 ⟨rfl, hB2, hb2⟩
          have HB2 := Lib.hid hB2
          have HG2 := Lib.hid (HG.out.trans hb2)
          clear hB2 hb2
          go_wp2_with fail
          refine (wb_c s[k] HB2.out (by simp; omega) HG2.out.size).mono ?_
          rintro e w3 ⟨rfl, hB3, hb3⟩
          have HB3 := Lib.hid hB3
          have HG3 := Lib.hid (HG2.out.trans hb3)
          clear hB3 hb3
          go_wp2
          go_roundw
          case rel => exact ⟨k + 1, by omega, by go_num, HG3.out, by rw [hsn.out, ← HCH.out, HQ.out]; simpa using HB3.out⟩
          case measure => simp [intOf]; omega
        · have h34 := kne (u := s[k]) (n := 34) (by omega) (by rw [h1]; decide)
          have h92 := keq (n := 92) (by omega) h1
          clear h1
          go_wp2_with fail
          refine (wb_c 92 HB.out (by omega) HG.out.size).mono ?_
          rintro e w2 ⟨rfl, hB2, hb2⟩
          have HB2 := Lib.hid hB2
          have HG2 := Lib.hid (HG.out.trans hb2)
          clear hB2 hb2
          go_wp2_with fail
          refine (wb_c s[k] HB2.out (by simp; omega) HG2.out.size).mono ?_
          rintro e w3 ⟨rfl, hB3, hb3⟩
          have HB3 := Lib.hid hB3
          have HG3 := Lib.hid (HG2.out.trans hb3)
          clear hB3 hb3
          go_wp2
          go_roundw
          case rel => exact ⟨k + 1, by omega, by go_num, HG3.out, by rw [hsn.out, ← HCH.out, HQ.out]; simpa using HB3.out⟩
          case measure => simp [intOf]; omega
      · have n34 : s[k] ≠ 34 := fun e => h1 (.inl e)
        have n92 : s[k] ≠ 92 := fun e => h1 (.inr e)
        have h34 := kne (u := s[k]) (n := 34) (by omega) n34
        have h92 := kne (u := s[k]) (n := 92) (by omega) n92
        by_cases h2 : 32 ≤ s[k] ∧ s[k] ≤ 126
        · have HQ : Hid (Sp.qb s[k] = [s[k]]) := Lib.hid (by unfold Sp.qb; rw [if_neg h1, if_pos h2])
          clear h1 n34 n92
          by_cases h32 : s[k] = 32
          · have hp : Hid (Sp.isPl s[k] = false) := Lib.hid (by rw [h32]; rfl)
            have h32i := keq (n := 32) (by omega) h32
            clear h32 h2
            go_wp2_with (go_at_call 19; refine (HP.out _).mono ?_; rw [hp.out]; rintro e w' ⟨rfl, rfl⟩)
            refine (wb_c s[k] HB.out (by omega) HG.out.size).mono ?_
            rintro e w3 ⟨rfl, hB3, hb3⟩
            have HB3 := Lib.hid hB3
            have HG3 := Lib.hid (HG.out.trans hb3)
            clear hB3 hb3
            go_wp2
            go_roundw
            case rel => exact ⟨k + 1, by omega, by go_num, HG3.out, by rw [hsn.out, ← HCH.out, HQ.out]; simpa using HB3.out⟩
            case measure => simp [intOf]; omega
          · have hp : Hid (Sp.isPl s[k] = true) := Lib.hid (by
              unfold Sp.isPl
              have := h2.1
              simp [UInt8.le_iff_toNat_le, UInt8.lt_iff_toNat_lt, ← UInt8.toNat_inj] at h2 h32 ⊢; omega)
            clear h32 h2
            go_wp2_with (go_at_call 19; refine (HP.out _).mono ?_; rw [hp.out]; rintro e w' ⟨rfl, rfl⟩)
            refine (wb_c s[k] HB.out (by omega) HG.out.size).mono ?_
            rintro e w3 ⟨rfl, hB3, hb3⟩
            have HB3 := Lib.hid hB3
            have HG3 := Lib.hid (HG.out.trans hb3)
            clear hB3 hb3
            go_wp2
            go_roundw
            case rel => exact ⟨k + 1, by omega, by go_num, HG3.out, by rw [hsn.out, ← HCH.out, HQ.out]; simpa using HB3.out⟩
            case measure => simp [intOf]; omega
        · have HQ : Hid (Sp.qb s[k] = [92, 120, Sp.hexd (s[k].toNat / 16), Sp.hexd (s[k].toNat % 16)]) := Lib.hid (by unfold Sp.qb; rw [if_neg h1, if_neg h2])
          have hp : Hid (Sp.isPl s[k] = false) := Lib.hid (by
            unfold Sp.isPl
            simp [UInt8.le_iff_toNat_le, UInt8.lt_iff_toNat_lt] at h2 ⊢; omega)
          have h32i := kne (u := s[k]) (n := 32) (by omega) (fun e => h2 (by rw [e]; decide))
          clear h1 n34 n92 h2
          go_wp2_with (go_at_call 19; refine (HP.out _).mono ?_; rw [hp.out]; rintro e w' ⟨rfl, rfl⟩)
          refine (hex_c (c := s[k]) (W := wr.alloc (.cells #[.int .u8 s[k].toNat] 5)) (g := wr.heap.size) (World.cell?_alloc_mark _ _ 5 (0, 0) 0) (by simp)).mono ?_
          rintro e w2 ⟨rfl, hb2⟩
          have HG2 : Hid (Below w.heap.size w w2) := Lib.hid (HG.out.trans ((((Below.refl _ _).alloc hsz _).trans (hb2.mono (by simp; omega)))))
          have HB2 : Hid (Bd w2 w.heap.size w.heap.size (upto (BL s) k)) := Lib.hid (HB.out.other fun q hq hlt => by rw [hb2.block q (by simp; omega), Below.heap_alloc _ _ _ hlt])
          have hone : (bs [Sp.hexd (s[k].toNat / 16), Sp.hexd (s[k].toNat % 16)]).size = 2 := rfl
          clear hb2
          go_wp2_with fail
          rw [show (⟨#[92, 120]⟩ : ByteArray) ++ bs [Sp.hexd (s[k].toNat / 16), Sp.hexd (s[k].toNat % 16)] = bs [92, 120, Sp.hexd (s[k].toNat / 16), Sp.hexd (s[k].toNat % 16)] from bs_app [92, 120] _]
          refine (ws_c HB2.out (by simp; omega) HG2.out.size).mono ?_
          rintro e w3 ⟨rfl, hB3, hb3⟩
          have HB3 := Lib.hid hB3
          have HG3 := Lib.hid (HG2.out.trans hb3)
          clear hB3 hb3
          go_wp2
          go_roundw
          case rel => exact ⟨k + 1, by omega, by go_num, HG3.out, by rw [hsn.out, ← HCH.out, HQ.out]; exact HB3.out⟩
          case measure => simp [intOf]; omega
    · have hlt' : ¬ (k : Int) < (s.size : Int) := by omega
      obtain rfl : k = s.size := by omega
      have hall := Lib.hid (upto_all (BL s))
      have hsz := HG.out.size
      go_wp2_with fail
      refine (wb_c 34 HB.out (by omega) hsz).mono ?_
      rintro e w2 ⟨rfl, hB2, hb2⟩
      have HG2 := Lib.hid (HG.out.trans hb2)
      have HB2 : Hid (Bd w2 w.heap.size w.heap.size (Sp.quo (BL s))) := Lib.hid (by
        have h := hB2
        rw [show upto (BL s) s.size = upto (BL s) (BL s).length by rw [HL.out], hall.out] at h; exact h)
      clear hB2 hb2
      go_wp2_with (go_at_call 22; refine (bstr_c HB2.out HG2.out.size).mono ?_; rintro e w' ⟨rfl, hb3⟩)
      go_ret
      exact ⟨rfl, HG2.out.trans hb3⟩

end Go.Proofs.Ytpilifhdhgdbjaa
