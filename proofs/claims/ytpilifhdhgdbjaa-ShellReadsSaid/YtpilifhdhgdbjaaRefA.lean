/- The reference's reader, walked: its predicates on bytes. -/
import Derived.Test.YtpilifhdhgdbjaaBase
namespace Go.Proofs.Ytpilifhdhgdbjaa
open Go.RowKit

theorem rblank_c (u : UInt8) (w : World) : Calls Try.prog 12 #[.int .u8 u.toNat] w fun e w' => e = .returned (.bool (Sp.isBl u)) ∧ w = w' := by
  have hb := isBl_i u
  generalize (u.toNat : Int) = c at *
  generalize Sp.isBl u = r at *
  have H := Lib.hid hb; clear hb
  cases h1 : (c == 32) <;> (go_enter Try.func12, Try.ntmps12; go_wp2; go_ret; exact ⟨ret_bool (by rw [H.out, h1]; simp), rfl⟩)

theorem rletter_c (u : UInt8) (w : World) : Calls Try.prog 13 #[.int .u8 u.toNat] w fun e w' => e = .returned (.bool (Sp.isLe u)) ∧ w = w' := by
  have hb := isLe_i u
  generalize (u.toNat : Int) = c at *
  generalize Sp.isLe u = r at *
  have H := Lib.hid hb; clear hb
  cases h1 : decide (97 ≤ c) <;> (go_enter Try.func13, Try.ntmps13; go_wp2; go_ret; exact ⟨ret_bool (by rw [H.out, h1]; simp), rfl⟩)

theorem rdigit_c (u : UInt8) (w : World) : Calls Try.prog 14 #[.int .u8 u.toNat] w fun e w' => e = .returned (.bool (Sp.isDi u)) ∧ w = w' := by
  have hb := isDi_i u
  generalize (u.toNat : Int) = c at *
  generalize Sp.isDi u = r at *
  have H := Lib.hid hb; clear hb
  cases h1 : decide (48 ≤ c) <;> (go_enter Try.func14, Try.ntmps14; go_wp2; go_ret; exact ⟨ret_bool (by rw [H.out, h1]; simp), rfl⟩)

theorem rfine_c (u : UInt8) (w : World) : Calls Try.prog 11 #[.int .u8 u.toNat] w fun e w' => e = .returned (.bool (Sp.isFi u)) ∧ w = w' := by
  have hb := isFi_i u
  generalize (u.toNat : Int) = c at *
  generalize Sp.isFi u = r at *
  have H := Lib.hid hb; clear hb
  cases h1 : (c == 9) <;> cases h2 : decide (32 ≤ c) <;> (go_enter Try.func11, Try.ntmps11; go_wp2; go_ret; exact ⟨ret_bool (by rw [H.out, h1, h2]; simp), rfl⟩)

theorem rhexa_c (u : UInt8) (w : World) : Calls Try.prog 15 #[.int .u8 u.toNat] w fun e w' => e = .returned (.int .i64 (Sp.hexa u)) ∧ w = w' := by
  have hd := isDi_i u
  have hu := u8_lt u
  have hu0 : (0 : Int) ≤ u.toNat := by omega
  have hx : Sp.hexa u = if Sp.isDi u then (u.toNat : Int) - 48 else if decide (97 ≤ (u.toNat : Int)) && decide ((u.toNat : Int) ≤ 102) then (u.toNat : Int) - 87 else if decide (65 ≤ (u.toNat : Int)) && decide ((u.toNat : Int) ≤ 70) then (u.toNat : Int) - 55 else -1 := by
    unfold Sp.hexa
    have e1 : (decide (97 ≤ u) && decide (u ≤ 102)) = (decide (97 ≤ (u.toNat : Int)) && decide ((u.toNat : Int) ≤ 102)) := by
      rw [Bool.eq_iff_iff]; simp [UInt8.le_iff_toNat_le]; omega
    have e2 : (decide (65 ≤ u) && decide (u ≤ 70)) = (decide (65 ≤ (u.toNat : Int)) && decide ((u.toNat : Int) ≤ 70)) := by
      rw [Bool.eq_iff_iff]; simp [UInt8.le_iff_toNat_le]; omega
    rw [e1, e2]
  have HD := Lib.hid (fun w => rdigit_c u w)
  generalize Sp.hexa u = r at *
  generalize Sp.isDi u = d at *
  generalize (u.toNat : Int) = c at *
  have HX := Lib.hid hx; clear hx
  cases d
  · have Hd := Lib.hid hd; clear hd
    by_cases h1 : 97 ≤ c
    · by_cases h2 : c ≤ 102
      · go_enter Try.func15, Try.ntmps15
        go_wp2_with (go_at_call 14; refine (HD.out _).mono ?_; rintro e w' ⟨rfl, rfl⟩)
        go_ret
        exact ⟨ret_int (by rw [HX.out]; simp [h1, h2]; try omega), rfl⟩
      · go_enter Try.func15, Try.ntmps15
        go_wp2_with (go_at_call 14; refine (HD.out _).mono ?_; rintro e w' ⟨rfl, rfl⟩)
        go_ret
        exact ⟨ret_int (by rw [HX.out]; simp [h1]; try omega), rfl⟩
    · by_cases h3 : 65 ≤ c
      · by_cases h4 : c ≤ 70
        · go_enter Try.func15, Try.ntmps15
          go_wp2_with (go_at_call 14; refine (HD.out _).mono ?_; rintro e w' ⟨rfl, rfl⟩)
          go_ret
          exact ⟨ret_int (by rw [HX.out]; simp [h3, h4]; try omega), rfl⟩
        · go_enter Try.func15, Try.ntmps15
          go_wp2_with (go_at_call 14; refine (HD.out _).mono ?_; rintro e w' ⟨rfl, rfl⟩)
          go_ret
          exact ⟨ret_int (by rw [HX.out]; simp [h3]; try omega), rfl⟩
      · go_enter Try.func15, Try.ntmps15
        go_wp2_with (go_at_call 14; refine (HD.out _).mono ?_; rintro e w' ⟨rfl, rfl⟩)
        go_ret
        exact ⟨ret_int (by rw [HX.out]; simp; try omega), rfl⟩
  · have h1 : 48 ≤ c ∧ c ≤ 57 := by simp at hd; omega
    clear hd
    go_enter Try.func15, Try.ntmps15
    go_wp2_with (go_at_call 14; refine (HD.out _).mono ?_; rintro e w' ⟨rfl, rfl⟩)
    go_ret
    exact ⟨ret_int (by rw [HX.out]; simp), rfl⟩

end Go.Proofs.Ytpilifhdhgdbjaa
