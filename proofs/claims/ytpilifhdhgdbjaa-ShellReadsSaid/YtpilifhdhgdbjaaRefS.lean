/- The reference's reader: what one byte makes of the bounds that its loop keeps; the tests on bytes in the walk's spelling. No walk stands here. -/
import Derived.Test.YtpilifhdhgdbjaaRefC
namespace Go.Proofs.Ytpilifhdhgdbjaa
open Go.RowKit

theorem good_step {s : ByteArray} {X : Except Nat Sp.St} {x y : Sp.St} {i : Nat} (hr : Sp.runP (BL s) x i = X) (hlt : i < s.size) (hf : Sp.isFi s[i] = true)
    (h : Sp.step x (some s[i]) = some y) (hst : y.st ≤ 12) (hB : RBd y (i + 1)) : RGood s X y (i + 1) := by
  refine ⟨hst, hB, .inl ⟨by omega, ?_⟩⟩
  rw [ch_get s i hlt] at hf h
  rw [← hr, Sp.runP_step (by rw [bl_len]; exact hlt) hf h]
theorem good_end {s : ByteArray} {X : Except Nat Sp.St} {x y : Sp.St} {i : Nat} (hr : Sp.runP (BL s) x i = X) (hi : i = s.size)
    (h : Sp.step x none = some y) (hst : y.st ≤ 12) (hB : RBd y (i + 1)) : RGood s X y (i + 1) := by
  refine ⟨hst, hB, .inr ⟨by omega, ?_⟩⟩
  rw [← hr, Sp.runP_end_ok (by rw [bl_len]; exact hi) h]
theorem bad_step {s : ByteArray} {X : Except Nat Sp.St} {x : Sp.St} {i : Nat} (hr : Sp.runP (BL s) x i = X) (hlt : i < s.size)
    (h : Sp.isFi s[i] = true → Sp.step x (some s[i]) = none) : X = .error (i + 1) := by
  rw [ch_get s i hlt] at h
  rw [← hr, Sp.runP_bad (by rw [bl_len]; exact hlt) h]
theorem bad_end {s : ByteArray} {X : Except Nat Sp.St} {x : Sp.St} {i : Nat} (hr : Sp.runP (BL s) x i = X) (hi : i = s.size)
    (h : Sp.step x none = none) : X = .error (i + 1) := by
  rw [← hr, Sp.runP_end_bad (by rw [bl_len]; exact hi) h]

end Go.Proofs.Ytpilifhdhgdbjaa
