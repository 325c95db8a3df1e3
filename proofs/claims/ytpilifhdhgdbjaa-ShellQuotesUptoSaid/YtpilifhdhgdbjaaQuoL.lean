/- The law ShellQuotes, walked. -/
import Derived.Test.YtpilifhdhgdbjaaQuoR
import Derived.Test.YtpilifhdhgdbjaaAns
namespace Go.Proofs.Ytpilifhdhgdbjaa
open Go.RowKit

theorem bl_bs (L : Sp.Bs) : BL (bs L) = L := by simp [BL, bs]

theorem ans_long {L : Sp.Bs} (h : 4096 < L.length) : Sp.ansOf (Sp.runP (BL (bs L)) Sp.St.start 0) (bs L).size = ([], [], [], 160, 4097) := by
  unfold Sp.ansOf
  rw [if_pos (by rw [bs_size]; exact h)]
theorem ans_quo {t : Sp.Bs} (h : ([97, 32, 98, 32, 99, 61] ++ Sp.quo t).length ≤ 4096) :
    Sp.ansOf (Sp.runP (BL (bs ([97, 32, 98, 32, 99, 61] ++ Sp.quo t))) Sp.St.start 0) (bs ([97, 32, 98, 32, 99, 61] ++ Sp.quo t)).size = ([97], [98], [([99], t)], 0, 0) := by
  obtain ⟨y, hy, h1, h2, h3⟩ := Sp.quo_reads t
  unfold Sp.ansOf
  rw [if_neg (by rw [bs_size]; omega), bl_bs, hy]
  simp [h1, h2, h3]

set_option maxHeartbeats 4000000 in
set_option maxRecDepth 20000 in
theorem quotes_c {s : ByteArray} (hs : s.size ≤ 1048576) (w : World) :
    Calls Try.prog 4 #[.string s] w fun e W' => e = .returned (.bool true) ∧ Below w.heap.size w W' := by
  have H9 := Lib.hid (fun w => quote_c hs w)
  have H10 := Lib.hid (fun w => rquote_c hs w)
  have hq := Sp.quo_len (BL s)
  rw [bl_len] at hq
  have HQE : Hid ((⟨#[97, 32, 98, 32, 99, 61]⟩ : ByteArray) ++ bs (Sp.quo (BL s)) = bs ([97, 32, 98, 32, 99, 61] ++ Sp.quo (BL s))) := Lib.hid (bs_app [97, 32, 98, 32, 99, 61] _)
  have hqs : (bs (Sp.quo (BL s))).size ≤ 4194306 := by rw [bs_size]; omega
  have hsz : (bs (Sp.quo (BL s))).size = (Sp.quo (BL s)).length := bs_size _
  have HSZ := Lib.hid hsz
  have hone : (⟨#[97, 32, 98, 32, 99, 61]⟩ : ByteArray).size = 6 := rfl
  clear hsz hq
  go_enter Try.func4, Try.ntmps4
  go_wp2_with fail
  refine (H9.out _).mono ?_
  rintro e W1 ⟨rfl, hb1⟩
  have B1 := Lib.hid hb1
  clear hb1
  go_wp2_with fail
  refine (H10.out _).mono ?_
  rintro e W2 ⟨rfl, hb2⟩
  have B2 := Lib.hid (B1.out.trans (hb2.mono B1.out.size))
  clear hb2
  go_wp2_with fail
  rw [HQE.out]
  by_cases hlong : 4096 < (Sp.quo (BL s)).length + 6
  · have hl1 : (4000 : Int) < ((bs (Sp.quo (BL s))).size : Int) := by rw [HSZ.out]; omega
    have hl2 : ¬ (((bs (Sp.quo (BL s))).size : Int) + 6 ≤ 4096) := by rw [HSZ.out]; omega
    refine (parse_any (ans_long (L := [97, 32, 98, 32, 99, 61] ++ Sp.quo (BL s)) (by simp; omega)) _).mono ?_
    rintro e W3 ⟨ad, cap, base, hg3, hb3, rfl, ho3⟩
    have B3 := Lib.hid (B2.out.trans ((below_of_gr hg3).mono B2.out.size))
    clear hg3 hb3 ho3
    go_wp2_with (go_at_call 8; refine (num_c _ _).mono ?_; rintro e w' ⟨rfl, rfl⟩)
    go_ret
    exact ⟨rfl, B3.out.alloc B3.out.size _⟩
  · have ha := ans_quo (t := BL s) (by simp; omega)
    refine (parse_any ha _).mono ?_
    rintro e W3 ⟨ad, cap, base, hg3, hb3, rfl, ho3⟩
    have B3 := Lib.hid (B2.out.trans ((below_of_gr hg3).mono B2.out.size))
    obtain ⟨g, cap', e, hbg, hgl⟩ := ho3.form (by simp)
    simp only [Value.slice.injEq, true_and] at e
    obtain ⟨rfl, rfl⟩ := e
    have c1 : W3.cell? ⟨g, 0, none⟩ = some (.string ⟨#[99]⟩) := (ho3.cellAt 0 (by simp)).trans rfl
    have c2 : W3.cell? ⟨g, 1, none⟩ = some (.string s) := (ho3.cellAt 1 (by simp)).trans (by simp [optCells]; exact bs_eq s)
    rw [show bs [97] = ⟨#[97]⟩ from rfl, show bs [98] = ⟨#[98]⟩ from rfl]
    clear hg3 hb3 ho3 ha hbg
    by_cases h4000 : 4000 < (Sp.quo (BL s)).length
    · have hl1 : (4000 : Int) < ((bs (Sp.quo (BL s))).size : Int) := by rw [HSZ.out]; omega
      have hl2 : ((bs (Sp.quo (BL s))).size : Int) + 6 ≤ 4096 := by rw [HSZ.out]; omega
      go_wp2_with (go_at_call 8; refine (num_c _ _).mono ?_; rintro e w' ⟨rfl, rfl⟩)
      go_ret
      exact ⟨rfl, B3.out.alloc B3.out.size _⟩
    · have hl1 : ¬ ((4000 : Int) < ((bs (Sp.quo (BL s))).size : Int)) := by rw [HSZ.out]; omega
      go_wp2_with (go_at_call 8; refine (num_c _ _).mono ?_; rintro e w' ⟨rfl, rfl⟩)
      all_goals go_ret
      all_goals exact ⟨rfl, B3.out.alloc B3.out.size _⟩

end Go.Proofs.Ytpilifhdhgdbjaa
