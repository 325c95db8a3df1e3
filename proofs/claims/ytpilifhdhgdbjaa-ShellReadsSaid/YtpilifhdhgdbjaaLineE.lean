/- The shell's reader, walked: the second round of the loop over the fields, and every later one. -/
import Derived.Test.YtpilifhdhgdbjaaLineD
namespace Go.Proofs.Ytpilifhdhgdbjaa
open Go.RowKit
attribute [local go_sem] Oper.semAt_some

section
variable {w0 : World} {b B0 B1 B2 D l : Nat} {s : ByteArray} {y : Sp.St} {v : Value} {j : Nat} {W : World} {rec : Loop}

set_option maxHeartbeats 4000000 in
theorem round_n {assign body : Code} (hcode : Try.f17.body.map findRF = some [(assign, body)]) (L : Lie w0 b B0 B1 B2 D l) (hs : s.size ≤ 4096) (X : Except Nat Sp.St) (m n : Nat) (hn2 : 2 ≤ n)
    (hr : rec.state = .ready) (hp : rec.pending = none) (hM : Mem w0 b B0 B1 B2 D l s rec y v j W) (hy0 : y.st = 0) (hyf : y.fields = n) (hyv : y.value = []) (hX : Sp.runP (BL s) y j = X) (hj : j < s.size)
    (hb : Sp.isBl (Sp.ch (BL s) j) = false) (h35 : Sp.ch (BL s) j ≠ 35) (ho : y.opts.length ≤ j) (hnj : n ≤ j) :
    RoundIn Fence.wide m Try.prog l 17 #[.pointer (some ⟨b, 0, none⟩), .pointer (some ⟨B0, 0, none⟩), .pointer (some ⟨B1, 0, none⟩), undef, undef, .pointer (some ⟨b, 0, none⟩), .func (.func 33) #[] #[.pointer (some ⟨B2, 0, none⟩)], .int .i64 n, undef, undef, undef, undef, undef, undef, undef, undef, undef, undef, undef, undef, undef, undef, undef, undef, undef, undef, undef, undef, undef, undef, undef, undef, undef, undef, undef, undef, undef, undef, undef, undef, undef, undef, undef, undef, undef] assign body W (RoundQ w0 b B0 B1 B2 D l s rec n X) := by
  have hM1 := hM.put L { rec with state := .busy }
  have Hbr := Lib.hid (run_beginRound (P := Try.prog) hM.lp hr)
  generalize W.putObj l (.loop { rec with state := .busy }) = W1 at *
  have HM1 := Lib.hid hM1
  have HL := Lib.hid (letters_c hM1.rd (by omega) hs)
  have HBad := Lib.hid (fun (h : Sp.isLe (Sp.ch (BL s) j) = false) => hX.symm.trans (Sp.st0_bad hy0 (by rw [bl_len]; exact hj) hb h35 h))
  have HW := Lib.hid (fun (k : Nat) (h1 : j < k) (h2 : k ≤ j + 16) (h3 : k ≤ s.size) (h4 : ∀ t, j ≤ t → t < k → Sp.isLe (Sp.ch (BL s) t) = true) =>
    (Sp.letters_run (L := BL s) (i := j) hy0 (k - j) (by omega) (by omega) (by rw [bl_len]; omega) (fun t ht => h4 (j + t) (by omega) (by omega))).symm.trans hX)
  have c0 := hM1.c0
  have Hyf := Lib.hid hyf
  have Hyv := Lib.hid hyv
  have hn0 : ((n : Int) == 0) = false := by simp; omega
  have hn1 : ((n : Int) == 1) = false := by simp; omega
  have hcode' := hcode
  simp only [Try.f17, Option.map_some, findRF, List.nil_append, List.append_nil, Option.some.injEq, List.cons.injEq, Prod.mk.injEq, and_true] at hcode'
  obtain ⟨rfl, rfl⟩ := hcode'
  have HT := Lib.hid (fun y' v' j' W' => tail_c (y := y') (v := v') (j := j') (W := W') hcode rfl L hs X m n hr hp)
  have Hr := Lib.hid hr
  have Hp := Lib.hid hp
  clear hM hM1 hX hb h35 hy0 hyf hyv hr hp hcode
  refine round_of_wp Try.func17 ?_
  gi_wp2
  refine ⟨W1, Hbr.out, ?_⟩
  clear Hbr
  refine wpIn_block ?_
  refine wpIn_seq_k fun K1 hK1 => ?_
  have HK1 := Lib.hid hK1; clear hK1
  gi_wp2
  refine HK1.out _ _ ?_
  clear HK1 K1
  refine wpIn_seq_k fun K2 hK2 => ?_
  have HK2 := Lib.hid hK2; clear hK2
  gi_wp2
  refine HK2.out _ _ ?_
  clear HK2 K2
  refine wpIn_seq_k fun K3 hK3 => ?_
  have HK3 := Lib.hid hK3; clear hK3
  gi_wp2_with fail
  refine ⟨trivial, (fun h => by cases h), (calls_round HL.out).mono ?_⟩
  rintro e W2 ⟨hg, ⟨rfl, hl⟩ | ⟨k, rfl, hjk, hk16, hks, hall, hstop, hRk⟩⟩
  · exact round_panic L HM1.out hg (HBad.out hl)
  · have hM2 := HM1.out.grown L hg hRk
    have hrun := HW.out k hjk hk16 hks hall
    rw [show j + (k - j) = k from by omega, Hyf.out, show Sp.kindOf n = 4 from by unfold Sp.kindOf; rw [if_neg (by omega), if_neg (by omega)]] at hrun
    gi_wp2
    refine HK3.out _ _ ?_
    rw [ext_sl]
    refine HT.out y v k W2 hM2 hks (Sp.sl (BL s) j (k - j)) { y with word := Sp.sl (BL s) j (k - j), st := 5, fields := n + 1 } rfl Hyv.out rfl rfl rfl rfl rfl (fun h => ?_) (fun h => ?_) (by omega) (by omega) _ _ _ _ _ _ _ _ _ _ _ _ _ _ _ _ _ _ _ _
    · rw [← hrun, Sp.key_eq (x := { y with word := Sp.sl (BL s) j (k - j), st := 4, fields := n + 1 }) rfl h]
    · rw [← hrun]
      refine Sp.key_bad rfl (by rw [bl_len]; exact hks) h ?_
      rcases hstop with h | h
      · exact .inl h
      · exact .inr (by simp only; rw [Sp.sl_length (by rw [bl_len]; omega)]; omega)

set_option maxHeartbeats 4000000 in
theorem round_1 {assign body : Code} (hcode : Try.f17.body.map findRF = some [(assign, body)]) (L : Lie w0 b B0 B1 B2 D l) (hs : s.size ≤ 4096) (X : Except Nat Sp.St) (m : Nat)
    (hr : rec.state = .ready) (hp : rec.pending = none) (hM : Mem w0 b B0 B1 B2 D l s rec y v j W) (hy0 : y.st = 0) (hyf : y.fields = 1) (hyv : y.value = []) (hX : Sp.runP (BL s) y j = X) (hj : j < s.size)
    (hb : Sp.isBl (Sp.ch (BL s) j) = false) (h35 : Sp.ch (BL s) j ≠ 35) (ho : y.opts.length ≤ j) (hnj : 1 ≤ j) :
    RoundIn Fence.wide m Try.prog l 17 #[.pointer (some ⟨b, 0, none⟩), .pointer (some ⟨B0, 0, none⟩), .pointer (some ⟨B1, 0, none⟩), undef, undef, .pointer (some ⟨b, 0, none⟩), .func (.func 33) #[] #[.pointer (some ⟨B2, 0, none⟩)], .int .i64 1, undef, undef, undef, undef, undef, undef, undef, undef, undef, undef, undef, undef, undef, undef, undef, undef, undef, undef, undef, undef, undef, undef, undef, undef, undef, undef, undef, undef, undef, undef, undef, undef, undef, undef, undef, undef, undef] assign body W (RoundQ w0 b B0 B1 B2 D l s rec 1 X) := by
  have hM1 := hM.put L { rec with state := .busy }
  have Hbr := Lib.hid (run_beginRound (P := Try.prog) hM.lp hr)
  generalize W.putObj l (.loop { rec with state := .busy }) = W1 at *
  have HM1 := Lib.hid hM1
  have HL := Lib.hid (word_c hM1.rd hj hs y hy0 hyf hb h35 X hX)
  have c0 := hM1.c0
  have Hyf := Lib.hid hyf
  have Hyv := Lib.hid hyv
  have hcode' := hcode
  simp only [Try.f17, Option.map_some, findRF, List.nil_append, List.append_nil, Option.some.injEq, List.cons.injEq, Prod.mk.injEq, and_true] at hcode'
  obtain ⟨rfl, rfl⟩ := hcode'
  have HT := Lib.hid (fun y' v' j' W' => tail_c (y := y') (v := v') (j := j') (W := W') hcode rfl L hs X m 1 hr hp)
  have Hr := Lib.hid hr
  have Hp := Lib.hid hp
  clear hM hM1 hX hb h35 hy0 hyf hyv hr hp hcode
  refine round_of_wp Try.func17 ?_
  gi_wp2
  refine ⟨W1, Hbr.out, ?_⟩
  clear Hbr
  refine wpIn_block ?_
  refine wpIn_seq_k fun K1 hK1 => ?_
  have HK1 := Lib.hid hK1; clear hK1
  gi_wp2
  refine HK1.out _ _ ?_
  clear HK1 K1
  refine wpIn_seq_k fun K2 hK2 => ?_
  have HK2 := Lib.hid hK2; clear hK2
  gi_wp2
  refine HK2.out _ _ ?_
  clear HK2 K2
  refine wpIn_seq_k fun K3 hK3 => ?_
  have HK3 := Lib.hid hK3; clear hK3
  gi_wp2_with fail
  refine ⟨trivial, (fun h => by cases h), (calls_round HL.out).mono ?_⟩
  rintro e W2 ⟨hg, ⟨p, rfl, hXp⟩ | ⟨k, rfl, hjk, hks, h61, hrun, hRk⟩ | ⟨k, st, rfl, hjk, hks, hov, hst, hrun, hRk⟩⟩
  · exact round_panic L HM1.out hg hXp
  · have hM2 := HM1.out.grown L hg hRk
    have HM2 := Lib.hid hM2
    have hov : Sp.ov (BL s) k = false := by
      unfold Sp.ov
      rw [h61, bl_len]
      have h0 : (k == s.size) = false := by simp; omega
      rw [h0]; decide
    have Hov := Lib.hid hov
    have HO := Lib.hid (over_c hM2.rd (by omega))
    clear c0
    have c0 := hM2.c0
    have Hrun := Lib.hid hrun
    have H61 := Lib.hid h61
    clear hM2 hov hrun hg hRk h61
    gi_wp2_with fail
    refine ⟨trivial, (fun h => by cases h), (calls_round HO.out).mono ?_⟩
    rw [Hov.out]
    rintro e W3 ⟨rfl, nq, rfl⟩
    gi_wp2
    refine HK3.out _ _ ?_
    rw [ext_sl]
    refine HT.out y v k _ (HM2.out.drewN nq) (by omega) (Sp.sl (BL s) j (k - j)) { y with word := Sp.sl (BL s) j (k - j), st := 5, fields := 1 + 1 } rfl Hyv.out rfl rfl rfl rfl rfl (fun h => ?_) (fun h => absurd H61.out h) (by omega) (by omega) _ _ _ _ _ _ _ _ _ _ _ _ _ _ _ _ _ _ _ _
    have h2 := Hrun.out
    unfold wordSt at h2
    rw [Hyf.out] at h2
    rw [← h2, Sp.name_eq (x := { y with word := Sp.sl (BL s) j (k - j), st := 2, fields := 1 + 1 }) rfl h]
  · have hM2 := HM1.out.grown L hg hRk
    have HM2 := Lib.hid hM2
    have HO := Lib.hid (over_c hM2.rd hks)
    clear c0
    have c0 := hM2.c0
    have r1 := (hM2.drewN 0).r1
    have Hov := Lib.hid hov
    have Hst := Lib.hid hst
    have Hrun := Lib.hid hrun
    clear hM2 hov hrun hg hRk hst
    gi_wp2_with fail
    refine ⟨trivial, (fun h => by cases h), (calls_round HO.out).mono ?_⟩
    rw [Hov.out]
    rintro e W3 ⟨rfl, nq, rfl⟩
    have hM3 := HM2.out.drewN nq
    have r1 := hM3.r1
    have f := hM3.f 1
    clear c0
    have c0 := hM3.c0
    have HM3 := Lib.hid hM3
    clear hM3 HM2 HO
    gi_wp2
    have hM4 := HM3.out.setName L (Sp.sl (BL s) j (k - j))
    rw [← ext_sl] at hM4
    have h2 := Hrun.out
    unfold wordSt at h2
    rw [Hyf.out] at h2
    refine round_done (a := { tmps := #[], defers := [] }) L Hr.out Hp.out (y' := { y with name := Sp.sl (BL s) j (k - j), word := Sp.sl (BL s) j (k - j), st := 0, fields := 1 + 1 }) (hM4.cast rfl rfl rfl) rfl rfl Hyv.out (by omega) hks (by simp; omega) (fun h => ?_) (fun h => by rw [Hov.out] at h; cases h)
    rw [← h2, Sp.name_over (x := { y with word := Sp.sl (BL s) j (k - j), st := st, fields := 1 + 1 }) Hst.out (by rw [bl_len]; exact hks) h]

end
end Go.Proofs.Ytpilifhdhgdbjaa
