/- The shell's reader, walked: a round of the loop over the fields, its body. -/
import Derived.Test.YtpilifhdhgdbjaaLineB
namespace Go.Proofs.Ytpilifhdhgdbjaa
open Go.RowKit
attribute [local go_sem] Oper.semAt_some

/-- What a round answers. -/
def RoundQ (w0 : World) (b B0 B1 B2 D l : Nat) (s : ByteArray) (rec : Loop) (n : Nat) (X : Except Nat Sp.St) (e : Ending) (W' : World) : Prop :=
  (∃ p, e = .panicked (flt p) ∧ X = .error (p + 1) ∧ w0.grownBy W' (some b) ∧ W'.heap[D]? = some (.deferred (some []))) ∨
  (∃ (y' : Sp.St) (v' : Value) (j' : Nat), e = .returned (.bool true) ∧ Mem w0 b B0 B1 B2 D l s rec y' v' j' W' ∧ y'.st = 0 ∧ y'.fields = n + 1 ∧ y'.value = [] ∧ n + 1 ≤ j' ∧ j' ≤ s.size ∧
    y'.opts.length ≤ j' ∧ (Sp.ov (BL s) j' = true → Sp.runP (BL s) y' j' = X) ∧ (Sp.ov (BL s) j' = false → X = .error (j' + 1)))

section
variable {w0 : World} {b B0 B1 B2 D l : Nat} {s : ByteArray} {y : Sp.St} {v : Value} {j : Nat} {W : World} {rec : Loop}

/-- A round that has come to its body's end. -/
theorem round_done (L : Lie w0 b B0 B1 B2 D l) {n : Nat} {X : Except Nat Sp.St} {y' : Sp.St} {v' : Value} {j' : Nat} {W' : World} {a : Act}
    (hr : rec.state = .ready) (hp : rec.pending = none)
    (hM : Mem w0 b B0 B1 B2 D l s { rec with state := .busy } y' v' j' W') (h0 : y'.st = 0) (hf : y'.fields = n + 1) (hv : y'.value = []) (hn : n + 1 ≤ j') (hj : j' ≤ s.size) (ho : y'.opts.length ≤ j')
    (h1 : Sp.ov (BL s) j' = true → Sp.runP (BL s) y' j' = X) (h2 : Sp.ov (BL s) j' = false → X = .error (j' + 1)) :
    roundPostP Try.prog l (RoundQ w0 b B0 B1 B2 D l s rec n X) .normal a W' := by
  have hrun := run_endRound (P := Try.prog) none hM.lp
  have e : ({ ({ rec with state := .busy } : Loop) with state := if (none : Option Code).isNone then .ready else .done, pending := none } : Loop) = rec := by
    cases rec; simp at hr hp; simp [hr, hp]
  rw [e] at hrun
  exact ⟨_, _, hrun, .inr ⟨y', v', j', rfl, hM.put L rec, h0, hf, hv, hn, hj, ho, h1, h2⟩⟩

/-- A round whose body panics. -/
theorem round_panic {n : Nat} {X : Except Nat Sp.St} {y' : Sp.St} {v' : Value} {j' p : Nat} {rec' : Loop} {W1 W' : World} {ts : Array Value} (L : Lie w0 b B0 B1 B2 D l)
    (hM : Mem w0 b B0 B1 B2 D l s rec' y' v' j' W1) (hg : W1.grownBy W' (some b)) (hX : X = .error (p + 1)) :
    roundPostP Try.prog l (RoundQ w0 b B0 B1 B2 D l s rec n X) (.panic (flt p)) { tmps := ts, defers := [] } W' := by
  refine ⟨rfl, .inl ⟨p, rfl, hX, gr_trans hM.gr hg, ?_⟩⟩
  rw [hg.block D (Array.getElem?_eq_some_iff.1 hM.dfr).1 (by have := L.hb; have := L.hD; simp; omega)]
  exact hM.dfr

set_option maxHeartbeats 4000000 in
theorem round_0 {assign body : Code} (hcode : Try.f17.body.map findRF = some [(assign, body)]) (L : Lie w0 b B0 B1 B2 D l) (hs : s.size ≤ 4096) (X : Except Nat Sp.St) (m : Nat)
    (hr : rec.state = .ready) (hp : rec.pending = none) (hM : Mem w0 b B0 B1 B2 D l s rec y v j W) (hy0 : y.st = 0) (hyf : y.fields = 0) (hyv : y.value = []) (hX : Sp.runP (BL s) y j = X) (hj : j < s.size)
    (hb : Sp.isBl (Sp.ch (BL s) j) = false) (h35 : Sp.ch (BL s) j ≠ 35) (ho : y.opts.length ≤ j) :
    RoundIn Fence.wide m Try.prog l 17 #[.pointer (some ⟨b, 0, none⟩), .pointer (some ⟨B0, 0, none⟩), .pointer (some ⟨B1, 0, none⟩), undef, undef, .pointer (some ⟨b, 0, none⟩), .func (.func 33) #[] #[.pointer (some ⟨B2, 0, none⟩)], .int .i64 0, undef, undef, undef, undef, undef, undef, undef, undef, undef, undef, undef, undef, undef, undef, undef, undef, undef, undef, undef, undef, undef, undef, undef, undef, undef, undef, undef, undef, undef, undef, undef, undef, undef, undef, undef, undef, undef] assign body W (RoundQ w0 b B0 B1 B2 D l s rec 0 X) := by
  have hM1 := hM.put L { rec with state := .busy }
  have Hbr := Lib.hid (run_beginRound (P := Try.prog) hM.lp hr)
  generalize W.putObj l (.loop { rec with state := .busy }) = W1 at *
  have HM1 := Lib.hid hM1
  have HL := Lib.hid (letters_c hM1.rd (by omega) hs)
  have HBad := Lib.hid (fun (h : Sp.isLe (Sp.ch (BL s) j) = false) => hX.symm.trans (Sp.st0_bad hy0 (by rw [bl_len]; exact hj) hb h35 h))
  have HW := Lib.hid (fun (k : Nat) (h1 : j < k) (h2 : k ≤ j + 16) (h3 : k ≤ s.size) (h4 : ∀ t, j ≤ t → t < k → Sp.isLe (Sp.ch (BL s) t) = true) =>
    (Sp.letters_run (L := BL s) (i := j) hy0 (k - j) (by omega) (by omega) (by rw [bl_len]; omega) (fun t ht => h4 (j + t) (by omega) (by omega))).symm.trans hX)
  have c0 := hM1.c0
  have Hyf := Lib.hid hyf
  have Hyv := Lib.hid hyv
  have Hr := Lib.hid hr
  have Hp := Lib.hid hp
  clear hM hM1 hX hb h35 hy0 hyf hyv hr hp
  simp only [Try.f17, Option.map_some, findRF, List.nil_append, List.append_nil, Option.some.injEq, List.cons.injEq, Prod.mk.injEq, and_true] at hcode
  obtain ⟨rfl, rfl⟩ := hcode
  refine round_of_wp Try.func17 ?_
  gi_wp2
  refine ⟨W1, Hbr.out, ?_⟩
  clear Hbr
  gi_wp2_with fail
  refine ⟨trivial, (fun h => by cases h), (calls_round HL.out).mono ?_⟩
  rintro e W2 ⟨hg, ⟨rfl, hl⟩ | ⟨k, rfl, hjk, hk16, hks, hall, hstop, hRk⟩⟩
  · exact round_panic L HM1.out hg (HBad.out hl)
  · have hM2 := HM1.out.grown L hg hRk
    have HM2 := Lib.hid hM2
    have r0 := hM2.r0
    have f := hM2.f 0
    have HWk := Lib.hid (HW.out k hjk hk16 hks hall)
    have HS := Lib.hid hstop
    clear hM2 hg hRk hall HW HBad c0 hstop
    gi_wp2
    have hM3 := HM2.out.setCmd L (Sp.sl (BL s) j (k - j))
    rw [← ext_sl] at hM3
    have hkj : j + (k - j) = k := by omega
    have hrun : Sp.runP (BL s) { y with word := Sp.sl (BL s) j (k - j), st := 1, fields := 1 } k = X := by
      have h := HWk.out
      rw [hkj, Hyf.out] at h
      exact h
    refine round_done L Hr.out Hp.out (y' := { y with cmd := Sp.sl (BL s) j (k - j), word := Sp.sl (BL s) j (k - j), st := 0, fields := 1 }) (v' := v) (j' := k) ?_ rfl rfl Hyv.out (by omega) hks (by simp; omega) (fun h => ?_) (fun h => ?_)
    · exact ⟨hM3.gr, hM3.rd, hM3.box0, hM3.res, hM3.box2, hM3.dfr, hM3.lp, hM3.own⟩
    · rw [← hrun, Sp.cmd_over (x := { y with word := Sp.sl (BL s) j (k - j), st := 1, fields := 1 }) rfl (by rw [bl_len]; exact hks) h]
    · rw [← hrun]
      refine Sp.cmd_bad rfl (by rw [bl_len]; exact hks) h ?_
      rcases HS.out with h | h
      · exact .inl h
      · exact .inr (by simp only; rw [Sp.sl_length (by rw [bl_len]; omega)]; omega)

end
end Go.Proofs.Ytpilifhdhgdbjaa
