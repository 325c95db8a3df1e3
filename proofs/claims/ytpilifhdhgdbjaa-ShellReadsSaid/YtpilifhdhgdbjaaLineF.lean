/- The shell's reader, walked: the loop over the fields. -/
import Derived.Test.YtpilifhdhgdbjaaLineE
namespace Go.Proofs.Ytpilifhdhgdbjaa
open Go.RowKit
attribute [local go_sem] Oper.semAt_some

/-- What lies in memory behind the loop. -/
structure MemE (w0 : World) (b B1 D l : Nat) (rec : Loop) (y : Sp.St) (v : Value) (W : World) : Prop where
  gr : w0.grownBy W (some b)
  res : W.heap[B1]? = some (.cells #[.string (bs y.cmd), .string (bs y.name), v] 24 (0, 0))
  dfr : W.heap[D]? = some (.deferred (some []))
  lp : W.heap[l]? = some (.loop rec)
  own : W.ownsRow (l + 1) 33 2 v y.opts.length (optCells y.opts)

section
variable {w0 : World} {b B0 B1 B2 D l : Nat} {s : ByteArray} {y : Sp.St} {v : Value} {j : Nat} {W W' : World} {rec : Loop}

theorem Mem.leave (L : Lie w0 b B0 B1 B2 D l) (h : Mem w0 b B0 B1 B2 D l s rec y v j W) (hg : W.grownBy W' (some b)) : MemE w0 b B1 D l rec y v W' := by
  obtain ⟨hb, h0, h1, h2, hD, hl⟩ := L
  have key : ∀ (k : Nat) (o : Obj), w0.heap.size ≤ k → W.heap[k]? = some o → W'.heap[k]? = some o := fun k o hk ho => by
    rw [hg.block k (Array.getElem?_eq_some_iff.1 ho).1 (by simp; omega)]; exact ho
  exact ⟨gr_trans h.gr hg, key _ _ (by omega) h.res, key _ _ (by omega) h.dfr, key _ _ (by omega) h.lp,
    h.own.kept hg (by
      rcases h.own.2 with ⟨hv, _⟩ | ⟨g, cap, cur, hv, hg', _⟩
      · left; rw [hv]; rfl
      · right; rw [hv]; simp [Value.ownBlock]; omega)⟩

/-- What the loop over the fields answers. -/
def IterQ (w0 : World) (b B1 D l : Nat) (rec : Loop) (X : Except Nat Sp.St) (e : Ending) (W' : World) : Prop :=
  (∃ p, e = .panicked (flt p) ∧ X = .error (p + 1) ∧ w0.grownBy W' (some b) ∧ W'.heap[D]? = some (.deferred (some []))) ∨
  (∃ (y' : Sp.St) (v' : Value) (st : Nat), e = .returned (.tuple #[]) ∧ X = .ok { y' with st := st } ∧ MemE w0 b B1 D l rec y' v' W')

theorem dfr_kept (L : Lie w0 b B0 B1 B2 D l) (h : W.heap[D]? = some (.deferred (some []))) (hg : W.grownBy W' (some b)) : W'.heap[D]? = some (.deferred (some [])) := by
  rw [hg.block D (Array.getElem?_eq_some_iff.1 h).1 (by have := L.hb; have := L.hD; simp; omega)]; exact h

set_option maxHeartbeats 4000000 in
theorem iter_c {assign body : Code} (hcode : Try.f17.body.map findRF = some [(assign, body)]) (L : Lie w0 b B0 B1 B2 D l) (hs : s.size ≤ 4096) (X : Except Nat Sp.St)
    (hrec : rec = { state := .ready, pending := none, fn := 17, tmps := #[.pointer (some ⟨b, 0, none⟩), .pointer (some ⟨B0, 0, none⟩), .pointer (some ⟨B1, 0, none⟩), undef, undef, .pointer (some ⟨b, 0, none⟩), .func (.func 33) #[] #[.pointer (some ⟨B2, 0, none⟩)], undef, undef, undef, undef, undef, undef, undef, undef, undef, undef, undef, undef, undef, undef, undef, undef, undef, undef, undef, undef, undef, undef, undef, undef, undef, undef, undef, undef, undef, undef, undef, undef, undef, undef, undef, undef, undef, undef], params := #[7], assign, body, defers := D })
    (hM : Mem w0 b B0 B1 B2 D l s rec y v 0 W) (hy0 : y.st = 0) (hyf : y.fields = 0) (hyv : y.value = []) (hX : Sp.runP (BL s) y 0 = X) (ho : y.opts.length = 0) :
    CallsIn Fence.wide 9 Try.prog 33 #[.func (.yield l) #[] #[], .pointer (some ⟨B2, 0, none⟩)] W (IterQ w0 b B1 D l rec X) := by
  have HM0 := Lib.hid hM
  have HX0 := Lib.hid hX
  have H0 := Lib.hid (And.intro hy0 (And.intro hyf (And.intro hyv ho)))
  have hr : rec.state = .ready := by rw [hrec]
  have hp : rec.pending = none := by rw [hrec]
  have hyld : ∀ (n : Nat) (y' : Sp.St) (v' : Value) (j' : Nat) (W' : World), Mem w0 b B0 B1 B2 D l s rec y' v' j' W' →
      (Instr.yield l #[.int .i64 n]).run Try.prog W' = .ok (.round l 17 #[.pointer (some ⟨b, 0, none⟩), .pointer (some ⟨B0, 0, none⟩), .pointer (some ⟨B1, 0, none⟩), undef, undef, .pointer (some ⟨b, 0, none⟩), .func (.func 33) #[] #[.pointer (some ⟨B2, 0, none⟩)], .int .i64 n, undef, undef, undef, undef, undef, undef, undef, undef, undef, undef, undef, undef, undef, undef, undef, undef, undef, undef, undef, undef, undef, undef, undef, undef, undef, undef, undef, undef, undef, undef, undef, undef, undef, undef, undef, undef, undef] assign body) W' := by
    intro n y' v' j' W' h
    have h1 := run_yield (P := Try.prog) (args := #[.int .i64 n]) h.lp (by rw [hrec]; rfl)
    rw [h1, hrec]
    simp [Array.zip]
  have HY := Lib.hid hyld
  have HR0 := Lib.hid (fun X m y v j W => round_0 (rec := rec) (y := y) (v := v) (j := j) (W := W) hcode L hs X m hr hp)
  have HR1 := Lib.hid (fun X m y v j W => round_1 (rec := rec) (y := y) (v := v) (j := j) (W := W) hcode L hs X m hr hp)
  have HRn := Lib.hid (fun X m n hn y v j W => round_n (rec := rec) (y := y) (v := v) (j := j) (W := W) hcode L hs X m n hn hr hp)
  clear hM hX hrec hr hp hyld hy0 hyf hyv ho
  refine callsIn_of_wp Try.func33 rfl trivial ?_
  simp only [Try.ntmps33, List.size_toArray, List.length_cons, List.length_nil, Nat.reduceAdd, Nat.reduceSub, Array.replicate_succ,
     Array.replicate_zero, List.push_toArray, List.append_toArray, List.nil_append, List.cons_append]
  gi_wp2
  gi_loopw [3] (fun nn wr => ∃ (n : Nat) (y' : Sp.St) (v' : Value) (j' : Nat), nn = .int .i64 n ∧ Mem w0 b B0 B1 B2 D l s rec y' v' j' wr ∧ y'.st = 0 ∧ y'.fields = n ∧ y'.value = [] ∧ n ≤ j' ∧ j' ≤ s.size ∧
      y'.opts.length ≤ j' ∧ Sp.runP (BL s) y' j' = X) (fun nn _ => s.size - (intOf nn).toNat)
  case atStart => exact ⟨0, y, v, 0, rfl, HM0.out, H0.out.1, H0.out.2.1, H0.out.2.2.1, by omega, by omega, by rw [H0.out.2.2.2]; omega, HX0.out⟩
  case round =>
    obtain ⟨n, y', v', j', rfl, hM, h0, hf, hv, hn, hj, ho, hX⟩ := hrel
    have HN := Lib.hid (next_c hM.rd hj hs y' h0 X hX)
    have c2 := hM.c2
    have HM := Lib.hid hM
    have Hv := Lib.hid (And.intro h0 (And.intro hf hv))
    clear hM h0 hf hv hX
    gi_wp2_with fail
    refine ⟨trivial, (callsIn_wide.2 HN.out).mono ?_⟩
    rintro e W2 ⟨hg, ⟨p, rfl, hXp⟩ | ⟨st, rfl, hXst⟩ | ⟨j2, rfl, hj2, hj2s, hb, h35, hrun, hR2⟩⟩
    · exact ⟨rfl, .inl ⟨p, rfl, hXp, gr_trans HM.out.gr hg, dfr_kept L HM.out.dfr hg⟩⟩
    · have HQ := Lib.hid (Mem.leave L HM.out hg)
      have HXs := Lib.hid hXst
      clear hg hXst HM HN
      gi_wp2
      refine ⟨(fun _ h => by cases h), ?_⟩
      gi_wp2
      go_end0
      exact .inr ⟨y', v', st, rfl, HXs.out, HQ.out⟩
    · have hM2 := HM.out.grown L hg hR2
      have HM2 := Lib.hid hM2
      clear hg hR2 HM HN
      gi_wp2
      rw [HY.out n y' v' j2 W2 HM2.out, Oper.uponIn_round]
      refine ⟨(fun h => by cases h), ?_⟩
      have key : RoundIn Fence.wide 8 Try.prog l 17 #[.pointer (some ⟨b, 0, none⟩), .pointer (some ⟨B0, 0, none⟩), .pointer (some ⟨B1, 0, none⟩), undef, undef, .pointer (some ⟨b, 0, none⟩), .func (.func 33) #[] #[.pointer (some ⟨B2, 0, none⟩)], .int .i64 n, undef, undef, undef, undef, undef, undef, undef, undef, undef, undef, undef, undef, undef, undef, undef, undef, undef, undef, undef, undef, undef, undef, undef, undef, undef, undef, undef, undef, undef, undef, undef, undef, undef, undef, undef, undef, undef] assign body W2 (RoundQ w0 b B0 B1 B2 D l s rec n X) := by
        match n, Hv.out.2.1, hn with
        | 0, h, _ => exact HR0.out X 8 y' v' j2 W2 HM2.out Hv.out.1 h Hv.out.2.2 hrun hj2s hb h35 (by omega)
        | 1, h, _ => exact HR1.out X 8 y' v' j2 W2 HM2.out Hv.out.1 h Hv.out.2.2 hrun hj2s hb h35 (by omega) (by omega)
        | n + 2, h, _ => exact HRn.out X 8 (n + 2) (by omega) y' v' j2 W2 HM2.out Hv.out.1 h Hv.out.2.2 hrun hj2s hb h35 (by omega) (by omega)
      clear HR0 HR1 HRn HY hrun hb h35 HM2
      refine key.mono ?_
      clear key
      rintro e W3 hq
      unfold RoundQ at hq
      rcases hq with ⟨p, rfl, hXp, hg3, hd3⟩ | ⟨y3, v3, j3, rfl, hM3, h30, h3f, h3v, h3n, h3j, h3o, h3t, h3e⟩
      · exact ⟨rfl, .inl ⟨p, rfl, hXp, hg3, hd3⟩⟩
      · have HM3 := Lib.hid hM3
        have c2' := hM3.c2
        have HO := Lib.hid (over_c hM3.rd h3j)
        have HF := Lib.hid (fun k => fail_c (hM3.rd.drewN k))
        clear hM3 c2
        cases hov : Sp.ov (BL s) j3
        · have hXe := h3e hov
          rw [hov] at HO
          have Hov := Lib.hid hov
          clear h3t h3e hov
          gi_wp2_with fail
          refine ⟨trivial, (callsIn_wide.2 HO.out).mono ?_⟩
          rintro e W4 ⟨rfl, nq, rfl⟩
          gi_wp2_with fail
          refine ⟨trivial, (callsIn_wide.2 (HF.out nq)).mono ?_⟩
          rintro e W4 ⟨rfl, rfl⟩
          exact ⟨rfl, .inl ⟨j3, rfl, hXe, gr_drewN HM3.out.gr nq, HM3.out.dfr⟩⟩
        · have hXe := h3t hov
          rw [hov] at HO
          have Hov := Lib.hid hov
          clear h3t h3e hov
          gi_wp2_with fail
          refine ⟨trivial, (callsIn_wide.2 HO.out).mono ?_⟩
          rintro e W4 ⟨rfl, nq, rfl⟩
          have HM4 := Lib.hid (HM3.out.drewN nq)
          have H3 := Lib.hid (And.intro h30 (And.intro h3f (And.intro h3v hXe)))
          clear hXe h30 h3f h3v HF HO
          generalize W3.drewN nq = W4 at HM4 ⊢
          gi_wp2
          go_roundw
          case rel => exact ⟨n + 1, y3, v3, j3, by simp, HM4.out, H3.out.1, H3.out.2.1, H3.out.2.2.1, h3n, h3j, h3o, H3.out.2.2.2⟩
          case measure => simp [intOf]; omega

end
end Go.Proofs.Ytpilifhdhgdbjaa
