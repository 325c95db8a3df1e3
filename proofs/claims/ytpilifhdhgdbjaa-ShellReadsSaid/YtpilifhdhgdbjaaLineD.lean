/- The shell's reader, walked: an option of a line, behind its key. -/
import Derived.Test.YtpilifhdhgdbjaaLineC
namespace Go.Proofs.Ytpilifhdhgdbjaa
open Go.RowKit
attribute [local go_sem] Oper.semAt_some

/-- What stands behind the key in a round's body. -/
def tailOf : Code → List Code
  | .block _ (.seq _ (.seq _ (.seq _ t))) => [t]
  | _ => []

/-- No operation is a 'defer'. -/
def noDefer (ops : Array Oper) : Bool := ops.toList.all fun o => match o.op with | .defer _ => false | _ => true
theorem noDefer_spec {ops : Array Oper} (h : noDefer ops = true) (j : Nat) (o : Oper) (ho : ops[j]? = some o) (c : Call) : o.op ≠ .defer c := by
  intro hc
  have hm : o ∈ ops.toList := by
    rw [← Array.getElem?_toList] at ho
    exact List.mem_of_getElem? ho
  have h2 := List.all_eq_true.1 h o hm
  rw [hc] at h2
  exact Bool.noConfusion h2

section
variable {w0 : World} {b B0 B1 B2 D l : Nat} {s : ByteArray} {y : Sp.St} {v : Value} {j : Nat} {W : World} {rec : Loop}

set_option maxHeartbeats 4000000 in
theorem tail_c {assign body t : Code} (hcode : Try.f17.body.map findRF = some [(assign, body)]) (ht : tailOf body = [t]) (L : Lie w0 b B0 B1 B2 D l) (hs : s.size ≤ 4096) (X : Except Nat Sp.St) (m n : Nat)
    (hr : rec.state = .ready) (hp : rec.pending = none) (hM : Mem w0 b B0 B1 B2 D l s { rec with state := .busy } y v j W) (hj : j ≤ s.size) (kb : Sp.Bs) (x5 : Sp.St)
    (h5 : x5.st = 5) (h5v : x5.value = []) (h5w : x5.word = kb) (h5c : x5.cmd = y.cmd) (h5n : x5.name = y.name) (h5o : x5.opts = y.opts) (h5f : x5.fields = n + 1)
    (hX1 : Sp.ch (BL s) j = 61 → Sp.runP (BL s) x5 (j + 1) = X) (hX2 : Sp.ch (BL s) j ≠ 61 → X = .error (j + 1)) (ho : y.opts.length + 1 ≤ j) (hn : n ≤ j)
    (u3 u5 u6 u7 u8 u9 u10 u11 u12 u13 u14 u15 u16 u17 u18 u19 u20 u21 u22 u23 : Value) :
    t.wpIn (FR l) m Try.prog (Exit.inBlock 1 (roundPostP Try.prog l (RoundQ w0 b B0 B1 B2 D l s rec n X))) { tmps := #[.pointer (some ⟨b, 0, none⟩), .pointer (some ⟨B0, 0, none⟩), .pointer (some ⟨B1, 0, none⟩), u3, .string (bs kb), u5, u6, u7, u8, u9, u10, u11, u12, u13, u14, u15, u16, u17, u18, u19, u20, u21, u22, u23, undef, undef, undef, undef, undef, undef, undef, undef, undef, undef, undef, undef, undef, undef, undef, undef, undef, undef, undef, undef, undef], defers := [] } W := by
  have HM := Lib.hid hM
  have HL := Lib.hid (look_c hM.rd hj)
  have c0 := hM.c0
  have Hr := Lib.hid hr
  have Hp := Lib.hid hp
  clear hM hr hp
  simp only [Try.f17, Option.map_some, findRF, List.nil_append, List.append_nil, Option.some.injEq, List.cons.injEq, Prod.mk.injEq, and_true] at hcode
  obtain ⟨rfl, rfl⟩ := hcode
  simp only [tailOf, List.cons.injEq, and_true] at ht
  subst ht
  by_cases h61 : Sp.ch (BL s) j = 61
  · have h61i : (((Sp.ch (BL s) j).toNat : Int) != 61) = false := by rw [h61]; rfl
    have hlt := ne_end hj (by decide) h61
    have HX := Lib.hid (hX1 h61)
    clear hX1 hX2 h61
    gi_wp2_with fail
    refine ⟨trivial, (fun h => by cases h), (calls_round HL.out).mono ?_⟩
    rintro e W2 ⟨rfl, nq, rfl⟩
    have hM2 := HM.out.drewN nq
    have c1 := hM2.rd.c1
    have f1 := hM2.rd.f1
    have HM2 := Lib.hid hM2
    clear hM2 HM HL c0
    have c0 := HM2.out.c0
    gi_wp2
    have hM3 := HM2.out.grown L (gr_set (gr_refl _ _) 1 (.int .i64 ((j : Int) + 1))) HM2.out.rd.set1
    generalize (W.drewN nq).setCell ⟨b, 1, none⟩ (.int .i64 ((j : Int) + 1)) = W3 at *
    have HM3 := Lib.hid hM3
    clear hM3 c0 c1 f1 HM2
    have hQ : ∀ (dst : Option Tmp) (u : Value) (c : List PanicEntry) (a : Act) (w : World), Exit.inBlock 1 (roundPostP Try.prog l (RoundQ w0 b B0 B1 B2 D l s rec n X)) (.panic c) (a.put dst u) w →
        Exit.inBlock 1 (roundPostP Try.prog l (RoundQ w0 b B0 B1 B2 D l s rec n X)) (.panic c) a w := by
      intro dst u c a w h
      cases dst <;> exact h
    have HQ := Lib.hid hQ; clear hQ
    refine wpIn_regionZ (fun w' => w'.cell? ⟨B1, 2, none⟩ = some v ∧ w'.cell? ⟨B0, 0, none⟩ = some (.pointer (some ⟨b, 0, none⟩))) 9 (by kernel_rfl) (noDefer_spec (by kernel_rfl)) (fun ⟨_, _, h⟩ => h) ?_
    have hS : ((W3.drewN 1).cell? ⟨B1, 2, none⟩ = some v ∧ (W3.drewN 1).cell? ⟨B0, 0, none⟩ = some (.pointer (some ⟨b, 0, none⟩))) := ⟨(HM3.out.drewN 1).r2, (HM3.out.drewN 1).c0⟩
    show wpAnyZ _ _ _ _ _ _ 10 _ _ (W3.drewN 1)
    refine takeL (i := 0) (v := .pointer (some ⟨B1, 2, none⟩)) rfl (by kernel_rfl) (by kernel_rfl) (by kernel_rfl) (by kernel_rfl) (HQ.out _ _) (.inl ⟨rfl, fun w' hs' => by go_simp⟩) hS ?_
    simp only [Act.put, List.setIfInBounds_toArray, List.set_cons_succ, List.set_cons_zero]
    refine takeL (i := 1) (v := v) rfl (by kernel_rfl) (by kernel_rfl) (by kernel_rfl) (by kernel_rfl) (HQ.out _ _) (.inl ⟨rfl, fun w' hs' => by obtain ⟨h1, h2⟩ := hs'; go_simp⟩) hS ?_
    simp only [Act.put, List.setIfInBounds_toArray, List.set_cons_succ, List.set_cons_zero]
    refine takeL (i := 2) (v := .string (bs kb)) rfl (by kernel_rfl) (by kernel_rfl) (by kernel_rfl) (by kernel_rfl) (HQ.out _ _) (.inl ⟨rfl, fun w' hs' => by go_simp⟩) hS ?_
    simp only [Act.put, List.setIfInBounds_toArray, List.set_cons_succ, List.set_cons_zero]
    refine takeL (i := 3) (v := .pointer (some ⟨b, 0, none⟩)) rfl (by kernel_rfl) (by kernel_rfl) (by kernel_rfl) (by kernel_rfl) (HQ.out _ _) (.inl ⟨rfl, fun w' hs' => by obtain ⟨h1, h2⟩ := hs'; go_simp⟩) hS ?_
    simp only [Act.put, List.setIfInBounds_toArray, List.set_cons_succ, List.set_cons_zero]
    refine oneL (i := 4) rfl (by kernel_rfl) rfl fun K hK => ?_
    go_simp
    refine (value_c (HM3.out.drewN 1).rd (by omega) hs x5 h5 h5v X HX.out).mono ?_
    rintro e W4 hq
    unfold ValQ at hq
    obtain ⟨hg4, hq⟩ := hq
    rcases hq with ⟨p, rfl, hXp⟩ | ⟨vb, j4, hf, rfl, hj4, hj4s, hov1, hov2, hR4⟩
    · exact round_panic L (HM3.out.drewN 1) hg4 hXp
    · have hM4 := (HM3.out.drewN 1).grown L hg4 hR4
      clear hS
      have hS : W4.cell? ⟨B1, 2, none⟩ = some v ∧ W4.cell? ⟨B0, 0, none⟩ = some (.pointer (some ⟨b, 0, none⟩)) := ⟨hM4.r2, hM4.c0⟩
      have HM4 := Lib.hid hM4
      clear hM4 hg4 hR4 HM3 HX
      refine hK _ _ (fun _ => hS) ?_
      clear hK K
      refine oneL (i := 5) rfl (by kernel_rfl) rfl fun K hK => ?_
      go_simp
      refine hK _ _ (fun _ => hS) ?_
      clear hK K
      refine oneL (i := 6) rfl (by kernel_rfl) rfl fun K hK => ?_
      go_simp
      refine hK _ _ (fun _ => ⟨(World.grownBy_alloc W4 _ none).cell hS.1 (by simp), (World.grownBy_alloc W4 _ none).cell hS.2 (by simp)⟩) ?_
      clear hK K
      refine oneL (i := 7) rfl (by kernel_rfl) rfl fun K hK => ?_
      obtain ⟨i0, hi, hz0, hz1, hz2⟩ := info_parts info33
      refine wp_append_own _ (.tmp 36) (.tmp 41) 22 rfl (l + 1) 33 i0 (.agg #[.string ⟨#[]⟩, .string ⟨#[]⟩]) 2 32 Try.underlying22 hi hz0 hz1 hz2 rfl (by decide) v y.opts.length (optCells y.opts) rfl (HM4.out.own.alloc _)
        ⟨W4.heap.size, 0, none⟩ 1 1 [.string (bs kb), .string (bs vb)] rfl rfl ?c1 ?c2 (by unfold maxLen; omega) (by omega) (by have := HM4.out.size; simp; omega) ?_
      case c1 =>
        intro q u hu
        match q, hu with
        | 0, hu => simp at hu; subst hu; simp [Addr.add]
        | 1, hu => simp at hu; subst hu; simp [Addr.add]
      case c2 => intro u hu; simp at hu; rcases hu with rfl | rfl <;> rfl
      intro v5 W5 ho5 hg5 _
      have hap := HM4.out.apart
      have e0 := L.h0
      have e1 := L.h1
      have el := L.hl
      have hS5 : W5.cell? ⟨B1, 2, none⟩ = some v ∧ W5.cell? ⟨B0, 0, none⟩ = some (.pointer (some ⟨b, 0, none⟩)) :=
        ⟨hg5.cell ((World.grownBy_alloc W4 _ none).cell hS.1 (by simp)) (hap B1 (by omega)), hg5.cell ((World.grownBy_alloc W4 _ none).cell hS.2 (by simp)) (hap B0 (by omega))⟩
      have hM6 := HM4.out.appended L hg5 ho5
      have hf5 : W5.frozen? ⟨B1, 2, none⟩ = false := by
        rw [World.frozen?_of_block (w := W4) ?_]
        · exact HM4.out.f 2
        · show W5.heap[B1]? = W4.heap[B1]?
          have hsz := HM4.out.size
          rw [hg5.block B1 (by simp; omega) (hap B1 (by omega)), Below.heap_alloc _ _ _ (by omega)]
      obtain ⟨hs51, hs52⟩ := hS5
      obtain ⟨g5, cap5, rfl⟩ : ∃ g cap, v5 = .slice (some ⟨g, 0, none⟩) (y.opts.length + 1) cap := by
        rcases ho5.2 with ⟨_, h0⟩ | ⟨g, cap, cur, hv, _⟩
        · omega
        · exact ⟨g, cap, hv⟩
      clear hap e0 e1 el ho5 hg5
      refine hK _ _ (fun _ => ⟨hs51, hs52⟩) ?_
      clear hK K
      simp only [Act.put, List.setIfInBounds_toArray, List.set_cons_succ, List.set_cons_zero]
      refine oneL (i := 8) rfl (by kernel_rfl) rfl fun K hK => ?_
      go_simp
      refine hK _ _ (fun _ => ⟨hs51, hs52⟩) ?_
      clear hK K
      refine oneL (i := 9) rfl (by kernel_rfl) rfl fun K hK => ?_
      go_simp
      refine hK _ _ (fun h => absurd rfl h) ?_
      refine doneL (by kernel_rfl) ?_
      refine round_done (a := { tmps := #[], defers := [] }) L Hr.out Hp.out (hM6.cast (y' := { x5 with opts := x5.opts ++ [(x5.word, vb)], value := [], st := 0, half := hf }) h5c h5n (by simp only [h5o, h5w])) rfl h5f rfl (by omega) hj4s ?_ hov1 hov2
      simp only [h5o, List.length_append, List.length_cons, List.length_nil]
      omega
  · have h61i : (((Sp.ch (BL s) j).toNat : Int) != 61) = true := by
      simp [← UInt8.toNat_inj] at h61 ⊢; omega
    have HX := Lib.hid (hX2 h61)
    have HF := Lib.hid (fun n => fail_c (HM.out.rd.drewN n))
    clear hX1 hX2 h61
    gi_wp2_with fail
    refine ⟨trivial, (fun h => by cases h), (calls_round HL.out).mono ?_⟩
    rintro e W2 ⟨rfl, nq, rfl⟩
    gi_wp2_with fail
    refine ⟨trivial, (fun h => by cases h), (calls_round (HF.out nq)).mono ?_⟩
    rintro e W2 ⟨rfl, rfl⟩
    exact round_panic L (HM.out.drewN nq) (gr_refl _ _) HX.out

end
end Go.Proofs.Ytpilifhdhgdbjaa
