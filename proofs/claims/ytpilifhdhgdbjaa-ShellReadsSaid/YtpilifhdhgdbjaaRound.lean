/- Laws for the rounds of a range over a function, no fence round them: a contract serves in a round as anywhere; a region that draws its order goes in a round as anywhere; a round whose body panics hands the panic up. -/
import Derived.RangeFuncLeaves
import Derived.RangeFuncRecord
import Derived.OrdersHeld
import Derived.OrdersIn
import Derived.Deep.Draws
import Derived.TacticsIn
namespace Go.Proofs.Ytpilifhdhgdbjaa

/-- Within round l, and nothing else asked. -/
abbrev FR (l : Nat) : Fence := Fence.wide.inRound l

section
variable {P : Program} {l n : Nat}

theorem calls_round {f : FuncId} {args : Array Value} {w : World} {R : Ending → World → Prop} (h : Calls P f args w R) : CallsIn (FR l) n P f args w R :=
  (callsIn_wide (n := n)).2 h

theorem calls_of_round {f : FuncId} {args : Array Value} {w : World} {R : Ending → World → Prop} (h : CallsIn (FR l) n P f args w R) : Calls P f args w R :=
  (callsIn_wide (n := n)).1 h

theorem rows_round {row : String} {args : Array Value} {w : World} {R : Value → World → Prop} (h : Rows P row args w R) : RowsIn (FR l) n P row args w R := by
  intro c cs _
  obtain ⟨v, w', hr, hs⟩ := h c cs
  exact ⟨v, w', hr, stepsIn_wide.2 hs⟩

/-- An operation that is no 'defer' goes in a round as anywhere. -/
theorem oper_round {o : Oper} {a : Act} {w : World} {next : Act → World → Prop} {Q : Exit → Act → World → Prop} (hd : ∀ c, o.op ≠ .defer c)
    (h : o.wp P a w next Q) : o.wpIn (FR l) n P a w next Q := by
  refine ⟨fun _ _ => trivial, ?_⟩
  have e : (FR l).round = some l := rfl
  rw [e, Oper.semAt_some l a.eval o hd]
  unfold Oper.wp at h
  generalize (execOp a.eval o).run P w = r at *
  cases r with
  | ok x w' =>
    cases x <;> simp only [Oper.upon, Oper.uponIn] at h ⊢ <;>
      first
        | exact h
        | exact h.elim
        | exact ⟨(fun h0 => by cases h0), calls_round h⟩
        | exact ⟨(fun h0 => by cases h0), rows_round h⟩
  | halt x w' => cases x <;> simp only [Oper.upon, Oper.uponIn] at h ⊢ <;> first | exact h | exact h.elim

theorem wpOp_round {ops : Array Oper} {Q : Exit → Act → World → Prop} {i : Nat} {K K' : Act → World → Prop} {a : Act} {w : World} (hd : ∀ (j : Nat) (o : Oper), ops[j]? = some o → ∀ c, o.op ≠ .defer c)
    (hQ : ¬ LetsOut Q) (hK : ∀ a w, K a w → K' a w) (h : wpOp P ops Q i K a w) : wpOpIn (FR l) n P ops Q i K' a w := by
  unfold wpOp at h
  unfold wpOpIn
  cases ho : ops[i]? with
  | none => simp only [ho] at h ⊢; exact hK _ _ h
  | some o =>
    simp only [ho] at h ⊢
    by_cases hw : Region.wanted o (yielded ops a.tmps) = true
    · simp only [hw, if_true] at h ⊢
      rcases h with h | h
      · exact oper_round (hd i o ho) (Oper.wp_mono hK h)
      · exact absurd h.2 hQ
    · simp only [hw] at h ⊢
      exact ⟨fun _ _ => trivial, hK _ _ h⟩

theorem wpAny_round {ops : Array Oper} {Q : Exit → Act → World → Prop} {md : Region.Mode} (hd : ∀ (j : Nat) (o : Oper), ops[j]? = some o → ∀ c, o.op ≠ .defer c) (hQ : ¬ LetsOut Q) :
    ∀ (fuel : Nat) (listed : Array Bool) (a : Act) (w : World), wpAny P md ops Q fuel listed a w → wpAnyIn (FR l) n P md ops Q fuel listed a w
  | 0, _, _, _, h => h
  | fuel + 1, _, _, _, h => ⟨h.1, fun i hi => wpOp_round hd hQ (fun a' w' h' => wpAny_round hd hQ fuel _ a' w' h') (h.2 i hi)⟩

/-! ### A region that draws its order, one operation (number z) waiting for all that is taken first: what holds of the worlds ahead of z need not hold behind it -/

def wpAnyZ (P : Program) (md : Region.Mode) (ops : Array Oper) (Q : Exit → Act → World → Prop) (S : World → Prop) (z : Nat) : Nat → Array Bool → Act → World → Prop
  | 0, listed, a, w => Region.ready md ops listed = [] ∧ Q .normal a w
  | fuel + 1, listed, a, w => (Region.ready md ops listed = [] → Q .normal a w) ∧
      ∀ i ∈ Region.ready md ops listed, wpOp P ops Q i (fun a' w' => (i ≠ z → S w') ∧ wpAnyZ P md ops Q S z fuel (listed.setIfInBounds i true) a' w') a w

section
variable {ops : Array Oper} {Q : Exit → Act → World → Prop} {md : Region.Mode} {S : World → Prop} {z : Nat}

theorem wpAny_of_Z : ∀ (fuel : Nat) (listed : Array Bool) (a : Act) (w : World), wpAnyZ P md ops Q S z fuel listed a w → wpAny P md ops Q fuel listed a w
  | 0, _, _, _, h => h
  | fuel + 1, _, _, _, h => ⟨h.1, fun i hi => wpOp_mono (fun a' w' h' => wpAny_of_Z fuel _ a' w' h'.2) (h.2 i hi)⟩

theorem unlisted_of_ready {i : Nat} {listed : Array Bool} (h : i ∈ Region.ready md ops listed) : listed.getD i false = false := by
  have h0 := (mem_ready.1 h).1
  rcases Nat.lt_or_ge i listed.size with h' | h'
  · simpa [h'] using h0
  · simp [h']

theorem wpAnyZ_first {i : Nat} {oi : Oper} {v : Value} (hi : ops[i]? = some oi) (hsel : ∀ (j : Nat) (o : Oper) cs b, ops[j]? = some o → o.op ≠ .select cs b)
    (hQ : ∀ c a w, Q (.panic c) (a.put oi.dst v) w → Q (.panic c) a w) (hz : ∀ oz, ops[z]? = some oz → ∃ e ∈ oz.after, Region.binds md e = true ∧ e.on = i) :
    ∀ (fuel : Nat) (listed : Array Bool) (a : Act) (w : World),
      (∀ j oj, ops[j]? = some oj → j ≠ i → listed.getD j true = false → (∀ e ∈ oj.after, Region.binds md e = true → e.on ≠ i) → oi.apart ops oj = true) →
      i ∈ Region.ready md ops listed → YieldsIf P ops S oi v a → S w →
      wpAnyZ P md ops Q S z fuel (listed.setIfInBounds i true) (a.put oi.dst v) w → wpAnyZ P md ops Q S z (fuel + 1) listed a w := by
  intro fuel
  induction fuel with
  | zero =>
    intro listed a w _ hr hy hS H
    refine ⟨fun h => (by rw [h] at hr; cases hr), fun j hj => ?_⟩
    by_cases hji : j = i
    · subst hji
      exact hy.wpOp hi hS ⟨fun _ => hS, H⟩
    · have h0 := ready_mono hj hji
      rw [H.1] at h0
      cases h0
  | succ fuel ih =>
    intro listed a w hfree hr hy hS H
    refine ⟨fun h => (by rw [h] at hr; cases hr), fun j hj => ?_⟩
    by_cases hji : j = i
    · subst hji
      exact hy.wpOp hi hS ⟨fun _ => hS, H⟩
    · obtain ⟨hun, oj, hoj, hall⟩ := mem_ready.1 hj
      have hno : ∀ e ∈ oj.after, Region.binds md e = true → e.on ≠ i := fun e he hb heq => by
        have h1 := hall e he hb
        rw [heq, unlisted_of_ready hr] at h1
        cases h1
      have hjz : j ≠ z := fun e => by
        subst e
        obtain ⟨e, he, hb, ho⟩ := hz oj hoj
        exact hno e he hb ho
      have h2 := wpOp_putIf hoj (hfree j oj hoj hji hun hno) (fun cs b => hsel i oi cs b hi) (fun cs b => hsel j oj cs b hoj) hQ hy (H.2 j (ready_mono hj hji))
      refine wpOp_mono (fun a' w' h3 => ⟨fun _ => h3.2.1 hjz, ih (listed.setIfInBounds j true) a' w' (fun k ok hok hki hk hn => ?_) (ready_mono hr (Ne.symm hji)) h3.1 (h3.2.1 hjz) ?_⟩) h2
      · refine hfree k ok hok hki ?_ hn
        by_cases hjk : j = k
        · subst hjk; exact hun
        · rw [getD_set_ne true hjk] at hk; exact hk
      · rw [Array.setIfInBounds_comm _ _ hji]
        exact h3.2.2

/-- Does operation z wait for operation i? -/
def waitsB (md : Region.Mode) (ops : List Oper) (z i : Nat) : Bool := match ops[z]? with
  | some o => o.after.toList.any fun e => Region.binds md e && e.on == i
  | none => true
theorem waitsB_spec {ops : List Oper} {i : Nat} (h : waitsB md ops z i = true) (oz : Oper) (ho : ops.toArray[z]? = some oz) : ∃ e ∈ oz.after, Region.binds md e = true ∧ e.on = i := by
  unfold waitsB at h
  have ho' : ops[z]? = some oz := by simpa using ho
  rw [ho'] at h
  obtain ⟨e, he, h2⟩ := List.any_eq_true.1 h
  simp at h2
  exact ⟨e, by simpa using he, h2⟩
end

/-- An operation of a region written out as a list, taken first. -/
theorem takeL {ops : List Oper} {Q : Exit → Act → World → Prop} {md : Region.Mode} {S : World → Prop} {z i : Nat} {oi : Oper} {v : Value} {fuel : Nat} {listed : Array Bool} {a : Act} {w : World}
    (hi : ops[i]? = some oi) (hs : Region.noSelect ops.toArray = true) (hf : Region.free md ops.toArray listed i = true) (hr : (Region.ready md ops.toArray listed).contains i = true) (hz : waitsB md ops z i = true)
    (hQ : ∀ c a w, Q (.panic c) (a.put oi.dst v) w → Q (.panic c) a w) (hy : YieldsIf P ops.toArray S oi v a) (hS : S w)
    (h : wpAnyZ P md ops.toArray Q S z fuel (listed.setIfInBounds i true) (a.put oi.dst v) w) : wpAnyZ P md ops.toArray Q S z (fuel + 1) listed a w :=
  wpAnyZ_first (by simpa using hi) (Region.noSelect_spec hs) hQ (waitsB_spec hz) fuel listed a w (Region.free_spec (by simpa using hi) hf) (by simpa using hr) hy hS h

/-- The one operation that may come up comes up. -/
theorem oneL {ops : List Oper} {Q : Exit → Act → World → Prop} {md : Region.Mode} {S : World → Prop} {z i : Nat} {oi : Oper} {fuel : Nat} {listed : Array Bool} {a : Act} {w : World}
    (hi : ops[i]? = some oi) (hr : Region.ready md ops.toArray listed = [i]) (hw : Region.wanted oi (yielded ops.toArray a.tmps) = true)
    (h : ∀ K : Act → World → Prop, (∀ a' w', (i ≠ z → S w') → wpAnyZ P md ops.toArray Q S z fuel (listed.setIfInBounds i true) a' w' → K a' w') → oi.wp P a w K Q) : wpAnyZ P md ops.toArray Q S z (fuel + 1) listed a w := by
  refine ⟨fun h0 => (by rw [hr] at h0; cases h0), fun k hk => ?_⟩
  obtain rfl : k = i := by rw [hr] at hk; simpa using hk
  have hi' : ops.toArray[k]? = some oi := by simpa using hi
  unfold wpOp
  rw [hi']
  simp only [hw, if_true]
  exact .inl (h _ fun a' w' h1 h2 => ⟨h1, h2⟩)

/-- All have come up. -/
theorem doneL {ops : Array Oper} {Q : Exit → Act → World → Prop} {md : Region.Mode} {S : World → Prop} {z fuel : Nat} {listed : Array Bool} {a : Act} {w : World} (hr : Region.ready md ops listed = []) (h : Q .normal a w) :
    wpAnyZ P md ops Q S z fuel listed a w := by
  cases fuel with
  | zero => exact ⟨hr, h⟩
  | succ n => exact ⟨fun _ => h, fun i hi => by rw [hr] at hi; cases hi⟩

/-- A region that draws its order. -/
theorem wp_regionZ (S : World → Prop) (z : Nat) {id : Nat} {ops : Array Oper} {Q : Exit → Act → World → Prop} {a : Act} {w : World} (hm : P.follows .mixedOrders = true)
    (h : wpAnyZ P .any ops Q S z ops.size (Array.replicate ops.size false) a (w.drewN 1)) : (Code.region id ops true).wp P Q a w :=
  wp_region_any hm (wpAny_of_Z _ _ _ _ h)

/-- .. in a round. -/
theorem wpIn_regionZ (S : World → Prop) (z : Nat) {id : Nat} {ops : Array Oper} {Q : Exit → Act → World → Prop} {a : Act} {w : World} (hm : P.follows .mixedOrders = true)
    (hd : ∀ (j : Nat) (o : Oper), ops[j]? = some o → ∀ c, o.op ≠ .defer c) (hQ : ¬ LetsOut Q)
    (h : wpAnyZ P .any ops Q S z ops.size (Array.replicate ops.size false) a (w.drewN 1)) : (Code.region id ops true).wpIn (FR l) n P Q a w :=
  wpIn_region_any hm (wpAny_round hd hQ _ _ _ _ (wpAny_of_Z _ _ _ _ h))

/-- What is asked at a round's end, a panic among the ways out. -/
def roundPostP (P : Program) (l : Nat) (R : Ending → World → Prop) : Exit → Act → World → Prop
  | .normal, _, w => ∃ v w', (Instr.endRound l none).run P w = .ok v w' ∧ R (.returned v) w'
  | .ret, _, w => ∃ v w', (Instr.endRound l (some .ret)).run P w = .ok v w' ∧ R (.returned v) w'
  | .exit id, _, w => ∃ v w', (Instr.endRound l (some (.exit id))).run P w = .ok v w' ∧ R (.returned v) w'
  | .goto t, _, w => ∃ v w', (Instr.endRound l (some (.goto t))).run P w = .ok v w' ∧ R (.returned v) w'
  | .panic chain, a, w => a.defers = [] ∧ R (.panicked chain) w
  | .outgrown, _, _ => False

theorem letsOut_roundPostP {R : Ending → World → Prop} : ¬ LetsOut (roundPostP P l R) := fun ⟨_, _, h⟩ => h

/-- A round's contract out of its body's walk; the body may panic. -/
theorem round_of_wp {f : FuncId} {fn : Func} (hfn : P.funcs[f]? = some fn) {tmps : Array Value} {assign body : Code} {w : World} {R : Ending → World → Prop}
    (h : assign.wpIn (FR l) n P (Exit.then (fun a₁ w₁ => ∃ w₂, (Instr.beginRound l).run P w₁ = .ok () w₂ ∧ body.wpIn (FR l) n P (roundPostP P l R) a₁ w₂) (fun _ _ _ => False))
      { tmps := tmps, defers := [] } w) :
    RoundIn Fence.wide n P l f tmps assign body w R := by
  refine ⟨trivial, fun c cs hr => ?_⟩
  let b : Frame := { (default : Frame) with fn := f, kind := .normal, roundOf := some l }
  have hb0 : Frame.round l f tmps assign body .normal = b.atR { tmps := tmps, defers := [] } [.code assign, .beginRound, .code body] := by
    simp [Frame.round, Frame.atR, b]
  have hr' : (FR l).room ((c :: cs).length + 1 + n) := hr
  have hF' : (FR l).fn b.fn := trivial
  obtain ⟨e, a₁, w₁, hq, harr⟩ := h b [.beginRound, .code body] (c :: cs) rfl hF' hr'
  rw [← hb0] at harr
  cases e with
  | normal =>
    obtain ⟨w₂, hbr, hbody⟩ := hq
    have s1 : StepsIn (Machine.fenced P (FR l)) P (lone (b.atR a₁ [.beginRound, .code body]) (c :: cs) w₁) (lone (b.atR a₁ [.code body]) (c :: cs) w₂) :=
      .one (fenced_calm (fr := b.atR a₁ [.beginRound, .code body]) hF' hr' rfl) (stepR_beginRound rfl hbr)
    obtain ⟨e₂, a₂, w₃, hq₂, harr₂⟩ := hbody b [] (c :: cs) rfl hF' hr'
    cases e₂ with
    | normal =>
      obtain ⟨v, w₄, hend, hR⟩ := hq₂
      exact ⟨.returned v, w₄, hR, (StepsIn.trans harr s1).trans (StepsIn.trans harr₂ (.one (fenced_calm (fr := b.atR a₂ []) hF' hr' rfl) (stepR_round_end rfl rfl hend)))⟩
    | ret =>
      obtain ⟨v, w₄, hend, hR⟩ := hq₂
      obtain ⟨k₁, hs⟩ := harr₂.2 rfl
      exact ⟨.returned v, w₄, hR, (StepsIn.trans harr s1).trans (StepsIn.trans hs (.one (fenced_calm (fr := b.atR a₂ (.code .ret :: k₁)) hF' hr' rfl) (stepR_round_ret rfl rfl hend)))⟩
    | exit id =>
      obtain ⟨v, w₄, hend, hR⟩ := hq₂
      obtain ⟨k₁, hk, hs⟩ := harr₂.2 rfl rfl
      exact ⟨.returned v, w₄, hR, (StepsIn.trans harr s1).trans (StepsIn.trans hs (.one (fenced_calm (fr := b.atR a₂ (.code (.exit id) :: k₁)) hF' hr' rfl) (stepR_round_exit rfl rfl hk hend)))⟩
    | goto t =>
      obtain ⟨v, w₄, hend, hR⟩ := hq₂
      obtain ⟨k₁, hk, hs⟩ := harr₂.2 rfl rfl
      exact ⟨.returned v, w₄, hR, (StepsIn.trans harr s1).trans (StepsIn.trans hs (.one (fenced_calm (fr := b.atR a₂ (.code (.goto t) :: k₁)) hF' hr' rfl) (stepR_round_goto rfl rfl hk hend)))⟩
    | panic chain =>
      obtain ⟨hde, hR⟩ := hq₂
      obtain ⟨todo, hs⟩ := harr₂
      have hl : ({ b.atR a₂ todo with mode := .panicking chain } : Frame).leaving P w₃ (.panicked chain) := ⟨rfl, hde, fn, hfn⟩
      refine ⟨.panicked chain, w₃, hR, (StepsIn.trans harr s1).trans (StepsIn.trans hs (.one (fenced_wide P _) ?_))⟩
      exact step_leave_panicked hl
    | outgrown => exact hq₂.elim
  | exit id => exact hq.elim
  | goto t => exact hq.elim
  | ret => exact hq.elim
  | panic chain => exact hq.elim
  | outgrown => exact hq.elim

end

/-! ### The code of one function: what is shown of a frame of that function alone -/

/-- As 'Code.wp', of a frame of function f that is no round. -/
def WpF (f : FuncId) (P : Program) (c : Code) (Q : Exit → Act → World → Prop) (a : Act) (w : World) : Prop :=
  ∀ (b : Frame) (k : List Item) (cs : List Frame), b.roundOf = none → b.fn = f →
    ∃ e a' w', Q e a' w' ∧ ArrivesIn (Machine.fenced P Fence.wide) P (lone (b.atR a (.code c :: k)) cs w) b k cs e a' w'

section
variable {f : FuncId} {P : Program} {Q : Exit → Act → World → Prop} {a : Act} {w : World}

theorem WpF.of_wp {c : Code} (h : c.wp P Q a w) : WpF f P c Q a w := fun b k cs hro _ =>
  (wpIn_wide (n := 0)).2 h b k cs hro trivial (room_wide _)

theorem one_wide {m m' : Machine} (h : step P m = .next m') : StepsIn (Machine.fenced P Fence.wide) P m m' := .one (fenced_wide P m) h

theorem WpF.seq {x y : Code} (h : WpF f P x (Exit.then (WpF f P y Q) Q) a w) : WpF f P (.seq x y) Q a w := by
  intro b k cs hro hf
  have h1 : StepsIn (Machine.fenced P Fence.wide) P (lone (b.atR a (.code (.seq x y) :: k)) cs w) (lone (b.atR a (.code x :: .code y :: k)) cs w) := one_wide stepR_seq
  obtain ⟨e, a₁, w₁, hq, harr⟩ := h b (.code y :: k) cs hro hf
  by_cases he : e = .normal
  · subst he
    obtain ⟨e₂, a₂, w₂, hq₂, harr₂⟩ := hq b k cs hro hf
    exact ⟨e₂, a₂, w₂, hq₂, .of_steps (h1.trans harr) harr₂⟩
  · have hq' : Q e a₁ w₁ := by
      cases e <;> first | exact hq | exact absurd rfl he
    exact ⟨e, a₁, w₁, hq', .of_steps h1 (.pass (x := .code y) rfl (fun _ _ => .inl he) harr)⟩

theorem WpF.block {id : Nat} {c : Code} (h : WpF f P c (Exit.inBlock id Q) a w) : WpF f P (.block id c) Q a w := by
  intro b k cs hro hf
  have h1 : StepsIn (Machine.fenced P Fence.wide) P (lone (b.atR a (.code (.block id c) :: k)) cs w) (lone (b.atR a (.code c :: .inBlock id :: k)) cs w) := one_wide stepR_block
  obtain ⟨e, a₁, w₁, hq, harr⟩ := h b (.inBlock id :: k) cs hro hf
  cases e with
  | normal => exact ⟨.normal, a₁, w₁, hq, (h1.trans harr).trans (one_wide stepR_inBlock)⟩
  | exit j =>
    by_cases hj : j = id
    · subst hj
      simp only [Exit.inBlock, if_true] at hq
      exact ⟨.normal, a₁, w₁, hq, h1.trans (harr.1 k (by simp [exitTo]))⟩
    · simp only [Exit.inBlock, hj, if_false] at hq
      have hx : exitTo j (.inBlock id :: k) = exitTo j k := by
        have : (id == j) = false := by simp; exact fun h => hj h.symm
        simp [exitTo, this]
      exact ⟨.exit j, a₁, w₁, hq, fun k' hk => h1.trans (harr.1 k' (by rw [hx]; exact hk)), fun hr _ => by rw [hro] at hr; cases hr⟩
  | goto j =>
    have hx : gotoIn j (.inBlock id :: k) = gotoIn j k := by simp [gotoIn]
    exact ⟨.goto j, a₁, w₁, hq, fun k' hk => h1.trans (harr.1 k' (by rw [hx]; exact hk)), fun hr _ => by rw [hro] at hr; cases hr⟩
  | ret => exact ⟨.ret, a₁, w₁, hq, .of_steps h1 harr⟩
  | panic ch => exact ⟨.panic ch, a₁, w₁, hq, .of_steps h1 harr⟩
  | outgrown => exact ⟨.outgrown, a₁, w₁, hq, .of_steps (e := .outgrown) (a := a₁) (w := w₁) h1 harr⟩

/-- A range over a function, in a frame of function f: the record lies, the one call is made; behind it no jump is pending. -/
theorem WpF.rangeFunc {g : Operand} {ps : Array Tmp} {assign body : Code} {gf : FuncId} {lb : Array Value} (hg : a.eval g = .func (.func gf) #[] lb)
    (hent : ∀ args w, (callFunc gf args).run P w = .ok (.enter gf args) w)
    (h : Calls P gf (#[.func (.yield (w.heap.size + 1)) #[] #[]] ++ lb)
        ((w.alloc (.deferred (some []))).alloc (.loop { state := .ready, pending := none, fn := f, tmps := a.tmps, params := ps, assign, body, defers := w.heap.size }))
        fun e w₃ => match e with
          | .returned _ => ∃ w₄, (Instr.endLoop (w.heap.size + 1)).run P w₃ = .ok none w₄ ∧ Q .normal { a with defers := { target := .collected w.heap.size, args := #[] } :: a.defers } w₄
          | .panicked chain => Q (.panic chain) { a with defers := { target := .collected w.heap.size, args := #[] } :: a.defers } w₃
          | .outgrown => False) : WpF f P (.rangeFunc g ps assign body) Q a w := by
  intro b k cs hro hf
  have he := run_enterLoop_outer (P := P) (w := w) b.fn a.tmps ps assign body
  rw [← hro, hf] at he
  generalize hw1 : (w.alloc (.deferred (some []))).alloc (.loop { state := .ready, pending := none, fn := f, tmps := a.tmps, params := ps, assign, body, defers := w.heap.size }) = w₁ at *
  have hres : (resolve a.eval (rangeCall g (w.heap.size + 1)) 0).run P w₁ = .ok { target := .fn (.func gf) lb, args := #[.func (.yield (w.heap.size + 1)) #[] #[]] } w₁ := by
    have ec : a.eval (.const (.func (.yield (w.heap.size + 1)) #[] #[])) = .func (.yield (w.heap.size + 1)) #[] #[] := rfl
    simp [resolve, hg, ec, Deferred.ofValue]
  have hinv : (invoke (.fn (.func gf) lb) #[.func (.yield (w.heap.size + 1)) #[] #[]]).run P w₁ = .ok (.enter gf (#[.func (.yield (w.heap.size + 1)) #[] #[]] ++ lb)) w₁ := by
    simp [invoke, hent]
  rw [← hf] at he
  have henter := stepR_rangeFunc (P := P) (b := b) (a := a) (k := k) (cs := cs) (w := w) he hres hinv
  obtain ⟨e, w₃, fr, hR, hsteps, hfn, hleave⟩ := h (b.atR { a with defers := [{ target := .collected w.heap.size, args := #[] }] ++ a.defers } (.inRangeFunc (w.heap.size + 1) :: k) :: cs)
  cases e with
  | outgrown => exact hR.elim
  | returned v =>
    obtain ⟨w₄, hend, hq⟩ := hR
    have h2 := step_leave_returned (c := b.atR { a with defers := [{ target := .collected w.heap.size, args := #[] }] ++ a.defers } (.inRangeFunc (w.heap.size + 1) :: k)) (cs := cs) hleave
    rw [finish_atR_inRangeFunc] at h2
    refine ⟨.normal, _, w₄, hq, ?_⟩
    exact (one_wide henter).trans ((stepsIn_wide.2 hsteps).trans ((one_wide h2).trans (one_wide (stepR_endRangeFunc hend))))
  | panicked chain =>
    have h2 := step_leave_panicked (c := b.atR { a with defers := [{ target := .collected w.heap.size, args := #[] }] ++ a.defers } (.inRangeFunc (w.heap.size + 1) :: k)) (cs := cs) hleave
    refine ⟨.panic chain, _, w₃, hR, .inRangeFunc (w.heap.size + 1) :: k, ?_⟩
    refine (one_wide henter).trans ((stepsIn_wide.2 hsteps).trans (one_wide ?_))
    rw [h2]; rfl

/-- A function's contract from its body, deferred calls and marks taken in. -/
theorem calls_of_WpF {fn : Func} {c : Code} {args : Array Value} {R : Ending → World → Prop} (hfn : P.funcs[f]? = some fn) (hb : fn.body = some c)
    (h : WpF f P c (bodyPostM Fence.wide 0 P fn R) { tmps := args ++ Array.replicate (fn.ntmps - args.size) undef, defers := [] } w) : Calls P f args w R := by
  intro cs
  let b : Frame := { (default : Frame) with fn := f, kind := .normal, roundOf := none }
  have henter : Frame.enter P f args .normal = b.atR { tmps := args ++ Array.replicate (fn.ntmps - args.size) undef, defers := [] } [.code c] := by
    simp [Frame.enter, Frame.atR, hfn, hb, b]
  obtain ⟨e, a', w', hq, harr⟩ := h b [] cs rfl rfl
  rw [← henter] at harr
  have out : ∀ (u : FrameMode) (fr : Frame), fr.mode = u → fr.defers = a'.defers → fr.tmps = a'.tmps → fr.fn = f → fr.kind = .normal →
      StepsIn (Machine.fenced P Fence.wide) P (lone (Frame.enter P f args .normal) cs w) (lone fr cs w') → LeavesInM Fence.wide 0 P fn a'.tmps R a'.defers u w' →
      ∃ e w'' fr', R e w'' ∧ Comes P (lone (Frame.enter P f args .normal) cs w) (lone fr' cs w'') e ∧ fr'.fn = f ∧ fr'.leaving P w'' e := by
    intro u fr hu hd ht hff hk hs hl
    obtain ⟨e', w'', fr', hR, hc, hfn', hlv⟩ := leaves_stepsInM a'.defers u w' fr cs hu hd ht (by rw [hff]; exact hfn) hk trivial (room_wide _) hl
    exact ⟨e', w'', fr', hR, Comes.of_steps (StepsIn.steps hs) hc.comes, hfn'.trans hff, hlv⟩
  cases e with
  | normal => exact out .returning { b.atR a' [] with mode := .returning } rfl rfl rfl rfl rfl (harr.trans (one_wide (stepR_end rfl))) hq
  | ret =>
    obtain ⟨todo, hs⟩ := harr.1 rfl
    exact out .returning { b.atR a' todo with mode := .returning } rfl rfl rfl rfl rfl hs hq
  | panic chain =>
    obtain ⟨todo, hs⟩ := harr
    exact out (.panicking chain) { b.atR a' todo with mode := .panicking chain } rfl rfl rfl rfl rfl hs hq
  | exit id => exact hq.elim
  | goto l => exact hq.elim
  | outgrown => exact ⟨.outgrown, w', b, hq, harr.resolve_left (by simp [b]), rfl, trivial⟩

end
end Go.Proofs.Ytpilifhdhgdbjaa
