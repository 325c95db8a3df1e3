/- A text in quotes, as data: what Quote writes of a text; the machine of states reads it as the text. No program stands here. -/
import Derived.Test.YtpilifhdhgdbjaaRuns
namespace Go.Proofs.Ytpilifhdhgdbjaa.Sp

/-- A hexadecimal digit. -/
def hexd (n : Nat) : UInt8 := if n < 10 then UInt8.ofNat (48 + n) else UInt8.ofNat (87 + n)
/-- What stands for a byte. -/
def qb (c : UInt8) : Bs := if c = 34 ∨ c = 92 then [92, c] else if 32 ≤ c ∧ c ≤ 126 then [c] else [92, 120, hexd (c.toNat / 16), hexd (c.toNat % 16)]
/-- A text in quotes. -/
def quo (s : Bs) : Bs := 34 :: (s.flatMap qb ++ [34])

theorem qb_len (c : UInt8) : (qb c).length ≤ 4 := by
  unfold qb
  split
  · simp
  · split <;> simp
theorem body_len (s : Bs) : (s.flatMap qb).length ≤ 4 * s.length := by
  induction s with
  | nil => simp
  | cons c r ih => have := qb_len c; simp at ih ⊢; omega
theorem quo_len (s : Bs) : (quo s).length ≤ 4 * s.length + 2 := by
  have := body_len s
  unfold quo; simp at this ⊢; omega

theorem hexa_hexd (n : Nat) (h : n < 16) : hexa (hexd n) = n ∧ isFi (hexd n) = true := by
  have : ∀ k : Fin 16, hexa (hexd k) = (k.val : Int) ∧ isFi (hexd k) = true := by decide
  exact this ⟨n, h⟩

theorem run_cons {x y : St} {i : Nat} {c : UInt8} {r : Bs} (hf : isFi c = true) (hs : step x (some c) = some y) : run x i (c :: r) = run y (i + 1) r := by
  rw [run, if_pos hf, hs]

theorem qb_run (x : St) (hx : x.st = 7) (c : UInt8) (i : Nat) (r : Bs) : ∃ hf, run x i (qb c ++ r) = run { x with value := x.value ++ [c], half := hf } (i + (qb c).length) r := by
  unfold qb
  by_cases h1 : c = 34 ∨ c = 92
  · rw [if_pos h1]
    refine ⟨x.half, ?_⟩
    rw [List.cons_append, run_cons (y := { x with st := 8 }) (by decide) (by simp [step, hx])]
    rcases h1 with rfl | rfl
    · rw [List.cons_append, run_cons (y := { x with value := x.value ++ [34], half := x.half }) (by decide) (by simp [step, hx])]
      rfl
    · rw [List.cons_append, run_cons (y := { x with value := x.value ++ [92], half := x.half }) (by decide) (by simp [step, hx])]
      rfl
  · rw [if_neg h1]
    have n34 : ¬ c = 34 := fun e => h1 (.inl e)
    have n92 : ¬ c = 92 := fun e => h1 (.inr e)
    by_cases h2 : 32 ≤ c ∧ c ≤ 126
    · rw [if_pos h2]
      refine ⟨x.half, ?_⟩
      rw [List.cons_append, run_cons (y := { x with value := x.value ++ [c], half := x.half }) (by unfold isFi; simp [h2.1, h2.2]) (by simp [step, hx, n34, n92])]
      rfl
    · rw [if_neg h2]
      have hc := c.toNat_lt
      obtain ⟨e1, f1⟩ := hexa_hexd (c.toNat / 16) (by omega)
      obtain ⟨e2, f2⟩ := hexa_hexd (c.toNat % 16) (by omega)
      refine ⟨(c.toNat / 16 : Nat), ?_⟩
      have hu : ((16 * ((c.toNat / 16 : Nat) : Int) + ((c.toNat % 16 : Nat) : Int)).toNat).toUInt8 = c := by
        have : (16 * ((c.toNat / 16 : Nat) : Int) + ((c.toNat % 16 : Nat) : Int)).toNat = c.toNat := by omega
        rw [this]; simp [Nat.toUInt8]
      rw [List.cons_append, run_cons (y := { x with st := 8 }) (by decide) (by simp [step, hx]),
        List.cons_append, run_cons (y := { x with st := 9 }) (by decide) (by simp [step]),
        List.cons_append, run_cons (y := { x with st := 10, half := (c.toNat / 16 : Nat) }) f1 (by simp only [step, Option.getD_some, e1]; simp; omega),
        List.cons_append, run_cons (y := { x with value := x.value ++ [c], half := (c.toNat / 16 : Nat) }) f2 (by simp only [step, Option.getD_some, e2, hu]; simp [hx]; omega)]
      rfl

theorem body_run (s : Bs) : ∀ (x : St) (_ : x.st = 7) (i : Nat) (r : Bs), ∃ hf, run x i (s.flatMap qb ++ r) = run { x with value := x.value ++ s, half := hf } (i + (s.flatMap qb).length) r := by
  induction s with
  | nil => intro x hx i r; exact ⟨x.half, by simp⟩
  | cons c t ih =>
    intro x hx i r
    obtain ⟨h1, e1⟩ := qb_run x hx c i (t.flatMap qb ++ r)
    obtain ⟨h2, e2⟩ := ih { x with value := x.value ++ [c], half := h1 } hx (i + (qb c).length) r
    refine ⟨h2, ?_⟩
    rw [List.flatMap_cons, List.append_assoc, e1, e2]
    simp [Nat.add_assoc]

/-- The line 'a b c=' ahead of a text in quotes says: command a, name b, one option c with the text. -/
theorem quo_reads (s : Bs) : ∃ y, runP ([97, 32, 98, 32, 99, 61] ++ quo s) St.start 0 = .ok y ∧ y.cmd = [97] ∧ y.name = [98] ∧ y.opts = [([99], s)] := by
  unfold runP quo
  rw [List.drop_zero]
  obtain ⟨hf, e⟩ := body_run s ⟨7, 3, [99], [], 0, [97], [98], []⟩ rfl 7 [34]
  refine ⟨⟨0, 3, [99], [], hf, [97], [98], [([99], s)]⟩, ?_, rfl, rfl, rfl⟩
  simp only [List.cons_append, List.nil_append]
  rw [run_cons (y := ⟨1, 1, [97], [], 0, [], [], []⟩) (by decide) rfl, run_cons (y := ⟨0, 1, [97], [], 0, [97], [], []⟩) (by decide) rfl,
    run_cons (y := ⟨2, 2, [98], [], 0, [97], [], []⟩) (by decide) rfl, run_cons (y := ⟨0, 2, [98], [], 0, [97], [98], []⟩) (by decide) rfl,
    run_cons (y := ⟨4, 3, [99], [], 0, [97], [98], []⟩) (by decide) rfl, run_cons (y := ⟨5, 3, [99], [], 0, [97], [98], []⟩) (by decide) rfl,
    run_cons (y := ⟨7, 3, [99], [], 0, [97], [98], []⟩) (by decide) rfl, e]
  rw [run_cons (y := ⟨11, 3, [99], s, hf, [97], [98], []⟩) (by decide) (by simp [step])]
  simp [run, step]

end Go.Proofs.Ytpilifhdhgdbjaa.Sp
