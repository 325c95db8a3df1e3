/- The law's plain part: how many options a line may have; what is answered of a line, as data. No program stands here. -/
import Derived.Test.YtpilifhdhgdbjaaRuns
namespace Go.Proofs.Ytpilifhdhgdbjaa.Sp

/-- What a step leaves has at most so many options. -/
def Few (n : Nat) (z : Option St) : Prop := ∀ y, z = some y → y.opts.length ≤ n
theorem Few.ite {n : Nat} {c : Prop} [Decidable c] {a b : Option St} (ha : Few n a) (hb : Few n b) : Few n (if c then a else b) := by
  split <;> assumption
theorem Few.none {n : Nat} : Few n none := fun _ h => by cases h
theorem Few.some {n : Nat} {x : St} (h : x.opts.length ≤ n) : Few n (some x) := fun _ e => by cases e; exact h

theorem step_few (x : St) (b : Option UInt8) : Few (x.opts.length + 1) (step x b) := by
  unfold step
  dsimp only
  repeat' (first | exact Few.none | apply Few.ite | (apply Few.some; simp; done) | (apply Few.some; exact Nat.le_succ _))

theorem run_few : ∀ (L : Bs) (x : St) (i : Nat) (y : St), run x i L = .ok y → y.opts.length ≤ x.opts.length + L.length + 1 := by
  intro L
  induction L with
  | nil =>
    intro x i y h
    unfold run at h
    cases e : step x none with
    | none => rw [e] at h; cases h
    | some z =>
      rw [e] at h
      cases h
      have := step_few x none _ e
      simp; omega
  | cons c r ih =>
    intro x i y h
    unfold run at h
    split at h
    · cases e : step x (some c) with
      | none => rw [e] at h; cases h
      | some z =>
        rw [e] at h
        have h1 := ih z (i + 1) y h
        have h2 := step_few x (some c) _ e
        simp; omega
    · cases h

theorem runP_few {L : Bs} {y : St} (h : runP L St.start 0 = .ok y) : y.opts.length ≤ L.length + 1 := by
  have := run_few (L.drop 0) St.start 0 y h
  simpa [St.start] using this

theorem run_err : ∀ (L : Bs) (x : St) (i p : Nat), run x i L = .error p → 1 ≤ p ∧ p ≤ i + L.length + 1 := by
  intro L
  induction L with
  | nil =>
    intro x i p h
    unfold run at h
    cases e : step x none with
    | none => rw [e] at h; cases h; simp
    | some z => rw [e] at h; cases h
  | cons c r ih =>
    intro x i p h
    unfold run at h
    split at h
    · cases e : step x (some c) with
      | none => rw [e] at h; cases h; simp
      | some z =>
        rw [e] at h
        have h1 := ih z (i + 1) p h
        simp; omega
    · cases h; simp

theorem runP_err {L : Bs} {p : Nat} (h : runP L St.start 0 = .error p) : 1 ≤ p ∧ p ≤ L.length + 1 := by
  have := run_err (L.drop 0) St.start 0 p h
  simpa using this

/-- What a reader answers of a line of so many bytes: command, name, options, error, place. -/
def ansOf (X : Except Nat St) (n : Nat) : Bs × Bs × List (Bs × Bs) × Int × Int :=
  if 4096 < n then ([], [], [], 160, 4097) else match X with
    | .error p => ([], [], [], 160, p)
    | .ok y => (y.cmd, y.name, y.opts, 0, 0)

end Go.Proofs.Ytpilifhdhgdbjaa.Sp
