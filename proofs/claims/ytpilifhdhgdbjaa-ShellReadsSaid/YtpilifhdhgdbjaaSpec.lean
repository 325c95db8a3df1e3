/- What a line of the shell says, byte by byte: the machine of states that the reference goes through, as a plain function on lists of bytes, and the laws of its runs over blanks, comments, words, names, keys and values. No program stands here. -/
namespace Go.Proofs.Ytpilifhdhgdbjaa.Sp

abbrev Bs := List UInt8

def isBl (c : UInt8) : Bool := c == 32 || c == 9
def isLe (c : UInt8) : Bool := decide (97 ≤ c) && decide (c ≤ 122)
def isDi (c : UInt8) : Bool := decide (48 ≤ c) && decide (c ≤ 57)
def isNa (c : UInt8) : Bool := isLe c || isDi c || c == 95
def isPl (c : UInt8) : Bool := decide (32 < c) && decide (c ≤ 126)
def isFi (c : UInt8) : Bool := c == 9 || (decide (32 ≤ c) && decide (c ≤ 126))

/-- A hexadecimal digit's worth; -1: it is none. -/
def hexa (c : UInt8) : Int :=
  if isDi c then (c.toNat : Int) - 48 else if decide (97 ≤ c) && decide (c ≤ 102) then (c.toNat : Int) - 87 else if decide (65 ≤ c) && decide (c ≤ 70) then (c.toNat : Int) - 55 else -1

/-- What the machine holds between two bytes. -/
structure St where
  st : Nat
  fields : Nat
  word : Bs
  value : Bs
  half : Int
  cmd : Bs
  name : Bs
  opts : List (Bs × Bs)

def St.start : St := ⟨0, 0, [], [], 0, [], [], []⟩

/-- One byte ('none': the line is over); 'none': no line goes on so. -/
def step (x : St) (b : Option UInt8) : Option St :=
  let c : UInt8 := b.getD 0
  let fin : Bool := b.isNone
  let over : Bool := fin || isBl c
  let ok (bad : Bool) (y : St) : Option St := if bad then none else some y
  if x.st = 0 then
    if over then some x
    else if c = 35 then some { x with st := 12 }
    else ok (!isLe c) { x with word := [c], st := if x.fields = 0 then 1 else if x.fields = 1 then 2 else 4, fields := x.fields + 1 }
  else if x.st = 1 then
    if over then some { x with cmd := x.word, st := 0 }
    else ok (!isLe c || x.word.length == 16) { x with word := x.word ++ [c] }
  else if x.st = 2 ∨ x.st = 3 then
    if over then some { x with name := x.word, st := 0 }
    else if c = 61 ∧ x.st = 2 then some { x with st := 5 }
    else ok (!(isLe c || isDi c || c == 95) || x.word.length == 16) { x with st := if isLe c then x.st else 3, word := x.word ++ [c] }
  else if x.st = 4 then
    if c = 61 ∧ fin = false then some { x with st := 5 }
    else ok (over || !isLe c || x.word.length == 16) { x with word := x.word ++ [c] }
  else if x.st = 5 ∨ x.st = 6 then
    if over then some { x with opts := x.opts ++ [(x.word, x.value)], value := [], st := 0 }
    else if x.st = 5 ∧ c = 34 then some { x with st := 7 }
    else some { x with st := 6, value := x.value ++ [c] }
  else if x.st = 7 then
    if fin then none
    else if c = 34 then some { x with st := 11 }
    else if c = 92 then some { x with st := 8 }
    else some { x with value := x.value ++ [c] }
  else if x.st = 8 then
    if c = 120 then some { x with st := 9 }
    else ok (c != 34 && c != 92) { x with st := 7, value := x.value ++ [c] }
  else if x.st = 9 then
    ok (decide (hexa c < 0)) { x with half := hexa c, st := 10 }
  else if x.st = 10 then
    ok (decide (hexa c < 0)) { x with value := x.value ++ [(16 * x.half + hexa c).toNat.toUInt8], st := 7 }
  else if x.st = 11 then
    ok (!over) { x with opts := x.opts ++ [(x.word, x.value)], value := [], st := 0 }
  else some x

/-- From place i on: what the rest of the line makes of it; else the place of the fault, from 1 on. -/
def run (x : St) (i : Nat) : Bs → Except Nat St
  | [] => match step x none with
    | none => .error (i + 1)
    | some y => .ok y
  | c :: r => if isFi c then (match step x (some c) with
      | none => .error (i + 1)
      | some y => run y (i + 1) r) else .error (i + 1)

/-- The byte at a place; 0 behind the end. -/
def ch (L : Bs) (i : Nat) : UInt8 := L.getD i 0

def runP (L : Bs) (x : St) (i : Nat) : Except Nat St := run x i (L.drop i)

theorem runP_lt {L : Bs} {i : Nat} (x : St) (h : i < L.length) : runP L x i =
    if isFi (ch L i) then (match step x (some (ch L i)) with
      | none => .error (i + 1)
      | some y => runP L y (i + 1)) else .error (i + 1) := by
  unfold runP ch
  rw [List.drop_eq_getElem_cons h]
  simp [run, h]

theorem runP_end {L : Bs} (x : St) : runP L x L.length = match step x none with
    | none => .error (L.length + 1)
    | some y => .ok y := by
  unfold runP
  simp [run]

theorem runP_step {L : Bs} {i : Nat} {x y : St} (h : i < L.length) (hf : isFi (ch L i) = true) (hs : step x (some (ch L i)) = some y) : runP L x i = runP L y (i + 1) := by
  rw [runP_lt x h, if_pos hf, hs]

theorem runP_bad {L : Bs} {i : Nat} {x : St} (h : i < L.length) (hs : isFi (ch L i) = true → step x (some (ch L i)) = none) : runP L x i = .error (i + 1) := by
  rw [runP_lt x h]
  by_cases hf : isFi (ch L i) = true
  · rw [if_pos hf, hs hf]
  · rw [if_neg hf]

theorem runP_end_bad {L : Bs} {i : Nat} {x : St} (h : i = L.length) (hs : step x none = none) : runP L x i = .error (i + 1) := by
  subst h; rw [runP_end, hs]

theorem runP_end_ok {L : Bs} {i : Nat} {x y : St} (h : i = L.length) (hs : step x none = some y) : runP L x i = .ok y := by
  subst h; rw [runP_end, hs]

end Go.Proofs.Ytpilifhdhgdbjaa.Sp
