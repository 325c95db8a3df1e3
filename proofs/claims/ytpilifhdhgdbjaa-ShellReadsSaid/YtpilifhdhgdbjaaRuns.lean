/- What the machine of states makes of blanks, comments, words, names, keys and values, one law each. No program stands here. -/
import Derived.Test.YtpilifhdhgdbjaaSpec
namespace Go.Proofs.Ytpilifhdhgdbjaa.Sp

theorem fi_of_bl {c : UInt8} (h : isBl c = true) : isFi c = true := by
  unfold isBl at h; unfold isFi
  simp at h ⊢
  rcases h with rfl | rfl <;> simp (decide := true)
theorem fi_of_le {c : UInt8} (h : isLe c = true) : isFi c = true := by
  unfold isLe at h; unfold isFi
  simp only [Bool.and_eq_true, decide_eq_true_eq, UInt8.le_iff_toNat_le] at h
  simp only [Bool.or_eq_true, Bool.and_eq_true, decide_eq_true_eq, UInt8.le_iff_toNat_le]
  right; simp at h ⊢; omega
theorem bl_of_le {c : UInt8} (h : isLe c = true) : isBl c = false := by
  unfold isLe at h; unfold isBl
  simp only [Bool.and_eq_true, decide_eq_true_eq, UInt8.le_iff_toNat_le] at h
  simp [← UInt8.toNat_inj] at h ⊢; omega
theorem fi_of_na {c : UInt8} (h : isNa c = true) : isFi c = true := by
  unfold isNa isLe isDi at h; unfold isFi
  simp [UInt8.le_iff_toNat_le, ← UInt8.toNat_inj] at h ⊢; omega
theorem bl_of_na {c : UInt8} (h : isNa c = true) : isBl c = false := by
  unfold isNa isLe isDi at h; unfold isBl
  simp [UInt8.le_iff_toNat_le, ← UInt8.toNat_inj] at h ⊢; omega
theorem fi_iff_pl {c : UInt8} (h : isBl c = false) : isFi c = isPl c := by
  unfold isBl at h; unfold isFi isPl
  rw [Bool.eq_iff_iff]
  simp [UInt8.le_iff_toNat_le, UInt8.lt_iff_toNat_lt, ← UInt8.toNat_inj] at h ⊢; omega
theorem na_of_le {c : UInt8} (h : isLe c = true) : isNa c = true := by unfold isNa; simp [h]
theorem ne35_of_le {c : UInt8} (h : isLe c = true) : c ≠ 35 := by
  rintro rfl; revert h; decide
theorem ne61_of_na {c : UInt8} (h : isNa c = true) : c ≠ 61 := by
  rintro rfl; revert h; decide

/-- k bytes from place i on. -/
def sl (L : Bs) (i k : Nat) : Bs := (L.drop i).take k

theorem sl_zero (L : Bs) (i : Nat) : sl L i 0 = [] := by simp [sl]
theorem sl_succ {L : Bs} {i k : Nat} (h : i + k < L.length) : sl L i (k + 1) = sl L i k ++ [ch L (i + k)] := by
  unfold sl ch
  rw [List.take_succ_eq_append_getElem (by simp; omega)]
  simp [h]
theorem sl_length {L : Bs} {i k : Nat} (h : i + k ≤ L.length) : (sl L i k).length = k := by
  unfold sl; simp; omega

/-- Is the line, or the field, over here? -/
def ov (L : Bs) (i : Nat) : Bool := i == L.length || isBl (ch L i)

theorem ch_end {L : Bs} {i : Nat} (h : L.length ≤ i) : ch L i = 0 := by
  unfold ch; simp [h]

section
variable {L : Bs} {x : St} {i : Nat}

theorem st0_blank (hx : x.st = 0) (h : i < L.length) (hb : isBl (ch L i) = true) : runP L x i = runP L x (i + 1) :=
  runP_step h (fi_of_bl hb) (by simp [step, hx, hb])
theorem st0_end (hx : x.st = 0) (h : i = L.length) : runP L x i = .ok x :=
  runP_end_ok h (by simp [step, hx])
theorem st12_fine (hx : x.st = 12) (h : i < L.length) (hb : isFi (ch L i) = true) : runP L x i = runP L x (i + 1) :=
  runP_step h hb (by simp [step, hx])
theorem st12_bad (h : i < L.length) (hb : isFi (ch L i) = false) : runP L x i = .error (i + 1) :=
  runP_bad h (by simp [hb])
theorem st12_end (hx : x.st = 12) (h : i = L.length) : runP L x i = .ok x :=
  runP_end_ok h (by simp [step, hx])
theorem st0_hash (hx : x.st = 0) (h : i < L.length) (hc : ch L i = 35) : runP L x i = runP L { x with st := 12 } i := by
  have hf : isFi (ch L i) = true := by rw [hc]; decide
  rw [st12_fine (x := { x with st := 12 }) rfl h hf]
  exact runP_step h hf (by rw [hc]; simp [step, hx, show isBl 35 = false from by decide])

/-- The state at a field's first letter. -/
def kindOf (n : Nat) : Nat := if n = 0 then 1 else if n = 1 then 2 else 4

theorem st0_letter (hx : x.st = 0) (h : i < L.length) (hl : isLe (ch L i) = true) :
    runP L x i = runP L { x with word := [ch L i], st := kindOf x.fields, fields := x.fields + 1 } (i + 1) :=
  runP_step h (fi_of_le hl) (by simp [step, hx, bl_of_le hl, ne35_of_le hl, hl, kindOf])
theorem st0_bad (hx : x.st = 0) (h : i < L.length) (hb : isBl (ch L i) = false) (hc : ch L i ≠ 35) (hl : isLe (ch L i) = false) : runP L x i = .error (i + 1) :=
  runP_bad h (by simp [step, hx, hb, hc, hl])

theorem more_letter (hx : x.st = 1 ∨ x.st = 2 ∨ x.st = 4) (h : i < L.length) (hl : isLe (ch L i) = true) (hw : x.word.length ≠ 16) :
    runP L x i = runP L { x with word := x.word ++ [ch L i] } (i + 1) := by
  refine runP_step h (fi_of_le hl) ?_
  have h61 := ne61_of_na (na_of_le hl)
  obtain ⟨st, fields, word, value, half, cmd, name, opts⟩ := x
  simp only at hx hw
  rcases hx with rfl | rfl | rfl <;> simp [step, bl_of_le hl, hl, hw, h61]

/-- k letters from a field's beginning on. -/
theorem letters_run (hx : x.st = 0) : ∀ k, 1 ≤ k → k ≤ 16 → i + k ≤ L.length → (∀ j, j < k → isLe (ch L (i + j)) = true) →
    runP L x i = runP L { x with word := sl L i k, st := kindOf x.fields, fields := x.fields + 1 } (i + k) := by
  intro k
  induction k with
  | zero => intro h; omega
  | succ k ih =>
    intro _ h16 hlen hall
    by_cases hk : k = 0
    · subst hk
      rw [st0_letter hx (by omega) (by simpa using hall 0 (by omega))]
      rw [sl_succ (by omega), sl_zero]; simp
    · rw [ih (by omega) (by omega) (by omega) (fun j hj => hall j (by omega))]
      rw [more_letter (by simp only [kindOf]; by_cases h0 : x.fields = 0 <;> by_cases h1 : x.fields = 1 <;> simp [h0, h1]) (by omega) (hall k (by omega)) (by simp only; rw [sl_length (by omega)]; omega)]
      rw [sl_succ (by omega)]; simp [Nat.add_assoc]

theorem cmd_over (hx : x.st = 1) (hi : i ≤ L.length) (ho : ov L i = true) : runP L x i = runP L { x with cmd := x.word, st := 0 } i := by
  unfold ov at ho
  by_cases h : i = L.length
  · rw [st0_end (x := { x with cmd := x.word, st := 0 }) rfl h]; exact runP_end_ok h (by simp [step, hx])
  · have hb : isBl (ch L i) = true := by simpa [h] using ho
    rw [st0_blank (x := { x with cmd := x.word, st := 0 }) rfl (by omega) hb]
    exact runP_step (by omega) (fi_of_bl hb) (by simp [step, hx, hb])
theorem cmd_bad (hx : x.st = 1) (hi : i ≤ L.length) (ho : ov L i = false) (hs : isLe (ch L i) = false ∨ x.word.length = 16) : runP L x i = .error (i + 1) := by
  unfold ov at ho
  simp at ho
  refine runP_bad (by omega) fun _ => ?_
  rcases hs with hs | hs <;> simp [step, hx, ho.2, hs]

theorem name_over (hx : x.st = 2 ∨ x.st = 3) (hi : i ≤ L.length) (ho : ov L i = true) : runP L x i = runP L { x with name := x.word, st := 0 } i := by
  unfold ov at ho
  by_cases h : i = L.length
  · rw [st0_end (x := { x with name := x.word, st := 0 }) rfl h]; rcases hx with hx | hx <;> exact runP_end_ok h (by simp [step, hx])
  · have hb : isBl (ch L i) = true := by simpa [h] using ho
    rw [st0_blank (x := { x with name := x.word, st := 0 }) rfl (by omega) hb]
    rcases hx with hx | hx <;> exact runP_step (by omega) (fi_of_bl hb) (by simp [step, hx, hb])
theorem name_eq (hx : x.st = 2) (hc : ch L i = 61) : runP L x i = runP L { x with st := 5 } (i + 1) := by
  have h : i < L.length := by
    by_cases h : i < L.length
    · exact h
    · rw [ch_end (by omega)] at hc; cases hc
  exact runP_step h (by rw [hc]; decide) (by rw [hc]; simp [step, hx, show isBl 61 = false from by decide])
theorem name_more (hx : x.st = 2 ∨ x.st = 3) (h : i < L.length) (hn : isNa (ch L i) = true) (hw : x.word.length ≠ 16) :
    runP L x i = runP L { x with st := if isLe (ch L i) then x.st else 3, word := x.word ++ [ch L i] } (i + 1) := by
  refine runP_step h (fi_of_na hn) ?_
  have h61 := ne61_of_na hn
  have hb := bl_of_na hn
  have hn' : (isLe (ch L i) || isDi (ch L i) || ch L i == 95) = true := hn
  obtain ⟨st, fields, word, value, half, cmd, name, opts⟩ := x
  simp only at hx hw
  rcases hx with rfl | rfl <;> simp [step, hb, hn', hw, h61]
theorem name_bad (hx : x.st = 3 ∨ (x.st = 2 ∧ ch L i ≠ 61)) (hi : i ≤ L.length) (ho : ov L i = false) (hs : isNa (ch L i) = false ∨ x.word.length = 16) : runP L x i = .error (i + 1) := by
  unfold ov at ho
  simp at ho
  refine runP_bad (by omega) fun _ => ?_
  have hs' : (!(isLe (ch L i) || isDi (ch L i) || ch L i == 95) || x.word.length == 16) = true := by
    rcases hs with hs | hs
    · unfold isNa at hs; rw [hs]; rfl
    · simp [hs]
  have ho2 := ho.2
  rcases hx with hx | ⟨hx, hc⟩
  · simp only [step, hx]; simp only [Option.isNone_some, Option.getD_some, Bool.false_or, ho2, hs']; simp
  · simp only [step, hx]; simp only [Option.isNone_some, Option.getD_some, Bool.false_or, ho2, hs']; simp [hc]

theorem key_eq (hx : x.st = 4) (hc : ch L i = 61) : runP L x i = runP L { x with st := 5 } (i + 1) := by
  have h : i < L.length := by
    by_cases h : i < L.length
    · exact h
    · rw [ch_end (by omega)] at hc; cases hc
  exact runP_step h (by rw [hc]; decide) (by rw [hc]; simp [step, hx])
theorem key_bad (hx : x.st = 4) (hi : i ≤ L.length) (hc : ch L i ≠ 61) (hs : isLe (ch L i) = false ∨ x.word.length = 16) : runP L x i = .error (i + 1) := by
  by_cases h : i = L.length
  · exact runP_end_bad h (by simp [step, hx])
  · refine runP_bad (by omega) fun _ => ?_
    rcases hs with hs | hs <;> simp [step, hx, hc, hs]

theorem val_over (hx : x.st = 5 ∨ x.st = 6) (hi : i ≤ L.length) (ho : ov L i = true) : runP L x i = runP L { x with opts := x.opts ++ [(x.word, x.value)], value := [], st := 0 } i := by
  unfold ov at ho
  by_cases h : i = L.length
  · rw [st0_end (x := { x with opts := x.opts ++ [(x.word, x.value)], value := [], st := 0 }) rfl h]; rcases hx with hx | hx <;> exact runP_end_ok h (by simp [step, hx])
  · have hb : isBl (ch L i) = true := by simpa [h] using ho
    rw [st0_blank (x := { x with opts := x.opts ++ [(x.word, x.value)], value := [], st := 0 }) rfl (by omega) hb]
    rcases hx with hx | hx <;> exact runP_step (by omega) (fi_of_bl hb) (by simp [step, hx, hb])
theorem val_quote (hx : x.st = 5) (hc : ch L i = 34) : runP L x i = runP L { x with st := 7 } (i + 1) := by
  have h : i < L.length := by
    by_cases h : i < L.length
    · exact h
    · rw [ch_end (by omega)] at hc; cases hc
  exact runP_step h (by rw [hc]; decide) (by rw [hc]; simp [step, hx, show isBl 34 = false from by decide])
theorem val_more (hx : (x.st = 5 ∧ ch L i ≠ 34) ∨ x.st = 6) (h : i < L.length) (hb : isBl (ch L i) = false) (hp : isPl (ch L i) = true) :
    runP L x i = runP L { x with st := 6, value := x.value ++ [ch L i] } (i + 1) := by
  refine runP_step h (by rw [fi_iff_pl hb]; exact hp) ?_
  obtain ⟨st, fields, word, value, half, cmd, name, opts⟩ := x
  simp only at hx
  rcases hx with ⟨rfl, hc⟩ | rfl
  · simp [step, hb, hc]
  · simp [step, hb]
theorem val_bad (h : i < L.length) (hb : isBl (ch L i) = false) (hp : isPl (ch L i) = false) : runP L x i = .error (i + 1) :=
  runP_bad h (by rw [fi_iff_pl hb, hp]; simp)

theorem q_end (hx : x.st = 7) (h : i = L.length) : runP L x i = .error (i + 1) := runP_end_bad h (by simp [step, hx])
theorem q_notfine (h : i < L.length) (hf : isFi (ch L i) = false) : runP L x i = .error (i + 1) := runP_bad h (by simp [hf])
theorem q_shut (hx : x.st = 7) (hc : ch L i = 34) : runP L x i = runP L { x with st := 11 } (i + 1) := by
  have h : i < L.length := by
    by_cases h : i < L.length
    · exact h
    · rw [ch_end (by omega)] at hc; cases hc
  exact runP_step h (by rw [hc]; decide) (by rw [hc]; simp [step, hx])
theorem q_plain (hx : x.st = 7) (h : i < L.length) (hf : isFi (ch L i) = true) (h1 : ch L i ≠ 34) (h2 : ch L i ≠ 92) : runP L x i = runP L { x with value := x.value ++ [ch L i] } (i + 1) :=
  runP_step h hf (by simp [step, hx, h1, h2])
theorem q_stroke (hx : x.st = 7) (hc : ch L i = 92) : runP L x i = runP L { x with st := 8 } (i + 1) := by
  have h : i < L.length := by
    by_cases h : i < L.length
    · exact h
    · rw [ch_end (by omega)] at hc; cases hc
  exact runP_step h (by rw [hc]; decide) (by rw [hc]; simp [step, hx])
theorem s_same (hx : x.st = 8) (h : i < L.length) (hc : ch L i = 34 ∨ ch L i = 92) : runP L x i = runP L { x with st := 7, value := x.value ++ [ch L i] } (i + 1) := by
  rcases hc with hc | hc <;> exact runP_step h (by rw [hc]; decide) (by rw [hc]; simp [step, hx])
theorem s_x (hx : x.st = 8) (hc : ch L i = 120) : runP L x i = runP L { x with st := 9 } (i + 1) := by
  have h : i < L.length := by
    by_cases h : i < L.length
    · exact h
    · rw [ch_end (by omega)] at hc; cases hc
  exact runP_step h (by rw [hc]; decide) (by rw [hc]; simp [step, hx])
theorem s_bad (hx : x.st = 8) (hi : i ≤ L.length) (h1 : ch L i ≠ 34) (h2 : ch L i ≠ 92) (h3 : ch L i ≠ 120) : runP L x i = .error (i + 1) := by
  by_cases h : i = L.length
  · exact runP_end_bad h (by simp [step, hx])
  · exact runP_bad (by omega) fun _ => by simp [step, hx, h1, h2, h3]

theorem fi_of_hex {c : UInt8} (h : 0 ≤ hexa c) : isFi c = true := by
  unfold hexa at h; unfold isFi
  simp only [isDi, UInt8.le_iff_toNat_le, Bool.and_eq_true, decide_eq_true_eq] at h
  simp [UInt8.le_iff_toNat_le, ← UInt8.toNat_inj] at h ⊢
  split at h
  · omega
  · split at h
    · omega
    · split at h <;> omega
theorem hex_le (c : UInt8) : hexa c ≤ 15 := by
  unfold hexa
  simp only [isDi, UInt8.le_iff_toNat_le, Bool.and_eq_true, decide_eq_true_eq]
  simp
  split
  · omega
  · split
    · omega
    · split <;> omega
theorem hex_ge (c : UInt8) : -1 ≤ hexa c := by
  unfold hexa
  simp only [isDi, UInt8.le_iff_toNat_le, Bool.and_eq_true, decide_eq_true_eq]
  simp
  split
  · omega
  · split
    · omega
    · split <;> omega
theorem h1_ok (hx : x.st = 9) (h : i < L.length) (hh : 0 ≤ hexa (ch L i)) : runP L x i = runP L { x with half := hexa (ch L i), st := 10 } (i + 1) :=
  runP_step h (fi_of_hex hh) (by simp [step, hx]; omega)
theorem h2_ok (hx : x.st = 10) (h : i < L.length) (hh : 0 ≤ hexa (ch L i)) :
    runP L x i = runP L { x with value := x.value ++ [(16 * x.half + hexa (ch L i)).toNat.toUInt8], st := 7 } (i + 1) :=
  runP_step h (fi_of_hex hh) (by simp [step, hx]; omega)
theorem h_bad (hx : x.st = 9 ∨ x.st = 10) (hi : i ≤ L.length) (hh : hexa (ch L i) < 0) : runP L x i = .error (i + 1) := by
  obtain ⟨st, fields, word, value, half, cmd, name, opts⟩ := x
  simp only at hx
  by_cases h : i = L.length
  · have h0 : hexa 0 < 0 := by decide
    rcases hx with rfl | rfl <;> exact runP_end_bad h (by simp [step, h0])
  · rcases hx with rfl | rfl <;> exact runP_bad (by omega) fun _ => by simp [step, hh]

theorem shut_over (hx : x.st = 11) (hi : i ≤ L.length) (ho : ov L i = true) : runP L x i = runP L { x with opts := x.opts ++ [(x.word, x.value)], value := [], st := 0 } i := by
  unfold ov at ho
  by_cases h : i = L.length
  · rw [st0_end (x := { x with opts := x.opts ++ [(x.word, x.value)], value := [], st := 0 }) rfl h]; exact runP_end_ok h (by simp [step, hx])
  · have hb : isBl (ch L i) = true := by simpa [h] using ho
    rw [st0_blank (x := { x with opts := x.opts ++ [(x.word, x.value)], value := [], st := 0 }) rfl (by omega) hb]
    exact runP_step (by omega) (fi_of_bl hb) (by simp [step, hx, hb])
theorem shut_bad (hx : x.st = 11) (hi : i ≤ L.length) (ho : ov L i = false) : runP L x i = .error (i + 1) := by
  unfold ov at ho
  simp at ho
  exact runP_bad (by omega) fun _ => by simp [step, hx, ho.2]

end
end Go.Proofs.Ytpilifhdhgdbjaa.Sp
