/- The reference's Quote, walked. -/
import Derived.Test.YtpilifhdhgdbjaaQuoB
import Derived.Deep.RegionHeld3
import Derived.Deep.AppendLies
import Derived.IntWalk
import Derived.Laws.DeepStrings4
namespace Go.Proofs.Ytpilifhdhgdbjaa
open Go.RowKit

set_option maxHeartbeats 4000000 in
set_option maxRecDepth 20000 in
theorem rhex32_c {W : World} {g : Nat} {c : UInt8} (hc : W.cell? ⟨g, 0, none⟩ = some (.int .u8 c.toNat)) (hg : g < W.heap.size) :
    Calls Try.prog 32 #[.slice (some ⟨g, 0, none⟩) 1 1] W fun e W' => e = .returned (.string (bs [Sp.hexd (c.toNat / 16), Sp.hexd (c.toNat % 16)])) ∧ Below W.heap.size W W' := by
  have HC := Lib.hid hc
  have hc8 := u8_lt c
  have hc0 : (0 : Int) ≤ c.toNat := by omega
  have hd1 : (0 : Int) ≤ (c.toNat : Int) / 16 := by omega
  have hd2 : (c.toNat : Int) / 16 < 16 := by omega
  have hm1 : (0 : Int) ≤ (c.toNat : Int) % 16 := by omega
  have hm2 : (c.toNat : Int) % 16 < 16 := by omega
  have hdd : (0 : Int) ≤ (c.toNat : Int) / 16 ∧ (c.toNat : Int) / 16 < 16 := ⟨hd1, hd2⟩
  have hmm : (0 : Int) ≤ (c.toNat : Int) % 16 ∧ (c.toNat : Int) % 16 < 16 := ⟨hm1, hm2⟩
  have hw1 : IntKind.u8.wrap ((c.toNat : Int) / 16) = (c.toNat : Int) / 16 := IntWalk.u8_in _ (by omega)
  have hw2 : Int.tmod (c.toNat : Int) 16 = (c.toNat : Int) % 16 := Int.tmod_eq_emod_of_nonneg hc0
  have hw3 : IntKind.u8.wrap ((c.toNat : Int) % 16) = (c.toNat : Int) % 16 := IntWalk.u8_in _ (by omega)
  have hn1 : ((c.toNat : Int) / 16).toNat = c.toNat / 16 := by omega
  have hn2 : ((c.toNat : Int) % 16).toNat = c.toNat % 16 := by omega
  have HW := Lib.hid (And.intro hw1 (And.intro hw2 (And.intro hw3 (And.intro hn1 hn2))))
  clear hw1 hw2 hw3 hn1 hn2 hc
  go_enter Try.func32, Try.ntmps32
  go_wp2_with fail
  go_loopw [3, 4] (fun v i wr => ∃ k : Nat, k ≤ 1 ∧ i = .int .i64 k ∧ Below W.heap.size W wr ∧ (if k = 0 then v = .slice none 0 0 else ∃ q cap, v = .slice (some ⟨q, 0, none⟩) 2 cap ∧ wr.ownsRow W.heap.size 5 1 v 2 [.int .u8 (Sp.hexd (c.toNat / 16)).toNat, .int .u8 (Sp.hexd (c.toNat % 16)).toNat])) (fun _ i _ => 1 - (intOf i).toNat)
  case atStart => exact ⟨0, by omega, rfl, Below.refl _ _, by simp⟩
  case round =>
    obtain ⟨k, hk, rfl, hG, hv⟩ := hrel
    have c0 := (hG.cell (p := ⟨g, 0, none⟩) hg).trans HC.out
    have HG := Lib.hid hG
    have hsz := hG.size
    clear hG
    by_cases h0 : k = 0
    · subst h0
      rw [if_pos rfl] at hv
      subst hv
      have k1 : c.toNat / 16 < (⟨#[48, 49, 50, 51, 52, 53, 54, 55, 56, 57, 97, 98, 99, 100, 101, 102]⟩ : ByteArray).size := by have : (⟨#[48, 49, 50, 51, 52, 53, 54, 55, 56, 57, 97, 98, 99, 100, 101, 102]⟩ : ByteArray).size = 16 := rfl; omega
      have k2 : c.toNat % 16 < (⟨#[48, 49, 50, 51, 52, 53, 54, 55, 56, 57, 97, 98, 99, 100, 101, 102]⟩ : ByteArray).size := by have : (⟨#[48, 49, 50, 51, 52, 53, 54, 55, 56, 57, 97, 98, 99, 100, 101, 102]⟩ : ByteArray).size = 16 := rfl; omega
      obtain ⟨i0, hi, hz0, hz1, hz2⟩ := info_parts info5
      go_wp2_with fail
      obtain ⟨hw1, hw2, hw3, hn1, hn2⟩ := HW.out
      go_region_held3 (fun w' => w'.cell? ⟨g, 0, none⟩ = some (.int .u8 c.toNat))
        (first | go_keep | (rw [hgrow.cell_far _ (by simp; omega) (by simp [Value.ownBlock])]; assumption))
        ((refine step_append_lies _ (by rfl) _ _ _ (by rfl) W.heap.size 5 i0 _ 1 1 Try.underlying38 hi hz0 hz1 hz2 rfl (by omega) (.slice none 0 0) 0 [] (by rfl) (World.ownsRow_nil _ _ _ _)
              ⟨wr.heap.size, 0, none⟩ 2 2 [.int .u8 ((⟨#[48, 49, 50, 51, 52, 53, 54, 55, 56, 57, 97, 98, 99, 100, 101, 102]⟩ : ByteArray)[c.toNat / 16]'k1).toNat, .int .u8 ((⟨#[48, 49, 50, 51, 52, 53, 54, 55, 56, 57, 97, 98, 99, 100, 101, 102]⟩ : ByteArray)[c.toNat % 16]'k2).toNat] (by rfl) (by rfl) (World.news_of_block (cs := #[.int .u8 ((⟨#[48, 49, 50, 51, 52, 53, 54, 55, 56, 57, 97, 98, 99, 100, 101, 102]⟩ : ByteArray)[c.toNat / 16]'k1).toNat, .int .u8 ((⟨#[48, 49, 50, 51, 52, 53, 54, 55, 56, 57, 97, 98, 99, 100, 101, 102]⟩ : ByteArray)[c.toNat % 16]'k2).toNat]) (t := 5) (fr := (0, 0)) (heap_alloc_new wr _)) (by simp [Value.oneCell'])
              (by omega) (by unfold maxLen; omega) (by omega) (by simp; omega) (wr.heap.size + 1) (by simp) ?_; intro gg cap w1 hown1 hgrow hat hlt))
      all_goals
        have HO := Lib.hid hown1
        have HR := Lib.hid hgrow
        clear hown1 hgrow hat hlt
        go_wp2
        go_roundw
        case rel =>
          refine ⟨1, by omega, by go_num, (HG.out.trans ((((Below.refl _ _).drew).alloc (by simpa using hsz) _))).grown HR.out (by simp; omega) (fun k e => by cases e), ?_⟩
          rw [if_neg (by omega)]
          refine ⟨gg, cap, rfl, ?_⟩
          have h := HO.out
          rw [hexd_at (c.toNat / 16) (by omega), hexd_at (c.toNat % 16) (by omega)] at h
          exact h
        case measure => simp [intOf]
    · obtain rfl : k = 1 := by omega
      rw [if_neg (by omega)] at hv
      obtain ⟨q, cap, rfl, ho⟩ := hv
      have hcv : (convert 38 9 (.slice (some ⟨q, 0, none⟩) 2 cap)).run Try.prog wr = .ok (.string (bs [Sp.hexd (c.toNat / 16), Sp.hexd (c.toNat % 16)])) wr := run_convert_bytes_back (P := Try.prog) wr 38 9 5 ⟨q, 0, none⟩ cap [Sp.hexd (c.toNat / 16), Sp.hexd (c.toNat % 16)] (by kernel_rfl) (by kernel_rfl) (by kernel_rfl) (fun j hj => by
        have hj2 : j < 2 := by simpa using hj
        have h := ho.cellAt j (by omega)
        match j, hj2 with
        | 0, _ => simpa [Addr.add] using h
        | 1, _ => simpa [Addr.add] using h)
      clear ho HW
      go_wp2
      go_ret
      exact ⟨rfl, HG.out⟩

theorem rhex23_c {W : World} {g : Nat} {c : UInt8} (hc : W.cell? ⟨g, 0, none⟩ = some (.int .u8 c.toNat)) (hg : g < W.heap.size) :
    Calls Try.prog 23 #[.slice (some ⟨g, 0, none⟩) 1 1] W fun e W' => e = .returned (.string (bs [Sp.hexd (c.toNat / 16), Sp.hexd (c.toNat % 16)])) ∧ Below W.heap.size W W' := by
  have HH := Lib.hid (rhex32_c hc hg)
  clear hc
  go_enter Try.func23, Try.ntmps23
  go_wp2_with (go_at_call 32; refine HH.out.mono ?_; rintro e w' ⟨rfl, hb⟩)
  go_ret
  exact ⟨rfl, hb⟩

theorem bs_eq (a : ByteArray) : bs a.data.toList = a := by apply ByteArray.ext; simp [bs]
theorem slice_one (s : ByteArray) (k : Nat) (h : k < s.size) : s.extract k (k + 1) = bs [s[k]] := by
  apply ByteArray.ext
  apply Array.ext
  · simp [bs]; omega
  · intro j h1 h2
    simp [bs] at h1 h2 ⊢
    obtain rfl : j = 0 := by omega
    rfl

theorem run_one (s : ByteArray) (k : Nat) (h : k < s.size) (W : World) : (Instr.slice 9 (.string s) (some (.int .i64 k)) (some (.int .i64 ((k : Int) + 1))) none).run Try.prog W = .ok (.string (bs [s[k]])) W := by
  rw [run_slice_string_if _ _ _ _ _ _ _ Try.underlying9, if_pos (by omega), if_pos (by omega), show ((k : Int)).toNat = k by omega, show ((k : Int) + 1).toNat = k + 1 by omega, slice_one s k h]

set_option maxHeartbeats 4000000 in
set_option maxRecDepth 20000 in
theorem rquote_c {s : ByteArray} (hs : s.size ≤ 1048576) (w : World) :
    Calls Try.prog 10 #[.string s] w fun e w' => e = .returned (.string (bs (Sp.quo (BL s)))) ∧ Below w.heap.size w w' := by
  have HL := Lib.hid (bl_len s)
  go_enter Try.func10, Try.ntmps10
  go_wp2_with fail
  go_loopw [3, 4] (fun q i wr => ∃ k : Nat, k ≤ s.size ∧ i = .int .i64 k ∧ q = .string (bs (upto (BL s) k)) ∧ Below w.heap.size w wr) (fun _ i _ => s.size - (intOf i).toNat)
  case atStart => exact ⟨0, by omega, rfl, by rw [upto_zero]; rfl, Below.refl _ _⟩
  case round =>
    obtain ⟨k, hk, rfl, rfl, hg⟩ := hrel
    have hul := upto_len (BL s) k (by rw [HL.out]; exact hk)
    rw [HL.out] at hul
    have hus : (bs (upto (BL s) k)).size ≤ 4 * s.size + 1 := by rw [bs_size]; exact hul
    have HG := Lib.hid hg
    have hsz := hg.size
    clear hg hul
    by_cases hlt : k < s.size
    · have hlt' : (k : Int) < (s.size : Int) := by omega
      have hsn := Lib.hid (upto_snoc (BL s) k (by rw [HL.out]; exact hlt))
      have HCH := Lib.hid (ch_get s k hlt)
      have hsl := run_one s k hlt wr
      have hone : (bs [s[k]]).size = 1 := rfl
      have hone1 : (⟨#[92]⟩ : ByteArray).size = 1 := rfl
      have hone2 : (⟨#[92, 120]⟩ : ByteArray).size = 2 := rfl
      by_cases h1 : s[k] = 34 ∨ s[k] = 92
      · have HQ : Hid (Sp.qb s[k] = [92, s[k]]) := Lib.hid (by unfold Sp.qb; rw [if_pos h1])
        have HE : Hid (bs (upto (BL s) k) ++ (⟨#[92]⟩ : ByteArray) ++ bs [s[k]] = bs (upto (BL s) k ++ [92, s[k]])) := Lib.hid (by
          rw [show (⟨#[92]⟩ : ByteArray) = bs [92] from rfl, bs_app, bs_app]; simp)
        rcases h1 with h1 | h1
        · have h34 : ((s[k].toNat : Int) == 34) = true := keq (n := 34) (by omega) h1
          clear h1
          go_wp2
          go_roundw
          case rel => exact ⟨k + 1, by omega, by go_num, by rw [hsn.out, ← HCH.out, HQ.out, HE.out], HG.out⟩
          case measure => simp [intOf]; omega
        · have h34 : ((s[k].toNat : Int) == 34) = false := kne (u := s[k]) (n := 34) (by omega) (by rw [h1]; decide)
          have h92 : ((s[k].toNat : Int) == 92) = true := keq (n := 92) (by omega) h1
          clear h1
          go_wp2
          go_roundw
          case rel => exact ⟨k + 1, by omega, by go_num, by rw [hsn.out, ← HCH.out, HQ.out, HE.out], HG.out⟩
          case measure => simp [intOf]; omega
      · have n34 : s[k] ≠ 34 := fun e => h1 (.inl e)
        have n92 : s[k] ≠ 92 := fun e => h1 (.inr e)
        have h34 : ((s[k].toNat : Int) == 34) = false := kne (u := s[k]) (n := 34) (by omega) n34
        have h92 : ((s[k].toNat : Int) == 92) = false := kne (u := s[k]) (n := 92) (by omega) n92
        have hu8 := u8_lt s[k]
        by_cases h2 : 32 ≤ s[k] ∧ s[k] ≤ 126
        · have HQ : Hid (Sp.qb s[k] = [s[k]]) := Lib.hid (by unfold Sp.qb; rw [if_neg h1, if_pos h2])
          have HE : Hid (bs (upto (BL s) k) ++ bs [s[k]] = bs (upto (BL s) k ++ [s[k]])) := Lib.hid (bs_app _ _)
          have h3 : (32 : Int) ≤ (s[k].toNat : Int) := by have := UInt8.le_iff_toNat_le.1 h2.1; simp at this; omega
          have h4 : (s[k].toNat : Int) ≤ 126 := by have := UInt8.le_iff_toNat_le.1 h2.2; simp at this; omega
          have h3d : decide ((32 : Int) ≤ (s[k].toNat : Int)) = true := by simpa using h3
          have h4d : decide ((s[k].toNat : Int) ≤ 126) = true := by simpa using h4
          clear h1 n34 n92 h2
          go_wp2
          go_roundw
          case rel => exact ⟨k + 1, by omega, by go_num, by rw [hsn.out, ← HCH.out, HQ.out, HE.out], HG.out⟩
          case measure => simp [intOf]; omega
        · have HQ : Hid (Sp.qb s[k] = [92, 120, Sp.hexd (s[k].toNat / 16), Sp.hexd (s[k].toNat % 16)]) := Lib.hid (by unfold Sp.qb; rw [if_neg h1, if_neg h2])
          have HE : Hid (bs (upto (BL s) k) ++ (⟨#[92, 120]⟩ : ByteArray) ++ bs [Sp.hexd (s[k].toNat / 16), Sp.hexd (s[k].toNat % 16)] = bs (upto (BL s) k ++ [92, 120, Sp.hexd (s[k].toNat / 16), Sp.hexd (s[k].toNat % 16)])) := Lib.hid (by
            rw [show (⟨#[92, 120]⟩ : ByteArray) = bs [92, 120] from rfl, bs_app, bs_app]; simp)
          have honeh : (bs [Sp.hexd (s[k].toNat / 16), Sp.hexd (s[k].toNat % 16)]).size = 2 := rfl
          have hbad : (s[k].toNat : Int) < 32 ∨ ((32 : Int) ≤ s[k].toNat ∧ 126 < (s[k].toNat : Int)) := by
            simp [UInt8.le_iff_toNat_le] at h2; omega
          clear h1 n34 n92 h2
          rcases hbad with hb | ⟨hb1, hb2⟩
          · have h3d : decide ((32 : Int) ≤ (s[k].toNat : Int)) = false := by simpa using hb
            go_wp2_with fail
            refine (rhex23_c (c := s[k]) (W := wr.alloc (.cells #[.int .u8 s[k].toNat] 5)) (g := wr.heap.size) (World.cell?_alloc_mark _ _ 5 (0, 0) 0) (by simp)).mono ?_
            rintro e w2 ⟨rfl, hb⟩
            have HG2 : Hid (Below w.heap.size w w2) := Lib.hid (HG.out.trans ((((Below.refl _ _).alloc hsz _).trans (hb.mono (by simp; omega)))))
            clear hb
            go_wp2
            go_roundw
            case rel => exact ⟨k + 1, by omega, by go_num, by rw [hsn.out, ← HCH.out, HQ.out, HE.out], HG2.out⟩
            case measure => simp [intOf]; omega
          · have h3d : decide ((32 : Int) ≤ (s[k].toNat : Int)) = true := by simpa using hb1
            have h4d : decide ((s[k].toNat : Int) ≤ 126) = false := by simpa using hb2
            go_wp2_with fail
            refine (rhex23_c (c := s[k]) (W := wr.alloc (.cells #[.int .u8 s[k].toNat] 5)) (g := wr.heap.size) (World.cell?_alloc_mark _ _ 5 (0, 0) 0) (by simp)).mono ?_
            rintro e w2 ⟨rfl, hb⟩
            have HG2 : Hid (Below w.heap.size w w2) := Lib.hid (HG.out.trans ((((Below.refl _ _).alloc hsz _).trans (hb.mono (by simp; omega)))))
            clear hb
            go_wp2
            go_roundw
            case rel => exact ⟨k + 1, by omega, by go_num, by rw [hsn.out, ← HCH.out, HQ.out, HE.out], HG2.out⟩
            case measure => simp [intOf]; omega
    · have hlt' : ¬ (k : Int) < (s.size : Int) := by omega
      obtain rfl : k = s.size := by omega
      have HE : Hid (bs (upto (BL s) s.size) ++ (⟨#[34]⟩ : ByteArray) = bs (Sp.quo (BL s))) := Lib.hid (by
        rw [show (⟨#[34]⟩ : ByteArray) = bs [34] from rfl, bs_app, show upto (BL s) s.size = upto (BL s) (BL s).length by rw [HL.out], upto_all])
      have hone3 : (⟨#[34]⟩ : ByteArray).size = 1 := rfl
      go_wp2
      go_ret
      exact ⟨by rw [HE.out]; rfl, HG.out⟩

end Go.Proofs.Ytpilifhdhgdbjaa
