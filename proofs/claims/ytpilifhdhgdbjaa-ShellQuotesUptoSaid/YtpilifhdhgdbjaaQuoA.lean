/- A builder's WriteString; a byte in hexadecimal digits, as the program writes it. -/
import Derived.Test.YtpilifhdhgdbjaaBuild
import Derived.Test.YtpilifhdhgdbjaaQuoP
import Derived.Lib.AppendStr
namespace Go.Proofs.Ytpilifhdhgdbjaa
open Go.RowKit

set_option maxHeartbeats 2000000 in
theorem ws_cells {B b : Nat} {bs : List Value} {s : ByteArray} {w : World} (h : Lib.IsBuilder 47 5 B b bs w) (hlen : bs.length + s.size ≤ 140737488355328) (hBw : B ≤ w.heap.size) :
    Calls Try.prog 20 #[.pointer (some ⟨b, 0, none⟩), .string s] w fun e w' => e = .returned (.tuple #[.int .i64 s.size, .nilIface]) ∧ Lib.IsBuilder 47 5 B b (bs ++ Lib.strCells s) w' ∧ Below B w w' := by
  obtain ⟨i0, hi, hz0, hz1, hz2⟩ := info_parts info5
  go_enter Try.func20, Try.ntmps20
  go_wp2_with (go_at_call 31; refine (cc_c h).mono ?_)
  rintro e w1 ⟨rfl, h1, hb1⟩
  obtain ⟨hB, v, hbk, hown, hne⟩ := h1
  have c0 : w1.cell? ⟨b, 0, none⟩ = some (.pointer (some ⟨b, 0, none⟩)) := by rw [Lib.cell_of_heap hbk]; rfl
  have c1 : w1.cell? ⟨b, 1, none⟩ = some v := by rw [Lib.cell_of_heap hbk]; rfl
  go_wp2_with (at_builtin; refine Lib.wpList_append_own_string _ rfl _ _ 38 9 rfl B 5 i0 Try.underlying38 Try.underlying9 hi hz0 hz1 hz2 _ _ _ rfl hown s rfl ?c3 ?c4 ?c5 ?_)
  case c3 => unfold maxLen; omega
  case c4 => omega
  case c5 => have := hb1.size; omega
  intro v' w2 hown' hgrow _
  have hlt : b < w1.heap.size := (Array.getElem?_eq_some_iff.1 hbk).1
  have hb2 : w2.heap[b]? = some (.cells #[.pointer (some ⟨b, 0, none⟩), v] 47 (0, 0)) := by
    rw [hgrow.block b hlt (fun e => hne e.symm)]
    exact hbk
  have d0 : w2.cell? ⟨b, 0, none⟩ = some (.pointer (some ⟨b, 0, none⟩)) := by rw [Lib.cell_of_heap hb2]; rfl
  have d1 : w2.cell? ⟨b, 1, none⟩ = some v := by rw [Lib.cell_of_heap hb2]; rfl
  have f1 : w2.frozen? ⟨b, 1, none⟩ = false := Lib.frozen_of_heap hb2 1
  obtain ⟨ao, n', cap, rfl⟩ : ∃ ao n' cap, v' = .slice ao n' cap := by
    rcases hown'.2 with ⟨hv, _⟩ | ⟨g, cap, cur, hv, _⟩
    · exact ⟨_, _, _, hv⟩
    · exact ⟨_, _, _, hv⟩
  go_wp2
  go_ret2
  refine ⟨rfl, .inr ?_, ?_⟩
  · exact Lib.BuilderAt.put (T := 47) (e := 5) hB hb2 (bs' := bs ++ Lib.strCells s) (by simpa [Lib.strCells_length] using hown') (by decide)
  · exact (hb1.grown hgrow (by have := hb1.size; omega) (fun k hk => (hown.lt k hk).1)).setCell (p := ⟨b, 1, none⟩) hB _

theorem ws_c {B b : Nat} {l t : Sp.Bs} {w : World} (h : Bd w B b l) (hlen : l.length + t.length ≤ 140737488355328) (hBw : B ≤ w.heap.size) :
    Calls Try.prog 20 #[.pointer (some ⟨b, 0, none⟩), .string (bs t)] w fun e w' => e = .returned (.tuple #[.int .i64 (bs t).size, .nilIface]) ∧ Bd w' B b (l ++ t) ∧ Below B w w' := by
  refine (ws_cells (s := bs t) h (by simpa [Lib.byteCells, bs, ByteArray.size] using hlen) hBw).mono ?_
  rintro e w' ⟨rfl, h1, h2⟩
  refine ⟨rfl, ?_, h2⟩
  unfold Bd
  simpa [Lib.byteCells, Lib.strCells, bs] using h1

theorem hexd_at (n : Nat) (h : n < 16) : ∀ (h' : n < (⟨#[48, 49, 50, 51, 52, 53, 54, 55, 56, 57, 97, 98, 99, 100, 101, 102]⟩ : ByteArray).size), (⟨#[48, 49, 50, 51, 52, 53, 54, 55, 56, 57, 97, 98, 99, 100, 101, 102]⟩ : ByteArray)[n] = Sp.hexd n := by
  have : ∀ k : Fin 16, ∀ (h' : k.val < (⟨#[48, 49, 50, 51, 52, 53, 54, 55, 56, 57, 97, 98, 99, 100, 101, 102]⟩ : ByteArray).size), (⟨#[48, 49, 50, 51, 52, 53, 54, 55, 56, 57, 97, 98, 99, 100, 101, 102]⟩ : ByteArray)[k.val] = Sp.hexd k := by decide
  exact this ⟨n, h⟩

set_option maxHeartbeats 2000000 in
set_option maxRecDepth 20000 in
theorem hex_c {W : World} {g : Nat} {c : UInt8} (hc : W.cell? ⟨g, 0, none⟩ = some (.int .u8 c.toNat)) (hg : g < W.heap.size) :
    Calls Try.prog 21 #[.slice (some ⟨g, 0, none⟩) 1 1] W fun e W' => e = .returned (.string (bs [Sp.hexd (c.toNat / 16), Sp.hexd (c.toNat % 16)])) ∧ Below W.heap.size W W' := by
  go_enter Try.func21, Try.ntmps21
  go_wp2_with fail
  generalize hwo : W.alloc (.cells #[.pointer none, .slice none 0 0] 47) = wo
  have HBo : Hid (Bd wo W.heap.size W.heap.size []) := by rw [← hwo]; exact Bd.new W
  have HGo : Hid (Below W.heap.size W wo) := by rw [← hwo]; exact (Below.refl _ _).alloc (Nat.le_refl _) _
  have HC := Lib.hid hc
  have hc8 := u8_lt c
  have hc0 : (0 : Int) ≤ c.toNat := by omega
  clear hc hwo
  go_loopw [11] (fun i wr => ∃ k : Nat, k ≤ 1 ∧ i = .int .i64 k ∧ Below W.heap.size W wr ∧ Bd wr W.heap.size W.heap.size (if k = 0 then [] else [Sp.hexd (c.toNat / 16), Sp.hexd (c.toNat % 16)])) (fun i _ => 1 - (intOf i).toNat)
  case atStart => exact ⟨0, by omega, rfl, HGo.out, by simpa using HBo.out⟩
  case round =>
    obtain ⟨k, hk, rfl, hg2, hB⟩ := hrel
    clear HGo HBo
    have c0 := (hg2.cell (p := ⟨g, 0, none⟩) hg).trans HC.out
    have HG := Lib.hid hg2
    clear hg2
    by_cases h0 : k = 0
    · subst h0
      have HB : Hid (Bd wr W.heap.size W.heap.size []) := hB
      clear hB
      go_wp2_with fail
      rw [hexd_at (c.toNat / 16) (by omega)]
      refine (wb_c (Sp.hexd (c.toNat / 16)) HB.out (by simp) HG.out.size).mono ?_
      rintro e w1 ⟨rfl, hB1, hb1⟩
      have HB1 := Lib.hid hB1
      have HG1 := Lib.hid (HG.out.trans hb1)
      clear hB1 hb1
      go_wp2_with fail
      rw [hexd_at (c.toNat % 16) (by omega)]
      refine (wb_c (Sp.hexd (c.toNat % 16)) HB1.out (by simp) HG1.out.size).mono ?_
      rintro e w2 ⟨rfl, hB2, hb2⟩
      have HB2 := Lib.hid hB2
      have HG2 := Lib.hid (HG1.out.trans hb2)
      clear hB2 hb2
      go_wp2
      go_roundw
      case rel => exact ⟨1, by omega, by go_num, HG2.out, by simpa using HB2.out⟩
      case measure => simp [intOf]
    · obtain rfl : k = 1 := by omega
      have HB : Hid (Bd wr W.heap.size W.heap.size [Sp.hexd (c.toNat / 16), Sp.hexd (c.toNat % 16)])   := Lib.hid (by simpa using hB)
      clear hB
      go_wp2_with (go_at_call 22; refine (bstr_c HB.out HG.out.size).mono ?_; rintro e w' ⟨rfl, hb2⟩)
      go_ret
      exact ⟨rfl, HG.out.trans hb2⟩

end Go.Proofs.Ytpilifhdhgdbjaa
