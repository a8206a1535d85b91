/-
  octets.add, Add16, Add32, Add64 and chanceryref01.Add: what each call does: the bytes, and behind them a number's lowest bytes, the lowest first.
-/
import Derived.Test.YtdmnkhcddbjglaaGreatHKept
import Derived.Laws.OwnMore
namespace Go.Proofs.YtdmnkhcddbjglaaGreat
open Go Go.RowKit
set_option maxRecDepth 100000
set_option maxHeartbeats 1600000

/-- byte i of a number -/
def leB (v i : Nat) : UInt8 := UInt8.ofNat (v / 2 ^ (8 * i) % 256)
/-- the lowest n bytes of a number -/
def le (n v : Nat) : List UInt8 := (List.range n).map (leB v)
theorem le_len (n v : Nat) : (le n v).length = n := by simp [le]
theorem le_succ (n v : Nat) : le (n + 1) v = le n v ++ [leB v n] := by simp [le, List.range_succ]
theorem leB_int (v i : Nat) : (v : Int) / 2 ^ (8 * i) % 256 = ((leB v i).toNat : Int) := by
  unfold leB
  rw [UInt8.toNat_ofNat']
  simp

theorem madeCells_toList' (c : Nat) : (madeCells (Value.int .u8 0).cells (c * 1)).toList = List.replicate c (.int .u8 0) := by
  apply List.ext_getElem?
  intro k
  simp only [madeCells, Nat.mul_one, Array.toList_map, Array.toList_range, List.getElem?_map, List.getElem?_replicate]
  by_cases h : k < c
  · rw [List.getElem?_range h, if_pos h]; simp [Value.cells, Nat.mod_one]
  · rw [List.getElem?_eq_none (by simp; omega), if_neg h]; rfl
theorem mk0 (w : World) (c : Nat) (hc : c ≤ 1000000000) : ∃ w0, (Instr.makeSlice 25 (.int .i64 0) (.int .i64 (c : Int))).run Tryz.prog w = .ok (.slice (some ⟨w.heap.size, 0, none⟩) 0 c) w0 ∧
    Own w0 w.heap.size (.slice (some ⟨w.heap.size, 0, none⟩) 0 c) [] ∧ Below w.heap.size w w0 := by
  obtain ⟨i0, hi, hz0, hz1, hz2⟩ := info_parts Tryz.info5
  obtain ⟨w0, h1, h2, h3⟩ := run_make_own (P := Tryz.prog) w w.heap.size 25 5 i0 _ 1 Tryz.underlying25 hi hz0 hz1 .i64 .i64 c (by rw [hz2]; omega) (by unfold maxLen; omega) (Nat.le_refl _)
  exact ⟨w0, h1, h2, ⟨h3.os, h3.tape, h3.output, h3.size, fun k hk => h3.block k hk (fun e => by cases e)⟩⟩
theorem mkn (w : World) (c : Nat) (hc : c ≤ 1000000000) : ∃ w0, (Instr.makeSlice 25 (.int .i64 (c : Int)) (.int .i64 (c : Int))).run Tryz.prog w = .ok (.slice (some ⟨w.heap.size, 0, none⟩) c c) w0 ∧
    Own w0 w.heap.size (.slice (some ⟨w.heap.size, 0, none⟩) c c) (List.replicate c 0) ∧ Below w.heap.size w w0 := by
  obtain ⟨i0, hi, hz0, hz1, hz2⟩ := info_parts Tryz.info5
  obtain ⟨w0, h1, h2, h3⟩ := run_make_full (P := Tryz.prog) w w.heap.size 25 5 i0 _ 1 Tryz.underlying25 hi hz0 hz1 .i64 .i64 c (by rw [hz2]; omega) (by unfold maxLen; omega) (Nat.le_refl _)
  refine ⟨w0, h1, ?_, ⟨h3.os, h3.tape, h3.output, h3.size, fun k hk => h3.block k hk (fun e => by cases e)⟩⟩
  unfold Own
  have e1 : (List.replicate c (0 : UInt8)).map u8V = (madeCells (Value.int .u8 0).cells (c * 1)).toList := by
    apply List.ext_getElem?
    intro k
    rw [madeCells_toList', List.map_replicate]
    rfl
  rw [e1, List.length_replicate]
  exact h2

theorem add_any (A : Option Addr) (c n v s : Nat) (l : List UInt8) (w : World) (hr : Rd w w.heap.size A l) (hn : n = l.length) (hl : l.length ≤ 1000000) (hv : v ≤ 18446744073709551615) (hs : s ≤ 8) :
    Calls Tryz.prog 119 #[.slice A n c, .int .u64 v, .int .i64 s] w fun e w' => ∃ u, e = .returned u ∧ Own w' w.heap.size u (l ++ le s v) ∧ Below w.heap.size w w' := by
  have HN := Lib.hid hn
  have hnl : n ≤ 1000000 := by omega
  obtain ⟨w0, hmk, hown0, hb0⟩ := mk0 w (n + s) (by omega)
  rw [Int.natCast_add] at hmk
  clear hn
  go_enter Tryz.func119, Tryz.ntmps119
  go_wp2_with (at_builtin; refine apB rfl (.tmp 14) (.tmp 15) rfl w.heap.size _ [] rfl hown0 _ _ n c l rfl HN.out (hr.below hb0) ?c1 ?c2 ?_)
  case c1 => simp; omega
  case c2 => exact hb0.size
  intro v1 w1 hown1 hb1 _ _
  have hb1' := hb0.trans hb1
  clear hown0 hb0 hb1 hmk
  go_wp2
  go_loopw [7, 18] (fun u i wr => ∃ k : Nat, k ≤ s ∧ i = .int .i64 k ∧ Own wr w.heap.size u (l ++ le k v) ∧ Below w.heap.size w wr) (fun _ i _ => s - (intOf i).toNat)
  case atStart => exact ⟨0, by omega, rfl, by simpa [le] using hown1, hb1'⟩
  case round =>
    obtain ⟨k, hk, rfl, hown, hb⟩ := hrel
    have hz := hb.size
    by_cases hlt : k < s
    · have hB := leB_int v k
      go_wp2_with (at_builtin; refine apB rfl (.tmp 21) (.tmp 27) rfl w.heap.size _ _ rfl (hown.alloc _) _ _ 1 1 [leB v k] rfl rfl (Rd.one _ _) ?c1 ?c2 ?_)
      case c1 => simp [le_len]; omega
      case c2 => simp; omega
      intro v' w2 hown2 hb2 _ _
      have hown2' := hown2.cast (m := l ++ le (k + 1) v) (by rw [le_succ])
      have hbb2 := (hb.alloc hz _).trans hb2
      clear hown2 hb2 hown hB
      go_wp2
      go_roundw
      case rel => exact ⟨k + 1, by omega, by go_num, hown2', hbb2⟩
      case measure => simp [intOf] <;> omega
    · obtain rfl : k = s := by omega
      go_wp2
      go_ret
      exact ⟨_, rfl, hown, hb⟩

theorem add16_any (A : Option Addr) (c n v : Nat) (l : List UInt8) (w : World) (hr : Rd w w.heap.size A l) (hn : n = l.length) (hl : l.length ≤ 1000000) (hv : v ≤ 65535) :
    Calls Tryz.prog 46 #[.slice A n c, .int .u16 v] w fun e w' => ∃ u, e = .returned u ∧ Own w' w.heap.size u (l ++ le 2 v) ∧ Below w.heap.size w w' := by
  have HN := Lib.hid hn
  clear hn
  go_enter Tryz.func46, Tryz.ntmps46
  go_wp2_with (go_at_call 119; refine (add_any _ _ _ v 2 l _ hr HN.out (by omega) (by omega) (by omega)).mono ?_; rintro e w1 ⟨u, rfl, hown, hb⟩)
  go_ret
  exact ⟨_, rfl, hown, hb⟩
theorem add32_any (A : Option Addr) (c n v : Nat) (l : List UInt8) (w : World) (hr : Rd w w.heap.size A l) (hn : n = l.length) (hl : l.length ≤ 1000000) (hv : v ≤ 4294967295) :
    Calls Tryz.prog 44 #[.slice A n c, .int .u32 v] w fun e w' => ∃ u, e = .returned u ∧ Own w' w.heap.size u (l ++ le 4 v) ∧ Below w.heap.size w w' := by
  have HN := Lib.hid hn
  clear hn
  go_enter Tryz.func44, Tryz.ntmps44
  go_wp2_with (go_at_call 119; refine (add_any _ _ _ v 4 l _ hr HN.out (by omega) (by omega) (by omega)).mono ?_; rintro e w1 ⟨u, rfl, hown, hb⟩)
  go_ret
  exact ⟨_, rfl, hown, hb⟩
theorem add64_any (A : Option Addr) (c n v : Nat) (l : List UInt8) (w : World) (hr : Rd w w.heap.size A l) (hn : n = l.length) (hl : l.length ≤ 1000000) (hv : v ≤ 18446744073709551615) :
    Calls Tryz.prog 45 #[.slice A n c, .int .u64 v] w fun e w' => ∃ u, e = .returned u ∧ Own w' w.heap.size u (l ++ le 8 v) ∧ Below w.heap.size w w' := by
  have HN := Lib.hid hn
  clear hn
  go_enter Tryz.func45, Tryz.ntmps45
  go_wp2_with (go_at_call 119; refine (add_any _ _ _ v 8 l _ hr HN.out (by omega) (by omega) (by omega)).mono ?_; rintro e w1 ⟨u, rfl, hown, hb⟩)
  go_ret
  exact ⟨_, rfl, hown, hb⟩

/-- what is left of a number behind its lowest i bytes -/
def rest (v i : Nat) : Nat := v / 2 ^ (8 * i)
theorem rest_le (v i : Nat) (h : v ≤ 18446744073709551615) : rest v i ≤ 18446744073709551615 := Nat.le_trans (Nat.div_le_self _ _) h
theorem rest_succ (v i : Nat) : rest v i / 256 = rest v (i + 1) := by
  unfold rest
  rw [Nat.div_div_eq_div_mul, show 8 * (i + 1) = 8 * i + 8 by omega, Nat.pow_add]
theorem rest_byte (v i : Nat) : (rest v i : Int) % 256 = ((leB v i).toNat : Int) := by
  rw [← leB_int]; simp [rest]

theorem refadd_any (A : Option Addr) (c n v s : Nat) (l : List UInt8) (w : World) (hr : Rd w w.heap.size A l) (hn : n = l.length) (hl : l.length ≤ 1000000) (hv : v ≤ 18446744073709551615) (hs : s ≤ 8) :
    Calls Tryz.prog 48 #[.slice A n c, .int .u64 v, .int .i64 s] w fun e w' => ∃ u, e = .returned u ∧ Own w' w.heap.size u (l ++ le s v) ∧ Below w.heap.size w w' := by
  have HN := Lib.hid hn
  have hnl : n ≤ 1000000 := by omega
  clear hn
  go_enter Tryz.func48, Tryz.ntmps48
  go_wp2_with (at_builtin; refine apB rfl (.tmp 9) (.tmp 10) rfl w.heap.size _ [] rfl (.nil _ _) _ _ n c l rfl HN.out hr ?c1 ?c2 ?_)
  case c1 => simp; omega
  case c2 => omega
  intro v1 w1 hown1 hb1 _ _
  go_wp2
  go_loopw [7, 8, 1] (fun u i x wr => ∃ k : Nat, k ≤ s ∧ i = .int .i64 k ∧ x = .int .u64 (rest v k : Nat) ∧ Own wr w.heap.size u (l ++ le k v) ∧ Below w.heap.size w wr) (fun _ i _ _ => s - (intOf i).toNat)
  case atStart => exact ⟨0, by omega, rfl, by simp [rest], by simpa [le] using hown1, hb1⟩
  case round =>
    obtain ⟨k, hk, rfl, rfl, hown, hb⟩ := hrel
    have hz := hb.size
    have hrl := rest_le v k hv
    by_cases hlt : k < s
    · have hB := rest_byte v k
      have hS : (rest v k : Int) / 256 = (rest v (k + 1) : Int) := by have := rest_succ v k; omega
      go_wp2_with (at_builtin; refine apB rfl (.tmp 17) (.tmp 21) rfl w.heap.size _ _ rfl (hown.alloc _) _ _ 1 1 [leB v k] rfl rfl (Rd.one _ _) ?c1 ?c2 ?_)
      case c1 => simp [le_len]; omega
      case c2 => simp; omega
      intro v' w2 hown2 hb2 _ _
      have hown2' := hown2.cast (m := l ++ le (k + 1) v) (by rw [le_succ])
      have hbb2 := (hb.alloc hz _).trans hb2
      clear hown2 hb2 hown hB
      go_wp2
      go_roundw
      case rel => exact ⟨k + 1, by omega, by go_num, rfl, hown2', hbb2⟩
      case measure => simp [intOf] <;> omega
    · obtain rfl : k = s := by omega
      go_wp2
      go_ret
      exact ⟨_, rfl, hown, hb⟩
end Go.Proofs.YtdmnkhcddbjglaaGreat
