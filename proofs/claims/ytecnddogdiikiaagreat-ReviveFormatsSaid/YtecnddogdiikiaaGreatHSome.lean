/-
  octets.add, Add16, Add32, Add64 and chanceryref01.Add: what each call does: the bytes, and behind them a number's lowest bytes, the lowest first.
  octets.number, U16, U32, U64 and chanceryref01.Number: what each call does: the number that some bytes say, the lowest first.
  Rows of numbers that the call itself makes; append onto such a row; chanceryref15.some: what the call does.
-/
import Derived.Test.YtecnddogdiikiaaGreatHSame
import Derived.Laws.OwnMore
set_option linter.unusedVariables false
set_option linter.unusedSimpArgs false
namespace Go.Proofs.YtecnddogdiikiaaGreat
open Go Go.RowKit
set_option maxRecDepth 100000
set_option maxHeartbeats 1600000

/-- byte i of a number -/
def leB (v i : Nat) : UInt8 := UInt8.ofNat (v / 2 ^ (8 * i) % 256)
/-- the lowest n bytes of a number -/
def le (n v : Nat) : List UInt8 := (List.range n).map (leB v)
theorem le_len (n v : Nat) : (le n v).length = n := by simp [le]
theorem le_succ (n v : Nat) : le (n + 1) v = le n v ++ [leB v n] := by simp [le, List.range_succ]
theorem leB_int (v i : Nat) : (v : Int) / 2 ^ (8 * i) % 256 = ((leB v i).toNat : Int) := by
  unfold leB
  rw [UInt8.toNat_ofNat']
  simp

theorem madeCells_toList' (c : Nat) : (madeCells (Value.int .u8 0).cells (c * 1)).toList = List.replicate c (.int .u8 0) := by
  apply List.ext_getElem?
  intro k
  simp only [madeCells, Nat.mul_one, Array.toList_map, Array.toList_range, List.getElem?_map, List.getElem?_replicate]
  by_cases h : k < c
  · rw [List.getElem?_range h, if_pos h]; simp [Value.cells, Nat.mod_one]
  · rw [List.getElem?_eq_none (by simp; omega), if_neg h]; rfl
theorem mk0 (w : World) (c : Nat) (hc : c ≤ 1000000000) : ∃ w0, (Instr.makeSlice 37 (.int .i64 0) (.int .i64 (c : Int))).run Tryz.prog w = .ok (.slice (some ⟨w.heap.size, 0, none⟩) 0 c) w0 ∧
    Own w0 w.heap.size (.slice (some ⟨w.heap.size, 0, none⟩) 0 c) [] ∧ Below w.heap.size w w0 := by
  obtain ⟨i0, hi, hz0, hz1, hz2⟩ := info_parts Tryz.info5
  obtain ⟨w0, h1, h2, h3⟩ := run_make_own (P := Tryz.prog) w w.heap.size 37 5 i0 _ 1 Tryz.underlying37 hi hz0 hz1 .i64 .i64 c (by rw [hz2]; omega) (by unfold maxLen; omega) (Nat.le_refl _)
  exact ⟨w0, h1, h2, ⟨h3.os, h3.tape, h3.output, h3.size, fun k hk => h3.block k hk (fun e => by cases e)⟩⟩
theorem mkn (w : World) (c : Nat) (hc : c ≤ 1000000000) : ∃ w0, (Instr.makeSlice 37 (.int .i64 (c : Int)) (.int .i64 (c : Int))).run Tryz.prog w = .ok (.slice (some ⟨w.heap.size, 0, none⟩) c c) w0 ∧
    Own w0 w.heap.size (.slice (some ⟨w.heap.size, 0, none⟩) c c) (List.replicate c 0) ∧ Below w.heap.size w w0 := by
  obtain ⟨i0, hi, hz0, hz1, hz2⟩ := info_parts Tryz.info5
  obtain ⟨w0, h1, h2, h3⟩ := run_make_full (P := Tryz.prog) w w.heap.size 37 5 i0 _ 1 Tryz.underlying37 hi hz0 hz1 .i64 .i64 c (by rw [hz2]; omega) (by unfold maxLen; omega) (Nat.le_refl _)
  refine ⟨w0, h1, ?_, ⟨h3.os, h3.tape, h3.output, h3.size, fun k hk => h3.block k hk (fun e => by cases e)⟩⟩
  unfold Own
  have e1 : (List.replicate c (0 : UInt8)).map u8V = (madeCells (Value.int .u8 0).cells (c * 1)).toList := by
    apply List.ext_getElem?
    intro k
    rw [madeCells_toList', List.map_replicate]
    rfl
  rw [e1, List.length_replicate]
  exact h2

theorem add_any (A : Option Addr) (c n v s : Nat) (l : List UInt8) (w : World) (hr : Rd w w.heap.size A l) (hn : n = l.length) (hl : l.length ≤ 1000000) (hv : v ≤ 18446744073709551615) (hs : s ≤ 8) :
    Calls Tryz.prog 141 #[.slice A n c, .int .u64 v, .int .i64 s] w fun e w' => ∃ u, e = .returned u ∧ Own w' w.heap.size u (l ++ le s v) ∧ Below w.heap.size w w' := by
  have HN := Lib.hid hn
  have hnl : n ≤ 1000000 := by omega
  obtain ⟨w0, hmk, hown0, hb0⟩ := mk0 w (n + s) (by omega)
  rw [Int.natCast_add] at hmk
  clear hn
  go_enter Tryz.func141, Tryz.ntmps141
  go_wp2_with (at_builtin; refine apB rfl (.tmp 14) (.tmp 15) rfl w.heap.size _ [] rfl hown0 _ _ n c l rfl HN.out (hr.below hb0) ?c1 ?c2 ?_)
  case c1 => simp; omega
  case c2 => exact hb0.size
  intro v1 w1 hown1 hb1 _ _
  have hb1' := hb0.trans hb1
  clear hown0 hb0 hb1 hmk
  go_wp2
  go_loopw [7, 18] (fun u i wr => ∃ k : Nat, k ≤ s ∧ i = .int .i64 k ∧ Own wr w.heap.size u (l ++ le k v) ∧ Below w.heap.size w wr) (fun _ i _ => s - (intOf i).toNat)
  case atStart => exact ⟨0, by omega, rfl, by simpa [le] using hown1, hb1'⟩
  case round =>
    obtain ⟨k, hk, rfl, hown, hb⟩ := hrel
    have hz := hb.size
    by_cases hlt : k < s
    · have hB := leB_int v k
      go_wp2_with (at_builtin; refine apB rfl (.tmp 21) (.tmp 27) rfl w.heap.size _ _ rfl (hown.alloc _) _ _ 1 1 [leB v k] rfl rfl (Rd.one _ _) ?c1 ?c2 ?_)
      case c1 => simp [le_len]; omega
      case c2 => simp; omega
      intro v' w2 hown2 hb2 _ _
      have hown2' := hown2.cast (m := l ++ le (k + 1) v) (by rw [le_succ])
      have hbb2 := (hb.alloc hz _).trans hb2
      clear hown2 hb2 hown hB
      go_wp2
      go_roundw
      case rel => exact ⟨k + 1, by omega, by go_num, hown2', hbb2⟩
      case measure => simp [intOf] <;> omega
    · obtain rfl : k = s := by omega
      go_wp2
      go_ret
      exact ⟨_, rfl, hown, hb⟩

theorem add16_any (A : Option Addr) (c n v : Nat) (l : List UInt8) (w : World) (hr : Rd w w.heap.size A l) (hn : n = l.length) (hl : l.length ≤ 1000000) (hv : v ≤ 65535) :
    Calls Tryz.prog 77 #[.slice A n c, .int .u16 v] w fun e w' => ∃ u, e = .returned u ∧ Own w' w.heap.size u (l ++ le 2 v) ∧ Below w.heap.size w w' := by
  have HN := Lib.hid hn
  clear hn
  go_enter Tryz.func77, Tryz.ntmps77
  go_wp2_with (go_at_call 141; refine (add_any _ _ _ v 2 l _ hr HN.out (by omega) (by omega) (by omega)).mono ?_; rintro e w1 ⟨u, rfl, hown, hb⟩)
  go_ret
  exact ⟨_, rfl, hown, hb⟩
theorem add32_any (A : Option Addr) (c n v : Nat) (l : List UInt8) (w : World) (hr : Rd w w.heap.size A l) (hn : n = l.length) (hl : l.length ≤ 1000000) (hv : v ≤ 4294967295) :
    Calls Tryz.prog 78 #[.slice A n c, .int .u32 v] w fun e w' => ∃ u, e = .returned u ∧ Own w' w.heap.size u (l ++ le 4 v) ∧ Below w.heap.size w w' := by
  have HN := Lib.hid hn
  clear hn
  go_enter Tryz.func78, Tryz.ntmps78
  go_wp2_with (go_at_call 141; refine (add_any _ _ _ v 4 l _ hr HN.out (by omega) (by omega) (by omega)).mono ?_; rintro e w1 ⟨u, rfl, hown, hb⟩)
  go_ret
  exact ⟨_, rfl, hown, hb⟩
theorem add64_any (A : Option Addr) (c n v : Nat) (l : List UInt8) (w : World) (hr : Rd w w.heap.size A l) (hn : n = l.length) (hl : l.length ≤ 1000000) (hv : v ≤ 18446744073709551615) :
    Calls Tryz.prog 121 #[.slice A n c, .int .u64 v] w fun e w' => ∃ u, e = .returned u ∧ Own w' w.heap.size u (l ++ le 8 v) ∧ Below w.heap.size w w' := by
  have HN := Lib.hid hn
  clear hn
  go_enter Tryz.func121, Tryz.ntmps121
  go_wp2_with (go_at_call 141; refine (add_any _ _ _ v 8 l _ hr HN.out (by omega) (by omega) (by omega)).mono ?_; rintro e w1 ⟨u, rfl, hown, hb⟩)
  go_ret
  exact ⟨_, rfl, hown, hb⟩

/-- what is left of a number behind its lowest i bytes -/
def rest (v i : Nat) : Nat := v / 2 ^ (8 * i)
theorem rest_le (v i : Nat) (h : v ≤ 18446744073709551615) : rest v i ≤ 18446744073709551615 := Nat.le_trans (Nat.div_le_self _ _) h
theorem rest_succ (v i : Nat) : rest v i / 256 = rest v (i + 1) := by
  unfold rest
  rw [Nat.div_div_eq_div_mul, show 8 * (i + 1) = 8 * i + 8 by omega, Nat.pow_add]
theorem rest_byte (v i : Nat) : (rest v i : Int) % 256 = ((leB v i).toNat : Int) := by
  rw [← leB_int]; simp [rest]

theorem refadd_any (A : Option Addr) (c n v s : Nat) (l : List UInt8) (w : World) (hr : Rd w w.heap.size A l) (hn : n = l.length) (hl : l.length ≤ 1000000) (hv : v ≤ 18446744073709551615) (hs : s ≤ 8) :
    Calls Tryz.prog 101 #[.slice A n c, .int .u64 v, .int .i64 s] w fun e w' => ∃ u, e = .returned u ∧ Own w' w.heap.size u (l ++ le s v) ∧ Below w.heap.size w w' := by
  have HN := Lib.hid hn
  have hnl : n ≤ 1000000 := by omega
  clear hn
  go_enter Tryz.func101, Tryz.ntmps101
  go_wp2_with (at_builtin; refine apB rfl (.tmp 9) (.tmp 10) rfl w.heap.size _ [] rfl (.nil _ _) _ _ n c l rfl HN.out hr ?c1 ?c2 ?_)
  case c1 => simp; omega
  case c2 => omega
  intro v1 w1 hown1 hb1 _ _
  go_wp2
  go_loopw [7, 8, 1] (fun u i x wr => ∃ k : Nat, k ≤ s ∧ i = .int .i64 k ∧ x = .int .u64 (rest v k : Nat) ∧ Own wr w.heap.size u (l ++ le k v) ∧ Below w.heap.size w wr) (fun _ i _ _ => s - (intOf i).toNat)
  case atStart => exact ⟨0, by omega, rfl, by simp [rest], by simpa [le] using hown1, hb1⟩
  case round =>
    obtain ⟨k, hk, rfl, rfl, hown, hb⟩ := hrel
    have hz := hb.size
    have hrl := rest_le v k hv
    by_cases hlt : k < s
    · have hB := rest_byte v k
      have hS : (rest v k : Int) / 256 = (rest v (k + 1) : Int) := by have := rest_succ v k; omega
      go_wp2_with (at_builtin; refine apB rfl (.tmp 17) (.tmp 21) rfl w.heap.size _ _ rfl (hown.alloc _) _ _ 1 1 [leB v k] rfl rfl (Rd.one _ _) ?c1 ?c2 ?_)
      case c1 => simp [le_len]; omega
      case c2 => simp; omega
      intro v' w2 hown2 hb2 _ _
      have hown2' := hown2.cast (m := l ++ le (k + 1) v) (by rw [le_succ])
      have hbb2 := (hb.alloc hz _).trans hb2
      clear hown2 hb2 hown hB
      go_wp2
      go_roundw
      case rel => exact ⟨k + 1, by omega, by go_num, rfl, hown2', hbb2⟩
      case measure => simp [intOf] <;> omega
    · obtain rfl : k = s := by omega
      go_wp2
      go_ret
      exact ⟨_, rfl, hown, hb⟩
end Go.Proofs.YtecnddogdiikiaaGreat

namespace Go.Proofs.YtecnddogdiikiaaGreat
open Go Go.RowKit
set_option maxRecDepth 100000
set_option maxHeartbeats 1600000

/-- the number that bytes say -/
def leN : List UInt8 → Nat
  | [] => 0
  | x :: l => x.toNat + 256 * leN l
/-- n bytes from a place on -/
def sub (l : List UInt8) (at_ n : Nat) : List UInt8 := (l.drop at_).take n
theorem sub_len {l : List UInt8} {a n : Nat} (h : a + n ≤ l.length) : (sub l a n).length = n := by simp [sub]; omega
theorem sub_get {l : List UInt8} {a n k : Nat} (h : a + n ≤ l.length) (hk : k < n) : (sub l a n)[k]'(by rw [sub_len h]; exact hk) = l[a + k] := by simp [sub]
theorem leN_lt : ∀ l : List UInt8, leN l < 256 ^ l.length
  | [] => by simp [leN]
  | x :: l => by
    have h := leN_lt l
    have hx := x.toNat_lt
    simp only [leN, List.length_cons, Nat.pow_succ]
    omega
theorem leN_snoc : ∀ (l : List UInt8) (x : UInt8), leN (l ++ [x]) = leN l + x.toNat * 256 ^ l.length
  | [], x => by simp [leN]
  | y :: l, x => by
    have h := leN_snoc l x
    simp only [List.cons_append, leN, h, List.length_cons, Nat.pow_succ]
    rw [Nat.mul_add, ← Nat.add_assoc, Nat.mul_comm 256 (x.toNat * _), Nat.mul_assoc]

theorem pow256 (k : Nat) : 256 ^ k = 2 ^ (8 * k) := by rw [Nat.pow_mul]
theorem or_bits (a x k : Nat) (h : a < 256 ^ k) (hx : x < 256) (hk : k < 8) : bits .or .u64 (a : Int) (IntKind.u64.wrap ((x : Int) * 2 ^ (8 * k))) = ((a + x * 256 ^ k : Nat) : Int) := by
  rw [pow256] at h ⊢
  have hp : 2 ^ (8 * k) * 2 ^ (64 - 8 * k) = 2 ^ 64 := by rw [← Nat.pow_add]; congr 1; omega
  have h8 : 256 ≤ 2 ^ (64 - 8 * k) := Nat.pow_le_pow_right (n := 2) (by omega) (show 8 ≤ 64 - 8 * k by omega)
  have hb : x * 2 ^ (8 * k) + 2 ^ (8 * k) ≤ 2 ^ 64 := by
    rw [← hp, Nat.mul_comm (2 ^ (8 * k)) _, ← Nat.succ_mul]
    exact Nat.mul_le_mul_right _ (by omega)
  have e0 : ((x : Int) * 2 ^ (8 * k)) = ((x * 2 ^ (8 * k) : Nat) : Int) := by simp
  rw [e0]
  generalize hy : x * 2 ^ (8 * k) = y at hb
  have hw : IntKind.u64.wrap (y : Int) = (y : Int) := by rw [IntKind.wrap_u64]; omega
  rw [hw]
  have hor : a ||| y = a + y := by
    have := Nat.two_pow_add_eq_or_of_lt h x
    rw [Nat.mul_comm, hy] at this
    rw [Nat.or_comm, ← this]; omega
  have h1 : (BitVec.ofInt 64 (a : Int)).toNat = a := by rw [BitVec.ofInt_natCast, BitVec.toNat_ofNat]; exact Nat.mod_eq_of_lt (by omega)
  have h2 : (BitVec.ofInt 64 (y : Int)).toNat = y := by rw [BitVec.ofInt_natCast, BitVec.toNat_ofNat]; exact Nat.mod_eq_of_lt (by omega)
  have e : bits .or .u64 (a : Int) (y : Int) = IntKind.u64.wrap (((BitVec.ofInt 64 (a : Int)) ||| (BitVec.ofInt 64 (y : Int))).toNat : Int) := rfl
  rw [e, BitVec.toNat_or, h1, h2, hor, IntKind.wrap_u64]
  omega
theorem sub_succ {l : List UInt8} {p k : Nat} (h : p + k < l.length) : sub l p (k + 1) = sub l p k ++ [l[p + k]] := by
  unfold sub
  rw [List.take_succ_eq_append_getElem (by simp; omega)]
  simp
theorem leN_sub {l : List UInt8} {p k : Nat} (h : p + k < l.length) : leN (sub l p (k + 1)) = leN (sub l p k) + l[p + k].toNat * 256 ^ k := by
  rw [sub_succ h, leN_snoc, sub_len (by omega)]
theorem leN_sub_lt {l : List UInt8} {p k : Nat} (h : p + k ≤ l.length) : leN (sub l p k) < 256 ^ k := by
  have := leN_lt (sub l p k)
  rwa [sub_len h] at this

theorem number_any (A : Option Addr) (c n s : Nat) (p : Nat) (l : List UInt8) (w : World) (hr : Rd w w.heap.size A l) (hn : n = l.length) (hl : l.length ≤ 1000000) (hs : s ≤ 8) (hp : p + s ≤ l.length) :
    Calls Tryz.prog 172 #[.slice A n c, .int .i64 p, .int .i64 s] w fun e w' => e = .returned (.tuple #[.int .u64 (leN (sub l p s) : Nat), .bool true]) ∧ w' = w := by
  have HN := Lib.hid hn
  have hnl : n ≤ 1000000 := by omega
  have hps : p + s ≤ n := by omega
  clear hn hl hp
  go_enter Tryz.func172, Tryz.ntmps172
  go_wp2
  go_loopw [8, 21] (fun v i wr => ∃ k : Nat, k ≤ s ∧ i = .int .i64 k ∧ v = .int .u64 (leN (sub l p k) : Nat) ∧ wr = w) (fun _ i _ => s - (intOf i).toNat)
  case atStart => exact ⟨0, by omega, rfl, by simp [sub, leN], rfl⟩
  case round =>
    obtain ⟨k, hk, rfl, rfl, rfl⟩ := hrel
    by_cases hlt : k < s
    · have hpk : p + k < l.length := by have := HN.out; omega
      obtain ⟨b, o, rfl, hbB, hc⟩ := hr.at_ hpk
      have hB := or_bits _ l[p + k].toNat k (leN_sub_lt (l := l) (p := p) (by omega)) l[p + k].toNat_lt (by omega)
      rw [← leN_sub hpk] at hB
      have hx8 := l[p + k].toNat_lt
      go_wp2
      go_roundw
      case rel => exact ⟨k + 1, by omega, by go_num, rfl, trivial⟩
      case measure => simp [intOf] <;> omega
    · obtain rfl : k = s := by omega
      go_wp2
      go_ret2
      exact ⟨rfl, rfl⟩

theorem u16_any (A : Option Addr) (c n p : Nat) (l : List UInt8) (w : World) (hr : Rd w w.heap.size A l) (hn : n = l.length) (hl : l.length ≤ 1000000) (hp : p + 2 ≤ l.length) :
    Calls Tryz.prog 113 #[.slice A n c, .int .i64 p] w fun e w' => e = .returned (.tuple #[.int .u16 (leN (sub l p 2) : Nat), .bool true]) ∧ w' = w := by
  have HN := Lib.hid hn
  have HP := Lib.hid hp
  have hlt := leN_sub_lt hp
  clear hn hp
  go_enter Tryz.func113, Tryz.ntmps113
  go_wp2_with (go_at_call 172; refine (number_any _ _ _ 2 p l _ hr HN.out hl (by omega) HP.out).mono ?_; rintro e w1 ⟨rfl, rfl⟩)
  go_ret2
  exact ⟨rfl, rfl⟩
theorem u32_any (A : Option Addr) (c n p : Nat) (l : List UInt8) (w : World) (hr : Rd w w.heap.size A l) (hn : n = l.length) (hl : l.length ≤ 1000000) (hp : p + 4 ≤ l.length) :
    Calls Tryz.prog 110 #[.slice A n c, .int .i64 p] w fun e w' => e = .returned (.tuple #[.int .u32 (leN (sub l p 4) : Nat), .bool true]) ∧ w' = w := by
  have HN := Lib.hid hn
  have HP := Lib.hid hp
  have hlt := leN_sub_lt hp
  clear hn hp
  go_enter Tryz.func110, Tryz.ntmps110
  go_wp2_with (go_at_call 172; refine (number_any _ _ _ 4 p l _ hr HN.out hl (by omega) HP.out).mono ?_; rintro e w1 ⟨rfl, rfl⟩)
  go_ret2
  exact ⟨rfl, rfl⟩
theorem u64_any (A : Option Addr) (c n p : Nat) (l : List UInt8) (w : World) (hr : Rd w w.heap.size A l) (hn : n = l.length) (hl : l.length ≤ 1000000) (hp : p + 8 ≤ l.length) :
    Calls Tryz.prog 107 #[.slice A n c, .int .i64 p] w fun e w' => e = .returned (.tuple #[.int .u64 (leN (sub l p 8) : Nat), .bool true]) ∧ w' = w := by
  have HN := Lib.hid hn
  have HP := Lib.hid hp
  have hlt := leN_sub_lt hp
  clear hn hp
  go_enter Tryz.func107, Tryz.ntmps107
  go_wp2_with (go_at_call 172; refine (number_any _ _ _ 8 p l _ hr HN.out hl (by omega) HP.out).mono ?_; rintro e w1 ⟨rfl, rfl⟩)
  go_ret2
  exact ⟨rfl, rfl⟩

theorem sub_drop {l : List UInt8} {p s k : Nat} (h : p + s ≤ l.length) (hk : k < s) : sub l (p + k) (s - k) = l[p + k] :: sub l (p + (k + 1)) (s - (k + 1)) := by
  unfold sub
  rw [List.drop_eq_getElem_cons (by omega), show s - k = (s - (k + 1)) + 1 by omega, List.take_succ_cons, ← Nat.add_assoc]

theorem refnumber_any (A : Option Addr) (c n s : Nat) (p : Nat) (l : List UInt8) (w : World) (hr : Rd w w.heap.size A l) (hn : n = l.length) (hl : l.length ≤ 1000000) (hs : s ≤ 8) (hp : p + s ≤ l.length) :
    Calls Tryz.prog 165 #[.slice A n c, .int .i64 p, .int .i64 s] w fun e w' => e = .returned (.tuple #[.int .u64 (leN (sub l p s) : Nat), .bool true]) ∧ w' = w := by
  have HN := Lib.hid hn
  have hnl : n ≤ 1000000 := by omega
  have hps : p + s ≤ n := by omega
  clear hn hl hp
  go_enter Tryz.func165, Tryz.ntmps165
  go_wp2
  go_loopw [8, 9] (fun v i wr => ∃ k : Nat, k ≤ s ∧ i = .int .i64 ((k : Int) - 1) ∧ v = .int .u64 (leN (sub l (p + k) (s - k)) : Nat) ∧ wr = w) (fun _ i _ => (intOf i + 1).toNat)
  case atStart => exact ⟨s, by omega, rfl, by simp [sub, leN], rfl⟩
  case round =>
    obtain ⟨k, hk, rfl, rfl, rfl⟩ := hrel
    cases k with
    | zero =>
      go_wp2
      go_ret2
      exact ⟨by simp, rfl⟩
    | succ k =>
      have hpk : p + k < l.length := by have := HN.out; omega
      obtain ⟨b, o, rfl, hbB, hc⟩ := hr.at_ hpk
      have hsub := sub_drop (l := l) (p := p) (s := s) (k := k) (by have := HN.out; omega) (by omega)
      have hlt := leN_sub_lt (l := l) (p := p + k) (k := s - k) (by have := HN.out; omega)
      have hx8 := l[p + k].toNat_lt
      have hpw : 256 ^ (s - k) ≤ 256 ^ 8 := Nat.pow_le_pow_right (by omega) (by omega)
      have e : leN (sub l (p + k) (s - k)) = l[p + k].toNat + 256 * leN (sub l (p + (k + 1)) (s - (k + 1))) := by rw [hsub]; rfl
      have hW : IntKind.u64.wrap (IntKind.u64.wrap (256 * ↑(leN (sub l (p + (k + 1)) (s - (k + 1))))) + ↑l[p + k].toNat) = (leN (sub l (p + k) (s - k)) : Nat) := by
        rw [IntKind.wrap_u64, IntKind.wrap_u64]; omega
      clear e hpw hlt hsub
      go_wp2
      go_roundw
      case rel => exact ⟨k, by omega, rfl, rfl, trivial⟩
      case measure => simp [intOf] <;> omega
end Go.Proofs.YtecnddogdiikiaaGreat

namespace Go.Proofs.YtecnddogdiikiaaGreat
open Go Go.RowKit
set_option maxRecDepth 100000
set_option maxHeartbeats 1600000

abbrev iV (x : Int) : Value := .int .i64 x
def OwnI (w : World) (base : Nat) (v : Value) (l : List Int) : Prop := w.ownsRow base 3 1 v l.length (l.map iV)
theorem Tryz.info3 : (Tryz.prog.info? 3).map (fun i => (i.zero, i.size, i.bytes)) = some (some (.int .i64 0), 1, 8) := by kernel_rfl
section
variable {w w' : World} {B B' : Nat} {A : Option Addr} {l : List Int} {v : Value}
theorem RdI.one (w : World) (x : Int) : RdI (w.alloc (.cells #[iV x] 3)) (w.heap.size + 1) (some ⟨w.heap.size, 0, none⟩) [x] := fun _ =>
  ⟨_, 0, rfl, by omega, fun k hk => by
    obtain rfl : k = 0 := by simpa using hk
    rw [World.cell?_alloc_at _ _ _ _ rfl]; rfl⟩
theorem OwnI.nil (w : World) (base : Nat) : OwnI w base (.slice none 0 0) [] := World.ownsRow_nil _ _ _ _
theorem OwnI.form (h : OwnI w B v l) : (v = .slice none 0 0 ∧ l = []) ∨ ∃ g cap, v = .slice (some ⟨g, 0, none⟩) l.length cap ∧ B ≤ g ∧ g < w.heap.size ∧ l.length ≤ cap ∧ cap ≤ maxLen ∧ ∀ k (hk : k < l.length), w.cell? ⟨g, k, none⟩ = some (iV l[k]) := by
  rcases h.2 with ⟨h1, h2⟩ | ⟨g, cap, cur, h1, h2, h3, h4, h5, h6, h7⟩
  · exact .inl ⟨h1, List.eq_nil_of_length_eq_zero h2⟩
  · refine .inr ⟨g, cap, h1, h2, ?_, h4, h5, fun k hk => ?_⟩
    · rcases Nat.lt_or_ge g w.heap.size with hlt | hge
      · exact hlt
      · rw [Array.getElem?_eq_none hge] at h3; cases h3
    · have e : (cur.toList.take (l.length * 1))[k]? = (l.map iV)[k]? := by rw [h7]
      rw [List.getElem?_take, if_pos (by omega), List.getElem?_map, List.getElem?_eq_getElem hk] at e
      simp only [World.cell?, h3]
      simpa using e
theorem OwnI.slice (h : OwnI w B v l) : ∃ A cap, v = .slice A l.length cap ∧ l.length ≤ cap ∧ cap ≤ maxLen ∧ RdI w w.heap.size A l := by
  rcases h.form with ⟨rfl, rfl⟩ | ⟨g, cap, rfl, _, hlt, h4, h5, hc⟩
  · exact ⟨none, 0, rfl, Nat.le_refl _, Nat.zero_le _, .nil _ _ _⟩
  · exact ⟨_, cap, rfl, h4, h5, fun _ => ⟨g, 0, rfl, hlt, fun k hk => by rw [Nat.zero_add]; exact hc k hk⟩⟩
theorem OwnI.sl {n : Nat} (h : OwnI w B v l) (hn : l.length = n) : ∃ A cap, v = .slice A n cap ∧ n ≤ cap ∧ cap ≤ maxLen ∧ RdI w w.heap.size A l := by subst hn; exact h.slice
theorem OwnI.cast {m : List Int} (h : OwnI w B v l) (e : l = m) : OwnI w B v m := by subst e; exact h
theorem OwnI.blk (h : OwnI w B v l) : ∀ k, v.ownBlock = some k → B ≤ k := by
  intro k hk
  rcases h.form with ⟨rfl, rfl⟩ | ⟨g, cap, rfl, h2, _⟩
  · simp [Value.ownBlock] at hk
  · simp [Value.ownBlock] at hk; omega
theorem OwnI.down (h : OwnI w B v l) (hB : B' ≤ B) : OwnI w B' v l := by
  refine ⟨h.1, ?_⟩
  rcases h.2 with e | ⟨g, cap, cur, h1, h2, h3⟩
  · exact .inl e
  · exact .inr ⟨g, cap, cur, h1, by omega, h3⟩
theorem OwnI.blocks (h : OwnI w B v l) (hb : ∀ k, v.ownBlock = some k → w'.heap[k]? = w.heap[k]?) : OwnI w' B v l := by
  refine ⟨h.1, ?_⟩
  rcases h.2 with e | ⟨g, cap, cur, h1, h2, h3, h4⟩
  · exact .inl e
  · exact .inr ⟨g, cap, cur, h1, h2, (hb g (by rw [h1]; rfl)).trans h3, h4⟩
theorem OwnI.lt (h : OwnI w B v l) : ∀ k, v.ownBlock = some k → k < w.heap.size := by
  intro k hk
  rcases h.form with ⟨rfl, rfl⟩ | ⟨g, cap, rfl, h2, h3, _⟩
  · simp [Value.ownBlock] at hk
  · simp [Value.ownBlock] at hk; omega
theorem OwnI.alloc (h : OwnI w B v l) (o : Obj) : OwnI (w.alloc o) B v l := h.blocks fun k hk => Below.heap_alloc w o k (h.lt k hk)
theorem OwnI.belowS (h : OwnI w B v l) (hb : Below w.heap.size w w') : OwnI w' B v l := h.blocks fun k hk => hb.block k (h.lt k hk)
theorem OwnI.setCell (h : OwnI w B v l) {p : Addr} (hp : v.ownBlock ≠ some p.block) (u : Value) : OwnI (w.setCell p u) B v l :=
  h.blocks fun k hk => Below.heap_setCell w p u k (fun e => hp (by rw [hk, e]))
end

/-- append onto a row of the call's own, from whatever source -/
theorem apI {w : World} {ops : Array Oper} {rest : List Oper} {o : Oper} {a : Act} {Q : Exit → Act → World → Prop} (hgd : o.guard = none) (s x : Operand)
    (ho : o.op = .call { callee := .builtin .append, args := #[s, x], argTypes := #[26, 26] })
    (base : Nat) (v : Value) (l : List Int) (hs : a.eval s = v) (hown : OwnI w base v l) (B : Nat) (A : Option Addr) (m c : Nat) (news : List Int) (hx : a.eval x = .slice A m c) (hm : m = news.length) (hr : RdI w B A news)
    (hlen : l.length + news.length ≤ 1099511627776) (hbase : base ≤ w.heap.size)
    (h : ∀ v' w', OwnI w' base v' (l ++ news) → Below base w w' → (v'.ownBlock = v.ownBlock ∨ v'.ownBlock = some w.heap.size) → w.grownBy w' v.ownBlock → wpList Tryz.prog ops Q rest (a.put o.dst v') w') : wpList Tryz.prog ops Q (o :: rest) a w := by
  obtain ⟨i0, hi, hz0, hz1, hz2⟩ := info_parts Tryz.info3
  subst hm
  have hb := hown.blk
  rcases Nat.eq_zero_or_pos news.length with h0 | h0
  · have hn : news = [] := List.eq_nil_of_length_eq_zero h0
    subst hn
    have hx' : a.eval x = .slice A 0 c := hx
    refine wpList_plain hgd fun _ hK => ?_
    cases A with
    | none =>
      have hrun : (Builtin.append_ #[26, 26] o.type #[v, .slice none 0 c]).run Tryz.prog w = .ok v w := by
        rcases hown.2 with ⟨rfl, _⟩ | ⟨g, cap, cur, rfl, _, _, hnc, _⟩
        · simp [Builtin.append_, run_underlying Tryz.underlying26, sizeOf, typeInfo, hi, Builtin.lenOf, Builtin.firstCells]
        · simp [Builtin.append_, run_underlying Tryz.underlying26, sizeOf, typeInfo, hi, Builtin.lenOf, Builtin.firstCells, hnc, storeCells]
      unfold Oper.wp execOp
      simp only [ho, resolve, invoke, builtin, Sem.run_bind, Sem.run_pure, Result.andThen_ok, List.map_toArray, List.map_cons, List.map_nil, hs, hx', hrun]
      exact hK _ _ (h v w (by simpa using hown) (Below.refl _ _) (.inl rfl) (World.grownBy.refl w _))
    | some ad =>
      obtain ⟨v', w', hrun, h2, h3, _, h5⟩ := run_append_own_at (P := Tryz.prog) w base 26 o.type 3 i0 (.int .i64 0) 1 8 Tryz.underlying26 hi hz0 hz1 hz2 rfl (by decide) v l.length (l.map iV) hown ad 0 c []
        (by simp) (by intro j u hu; simp at hu) (by simp) (by unfold maxLen; omega) (by omega) hbase
      unfold Oper.wp execOp
      simp only [ho, resolve, invoke, builtin, Sem.run_bind, Sem.run_pure, Result.andThen_ok, List.map_toArray, List.map_cons, List.map_nil, hs, hx', hrun]
      exact hK _ _ (h v' w' (by simpa [OwnI] using h2) ⟨h3.os, h3.tape, h3.output, h3.size, fun k hk => h3.block k (by omega) (fun e => by have := hb k e.symm; omega)⟩ h5 h3)
  · obtain ⟨b, off, rfl, hbB, hc⟩ := hr (by rintro rfl; simp at h0)
    refine wpList_plain hgd fun _ hK => ?_
    have hcells : ∀ j u, (news.map iV)[j]? = some u → w.cell? ((⟨b, off, none⟩ : Addr).add j) = some u := by
      intro j u hu
      rw [List.getElem?_map] at hu
      rcases Nat.lt_or_ge j news.length with hj | hj
      · rw [List.getElem?_eq_getElem hj] at hu
        simp only [Option.map_some, Option.some.injEq] at hu
        subst hu
        have : (⟨b, off, none⟩ : Addr).add j = ⟨b, off + j, none⟩ := by unfold Addr.add; split <;> simp_all
        rw [this]; exact hc j hj
      · rw [List.getElem?_eq_none hj] at hu; cases hu
    obtain ⟨v', w', hrun, h2, h3, _, h5⟩ := run_append_own_at (P := Tryz.prog) w base 26 o.type 3 i0 (.int .i64 0) 1 8 Tryz.underlying26 hi hz0 hz1 hz2 rfl (by decide) v l.length (l.map iV) hown ⟨b, off, none⟩ news.length c (news.map iV)
      (by simp) hcells (by intro u hu; simp at hu; obtain ⟨_, _, rfl⟩ := hu; rfl) (by unfold maxLen; omega) (by omega) hbase
    unfold Oper.wp execOp
    simp only [ho, resolve, invoke, builtin, Sem.run_bind, Sem.run_pure, Result.andThen_ok, List.map_toArray, List.map_cons, List.map_nil, hs, hx, hrun]
    exact hK _ _ (h v' w' (by unfold OwnI; rw [List.length_append, List.map_append]; exact h2) ⟨h3.os, h3.tape, h3.output, h3.size, fun k hk => h3.block k (by omega) (fun e => by have := hb k e.symm; omega)⟩ h5 h3)


/-- a number as the code's int has it -/
def sI (v : Nat) : Int := IntKind.i64.wrap (v : Int)
/-- numbers of eight bytes from a place on -/
def dec (l : List UInt8) (p k : Nat) : List Int := (List.range k).map fun i => sI (leN (sub l (p + 8 * i) 8))
theorem dec_len (l : List UInt8) (p k : Nat) : (dec l p k).length = k := by simp [dec]
theorem dec_succ (l : List UInt8) (p k : Nat) : dec l p (k + 1) = dec l p k ++ [sI (leN (sub l (p + 8 * k) 8))] := by simp [dec, List.range_succ]

theorem refnum2 (A : Option Addr) (c n : Nat) (p : Nat) (l : List UInt8) (w : World) (hr : Rd w w.heap.size A l) (hn : n = l.length) (hl : l.length ≤ 1000000) (hp : p + 2 ≤ l.length) :
    Calls Tryz.prog 165 #[.slice A n c, .int .i64 p, .int .i64 2] w fun e w' => e = .returned (.tuple #[.int .u64 (leN (sub l p 2) : Nat), .bool true]) ∧ w' = w := refnumber_any A c n 2 p l w hr hn hl (by omega) hp
theorem refnum4 (A : Option Addr) (c n : Nat) (p : Nat) (l : List UInt8) (w : World) (hr : Rd w w.heap.size A l) (hn : n = l.length) (hl : l.length ≤ 1000000) (hp : p + 4 ≤ l.length) :
    Calls Tryz.prog 165 #[.slice A n c, .int .i64 p, .int .i64 4] w fun e w' => e = .returned (.tuple #[.int .u64 (leN (sub l p 4) : Nat), .bool true]) ∧ w' = w := refnumber_any A c n 4 p l w hr hn hl (by omega) hp
theorem refnum8 (A : Option Addr) (c n : Nat) (p : Nat) (l : List UInt8) (w : World) (hr : Rd w w.heap.size A l) (hn : n = l.length) (hl : l.length ≤ 1000000) (hp : p + 8 ≤ l.length) :
    Calls Tryz.prog 165 #[.slice A n c, .int .i64 p, .int .i64 8] w fun e w' => e = .returned (.tuple #[.int .u64 (leN (sub l p 8) : Nat), .bool true]) ∧ w' = w := refnumber_any A c n 8 p l w hr hn hl (by omega) hp

theorem some_any (A : Option Addr) (c n p most : Nat) (l : List UInt8) (w : World) (hr : Rd w w.heap.size A l) (hn : n = l.length) (hl : l.length ≤ 1000000) (hp : p + 2 + 8 * (most + 1) ≤ l.length) :
    Calls Tryz.prog 166 #[.slice A n c, .int .i64 p, .int .i64 most] w fun e w' => (∃ v, e = .returned (.tuple #[v, .int .i64 ((p + 2 + 8 * min (leN (sub l p 2)) (most + 1) : Nat) : Int)]) ∧ OwnI w' w.heap.size v (dec l (p + 2) (min (leN (sub l p 2)) (most + 1)))) ∧ Below w.heap.size w w' := by
  obtain ⟨N, hN⟩ : ∃ N, N = leN (sub l p 2) := ⟨_, rfl⟩
  obtain ⟨K, hK⟩ : ∃ K, K = min N (most + 1) := ⟨_, rfl⟩
  have hN2 : N < 65536 := by rw [hN]; exact leN_sub_lt (l := l) (p := p) (k := 2) (by omega)
  have HN := Lib.hid hn
  have HP := Lib.hid hp
  have hpl : p + 2 ≤ l.length := by omega
  have hmo : most ≤ 1000000 := by omega
  have hpm : p ≤ 1000000 := by omega
  rw [← hN, ← hK]
  have HK := Lib.hid hK
  have HNN := Lib.hid hN
  clear hn hp hK hN
  go_enter Tryz.func166, Tryz.ntmps166
  go_wp2_with (go_at_call 165; with_reducible refine (refnum2 A c n p l _ hr HN.out hl hpl).mono ?_; rintro e w1 ⟨rfl, rfl⟩; rw [← HNN.out])
  go_loopw [1, 10, 11] (fun a v i wr => ∃ j q : Nat, j ≤ K ∧ q = p + 2 + 8 * j ∧ a = .int .i64 (q : Int) ∧ i = .int .i64 j ∧ OwnI wr w1.heap.size v (dec l (p + 2) j) ∧ Below w1.heap.size w1 wr) (fun _ _ i _ => K - (intOf i).toNat)
  case atStart => exact ⟨0, p + 2, by omega, rfl, rfl, rfl, .nil _ _, Below.refl _ _⟩
  case round =>
    obtain ⟨j, q, hj, hq, rfl, rfl, hown, hb⟩ := hrel
    have hz := hb.size
    have hjm : j ≤ most + 1 := by have := HK.out; omega
    have hql : q ≤ 20000000 := by omega
    by_cases hlt : j < K
    · have h1 : j < N := by have := HK.out; omega
      have h2 : j ≤ most := by have := HK.out; omega
      have hq8 : q + 8 ≤ l.length := by have := HP.out; omega
      have HQ := Lib.hid hq8
      obtain ⟨V, hV⟩ : ∃ V, V = leN (sub l q 8) := ⟨_, rfl⟩
      have hV2 : V ≤ 18446744073709551615 := by have := leN_sub_lt hq8; rw [hV]; omega
      have HV := Lib.hid hV
      have HE := Lib.hid hq
      have hrd := (hr.below hb).more hz
      have hsi : IntKind.i64.wrap (V : Int) = sI V := rfl
      clear hV hq8 hq
      go_wp2_with (first
        | (go_at_call 165; with_reducible refine (refnum8 A c n q l _ hrd HN.out hl HQ.out).mono ?_; rintro e w2 ⟨rfl, rfl⟩; rw [← HV.out])
        | (at_builtin; refine apI rfl (.tmp 39) (.tmp 42) rfl w1.heap.size _ _ rfl (hown.alloc _) _ _ 1 1 [sI V] rfl rfl (RdI.one _ _) ?c1 ?c2 ?_))
      case c1 => simp [dec_len]; omega
      case c2 => simp; omega
      intro v' w3 hown3 hb3 _ _
      have hown3' := hown3.cast (m := dec l (p + 2) (j + 1)) (by rw [dec_succ, ← HE.out, ← HV.out])
      have hbb3 := (hb.alloc hz _).trans hb3
      clear hown3 hb3 hown hrd
      go_wp2
      go_roundw
      case rel => exact ⟨j + 1, q + 8, by omega, by have := HE.out; omega, by go_num, by go_num, hown3', hbb3⟩
      case measure => simp [intOf] <;> omega
    · obtain rfl : j = K := by omega
      have HE := Lib.hid hq
      clear hq
      by_cases h1 : j < N
      · have h2 : ¬ j ≤ most := by have := HK.out; omega
        go_wp2
        go_ret2
        exact ⟨⟨_, by rw [← HE.out]; rfl, hown⟩, hb⟩
      · go_wp2
        go_ret2
        exact ⟨⟨_, by rw [← HE.out]; rfl, hown⟩, hb⟩

end Go.Proofs.YtecnddogdiikiaaGreat

