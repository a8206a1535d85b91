/-
  octets.number, U16, U32, U64 and chanceryref01.Number: what each call does: the number that some bytes say, the lowest first.
-/
import Derived.Test.YtdmnkhcddbjglaaGreatHOct
namespace Go.Proofs.YtdmnkhcddbjglaaGreat
open Go Go.RowKit
set_option maxRecDepth 100000
set_option maxHeartbeats 1600000

/-- the number that bytes say -/
def leN : List UInt8 → Nat
  | [] => 0
  | x :: l => x.toNat + 256 * leN l
/-- n bytes from a place on -/
def sub (l : List UInt8) (at_ n : Nat) : List UInt8 := (l.drop at_).take n
theorem sub_len {l : List UInt8} {a n : Nat} (h : a + n ≤ l.length) : (sub l a n).length = n := by simp [sub]; omega
theorem sub_get {l : List UInt8} {a n k : Nat} (h : a + n ≤ l.length) (hk : k < n) : (sub l a n)[k]'(by rw [sub_len h]; exact hk) = l[a + k] := by simp [sub]
theorem leN_lt : ∀ l : List UInt8, leN l < 256 ^ l.length
  | [] => by simp [leN]
  | x :: l => by
    have h := leN_lt l
    have hx := x.toNat_lt
    simp only [leN, List.length_cons, Nat.pow_succ]
    omega
theorem leN_snoc : ∀ (l : List UInt8) (x : UInt8), leN (l ++ [x]) = leN l + x.toNat * 256 ^ l.length
  | [], x => by simp [leN]
  | y :: l, x => by
    have h := leN_snoc l x
    simp only [List.cons_append, leN, h, List.length_cons, Nat.pow_succ]
    rw [Nat.mul_add, ← Nat.add_assoc, Nat.mul_comm 256 (x.toNat * _), Nat.mul_assoc]

theorem pow256 (k : Nat) : 256 ^ k = 2 ^ (8 * k) := by rw [Nat.pow_mul]
theorem or_bits (a x k : Nat) (h : a < 256 ^ k) (hx : x < 256) (hk : k < 8) : bits .or .u64 (a : Int) (IntKind.u64.wrap ((x : Int) * 2 ^ (8 * k))) = ((a + x * 256 ^ k : Nat) : Int) := by
  rw [pow256] at h ⊢
  have hp : 2 ^ (8 * k) * 2 ^ (64 - 8 * k) = 2 ^ 64 := by rw [← Nat.pow_add]; congr 1; omega
  have h8 : 256 ≤ 2 ^ (64 - 8 * k) := Nat.pow_le_pow_right (n := 2) (by omega) (show 8 ≤ 64 - 8 * k by omega)
  have hb : x * 2 ^ (8 * k) + 2 ^ (8 * k) ≤ 2 ^ 64 := by
    rw [← hp, Nat.mul_comm (2 ^ (8 * k)) _, ← Nat.succ_mul]
    exact Nat.mul_le_mul_right _ (by omega)
  have e0 : ((x : Int) * 2 ^ (8 * k)) = ((x * 2 ^ (8 * k) : Nat) : Int) := by simp
  rw [e0]
  generalize hy : x * 2 ^ (8 * k) = y at hb
  have hw : IntKind.u64.wrap (y : Int) = (y : Int) := by rw [IntKind.wrap_u64]; omega
  rw [hw]
  have hor : a ||| y = a + y := by
    have := Nat.two_pow_add_eq_or_of_lt h x
    rw [Nat.mul_comm, hy] at this
    rw [Nat.or_comm, ← this]; omega
  have h1 : (BitVec.ofInt 64 (a : Int)).toNat = a := by rw [BitVec.ofInt_natCast, BitVec.toNat_ofNat]; exact Nat.mod_eq_of_lt (by omega)
  have h2 : (BitVec.ofInt 64 (y : Int)).toNat = y := by rw [BitVec.ofInt_natCast, BitVec.toNat_ofNat]; exact Nat.mod_eq_of_lt (by omega)
  have e : bits .or .u64 (a : Int) (y : Int) = IntKind.u64.wrap (((BitVec.ofInt 64 (a : Int)) ||| (BitVec.ofInt 64 (y : Int))).toNat : Int) := rfl
  rw [e, BitVec.toNat_or, h1, h2, hor, IntKind.wrap_u64]
  omega
theorem sub_succ {l : List UInt8} {p k : Nat} (h : p + k < l.length) : sub l p (k + 1) = sub l p k ++ [l[p + k]] := by
  unfold sub
  rw [List.take_succ_eq_append_getElem (by simp; omega)]
  simp
theorem leN_sub {l : List UInt8} {p k : Nat} (h : p + k < l.length) : leN (sub l p (k + 1)) = leN (sub l p k) + l[p + k].toNat * 256 ^ k := by
  rw [sub_succ h, leN_snoc, sub_len (by omega)]
theorem leN_sub_lt {l : List UInt8} {p k : Nat} (h : p + k ≤ l.length) : leN (sub l p k) < 256 ^ k := by
  have := leN_lt (sub l p k)
  rwa [sub_len h] at this

theorem number_any (A : Option Addr) (c n s : Nat) (p : Nat) (l : List UInt8) (w : World) (hr : Rd w w.heap.size A l) (hn : n = l.length) (hl : l.length ≤ 1000000) (hs : s ≤ 8) (hp : p + s ≤ l.length) :
    Calls Tryz.prog 121 #[.slice A n c, .int .i64 p, .int .i64 s] w fun e w' => e = .returned (.tuple #[.int .u64 (leN (sub l p s) : Nat), .bool true]) ∧ w' = w := by
  have HN := Lib.hid hn
  have hnl : n ≤ 1000000 := by omega
  have hps : p + s ≤ n := by omega
  clear hn hl hp
  go_enter Tryz.func121, Tryz.ntmps121
  go_wp2
  go_loopw [8, 21] (fun v i wr => ∃ k : Nat, k ≤ s ∧ i = .int .i64 k ∧ v = .int .u64 (leN (sub l p k) : Nat) ∧ wr = w) (fun _ i _ => s - (intOf i).toNat)
  case atStart => exact ⟨0, by omega, rfl, by simp [sub, leN], rfl⟩
  case round =>
    obtain ⟨k, hk, rfl, rfl, rfl⟩ := hrel
    by_cases hlt : k < s
    · have hpk : p + k < l.length := by have := HN.out; omega
      obtain ⟨b, o, rfl, hbB, hc⟩ := hr.at_ hpk
      have hB := or_bits _ l[p + k].toNat k (leN_sub_lt (l := l) (p := p) (by omega)) l[p + k].toNat_lt (by omega)
      rw [← leN_sub hpk] at hB
      have hx8 := l[p + k].toNat_lt
      go_wp2
      go_roundw
      case rel => exact ⟨k + 1, by omega, by go_num, rfl, trivial⟩
      case measure => simp [intOf] <;> omega
    · obtain rfl : k = s := by omega
      go_wp2
      go_ret2
      exact ⟨rfl, rfl⟩

theorem u16_any (A : Option Addr) (c n p : Nat) (l : List UInt8) (w : World) (hr : Rd w w.heap.size A l) (hn : n = l.length) (hl : l.length ≤ 1000000) (hp : p + 2 ≤ l.length) :
    Calls Tryz.prog 54 #[.slice A n c, .int .i64 p] w fun e w' => e = .returned (.tuple #[.int .u16 (leN (sub l p 2) : Nat), .bool true]) ∧ w' = w := by
  have HN := Lib.hid hn
  have HP := Lib.hid hp
  have hlt := leN_sub_lt hp
  clear hn hp
  go_enter Tryz.func54, Tryz.ntmps54
  go_wp2_with (go_at_call 121; refine (number_any _ _ _ 2 p l _ hr HN.out hl (by omega) HP.out).mono ?_; rintro e w1 ⟨rfl, rfl⟩)
  go_ret2
  exact ⟨rfl, rfl⟩
theorem u32_any (A : Option Addr) (c n p : Nat) (l : List UInt8) (w : World) (hr : Rd w w.heap.size A l) (hn : n = l.length) (hl : l.length ≤ 1000000) (hp : p + 4 ≤ l.length) :
    Calls Tryz.prog 50 #[.slice A n c, .int .i64 p] w fun e w' => e = .returned (.tuple #[.int .u32 (leN (sub l p 4) : Nat), .bool true]) ∧ w' = w := by
  have HN := Lib.hid hn
  have HP := Lib.hid hp
  have hlt := leN_sub_lt hp
  clear hn hp
  go_enter Tryz.func50, Tryz.ntmps50
  go_wp2_with (go_at_call 121; refine (number_any _ _ _ 4 p l _ hr HN.out hl (by omega) HP.out).mono ?_; rintro e w1 ⟨rfl, rfl⟩)
  go_ret2
  exact ⟨rfl, rfl⟩
theorem u64_any (A : Option Addr) (c n p : Nat) (l : List UInt8) (w : World) (hr : Rd w w.heap.size A l) (hn : n = l.length) (hl : l.length ≤ 1000000) (hp : p + 8 ≤ l.length) :
    Calls Tryz.prog 52 #[.slice A n c, .int .i64 p] w fun e w' => e = .returned (.tuple #[.int .u64 (leN (sub l p 8) : Nat), .bool true]) ∧ w' = w := by
  have HN := Lib.hid hn
  have HP := Lib.hid hp
  have hlt := leN_sub_lt hp
  clear hn hp
  go_enter Tryz.func52, Tryz.ntmps52
  go_wp2_with (go_at_call 121; refine (number_any _ _ _ 8 p l _ hr HN.out hl (by omega) HP.out).mono ?_; rintro e w1 ⟨rfl, rfl⟩)
  go_ret2
  exact ⟨rfl, rfl⟩

theorem sub_drop {l : List UInt8} {p s k : Nat} (h : p + s ≤ l.length) (hk : k < s) : sub l (p + k) (s - k) = l[p + k] :: sub l (p + (k + 1)) (s - (k + 1)) := by
  unfold sub
  rw [List.drop_eq_getElem_cons (by omega), show s - k = (s - (k + 1)) + 1 by omega, List.take_succ_cons, ← Nat.add_assoc]

theorem refnumber_any (A : Option Addr) (c n s : Nat) (p : Nat) (l : List UInt8) (w : World) (hr : Rd w w.heap.size A l) (hn : n = l.length) (hl : l.length ≤ 1000000) (hs : s ≤ 8) (hp : p + s ≤ l.length) :
    Calls Tryz.prog 56 #[.slice A n c, .int .i64 p, .int .i64 s] w fun e w' => e = .returned (.tuple #[.int .u64 (leN (sub l p s) : Nat), .bool true]) ∧ w' = w := by
  have HN := Lib.hid hn
  have hnl : n ≤ 1000000 := by omega
  have hps : p + s ≤ n := by omega
  clear hn hl hp
  go_enter Tryz.func56, Tryz.ntmps56
  go_wp2
  go_loopw [8, 9] (fun v i wr => ∃ k : Nat, k ≤ s ∧ i = .int .i64 ((k : Int) - 1) ∧ v = .int .u64 (leN (sub l (p + k) (s - k)) : Nat) ∧ wr = w) (fun _ i _ => (intOf i + 1).toNat)
  case atStart => exact ⟨s, by omega, rfl, by simp [sub, leN], rfl⟩
  case round =>
    obtain ⟨k, hk, rfl, rfl, rfl⟩ := hrel
    cases k with
    | zero =>
      go_wp2
      go_ret2
      exact ⟨by simp, rfl⟩
    | succ k =>
      have hpk : p + k < l.length := by have := HN.out; omega
      obtain ⟨b, o, rfl, hbB, hc⟩ := hr.at_ hpk
      have hsub := sub_drop (l := l) (p := p) (s := s) (k := k) (by have := HN.out; omega) (by omega)
      have hlt := leN_sub_lt (l := l) (p := p + k) (k := s - k) (by have := HN.out; omega)
      have hx8 := l[p + k].toNat_lt
      have hpw : 256 ^ (s - k) ≤ 256 ^ 8 := Nat.pow_le_pow_right (by omega) (by omega)
      have e : leN (sub l (p + k) (s - k)) = l[p + k].toNat + 256 * leN (sub l (p + (k + 1)) (s - (k + 1))) := by rw [hsub]; rfl
      have hW : IntKind.u64.wrap (IntKind.u64.wrap (256 * ↑(leN (sub l (p + (k + 1)) (s - (k + 1))))) + ↑l[p + k].toNat) = (leN (sub l (p + k) (s - k)) : Nat) := by
        rw [IntKind.wrap_u64, IntKind.wrap_u64]; omega
      clear e hpw hlt hsub
      go_wp2
      go_roundw
      case rel => exact ⟨k, by omega, rfl, rfl, trivial⟩
      case measure => simp [intOf] <;> omega
end Go.Proofs.YtdmnkhcddbjglaaGreat
