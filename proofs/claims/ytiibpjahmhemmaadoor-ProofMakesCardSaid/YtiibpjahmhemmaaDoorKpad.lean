/-
  chanceryref28.padded, xored and Message, proof.Message: what each call does.
-/
import Derived.Test.YtiibpjahmhemmaaDoorKkept
namespace Go.Proofs.YtiibpjahmhemmaaDoor
open Go Go.RowKit

/-- how many zeros follow -/
def padZ (n : Nat) : Nat := (119 - n % 64) % 64
theorem padZ_lt (n : Nat) : padZ n < 64 := by unfold padZ; omega
theorem padZ_fits (n : Nat) : (n + 1 + padZ n) % 64 = 56 := by unfold padZ; omega
/-- the eight bytes of a number, the greatest first -/
def be8 (x i : Nat) : UInt8 := UInt8.ofNat (x / 2 ^ (56 - 8 * i))
def be64 (x : Nat) : List UInt8 := (List.range 8).map (be8 x)
theorem be64_take (x j : Nat) (h : j < 8) : (be64 x).take (j + 1) = (be64 x).take j ++ [be8 x j] := by
  rw [take_snoc8 _ _ (by simpa [be64] using h)]; simp [be64]
theorem be64_all (x : Nat) : (be64 x).take 8 = be64 x := List.take_of_length_le (by simp [be64])
def padL (l : List UInt8) : List UInt8 := l ++ [128] ++ List.replicate (padZ l.length) 0 ++ be64 (8 * l.length)

/-- what is left of the bits' number behind j bytes -/
def lenN (l : List UInt8) (j : Nat) : Int := ((8 * l.length * 256 ^ j % 18446744073709551616 : Nat) : Int)
theorem lenN_zero (l : List UInt8) (h : l.length ≤ 1000000) : lenN l 0 = (l.length : Int) * 8 := by unfold lenN; omega
theorem lenN_lt (l : List UInt8) (j : Nat) : lenN l j ≤ 18446744073709551615 := by unfold lenN; omega
theorem lenN_nonneg (l : List UInt8) (j : Nat) : 0 ≤ lenN l j := by unfold lenN; omega
theorem lenN_byte (l : List UInt8) (j : Nat) (hj : j < 8) (h : l.length ≤ 1000000) : lenN l j / 72057594037927936 % 256 = ((be8 (8 * l.length) j).toNat : Int) := by
  unfold lenN be8
  rw [UInt8.toNat_ofNat']
  generalize hx : 8 * l.length = x
  have hxl : x ≤ 8000000 := by omega
  clear hx
  have : j = 0 ∨ j = 1 ∨ j = 2 ∨ j = 3 ∨ j = 4 ∨ j = 5 ∨ j = 6 ∨ j = 7 := by omega
  rcases this with rfl | rfl | rfl | rfl | rfl | rfl | rfl | rfl <;> simp only [Nat.reducePow, Nat.reduceMul, Nat.reduceSub]
  all_goals omega
theorem lenN_succ (l : List UInt8) (j : Nat) : lenN l j * 256 % 18446744073709551616 = lenN l (j + 1) := by
  unfold lenN
  rw [Nat.pow_succ, ← Nat.mul_assoc]
  generalize 8 * l.length * 256 ^ j = x
  omega

def lenV : Value → Nat
  | .slice _ n _ => n
  | _ => 0

set_option maxHeartbeats 1600000 in
theorem padded_any (A : Option Addr) (c : Nat) (l : List UInt8) (w : World) (hr : Rd w w.heap.size A l) (hl : l.length ≤ 1000000) :
    Calls Tryd.prog 25 #[.slice A l.length c] w fun e w' => ∃ v, e = .returned v ∧ Own w' w.heap.size v (padL l) ∧ Below w.heap.size w w' := by
  go_enter Tryd.func25, Tryd.ntmps25
  go_wp2_with (at_builtin; refine apB rfl (.tmp 6) (.tmp 7) rfl w.heap.size _ _ rfl (Own.nil _ _) _ _ _ c l rfl rfl hr ?c1 ?c2 ?_)
  case c1 => simp; omega
  case c2 => omega
  intro v1 w1 hown1 hb1 _ _
  have hz1 := hb1.size
  have hown1' : Own w1 w.heap.size v1 l := by simpa using hown1
  clear hown1
  go_wp2_with (at_builtin; refine apB rfl (.tmp 9) (.tmp 10) rfl w.heap.size _ _ rfl (hown1'.alloc _) _ _ 1 1 [128] rfl rfl (Rd.one _ _) ?c1 ?c2 ?_)
  case c1 => simp; omega
  case c2 => simp; omega
  intro v2 w2 hown2 hb2 _ _
  have hbb : Below w.heap.size w w2 := (hb1.alloc hz1 _).trans hb2
  clear hown1' hb1 hb2 hz1
  obtain ⟨A2, c2, rfl, hc2, hm2, _⟩ := hown2.sl (n := l.length + 1) (by simp)
  have hown2' := hown2.cast (m := l ++ [128] ++ List.replicate 0 0) (by simp)
  clear hown2 hc2 hm2
  go_wp2
  go_loopw [3] (fun v wr => ∃ k A' c', k ≤ padZ l.length ∧ v = .slice A' (l.length + 1 + k) c' ∧ Own wr w.heap.size v (l ++ [128] ++ List.replicate k 0) ∧ Below w.heap.size w wr) (fun v _ => l.length + 64 - lenV v)
  case atStart => exact ⟨0, A2, c2, Nat.zero_le _, rfl, hown2', hbb⟩
  case round =>
    obtain ⟨k, A', c', hk, rfl, hown, hb⟩ := hrel
    have hz := hb.size
    have hzl := padZ_lt l.length
    have hkk : k < 64 := by omega
    by_cases hd : (l.length + 1 + k) % 64 = 56
    · have hd' : (((l.length : Int) + 1 + k) % 64 != 56) = false := by simp; omega
      have HD := Lib.hid hd
      clear hd
      obtain rfl : k = padZ l.length := by
        have h1 := HD.out
        have h2 := padZ_fits l.length
        omega
      clear HD hkk hk
      go_wp2
      go_loopw [3, 4, 5] (fun v n i wr => ∃ (j : Nat) (A' : Option Addr) (c' : Nat), j ≤ 8 ∧ i = .int .i64 j ∧ n = .int .u64 (lenN l j) ∧ v = .slice A' (l.length + 1 + padZ l.length + j) c' ∧ Own wr w.heap.size v (l ++ [128] ++ List.replicate (padZ l.length) 0 ++ (be64 (8 * l.length)).take j) ∧ Below w.heap.size w wr) (fun _ _ i _ => 8 - (intOf i).toNat)
      case atStart => exact ⟨0, A', c', by omega, rfl, by rw [lenN_zero l hl], rfl, hown.cast (by simp), hb⟩
      case round =>
        obtain ⟨j, A5, c5, hj, rfl, rfl, rfl, hown5, hb5⟩ := hrel
        have hz5 := hb5.size
        have hN := lenN_lt l j
        have hN0 := lenN_nonneg l j
        by_cases hlt : j < 8
        · have hB := lenN_byte l j hlt hl
          have hB' : lenN l j / 72057594037927936 = ((be8 (8 * l.length) j).toNat : Int) := by omega
          clear hB
          have hS := lenN_succ l j
          have hS2 : IntKind.u64.wrap (lenN l j * 256) = lenN l (j + 1) := by rw [IntKind.wrap_u64]; exact hS
          go_wp2_with (at_builtin; refine apB rfl (.tmp 27) (.tmp 31) rfl w.heap.size _ _ rfl (hown5.alloc _) _ _ 1 1 [be8 (8 * l.length) j] rfl rfl (Rd.one _ _) ?c1 ?c2 ?_)
          case c1 => simp [be64]; omega
          case c2 => simp; omega
          intro v' w6 hown6 hb6 _ _
          have hown6' := hown6.cast (m := l ++ [128] ++ List.replicate (padZ l.length) 0 ++ (be64 (8 * l.length)).take (j + 1)) (by rw [be64_take _ _ hlt]; simp)
          obtain ⟨A6, c6, rfl, hx6, hy6, _⟩ := hown6'.sl (n := l.length + 1 + padZ l.length + (j + 1)) (by simp [be64]; omega)
          have hbb6 := (hb5.alloc hz5 _).trans hb6
          clear hown6 hb6 hown5 hx6 hy6 hB'
          go_wp2
          go_roundw
          case rel => exact ⟨j + 1, A6, c6, by omega, by go_num, rfl, rfl, hown6', hbb6⟩
          case measure => simp [intOf]; omega
        · obtain rfl : j = 8 := by omega
          go_wp2
          go_ret
          exact ⟨_, rfl, hown5.cast (by rw [be64_all]; rfl), hb5⟩
    · have hd' : (((l.length : Int) + 1 + k) % 64 != 56) = true := by simp; omega
      have HD := Lib.hid hd
      clear hd
      have hfit : k < padZ l.length := by
        have := padZ_fits l.length
        rcases Nat.lt_or_ge k (padZ l.length) with h | h
        · exact h
        · have : k = padZ l.length := by omega
          exact absurd (by rw [this]; exact padZ_fits _) HD.out
      go_wp2_with (at_builtin; refine apB rfl (.tmp 16) (.tmp 17) rfl w.heap.size _ _ rfl (hown.alloc _) _ _ 1 1 [0] rfl rfl (Rd.one _ _) ?c1 ?c2 ?_)
      case c1 => simp; omega
      case c2 => simp; omega
      intro v' w3 hown3 hb3 _ _
      have hown3' := hown3.cast (m := l ++ [128] ++ List.replicate (k + 1) 0) (by simp [List.replicate_succ'])
      obtain ⟨A3, c3, rfl, hx3, hy3, _⟩ := hown3'.sl (n := l.length + 1 + (k + 1)) (by simp; omega)
      have hbb3 := (hb.alloc hz _).trans hb3
      clear hown3 hb3 hown hx3 hy3
      go_wp2
      go_roundw
      case rel => exact ⟨k + 1, A3, c3, by omega, rfl, hown3', hbb3⟩
      case measure => simp [lenV]; omega

end Go.Proofs.YtiibpjahmhemmaaDoor
