/-
  chanceryref28.xored: what the call does.
-/
import Derived.Test.YtiibpjahmhemmaaDoorKpad
namespace Go.Proofs.YtiibpjahmhemmaaDoor
open Go Go.RowKit

/-- the 64 bytes of a key, each xor x -/
def xorL (key : List UInt8) (x : UInt8) : List UInt8 := (List.range 64).map fun i => key.getD i 0 ^^^ x
theorem xorL_take (key : List UInt8) (x : UInt8) (i : Nat) (h : i < 64) : (xorL key x).take (i + 1) = (xorL key x).take i ++ [key.getD i 0 ^^^ x] := by
  rw [take_snoc8 _ _ (by simpa [xorL] using h)]; simp [xorL]
theorem xorL_all (key : List UInt8) (x : UInt8) : (xorL key x).take 64 = xorL key x := List.take_of_length_le (by simp [xorL])

theorem bits_xor8 (a x : UInt8) : bits .xor .u8 (a.toNat : Int) (x.toNat : Int) = ((a ^^^ x).toNat : Int) := by
  have h1 : (BitVec.ofInt 8 (a.toNat : Int)).toNat = a.toNat := by rw [BitVec.ofInt_natCast, BitVec.toNat_ofNat]; exact Nat.mod_eq_of_lt a.toNat_lt
  have h2 : (BitVec.ofInt 8 (x.toNat : Int)).toNat = x.toNat := by rw [BitVec.ofInt_natCast, BitVec.toNat_ofNat]; exact Nat.mod_eq_of_lt x.toNat_lt
  have h3 : (a ^^^ x).toNat = a.toNat ^^^ x.toNat := UInt8.toNat_xor a x
  have h4 := (a ^^^ x).toNat_lt
  have e : bits .xor .u8 (a.toNat : Int) (x.toNat : Int) = IntKind.u8.wrap (((BitVec.ofInt 8 (a.toNat : Int)) ^^^ (BitVec.ofInt 8 (x.toNat : Int))).toNat : Int) := rfl
  rw [e, BitVec.toNat_xor, h1, h2, ← h3]
  generalize (a ^^^ x).toNat = y at h4
  simp only [IntKind.wrap, IntKind.bits, IntKind.signed]
  simp
  omega
theorem bits_xor8z (x : UInt8) : bits .xor .u8 0 (x.toNat : Int) = (x.toNat : Int) := by
  have := bits_xor8 0 x
  simpa using this

set_option maxHeartbeats 1600000 in
theorem xored_any (A C : Option Addr) (c d : Nat) (x : UInt8) (key l : List UInt8) (w : World) (hk : Rd w w.heap.size A key) (hr : Rd w w.heap.size C l) (hkl : key.length ≤ 1000000) (hl : l.length ≤ 1000000) :
    Calls Tryd.prog 28 #[.slice A key.length c, u8V x, .slice C l.length d] w fun e w' => ∃ v, e = .returned v ∧ Own w' w.heap.size v (xorL key x ++ l) ∧ Below w.heap.size w w' := by
  go_enter Tryd.func28, Tryd.ntmps28
  go_wp2
  go_loopw [7, 8] (fun v i wr => ∃ k : Nat, k ≤ 64 ∧ i = .int .i64 k ∧ Own wr w.heap.size v ((xorL key x).take k) ∧ Below w.heap.size w wr) (fun _ i _ => 64 - (intOf i).toNat)
  case atStart => exact ⟨0, Nat.zero_le _, rfl, .nil _ _, Below.refl _ _⟩
  case round =>
    obtain ⟨k, hk8, rfl, hown, hb⟩ := hrel
    have hz := hb.size
    by_cases hlt : k < 64
    · by_cases hin : k < key.length
      · obtain ⟨b, o, rfl, hbB, hc⟩ := (hk.below hb).at_ hin
        have hX := bits_xor8 key[k] x
        go_wp2_with (at_builtin; refine apB rfl (.tmp 22) (.tmp 26) rfl w.heap.size _ _ rfl (hown.alloc _) _ _ 1 1 [key[k] ^^^ x] rfl rfl (Rd.one _ _) ?c1 ?c2 ?_)
        case c1 => simp [xorL]; omega
        case c2 => simp; omega
        intro v' w1 hown1 hb1 _ _
        have hown1' := hown1.cast (m := (xorL key x).take (k + 1)) (by rw [xorL_take _ _ _ hlt]; simp [hin])
        have hbb := (hb.alloc hz _).trans hb1
        clear hown1 hb1 hc hX
        go_wp2
        go_roundw
        case rel => exact ⟨k + 1, by omega, by go_num, hown1', hbb⟩
        case measure => simp [intOf]; omega
      · have hX := bits_xor8z x
        go_wp2_with (at_builtin; refine apB rfl (.tmp 22) (.tmp 26) rfl w.heap.size _ _ rfl (hown.alloc _) _ _ 1 1 [x] rfl rfl (Rd.one _ _) ?c1 ?c2 ?_)
        case c1 => simp [xorL]; omega
        case c2 => simp; omega
        intro v' w1 hown1 hb1 _ _
        have hown1' := hown1.cast (m := (xorL key x).take (k + 1)) (by
          have hin' : key.length ≤ k := by omega
          rw [xorL_take _ _ _ hlt]; simp [hin'])
        have hbb := (hb.alloc hz _).trans hb1
        clear hown1 hb1 hX
        go_wp2
        go_roundw
        case rel => exact ⟨k + 1, by omega, by go_num, hown1', hbb⟩
        case measure => simp [intOf]; omega
    · obtain rfl : k = 64 := by omega
      rw [xorL_all] at hown
      go_wp2_with (at_builtin; refine apB rfl (.tmp 28) (.tmp 29) rfl w.heap.size _ _ rfl hown _ _ _ d l rfl rfl (hr.below hb) ?c1 ?c2 ?_)
      case c1 => simp [xorL]; omega
      case c2 => omega
      intro v' w1 hown1 hb1 _ _
      go_wp2
      go_ret
      exact ⟨_, rfl, hown1, hb.trans hb1⟩

end Go.Proofs.YtiibpjahmhemmaaDoor
