/-
  What change.Diff makes of two pages of known bytes: the places of unlike bytes by halves, on the pages' numbers.
-/
import Derived.Test.YtdmnkhcddbjglaaGreatSdiff2
import Derived.Test.YtdmnkhcddbjglaaGreatEvK
set_option linter.unusedVariables false
set_option linter.unusedSimpArgs false
namespace Go.Proofs.YtdmnkhcddbjglaaGreat
open Go Go.RowKit Go.Shelf Go.Ev
set_option maxRecDepth 100000

/-- the places (from o on) of x's bytes that are not nought, ahead of acc -/
def ixD : Nat → Nat → Nat → List Nat → List Nat
  | 0, o, x, acc => bif Nat.beq x 0 then acc else o :: acc
  | d + 1, o, x, acc => bif Nat.beq x 0 then acc else ixD d o (x % 2 ^ (8 * 2 ^ d)) (ixD d (o + 2 ^ d) (x >>> (8 * 2 ^ d)) acc)

theorem byte_mod (x k n : Nat) : byte (x % 2 ^ (8 * n)) k = if k < n then byte x k else 0 := by
  have := byte_cutB x 0 n k
  simpa [cutB] using this
theorem byte_shift (x k n : Nat) : byte (x >>> (8 * n)) k = byte x (n + k) := by
  simp [byte, ← Nat.shiftRight_add, Nat.mul_add]

theorem ixD_eq : ∀ (d o x : Nat) (acc : List Nat), x < 2 ^ (8 * 2 ^ d) → ixD d o x acc = ((List.range (2 ^ d)).filter (fun k => byte x k != 0)).map (o + ·) ++ acc
  | 0, o, x, acc, h => by
    unfold ixD
    simp only [Nat.pow_zero, Nat.mul_one] at h ⊢
    have hb : byte x 0 = x := by simp [byte]; omega
    by_cases hx : x = 0
    · subst hx; simp [byte]
    · have h1 : Nat.beq x 0 = false := Bool.eq_false_iff.2 fun e => hx (Nat.eq_of_beq_eq_true e)
      rw [h1]
      simp [List.range_succ, hb, hx]
  | d + 1, o, x, acc, h => by
    unfold ixD
    by_cases hx : x = 0
    · subst hx; simp [byte]
    · have h1 : Nat.beq x 0 = false := Bool.eq_false_iff.2 fun e => hx (Nat.eq_of_beq_eq_true e)
      rw [h1, cond_false]
      have h2 : x >>> (8 * 2 ^ d) < 2 ^ (8 * 2 ^ d) := by
        rw [Nat.shiftRight_eq_div_pow, Nat.div_lt_iff_lt_mul (by exact Nat.two_pow_pos _), ← Nat.pow_add]
        rwa [show 8 * 2 ^ d + 8 * 2 ^ d = 8 * 2 ^ (d + 1) by rw [Nat.pow_succ]; omega]
      rw [ixD_eq d _ _ _ (Nat.mod_lt _ (Nat.two_pow_pos _)), ixD_eq d _ _ _ h2]
      rw [show 2 ^ (d + 1) = 2 ^ d + 2 ^ d by rw [Nat.pow_succ]; omega, List.range_add, List.filter_append, List.map_append, List.append_assoc]
      congr 1
      · congr 1
        refine List.filter_congr fun k hk => ?_
        have := List.mem_range.1 hk
        rw [byte_mod, if_pos this]
      · congr 1
        rw [List.filter_map, List.map_map]
        have : (fun k => byte (x >>> (8 * 2 ^ d)) k != 0) = ((fun k => byte x k != 0) ∘ fun k => 2 ^ d + k) := by funext k; simp [byte_shift]
        rw [this]
        refine List.map_congr_left fun k _ => ?_
        simp; omega

theorem ixD_eq' {d o x m : Nat} {acc : List Nat} (h : x < 2 ^ m) (hm : m ≤ 8 * 2 ^ d) : ixD d o x acc = ((List.range (2 ^ d)).filter (fun k => byte x k != 0)).map (o + ·) ++ acc :=
  ixD_eq d o x acc (Nat.lt_of_lt_of_le h (Nat.pow_le_pow_right (by decide) hm))

/-- a page's bytes -/
def pageL (a : Nat) : List UInt8 := (List.range 4080).map fun k => UInt8.ofNat (byte a k)
theorem pageL_length (a : Nat) : (pageL a).length = 4080 := by simp [pageL]
theorem pageL_get (a k : Nat) (h : k < (pageL a).length) : ((pageL a)[k]).toNat = byte a k := by
  have := byte_lt a k
  simp [pageL]
  omega

theorem byte_xor (a b k : Nat) : byte (a ^^^ b) k = 0 ↔ byte a k = byte b k := by
  constructor
  · intro h
    refine eq_of_testBit256 (byte_lt _ _) (byte_lt _ _) fun i hi => ?_
    have := byte_testBit (a ^^^ b) k i hi
    rw [h, Nat.zero_testBit, Nat.testBit_xor, ← byte_testBit a k i hi, ← byte_testBit b k i hi] at this
    revert this
    cases (byte a k).testBit i <;> cases (byte b k).testBit i <;> simp
  · intro h
    refine eq_of_testBit256 (byte_lt _ _) (by omega) fun i hi => ?_
    rw [byte_testBit _ _ _ hi, Nat.testBit_xor, ← byte_testBit a k i hi, ← byte_testBit b k i hi, h, Nat.zero_testBit]
    simp

theorem ixU_page (a b : Nat) : ∀ n, n ≤ 4080 → (ixU (pageL a) (pageL b) n).map (·.val) = (List.range n).filter (fun k => byte (a ^^^ b) k != 0)
  | 0, _ => by simp [ixU]
  | n + 1, h => by
    rw [List.range_succ, List.filter_append, ← ixU_page a b n (by omega)]
    have hg : ∀ c, (pageL c)[n]? = some (UInt8.ofNat (byte c n)) := fun c => by
      rw [pageL, List.getElem?_map, List.getElem?_range (by omega)]; rfl
    by_cases hab : byte a n = byte b n
    · rw [ixU_same (by rw [hg, hg, hab])]
      have := (byte_xor a b n).2 hab
      simp [this]
    · have hne : ¬ (pageL a)[n]? = (pageL b)[n]? := by
        rw [hg, hg]
        intro e
        apply hab
        have h1 := byte_lt a n
        have h2 := byte_lt b n
        have e' := congrArg UInt8.toNat (Option.some.inj e)
        simp at e'
        omega
      rw [ixU_hit (by omega) hne]
      have : ¬ byte (a ^^^ b) n = 0 := fun e => hab ((byte_xor a b n).1 e)
      simp [this]

theorem ixD_page {a b m : Nat} (hm : m = 8 * 4080) (ha : a < 2 ^ m) (hb : b < 2 ^ m) : ixD 12 0 (a ^^^ b) [] = (ixU (pageL a) (pageL b) 4080).map (·.val) := by
  have hx : a ^^^ b < 2 ^ m := Nat.xor_lt_two_pow ha hb
  have h12 : m ≤ 8 * 2 ^ 12 := by subst hm; decide
  rw [ixD_eq' hx h12, ixU_page a b 4080 (Nat.le_refl _)]
  rw [show 2 ^ 12 = 4080 + 16 by rfl, List.range_add, List.filter_append]
  have h0 : ∀ k ∈ List.map (fun x => 4080 + x) (List.range 16), ¬ (byte (a ^^^ b) k != 0) = true := by
    intro k hk
    obtain ⟨j, _, rfl⟩ := List.mem_map.1 hk
    have : byte (a ^^^ b) (4080 + j) = 0 := by
      unfold byte
      rw [Nat.shiftRight_eq_div_pow, Nat.div_eq_of_lt (Nat.lt_of_lt_of_le hx (Nat.pow_le_pow_right (by decide) (by subst hm; exact Nat.mul_le_mul_left 8 (Nat.le_add_right 4080 j))))]
    simp [this]
  rw [List.filter_eq_nil_iff.2 h0]
  simp

/-- the pieces, out of the places -/
def psB (s : PS) (x : Nat) : PS := match s with
  | (ps, none) => (ps, some (x, x))
  | (ps, some (f, t)) => bif Nat.ble (x - t) 8 then (ps, some (f, x)) else (ps ++ [(f, t + 1 - f)], some (x, x))
theorem psB_eq (s : PS) (x : Nat) : psB s x = psStep s x := by
  obtain ⟨ps, cur⟩ := s
  cases cur with
  | none => rfl
  | some ft =>
    obtain ⟨f, t⟩ := ft
    by_cases h : x - t ≤ 8
    · simp [psB, psStep, h, (ble_iff.2 h : Nat.ble (x - t) 8 = true)]
    · have hb : Nat.ble (x - t) 8 = false := Bool.eq_false_iff.2 fun e => h (Nat.le_of_ble_eq_true e)
      simp [psB, psStep, psFin, h, hb]
def piecesN (a b : Nat) : List (Nat × Nat) := psFin ((ixD 12 0 (a ^^^ b) []).foldl psB ([], none))
theorem piecesN_eq {a b m : Nat} (hm : m = 8 * 4080) (ha : a < 2 ^ m) (hb : b < 2 ^ m) : piecesN a b = psFin (psOf (ixU (pageL a) (pageL b) 4080)) := by
  unfold piecesN psOf
  rw [ixD_page hm ha hb, List.foldl_map]
  congr 2
  funext s x
  exact psB_eq s x.val
theorem pieces_in (a b : Nat) : ∀ p ∈ psFin (psOf (ixU (pageL a) (pageL b) 4080)), 0 < p.2 ∧ p.1 + p.2 ≤ 4080 := by
  have hok := psOk _ (ixU_asc (pageL a) (pageL b) 4080 (Nat.le_refl _))
  intro p hp
  unfold psFin at hp
  split at hp
  · exact hok.b p hp
  · rename_i f t hc
    obtain ⟨h1, h2, _⟩ := hok.c f t hc
    rcases List.mem_append.1 hp with hp | hp
    · exact hok.b p hp
    · simp at hp; subst hp; simp; omega
end Go.Proofs.YtdmnkhcddbjglaaGreat
