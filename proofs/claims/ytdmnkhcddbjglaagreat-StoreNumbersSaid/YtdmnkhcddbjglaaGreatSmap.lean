/-
  space.has, space.pageMap: the walks.
-/
import Derived.Test.YtdmnkhcddbjglaaGreatSdn
import Derived.BigRegion
import Derived.Deep.DeepCutAuto
set_option linter.unusedVariables false
set_option linter.unusedSimpArgs false
namespace Go.Proofs.YtdmnkhcddbjglaaGreat
open Go Go.RowKit Go.Shelf
set_option maxRecDepth 100000
set_option maxHeartbeats 2000000

theorem bits_all : ((List.range 256).all fun y => (List.range 8).all fun r => (bits .and .u8 (y : Int) ((2 : Int) ^ r % 256) != 0) == y.testBit r) = true := by kernel_rfl
theorem bits_bit (y : UInt8) {r : Nat} (hr : r < 8) : (bits .and .u8 (y.toNat : Int) ((2 : Int) ^ r % 256) != 0) = y.toNat.testBit r := by
  have h := List.all_eq_true.1 bits_all y.toNat (List.mem_range.2 y.toNat_lt)
  have h2 := List.all_eq_true.1 h r (List.mem_range.2 hr)
  exact eq_of_beq h2

theorem has_any (b o c : Nat) (y : UInt8) (p : Nat) (hp : p < 32640) (W : World) (hc : W.cell? ⟨b, o + p / 8, none⟩ = some (u8V y)) :
    Calls Tryz.prog 200 #[.slice (some ⟨b, o, none⟩) 4080 c, .int .i64 (p : Int)] W fun e W' => e = .returned (.bool (y.toNat.testBit (p % 8))) ∧ ∃ q, W' = W.drewN q := by
  have n1 : Int.tdiv (p : Int) 8 = ((p / 8 : Nat) : Int) := by rw [Int.tdiv_eq_ediv_of_nonneg (by omega)]; omega
  have n2 : Int.tmod (p : Int) 8 = ((p % 8 : Nat) : Int) := by rw [Int.tmod_eq_emod_of_nonneg (by omega)]; omega
  have n3 : p / 8 < 4080 := by omega
  have n4 : p % 8 < 8 := Nat.mod_lt _ (by decide)
  obtain ⟨i, hi⟩ : ∃ i, p / 8 = i := ⟨_, rfl⟩
  obtain ⟨r, hr⟩ : ∃ r, p % 8 = r := ⟨_, rfl⟩
  rw [hi] at n1 n3 hc
  rw [hr] at n2 n4 ⊢
  have e1 : W.cell? ⟨b, o + i, none⟩ = some (.int .u8 (y.toNat : Int)) := hc
  go_enter Tryz.func200, Tryz.ntmps200
  go_wp2
  have n5 : (0 : Int) ≤ (i : Int) := by omega
  have n6 : (i : Int) < 4080 := by omega
  go_quiet (fail)
  rw [bits_bit y n4]
  go_wp2
  go_ret
  exact ⟨rfl, _, rfl⟩

/-- these cells hold the page's bytes -/
def Page (W : World) (b o M : Nat) : Prop := ∀ k (h : k < (pageL M).length), W.cell? ⟨b, o + k, none⟩ = some (u8V (pageL M)[k])
theorem Page.drewN {W : World} {b o M : Nat} (h : Page W b o M) (q : Nat) : Page (W.drewN q) b o M := h

theorem has_page {W : World} {b o M : Nat} (h : Page W b o M) (c p : Nat) (hp : p < 32640) :
    Calls Tryz.prog 200 #[.slice (some ⟨b, o, none⟩) 4080 c, .int .i64 (p : Int)] W fun e W' => e = .returned (.bool (M.testBit p)) ∧ ∃ q, W' = W.drewN q := by
  have hl : p / 8 < (pageL M).length := by rw [pageL_length]; omega
  refine (has_any b o c _ p hp W (h (p / 8) hl)).mono ?_
  rintro e W' ⟨rfl, hq⟩
  refine ⟨?_, hq⟩
  rw [pageL_get, Ev.byte_testBit _ _ _ (Nat.mod_lt _ (by decide)), show 8 * (p / 8) + p % 8 = p by omega]

theorem has_zero {W : World} {b o M : Nat} (h : Page W b o M) (c : Nat) (h0 : M.testBit 0 = true) :
    Calls Tryz.prog 200 #[.slice (some ⟨b, o, none⟩) 4080 c, .int .i64 0] W fun e W' => e = .returned (.bool true) ∧ ∃ q, W' = W.drewN q := by
  have := has_page h c 0 (by omega)
  rw [h0] at this
  exact this

/-- pageMap, given what Get and Pages answer: the map is whole -/
theorem pageMap_any (W : World) (x : Value) (M n : Nat) (R : Nat → Nat → Nat → World → Prop) (h0 : M.testBit 0 = true) (hn : ∀ p, n ≤ p → p < 32640 → M.testBit p = false)
    (hG : Calls Tryz.prog 196 #[x, .int .i64 0] W fun e w1 => ∃ b o c, e = .returned (.tuple #[.slice (some ⟨b, o, none⟩) 4080 c, .int .i64 0]) ∧ Page w1 b o M ∧
      ∀ q, Calls Tryz.prog 199 #[x] (w1.drewN q) fun e w2 => e = .returned (.int .i64 (n : Int)) ∧ Page w2 b o M ∧ R b o c w2) :
    Calls Tryz.prog 198 #[x] W fun e w3 => ∃ b o c w2 q, e = .returned (.tuple #[.slice (some ⟨b, o, none⟩) 4080 c, .int .i64 0]) ∧ R b o c w2 ∧ w3 = w2.drewN q := by
  go_enter Tryz.func198, Tryz.ntmps198
  go_wp2_with (first
    | (go_at_call 196; with_reducible refine hG.mono ?_; clear hG; rintro e w1 ⟨b, o, c, rfl, hp1, hP⟩)
    | (go_at_call 200; with_reducible refine (has_zero hp1 c h0).mono ?_; rintro e w1' ⟨rfl, q, rfl⟩)
    | (go_at_call 199; with_reducible refine (hP q).mono ?_; clear hP; rintro e w2 ⟨rfl, hp2, hR⟩))
  go_loopw [6] (fun i wr => ∃ k q : Nat, n ≤ k ∧ (k ≤ 32640 ∨ k = n) ∧ i = .int .i64 (k : Int) ∧ wr = w2.drewN q) (fun i _ => 32640 - (intOf i).toNat)
  case atStart => exact ⟨n, 0, Nat.le_refl _, .inr rfl, rfl, rfl⟩
  case round =>
    obtain ⟨k, q2, hk, hk2, rfl, rfl⟩ := hrel
    have hpk := hp2.drewN q2
    by_cases hlt : k < 32640
    · have hb := has_page hpk c k hlt
      rw [hn k hk hlt] at hb
      have hli : (k : Int) < 32640 := by omega
      have hwr : IntKind.i64.wrap ((k : Int) + 1) = (k : Int) + 1 := by rw [IntKind.wrap_i64]; omega
      clear hlt
      go_wp2_with (go_at_call 200; with_reducible refine hb.mono ?_; clear hb; rintro e w4 ⟨rfl, q4, rfl⟩)
      go_roundw
      case rel => exact ⟨k + 1, q2 + q4, by omega, .inl (by omega), by simp, by simp⟩
      case measure => simp [intOf]; omega
    · have hnl : ¬ ((k : Int) < 32640) := by omega
      go_wp2
      refine bodyPost_ret (results_tmp2 rfl _ _ _) rfl ?_
      exact ⟨b, o, c, rfl, w2, hR, q2, rfl⟩
end Go.Proofs.YtdmnkhcddbjglaaGreat
