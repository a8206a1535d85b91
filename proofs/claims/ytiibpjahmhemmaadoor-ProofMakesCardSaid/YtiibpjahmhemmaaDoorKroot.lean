/-
  chanceryref28.above and root: what each call does.
-/
import Derived.Test.YtiibpjahmhemmaaDoorZtimes
import Derived.Test.YtiibpjahmhemmaaDoorKawake
import Derived.BigQuiet
import Derived.Deep.QuietTactic
namespace Go.Proofs.YtiibpjahmhemmaaDoor
open Go Go.RowKit
open Go.Ev (timesN row64V times_calls)

abbrev arr5 (a : Nat → Nat) : Array Value := #[.int .u64 (a 0 : Int), .int .u64 (a 1 : Int), .int .u64 (a 2 : Int), .int .u64 (a 3 : Int), .int .u64 (a 4 : Int)]
theorem times_ex (w : World) (a : Nat → Nat) (n : Nat) : Calls Tryd.prog 31 #[.agg (arr5 a), .int .u64 (n : Int)] w fun e w' => e = .returned (.agg (arr5 (timesN a n))) ∧ Below w.heap.size w w' := times_calls w a n

/-- is one above another one, by their first k words? -/
def gtFrom (a b : Nat → Nat) : Nat → Bool
  | 0 => false
  | k + 1 => if a k = b k then gtFrom a b k else decide (b k < a k)

theorem arr5_cell {w : World} {g : Nat} {a : Nat → Nat} {t : TypeId} {fz : Nat × Nat} (h : w.heap[g]? = some (.cells (arr5 a) t fz)) (k : Nat) (hk : k < 5) : w.cell? ⟨g, k, none⟩ = some (.int .u64 (a k : Int)) := by
  rw [cell_of_row w g k _ t fz h]
  have : k = 0 ∨ k = 1 ∨ k = 2 ∨ k = 3 ∨ k = 4 := by omega
  rcases this with rfl | rfl | rfl | rfl | rfl <;> rfl

set_option maxHeartbeats 1000000 in
theorem above_ex (w : World) (a b : Nat → Nat) : Calls Tryd.prog 32 #[.agg (arr5 a), .agg (arr5 b)] w fun e w' => e = .returned (.bool (gtFrom a b 5)) ∧ Below w.heap.size w w' := by
  have hb0 := hbW w (.cells (arr5 a) 52) (.cells (arr5 b) 52)
  have hA : ((w.alloc (.cells (arr5 a) 52)).alloc (.cells (arr5 b) 52)).heap[w.heap.size]? = some (.cells (arr5 a) 52 (0, 0)) := heap_alloc2_old _ _ _
  have hB : ((w.alloc (.cells (arr5 a) 52)).alloc (.cells (arr5 b) 52)).heap[w.heap.size + 1]? = some (.cells (arr5 b) 52 (0, 0)) := heap_alloc2_new _ _ _
  have HA := Lib.hid hA
  have HB := Lib.hid hB
  clear hA hB
  go_enter Tryd.func32, Tryd.ntmps32
  go_wp2
  go_loopw [5] (fun i wr => ∃ k : Nat, k ≤ 5 ∧ i = .int .i64 ((k : Int) - 1) ∧ gtFrom a b 5 = gtFrom a b k ∧ wr.heap[w.heap.size]? = some (.cells (arr5 a) 52 (0, 0)) ∧ wr.heap[w.heap.size + 1]? = some (.cells (arr5 b) 52 (0, 0)) ∧ Below w.heap.size w wr) (fun i _ => (intOf i + 1).toNat)
  case atStart => exact ⟨5, by omega, rfl, rfl, HA.out, HB.out, hb0⟩
  case round =>
    obtain ⟨k, hk, rfl, hg, hAr, hBr, hb⟩ := hrel
    have HG := Lib.hid hg
    have HAr := Lib.hid hAr
    have HBr := Lib.hid hBr
    clear hg hAr hBr HA HB hb0
    cases k with
    | zero =>
      go_wp2
      go_ret
      exact ⟨by rw [HG.out]; rfl, hb⟩
    | succ k =>
      have ca := arr5_cell HAr.out k (by omega)
      have cb := arr5_cell HBr.out k (by omega)
      have hk5 : (k : Int) < 5 := by omega
      have hk0 : (0 : Int) ≤ (k : Int) := by omega
      rw [show ((k + 1 : Nat) : Int) - 1 = (k : Int) by omega]
      by_cases he : a k = b k
      · have he' : (((a k : Nat) : Int) != ((b k : Nat) : Int)) = false := by simp [he]
        have hgk : gtFrom a b (k + 1) = gtFrom a b k := by show (if a k = b k then _ else _) = _; rw [if_pos he]
        have HK := Lib.hid hgk
        clear he hgk
        go_wp2
        go_quiet (fail)
        go_wp2
        go_roundw
        case rel => exact ⟨k, by omega, rfl, HG.out.trans HK.out, HAr.out, HBr.out, ⟨hb.os, hb.tape, hb.output, hb.size, hb.block⟩⟩
        case measure => simp [intOf]
      · have he' : (((a k : Nat) : Int) != ((b k : Nat) : Int)) = true := by simp; omega
        have hgk : gtFrom a b (k + 1) = decide (b k < a k) := by show (if a k = b k then _ else _) = _; rw [if_neg he]
        have HK := Lib.hid hgk
        clear he hgk
        go_wp2
        go_quiet (fail)
        go_wp2
        go_quiet (fail)
        go_wp2
        go_ret
        exact ⟨by rw [HG.out, HK.out]; simp, ⟨hb.os, hb.tape, hb.output, hb.size, hb.block⟩⟩


def bitN (k : Nat) : Nat := 68719476736 / 2 ^ k
def eOne : Nat → Nat := fun i => if i = 0 then 1 else 0
noncomputable def xR (s : Nat) (cube : Bool) : Nat → Nat := if cube then timesN (timesN (timesN eOne s) s) s else timesN (timesN eOne s) s
def limR (p : Nat) (cube : Bool) : Nat → Nat := fun i => if i = (if cube then 3 else 2) then p else 0
noncomputable def rootR (p : Nat) (cube : Bool) : Nat → Nat
  | 0 => 0
  | k + 1 => if gtFrom (xR (rootR p cube k + bitN k) cube) (limR p cube) 5 then rootR p cube k else rootR p cube k + bitN k
noncomputable def rootN (p : Nat) (cube : Bool) : Nat := rootR p cube 37 % 4294967296
theorem bitN_succ (k : Nat) : bitN (k + 1) = bitN k / 2 := by unfold bitN; rw [Nat.pow_succ, Nat.div_div_eq_div_mul]
theorem bitN_end (k : Nat) (h : k ≤ 37) (h0 : bitN k = 0) : k = 37 := by
  rcases Nat.lt_or_ge k 37 with hk | hk
  · exfalso
    have : 2 ^ k ≤ 2 ^ 36 := Nat.pow_le_pow_right (by omega) (by omega)
    have h1 : 1 ≤ 68719476736 / 2 ^ k := (Nat.le_div_iff_mul_le (Nat.two_pow_pos k)).2 (by simpa using this)
    unfold bitN at h0; omega
  · omega
theorem bitN_pos (k : Nat) (h : k < 37) : 0 < bitN k := by
  rcases Nat.eq_zero_or_pos (bitN k) with h0 | h0
  · have := bitN_end k (by omega) h0; omega
  · exact h0
theorem bitN_le (k : Nat) : bitN k ≤ 68719476736 := Nat.div_le_self _ _
theorem rootR_le (p : Nat) (cube : Bool) : ∀ k, rootR p cube k + 2 * bitN k ≤ 137438953472 := by
  intro k
  induction k with
  | zero => show 0 + 2 * (68719476736 / 2 ^ 0) ≤ _; omega
  | succ k ih =>
    rw [bitN_succ]
    show (if gtFrom (xR (rootR p cube k + bitN k) cube) (limR p cube) 5 then rootR p cube k else rootR p cube k + bitN k) + _ ≤ _
    split <;> omega
theorem times_sum (w : World) (a : Nat → Nat) (n m : Nat) : Calls Tryd.prog 31 #[.agg (arr5 a), .int .u64 ((n : Int) + (m : Int))] w fun e w' => e = .returned (.agg (arr5 (timesN a (n + m)))) ∧ Below w.heap.size w w' := by
  rw [← Int.natCast_add]; exact times_ex w a (n + m)
theorem times_one (w : World) (n m : Nat) : Calls Tryd.prog 31 #[.agg #[.int .u64 1, .int .u64 0, .int .u64 0, .int .u64 0, .int .u64 0], .int .u64 ((n : Int) + (m : Int))] w fun e w' => e = .returned (.agg (arr5 (timesN eOne (n + m)))) ∧ Below w.heap.size w w' := times_sum w eOne n m
theorem above_two (w : World) (a : Nat → Nat) (p : Nat) (r : Bool) (h : gtFrom a (limR p false) 5 = r) : Calls Tryd.prog 32 #[.agg (arr5 a), .agg #[.int .u64 0, .int .u64 0, .int .u64 (p : Int), .int .u64 0, .int .u64 0]] w fun e w' => e = .returned (.bool r) ∧ Below w.heap.size w w' := by
  have := above_ex w a (limR p false)
  rw [h] at this
  exact this
theorem above_three (w : World) (a : Nat → Nat) (p : Nat) (r : Bool) (h : gtFrom a (limR p true) 5 = r) : Calls Tryd.prog 32 #[.agg (arr5 a), .agg #[.int .u64 0, .int .u64 0, .int .u64 0, .int .u64 (p : Int), .int .u64 0]] w fun e w' => e = .returned (.bool r) ∧ Below w.heap.size w w' := by
  have := above_ex w a (limR p true)
  rw [h] at this
  exact this
theorem size52a : (Tryd.prog.info? 52).map (·.size) = some 5 := by kernel_rfl
theorem szOf52 : Go.Ev.szOf Tryd.prog 52 = some 5 := by kernel_rfl
theorem arr5_one (a : Nat → Nat) : ∀ v ∈ (arr5 a).toList, v.oneCell' = true := by
  intro v hv
  simp [arr5] at hv
  rcases hv with rfl | rfl | rfl | rfl | rfl <;> rfl

set_option maxHeartbeats 400000 in
set_option maxRecDepth 100000 in
theorem root_sq (p : Nat) (w : World) (hp : p ≤ 1000000) : Calls Tryd.prog 24 #[.int .u64 (p : Int), .bool false] w fun e w' => e = .returned (.int .u32 (rootN p false : Int)) ∧ Below w.heap.size w w' := by
  go_enter Tryd.func24, Tryd.ntmps24
  go_wp2
  go_loopw [5, 6] (fun r b wr => ∃ k : Nat, k ≤ 37 ∧ r = .int .u64 (rootR p false k : Int) ∧ b = .int .u64 (bitN k : Int) ∧ Below w.heap.size w wr) (fun _ b _ => (intOf b).toNat)
  case atStart => exact ⟨0, by omega, rfl, rfl, Below.refl _ _⟩
  case round =>
    obtain ⟨k, hk, rfl, rfl, hb⟩ := hrel
    have hle := rootR_le p false k
    have hbl := bitN_le k
    by_cases hpos : 0 < bitN k
    · have hposi : (0 : Int) < (bitN k : Int) := by omega
      have hz := hb.size
      have hsum : rootR p false k + bitN k ≤ 200000000000 := by omega
      go_upto_region 10 with (first
        | (go_at_call 31; (with_reducible refine (times_one _ (rootR p false k) (bitN k)).mono ?_); rintro e w1 ⟨rfl, hb1⟩)
        | (go_at_call 31; (with_reducible refine (times_sum _ (timesN eOne (rootR p false k + bitN k)) (rootR p false k) (bitN k)).mono ?_); rintro e w2 ⟨rfl, hb2⟩))
      generalize hX : timesN (timesN eOne (rootR p false k + bitN k)) (rootR p false k + bitN k) = X
      have hbA : Below w.heap.size w ((w2.alloc (.cells (arr5 X) 52)).alloc (.cells #[.int .u64 0, .int .u64 0, .int .u64 (p : Int), .int .u64 0, .int .u64 0] 52)) := by
        have h2 := hb.trans ((hb1.trans (hb2.mono hb1.size)).mono hz)
        exact h2.trans ((hbW w2 _ _).mono h2.size)
      have hr1 : rootR p false (k + 1) = if gtFrom X (limR p false) 5 then rootR p false k else rootR p false k + bitN k := by
        rw [← hX]; rfl
      have HR := Lib.hid hr1
      have hbs : bitN (k + 1) = bitN k / 2 := bitN_succ k
      have HBS := Lib.hid hbs
      have hk37 : k < 37 := by
        rcases Nat.lt_or_ge k 37 with h | h
        · exact h
        · exfalso; have : k = 37 := by omega
          subst this; simp [bitN] at hpos
      clear hX hr1 hbs hb1 hb2
      cases hgt : gtFrom X (limR p false) 5 with
      | true =>
        go_wp2_with (go_at_call 32; (with_reducible refine (above_two _ X p true hgt).mono ?_); rintro e w3 ⟨rfl, hb3⟩)
        go_roundw
        case rel => exact ⟨k + 1, by omega, by rw [HR.out, if_pos hgt], by rw [HBS.out]; go_num, hbA.trans (hb3.mono hbA.size)⟩
        case measure => simp [intOf]; omega
      | false =>
        go_wp2_with (go_at_call 32; (with_reducible refine (above_two _ X p false hgt).mono ?_); rintro e w3 ⟨rfl, hb3⟩)
        go_roundw
        case rel => exact ⟨k + 1, by omega, by rw [HR.out, hgt]; simp, by rw [HBS.out]; go_num, hbA.trans (hb3.mono hbA.size)⟩
        case measure => simp [intOf]; omega
    · obtain rfl : k = 37 := bitN_end k hk (by omega)
      have hm : ((rootR p false 37 : Nat) : Int) % 4294967296 = ((rootN p false : Nat) : Int) := by unfold rootN; omega
      have hposi : ¬ (0 : Int) < (bitN 37 : Int) := by omega
      have hN : rootN p false ≤ 4294967295 := by unfold rootN; omega
      go_wp2
      go_ret
      exact ⟨rfl, hb⟩

set_option maxHeartbeats 400000 in
set_option maxRecDepth 100000 in
theorem root_cu (p : Nat) (w : World) (hp : p ≤ 1000000) : Calls Tryd.prog 24 #[.int .u64 (p : Int), .bool true] w fun e w' => e = .returned (.int .u32 (rootN p true : Int)) ∧ Below w.heap.size w w' := by
  go_enter Tryd.func24, Tryd.ntmps24
  go_wp2
  go_loopw [5, 6] (fun r b wr => ∃ k : Nat, k ≤ 37 ∧ r = .int .u64 (rootR p true k : Int) ∧ b = .int .u64 (bitN k : Int) ∧ Below w.heap.size w wr) (fun _ b _ => (intOf b).toNat)
  case atStart => exact ⟨0, by omega, rfl, rfl, Below.refl _ _⟩
  case round =>
    obtain ⟨k, hk, rfl, rfl, hb⟩ := hrel
    have hle := rootR_le p true k
    have hbl := bitN_le k
    by_cases hpos : 0 < bitN k
    · have hposi : (0 : Int) < (bitN k : Int) := by omega
      have hz := hb.size
      have hsum : rootR p true k + bitN k ≤ 200000000000 := by omega
      go_upto_region 8 with (first
        | (go_at_call 31; (with_reducible refine (times_one _ (rootR p true k) (bitN k)).mono ?_); rintro e w1 ⟨rfl, hb1⟩)
        | (go_at_call 31; (with_reducible refine (times_sum _ (timesN eOne (rootR p true k + bitN k)) (rootR p true k) (bitN k)).mono ?_); rintro e w2 ⟨rfl, hb2⟩))
      generalize hY : timesN (timesN eOne (rootR p true k + bitN k)) (rootR p true k + bitN k) = Y
      have HY := Lib.hid hY
      clear hY
      have hbA : Below w.heap.size w w2 := hb.trans ((hb1.trans (hb2.mono hb1.size)).mono hz)
      have hzA := hbA.size
      go_upto_region 10 with (first
        | (go_at_call 31; (with_reducible refine (times_sum _ Y (rootR p true k) (bitN k)).mono ?_); rintro e w3 ⟨rfl, hb3⟩; have hx3 : w3.heap[w2.heap.size]? = some (.cells (arr5 Y) 52 (0, 0)) := (hb3.block _ (by simp; omega)).trans (heap_alloc2_old _ _ _); have hl3 : w3.heap[w2.heap.size + 1]? = some (.cells #[.int .u64 0, .int .u64 0, .int .u64 (p : Int), .int .u64 0, .int .u64 0] 52 (0, 0)) := (hb3.block _ (by simp)).trans (heap_alloc2_new _ _ _); have hz3 : w2.heap.size + 2 ≤ w3.heap.size := by have := hb3.size; simpa using this)
        | (refine stR rfl 52 (.tmp 7) (.tmp 29) rfl rfl w2.heap.size rfl 5 szOf52 _ (arr5 (timesN Y (rootR p true k + bitN k))) 52 hx3 rfl rfl rfl (arr5_one _) ?_; intro w4 hs4 hf4 hbl4)
        | (refine stR rfl 52 (.tmp 8) (.tmp 31) rfl rfl (w2.heap.size + 1) rfl 5 szOf52 _ (arr5 (limR p true)) 52 ((hf4 _ (by omega)).trans hl3) rfl rfl rfl (arr5_one _) ?_; intro w5 hs5 hf5 hbl5))
      have hx5 : w5.heap[w2.heap.size]? = some (.cells (arr5 (timesN Y (rootR p true k + bitN k))) 52 (0, 0)) := (hf5 _ (by omega)).trans hs4
      have hbB : Below w.heap.size w w5 := ((hbA.trans (((hbW w2 _ _).trans (hb3.mono (by simp; omega))).mono hzA)).trans (hbl4 _ hzA)).trans (hbl5 _ (by omega))
      generalize hX : timesN Y (rootR p true k + bitN k) = X at *
      have x0 := arr5_cell hx5 0 (by omega)
      have x1 := arr5_cell hx5 1 (by omega)
      have x2 := arr5_cell hx5 2 (by omega)
      have x3 := arr5_cell hx5 3 (by omega)
      have x4 := arr5_cell hx5 4 (by omega)
      have y0 : w5.cell? ⟨w2.heap.size + 1, 0, none⟩ = some (.int .u64 0) := arr5_cell hs5 0 (by omega)
      have y1 : w5.cell? ⟨w2.heap.size + 1, 1, none⟩ = some (.int .u64 0) := arr5_cell hs5 1 (by omega)
      have y2 : w5.cell? ⟨w2.heap.size + 1, 2, none⟩ = some (.int .u64 0) := arr5_cell hs5 2 (by omega)
      have y3 : w5.cell? ⟨w2.heap.size + 1, 3, none⟩ = some (.int .u64 (p : Int)) := arr5_cell hs5 3 (by omega)
      have y4 : w5.cell? ⟨w2.heap.size + 1, 4, none⟩ = some (.int .u64 0) := arr5_cell hs5 4 (by omega)
      clear hs5 hf5 hbl5 hs4 hf4 hbl4 hx3 hl3 hz3 hb3 hx5
      have hr1 : rootR p true (k + 1) = if gtFrom X (limR p true) 5 then rootR p true k else rootR p true k + bitN k := by
        rw [← hX, ← HY.out]; rfl
      have HR := Lib.hid hr1
      have hbs : bitN (k + 1) = bitN k / 2 := bitN_succ k
      have HBS := Lib.hid hbs
      have hk37 : k < 37 := by
        rcases Nat.lt_or_ge k 37 with h | h
        · exact h
        · exfalso; have : k = 37 := by omega
          subst this; simp [bitN] at hpos
      clear hX hr1 hbs
      cases hgt : gtFrom X (limR p true) 5 with
      | true =>
        go_wp2_with (go_at_call 32; (with_reducible refine (above_three _ X p true hgt).mono ?_); rintro e w3 ⟨rfl, hb3⟩)
        go_roundw
        case rel => exact ⟨k + 1, by omega, by rw [HR.out, if_pos hgt], by rw [HBS.out]; go_num, hbB.trans (hb3.mono hbB.size)⟩
        case measure => simp [intOf]; omega
      | false =>
        go_wp2_with (go_at_call 32; (with_reducible refine (above_three _ X p false hgt).mono ?_); rintro e w3 ⟨rfl, hb3⟩)
        go_roundw
        case rel => exact ⟨k + 1, by omega, by rw [HR.out, hgt]; simp, by rw [HBS.out]; go_num, hbB.trans (hb3.mono hbB.size)⟩
        case measure => simp [intOf]; omega
    · obtain rfl : k = 37 := bitN_end k hk (by omega)
      have hm : ((rootR p true 37 : Nat) : Int) % 4294967296 = ((rootN p true : Nat) : Int) := by unfold rootN; omega
      have hposi : ¬ (0 : Int) < (bitN 37 : Int) := by omega
      have hN : rootN p true ≤ 4294967295 := by unfold rootN; omega
      go_wp2
      go_ret
      exact ⟨rfl, hb⟩

end Go.Proofs.YtiibpjahmhemmaaDoor
