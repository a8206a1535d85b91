/-
  chanceryref03: is, operation, Failing, Read: what each call does.
-/
import Derived.Test.YtecnddogdiikiaaGreatD1
import Derived.Deep.RegionHeld3
import Derived.Test.YtecnddogdiikiaaGreatF2
import Derived.Deep.QuietTactic
import Derived.BigQuiet
set_option linter.unusedVariables false
set_option linter.unusedSimpArgs false
namespace Go.Proofs.YtecnddogdiikiaaGreat
open Go Go.RowKit
set_option maxRecDepth 100000
set_option maxHeartbeats 600000

/-- a disk's value -/
abbrev rvv (x y : Value) (ft wh : Int) : Value := .agg #[x, y, .bool false, .int .i64 (-1), .int .i64 ft, .int .i64 wh]

theorem is_any (X : Option Addr) (B c : Nat) (Y : Option Addr) (n m : Nat) (ft wh : Int) (b : Nat) (hb : b < B) (w : World) :
    Calls Tryz.prog 164 #[rvv (.slice X B c) (.slice Y n m) ft wh, .int .i64 (b : Int)] w fun e w' => e = .returned (.bool true) ∧ Below w.heap.size w w' := by
  have hd : decide ((b : Int) < (B : Int)) = true := by simp; omega
  have hb1 : Below w.heap.size w (w.alloc (.cells #[.slice X B c, .slice Y n m, .bool false, .int .i64 (-1), .int .i64 ft, .int .i64 wh] 50)) := (Below.refl _ _).alloc (Nat.le_refl _) _
  go_enter Tryz.func164, Tryz.ntmps164
  go_wp2
  all_goals first | omega | skip
  go_ret
  exact ⟨rfl, hb1⟩

theorem agg50 : Go.Ev.aggN Tryz.prog 50 = some (some 6) := by kernel_rfl
/-- a result that lies in a box of a disk, and a number -/
theorem ret_disk {fn : Func} {p u : Tmp} (h : fn.results = #[.cell p 50, .tmp u]) {tmps : Array Value} {w : World} {g : Nat} {V : Array Value} (hp : tmps.getD p undef = .pointer (some ⟨g, 0, none⟩)) (hV : w.heap[g]? = some (.cells V 50 (0, 0))) (hz : V.size = 6) :
    (results fn tmps).run Tryz.prog w = .ok (.tuple #[.agg V, tmps.getD u undef]) w := by
  rw [results_cell_tmp h, hp]
  have hl := Go.Ev.run_loadVar_agg (P := Tryz.prog) (w := w) agg50 (a := ⟨g, 0, none⟩) (cs := V.toList) (by simp [hz]) (by
    intro j v hj
    have : (⟨g, 0, none⟩ : Addr).add j = ⟨g, j, none⟩ := by unfold Addr.add; split <;> simp_all
    rw [this]
    simp only [World.cell?, hV]
    simpa using hj)
  have ha : asAddr (.pointer (some ⟨g, 0, none⟩)) = pure ⟨g, 0, none⟩ := rfl
  rw [ha]
  simp only [Sem.run_pure, Result.andThen_ok]
  rw [hl]
  rfl

theorem sz50 : Go.Ev.szOf Tryz.prog 50 = some 6 := by kernel_rfl
theorem cells6 {w : World} {g : Nat} {a b c d e f : Value} (h : w.heap[g]? = some (.cells #[a, b, c, d, e, f] 50 (0, 0))) : w.cell? ⟨g, 0, none⟩ = some a ∧ w.cell? ⟨g, 1, none⟩ = some b ∧ w.cell? ⟨g, 2, none⟩ = some c ∧ w.cell? ⟨g, 3, none⟩ = some d ∧ w.cell? ⟨g, 4, none⟩ = some e ∧ w.cell? ⟨g, 5, none⟩ = some f :=
  ⟨cellD h 0, cellD h 1, cellD h 2, cellD h 3, cellD h 4, cellD h 5⟩

theorem set6 {W : World} {g : Nat} {a0 a1 a2 a3 a4 a5 : Value} (h : W.heap[g]? = some (.cells #[a0, a1, a2, a3, a4, a5] 50 (0, 0))) (v0 v1 v2 v3 v4 v5 : Value) :
    ((((((W.setCell ⟨g, 0, none⟩ v0).setCell ⟨g, 1, none⟩ v1).setCell ⟨g, 2, none⟩ v2).setCell ⟨g, 3, none⟩ v3).setCell ⟨g, 4, none⟩ v4).setCell ⟨g, 5, none⟩ v5).heap[g]? = some (.cells #[v0, v1, v2, v3, v4, v5] 50 (0, 0)) ∧
    ∀ B, B ≤ g → Below B W ((((((W.setCell ⟨g, 0, none⟩ v0).setCell ⟨g, 1, none⟩ v1).setCell ⟨g, 2, none⟩ v2).setCell ⟨g, 3, none⟩ v3).setCell ⟨g, 4, none⟩ v4).setCell ⟨g, 5, none⟩ v5) := by
  refine ⟨?_, fun B hB => ((((((Below.refl _ _).setCell hB _).setCell hB _).setCell hB _).setCell hB _).setCell hB _).setCell hB _⟩
  have hh : ∀ {w : World} {k : Nat} {C : Array Value} (_ : w.heap[g]? = some (.cells C 50 (0, 0))) (v : Value), (w.setCell ⟨g, k, none⟩ v).heap[g]? = some (.cells (C.setIfInBounds k v) 50 (0, 0)) := fun {w k C} h v => by rw [heap_setCell_same w g k _ _ _ h]
  exact hh (hh (hh (hh (hh (hh h v0) v1) v2) v3) v4) v5

theorem drew_get {W : World} {g : Nat} {o : Option Obj} (h : W.heap[g]? = o) : W.drew.heap[g]? = o := h
theorem roper_any (X : Option Addr) (B c : Nat) (Y : Option Addr) (n m : Nat) (ft wh : Int) (h1 : -1 ≤ ft) (h2 : ft ≤ 1000) (w : World) :
    Calls Tryz.prog 169 #[rvv (.slice X B c) (.slice Y n m) ft wh] w fun e w' => e = .returned (.tuple #[rvv (.slice X B c) (.slice Y n m) (opF ft) wh, .int .i64 (opE ft wh)]) ∧ Below w.heap.size w w' := by
  obtain ⟨W1, hW1⟩ : ∃ W1, ((w.alloc (.cells #[.slice X B c, .slice Y n m, .bool false, .int .i64 (-1), .int .i64 ft, .int .i64 wh] 50)).alloc (.cells #[.slice none 0 0, .slice none 0 0, .bool false, .int .i64 0, .int .i64 0, .int .i64 0] 50)).drew = W1 := ⟨_, rfl⟩
  have g1 : W1.heap[w.heap.size]? = some (.cells #[.slice X B c, .slice Y n m, .bool false, .int .i64 (-1), .int .i64 ft, .int .i64 wh] 50 (0, 0)) := by rw [← hW1]; exact (Below.heap_alloc _ _ _ (by simp)).trans (heap_alloc_new w _)
  have g2 : W1.heap[w.heap.size + 1]? = some (.cells #[.slice none 0 0, .slice none 0 0, .bool false, .int .i64 0, .int .i64 0, .int .i64 0] 50 (0, 0)) := by
    rw [← hW1]
    have := heap_alloc_new (w.alloc (.cells #[.slice X B c, .slice Y n m, .bool false, .int .i64 (-1), .int .i64 ft, .int .i64 wh] 50)) (.cells #[.slice none 0 0, .slice none 0 0, .bool false, .int .i64 0, .int .i64 0, .int .i64 0] 50)
    rw [World.size_alloc] at this
    exact this
  have b1 : Below w.heap.size w W1 := by rw [← hW1]; exact (((Below.refl _ _).alloc (Nat.le_refl _) _).alloc (by simp) _).trans (drewN_below _ _ 1)
  obtain ⟨c0, c1, c2, c3, c4, c5⟩ := cells6 g1
  have f4 := frozenD g1 4
  by_cases hm : ft = -1
  · subst hm
    go_enter Tryz.func169, Tryz.ntmps169
    go_wp2
    refine stillW 7 (by kernel_rfl) (by kernel_rfl) W1 hW1 ?_
    simp only [List.take_succ_cons, List.take_zero, List.drop_succ_cons, List.drop_zero]
    repeat still_step
    refine wpStill_nil ?_
    go_wp2_with (refine stV rfl 50 (.tmp 2) (.tmp 36) rfl rfl (w.heap.size + 1) 0 rfl 6 sz50 _ (rvv (.slice X B c) (.slice Y n m) (-1) wh) 50 g2 rfl (by simp) rfl (by simp [Value.cells, Value.oneCell']) ?_; intro w10 g10 o10 b10 z10)
    refine bodyPost_ret (ret_disk rfl rfl g10 rfl) rfl ?_
    exact ⟨rfl, b1.trans (b10 _ (Nat.le_succ _))⟩
  · obtain ⟨W2, hW2⟩ : ∃ W2, W1.setCell ⟨w.heap.size, 4, none⟩ (.int .i64 (ft - 1)) = W2 := ⟨_, rfl⟩
    have e1 : W2.heap[w.heap.size]? = some (.cells #[.slice X B c, .slice Y n m, .bool false, .int .i64 (-1), .int .i64 (ft - 1), .int .i64 wh] 50 (0, 0)) := by rw [← hW2, heap_setCell_same W1 _ 4 _ _ _ g1]; rfl
    have e2 : W2.heap[w.heap.size + 1]? = some (.cells #[.slice none 0 0, .slice none 0 0, .bool false, .int .i64 0, .int .i64 0, .int .i64 0] 50 (0, 0)) := by rw [← hW2]; exact (Below.heap_setCell W1 _ _ _ (by simp)).trans g2
    have b2 : Below w.heap.size w W2 := by rw [← hW2]; exact b1.setCell (by simp) _
    obtain ⟨d0, d1, d2, d3, d4, d5⟩ := cells6 e1
    by_cases hz : ft = 0
    · subst hz
      go_enter Tryz.func169, Tryz.ntmps169
      go_wp2
      refine stillW 7 (by kernel_rfl) (by kernel_rfl) W1 hW1 ?_
      simp only [List.take_succ_cons, List.take_zero, List.drop_succ_cons, List.drop_zero]
      repeat still_step
      refine wpStill_nil ?_
      have hW2' : W1.setCell ⟨w.heap.size, 4, none⟩ (.int .i64 (-1)) = W2 := hW2
      have d4' : W2.cell? ⟨w.heap.size, 4, none⟩ = some (.int .i64 (-1)) := d4
      clear d4 hW2 e1 g1
      obtain ⟨q0, q1, q2, q3, q4, q5⟩ := cells6 e2
      have z0 := frozenD e2 0
      have z1 := frozenD e2 1
      have z2 := frozenD e2 2
      have z3 := frozenD e2 3
      have z4 := frozenD e2 4
      have z5 := frozenD e2 5
      go_wp2
      have S6 := set6 (W := W2) (g := w.heap.size + 1) e2 (.slice X B c) (.slice Y n m) (.bool false) (.int .i64 (-1)) (.int .i64 (-1)) (.int .i64 wh)
      have B6 := (b2.trans (S6.2 _ (Nat.le_succ _))).trans (drewN_below _ _ 1)
      have S7 := drew_get S6.1
      go_region_held3 (fun w' => w'.cell? ⟨w.heap.size, 0, none⟩ = some (.slice X B c) ∧ w'.cell? ⟨w.heap.size, 1, none⟩ = some (.slice Y n m) ∧ w'.cell? ⟨w.heap.size, 2, none⟩ = some (.bool false) ∧ w'.cell? ⟨w.heap.size, 3, none⟩ = some (.int .i64 (-1)) ∧ w'.cell? ⟨w.heap.size, 4, none⟩ = some (.int .i64 (-1)) ∧ w'.cell? ⟨w.heap.size, 5, none⟩ = some (.int .i64 wh))
        (go_keep)
        (first | (fail))
      all_goals
        go_wp2
        refine bodyPost_ret (ret_disk (g := w.heap.size + 1) (V := #[.slice X B c, .slice Y n m, .bool false, .int .i64 (-1), .int .i64 (-1), .int .i64 wh]) rfl rfl S7 rfl) rfl ?_
        exact ⟨rfl, B6⟩
    · go_enter Tryz.func169, Tryz.ntmps169
      go_wp2
      refine stillW 7 (by kernel_rfl) (by kernel_rfl) W1 hW1 ?_
      simp only [List.take_succ_cons, List.take_zero, List.drop_succ_cons, List.drop_zero]
      repeat still_step
      refine wpStill_nil ?_
      go_wp2_with (refine stV rfl 50 (.tmp 2) (.tmp 36) rfl rfl (w.heap.size + 1) 0 rfl 6 sz50 _ (rvv (.slice X B c) (.slice Y n m) (ft - 1) wh) 50 e2 rfl (by simp) rfl (by simp [Value.cells, Value.oneCell']) ?_; intro w10 g10 o10 b10 z10)
      refine bodyPost_ret (ret_disk rfl rfl g10 rfl) rfl ?_
      exact ⟨by rw [opF, opE, if_neg hm, if_neg hz]; rfl, b2.trans (b10 _ (Nat.le_succ _))⟩

theorem failing_any (X : Option Addr) (B c : Nat) (Y : Option Addr) (n m : Nat) (ft wh : Int) (f : Nat) (w : World) :
    Calls Tryz.prog 19 #[rvv (.slice X B c) (.slice Y n m) ft wh, .int .i64 (f : Int), .int .i64 5] w fun e w' => e = .returned (.tuple #[rvv (.slice X B c) (.slice Y n m) f 5, .int .i64 0]) ∧ Below w.heap.size w w' := by
  go_enter Tryz.func19, Tryz.ntmps19
  go_wp2
  all_goals first | omega | skip
  have g2 : ((w.alloc (.cells #[.slice X B c, .slice Y n m, .bool false, .int .i64 (-1), .int .i64 (f : Int), .int .i64 5] 50)).alloc (.cells #[.slice X B c, .slice Y n m, .bool false, .int .i64 (-1), .int .i64 (f : Int), .int .i64 5] 50)).heap[w.heap.size + 1]? = some (.cells #[.slice X B c, .slice Y n m, .bool false, .int .i64 (-1), .int .i64 (f : Int), .int .i64 5] 50 (0, 0)) := by
    have := heap_alloc_new (w.alloc (.cells #[.slice X B c, .slice Y n m, .bool false, .int .i64 (-1), .int .i64 (f : Int), .int .i64 5] 50)) (.cells #[.slice X B c, .slice Y n m, .bool false, .int .i64 (-1), .int .i64 (f : Int), .int .i64 5] 50)
    rw [World.size_alloc] at this
    exact this
  refine bodyPost_ret (ret_disk rfl rfl g2 rfl) rfl ?_
  exact ⟨rfl, ((Below.refl _ _).alloc (Nat.le_refl _) _).alloc (by simp) _⟩

end Go.Proofs.YtecnddogdiikiaaGreat

