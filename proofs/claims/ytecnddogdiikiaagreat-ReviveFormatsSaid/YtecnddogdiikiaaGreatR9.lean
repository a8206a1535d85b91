/-
  chanceryref03.left (f170), where all writes are kept.
  chanceryref03.left (f170), where all writes are kept.
-/
import Derived.Test.YtecnddogdiikiaaGreatR7c
set_option linter.unusedVariables false
set_option linter.unusedSimpArgs false
namespace Go.Proofs.YtecnddogdiikiaaGreat
open Go Go.RowKit
set_option maxRecDepth 100000
set_option maxHeartbeats 3000000

theorem sz37r : Go.Ev.szOf Tryz.prog 37 = some 1 := by kernel_rfl

/-- a copy of the blocks' row -/
theorem appR {w0 w : World} {lo : Nat} {y : Value} {bs : List (List UInt8)} (h : Rrow w0 lo y bs) (hb0 : Below w0.heap.size w0 w) (hpos : 0 < bs.length) (hlen : bs.length ≤ 1000000) :
    ∃ g c w' cs, (Builtin.append_ #[45, 45] 45 #[.slice none 0 0, y]).run Tryz.prog w = .ok (.slice (some ⟨g, 0, none⟩) bs.length c) w' ∧ w.heap.size ≤ g ∧ w'.heap[g]? = some (.cells cs 37 (0, 0)) ∧ bs.length ≤ cs.size ∧ (∀ (k : Nat) (l : List UInt8), bs[k]? = some l → ∃ u, cs[k]? = some u ∧ Hb w0 lo u l) ∧ Below w.heap.size w w' := by
  obtain ⟨i0, hi, hz0, hz1, hz2⟩ := info_parts info37
  obtain ⟨g, o, c, rfl, h1, h2, h3, -⟩ := h
  obtain ⟨f, hf⟩ : ∃ f : ∀ k, k < bs.length → Value, ∀ k h, w0.cell? ⟨g, o + k, none⟩ = some (f k h) ∧ Hb w0 lo (f k h) bs[k] := ⟨fun k h => Classical.choose (h3 k h), fun k h => Classical.choose_spec (h3 k h)⟩
  have hf1 := fun k h => (hf k h).1
  have hf2 := fun k h => (hf k h).2
  obtain ⟨us, hus⟩ : ∃ us : List Value, us = List.ofFn (fun k : Fin bs.length => f k.1 k.2) := ⟨_, rfl⟩
  have hlu : us.length = bs.length := by rw [hus]; simp
  have hget : ∀ k (h : k < bs.length), us[k]? = some (f k h) := fun k h => by rw [hus, List.getElem?_ofFn]; simp [h]
  obtain ⟨v', w', hr, ho, hg, _, _⟩ := run_append_own_at (P := Tryz.prog) w w.heap.size 45 45 37 i0 _ 1 24 Tryz.underlying45 hi hz0 hz1 hz2 rfl (by omega) (.slice none 0 0) 0 [] (World.ownsRow_nil _ _ _ _) ⟨g, o, none⟩ bs.length c us (by rw [hlu]; omega) (fun j u hu => by
      rw [addOff]
      have hj : j < bs.length := by rw [← hlu]; exact (List.getElem?_eq_some_iff.1 hu).1
      rw [hget j hj] at hu
      cases hu
      exact (hb0.cell (p := ⟨g, o + j, none⟩) h2).trans (hf1 j hj))
    (fun u hu => by
      obtain ⟨k, hk, rfl⟩ := List.mem_iff_getElem.1 hu
      have := hget k (by omega)
      rw [List.getElem?_eq_getElem hk] at this
      rw [Option.some.inj this]
      exact (hf2 k _).one) (by simp [maxLen]; omega) (by omega) (Nat.le_refl _)
  have hb := grown_below hg (B := w.heap.size) (fun k hk => by simp [Value.ownBlock] at hk) (Nat.le_refl _)
  rcases ho.2 with ⟨_, e⟩ | ⟨g', cap, cur, rfl, e1, e2, e3, e4, e5, e6⟩
  · omega
  · simp only [Nat.zero_add] at hr e6 e3 ⊢
    refine ⟨g', cap, w', cur, hr, e1, e2, by omega, fun k l hk => ?_, hb⟩
    have hk' := (List.getElem?_eq_some_iff.1 hk).1
    refine ⟨f k hk', ?_, ?_⟩
    · have := hget k hk'
      simp only [List.nil_append] at e6
      rw [← e6, List.getElem?_take] at this
      split at this
      · simpa using this
      · cases this
    · have := hf2 k hk'
      rw [List.getElem?_eq_getElem hk'] at hk
      cases hk
      exact this

end Go.Proofs.YtecnddogdiikiaaGreat

namespace Go.Proofs.YtecnddogdiikiaaGreat
open Go Go.RowKit
set_option maxRecDepth 100000
set_option maxHeartbeats 3000000

theorem left_any {w0 w : World} (hw0 : Below w0.heap.size w0 w) {lo : Nat} {P : PD} (x y : Value) (ft wh : Int) (hrow : Rrow w0 lo x P.bs) (hws : Rws w0 lo y P.ws) (hok : P.Ok) (hpos : 0 < P.bs.length) (hlen : P.bs.length ≤ 1000000) (hn : P.ws.length ≤ 1000)
    (A : Option Addr) (c : Nat) (hA : ∀ j, j < P.ws.length → ∃ g o, A = some ⟨g, o, none⟩ ∧ g < w.heap.size ∧ w.cell? ⟨g, o + j, none⟩ = some (.bool true)) :
    Calls Tryz.prog 170 #[rvv x y ft wh, .agg #[.slice A P.ws.length c, .int .i64 (-1), .int .i64 0]] w fun e w' => (∃ G C, e = .returned (.slice (some ⟨G, 0, none⟩) P.bs.length C) ∧ w.heap.size ≤ G ∧ G < w'.heap.size ∧ (∃ x, w'.heap[G]? = some (Obj.cells x 37 (0, 0))) ∧ ∀ (k : Nat) (l : List UInt8), (carry P.bs P.ws)[k]? = some l → ∃ u, w'.cell? ⟨G, k, none⟩ = some u ∧ Hb w0 lo u l) ∧ Below w.heap.size w w' := by
  have hrow0 := hrow
  obtain ⟨g, o, rc, rfl, hg1, hg2, hg3⟩ := hrow0
  have hws0 := hws
  obtain ⟨Y, m, rfl, -, -⟩ := hws0
  obtain ⟨B, hB⟩ : ∃ B, B = P.bs.length := ⟨_, rfl⟩
  obtain ⟨n, hN⟩ : ∃ n, n = P.ws.length := ⟨_, rfl⟩
  obtain ⟨W0, hW0⟩ : ∃ W0, (w.alloc (.cells #[.slice (some ⟨g, o, none⟩) B rc, .slice Y n m, .bool false, .int .i64 (-1), .int .i64 ft, .int .i64 wh] 50)).alloc (.cells #[.slice A n c, .int .i64 (-1), .int .i64 0] 109) = W0 := ⟨_, rfl⟩
  have g3 : W0.heap[w.heap.size]? = some (.cells #[.slice (some ⟨g, o, none⟩) B rc, .slice Y n m, .bool false, .int .i64 (-1), .int .i64 ft, .int .i64 wh] 50 (0, 0)) := by rw [← hW0]; exact (Below.heap_alloc _ _ _ (by simp)).trans (heap_alloc_new w _)
  have g6 : W0.heap[w.heap.size + 1]? = some (.cells #[.slice A n c, .int .i64 (-1), .int .i64 0] 109 (0, 0)) := by
    rw [← hW0]
    have := heap_alloc_new (w.alloc (.cells #[.slice (some ⟨g, o, none⟩) B rc, .slice Y n m, .bool false, .int .i64 (-1), .int .i64 ft, .int .i64 wh] 50)) (.cells #[.slice A n c, .int .i64 (-1), .int .i64 0] 109)
    rw [World.size_alloc] at this
    exact this
  have b0 : Below w.heap.size w W0 := by rw [← hW0]; exact ((Below.refl _ _).alloc (Nat.le_refl _) _).alloc (by simp) _
  have b00 : Below w0.heap.size w0 W0 := hw0.trans (b0.mono hw0.size)
  have e0 : W0.cell? ⟨w.heap.size, 0, none⟩ = some (.slice (some ⟨g, o, none⟩) B rc) := cellD g3 0
  have e1 : W0.cell? ⟨w.heap.size, 1, none⟩ = some (.slice Y n m) := cellD g3 1
  have f0 : W0.cell? ⟨w.heap.size + 1, 0, none⟩ = some (.slice A n c) := cellD g6 0
  have f1 : W0.cell? ⟨w.heap.size + 1, 1, none⟩ = some (.int .i64 (-1)) := cellD g6 1
  have hz := hlt g6
  obtain ⟨G, c', w1, cs1, hap, hG, hG1, hcs, hcell, hb1⟩ := appR (w := W0) hrow b00 hpos hlen
  rw [← hB] at hap hcs hpos hlen
  rw [← hN] at hn hA ⊢
  rw [← hB]
  have HG := Lib.hid hG
  have HB := Lib.hid hB
  have HN := Lib.hid hN
  clear hB hN hG
  go_enter Tryz.func170, Tryz.ntmps170
  go_wp2_with (at_builtin; refine Lib.wpList_append_run _ rfl _ _ _ _ rfl _ _ rfl rfl _ _ hap ?_; have d0 := (hb1.cell (p := ⟨w.heap.size, 0, none⟩) (Nat.lt_of_succ_lt hz)).trans e0;  have d1 := (hb1.cell (p := ⟨w.heap.size, 1, none⟩) (Nat.lt_of_succ_lt hz)).trans e1; clear hap)
  have B1 : Below W0.heap.size W0 w1 := hb1
  clear e0 hg3
  go_loopw [6, 7] (fun i _ wr => ∃ k : Nat, k ≤ n ∧ i = .int .i64 k ∧ (∃ cs, wr.heap[G]? = some (.cells cs 37 (0, 0)) ∧ B ≤ cs.size ∧ ∀ (j : Nat) (l : List UInt8), (carry P.bs (P.ws.take k))[j]? = some l → ∃ u, cs[j]? = some u ∧ Hb w0 lo u l) ∧ Below W0.heap.size W0 wr) (fun i _ _ => n - (intOf i).toNat)
  case atStart => exact ⟨0, Nat.zero_le _, rfl, ⟨cs1, hG1, hcs, fun j l h => hcell j l h⟩, B1⟩
  case round =>
    obtain ⟨k, hk, rfl, ⟨cs, hc1, hc2, hc3⟩, hbr⟩ := hrel
    have e1' := (hbr.cell (p := ⟨w.heap.size, 1, none⟩) (Nat.lt_of_succ_lt hz)).trans e1
    have f0' := (hbr.cell (p := ⟨w.heap.size + 1, 0, none⟩) hz).trans f0
    have f1' := (hbr.cell (p := ⟨w.heap.size + 1, 1, none⟩) hz).trans f1
    by_cases hlt' : k < n
    · have hkl : k < P.ws.length := by have := HN.out; omega
      have hd1 : decide (k < n) = true := by simp [hlt']
      obtain ⟨gw, ow, cw, u, hv, hgw1, hgw2, q0, q1, hbu⟩ := hws.at_ hkl
      injection hv with hY _ hm
      subst hY hm
      obtain ⟨ga, oa, hAe, hga, qa⟩ := hA k hlt'
      subst hAe
      have q0' := (hbr.cell (p := ⟨gw, ow + k * 2, none⟩) (Nat.lt_of_lt_of_le hgw2 b00.size)).trans ((b00.cell (p := ⟨gw, ow + k * 2, none⟩) hgw2).trans q0)
      rw [← Nat.add_assoc] at q1
      have q1' := (hbr.cell (p := ⟨gw, ow + k * 2 + 1, none⟩) (Nat.lt_of_lt_of_le hgw2 b00.size)).trans ((b00.cell (p := ⟨gw, ow + k * 2 + 1, none⟩) hgw2).trans q1)
      have qa' := (hbr.cell (p := ⟨ga, oa + k, none⟩) (Nat.lt_of_lt_of_le hga b0.size)).trans ((b0.cell (p := ⟨ga, oa + k, none⟩) hga).trans qa)
      have hbl : P.ws[k].1 < B := by rw [HB.out]; exact (hok.wlens _ (List.getElem_mem hkl)).1
      obtain ⟨b, hb0⟩ : ∃ b, b = P.ws[k].1 := ⟨_, rfl⟩
      rw [← hb0] at hbl q0'
      have hbu0 := hbu
      obtain ⟨ub, uo, uc, rfl, -⟩ := hbu0
      have HB0 := Lib.hid hb0
      clear hb0 q0 q1 qa
      go_wp2_with (refine stV rfl 37 (.tmp 73) (.tmp 72) rfl rfl G b rfl 1 sz37r cs (.slice (some ⟨ub, uo, none⟩) 4096 uc) 37 hc1 rfl (by omega) rfl (by simp [Value.cells, Value.oneCell']) ?_; intro w9 g9 o9 b9 z9)
      have g9' : w9.heap[G]? = some (.cells (cs.setIfInBounds b (.slice (some ⟨ub, uo, none⟩) 4096 uc)) 37 (0, 0)) := g9
      refine ⟨⟨k + 1, by omega, by go_num, ⟨_, g9', by simpa using hc2, fun j l hl => ?_⟩, hbr.trans (b9 _ HG.out)⟩, by simp [intOf] <;> omega⟩
      rw [carry_take hkl, List.getElem?_set, ← HB0.out] at hl
      by_cases hj : b = j
      · subst hj
        rw [if_pos rfl] at hl
        split at hl
        · cases hl
          exact ⟨_, Array.getElem?_setIfInBounds_self_of_lt (Nat.lt_of_lt_of_le hbl hc2), hbu⟩
        · cases hl
      · rw [if_neg hj] at hl
        obtain ⟨u', h1, h2⟩ := hc3 j l hl
        exact ⟨u', by rw [Array.getElem?_setIfInBounds, if_neg hj]; exact h1, h2⟩
    · obtain rfl : k = n := by omega
      go_wp2
      go_ret
      have bf : Below w.heap.size w wr := b0.trans (hbr.mono b0.size)
      rw [List.take_of_length_le (by have := HN.out; omega)] at hc3
      refine ⟨⟨G, c', rfl, Nat.le_trans b0.size HG.out, hlt hc1, ⟨_, hc1⟩, fun j l hj => ?_⟩, bf⟩
      obtain ⟨u, h1, h2⟩ := hc3 j l hj
      exact ⟨u, (cellD hc1 j).trans h1, h2⟩
end Go.Proofs.YtecnddogdiikiaaGreat

