/-
  chanceryref16.seal (f55).
-/
import Derived.Test.YtecnddogdiikiaaGreatR11
set_option linter.unusedVariables false
set_option linter.unusedSimpArgs false
namespace Go.Proofs.YtecnddogdiikiaaGreat
open Go Go.RowKit
set_option maxRecDepth 100000
set_option maxHeartbeats 3000000

theorem Rv.gen {w : World} {lo : Nat} {v : Value} {P : PD} (h : Rv w lo v P) : ∃ X B rc Y n m ft wh, v = rvv (.slice X B rc) (.slice Y n m) ft wh := by
  obtain ⟨x, y, rfl, ⟨g, o, c, rfl, -⟩, ⟨Y, m, rfl, -, -⟩, -⟩ := h
  exact ⟨_, _, _, _, _, _, _, _, rfl⟩

theorem headR (L : Nat) (ok : OkH (firstH L)) (w1 : World) : Calls Tryz.prog 106 #[.agg #[.int .i64 (L : Int), .int .i64 1, .int .i64 0, .int .i64 1, .int .i64 1, .slice none 0 0, .slice none 0 0]] w1 fun e w' => (∃ A' c', e = .returned (.tuple #[.slice A' 4080 c', .int .i64 0]) ∧ Rd w' w'.heap.size A' (headB (firstH L))) ∧ Below w1.heap.size w1 w' :=
  refbytes_ok (firstH L) ok none none 0 0 0 0 w1 (.nil _ _ _) (.nil _ _ _) rfl rfl

theorem rsealH_any {w : World} {lo : Nat} {v : Value} {P : PD} (h : Rv w lo v P) (hlo : lo ≤ w.heap.size) (hB : 1 < P.bs.length) (hlen : P.bs.length ≤ 1000000) (L : Nat) (h1 : 24 ≤ L) (h2 : L ≤ 1024) (hw : P.ws.length ≤ 80) :
    Calls Tryz.prog 55 #[v, .agg #[.int .i64 (L : Int), .int .i64 1, .int .i64 0, .int .i64 1, .int .i64 1, .slice none 0 0, .slice none 0 0], .int .i64 1] w fun e w' =>
      (∃ v', e = .returned (.tuple #[v', .int .i64 (bindP (P.put 1 (sealed (headB (firstH L)) 1)) fun P4 => P4.sync).2]) ∧ Rv w' lo v' (bindP (P.put 1 (sealed (headB (firstH L)) 1)) fun P4 => P4.sync).1) ∧ Below w.heap.size w w' := by
  have ok := firstH_ok h1 h2
  have HBl := headB_len ok
  have hbs := headR L ok
  generalize headB (firstH L) = q at *
  have hsl := sealed_len (s := 1) HBl
  have Sl : ∀ (w1 : World) (A : Option Addr) (c : Nat), Rd w1 w1.heap.size A q → Calls Tryz.prog 102 #[.slice A 4080 c, .int .u64 1] w1 fun e w' => (∃ A c, e = .returned (.tuple #[.slice A 4096 c, .int .i64 0]) ∧ Rd w' w'.heap.size A (sealed q 1)) ∧ Below w1.heap.size w1 w' := by
    intro w1 A c hr
    refine (rseal_any A c 1 q w1 hr HBl (by omega)).mono ?_
    rintro e w' ⟨⟨u, rfl, ho⟩, hb⟩
    obtain ⟨A, c, rfl, -, -, hrd⟩ := ho.sl hsl
    exact ⟨⟨A, c, rfl, hrd⟩, hb⟩
  generalize sealed q 1 = r at *
  have Pt : ∀ (w1 : World) (A : Option Addr) (c : Nat), Below w.heap.size w w1 → Rd w1 w1.heap.size A r → Calls Tryz.prog 104 #[v, .int .i64 1, .slice A 4096 c] w1 fun e w' => (∃ X B rc Y n m ft wh, e = .returned (.tuple #[rvv (.slice X B rc) (.slice Y n m) ft wh, .int .i64 (P.put 1 r).2]) ∧ Rv w' lo (rvv (.slice X B rc) (.slice Y n m) ft wh) (P.put 1 r).1) ∧ Below w1.heap.size w1 w' := by
    intro w1 A c hb hr
    refine (rput_any (h.same (Up.below hb)) (Nat.le_trans hlo hb.size) 1 hB A c r hr hsl (by omega)).mono ?_
    rintro e w' ⟨⟨v', rfl, hv⟩, hb⟩
    obtain ⟨X, B, rc, Y, n, m, ft, wh, rfl⟩ := hv.gen
    exact ⟨⟨X, B, rc, Y, n, m, ft, wh, rfl, hv⟩, hb⟩
  have hwl : (P.put 1 r).1.ws.length ≤ 90 := by unfold PD.put; split <;> simp [PD.stop] <;> omega
  have hbl : (P.put 1 r).1.bs.length = P.bs.length := PD.put_len _ _ _
  obtain ⟨P2, t, hPt⟩ : ∃ P2 t, P.put 1 r = (P2, t) := ⟨_, _, rfl⟩
  rw [hPt] at Pt hwl hbl ⊢
  clear hPt
  simp only at Pt hwl hbl
  obtain ⟨X, B, rc, Y, n, m, ft, wh, rfl⟩ := h.gen
  obtain ⟨W0, hW0⟩ : ∃ W0, ((w.alloc (.cells #[.slice X B rc, .slice Y n m, .bool false, .int .i64 (-1), .int .i64 ft, .int .i64 wh] 50)).alloc (.cells #[.int .i64 (L : Int), .int .i64 1, .int .i64 0, .int .i64 1, .int .i64 1, .slice none 0 0, .slice none 0 0] 28)).alloc (.cells #[.slice none 0 0, .slice none 0 0, .bool false, .int .i64 0, .int .i64 0, .int .i64 0] 50) = W0 := ⟨_, rfl⟩
  have b0 : Below w.heap.size w W0 := by rw [← hW0]; exact (((Below.refl _ _).alloc (Nat.le_refl _) _).alloc (by simp) _).alloc (by simp; omega) _
  have g3 : W0.heap[w.heap.size]? = some (.cells #[.slice X B rc, .slice Y n m, .bool false, .int .i64 (-1), .int .i64 ft, .int .i64 wh] 50 (0, 0)) := by rw [← hW0]; exact (Below.heap_alloc _ _ _ (by simp; omega)).trans ((Below.heap_alloc _ _ _ (by simp)).trans (heap_alloc_new w _))
  have g4 : W0.heap[w.heap.size + 1]? = some (.cells #[.int .i64 (L : Int), .int .i64 1, .int .i64 0, .int .i64 1, .int .i64 1, .slice none 0 0, .slice none 0 0] 28 (0, 0)) := by
    rw [← hW0]
    refine (Below.heap_alloc _ _ _ (by simp)).trans ?_
    have := heap_alloc_new (w.alloc (.cells #[.slice X B rc, .slice Y n m, .bool false, .int .i64 (-1), .int .i64 ft, .int .i64 wh] 50)) (.cells #[.int .i64 (L : Int), .int .i64 1, .int .i64 0, .int .i64 1, .int .i64 1, .slice none 0 0, .slice none 0 0] 28)
    simpa using this
  have g6 : W0.heap[w.heap.size + 1 + 1]? = some (.cells #[.slice none 0 0, .slice none 0 0, .bool false, .int .i64 0, .int .i64 0, .int .i64 0] 50 (0, 0)) := by
    rw [← hW0]
    have := heap_alloc_new ((w.alloc (.cells #[.slice X B rc, .slice Y n m, .bool false, .int .i64 (-1), .int .i64 ft, .int .i64 wh] 50)).alloc (.cells #[.int .i64 (L : Int), .int .i64 1, .int .i64 0, .int .i64 1, .int .i64 1, .slice none 0 0, .slice none 0 0] 28)) (.cells #[.slice none 0 0, .slice none 0 0, .bool false, .int .i64 0, .int .i64 0, .int .i64 0] 50)
    simpa using this
  obtain ⟨c0, c1, c2, c3, c4, c5⟩ := cells6 g3
  have d0 := cellD g4 0
  have d1 := cellD g4 1
  have d2 := cellD g4 2
  have d3 := cellD g4 3
  have d4 := cellD g4 4
  have d5 := cellD g4 5
  have d6 := cellD g4 6
  have hz3 := hlt g3
  have hz6 := hlt g6
  clear h
  have hzz : w.heap.size ≤ w.heap.size + 1 + 1 := by omega
  by_cases ht : t = 0
  · subst ht
    rw [bindP_ok rfl]
    obtain ⟨P3, u, hPu⟩ : ∃ P3 u, P2.sync = (P3, u) := ⟨_, _, rfl⟩
    have Sy : ∀ (w1 : World) (v1 : Value), lo ≤ w1.heap.size → Rv w1 lo v1 P2 → Calls Tryz.prog 105 #[v1] w1 fun e w' => (∃ X B rc Y n m ft wh, e = .returned (.tuple #[rvv (.slice X B rc) (.slice Y n m) ft wh, .int .i64 u]) ∧ Rv w' lo (rvv (.slice X B rc) (.slice Y n m) ft wh) P3) ∧ Below w1.heap.size w1 w' := by
      intro w1 v1 hl hv1
      refine (rsync_any hv1 hl (by omega) (by omega) hwl).mono ?_
      rw [hPu]
      rintro e w' ⟨⟨v', rfl, hv⟩, hb⟩
      obtain ⟨X, B, rc, Y, n, m, ft, wh, rfl⟩ := hv.gen
      exact ⟨⟨X, B, rc, Y, n, m, ft, wh, rfl, hv⟩, hb⟩
    simp only
    rw [hPu]
    clear hPu
    go_enter Tryz.func55, Tryz.ntmps55
    go_wp2_with (first
      | (go_at_call 106
         with_reducible refine (hbs _).mono ?_
         rintro e w1 ⟨⟨A1, k1, rfl, r1⟩, hb1⟩
         have b1 := b0.trans (hb1.mono b0.size))
      | (go_at_call 102
         with_reducible refine (Sl _ _ _ r1).mono ?_
         rintro e w2 ⟨⟨A2, k2, rfl, r2⟩, hb2⟩
         have b12 := hb1.trans (hb2.mono hb1.size)
         have b2 := b0.trans (b12.mono b0.size)
         have pt := Pt w2 A2 k2 b2 r2
         obtain ⟨c0', c1', c2', c3', c4', c5'⟩ := cells6 ((b12.block _ hz3).trans g3)
         have g62 := (b12.block _ hz6).trans g6
         clear Pt Sl hbs c0 c1 c2 c3 c4 c5 d0 d1 d2 d3 d4 d5 d6)
      | (go_at_call 104
         with_reducible refine pt.mono ?_
         rintro e w3 ⟨⟨X3, B3, rc3, Y3, n3, m3, ft3, wh3, rfl, hv3⟩, hb3⟩
         have b3 := b2.trans (hb3.mono b2.size)
         obtain ⟨W4, hW4⟩ : ∃ W4, w3.alloc (.cells #[.slice X3 B3 rc3, .slice Y3 n3 m3, .bool false, .int .i64 (-1), .int .i64 ft3, .int .i64 wh3] 50) = W4 := ⟨_, rfl⟩
         have b34 : Below w3.heap.size w3 W4 := by rw [← hW4]; exact (Below.refl _ _).alloc (Nat.le_refl _) _
         have g44 : W4.heap[w3.heap.size]? = some (.cells #[.slice X3 B3 rc3, .slice Y3 n3 m3, .bool false, .int .i64 (-1), .int .i64 ft3, .int .i64 wh3] 50 (0, 0)) := by rw [← hW4]; exact heap_alloc_new w3 _
         have g64 := (b34.block _ (Nat.lt_of_lt_of_le (hlt g62) hb3.size)).trans ((hb3.block _ (hlt g62)).trans g62)
         have b4 : Below w.heap.size w W4 := b3.trans (b34.mono b3.size)
         have hv4 := hv3.same (Up.below b34)
         obtain ⟨e0, e1, e2, e3, e4, e5⟩ := cells6 g44
         clear hv3 g62 c0' c1' c2' c3' c4' c5' pt)
      | (go_at_call 105
         with_reducible refine (Sy _ _ (Nat.le_trans hlo b4.size) hv4).mono ?_
         rintro e w5 ⟨⟨X5, B5, rc5, Y5, n5, m5, ft5, wh5, rfl, hv5⟩, hb5⟩
         have g65 := (hb5.block _ (hlt g64)).trans g64)
      | (refine stV rfl 50 (.tmp 6) (.tmp 43) rfl rfl (w.heap.size + 1 + 1) 0 rfl 6 sz50 _ (rvv (.slice X5 B5 rc5) (.slice Y5 n5 m5) ft5 wh5) 50 g65 rfl (by simp) rfl (by simp [Value.cells, Value.oneCell']) ?_; intro w10 g10 o10 b10 z10))
    have g11 : w10.heap[w.heap.size + 1 + 1]? = some (.cells #[.slice X5 B5 rc5, .slice Y5 n5 m5, .bool false, .int .i64 (-1), .int .i64 ft5, .int .i64 wh5] 50 (0, 0)) := by rw [g10]; rfl
    refine bodyPost_ret (ret_disk rfl rfl g11 rfl) rfl ?_
    exact ⟨⟨_, rfl, hv5.tk (Tk.of_put g65 (by decide) o10 (Nat.le_of_eq z10.symm))⟩, (b4.trans (hb5.mono b4.size)).trans (b10 _ hzz)⟩
  · rw [bindP_no ht]
    go_enter Tryz.func55, Tryz.ntmps55
    go_wp2_with (first
      | (go_at_call 106
         with_reducible refine (hbs _).mono ?_
         rintro e w1 ⟨⟨A1, k1, rfl, r1⟩, hb1⟩
         have b1 := b0.trans (hb1.mono b0.size))
      | (go_at_call 102
         with_reducible refine (Sl _ _ _ r1).mono ?_
         rintro e w2 ⟨⟨A2, k2, rfl, r2⟩, hb2⟩
         have b12 := hb1.trans (hb2.mono hb1.size)
         have b2 := b0.trans (b12.mono b0.size)
         have pt := Pt w2 A2 k2 b2 r2
         obtain ⟨c0', c1', c2', c3', c4', c5'⟩ := cells6 ((b12.block _ hz3).trans g3)
         have g62 := (b12.block _ hz6).trans g6
         clear Pt Sl hbs c0 c1 c2 c3 c4 c5 d0 d1 d2 d3 d4 d5 d6)
      | (go_at_call 104
         with_reducible refine pt.mono ?_
         rintro e w3 ⟨⟨X3, B3, rc3, Y3, n3, m3, ft3, wh3, rfl, hv3⟩, hb3⟩
         have b3 := b2.trans (hb3.mono b2.size)
         obtain ⟨W4, hW4⟩ : ∃ W4, w3.alloc (.cells #[.slice X3 B3 rc3, .slice Y3 n3 m3, .bool false, .int .i64 (-1), .int .i64 ft3, .int .i64 wh3] 50) = W4 := ⟨_, rfl⟩
         have b34 : Below w3.heap.size w3 W4 := by rw [← hW4]; exact (Below.refl _ _).alloc (Nat.le_refl _) _
         have g44 : W4.heap[w3.heap.size]? = some (.cells #[.slice X3 B3 rc3, .slice Y3 n3 m3, .bool false, .int .i64 (-1), .int .i64 ft3, .int .i64 wh3] 50 (0, 0)) := by rw [← hW4]; exact heap_alloc_new w3 _
         have g64 := (b34.block _ (Nat.lt_of_lt_of_le (hlt g62) hb3.size)).trans ((hb3.block _ (hlt g62)).trans g62)
         have b4 : Below w.heap.size w W4 := b3.trans (b34.mono b3.size)
         have hv4 := hv3.same (Up.below b34)
         obtain ⟨e0, e1, e2, e3, e4, e5⟩ := cells6 g44
         clear hv3 g62 c0' c1' c2' c3' c4' c5' pt)
      | (refine stV rfl 50 (.tmp 6) (.tmp 39) rfl rfl (w.heap.size + 1 + 1) 0 rfl 6 sz50 _ (rvv (.slice X3 B3 rc3) (.slice Y3 n3 m3) ft3 wh3) 50 g64 rfl (by simp) rfl (by simp [Value.cells, Value.oneCell']) ?_; intro w10 g10 o10 b10 z10))
    have g11 : w10.heap[w.heap.size + 1 + 1]? = some (.cells #[.slice X3 B3 rc3, .slice Y3 n3 m3, .bool false, .int .i64 (-1), .int .i64 ft3, .int .i64 wh3] 50 (0, 0)) := by rw [g10]; rfl
    refine bodyPost_ret (ret_disk rfl rfl g11 rfl) rfl ?_
    exact ⟨⟨_, rfl, hv4.tk (Tk.of_put g64 (by decide) o10 (Nat.le_of_eq z10.symm))⟩, b4.trans (b10 _ hzz)⟩
end Go.Proofs.YtecnddogdiikiaaGreat

