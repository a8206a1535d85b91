/-
  chanceryref16.Format (f20).
  chanceryref16.Format (f20), where a disk without a head is made ready.
-/
import Derived.Test.YtecnddogdiikiaaGreatR13
import Derived.Test.YtecnddogdiikiaaGreatR14
import Derived.Test.YtecnddogdiikiaaGreatD7
set_option linter.unusedVariables false
set_option linter.unusedSimpArgs false
namespace Go.Proofs.YtecnddogdiikiaaGreat
open Go Go.RowKit
set_option maxRecDepth 100000
set_option maxHeartbeats 3000000

theorem bindP_assoc (x : PD × Int) (f g : PD → PD × Int) : bindP (bindP x f) g = bindP x fun P => bindP (f P) g := by
  by_cases h : x.2 = 0
  · rw [bindP_ok (f := f) h, bindP_ok h]
  · rw [bindP_no (f := f) h, bindP_no h, bindP_no h]
theorem goP_lay (P : PD) (L : Nat) : goP P L = bindP (layP P L) fun P3 => bindP (P3.put 1 (sealed (headB (firstH L)) 1)) fun P4 => P4.sync := by
  unfold goP layP
  rw [bindP_assoc]
  congr 1
  funext P1
  rw [bindP_assoc]

theorem Rv.set {w w' : World} {lo g : Nat} {v : Value} {P : PD} {C : Array Value} (h : Rv w lo v P) (g3 : w.heap[g]? = some (.cells C 50 (0, 0))) (o : ∀ j, j ≠ g → w'.heap[j]? = w.heap[j]?) (z : w'.heap.size = w.heap.size) : Rv w' lo v P :=
  h.tk (Tk.of_put g3 (by decide) o (Nat.le_of_eq z.symm))

theorem rformat_bad {w : World} {lo : Nat} {v : Value} {P : PD} (h : Rv w lo v P) (hB : P.bs.length ≤ 4096) (log : Int) (hlo : -9223372036854775808 ≤ log) (hhi : log ≤ 9223372036854775807) (hbad : log < 24 ∨ 1024 < log ∨ (P.bs.length : Int) < 10 + log) :
    Calls Tryz.prog 20 #[v, .int .i64 log] w fun e w' => (∃ v', e = .returned (.tuple #[v', .int .i64 2]) ∧ Rv w' lo v' P) ∧ Below w.heap.size w w' := by
  have h' := h
  obtain ⟨x, y, rfl, hrow, hws, hok⟩ := h'
  obtain ⟨g, o, rc, rfl, -⟩ := hrow
  obtain ⟨Y, m, rfl, -, -⟩ := hws
  obtain ⟨B, hBB⟩ : ∃ B, B = P.bs.length := ⟨_, rfl⟩
  obtain ⟨n, hn⟩ : ∃ n, n = P.ws.length := ⟨_, rfl⟩
  obtain ⟨ft, hft⟩ : ∃ ft, ft = P.ft := ⟨_, rfl⟩
  obtain ⟨wh, hwh⟩ : ∃ wh, wh = P.wh := ⟨_, rfl⟩
  rw [← hBB, ← hn, ← hft, ← hwh] at h ⊢
  rw [← hBB] at hB hbad
  clear hBB hn hft hwh
  obtain ⟨W0, hW0⟩ : ∃ W0, (w.alloc (.cells #[.slice (some ⟨g, o, none⟩) B rc, .slice Y n m, .bool false, .int .i64 (-1), .int .i64 ft, .int .i64 wh] 50)).alloc (.cells #[.slice none 0 0, .slice none 0 0, .bool false, .int .i64 0, .int .i64 0, .int .i64 0] 50) = W0 := ⟨_, rfl⟩
  have b0 : Below w.heap.size w W0 := by rw [← hW0]; exact ((Below.refl _ _).alloc (Nat.le_refl _) _).alloc (by simp) _
  have g3 : W0.heap[w.heap.size]? = some (.cells #[.slice (some ⟨g, o, none⟩) B rc, .slice Y n m, .bool false, .int .i64 (-1), .int .i64 ft, .int .i64 wh] 50 (0, 0)) := by rw [← hW0]; exact (Below.heap_alloc _ _ _ (by simp)).trans (heap_alloc_new w _)
  have g6 : W0.heap[w.heap.size + 1]? = some (.cells #[.slice none 0 0, .slice none 0 0, .bool false, .int .i64 0, .int .i64 0, .int .i64 0] 50 (0, 0)) := by
    rw [← hW0]
    have := heap_alloc_new (w.alloc (.cells #[.slice (some ⟨g, o, none⟩) B rc, .slice Y n m, .bool false, .int .i64 (-1), .int .i64 ft, .int .i64 wh] 50)) (.cells #[.slice none 0 0, .slice none 0 0, .bool false, .int .i64 0, .int .i64 0, .int .i64 0] 50)
    rw [World.size_alloc] at this
    exact this
  have hv := h.same (Up.below b0)
  obtain ⟨c0, c1, c2, c3, c4, c5⟩ := cells6 g3
  clear h
  have fin : ∀ {w10 : World}, w10.heap[w.heap.size + 1]? = some (.cells #[.slice (some ⟨g, o, none⟩) B rc, .slice Y n m, .bool false, .int .i64 (-1), .int .i64 ft, .int .i64 wh] 50 (0, 0)) → (∀ j, j ≠ w.heap.size + 1 → w10.heap[j]? = W0.heap[j]?) → w10.heap.size = W0.heap.size → Rv w10 lo (rvv (.slice (some ⟨g, o, none⟩) B rc) (.slice Y n m) ft wh) P := fun _ o10 z10 => hv.set g6 o10 z10
  by_cases h1 : log < 24
  · go_enter Tryz.func20, Tryz.ntmps20
    go_wp2_with (refine stV rfl 50 (.tmp 4) (.tmp 27) rfl rfl (w.heap.size + 1) 0 rfl 6 sz50 _ (rvv (.slice (some ⟨g, o, none⟩) B rc) (.slice Y n m) ft wh) 50 g6 rfl (by simp) rfl (by simp [Value.cells, Value.oneCell']) ?_; intro w10 g10 o10 b10 z10)
    all_goals first | omega | skip
    have g11 : w10.heap[w.heap.size + 1]? = some (.cells #[.slice (some ⟨g, o, none⟩) B rc, .slice Y n m, .bool false, .int .i64 (-1), .int .i64 ft, .int .i64 wh] 50 (0, 0)) := by rw [g10]; rfl
    refine bodyPost_ret (ret_disk rfl rfl g11 rfl) rfl ?_
    exact ⟨⟨_, rfl, fin g11 o10 z10⟩, b0.trans (b10 _ (Nat.le_succ _))⟩
  · by_cases h2 : 1024 < log
    · go_enter Tryz.func20, Tryz.ntmps20
      go_wp2_with (refine stV rfl 50 (.tmp 4) (.tmp 27) rfl rfl (w.heap.size + 1) 0 rfl 6 sz50 _ (rvv (.slice (some ⟨g, o, none⟩) B rc) (.slice Y n m) ft wh) 50 g6 rfl (by simp) rfl (by simp [Value.cells, Value.oneCell']) ?_; intro w10 g10 o10 b10 z10)
      all_goals first | omega | skip
      have g11 : w10.heap[w.heap.size + 1]? = some (.cells #[.slice (some ⟨g, o, none⟩) B rc, .slice Y n m, .bool false, .int .i64 (-1), .int .i64 ft, .int .i64 wh] 50 (0, 0)) := by rw [g10]; rfl
      refine bodyPost_ret (ret_disk rfl rfl g11 rfl) rfl ?_
      exact ⟨⟨_, rfl, fin g11 o10 z10⟩, b0.trans (b10 _ (Nat.le_succ _))⟩
    · have w1 : IntKind.i64.wrap (2 + log) = 2 + log := wrap_fit (by omega)
      have w2 : IntKind.i64.wrap (2 + log + 8) = 2 + log + 8 := wrap_fit (by omega)
      have w3 : (B : Int) < 2 + log + 8 := by omega
      go_enter Tryz.func20, Tryz.ntmps20
      go_wp2_with (refine stV rfl 50 (.tmp 4) (.tmp 27) rfl rfl (w.heap.size + 1) 0 rfl 6 sz50 _ (rvv (.slice (some ⟨g, o, none⟩) B rc) (.slice Y n m) ft wh) 50 g6 rfl (by simp) rfl (by simp [Value.cells, Value.oneCell']) ?_; intro w10 g10 o10 b10 z10)
      all_goals first | omega | skip
      have g11 : w10.heap[w.heap.size + 1]? = some (.cells #[.slice (some ⟨g, o, none⟩) B rc, .slice Y n m, .bool false, .int .i64 (-1), .int .i64 ft, .int .i64 wh] 50 (0, 0)) := by rw [g10]; rfl
      refine bodyPost_ret (ret_disk rfl rfl g11 rfl) rfl ?_
      exact ⟨⟨_, rfl, fin g11 o10 z10⟩, b0.trans (b10 _ (Nat.le_succ _))⟩

theorem rformat_found {w : World} {lo : Nat} {v : Value} {P : PD} (h : Rv w lo v P) (hws0 : P.ws = []) (hB : P.bs.length ≤ 4096) (L : Nat) (h1 : 24 ≤ L) (h2 : L ≤ 1024) (h3 : 10 + L ≤ P.bs.length) (hh : readE P.bs = 0) :
    Calls Tryz.prog 20 #[v, .int .i64 (L : Int)] w fun e w' => (∃ v', e = .returned (.tuple #[v', .int .i64 260]) ∧ Rv w' lo v' P) ∧ Below w.heap.size w w' := by
  have hr := fun w1 (hb : Below w.heap.size w w1) => rread_any (h.same (Up.below hb)) hws0 (by omega) hB
  rw [hh] at hr
  have h' := h
  obtain ⟨x, y, rfl, hrow, hws, hok⟩ := h'
  obtain ⟨g, o, rc, rfl, -⟩ := hrow
  obtain ⟨Y, m, rfl, -, -⟩ := hws
  obtain ⟨B, hBB⟩ : ∃ B, B = P.bs.length := ⟨_, rfl⟩
  obtain ⟨n, hn⟩ : ∃ n, n = P.ws.length := ⟨_, rfl⟩
  obtain ⟨ft, hft⟩ : ∃ ft, ft = P.ft := ⟨_, rfl⟩
  obtain ⟨wh, hwh⟩ : ∃ wh, wh = P.wh := ⟨_, rfl⟩
  rw [← hBB, ← hn, ← hft, ← hwh] at h hr ⊢
  rw [← hBB] at hB h3
  clear hBB hn hft hwh
  obtain ⟨W0, hW0⟩ : ∃ W0, (w.alloc (.cells #[.slice (some ⟨g, o, none⟩) B rc, .slice Y n m, .bool false, .int .i64 (-1), .int .i64 ft, .int .i64 wh] 50)).alloc (.cells #[.slice none 0 0, .slice none 0 0, .bool false, .int .i64 0, .int .i64 0, .int .i64 0] 50) = W0 := ⟨_, rfl⟩
  have b0 : Below w.heap.size w W0 := by rw [← hW0]; exact ((Below.refl _ _).alloc (Nat.le_refl _) _).alloc (by simp) _
  have g3 : W0.heap[w.heap.size]? = some (.cells #[.slice (some ⟨g, o, none⟩) B rc, .slice Y n m, .bool false, .int .i64 (-1), .int .i64 ft, .int .i64 wh] 50 (0, 0)) := by rw [← hW0]; exact (Below.heap_alloc _ _ _ (by simp)).trans (heap_alloc_new w _)
  have g6 : W0.heap[w.heap.size + 1]? = some (.cells #[.slice none 0 0, .slice none 0 0, .bool false, .int .i64 0, .int .i64 0, .int .i64 0] 50 (0, 0)) := by
    rw [← hW0]
    have := heap_alloc_new (w.alloc (.cells #[.slice (some ⟨g, o, none⟩) B rc, .slice Y n m, .bool false, .int .i64 (-1), .int .i64 ft, .int .i64 wh] 50)) (.cells #[.slice none 0 0, .slice none 0 0, .bool false, .int .i64 0, .int .i64 0, .int .i64 0] 50)
    rw [World.size_alloc] at this
    exact this
  have hv := h.same (Up.below b0)
  obtain ⟨c0, c1, c2, c3, c4, c5⟩ := cells6 g3
  have hr0 := hr W0 b0
  have w1 : IntKind.i64.wrap (2 + (L : Int)) = 2 + (L : Int) := wrap_fit (by omega)
  have w2 : IntKind.i64.wrap (2 + (L : Int) + 8) = 2 + (L : Int) + 8 := wrap_fit (by omega)
  have w3 : ¬ (B : Int) < 2 + (L : Int) + 8 := by omega
  have hz3 := hlt g3
  have hz6 := hlt g6
  clear h hr
  go_enter Tryz.func20, Tryz.ntmps20
  go_wp2_with (first
    | (go_at_call 52
       with_reducible refine hr0.mono ?_
       rintro e w1 ⟨⟨H, A3, B3, n3, k3, m3, d3, g7, rfl⟩, hb1⟩
       obtain ⟨W2, hW2⟩ : ∃ W2, w1.alloc (.cells #[.int .i64 H.lg, .int .i64 H.ep, .int .i64 H.fr, .int .i64 H.ct, .int .i64 H.nx, .slice A3 n3 k3, .slice B3 m3 d3] 28) = W2 := ⟨_, rfl⟩
       have b02 : Below W0.heap.size W0 W2 := by rw [← hW2]; exact hb1.alloc hb1.size _
       have g32 := (b02.block _ hz3).trans g3
       have g62 := (b02.block _ hz6).trans g6
       obtain ⟨d0, d1, d2, d3', d4, d5⟩ := cells6 g32
       clear c0 c1 c2 c3 c4 c5 hr0)
    | (refine stV rfl 50 (.tmp 4) (.tmp 36) rfl rfl (w.heap.size + 1) 0 rfl 6 sz50 _ (rvv (.slice (some ⟨g, o, none⟩) B rc) (.slice Y n m) ft wh) 50 g62 rfl (by simp) rfl (by simp [Value.cells, Value.oneCell']) ?_; intro w10 g10 o10 b10 z10))
  all_goals first | omega | skip
  have g11 : w10.heap[w.heap.size + 1]? = some (.cells #[.slice (some ⟨g, o, none⟩) B rc, .slice Y n m, .bool false, .int .i64 (-1), .int .i64 ft, .int .i64 wh] 50 (0, 0)) := by rw [g10]; rfl
  refine bodyPost_ret (ret_disk rfl rfl g11 rfl) rfl ?_
  exact ⟨⟨_, rfl, (hv.same (Up.below b02)).set g62 o10 z10⟩, (b0.trans (b02.mono b0.size)).trans (b10 _ (Nat.le_succ _))⟩
end Go.Proofs.YtecnddogdiikiaaGreat

namespace Go.Proofs.YtecnddogdiikiaaGreat
open Go Go.RowKit
set_option maxRecDepth 100000
set_option maxHeartbeats 3000000

theorem rformat_go {w : World} {lo : Nat} {v : Value} {P : PD} (h : Rv w lo v P) (hlo : lo ≤ w.heap.size) (hws0 : P.ws = []) (hB : P.bs.length ≤ 4096) (L : Nat) (h1 : 24 ≤ L) (h2 : L ≤ 1024) (h3 : 10 + L ≤ P.bs.length) (hh : readE P.bs = 260) :
    Calls Tryz.prog 20 #[v, .int .i64 (L : Int)] w fun e w' => (∃ v', e = .returned (.tuple #[v', .int .i64 (goP P L).2]) ∧ Rv w' lo v' (goP P L).1) ∧ Below w.heap.size w w' := by
  have hr := fun w1 (hb : Below w.heap.size w w1) => rread_any (h.same (Up.below hb)) hws0 (by omega) hB
  rw [hh] at hr
  have hlay : ∀ (w1 : World) (lb : Nat) (A1 A2 : Option Addr) (k1 k2 : Nat), Below w.heap.size w w1 → w1.cell? ⟨lb, 0, none⟩ = some (.int .i64 0) → w1.cell? ⟨lb, 1, none⟩ = some (.slice A1 4080 k1) → w1.cell? ⟨lb, 2, none⟩ = some (.int .i64 1) → w1.cell? ⟨lb, 3, none⟩ = some (.slice A2 4080 k2) → lb < w1.heap.size → Rd w1 w1.heap.size A1 taken → Rd w1 w1.heap.size A2 leafB →
      Calls Tryz.prog 54 #[v, .int .i64 (2 + (L : Int)), .int .i64 1, .slice (some ⟨lb, 0, none⟩) 2 2] w1 fun e w' => (∃ X B rc Y n m ft wh, e = .returned (.tuple #[rvv (.slice X B rc) (.slice Y n m) ft wh, .int .i64 (layP P L).2]) ∧ Rv w' lo (rvv (.slice X B rc) (.slice Y n m) ft wh) (layP P L).1) ∧ Below w1.heap.size w1 w' := by
    intro w1 lb A1 A2 k1 k2 hb e0 e1 e2 e3 hlb r1 r2
    refine (lay_any (h.same (Up.below hb)) (Nat.le_trans hlo hb.size) L h2 (by omega) h3 (by rw [hws0]; simp) lb A1 A2 k1 k2 e0 e1 e2 e3 hlb r1 r2).mono ?_
    rintro e w' ⟨⟨v', rfl, hv⟩, hb⟩
    obtain ⟨X, B, rc, Y, n, m, ft, wh, rfl⟩ := hv.gen
    exact ⟨⟨X, B, rc, Y, n, m, ft, wh, rfl, hv⟩, hb⟩
  have hbl : (layP P L).1.bs.length = P.bs.length := by
    unfold layP bindP
    split
    · dsimp only
      split
      · rw [PD.sync_len, PD.put_len, PD.put_len]
      · rw [PD.put_len, PD.put_len]
    · rw [PD.put_len]
  have hwl : (layP P L).1.ws.length ≤ 4 := by
    have hp : ∀ (Q : PD) b l, (Q.put b l).1.ws.length ≤ Q.ws.length + 1 := fun Q b l => by unfold PD.put; split <;> simp [PD.stop]
    have hs : ∀ (Q : PD), Q.sync.1.ws.length ≤ Q.ws.length := fun Q => by unfold PD.sync; split <;> simp [PD.stop]
    have a1 := hp P (2 + L) (sealed taken 4294967296)
    have a2 := hp (P.put (2 + L) (sealed taken 4294967296)).1 (3 + L) (sealed leafB 4294967297)
    have a3 := hs ((P.put (2 + L) (sealed taken 4294967296)).1.put (3 + L) (sealed leafB 4294967297)).1
    have a0 : P.ws.length = 0 := by rw [hws0]; rfl
    unfold layP bindP
    split
    · dsimp only
      split <;> omega
    · omega
  rw [goP_lay]
  obtain ⟨P3, y3, e3⟩ : ∃ P3 y3, layP P L = (P3, y3) := ⟨_, _, rfl⟩
  rw [e3] at hlay hbl hwl ⊢
  simp only at hlay hbl hwl
  have hseal : ∀ (w1 : World) (v1 : Value), lo ≤ w1.heap.size → Rv w1 lo v1 P3 → Calls Tryz.prog 55 #[v1, .agg #[.int .i64 (L : Int), .int .i64 1, .int .i64 0, .int .i64 1, .int .i64 1, .slice none 0 0, .slice none 0 0], .int .i64 1] w1 fun e w' =>
      (∃ X B rc Y n m ft wh, e = .returned (.tuple #[rvv (.slice X B rc) (.slice Y n m) ft wh, .int .i64 (bindP (P3.put 1 (sealed (headB (firstH L)) 1)) fun P4 => P4.sync).2]) ∧ Rv w' lo (rvv (.slice X B rc) (.slice Y n m) ft wh) (bindP (P3.put 1 (sealed (headB (firstH L)) 1)) fun P4 => P4.sync).1) ∧ Below w1.heap.size w1 w' := by
    intro w1 v1 hl hv1
    refine (rsealH_any hv1 hl (by omega) (by omega) L h1 h2 (by omega)).mono ?_
    rintro e w' ⟨⟨v', rfl, hv⟩, hb⟩
    obtain ⟨X, B, rc, Y, n, m, ft, wh, rfl⟩ := hv.gen
    exact ⟨⟨X, B, rc, Y, n, m, ft, wh, rfl, hv⟩, hb⟩
  obtain ⟨R, hRR⟩ : ∃ R, R = (bindP (P3.put 1 (sealed (headB (firstH L)) 1)) fun P4 => P4.sync) := ⟨_, rfl⟩
  obtain ⟨F, hF⟩ : ∃ F : PD → PD × Int, F = fun P3 => bindP (P3.put 1 (sealed (headB (firstH L)) 1)) fun P4 => P4.sync := ⟨_, rfl⟩
  have hFR : F P3 = R := by rw [hF, hRR]
  rw [← hRR] at hseal
  rw [← hF]
  have HFR := Lib.hid hFR
  clear hRR hF hFR
  clear e3 hbl hwl
  have h' := h
  obtain ⟨x, y, rfl, hrow, hws, hok⟩ := h'
  obtain ⟨g, o, rc, rfl, -⟩ := hrow
  obtain ⟨Y, m, rfl, -, -⟩ := hws
  obtain ⟨B, hBB⟩ : ∃ B, B = P.bs.length := ⟨_, rfl⟩
  obtain ⟨n, hn⟩ : ∃ n, n = P.ws.length := ⟨_, rfl⟩
  obtain ⟨ft, hft⟩ : ∃ ft, ft = P.ft := ⟨_, rfl⟩
  obtain ⟨wh, hwh⟩ : ∃ wh, wh = P.wh := ⟨_, rfl⟩
  rw [← hBB, ← hn, ← hft, ← hwh] at h hr hlay ⊢
  rw [← hBB] at hB h3
  clear hBB hn hft hwh hws0
  obtain ⟨W0, hW0⟩ : ∃ W0, (w.alloc (.cells #[.slice (some ⟨g, o, none⟩) B rc, .slice Y n m, .bool false, .int .i64 (-1), .int .i64 ft, .int .i64 wh] 50)).alloc (.cells #[.slice none 0 0, .slice none 0 0, .bool false, .int .i64 0, .int .i64 0, .int .i64 0] 50) = W0 := ⟨_, rfl⟩
  have b0 : Below w.heap.size w W0 := by rw [← hW0]; exact ((Below.refl _ _).alloc (Nat.le_refl _) _).alloc (by simp) _
  have g3 : W0.heap[w.heap.size]? = some (.cells #[.slice (some ⟨g, o, none⟩) B rc, .slice Y n m, .bool false, .int .i64 (-1), .int .i64 ft, .int .i64 wh] 50 (0, 0)) := by rw [← hW0]; exact (Below.heap_alloc _ _ _ (by simp)).trans (heap_alloc_new w _)
  have g6 : W0.heap[w.heap.size + 1]? = some (.cells #[.slice none 0 0, .slice none 0 0, .bool false, .int .i64 0, .int .i64 0, .int .i64 0] 50 (0, 0)) := by
    rw [← hW0]
    have := heap_alloc_new (w.alloc (.cells #[.slice (some ⟨g, o, none⟩) B rc, .slice Y n m, .bool false, .int .i64 (-1), .int .i64 ft, .int .i64 wh] 50)) (.cells #[.slice none 0 0, .slice none 0 0, .bool false, .int .i64 0, .int .i64 0, .int .i64 0] 50)
    rw [World.size_alloc] at this
    exact this
  obtain ⟨c0, c1, c2, c3, c4, c5⟩ := cells6 g3
  have hr0 := hr W0 b0
  have w1 : IntKind.i64.wrap (2 + (L : Int)) = 2 + (L : Int) := wrap_fit (by omega)
  have w2 : IntKind.i64.wrap (2 + (L : Int) + 8) = 2 + (L : Int) + 8 := wrap_fit (by omega)
  have w3 : ¬ (B : Int) < 2 + (L : Int) + 8 := by omega
  have hz3 := hlt g3
  have hz6 := hlt g6
  clear h hr
  by_cases hy : y3 = 0
  · subst hy
    rw [bindP_ok rfl]
    simp only
    rw [HFR.out]
    go_enter Tryz.func20, Tryz.ntmps20
    go_wp2_with (first
      | (go_at_call 52
         with_reducible refine hr0.mono ?_
         rintro e w1 ⟨⟨H, A3, B3, n3, k3, m3, d3, g7, rfl⟩, hb1⟩
         obtain ⟨W2, hW2⟩ : ∃ W2, w1.alloc (.cells #[.int .i64 H.lg, .int .i64 H.ep, .int .i64 H.fr, .int .i64 H.ct, .int .i64 H.nx, .slice A3 n3 k3, .slice B3 m3 d3] 28) = W2 := ⟨_, rfl⟩
         have b02 : Below W0.heap.size W0 W2 := by rw [← hW2]; exact hb1.alloc hb1.size _
         obtain ⟨w3, hmk0, ho3, hb3⟩ := mkn W2 4080 (by omega)
         have hmk : (Instr.makeSlice 37 (.int .i64 4080) (.int .i64 4080)).run Tryz.prog W2 = .ok (.slice (some ⟨W2.heap.size, 0, none⟩) 4080 4080) w3 := hmk0
         have gm3 := ho3.full (by simp) (by omega)
         have cz : w3.cell? ⟨W2.heap.size, 0, none⟩ = some (.int .u8 0) := (cellD gm3 0).trans rfl
         have fz : w3.frozen? ⟨W2.heap.size, 0, none⟩ = false := frozenD gm3 0
         obtain ⟨W4, hW4⟩ : ∃ W4, w3.setCell ⟨W2.heap.size, 0, none⟩ (.int .u8 3) = W4 := ⟨_, rfl⟩
         have gm4 : W4.heap[W2.heap.size]? = some (.cells (taken.map u8V).toArray 5 (0, 0)) := by
           rw [← hW4, heap_setCell_same w3 _ 0 _ _ _ gm3]
           rfl
         have b04 : Below W0.heap.size W0 W4 := by rw [← hW4]; exact (b02.trans (hb3.mono b02.size)).setCell b02.size _
         have t4 : Rd W4 W4.heap.size (some ⟨W2.heap.size, 0, none⟩) taken := fun _ => ⟨_, 0, rfl, hlt gm4, fun k hk => by rw [cellD gm4]; simp [hk]⟩
         have pk := rpack_any W4
         clear hmk0 ho3 gm3 hb3 gm4 hb1 c0 c1 c2 c3 c4 c5 hr0)
      | (go_at_call 53
         with_reducible refine pk.mono ?_
         rintro e w5 ⟨⟨A5, k5, rfl, r5⟩, hb5⟩
         have b05 : Below W0.heap.size W0 w5 := b04.trans (hb5.mono b04.size)
         have g35 := (b05.block _ hz3).trans g3
         have g65 := (b05.block _ hz6).trans g6
         obtain ⟨W6, hW6⟩ : ∃ W6, w5.alloc (.cells #[.int .i64 0, .slice (some ⟨W2.heap.size, 0, none⟩) 4080 4080, .int .i64 1, .slice A5 4080 k5] 117) = W6 := ⟨_, rfl⟩
         have g46 : W6.heap[w5.heap.size]? = some (.cells #[.int .i64 0, .slice (some ⟨W2.heap.size, 0, none⟩) 4080 4080, .int .i64 1, .slice A5 4080 k5] 117 (0, 0)) := by rw [← hW6]; exact heap_alloc_new w5 _
         have b65 : Below w5.heap.size w5 W6 := by rw [← hW6]; exact (Below.refl _ _).alloc (Nat.le_refl _) _
         have b06 : Below W0.heap.size W0 W6 := b05.trans (b65.mono b05.size)
         have g36 := (b65.block _ (hlt g35)).trans g35
         have g66 := (b65.block _ (hlt g65)).trans g65
         have ly := hlay W6 w5.heap.size _ _ _ _ (b0.trans (b06.mono b0.size)) (cellD g46 0) (cellD g46 1) (cellD g46 2) (cellD g46 3) (hlt g46) ((t4.belowS hb5).belowS b65) (r5.belowS b65)
         obtain ⟨c0, c1, c2, c3, c4, c5⟩ := cells6 g35
         obtain ⟨d0, d1, d2, d3', d4, d5⟩ := cells6 g36
         clear t4 r5 pk g46 hlay)
      | (go_at_call 54
         with_reducible refine ly.mono ?_
         rintro e w7 ⟨⟨X7, B7, rc7, Y7, n7, m7, ft7, wh7, rfl, hv7⟩, hb7⟩
         have b07 : Below W0.heap.size W0 w7 := b06.trans (hb7.mono b06.size)
         have g37 := (b07.block _ hz3).trans g3
         have g67 := (b07.block _ hz6).trans g6
         clear ly c0 c1 c2 c3 c4 c5 d0 d1 d2 d3' d4 d5 g35 g36 g65 g66)
      | (refine stV rfl 50 (.tmp 2) (.tmp 59) rfl rfl w.heap.size 0 rfl 6 sz50 _ (rvv (.slice X7 B7 rc7) (.slice Y7 n7 m7) ft7 wh7) 50 g37 rfl (by simp) rfl (by simp [Value.cells, Value.oneCell']) ?_
         intro w8 g8 o8 b8 z8
         have g38 : w8.heap[w.heap.size]? = some (.cells #[.slice X7 B7 rc7, .slice Y7 n7 m7, .bool false, .int .i64 (-1), .int .i64 ft7, .int .i64 wh7] 50 (0, 0)) := by rw [g8]; rfl
         have hv8 := hv7.set g37 o8 z8
         have g68 := (o8 (w.heap.size + 1) (Nat.succ_ne_self _)).trans g67
         have b08 : Below w.heap.size w w8 := (b0.trans (b07.mono b0.size)).trans (b8 _ (Nat.le_refl _))
         obtain ⟨c0, c1, c2, c3, c4, c5⟩ := cells6 g38
         clear g8 hv7)
      | (go_at_call 55
         with_reducible refine (hseal w8 _ (Nat.le_trans hlo b08.size) hv8).mono ?_
         rintro e w9 ⟨⟨X9, B9, rc9, Y9, n9, m9, ft9, wh9, rfl, hv9⟩, hb9⟩
         have g69 := (hb9.block _ (hlt g68)).trans g68
         have b09 := b08.trans (hb9.mono b08.size))
      | (refine stV rfl 50 (.tmp 4) (.tmp 69) rfl rfl (w.heap.size + 1) 0 rfl 6 sz50 _ (rvv (.slice X9 B9 rc9) (.slice Y9 n9 m9) ft9 wh9) 50 g69 rfl (by simp) rfl (by simp [Value.cells, Value.oneCell']) ?_; intro w10 g10 o10 b10 z10))
    all_goals first | omega | skip
    have g11 : w10.heap[w.heap.size + 1]? = some (.cells #[.slice X9 B9 rc9, .slice Y9 n9 m9, .bool false, .int .i64 (-1), .int .i64 ft9, .int .i64 wh9] 50 (0, 0)) := by rw [g10]; rfl
    refine bodyPost_ret (ret_disk rfl rfl g11 rfl) rfl ?_
    exact ⟨⟨_, rfl, hv9.set g69 o10 z10⟩, b09.trans (b10 _ (Nat.le_succ _))⟩
  · rw [bindP_no hy]
    go_enter Tryz.func20, Tryz.ntmps20
    go_wp2_with (first
      | (go_at_call 52
         with_reducible refine hr0.mono ?_
         rintro e w1 ⟨⟨H, A3, B3, n3, k3, m3, d3, g7, rfl⟩, hb1⟩
         obtain ⟨W2, hW2⟩ : ∃ W2, w1.alloc (.cells #[.int .i64 H.lg, .int .i64 H.ep, .int .i64 H.fr, .int .i64 H.ct, .int .i64 H.nx, .slice A3 n3 k3, .slice B3 m3 d3] 28) = W2 := ⟨_, rfl⟩
         have b02 : Below W0.heap.size W0 W2 := by rw [← hW2]; exact hb1.alloc hb1.size _
         obtain ⟨w3, hmk0, ho3, hb3⟩ := mkn W2 4080 (by omega)
         have hmk : (Instr.makeSlice 37 (.int .i64 4080) (.int .i64 4080)).run Tryz.prog W2 = .ok (.slice (some ⟨W2.heap.size, 0, none⟩) 4080 4080) w3 := hmk0
         have gm3 := ho3.full (by simp) (by omega)
         have cz : w3.cell? ⟨W2.heap.size, 0, none⟩ = some (.int .u8 0) := (cellD gm3 0).trans rfl
         have fz : w3.frozen? ⟨W2.heap.size, 0, none⟩ = false := frozenD gm3 0
         obtain ⟨W4, hW4⟩ : ∃ W4, w3.setCell ⟨W2.heap.size, 0, none⟩ (.int .u8 3) = W4 := ⟨_, rfl⟩
         have gm4 : W4.heap[W2.heap.size]? = some (.cells (taken.map u8V).toArray 5 (0, 0)) := by
           rw [← hW4, heap_setCell_same w3 _ 0 _ _ _ gm3]
           rfl
         have b04 : Below W0.heap.size W0 W4 := by rw [← hW4]; exact (b02.trans (hb3.mono b02.size)).setCell b02.size _
         have t4 : Rd W4 W4.heap.size (some ⟨W2.heap.size, 0, none⟩) taken := fun _ => ⟨_, 0, rfl, hlt gm4, fun k hk => by rw [cellD gm4]; simp [hk]⟩
         have pk := rpack_any W4
         clear hmk0 ho3 gm3 hb3 gm4 hb1 c0 c1 c2 c3 c4 c5 hr0)
      | (go_at_call 53
         with_reducible refine pk.mono ?_
         rintro e w5 ⟨⟨A5, k5, rfl, r5⟩, hb5⟩
         have b05 : Below W0.heap.size W0 w5 := b04.trans (hb5.mono b04.size)
         have g35 := (b05.block _ hz3).trans g3
         have g65 := (b05.block _ hz6).trans g6
         obtain ⟨W6, hW6⟩ : ∃ W6, w5.alloc (.cells #[.int .i64 0, .slice (some ⟨W2.heap.size, 0, none⟩) 4080 4080, .int .i64 1, .slice A5 4080 k5] 117) = W6 := ⟨_, rfl⟩
         have g46 : W6.heap[w5.heap.size]? = some (.cells #[.int .i64 0, .slice (some ⟨W2.heap.size, 0, none⟩) 4080 4080, .int .i64 1, .slice A5 4080 k5] 117 (0, 0)) := by rw [← hW6]; exact heap_alloc_new w5 _
         have b65 : Below w5.heap.size w5 W6 := by rw [← hW6]; exact (Below.refl _ _).alloc (Nat.le_refl _) _
         have b06 : Below W0.heap.size W0 W6 := b05.trans (b65.mono b05.size)
         have g36 := (b65.block _ (hlt g35)).trans g35
         have g66 := (b65.block _ (hlt g65)).trans g65
         have ly := hlay W6 w5.heap.size _ _ _ _ (b0.trans (b06.mono b0.size)) (cellD g46 0) (cellD g46 1) (cellD g46 2) (cellD g46 3) (hlt g46) ((t4.belowS hb5).belowS b65) (r5.belowS b65)
         obtain ⟨c0, c1, c2, c3, c4, c5⟩ := cells6 g35
         obtain ⟨d0, d1, d2, d3', d4, d5⟩ := cells6 g36
         clear t4 r5 pk g46 hlay)
      | (go_at_call 54
         with_reducible refine ly.mono ?_
         rintro e w7 ⟨⟨X7, B7, rc7, Y7, n7, m7, ft7, wh7, rfl, hv7⟩, hb7⟩
         have b07 : Below W0.heap.size W0 w7 := b06.trans (hb7.mono b06.size)
         have g37 := (b07.block _ hz3).trans g3
         have g67 := (b07.block _ hz6).trans g6
         clear ly c0 c1 c2 c3 c4 c5 d0 d1 d2 d3' d4 d5 g35 g36 g65 g66)
      | (refine stV rfl 50 (.tmp 2) (.tmp 59) rfl rfl w.heap.size 0 rfl 6 sz50 _ (rvv (.slice X7 B7 rc7) (.slice Y7 n7 m7) ft7 wh7) 50 g37 rfl (by simp) rfl (by simp [Value.cells, Value.oneCell']) ?_
         intro w8 g8 o8 b8 z8
         have g38 : w8.heap[w.heap.size]? = some (.cells #[.slice X7 B7 rc7, .slice Y7 n7 m7, .bool false, .int .i64 (-1), .int .i64 ft7, .int .i64 wh7] 50 (0, 0)) := by rw [g8]; rfl
         have hv8 := hv7.set g37 o8 z8
         have g68 := (o8 (w.heap.size + 1) (Nat.succ_ne_self _)).trans g67
         have b08 : Below w.heap.size w w8 := (b0.trans (b07.mono b0.size)).trans (b8 _ (Nat.le_refl _))
         obtain ⟨c0, c1, c2, c3, c4, c5⟩ := cells6 g38
         clear g8 hv7)
      | (refine stV rfl 50 (.tmp 4) (.tmp 63) rfl rfl (w.heap.size + 1) 0 rfl 6 sz50 _ (rvv (.slice X7 B7 rc7) (.slice Y7 n7 m7) ft7 wh7) 50 g68 rfl (by simp) rfl (by simp [Value.cells, Value.oneCell']) ?_; intro w10 g10 o10 b10 z10))
    all_goals first | omega | skip
    have g11 : w10.heap[w.heap.size + 1]? = some (.cells #[.slice X7 B7 rc7, .slice Y7 n7 m7, .bool false, .int .i64 (-1), .int .i64 ft7, .int .i64 wh7] 50 (0, 0)) := by rw [g10]; rfl
    refine bodyPost_ret (ret_disk rfl rfl g11 rfl) rfl ?_
    exact ⟨⟨_, rfl, hv8.set g68 o10 z10⟩, b08.trans (b10 _ (Nat.le_succ _))⟩
end Go.Proofs.YtecnddogdiikiaaGreat

