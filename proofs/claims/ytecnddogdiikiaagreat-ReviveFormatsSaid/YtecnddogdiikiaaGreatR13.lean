/-
  chanceryref16.lay (f54).
-/
import Derived.Test.YtecnddogdiikiaaGreatR12
import Derived.Test.YtecnddogdiikiaaGreatR3
import Derived.Deep.RegionHeld3
set_option linter.unusedVariables false
set_option linter.unusedSimpArgs false
namespace Go.Proofs.YtecnddogdiikiaaGreat
open Go Go.RowKit
set_option maxRecDepth 100000
set_option maxHeartbeats 3000000

theorem rof_k (k : Nat) (hk : k < 2) (w : World) : Calls Tryz.prog 103 #[.int .i64 1, .int .i64 (k : Int)] w fun e w' => e = .returned (.int .u64 ((4294967296 + k : Nat) : Int)) ∧ w' = w := by
  have : k = 0 ∨ k = 1 := by omega
  rcases this with rfl | rfl
  · exact rof0 w
  · exact rof1 w

/-- the disk behind k of the two writes -/
def chainP (P : PD) (X1 X2 : PD × Int) (k : Nat) (Q : PD) : Prop := (k = 0 ∧ Q = P) ∨ (k = 1 ∧ X1.2 = 0 ∧ Q = X1.1) ∨ (k = 2 ∧ X1.2 = 0 ∧ X2.2 = 0 ∧ Q = X2.1)

noncomputable def layP (P : PD) (L : Nat) : PD × Int :=
  bindP (P.put (2 + L) (sealed taken 4294967296)) fun P1 => bindP (P1.put (3 + L) (sealed leafB 4294967297)) fun P2 => P2.sync

theorem set6t {W : World} {g : Nat} {a0 a1 a2 a3 a4 a5 : Value} (h : W.heap[g]? = some (.cells #[a0, a1, a2, a3, a4, a5] 50 (0, 0))) (v0 v1 v2 v3 v4 v5 : Value) :
    Tk W ((((((W.setCell ⟨g, 0, none⟩ v0).setCell ⟨g, 1, none⟩ v1).setCell ⟨g, 2, none⟩ v2).setCell ⟨g, 3, none⟩ v3).setCell ⟨g, 4, none⟩ v4).setCell ⟨g, 5, none⟩ v5) :=
  Tk.of_put h (by decide) (fun j hj => by rw [Below.heap_setCell _ _ _ _ hj, Below.heap_setCell _ _ _ _ hj, Below.heap_setCell _ _ _ _ hj, Below.heap_setCell _ _ _ _ hj, Below.heap_setCell _ _ _ _ hj, Below.heap_setCell _ _ _ _ hj]) (((set6 h v0 v1 v2 v3 v4 v5).2 g (Nat.le_refl _)).size)

theorem lay_any {w : World} {lo : Nat} {v : Value} {P : PD} (h : Rv w lo v P) (hlo : lo ≤ w.heap.size) (L : Nat) (h2 : L ≤ 1024) (hlen : P.bs.length ≤ 1000000) (h3 : 10 + L ≤ P.bs.length) (hw : P.ws.length ≤ 40)
    (lb : Nat) (A1 A2 : Option Addr) (k1 k2 : Nat) (hl0 : w.cell? ⟨lb, 0, none⟩ = some (.int .i64 0)) (hl1 : w.cell? ⟨lb, 1, none⟩ = some (.slice A1 4080 k1)) (hl2 : w.cell? ⟨lb, 2, none⟩ = some (.int .i64 1)) (hl3 : w.cell? ⟨lb, 3, none⟩ = some (.slice A2 4080 k2)) (hlb : lb < w.heap.size)
    (hr1 : Rd w w.heap.size A1 taken) (hr2 : Rd w w.heap.size A2 leafB) :
    Calls Tryz.prog 54 #[v, .int .i64 (2 + (L : Int)), .int .i64 1, .slice (some ⟨lb, 0, none⟩) 2 2] w fun e w' => (∃ v', e = .returned (.tuple #[v', .int .i64 (layP P L).2]) ∧ Rv w' lo v' (layP P L).1) ∧ Below w.heap.size w w' := by
  obtain ⟨P1, y1, e1⟩ : ∃ P1 y1, P.put (2 + L) (sealed taken 4294967296) = (P1, y1) := ⟨_, _, rfl⟩
  obtain ⟨P2, y2, e2⟩ : ∃ P2 y2, P1.put (3 + L) (sealed leafB 4294967297) = (P2, y2) := ⟨_, _, rfl⟩
  obtain ⟨P3, y3, e3⟩ : ∃ P3 y3, P2.sync = (P3, y3) := ⟨_, _, rfl⟩
  have hn1 : P1.bs.length = P.bs.length := by have := PD.put_len P (2 + L) (sealed taken 4294967296); rwa [e1] at this
  have hn2 : P2.bs.length = P.bs.length := by have := PD.put_len P1 (3 + L) (sealed leafB 4294967297); rw [e2] at this; exact this.trans hn1
  have hw1 : P1.ws.length ≤ 41 := by have : P1 = (P.put (2 + L) (sealed taken 4294967296)).1 := by rw [e1]
                                     rw [this]; unfold PD.put; split <;> simp [PD.stop] <;> omega
  have hw2 : P2.ws.length ≤ 42 := by have : P2 = (P1.put (3 + L) (sealed leafB 4294967297)).1 := by rw [e2]
                                     rw [this]; unfold PD.put; split <;> simp [PD.stop] <;> omega
  have hR : layP P L = if y1 = 0 then (if y2 = 0 then (P3, y3) else (P2, y2)) else (P1, y1) := by
    unfold layP
    rw [e1]; unfold bindP; simp only
    split
    · rw [e2]; simp only
      split
      · exact e3
      · rfl
    · rfl
  obtain ⟨R, hRR⟩ : ∃ R, R = layP P L := ⟨_, rfl⟩
  rw [← hRR] at hR ⊢
  have HR := Lib.hid hR
  clear hR hRR
  obtain ⟨X, B, rc, Y, n, m, ft, wh, hv⟩ := h.gen
  subst hv
  obtain ⟨W0, hW0⟩ : ∃ W0, (w.alloc (.cells #[.slice X B rc, .slice Y n m, .bool false, .int .i64 (-1), .int .i64 ft, .int .i64 wh] 50)).alloc (.cells #[.slice none 0 0, .slice none 0 0, .bool false, .int .i64 0, .int .i64 0, .int .i64 0] 50) = W0 := ⟨_, rfl⟩
  have b0 : Below w.heap.size w W0 := by rw [← hW0]; exact ((Below.refl _ _).alloc (Nat.le_refl _) _).alloc (by simp) _
  have g4 : W0.heap[w.heap.size]? = some (.cells #[.slice X B rc, .slice Y n m, .bool false, .int .i64 (-1), .int .i64 ft, .int .i64 wh] 50 (0, 0)) := by rw [← hW0]; exact (Below.heap_alloc _ _ _ (by simp)).trans (heap_alloc_new w _)
  have g8 : W0.heap[w.heap.size + 1]? = some (.cells #[.slice none 0 0, .slice none 0 0, .bool false, .int .i64 0, .int .i64 0, .int .i64 0] 50 (0, 0)) := by
    rw [← hW0]
    have := heap_alloc_new (w.alloc (.cells #[.slice X B rc, .slice Y n m, .bool false, .int .i64 (-1), .int .i64 ft, .int .i64 wh] 50)) (.cells #[.slice none 0 0, .slice none 0 0, .bool false, .int .i64 0, .int .i64 0, .int .i64 0] 50)
    rw [World.size_alloc] at this
    exact this
  go_enter Tryz.func54, Tryz.ntmps54
  go_wp2
  go_loopw [10, 11, 12, 13, 14] (fun i _ _ _ _ wr => ∃ (k : Nat) (Q : PD) (X : Option Addr) (B rc : Nat) (Y : Option Addr) (n m : Nat) (ft wh : Int), k ≤ 2 ∧ i = .int .i64 k ∧ chainP P (P1, y1) (P2, y2) k Q ∧ Rv wr lo (rvv (.slice X B rc) (.slice Y n m) ft wh) Q ∧ wr.heap[w.heap.size]? = some (.cells #[.slice X B rc, .slice Y n m, .bool false, .int .i64 (-1), .int .i64 ft, .int .i64 wh] 50 (0, 0)) ∧ wr.heap[w.heap.size + 1]? = some (.cells #[.slice none 0 0, .slice none 0 0, .bool false, .int .i64 0, .int .i64 0, .int .i64 0] 50 (0, 0)) ∧ Below w.heap.size w wr) (fun i _ _ _ _ _ => 2 - (intOf i).toNat)
  case atStart => exact ⟨0, P, X, B, rc, Y, n, m, ft, wh, by omega, rfl, .inl ⟨rfl, rfl⟩, h.same (Up.below b0), g4, g8, b0⟩
  case round =>
    clear h g4 g8 b0 hW0
    obtain ⟨k, Q, X, B, rc, Y, n, m, ft, wh, hk, rfl, hch, hv, g4, g8, hbr⟩ := hrel
    by_cases hk2 : k < 2
    · obtain ⟨Yk, q, Ak, ck, hYk, hq, hqr, hcell, hcell0, hnum, hwsk, hlk, hwhich⟩ : ∃ Yk q Ak ck, Q.put (2 + L + k) (sealed q (4294967296 + k)) = Yk ∧ q.length = 4080 ∧ Rd wr wr.heap.size Ak q ∧ wr.cell? ⟨lb, k * 2 + 1, none⟩ = some (.slice Ak 4080 ck) ∧ wr.cell? ⟨lb, k * 2, none⟩ = some (.int .i64 (k : Int)) ∧ 2 + L + k < Q.bs.length ∧ Q.ws.length ≤ 80 ∧ Q.bs.length = P.bs.length ∧ ((k = 0 ∧ Yk = (P1, y1)) ∨ (k = 1 ∧ y1 = 0 ∧ Yk = (P2, y2))) := by
        rcases hch with ⟨rfl, rfl⟩ | ⟨rfl, hy, rfl⟩ | ⟨rfl, -⟩
        · exact ⟨(P1, y1), taken, A1, k1, e1, taken_len, (hr1.below hbr).more hbr.size, (hbr.cell (p := ⟨lb, 1, none⟩) hlb).trans hl1, (hbr.cell (p := ⟨lb, 0, none⟩) hlb).trans hl0, by omega, by omega, rfl, .inl ⟨rfl, rfl⟩⟩
        · refine ⟨(P2, y2), leafB, A2, k2, ?_, leafB_len, (hr2.below hbr).more hbr.size, (hbr.cell (p := ⟨lb, 3, none⟩) hlb).trans hl3, (hbr.cell (p := ⟨lb, 2, none⟩) hlb).trans hl2, by rw [hn1]; omega, by omega, hn1, .inr ⟨rfl, hy, rfl⟩⟩
          rw [← e2]
          congr 1
          omega
        · omega
      have hok := rof_k k hk2
      have hmeas : 2 - (intOf (Value.int .i64 ((k : Int) + 1))).toNat < 2 - (intOf (Value.int .i64 (k : Int))).toNat := by simp [intOf]; omega
      go_wp2
      have ec2 : ((4294967296 + k : Nat) : Int) = 4294967296 + (k : Int) := by omega
      have Sl : ∀ (w1 : World), Below wr.heap.size wr w1 → Calls Tryz.prog 102 #[.slice Ak 4080 ck, .int .u64 (4294967296 + (k : Int))] w1 fun e w' => (∃ A c, e = .returned (.tuple #[.slice A 4096 c, .int .i64 0]) ∧ Rd w' w'.heap.size A (sealed q (4294967296 + k))) ∧ Below w1.heap.size w1 w' := by
        intro w1 hb
        rw [← ec2]
        refine (rseal_any Ak ck (4294967296 + k) q w1 ((hqr.below hb).more hb.size) hq (by omega)).mono ?_
        rintro e w' ⟨⟨u, rfl, ho⟩, hb⟩
        obtain ⟨A, c, rfl, -, -, hrd⟩ := ho.sl (sealed_len hq)
        exact ⟨⟨A, c, rfl, hrd⟩, hb⟩
      clear ec2
      have bd : Below wr.heap.size wr wr.drew := ⟨rfl, rfl, rfl, Nat.le_refl _, fun _ _ => rfl⟩
      have hlr : lb < wr.heap.size := Nat.lt_of_lt_of_le hlb hbr.size
      have kp : ∀ W, Below wr.heap.size wr W → W.cell? ⟨lb, k * 2 + 1, none⟩ = some (.slice Ak 4080 ck) := fun W hb => (hb.cell (p := ⟨lb, k * 2 + 1, none⟩) hlr).trans hcell
      have HQ := Lib.hid hq
      have HW := Lib.hid hwhich
      have HY := Lib.hid hYk
      clear hq hwhich hYk
      go_region_held3 (fun w' => w'.cell? ⟨lb, k * 2 + 1, none⟩ = some (.slice Ak 4080 ck))
        (first | with_reducible exact kp _ bd | with_reducible exact kp _ b2 | go_keep)
        (first
          | (go_at_call 103; with_reducible refine (hok _).mono ?_; rintro e W1 ⟨rfl, rfl⟩)
          | (go_at_call 102; with_reducible refine (Sl _ bd).mono ?_; rintro e w2 ⟨⟨A2, c2, rfl, r2⟩, hb2⟩; have b2 := bd.trans (hb2.mono bd.size)))
      go_wp2
      obtain ⟨Q', y⟩ := Yk
      have hsl := sealed_len (s := 4294967296 + k) HQ.out
      have Pt : ∀ (w1 : World), Below wr.heap.size wr w1 → Rd w1 w1.heap.size A2 (sealed q (4294967296 + k)) → Calls Tryz.prog 104 #[rvv (.slice X B rc) (.slice Y n m) ft wh, .int .i64 (2 + (L : Int) + (k : Int)), .slice A2 4096 c2] w1 fun e w' => (∃ X B rc Y n m ft wh, e = .returned (.tuple #[rvv (.slice X B rc) (.slice Y n m) ft wh, .int .i64 y]) ∧ Rv w' lo (rvv (.slice X B rc) (.slice Y n m) ft wh) Q') ∧ Below w1.heap.size w1 w' := by
        intro w1 hb hr
        have ec : ((2 + L + k : Nat) : Int) = 2 + (L : Int) + (k : Int) := by omega
        rw [← ec]
        refine (rput_any (hv.same (Up.below hb)) (Nat.le_trans hlo (Nat.le_trans hbr.size hb.size)) (2 + L + k) hnum A2 c2 _ hr hsl (by omega)).mono ?_
        rw [HY.out]
        rintro e w' ⟨⟨v', rfl, hv⟩, hb⟩
        obtain ⟨X, B, rc, Y, n, m, ft, wh, rfl⟩ := hv.gen
        exact ⟨⟨X, B, rc, Y, n, m, ft, wh, rfl, hv⟩, hb⟩
      have wrp : IntKind.i64.wrap (2 + (L : Int) + (k : Int)) = 2 + (L : Int) + (k : Int) := IntWalk.i64_in _ (by omega)
      have b2d : Below wr.heap.size wr w2.drew := b2.drew
      have b2a : Below wr.heap.size wr (w2.alloc (.cells #[.slice none 0 0, .slice none 0 0, .bool false, .int .i64 0, .int .i64 0, .int .i64 0] 50)).drew := (b2.alloc b2.size _).drew
      have ptA := Pt _ b2d r2
      have ptB := Pt _ b2a ((r2.alloc (Nat.le_refl _) _).more (by simp))
      have hzb : w.heap.size + 1 < wr.heap.size := hlt g8
      have kp5 : ∀ W, Below wr.heap.size wr W → W.cell? ⟨w.heap.size, 0, none⟩ = some (.slice X B rc) ∧ W.cell? ⟨w.heap.size, 1, none⟩ = some (.slice Y n m) ∧ W.cell? ⟨w.heap.size, 2, none⟩ = some (.bool false) ∧ W.cell? ⟨w.heap.size, 3, none⟩ = some (.int .i64 (-1)) ∧ W.cell? ⟨w.heap.size, 4, none⟩ = some (.int .i64 ft) ∧ W.cell? ⟨w.heap.size, 5, none⟩ = some (.int .i64 wh) ∧ W.cell? ⟨lb, k * 2, none⟩ = some (.int .i64 (k : Int)) := fun W hb => by
        obtain ⟨c0, c1, c2, c3, c4, c5⟩ := cells6 ((hb.block _ (Nat.lt_of_succ_lt hzb)).trans g4)
        exact ⟨c0, c1, c2, c3, c4, c5, (hb.cell (p := ⟨lb, k * 2, none⟩) hlr).trans hcell0⟩
      clear Pt Sl
      go_region_held3 (fun w' => w'.cell? ⟨w.heap.size, 0, none⟩ = some (.slice X B rc) ∧ w'.cell? ⟨w.heap.size, 1, none⟩ = some (.slice Y n m) ∧ w'.cell? ⟨w.heap.size, 2, none⟩ = some (.bool false) ∧ w'.cell? ⟨w.heap.size, 3, none⟩ = some (.int .i64 (-1)) ∧ w'.cell? ⟨w.heap.size, 4, none⟩ = some (.int .i64 ft) ∧ w'.cell? ⟨w.heap.size, 5, none⟩ = some (.int .i64 wh) ∧ w'.cell? ⟨lb, k * 2, none⟩ = some (.int .i64 (k : Int)))
        (first | with_reducible exact kp5 _ b2d | with_reducible exact kp5 _ b2a | with_reducible exact kp5 _ b3 | with_reducible exact kp5 _ (b3a _) | with_reducible exact kp5 _ b3s | go_keep)
        (first
          | (go_at_call 104
             with_reducible refine ptA.mono ?_
             rintro e w3 ⟨⟨X3, B3, rc3, Y3, n3, m3, ft3, wh3, rfl, hv3⟩, hb3⟩
             have b3 := b2d.trans (hb3.mono b2d.size)
             have b3a := fun (o : Obj) => b3.alloc b3.size o
             have S6 := set6 (heap_alloc_new w3 (.cells #[.slice none 0 0, .slice none 0 0, .bool false, .int .i64 0, .int .i64 0, .int .i64 0] 50)) (.slice X3 B3 rc3) (.slice Y3 n3 m3) (.bool false) (.int .i64 (-1)) (.int .i64 ft3) (.int .i64 wh3)
             have b3s := (b3a _).trans (S6.2 _ b3.size))
          | (go_at_call 104
             with_reducible refine ptB.mono ?_
             rintro e w3 ⟨⟨X3, B3, rc3, Y3, n3, m3, ft3, wh3, rfl, hv3⟩, hb3⟩
             have b3 := b2a.trans (hb3.mono b2a.size)
             have g33 : w3.heap[w2.heap.size]? = some (.cells #[.slice none 0 0, .slice none 0 0, .bool false, .int .i64 0, .int .i64 0, .int .i64 0] 50 (0, 0)) := (hb3.block w2.heap.size (by show w2.heap.size < (w2.alloc _).heap.size; simp)).trans (heap_alloc_new w2 _)
             obtain ⟨d0, d1, d2, d3, d4, d5⟩ := cells6 g33
             have z0 := frozenD g33 0
             have z1 := frozenD g33 1
             have z2 := frozenD g33 2
             have z3 := frozenD g33 3
             have z4 := frozenD g33 4
             have z5 := frozenD g33 5
             have S6 := set6 g33 (.slice X3 B3 rc3) (.slice Y3 n3 m3) (.bool false) (.int .i64 (-1)) (.int .i64 ft3) (.int .i64 wh3)
             have b3s := b3.trans (S6.2 _ b2.size)))
      all_goals
        first
          | (have tk4 := set6t g33 (.slice X3 B3 rc3) (.slice Y3 n3 m3) (.bool false) (.int .i64 (-1)) (.int .i64 ft3) (.int .i64 wh3)
             have g44 := S6.1
             clear S6 z0 z1 z2 z3 z4 z5 d0 d1 d2 d3 d4 d5 g33
             generalize ((((((w3.setCell ⟨w2.heap.size, 0, none⟩ (.slice X3 B3 rc3)).setCell ⟨w2.heap.size, 1, none⟩ (.slice Y3 n3 m3)).setCell ⟨w2.heap.size, 2, none⟩ (.bool false)).setCell ⟨w2.heap.size, 3, none⟩ (.int .i64 (-1))).setCell ⟨w2.heap.size, 4, none⟩ (.int .i64 ft3)).setCell ⟨w2.heap.size, 5, none⟩ (.int .i64 wh3)) = W4 at b3s tk4 g44 ⊢
             have b4 := b3s
             clear b3s)
          | (have b4 := b3a (.cells #[.slice X3 B3 rc3, .slice Y3 n3 m3, .bool false, .int .i64 (-1), .int .i64 ft3, .int .i64 wh3] 50)
             have g44 := heap_alloc_new w3 (.cells #[.slice X3 B3 rc3, .slice Y3 n3 m3, .bool false, .int .i64 (-1), .int .i64 ft3, .int .i64 wh3] 50)
             have tk4 : Tk w3 (w3.alloc (.cells #[.slice X3 B3 rc3, .slice Y3 n3 m3, .bool false, .int .i64 (-1), .int .i64 ft3, .int .i64 wh3] 50)) := Tk.below ((Below.refl _ _).alloc (Nat.le_refl _) _)
             clear S6 b3s b3a
             generalize w3.alloc (.cells #[.slice X3 B3 rc3, .slice Y3 n3 m3, .bool false, .int .i64 (-1), .int .i64 ft3, .int .i64 wh3] 50) = W4 at b4 g44 tk4 ⊢)
      all_goals
        have hv4 := hv3.tk tk4
        obtain ⟨m0, m1, m2, m3', m4, m5⟩ := cells6 g44
        have g4' := (b4.block _ (Nat.lt_of_succ_lt hzb)).trans g4
        have g8' := (b4.block _ hzb).trans g8
        have bw4 : Below w.heap.size w W4 := hbr.trans (b4.mono hbr.size)
        clear ptA ptB kp kp5 b2d b2a g44
        by_cases hy : y = 0
        · subst hy
          go_wp2_with (refine stV rfl 50 (.tmp 4) (.tmp 46) rfl rfl w.heap.size 0 rfl 6 sz50 _ (rvv (.slice X3 B3 rc3) (.slice Y3 n3 m3) ft3 wh3) 50 g4' rfl (by simp) rfl (by simp [Value.cells, Value.oneCell']) ?_; intro w5 g5 o5 b5 z5)
          have g55 : w5.heap[w.heap.size]? = some (.cells #[.slice X3 B3 rc3, .slice Y3 n3 m3, .bool false, .int .i64 (-1), .int .i64 ft3, .int .i64 wh3] 50 (0, 0)) := by rw [g5]; rfl
          refine ⟨?_, hmeas⟩
          refine ⟨k + 1, Q', X3, B3, rc3, Y3, n3, m3, ft3, wh3, by omega, by go_num, ?_, hv4.tk (Tk.of_put g4' (by decide) o5 (Nat.le_of_eq z5.symm)), g55, (o5 (w.heap.size + 1) (Nat.succ_ne_self _)).trans g8', bw4.trans (b5 _ (Nat.le_refl _))⟩
          rcases HW.out with ⟨hk0, e⟩ | ⟨hk1, hy1, e⟩
          · cases e; exact .inr (.inl ⟨by omega, rfl, rfl⟩)
          · cases e; exact .inr (.inr ⟨by omega, hy1, rfl, rfl⟩)
        · go_wp2_with (first
            | (refine stV rfl 50 (.tmp 4) (.tmp 46) rfl rfl w.heap.size 0 rfl 6 sz50 _ (rvv (.slice X3 B3 rc3) (.slice Y3 n3 m3) ft3 wh3) 50 g4' rfl (by simp) rfl (by simp [Value.cells, Value.oneCell']) ?_
               intro w5 g5 o5 b5 z5
               have g55 : w5.heap[w.heap.size]? = some (.cells #[.slice X3 B3 rc3, .slice Y3 n3 m3, .bool false, .int .i64 (-1), .int .i64 ft3, .int .i64 wh3] 50 (0, 0)) := by rw [g5]; rfl
               obtain ⟨q0, q1, q2, q3, q4, q5⟩ := cells6 g55
               have g85 := (o5 (w.heap.size + 1) (Nat.succ_ne_self _)).trans g8'
               clear g5)
            | (refine stV rfl 50 (.tmp 8) (.tmp 49) rfl rfl (w.heap.size + 1) 0 rfl 6 sz50 _ (rvv (.slice X3 B3 rc3) (.slice Y3 n3 m3) ft3 wh3) 50 g85 rfl (by simp) rfl (by simp [Value.cells, Value.oneCell']) ?_; intro w10 g10 o10 b10 z10))
          have g11 : w10.heap[w.heap.size + 1]? = some (.cells #[.slice X3 B3 rc3, .slice Y3 n3 m3, .bool false, .int .i64 (-1), .int .i64 ft3, .int .i64 wh3] 50 (0, 0)) := by rw [g10]; rfl
          have hRe : R = (Q', y) := by
            rw [HR.out]
            rcases HW.out with ⟨-, e⟩ | ⟨-, hy1, e⟩
            · cases e; rw [if_neg hy]
            · cases e; rw [if_pos hy1, if_neg hy]
          rw [hRe]
          refine bodyPost_ret (ret_disk rfl rfl g11 rfl) rfl ?_
          exact ⟨⟨_, rfl, (hv4.tk (Tk.of_put g4' (by decide) o5 (Nat.le_of_eq z5.symm))).tk (Tk.of_put g85 (by decide) o10 (Nat.le_of_eq z10.symm))⟩, (bw4.trans (b5 _ (Nat.le_refl _))).trans (b10 _ (Nat.le_succ _))⟩
    · obtain rfl : k = 2 := by omega
      obtain ⟨hy1, hy2, rfl⟩ : y1 = 0 ∧ y2 = 0 ∧ Q = P2 := by
        rcases hch with ⟨h, _⟩ | ⟨h, _⟩ | ⟨_, a, b, c⟩
        · omega
        · omega
        · exact ⟨a, b, c⟩
      have hRe := Lib.hid (show R = (P3, y3) by rw [HR.out, if_pos hy1, if_pos hy2])
      have Sy : Calls Tryz.prog 105 #[rvv (.slice X B rc) (.slice Y n m) ft wh] wr fun e w' => (∃ X B rc Y n m ft wh, e = .returned (.tuple #[rvv (.slice X B rc) (.slice Y n m) ft wh, .int .i64 y3]) ∧ Rv w' lo (rvv (.slice X B rc) (.slice Y n m) ft wh) P3) ∧ Below wr.heap.size wr w' := by
        refine (rsync_any hv (Nat.le_trans hlo hbr.size) (by omega) (by omega) (by omega)).mono ?_
        rw [e3]
        rintro e w' ⟨⟨v', rfl, hv⟩, hb⟩
        obtain ⟨X, B, rc, Y, n, m, ft, wh, rfl⟩ := hv.gen
        exact ⟨⟨X, B, rc, Y, n, m, ft, wh, rfl, hv⟩, hb⟩
      obtain ⟨c0, c1, c2, c3, c4, c5⟩ := cells6 g4
      have hz8 := hlt g8
      go_wp2_with (first
        | (go_at_call 105
           with_reducible refine Sy.mono ?_
           rintro e w5 ⟨⟨X5, B5, rc5, Y5, n5, m5, ft5, wh5, rfl, hv5⟩, hb5⟩
           have g85 := (hb5.block _ hz8).trans g8)
        | (refine stV rfl 50 (.tmp 8) (.tmp 53) rfl rfl (w.heap.size + 1) 0 rfl 6 sz50 _ (rvv (.slice X5 B5 rc5) (.slice Y5 n5 m5) ft5 wh5) 50 g85 rfl (by simp) rfl (by simp [Value.cells, Value.oneCell']) ?_; intro w10 g10 o10 b10 z10))
      have g11 : w10.heap[w.heap.size + 1]? = some (.cells #[.slice X5 B5 rc5, .slice Y5 n5 m5, .bool false, .int .i64 (-1), .int .i64 ft5, .int .i64 wh5] 50 (0, 0)) := by rw [g10]; rfl
      rw [hRe.out]
      refine bodyPost_ret (ret_disk rfl rfl g11 rfl) rfl ?_
      exact ⟨⟨_, rfl, hv5.tk (Tk.of_put g85 (by decide) o10 (Nat.le_of_eq z10.symm))⟩, (hbr.trans (hb5.mono hbr.size)).trans (b10 _ (Nat.le_succ _))⟩
end Go.Proofs.YtecnddogdiikiaaGreat

