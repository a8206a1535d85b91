/-
  chanceryref16.Read (f52), where nothing is unsynced.
-/
import Derived.Test.YtecnddogdiikiaaGreatR3
import Derived.Test.YtecnddogdiikiaaGreatD6
import Derived.Test.YtecnddogdiikiaaGreatR2
set_option linter.unusedVariables false
set_option linter.unusedSimpArgs false
namespace Go.Proofs.YtecnddogdiikiaaGreat
open Go Go.RowKit
set_option maxRecDepth 100000
set_option maxHeartbeats 3000000

theorem rread_any {w : World} {lo : Nat} {v : Value} {P : PD} (h : Rv w lo v P) (hws : P.ws = []) (hB2 : 2 ≤ P.bs.length) (hB : P.bs.length ≤ 4096) :
    Calls Tryz.prog 52 #[v] w fun e w' => (∃ H A3 B3 n3 c3 m3 d3 g, e = .returned (.tuple #[.agg (hdV H A3 B3 n3 c3 m3 d3), g, .int .i64 (readE P.bs)])) ∧ Below w.heap.size w w' := by
  obtain ⟨x, y, rfl, hrow, hwr, hok⟩ := h
  obtain ⟨Y, m, rfl, hnil, -⟩ := hwr
  obtain ⟨rfl, rfl⟩ := hnil hws
  rw [hws]
  obtain ⟨g, o, rc, rfl, hg1, hg2, hg3, -⟩ := hrow
  obtain ⟨B, hBB⟩ : ∃ B, B = P.bs.length := ⟨_, rfl⟩
  obtain ⟨ft, hft⟩ : ∃ ft, ft = P.ft := ⟨_, rfl⟩
  obtain ⟨wh, hwh⟩ : ∃ wh, wh = P.wh := ⟨_, rfl⟩
  rw [← hBB, ← hft, ← hwh]
  rw [← hBB] at hB2 hB
  have HB := Lib.hid hBB
  clear hBB hft hwh
  obtain ⟨W0, hW0⟩ : ∃ W0, ((w.alloc (.cells #[.slice (some ⟨g, o, none⟩) B rc, .slice none 0 0, .bool false, .int .i64 (-1), .int .i64 ft, .int .i64 wh] 50)).alloc (.cells #[.int .i64 0, .int .i64 0, .int .i64 0, .int .i64 0, .int .i64 0, .slice none 0 0, .slice none 0 0] 28)).alloc (.cells #[.int .i64 0, .int .i64 0, .int .i64 0, .int .i64 0, .int .i64 0, .slice none 0 0, .slice none 0 0] 28) = W0 := ⟨_, rfl⟩
  have b0 : Below w.heap.size w W0 := by rw [← hW0]; exact (((Below.refl _ _).alloc (Nat.le_refl _) _).alloc (by simp) _).alloc (by simp; omega) _
  have g1 : W0.heap[w.heap.size]? = some (.cells #[.slice (some ⟨g, o, none⟩) B rc, .slice none 0 0, .bool false, .int .i64 (-1), .int .i64 ft, .int .i64 wh] 50 (0, 0)) := by rw [← hW0]; exact (Below.heap_alloc _ _ _ (by simp; omega)).trans ((Below.heap_alloc _ _ _ (by simp)).trans (heap_alloc_new w _))
  have g2 : W0.heap[w.heap.size + 1]? = some (.cells (hdV zeroH none none 0 0 0 0) 28 (0, 0)) := by
    rw [← hW0]
    refine (Below.heap_alloc _ _ _ (by simp)).trans ?_
    have := heap_alloc_new (w.alloc (.cells #[.slice (some ⟨g, o, none⟩) B rc, .slice none 0 0, .bool false, .int .i64 (-1), .int .i64 ft, .int .i64 wh] 50)) (.cells (hdV zeroH none none 0 0 0 0) 28)
    rw [World.size_alloc] at this
    exact this
  have g5 : W0.heap[w.heap.size + 1 + 1]? = some (.cells (hdV zeroH none none 0 0 0 0) 28 (0, 0)) := by
    rw [← hW0]
    have := heap_alloc_new ((w.alloc (.cells #[.slice (some ⟨g, o, none⟩) B rc, .slice none 0 0, .bool false, .int .i64 (-1), .int .i64 ft, .int .i64 wh] 50)).alloc (.cells #[.int .i64 0, .int .i64 0, .int .i64 0, .int .i64 0, .int .i64 0, .slice none 0 0, .slice none 0 0] 28)) (.cells (hdV zeroH none none 0 0 0 0) 28)
    rw [World.size_alloc, World.size_alloc] at this
    exact this
  go_enter Tryz.func52, Tryz.ntmps52
  go_wp2
  go_loopw [6, 7, 8, 9, 10, 11, 12] (fun at_ n _ _ _ _ _ wr => ∃ (k : Nat) (H : Hd) (A4 B4 : Option Addr) (n4 c4 m4 d4 : Nat), k ≤ 2 ∧ n = .int .i64 k ∧ at_ = .int .i64 (lastN P.bs k : Nat) ∧ wr.heap[w.heap.size]? = some (.cells #[.slice (some ⟨g, o, none⟩) B rc, .slice none 0 0, .bool false, .int .i64 (-1), .int .i64 ft, .int .i64 wh] 50 (0, 0)) ∧ wr.heap[w.heap.size + 1]? = some (.cells (hdV zeroH none none 0 0 0 0) 28 (0, 0)) ∧ wr.heap[w.heap.size + 1 + 1]? = some (.cells (hdV H A4 B4 n4 c4 m4 d4) 28 (0, 0)) ∧ Below w.heap.size w wr) (fun _ n _ _ _ _ _ _ => 2 - (intOf n).toNat)
  case atStart => exact ⟨0, zeroH, none, none, 0, 0, 0, 0, by omega, rfl, rfl, g1, g2, g5, b0⟩
  case round =>
    clear g1 g2 g5 b0 hW0
    obtain ⟨k, H, A4, B4, n4, c4, m4, d4, hk2, rfl, rfl, g1, g2, g5, hbr⟩ := hrel
    have hNle := lastN_le P.bs k
    obtain ⟨d0, d1, d2, d3, d4', d5⟩ := cells6 g1
    by_cases hlt3 : k < 2
    · have hkB : k < B := by omega
      have hkl : k < P.bs.length := by rw [← HB.out]; exact hkB
      obtain ⟨u, hu, hb⟩ := hg3 k hkl
      have hlast := lastN_succ P.bs k hlt3 hkl
      generalize P.bs[k] = l at *
      obtain ⟨ub, uo, uc, rfl, hl, hc, hrd⟩ := hb.rd
      have hur := (hbr.cell (p := ⟨g, o + k, none⟩) hg2).trans hu
      have hrr := rread_raw (w := wr) (ft := ft) (wh := wh) (c := rc) (m := 0) (A := none) (Nat.lt_of_lt_of_le hg2 hbr.size) hkB hur (fun W => is_any (some ⟨g, o, none⟩) B rc none 0 0 ft wh k hkB W)
      have hop : ∀ W, Below wr.heap.size wr W → Calls Tryz.prog 97 #[.slice (some ⟨ub, uo, none⟩) 4096 uc] W fun e w' => ((sub l 0 8 = sub l 4088 8 ∧ ∃ A c', e = .returned (.tuple #[.slice A 4080 c', .int .u64 (leN (sub l 0 8) : Nat), .int .i64 0]) ∧ Rd w' w'.heap.size A (sub l 8 4080)) ∨ (sub l 0 8 ≠ sub l 4088 8 ∧ e = .returned (.tuple #[.slice none 0 0, .int .u64 0, .int .i64 140]))) ∧ Below W.heap.size W w' :=
        fun W hW => ropen_any ub uo uc l W ((hrd.below (hbr.trans (hW.mono hbr.size))).more (Nat.le_trans hbr.size hW.size)) hl hc
      obtain ⟨s, hs⟩ : ∃ s, s = leN (sub l 0 8) := ⟨_, rfl⟩
      have hs8 : s < 256 ^ 8 := by rw [hs]; exact leN_sub_lt (by omega)
      have hsl := sub_len (l := l) (a := 8) (n := 4080) (by omega)
      rw [← hs] at hop
      have HS := Lib.hid hs
      have HL := Lib.hid hsl.symm
      have HX := Lib.hid hlast
      have hmeas : 2 - (intOf (Value.int .i64 ((k : Int) + 1))).toNat < 2 - (intOf (Value.int .i64 (k : Int))).toNat := by simp [intOf]; omega
      clear hs hsl hlast hb hu hrd hur
      obtain ⟨N1, hN1⟩ : ∃ N1, N1 = lastN P.bs k := ⟨_, rfl⟩
      rw [← hN1] at hNle ⊢
      have HN := Lib.hid hN1
      clear hN1
      have hg1' := fun (W : World) (hW : Below wr.heap.size wr W) => (hW.block _ (hlt g1)).trans g1
      have hg2' := fun (W : World) (hW : Below wr.heap.size wr W) => (hW.block _ (hlt g2)).trans g2
      have hg5' := fun (W : World) (hW : Below wr.heap.size wr W) => (hW.block _ (hlt g5)).trans g5
      have hz5 := hlt g5
      -- a round that leaves the best as it is
      have keep : ∀ (W : World), Below wr.heap.size wr W → hat P.bs.length k l ≤ N1 → ∃ (k' : Nat) (H : Hd) (A4 B4 : Option Addr) (n4 c4 m4 d4 : Nat), k' ≤ 2 ∧ Value.int .i64 ((k : Int) + 1) = .int .i64 k' ∧ Value.int .i64 (N1 : Int) = .int .i64 (lastN P.bs k' : Nat) ∧ W.heap[w.heap.size]? = some (.cells #[.slice (some ⟨g, o, none⟩) B rc, .slice none 0 0, .bool false, .int .i64 (-1), .int .i64 ft, .int .i64 wh] 50 (0, 0)) ∧ W.heap[w.heap.size + 1]? = some (.cells (hdV zeroH none none 0 0 0 0) 28 (0, 0)) ∧ W.heap[w.heap.size + 1 + 1]? = some (.cells (hdV H A4 B4 n4 c4 m4 d4) 28 (0, 0)) ∧ Below w.heap.size w W := fun W hW hh =>
        ⟨k + 1, H, A4, B4, n4, c4, m4, d4, by omega, by go_num, by rw [HX.out, ← HN.out, Nat.max_eq_left hh], hg1' W hW, hg2' W hW, hg5' W hW, hbr.trans (hW.mono hbr.size)⟩
      by_cases he : sub l 0 8 = sub l 4088 8
      · have hop' : ∀ W, Below wr.heap.size wr W → Calls Tryz.prog 97 #[.slice (some ⟨ub, uo, none⟩) 4096 uc] W fun e w' => (∃ A c', e = .returned (.tuple #[.slice A 4080 c', .int .u64 (s : Int), .int .i64 0]) ∧ Rd w' w'.heap.size A (sub l 8 4080)) ∧ Below W.heap.size W w' := fun W hW => (hop W hW).mono fun e w' hh => ⟨hh.1.elim (fun x => x.2) fun x => absurd he x.1, hh.2⟩
        have HE := Lib.hid he
        clear hop he
        by_cases hg : 1 ≤ s ∧ s ≤ 4611686018427387904 ∧ s % 2 = k
        · obtain ⟨hs1, hs2, hs3⟩ := hg
          have hq1 : ((s : Int) == 0) = false := by simp; omega
          have hq2 : decide (4611686018427387904 < (s : Int)) = false := by simp; omega
          have hq3 : ((s : Int) % 2 != (k : Int)) = false := by simp; omega
          obtain ⟨H5, t, htd⟩ : ∃ H t, told (sub l 8 4080) 17 65 = (H, t) := ⟨_, _, rfl⟩
          have h98 : ∀ (w1 : World) (A1 : Option Addr) (c1 : Nat), Rd w1 w1.heap.size A1 (sub l 8 4080) → Calls Tryz.prog 98 #[.slice A1 4080 c1] w1 fun e w' => (∃ v, e = .returned (.tuple #[v, .int .i64 t]) ∧ HV w' H5 v) ∧ Below w1.heap.size w1 w' := by
            intro w1 A1 c1 hr1
            have := refof_any A1 c1 4080 (sub l 8 4080) w1 hr1 HL.out HL.out.symm
            rw [htd] at this
            exact this
          rw [← told_same] at htd
          have ht : t = 0 ∨ t = 260 := by
            unfold told at htd
            split at htd <;> cases htd
            · exact .inl rfl
            · exact .inr rfl
          have HT := Lib.hid htd
          clear htd
          rcases ht with rfl | rfl
          · have hlg : 24 ≤ H5.lg ∧ H5.lg ≤ 1024 := by
              have := told_lg (l := sub l 8 4080) (by rw [HT.out])
              rwa [HT.out] at this
            obtain ⟨lg, hlgN⟩ : ∃ lg : Nat, H5.lg = (lg : Int) := ⟨H5.lg.toNat, by omega⟩
            rw [hlgN] at hlg
            have HH := Lib.hid hlgN
            have wr1 : IntKind.i64.wrap (2 + (lg : Int)) = 2 + (lg : Int) := IntWalk.i64_in _ (by omega)
            have wr2 : IntKind.i64.wrap (2 + (lg : Int) + 8) = 2 + (lg : Int) + 8 := IntWalk.i64_in _ (by omega)
            have v98 : ∀ (w2 : World) (A2 : Option Addr) (k2 : Nat), Rd w2 w2.heap.size A2 (sub l 8 4080) → Calls Tryz.prog 98 #[.slice A2 4080 k2] w2 fun e w3 => (∃ (A3 B3 : Option Addr) (n3 c3 m3 e3 : Nat), e = .returned (.tuple #[.agg #[.int .i64 (lg : Int), .int .i64 H5.ep, .int .i64 H5.fr, .int .i64 H5.ct, .int .i64 H5.nx, .slice A3 n3 c3, .slice B3 m3 e3], .int .i64 0])) ∧ Below w2.heap.size w2 w3 := by
              intro w2 A2 k2 r2
              refine (h98 w2 A2 k2 r2).mono ?_
              rintro e w3 ⟨⟨v3, rfl, ⟨A3, B3, n3, c3, m3, e3, rfl, -, -, -, -⟩⟩, hb3⟩
              exact ⟨⟨A3, B3, n3, c3, m3, e3, by rw [← HH.out]⟩, hb3⟩
            clear h98
            by_cases hfit : 10 + lg ≤ B
            · have hz : hat P.bs.length k l = s := by
                rw [HS.out]
                refine hat_ok ⟨HE.out, by rw [← HS.out]; exact hs1, by rw [← HS.out]; exact hs2, by rw [← HS.out]; exact hs3, by rw [HT.out], ?_⟩
                rw [HT.out, ← HB.out]
                show 10 + H5.lg ≤ _
                rw [HH.out]; omega
              have hq4 : decide ((B : Int) < 2 + (lg : Int) + 8) = false := by simp; omega
              by_cases hgt : N1 < s
              · have hq5 : decide ((N1 : Int) < (s : Int)) = true := by simp; omega
                go_wp2_with (first
              | (go_at_call 96; with_reducible refine hrr.mono ?_; rintro e w1 ⟨rfl, hb1⟩)
              | (go_at_call 97; with_reducible refine (hop' _ hb1).mono ?_; rintro e w2 ⟨⟨A2, k2, rfl, r2⟩, hb2⟩)
              | (go_at_call 98
                 with_reducible refine (v98 w2 A2 k2 r2).mono ?_
                 rintro e w3 ⟨⟨A3, B3, n3, c3, m3, e3, rfl⟩, hb3⟩
                 have b13 := (hb1.trans (hb2.mono hb1.size)).trans (hb3.mono (Nat.le_trans hb1.size hb2.size))
                 obtain ⟨W4, hW4⟩ : ∃ W4, w3.alloc (.cells #[.int .i64 (lg : Int), .int .i64 H5.ep, .int .i64 H5.fr, .int .i64 H5.ct, .int .i64 H5.nx, .slice A3 n3 c3, .slice B3 m3 e3] 28) = W4 := ⟨_, rfl⟩
                 have b14 : Below wr.heap.size wr W4 := by rw [← hW4]; exact b13.alloc b13.size _
                 have g12 : W4.heap[w3.heap.size]? = some (.cells #[.int .i64 (lg : Int), .int .i64 H5.ep, .int .i64 H5.fr, .int .i64 H5.ct, .int .i64 H5.nx, .slice A3 n3 c3, .slice B3 m3 e3] 28 (0, 0)) := by rw [← hW4]; exact heap_alloc_new w3 _
                 have g14 := hg1' W4 b14
                 have g54 := hg5' W4 b14
                 have f0 := cellD g12 0
                 have f1 := cellD g12 1
                 have f2 := cellD g12 2
                 have f3 := cellD g12 3
                 have f4 := cellD g12 4
                 have f5 := cellD g12 5
                 have f6 := cellD g12 6
                 obtain ⟨q0, q1, q2, q3, q4, q5⟩ := cells6 g14
                 clear d0 d1 d2 d3 d4' d5)
              | (refine stV rfl 28 (.tmp 5) (.tmp 80) rfl rfl (w.heap.size + 1 + 1) 0 rfl 7 sz24 _ (.agg #[.int .i64 (lg : Int), .int .i64 H5.ep, .int .i64 H5.fr, .int .i64 H5.ct, .int .i64 H5.nx, .slice A3 n3 c3, .slice B3 m3 e3]) 28 g54 rfl (by simp) rfl (by simp [Value.cells, Value.oneCell']) ?_; intro w10 g10 o10 b10 z10))
                have ge : #[Value.int .i64 (lg : Int), .int .i64 H5.ep, .int .i64 H5.fr, .int .i64 H5.ct, .int .i64 H5.nx, .slice A3 n3 c3, .slice B3 m3 e3] = hdV H5 A3 B3 n3 c3 m3 e3 := by rw [← HH.out]
                have gp : Go.Ev.putL (hdV H A4 B4 n4 c4 m4 d4) (0 + 0) (Value.agg #[Value.int .i64 (lg : Int), .int .i64 H5.ep, .int .i64 H5.fr, .int .i64 H5.ct, .int .i64 H5.nx, .slice A3 n3 c3, .slice B3 m3 e3]).cells.toList = #[Value.int .i64 (lg : Int), .int .i64 H5.ep, .int .i64 H5.fr, .int .i64 H5.ct, .int .i64 H5.nx, .slice A3 n3 c3, .slice B3 m3 e3] := putL_full rfl
                have gf : w10.heap[w.heap.size + 1 + 1]? = some (.cells (hdV H5 A3 B3 n3 c3 m3 e3) 28 (0, 0)) := by rw [g10, gp, ge]
                refine ⟨⟨k + 1, H5, A3, B3, n3, c3, m3, e3, by omega, by go_num, by rw [HX.out, ← HN.out, hz, Nat.max_eq_right (Nat.le_of_lt hgt)], (o10 _ (by omega)).trans g14, (o10 _ (by omega)).trans (hg2' W4 b14), ?_, hbr.trans ((b14.mono hbr.size).trans (b10 _ (by omega)))⟩, hmeas⟩
                exact gf
              · have hq5 : decide ((N1 : Int) < (s : Int)) = false := by simp; omega
                go_wp2_with (first
              | (go_at_call 96; with_reducible refine hrr.mono ?_; rintro e w1 ⟨rfl, hb1⟩)
              | (go_at_call 97; with_reducible refine (hop' _ hb1).mono ?_; rintro e w2 ⟨⟨A2, k2, rfl, r2⟩, hb2⟩)
              | (go_at_call 98
                 with_reducible refine (v98 w2 A2 k2 r2).mono ?_
                 rintro e w3 ⟨⟨A3, B3, n3, c3, m3, e3, rfl⟩, hb3⟩
                 have b13 := (hb1.trans (hb2.mono hb1.size)).trans (hb3.mono (Nat.le_trans hb1.size hb2.size))
                 obtain ⟨W4, hW4⟩ : ∃ W4, w3.alloc (.cells #[.int .i64 (lg : Int), .int .i64 H5.ep, .int .i64 H5.fr, .int .i64 H5.ct, .int .i64 H5.nx, .slice A3 n3 c3, .slice B3 m3 e3] 28) = W4 := ⟨_, rfl⟩
                 have b14 : Below wr.heap.size wr W4 := by rw [← hW4]; exact b13.alloc b13.size _
                 have g12 : W4.heap[w3.heap.size]? = some (.cells #[.int .i64 (lg : Int), .int .i64 H5.ep, .int .i64 H5.fr, .int .i64 H5.ct, .int .i64 H5.nx, .slice A3 n3 c3, .slice B3 m3 e3] 28 (0, 0)) := by rw [← hW4]; exact heap_alloc_new w3 _
                 have g14 := hg1' W4 b14
                 have g54 := hg5' W4 b14
                 have f0 := cellD g12 0
                 have f1 := cellD g12 1
                 have f2 := cellD g12 2
                 have f3 := cellD g12 3
                 have f4 := cellD g12 4
                 have f5 := cellD g12 5
                 have f6 := cellD g12 6
                 obtain ⟨q0, q1, q2, q3, q4, q5⟩ := cells6 g14
                 clear d0 d1 d2 d3 d4' d5))
                exact ⟨keep W4 b14 (by rw [hz]; omega), hmeas⟩
            · have hz : hat P.bs.length k l = 0 := hat_no fun x => by
                have := x.2.2.2.2.2
                rw [HT.out, ← HB.out] at this
                have h2 : 10 + H5.lg ≤ (B : Int) := this
                rw [HH.out] at h2; omega
              have hq4 : decide ((B : Int) < 2 + (lg : Int) + 8) = true := by simp; omega
              go_wp2_with (first
              | (go_at_call 96; with_reducible refine hrr.mono ?_; rintro e w1 ⟨rfl, hb1⟩)
              | (go_at_call 97; with_reducible refine (hop' _ hb1).mono ?_; rintro e w2 ⟨⟨A2, k2, rfl, r2⟩, hb2⟩)
              | (go_at_call 98
                 with_reducible refine (v98 w2 A2 k2 r2).mono ?_
                 rintro e w3 ⟨⟨A3, B3, n3, c3, m3, e3, rfl⟩, hb3⟩
                 have b13 := (hb1.trans (hb2.mono hb1.size)).trans (hb3.mono (Nat.le_trans hb1.size hb2.size))
                 obtain ⟨W4, hW4⟩ : ∃ W4, w3.alloc (.cells #[.int .i64 (lg : Int), .int .i64 H5.ep, .int .i64 H5.fr, .int .i64 H5.ct, .int .i64 H5.nx, .slice A3 n3 c3, .slice B3 m3 e3] 28) = W4 := ⟨_, rfl⟩
                 have b14 : Below wr.heap.size wr W4 := by rw [← hW4]; exact b13.alloc b13.size _
                 have g12 : W4.heap[w3.heap.size]? = some (.cells #[.int .i64 (lg : Int), .int .i64 H5.ep, .int .i64 H5.fr, .int .i64 H5.ct, .int .i64 H5.nx, .slice A3 n3 c3, .slice B3 m3 e3] 28 (0, 0)) := by rw [← hW4]; exact heap_alloc_new w3 _
                 have g14 := hg1' W4 b14
                 have g54 := hg5' W4 b14
                 have f0 := cellD g12 0
                 have f1 := cellD g12 1
                 have f2 := cellD g12 2
                 have f3 := cellD g12 3
                 have f4 := cellD g12 4
                 have f5 := cellD g12 5
                 have f6 := cellD g12 6
                 obtain ⟨q0, q1, q2, q3, q4, q5⟩ := cells6 g14
                 clear d0 d1 d2 d3 d4' d5))
              exact ⟨keep W4 b14 (by rw [hz]; omega), hmeas⟩
          · have hz : hat P.bs.length k l = 0 := hat_no fun x => by have := x.2.2.2.2.1; rw [HT.out] at this; cases this
            have v98 : ∀ (w2 : World) (A2 : Option Addr) (k2 : Nat), Rd w2 w2.heap.size A2 (sub l 8 4080) → Calls Tryz.prog 98 #[.slice A2 4080 k2] w2 fun e w3 => (∃ (A3 B3 : Option Addr) (n3 c3 m3 e3 : Nat), e = .returned (.tuple #[.agg #[.int .i64 H5.lg, .int .i64 H5.ep, .int .i64 H5.fr, .int .i64 H5.ct, .int .i64 H5.nx, .slice A3 n3 c3, .slice B3 m3 e3], .int .i64 260])) ∧ Below w2.heap.size w2 w3 := by
              intro w2 A2 k2 r2
              refine (h98 w2 A2 k2 r2).mono ?_
              rintro e w3 ⟨⟨v3, rfl, ⟨A3, B3, n3, c3, m3, e3, rfl, -, -, -, -⟩⟩, hb3⟩
              exact ⟨⟨A3, B3, n3, c3, m3, e3, rfl⟩, hb3⟩
            clear h98
            go_wp2_with (first
              | (go_at_call 96; with_reducible refine hrr.mono ?_; rintro e w1 ⟨rfl, hb1⟩)
              | (go_at_call 97; with_reducible refine (hop' _ hb1).mono ?_; rintro e w2 ⟨⟨A2, k2, rfl, r2⟩, hb2⟩)
              | (go_at_call 98; with_reducible refine (v98 w2 A2 k2 r2).mono ?_; rintro e w3 ⟨⟨A3, B3, n3, c3, m3, e3, rfl⟩, hb3⟩))
            have b13 := (hb1.trans (hb2.mono hb1.size)).trans (hb3.mono (Nat.le_trans hb1.size hb2.size))
            exact ⟨keep _ (b13.alloc b13.size _) (by rw [hz]; omega), hmeas⟩
        · have hz : hat P.bs.length k l = 0 := hat_no fun x => hg ⟨HS.out ▸ x.2.1, HS.out ▸ x.2.2.1, HS.out ▸ x.2.2.2.1⟩
          have hcase : s = 0 ∨ (1 ≤ s ∧ 4611686018427387904 < s) ∨ (1 ≤ s ∧ s ≤ 4611686018427387904 ∧ s % 2 ≠ k) := by
            rcases Nat.lt_or_ge s 1 with h1 | h1
            · exact .inl (by omega)
            · rcases Nat.lt_or_ge 4611686018427387904 s with h2 | h2
              · exact .inr (.inl ⟨h1, h2⟩)
              · exact .inr (.inr ⟨h1, h2, fun e => hg ⟨h1, h2, e⟩⟩)
          clear hg
          rcases hcase with h1 | ⟨h1, h2⟩ | ⟨h1, h2, h3⟩
          · have hq1 : ((s : Int) == 0) = true := by simp; omega
            go_wp2_with (first
              | (go_at_call 96; with_reducible refine hrr.mono ?_; rintro e w1 ⟨rfl, hb1⟩)
              | (go_at_call 97; with_reducible refine (hop' _ hb1).mono ?_; rintro e w2 ⟨⟨A2, k2, rfl, r2⟩, hb2⟩))
            exact ⟨keep w2 (hb1.trans (hb2.mono hb1.size)) (by rw [hz]; omega), hmeas⟩
          · have hq1 : ((s : Int) == 0) = false := by simp; omega
            have hq2 : decide (4611686018427387904 < (s : Int)) = true := by simp; omega
            go_wp2_with (first
              | (go_at_call 96; with_reducible refine hrr.mono ?_; rintro e w1 ⟨rfl, hb1⟩)
              | (go_at_call 97; with_reducible refine (hop' _ hb1).mono ?_; rintro e w2 ⟨⟨A2, k2, rfl, r2⟩, hb2⟩))
            exact ⟨keep w2 (hb1.trans (hb2.mono hb1.size)) (by rw [hz]; omega), hmeas⟩
          · have hq1 : ((s : Int) == 0) = false := by simp; omega
            have hq2 : decide (4611686018427387904 < (s : Int)) = false := by simp; omega
            have hq3 : ((s : Int) % 2 != (k : Int)) = true := by simp; omega
            go_wp2_with (first
              | (go_at_call 96; with_reducible refine hrr.mono ?_; rintro e w1 ⟨rfl, hb1⟩)
              | (go_at_call 97; with_reducible refine (hop' _ hb1).mono ?_; rintro e w2 ⟨⟨A2, k2, rfl, r2⟩, hb2⟩))
            exact ⟨keep w2 (hb1.trans (hb2.mono hb1.size)) (by rw [hz]; omega), hmeas⟩
      · have hop' : ∀ W, Below wr.heap.size wr W → Calls Tryz.prog 97 #[.slice (some ⟨ub, uo, none⟩) 4096 uc] W fun e w' => e = .returned (.tuple #[.slice none 0 0, .int .u64 0, .int .i64 140]) ∧ Below W.heap.size W w' := fun W hW => (hop W hW).mono fun e w' hh => ⟨hh.1.elim (fun x => absurd x.1 he) fun x => x.2, hh.2⟩
        have hz : hat P.bs.length k l = 0 := hat_no fun x => he x.1
        have HE := Lib.hid he
        clear hop he
        go_wp2_with (first
          | (go_at_call 96; with_reducible refine hrr.mono ?_; rintro e w1 ⟨rfl, hb1⟩)
          | (go_at_call 97; with_reducible refine (hop' _ hb1).mono ?_; rintro e w2 ⟨rfl, hb2⟩))
        exact ⟨keep w2 (hb1.trans (hb2.mono hb1.size)) (by rw [hz]; omega), hmeas⟩
    · obtain rfl : k = 2 := by omega
      have hre := lastN_two P.bs
      obtain ⟨N1, hN1⟩ : ∃ N1, N1 = lastN P.bs 2 := ⟨_, rfl⟩
      rw [← hN1] at hre hNle ⊢
      have HR := Lib.hid hre
      clear hre hN1
      have f9 := cellD g5
      by_cases hz : N1 = 0
      · subst hz
        go_wp2_with (refine stV rfl 28 (.tmp 2) (.tmp 85) rfl rfl (w.heap.size + 1) 0 rfl 7 sz24 _ (.agg (hdV zeroH none none 0 0 0 0)) 28 g2 rfl (by simp) rfl (by simp [Value.cells, Value.oneCell']) ?_; intro w10 g10 o10 b10 z10)
        have g11 : w10.heap[w.heap.size + 1]? = some (.cells (hdV zeroH none none 0 0 0 0) 28 (0, 0)) := by rw [g10]; congr 2
        refine bodyPost_ret (ret_head2 rfl rfl g11 rfl) rfl ?_
        exact ⟨⟨_, _, _, _, _, _, _, _, by rw [HR.out]; rfl⟩, hbr.trans (b10 _ (Nat.le_succ _))⟩
      · have f0 := f9 0
        have f1 := f9 1
        have f2 := f9 2
        have f3 := f9 3
        have f4 := f9 4
        have f5 := f9 5
        have f6 := f9 6
        go_wp2_with (refine stV rfl 28 (.tmp 2) (.tmp 86) rfl rfl (w.heap.size + 1) 0 rfl 7 sz24 _ (.agg (hdV H A4 B4 n4 c4 m4 d4)) 28 g2 rfl (by simp) rfl (by simp [Value.cells, Value.oneCell']) ?_; intro w10 g10 o10 b10 z10)
        have g11 : w10.heap[w.heap.size + 1]? = some (.cells (hdV H A4 B4 n4 c4 m4 d4) 28 (0, 0)) := by rw [g10]; congr 2
        refine bodyPost_ret (ret_head2 rfl rfl g11 rfl) rfl ?_
        exact ⟨⟨_, _, _, _, _, _, _, _, by rw [HR.out, if_neg hz]; rfl⟩, hbr.trans (b10 _ (Nat.le_succ _))⟩
end Go.Proofs.YtecnddogdiikiaaGreat

