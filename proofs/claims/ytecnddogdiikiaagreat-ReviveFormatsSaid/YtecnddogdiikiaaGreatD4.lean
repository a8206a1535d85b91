/-
  revive.headAt: what the call does.
-/
import Derived.Test.YtecnddogdiikiaaGreatD3
import Derived.Test.YtecnddogdiikiaaGreatHOf
import Derived.Test.YtecnddogdiikiaaGreatR3
import Derived.Deep.QuietTactic
import Derived.BigQuiet
set_option linter.unusedVariables false
set_option linter.unusedSimpArgs false
namespace Go.Proofs.YtecnddogdiikiaaGreat
open Go Go.RowKit
set_option maxRecDepth 100000
set_option maxHeartbeats 2000000

theorem hat_no {B n : Nat} {l : List UInt8} (h : ¬ (sub l 0 8 = sub l 4088 8 ∧ 1 ≤ leN (sub l 0 8) ∧ leN (sub l 0 8) ≤ 4611686018427387904 ∧ leN (sub l 0 8) % 2 = n ∧ (told (sub l 8 4080) 16 64).2 = 0 ∧ 10 + (told (sub l 8 4080) 16 64).1.lg ≤ B)) : hat B n l = 0 := if_neg h
theorem hat_ok {B n : Nat} {l : List UInt8} (h : sub l 0 8 = sub l 4088 8 ∧ 1 ≤ leN (sub l 0 8) ∧ leN (sub l 0 8) ≤ 4611686018427387904 ∧ leN (sub l 0 8) % 2 = n ∧ (told (sub l 8 4080) 16 64).2 = 0 ∧ 10 + (told (sub l 8 4080) 16 64).1.lg ≤ B) : hat B n l = leN (sub l 0 8) := if_pos h
theorem told_lg {l : List UInt8} (h : (told l 16 64).2 = 0) : 24 ≤ (told l 16 64).1.lg ∧ (told l 16 64).1.lg ≤ 1024 := by
  unfold told at h ⊢
  split at h
  · rename_i hh
    rw [if_pos hh]
    exact ⟨hh.1.lg1, hh.1.lg2⟩
  · cases h

/-- a head's value has this shape -/
def Hs (v : Value) : Prop := ∃ H A B n c m d, v = .agg (hdV H A B n c m d)
theorem headat_any {w : World} {n0 d db : Nat} {pv : Value} {P : PD} (h : Dk w n0 d db pv P) (hB : P.bs.length ≤ 4096) (n : Nat) (hn : n < 2) (b o c : Nat) (l : List UInt8) (hr : Rd w w.heap.size (some ⟨b, o, none⟩) l) (hl : l.length = 4096) (hc : 4096 ≤ c)
    (hopen : ∀ w : World, Rd w w.heap.size (some ⟨b, o, none⟩) l → Calls Tryz.prog 58 #[.slice (some ⟨b, o, none⟩) 4096 c] w fun e w' => ((sub l 0 8 = sub l 4088 8 ∧ ∃ A c', e = .returned (.tuple #[.slice A 4080 c', .int .u64 (leN (sub l 0 8) : Nat), .int .i64 0]) ∧ Rd w' w'.heap.size A (sub l 8 4080)) ∨ (sub l 0 8 ≠ sub l 4088 8 ∧ e = .returned (.tuple #[.slice none 0 0, .int .u64 0, .int .i64 140]))) ∧ Below w.heap.size w w') :
    Calls Tryz.prog 23 #[.pointer (some ⟨d, 0, none⟩), .int .i64 (n : Int), .slice (some ⟨b, o, none⟩) 4096 c] w fun e w' => (∃ v, e = .returned (.tuple #[v, .int .i64 (hat P.bs.length n l : Nat)]) ∧ Hs v) ∧ Below w.heap.size w w' := by
  obtain ⟨W0, hW0⟩ : ∃ W0, w.alloc (.cells #[.int .i64 0, .int .i64 0, .int .i64 0, .int .i64 0, .int .i64 0, .slice none 0 0, .slice none 0 0] 28) = W0 := ⟨_, rfl⟩
  have g0 : W0.heap[w.heap.size]? = some (.cells #[.int .i64 0, .int .i64 0, .int .i64 0, .int .i64 0, .int .i64 0, .slice none 0 0, .slice none 0 0] 28 (0, 0)) := by rw [← hW0]; exact heap_alloc_new w _
  have b0 : Below w.heap.size w W0 := by rw [← hW0]; exact (Below.refl _ _).alloc (Nat.le_refl _) _
  have h0 := h.below b0
  have hO := hopen W0 ((hr.below b0).more b0.size)
  obtain ⟨s, hs⟩ : ∃ s, s = leN (sub l 0 8) := ⟨_, rfl⟩
  have hs8 : s < 256 ^ 8 := by rw [hs]; exact leN_sub_lt (by omega)
  have hsl := sub_len (l := l) (a := 8) (n := 4080) (by omega)
  have HS := Lib.hid hs
  have HL := Lib.hid hsl.symm
  rw [← hs] at hO
  clear hs hopen hr hsl
  by_cases he : sub l 0 8 = sub l 4088 8
  · have hO' := hO.mono (R' := fun e w' => (∃ A c', e = .returned (.tuple #[.slice A 4080 c', .int .u64 (s : Int), .int .i64 0]) ∧ Rd w' w'.heap.size A (sub l 8 4080)) ∧ Below W0.heap.size W0 w') fun e w' hh => ⟨hh.1.elim (fun x => x.2) fun x => absurd he x.1, hh.2⟩
    clear hO
    have fin : ∀ {w10 : World} {H : Hd} {A4 B4 : Option Addr} {n4 c4 m4 d4 : Nat} {a : Act} {z : Int}, w10.heap[w.heap.size]? = some (.cells (hdV H A4 B4 n4 c4 m4 d4) 28 (0, 0)) → True → Below w.heap.size w w10 → a.defers = [] → a.tmps.getD 6 undef = .pointer (some ⟨w.heap.size, 0, none⟩) → a.tmps.getD 7 undef = .int .i64 z → z = (hat P.bs.length n l : Nat) →
        bodyPost Tryz.prog Tryz.f23 (fun e w' => (∃ v, e = .returned (.tuple #[v, .int .i64 (hat P.bs.length n l : Nat)]) ∧ Hs v) ∧ Below w.heap.size w w') .ret a w10 := by
      intro w10 H A4 B4 n4 c4 m4 d4 a z h1 h2 h3 h4 h5 h6 h7
      refine bodyPost_ret (ret_head rfl h5 h1 rfl) h4 ?_
      exact ⟨⟨_, by rw [h6, h7], H, A4, B4, n4, c4, m4, d4, rfl⟩, h3⟩
    have zz : ∀ {w10 : World}, w10.heap[w.heap.size]? = some (.cells (Go.Ev.putL #[.int .i64 0, .int .i64 0, .int .i64 0, .int .i64 0, .int .i64 0, .slice none 0 0, .slice none 0 0] (0 + 0) (Value.agg (hdV zeroH none none 0 0 0 0)).cells.toList) 28 (0, 0)) → w10.heap[w.heap.size]? = some (.cells (hdV zeroH none none 0 0 0 0) 28 (0, 0)) := fun h => by rw [h]; congr 2
    by_cases hg : 1 ≤ s ∧ s ≤ 4611686018427387904 ∧ s % 2 = n
    · obtain ⟨hg1, hg2, hg3⟩ := hg
      subst hg3
      have hq : decide ((s : Int) < 1) = false := by simp; omega
      have hq2 : decide (4611686018427387904 < (s : Int)) = false := by simp; omega
      obtain ⟨H, t, htd⟩ : ∃ H t, told (sub l 8 4080) 16 64 = (H, t) := ⟨_, _, rfl⟩
      have h59 : ∀ (w1 : World) (A1 : Option Addr) (c1 : Nat), Rd w1 w1.heap.size A1 (sub l 8 4080) → Calls Tryz.prog 59 #[.slice A1 4080 c1] w1 fun e w' => (∃ v, e = .returned (.tuple #[v, .int .i64 t]) ∧ HV w' H v) ∧ Below w1.heap.size w1 w' := by
        intro w1 A1 c1 hr1
        have := headof_any A1 c1 4080 (sub l 8 4080) w1 hr1 HL.out HL.out.symm
        rw [htd] at this
        exact this
      have ht : t = 0 ∨ t = 260 := by
        unfold told at htd
        split at htd <;> cases htd
        · exact .inl rfl
        · exact .inr rfl
      have HT := Lib.hid htd
      clear htd
      rcases ht with rfl | rfl
      · have hlg : 24 ≤ H.lg ∧ H.lg ≤ 1024 := by
          have := told_lg (l := sub l 8 4080) (by rw [HT.out])
          rwa [HT.out] at this
        obtain ⟨B, hBB⟩ : ∃ B, B = P.bs.length := ⟨_, rfl⟩
        have hBl := Lib.hid hBB
        rw [← hBB] at hB
        have hbk : ∀ (W : World), DB W d db B pv P.ft P.wh → Calls Tryz.prog 15 #[.pointer (some ⟨d, 0, none⟩)] W fun e w' => e = .returned (.int .i64 (B : Int)) ∧ w' = W := fun W hd => blocks_any hd
        obtain ⟨lg, hlgN⟩ : ∃ lg : Nat, H.lg = (lg : Int) := ⟨H.lg.toNat, by omega⟩
        rw [hlgN] at hlg
        have HH := Lib.hid hlgN
        have wr1 : IntKind.i64.wrap ((B : Int) - 2) = (B : Int) - 2 := IntWalk.i64_in _ (by omega)
        have wr2 : IntKind.i64.wrap ((B : Int) - 2 - (lg : Int)) = (B : Int) - 2 - (lg : Int) := IntWalk.i64_in _ (by omega)
        clear hBB
        by_cases hfit : 10 + lg ≤ B
        · have hd8 : decide ((B : Int) - 2 - (lg : Int) < 8) = false := by simp; omega
          have hz : hat P.bs.length (s % 2) l = s := by
            rw [HS.out]
            refine hat_ok ⟨he, by rw [← HS.out]; exact hg1, by rw [← HS.out]; exact hg2, by rw [← HS.out], by rw [HT.out], ?_⟩
            rw [HT.out, ← hBl.out]
            show 10 + H.lg ≤ _
            rw [HH.out]; omega
          go_enter Tryz.func23, Tryz.ntmps23
          go_wp2_with (first
            | (go_at_call 58; refine hO'.mono ?_; rintro e w1 ⟨⟨A1, c1, rfl, hr1⟩, hb1⟩; have g1 := (hb1.block _ (hlt g0)).trans g0)
            | (go_at_call 59; refine (h59 w1 A1 c1 hr1).mono ?_; rintro e w2 ⟨⟨v, rfl, ⟨A3, B3, n3, c3, m3, d3, rfl, -, -, -, -⟩⟩, hb2⟩; have g2 := (hb2.block _ (hlt g1)).trans g1))
          have g3 := fun (o : Obj) (n : Nat) => (show ((w2.alloc o).drewN n).heap[w.heap.size]? = _ from (Below.heap_alloc w2 o _ (hlt g2)).trans g2)
          have bw2 : Below w.heap.size w w2 := (b0.trans (hb1.mono b0.size)).trans (hb2.mono (b0.trans (hb1.mono b0.size)).size)
          have b3 := fun (o : Obj) (n : Nat) => ((bw2.alloc bw2.size o).trans (drewN_below (w2.alloc o) _ n))
          have D3 : ∀ (o : Obj) (n : Nat), DB ((w2.alloc o).drewN n) d db P.bs.length pv P.ft P.wh := fun o n => (h.below (b3 o n)).box
          go_quiet (first
            | (go_at_call 15; refine Calls.quiet_of_same (hbk _ ?_); rw [hBl.out]; exact D3 _ _))
          go_wp2_with (refine stV rfl 28 (.tmp 6) (.tmp 53) rfl rfl w.heap.size 0 rfl 7 sz24 _ (.agg #[.int .i64 (lg : Int), .int .i64 H.ep, .int .i64 H.fr, .int .i64 H.ct, .int .i64 H.nx, .slice A3 n3 c3, .slice B3 m3 d3]) 28 (g3 _ _) rfl (by simp) rfl (by simp [Value.cells, Value.oneCell']) ?_; intro w10 g10 o10 b10 z10)
          have g11 : w10.heap[w.heap.size]? = some (.cells (hdV H A3 B3 n3 c3 m3 d3) 28 (0, 0)) := by rw [g10]; congr 2; simp only [hdV, HH.out]; rfl
          exact fin g11 trivial ((b3 _ _).trans (b10 _ (Nat.le_refl _))) rfl rfl rfl (by rw [hz])
        · have hd8 : decide ((B : Int) - 2 - (lg : Int) < 8) = true := by simp; omega
          have hz : hat P.bs.length (s % 2) l = 0 := hat_no fun x => by
            have := x.2.2.2.2.2
            rw [HT.out, ← hBl.out] at this
            have h2 : 10 + H.lg ≤ (B : Int) := this
            rw [HH.out] at h2; omega
          go_enter Tryz.func23, Tryz.ntmps23
          go_wp2_with (first
            | (go_at_call 58; refine hO'.mono ?_; rintro e w1 ⟨⟨A1, c1, rfl, hr1⟩, hb1⟩; have g1 := (hb1.block _ (hlt g0)).trans g0)
            | (go_at_call 59; refine (h59 w1 A1 c1 hr1).mono ?_; rintro e w2 ⟨⟨v, rfl, ⟨A3, B3, n3, c3, m3, d3, rfl, -, -, -, -⟩⟩, hb2⟩; have g2 := (hb2.block _ (hlt g1)).trans g1))
          have g3 := fun (o : Obj) (n : Nat) => (show ((w2.alloc o).drewN n).heap[w.heap.size]? = _ from (Below.heap_alloc w2 o _ (hlt g2)).trans g2)
          have bw2 : Below w.heap.size w w2 := (b0.trans (hb1.mono b0.size)).trans (hb2.mono (b0.trans (hb1.mono b0.size)).size)
          have b3 := fun (o : Obj) (n : Nat) => ((bw2.alloc bw2.size o).trans (drewN_below (w2.alloc o) _ n))
          have D3 : ∀ (o : Obj) (n : Nat), DB ((w2.alloc o).drewN n) d db P.bs.length pv P.ft P.wh := fun o n => (h.below (b3 o n)).box
          go_quiet (first
            | (go_at_call 15; refine Calls.quiet_of_same (hbk _ ?_); rw [hBl.out]; exact D3 _ _))
          go_wp2_with (refine stV rfl 28 (.tmp 6) (.tmp 52) rfl rfl w.heap.size 0 rfl 7 sz24 _ (.agg (hdV zeroH none none 0 0 0 0)) 28 (g3 _ _) rfl (by simp) rfl (by simp [Value.cells, Value.oneCell']) ?_; intro w10 g10 o10 b10 z10)
          exact fin (zz g10) trivial ((b3 _ _).trans (b10 _ (Nat.le_refl _))) rfl rfl rfl (by rw [hz]; rfl)
      · have hz : hat P.bs.length (s % 2) l = 0 := hat_no fun x => by have := x.2.2.2.2.1; rw [HT.out] at this; cases this
        go_enter Tryz.func23, Tryz.ntmps23
        go_wp2_with (first
          | (go_at_call 58; refine hO'.mono ?_; rintro e w1 ⟨⟨A1, c1, rfl, hr1⟩, hb1⟩; have g1 := (hb1.block _ (hlt g0)).trans g0)
          | (go_at_call 59; refine (h59 w1 A1 c1 hr1).mono ?_; rintro e w2 ⟨⟨v, rfl, ⟨A3, B3, n3, c3, m3, d3, rfl, -, -, -, -⟩⟩, hb2⟩; have g2 := (hb2.block _ (hlt g1)).trans g1))
        have g3 := fun (o : Obj) (n : Nat) => (show ((w2.alloc o).drewN n).heap[w.heap.size]? = _ from (Below.heap_alloc w2 o _ (hlt g2)).trans g2)
        have b3 := fun (o : Obj) (n : Nat) => ((((b0.trans (hb1.mono b0.size)).trans (hb2.mono (b0.trans (hb1.mono b0.size)).size)).alloc ((b0.trans (hb1.mono b0.size)).trans (hb2.mono (b0.trans (hb1.mono b0.size)).size)).size o).trans (drewN_below _ _ n))
        go_quiet (fail)
        go_wp2_with (refine stV rfl 28 (.tmp 6) (.tmp 52) rfl rfl w.heap.size 0 rfl 7 sz24 _ (.agg (hdV zeroH none none 0 0 0 0)) 28 (g3 _ _) rfl (by simp) rfl (by simp [Value.cells, Value.oneCell']) ?_; intro w10 g10 o10 b10 z10)
        exact fin (zz g10) trivial ((b3 _ _).trans (b10 _ (Nat.le_refl _))) rfl rfl rfl (by rw [hz]; rfl)
    · have hz : hat P.bs.length n l = 0 := hat_no fun x => hg ⟨HS.out ▸ x.2.1, HS.out ▸ x.2.2.1, HS.out ▸ x.2.2.2.1⟩
      have hcase : s < 1 ∨ (1 ≤ s ∧ 4611686018427387904 < s) ∨ (1 ≤ s ∧ s ≤ 4611686018427387904 ∧ s % 2 ≠ n) := by
        rcases Nat.lt_or_ge s 1 with h1 | h1
        · exact .inl h1
        · rcases Nat.lt_or_ge 4611686018427387904 s with h2 | h2
          · exact .inr (.inl ⟨h1, h2⟩)
          · exact .inr (.inr ⟨h1, h2, fun e => hg ⟨h1, h2, e⟩⟩)
      rcases hcase with h1 | ⟨h1, h2⟩ | ⟨h1, h2, h3⟩
      · have hq : decide ((s : Int) < 1) = true := by simp; omega
        go_enter Tryz.func23, Tryz.ntmps23
        go_wp2_with (first
          | (go_at_call 58; refine hO'.mono ?_; rintro e w1 ⟨⟨A1, c1, rfl, hr1⟩, hb1⟩; have g1 := (hb1.block _ (hlt g0)).trans g0)
          | (refine stV rfl 28 (.tmp 6) (.tmp 35) rfl rfl w.heap.size 0 rfl 7 sz24 _ (.agg (hdV zeroH none none 0 0 0 0)) 28 g1 rfl (by simp) rfl (by simp [Value.cells, Value.oneCell']) ?_; intro w10 g10 o10 b10 z10))
        exact fin (zz g10) trivial ((b0.trans (hb1.mono b0.size)).trans (b10 _ (Nat.le_refl _))) rfl rfl rfl (by rw [hz]; rfl)
      · have hq : decide ((s : Int) < 1) = false := by simp; omega
        have hq2 : decide (4611686018427387904 < (s : Int)) = true := by simp; omega
        go_enter Tryz.func23, Tryz.ntmps23
        go_wp2_with (first
          | (go_at_call 58; refine hO'.mono ?_; rintro e w1 ⟨⟨A1, c1, rfl, hr1⟩, hb1⟩; have g1 := (hb1.block _ (hlt g0)).trans g0)
          | (refine stV rfl 28 (.tmp 6) (.tmp 35) rfl rfl w.heap.size 0 rfl 7 sz24 _ (.agg (hdV zeroH none none 0 0 0 0)) 28 g1 rfl (by simp) rfl (by simp [Value.cells, Value.oneCell']) ?_; intro w10 g10 o10 b10 z10))
        exact fin (zz g10) trivial ((b0.trans (hb1.mono b0.size)).trans (b10 _ (Nat.le_refl _))) rfl rfl rfl (by rw [hz]; rfl)
      · have hq : decide ((s : Int) < 1) = false := by simp; omega
        have hq2 : decide (4611686018427387904 < (s : Int)) = false := by simp; omega
        have hq3 : ((s : Int) % 2 != (n : Int)) = true := by simp; omega
        go_enter Tryz.func23, Tryz.ntmps23
        go_wp2_with (first
          | (go_at_call 58; refine hO'.mono ?_; rintro e w1 ⟨⟨A1, c1, rfl, hr1⟩, hb1⟩; have g1 := (hb1.block _ (hlt g0)).trans g0)
          | (refine stV rfl 28 (.tmp 6) (.tmp 35) rfl rfl w.heap.size 0 rfl 7 sz24 _ (.agg (hdV zeroH none none 0 0 0 0)) 28 g1 rfl (by simp) rfl (by simp [Value.cells, Value.oneCell']) ?_; intro w10 g10 o10 b10 z10))
        exact fin (zz g10) trivial ((b0.trans (hb1.mono b0.size)).trans (b10 _ (Nat.le_refl _))) rfl rfl rfl (by rw [hz]; rfl)
  · have hz : hat P.bs.length n l = 0 := hat_no fun x => he x.1
    have hO' := hO.mono (R' := fun e w' => e = .returned (.tuple #[.slice none 0 0, .int .u64 0, .int .i64 140]) ∧ Below W0.heap.size W0 w') fun e w' hh => ⟨hh.1.elim (fun x => absurd x.1 he) fun x => x.2, hh.2⟩
    clear hO
    go_enter Tryz.func23, Tryz.ntmps23
    go_wp2_with (first
      | (go_at_call 58; refine hO'.mono ?_; rintro e w1 ⟨rfl, hb1⟩; have g1 := (hb1.block _ (hlt g0)).trans g0)
      | (refine stV rfl 28 (.tmp 6) (.tmp 35) rfl rfl w.heap.size 0 rfl 7 sz24 _ (.agg (hdV zeroH none none 0 0 0 0)) 28 g1 rfl (by simp) rfl (by simp [Value.cells, Value.oneCell']) ?_; intro w10 g10 o10 b10 z10))
    have g11 : w10.heap[w.heap.size]? = some (.cells (hdV zeroH none none 0 0 0 0) 28 (0, 0)) := by rw [g10]; congr 2
    refine bodyPost_ret (ret_head rfl rfl g11 rfl) rfl ?_
    exact ⟨⟨_, by rw [hz]; rfl, zeroH, none, none, 0, 0, 0, 0, rfl⟩, (b0.trans (hb1.mono b0.size)).trans (b10 _ (Nat.le_refl _))⟩
end Go.Proofs.YtecnddogdiikiaaGreat

