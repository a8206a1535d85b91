/-
  chancerylow.Pick, chanceryref03.New: what each call does.
  chancerylaw16.mirror: what the call does.
-/
import Derived.Test.YtecnddogdiikiaaGreatR11
import Derived.Test.YtecnddogdiikiaaGreatD3
set_option linter.unusedVariables false
set_option linter.unusedSimpArgs false
namespace Go.Proofs.YtecnddogdiikiaaGreat
open Go Go.RowKit
set_option maxRecDepth 100000
set_option maxHeartbeats 3000000

theorem pick_any (x : Int) (n : Nat) (h1 : 1 ≤ n) (h2 : n ≤ 1000000) (hx : -9223372036854775808 ≤ x ∧ x ≤ 9223372036854775807) (w : World) :
    Calls Tryz.prog 14 #[.int .i64 x, .int .i64 (n : Int)] w fun e w' => (∃ p : Nat, p < n ∧ e = .returned (.int .i64 (p : Int))) ∧ w' = w := by
  have hm1 : x.tmod n < n := Int.tmod_lt_of_pos _ (by omega)
  have hm2 : -(n : Int) < x.tmod n := by have := Int.lt_tmod_of_pos x (b := n) (by omega); omega
  obtain ⟨m, hm⟩ : ∃ m, m = x.tmod n := ⟨_, rfl⟩
  rw [← hm] at hm1 hm2
  have HM := Lib.hid hm
  clear hm
  go_enter Tryz.func14, Tryz.ntmps14
  go_wp2
  · have hw : wrap64 (x.tmod n + n) = x.tmod n + n := IntWalk.wrap64_in _ (by have := HM.out; omega)
    obtain ⟨p, hp⟩ : ∃ p : Nat, (p : Int) = x.tmod n + n := ⟨(x.tmod n + n).toNat, by have := HM.out; omega⟩
    rw [hw, ← hp]
    go_ret
    exact ⟨⟨p, by omega, rfl⟩, rfl⟩
  · obtain ⟨p, hp⟩ : ∃ p : Nat, (p : Int) = x.tmod n := ⟨(x.tmod n).toNat, by omega⟩
    go_ret
    exact ⟨⟨p, by have := HM.out; omega, by rw [hp]; rfl⟩, rfl⟩

/-- one more block in a row of the call's own -/
theorem appZ {w : World} {base n : Nat} {A : Option Addr} {c : Nat} {xs : List Value} {z : Value} (hz : z.oneCell' = true) (hown : w.ownsRow base 37 1 (.slice A n c) n xs) (hn : n ≤ 5000) (hbase : base ≤ w.heap.size) :
    ∃ A' c' w', (Builtin.append_ #[45, 45] 45 #[.slice A n c, .slice (some ⟨w.heap.size, 0, none⟩) 1 1]).run Tryz.prog (w.alloc (.cells #[z] 37)) = .ok (.slice A' (n + 1) c') w' ∧ w'.ownsRow base 37 1 (.slice A' (n + 1) c') (n + 1) (xs ++ [z]) ∧ Below base w w' := by
  obtain ⟨i0, hi, hz0, hz1, hz2⟩ := info_parts info37
  obtain ⟨v', w', hr, ho, hg, _, _⟩ := run_append_own_at (P := Tryz.prog) (w.alloc (.cells #[z] 37)) base 45 45 37 i0 _ 1 24 Tryz.underlying45 hi hz0 hz1 hz2 rfl (by omega) (.slice A n c) n xs (ownsRow_same hown fun g x hx => Below.heap_alloc w _ g (hlt hx)) ⟨w.heap.size, 0, none⟩ 1 1 [z] rfl (fun j v hj => by
      rw [addOff, Nat.zero_add, World.cell?_alloc_at _ _ _ _ rfl]; simpa using hj) (fun y hy => by simp at hy; subst hy; exact hz) (by simp [maxLen]; omega) (by omega) (by simp; omega)
  obtain ⟨A', c', rfl⟩ := own_sl ho
  have hk : ∀ k, (Value.slice A n c).ownBlock = some k → base ≤ k := by
    intro k hk
    rcases hown.2 with ⟨e, _⟩ | ⟨g, cap, cur, e, h1, _⟩
    · rw [e] at hk; simp [Value.ownBlock] at hk
    · rw [e] at hk; simp [Value.ownBlock] at hk; omega
  exact ⟨A', c', w', hr, ho, ((Below.refl _ _).alloc hbase _).trans (grown_below hg hk (by rw [World.size_alloc]; omega))⟩

theorem rnew_any (w : World) (n : Nat) (h1 : 1 ≤ n) (h2 : n ≤ 4096) :
    Calls Tryz.prog 49 #[.int .i64 (n : Int)] w fun e w' => (∃ G C, e = .returned (.tuple #[rvv (.slice (some ⟨G, 0, none⟩) n C) (.slice none 0 0) (-1) 0, .int .i64 0]) ∧ w.heap.size ≤ G ∧ ∃ cs : Array Value, w'.heap[G]? = some (.cells cs 37 (0, 0)) ∧ n ≤ cs.size) ∧ Below w.heap.size w w' := by
  obtain ⟨V, hV⟩ : ∃ V, w.alloc (.cells #[.slice none 0 0, .slice none 0 0, .bool false, .int .i64 0, .int .i64 0, .int .i64 0] 50) = V := ⟨_, rfl⟩
  have bV : Below w.heap.size w V := by rw [← hV]; exact (Below.refl _ _).alloc (Nat.le_refl _) _
  have gV : V.heap[w.heap.size]? = some (.cells #[.slice none 0 0, .slice none 0 0, .bool false, .int .i64 0, .int .i64 0, .int .i64 0] 50 (0, 0)) := by rw [← hV]; exact heap_alloc_new w _
  have hVz : w.heap.size < V.heap.size := hlt gV
  obtain ⟨zg, W1, hmk, g31, g41, b1⟩ : ∃ zg W1, (Instr.makeSlice 37 (.int .i64 4096) (.int .i64 4096)).run Tryz.prog (V.alloc (.cells #[.slice none 0 0, .slice none 0 0, .bool false, .int .i64 (-1), .int .i64 (-1), .int .i64 0] 50)) = .ok (.slice (some ⟨zg, 0, none⟩) 4096 4096) W1 ∧
      W1.heap[w.heap.size]? = some (.cells #[.slice none 0 0, .slice none 0 0, .bool false, .int .i64 0, .int .i64 0, .int .i64 0] 50 (0, 0)) ∧ W1.heap[V.heap.size]? = some (.cells #[.slice none 0 0, .slice none 0 0, .bool false, .int .i64 (-1), .int .i64 (-1), .int .i64 0] 50 (0, 0)) ∧ Below w.heap.size w W1 := by
    obtain ⟨W0, hW0⟩ : ∃ W0, V.alloc (.cells #[.slice none 0 0, .slice none 0 0, .bool false, .int .i64 (-1), .int .i64 (-1), .int .i64 0] 50) = W0 := ⟨_, rfl⟩
    have b0 : Below w.heap.size w W0 := by rw [← hW0]; exact bV.alloc bV.size _
    have g3 : W0.heap[w.heap.size]? = some (.cells #[.slice none 0 0, .slice none 0 0, .bool false, .int .i64 0, .int .i64 0, .int .i64 0] 50 (0, 0)) := by rw [← hW0]; exact (Below.heap_alloc _ _ _ hVz).trans gV
    have g4 : W0.heap[V.heap.size]? = some (.cells #[.slice none 0 0, .slice none 0 0, .bool false, .int .i64 (-1), .int .i64 (-1), .int .i64 0] 50 (0, 0)) := by rw [← hW0]; exact heap_alloc_new V _
    obtain ⟨W1, hmk0, ho1, hb1⟩ := mkn W0 4096 (by omega)
    have hmk : (Instr.makeSlice 37 (.int .i64 4096) (.int .i64 4096)).run Tryz.prog W0 = .ok (.slice (some ⟨W0.heap.size, 0, none⟩) 4096 4096) W1 := hmk0
    rw [hW0]
    exact ⟨_, _, hmk, (hb1.block _ (hlt g3)).trans g3, (hb1.block _ (hlt g4)).trans g4, b0.trans (hb1.mono b0.size)⟩
  have hz3 := hlt g31
  have hz4 := hlt g41
  clear gV bV
  go_enter Tryz.func49, Tryz.ntmps49
  go_wp2
  all_goals first | omega | skip
  go_loopw [6] (fun i wr => ∃ (k : Nat) (A : Option Addr) (c : Nat), k ≤ n ∧ i = .int .i64 k ∧ wr.ownsRow W1.heap.size 37 1 (.slice A k c) k (List.replicate k (.slice (some ⟨zg, 0, none⟩) 4096 4096)) ∧ wr.heap[V.heap.size]? = some (.cells #[.slice A k c, .slice none 0 0, .bool false, .int .i64 (-1), .int .i64 (-1), .int .i64 0] 50 (0, 0)) ∧ wr.heap[w.heap.size]? = some (.cells #[.slice none 0 0, .slice none 0 0, .bool false, .int .i64 0, .int .i64 0, .int .i64 0] 50 (0, 0)) ∧ Below w.heap.size w wr ∧ W1.heap.size ≤ wr.heap.size) (fun i _ => n - (intOf i).toNat)
  case atStart => exact ⟨0, none, 0, Nat.zero_le _, rfl, World.ownsRow_nil _ _ _ _, g41, g31, b1, Nat.le_refl _⟩
  case round =>
    obtain ⟨k, A, c, hk, rfl, own, hg4, hg3, hbr, hzr⟩ := hrel
    obtain ⟨c0, c1, c2, c3, c4, c5⟩ := cells6 hg4
    clear g31 g41 b1
    by_cases hkn : k < n
    · obtain ⟨A', c', w', hap, own', hb'⟩ := appZ (z := .slice (some ⟨zg, 0, none⟩) 4096 4096) rfl own (by omega) hzr
      have g4' := (hb'.block _ hz4).trans hg4
      have g3' := (hb'.block _ hz3).trans hg3
      have hbr' : Below w.heap.size w w' := hbr.trans (hb'.mono (Nat.le_of_lt hz3))
      have hzr' := Nat.le_trans hzr hb'.size
      have hmeas : n - (intOf (Value.int .i64 ((k : Int) + 1))).toNat < n - (intOf (Value.int .i64 (k : Int))).toNat := by simp [intOf]; omega
      clear hg4 hg3 hb' own hzr hbr
      go_wp2_with (first
        | (at_builtin; refine Lib.wpList_append_run _ rfl _ _ _ _ rfl _ _ rfl rfl _ _ hap ?_; clear hap)
        | (refine stV rfl 45 (.tmp 26) (.tmp 25) rfl rfl V.heap.size 0 rfl 1 sz45 _ (.slice A' (k + 1) c') 50 g4' rfl (by simp) rfl (by simp [Value.cells, Value.oneCell']) ?_; intro w10 g10 o10 b10 z10))
      refine ⟨⟨k + 1, A', c', by omega, by go_num, ?_, by rw [g10]; rfl, (o10 _ (Nat.ne_of_lt hVz)).trans g3', hbr'.trans (b10 _ (Nat.le_of_lt hVz)), by omega⟩, hmeas⟩
      rw [List.replicate_succ']
      exact ownsRow_same own' fun g x hx => o10 g (tag_ne hx g4' (by decide))
    · obtain rfl : k = n := by omega
      go_wp2_with (refine stV rfl 50 (.tmp 2) (.tmp 27) rfl rfl w.heap.size 0 rfl 6 sz50 _ (rvv (.slice A k c) (.slice none 0 0) (-1) 0) 50 hg3 rfl (by simp) rfl (by simp [Value.cells, Value.oneCell']) ?_; intro w10 g10 o10 b10 z10)
      have g11 : w10.heap[w.heap.size]? = some (.cells #[.slice A k c, .slice none 0 0, .bool false, .int .i64 (-1), .int .i64 (-1), .int .i64 0] 50 (0, 0)) := by rw [g10]; rfl
      refine bodyPost_ret (ret_disk rfl rfl g11 rfl) rfl ?_
      have hb10 := hbr.trans (b10 _ (Nat.le_refl _))
      rcases own.2 with ⟨e, e'⟩ | ⟨G, cap, cur, e, q1, q2, q3, q4, q5, q6⟩
      · omega
      · injection e with e e1 e2
        subst e
        refine ⟨⟨G, c, rfl, by have := b10 _ (Nat.le_refl _); omega, cur, (o10 G (tag_ne q2 hg3 (by decide))).trans q2, by omega⟩, hb10⟩
end Go.Proofs.YtecnddogdiikiaaGreat

namespace Go.Proofs.YtecnddogdiikiaaGreat
open Go Go.RowKit
set_option maxRecDepth 100000
set_option maxHeartbeats 3000000

theorem Hb.same5 {w w' : World} {lo : Nat} {v : Value} {l : List UInt8} (h : Hb w lo v l) (hs : w.heap.size ≤ w'.heap.size) (hb : ∀ (g : Nat) (x : Array Value), w.heap[g]? = some (.cells x 5 (0, 0)) → w'.heap[g]? = w.heap[g]?) : Hb w' lo v l := by
  obtain ⟨b, o, c, rfl, h1, h2, h3, hc, h4, x, hx⟩ := h
  exact ⟨b, o, c, rfl, h1, Nat.lt_of_lt_of_le h2 hs, h3, hc, fun k hk => by rw [← h4 k hk]; simp [World.cell?, hb b x hx], x, (hb b x hx).trans hx⟩

theorem mirror_any {w : World} {n0 d db : Nat} {P : PD} (h : Dk w n0 d db (.slice none 0 0) P) (hB1 : 1 ≤ P.bs.length) (hB : P.bs.length ≤ 4096) :
    Calls Tryz.prog 17 #[.pointer (some ⟨d, 0, none⟩)] w fun e w' => (∃ v, e = .returned (.tuple #[v, .bool true]) ∧ Rv w' w.heap.size v ⟨P.bs, [], -1, 0⟩) ∧ Below w.heap.size w w' := by
  have hws : P.ws = [] := h.pend.none0
  obtain ⟨W0, hW0⟩ : ∃ W0, w.alloc (.cells #[.slice none 0 0, .slice none 0 0, .bool false, .int .i64 0, .int .i64 0, .int .i64 0] 50) = W0 := ⟨_, rfl⟩
  have b0 : Below w.heap.size w W0 := by rw [← hW0]; exact (Below.refl _ _).alloc (Nat.le_refl _) _
  have g3 : W0.heap[w.heap.size]? = some (.cells #[.slice none 0 0, .slice none 0 0, .bool false, .int .i64 0, .int .i64 0, .int .i64 0] 50 (0, 0)) := by rw [← hW0]; exact heap_alloc_new w _
  have hz0 := b0.size
  obtain ⟨B, hBB⟩ : ∃ B, B = P.bs.length := ⟨_, rfl⟩
  have hbk : ∀ (W : World), Below w.heap.size w W → Calls Tryz.prog 15 #[.pointer (some ⟨d, 0, none⟩)] W fun e w' => e = .returned (.int .i64 (B : Int)) ∧ w' = W := fun W hb => by rw [hBB]; exact blocks_any (h.below hb).box
  have hpd : ∀ (W : World), Below w.heap.size w W → Calls Tryz.prog 51 #[.pointer (some ⟨d, 0, none⟩)] W fun e w' => e = .returned (.int .i64 0) ∧ w' = W := fun W hb => pending_any (n := 0) (h.below hb).box
  have hdu : ∀ (W : World) (b : Nat) (hb : b < P.bs.length), Below w.heap.size w W → Calls Tryz.prog 50 #[.pointer (some ⟨d, 0, none⟩), .int .i64 (b : Int)] W fun e w' => (∃ g, e = .returned (.tuple #[.slice (some ⟨g, 0, none⟩) 4096 4096, .int .i64 0]) ∧ Bk w' (.slice (some ⟨g, 0, none⟩) 4096 4096) P.bs[b] ∧ W.heap.size ≤ g) ∧ Below W.heap.size W w' :=
    fun W b hb hW => durable_any (h.below hW) b hb
  have hok := h.ok
  rw [← hBB] at hB1 hB
  have HB := Lib.hid hBB
  have HOK := Lib.hid hok
  clear hBB h hok hws
  have hnw : ∀ W, Calls Tryz.prog 49 #[.int .i64 (B : Int)] W fun e w' => (∃ G C, e = .returned (.tuple #[rvv (.slice (some ⟨G, 0, none⟩) B C) (.slice none 0 0) (-1) 0, .int .i64 0]) ∧ W.heap.size ≤ G ∧ ∃ cs : Array Value, w'.heap[G]? = some (.cells cs 37 (0, 0)) ∧ B ≤ cs.size) ∧ Below W.heap.size W w' := fun W => rnew_any W B hB1 hB
  have hk0 := hbk W0 b0
  go_enter Tryz.func17, Tryz.ntmps17
  go_wp2_with (first
    | (go_at_call 15; with_reducible refine hk0.mono ?_; rintro e W0 ⟨rfl, rfl⟩)
    | (go_at_call 49
       with_reducible refine (hnw _).mono ?_
       rintro e w1 ⟨⟨G, C, rfl, hG, cs, hcs, hcz⟩, hb1⟩
       have g31 := (hb1.block _ (hlt g3)).trans g3
       clear hk0))
  all_goals first | omega | skip
  have b12 : Below w1.heap.size w1 (w1.alloc (.cells #[.slice (some ⟨G, 0, none⟩) B C, .slice none 0 0, .bool false, .int .i64 (-1), .int .i64 (-1), .int .i64 0] 50)) := (Below.refl _ _).alloc (Nat.le_refl _) _
  have g42 := heap_alloc_new w1 (.cells #[.slice (some ⟨G, 0, none⟩) B C, .slice none 0 0, .bool false, .int .i64 (-1), .int .i64 (-1), .int .i64 0] 50)
  generalize w1.alloc (.cells #[.slice (some ⟨G, 0, none⟩) B C, .slice none 0 0, .bool false, .int .i64 (-1), .int .i64 (-1), .int .i64 0] 50) = W2 at *
  have g32 := (b12.block _ (hlt g31)).trans g31
  have cs2 := (b12.block _ (hlt hcs)).trans hcs
  have b2 : Below w.heap.size w W2 := (b0.trans (hb1.mono hz0)).trans (b12.mono (Nat.le_trans hz0 hb1.size))
  have hGw : w.heap.size ≤ G := Nat.le_trans hz0 hG
  have hz4 : w.heap.size < w1.heap.size := Nat.lt_of_lt_of_le (hlt g3) hb1.size
  clear hcs g31
  have HZ4 := Lib.hid hz4
  generalize w1.heap.size = t4 at *
  clear hz4 b12 hG hb1
  go_loopw [6, 7, 8] (fun i _ _ wr => ∃ (k : Nat) (cs : Array Value), k ≤ B ∧ i = .int .i64 k ∧ wr.heap[G]? = some (.cells cs 37 (0, 0)) ∧ B ≤ cs.size ∧ (∀ j (h : j < P.bs.length), j < k → ∃ u, cs[j]? = some u ∧ Hb wr w.heap.size u P.bs[j]) ∧ wr.heap[t4]? = some (.cells #[.slice (some ⟨G, 0, none⟩) B C, .slice none 0 0, .bool false, .int .i64 (-1), .int .i64 (-1), .int .i64 0] 50 (0, 0)) ∧ wr.heap[w.heap.size]? = some (.cells #[.slice none 0 0, .slice none 0 0, .bool false, .int .i64 0, .int .i64 0, .int .i64 0] 50 (0, 0)) ∧ Below w.heap.size w wr) (fun i _ _ _ => B - (intOf i).toNat)
  case atStart => exact ⟨0, cs, Nat.zero_le _, rfl, cs2, hcz, fun j _ hj => absurd hj (Nat.not_lt_zero _), g42, g32, b2⟩
  case round =>
    clear cs2 hcz g42 g32 b2
    obtain ⟨k, cs, hk, rfl, hcs, hcz, hbs, hg4, hg3, hbr⟩ := hrel
    have hkr := hbk wr hbr
    by_cases hkB : k < B
    · have hkl : k < P.bs.length := by rw [← HB.out]; exact hkB
      have hd := hdu wr k hkl hbr
      have hmeas : B - (intOf (Value.int .i64 ((k : Int) + 1))).toNat < B - (intOf (Value.int .i64 (k : Int))).toNat := by simp [intOf]; omega
      have HBS := Lib.hid hbs
      clear hbs
      go_wp2_with (first
        | (go_at_call 15; with_reducible refine hkr.mono ?_; rintro e wr ⟨rfl, rfl⟩)
        | (go_at_call 50
           with_reducible refine hd.mono ?_
           rintro e w5 ⟨⟨g, rfl, hBk, hg⟩, hb5⟩
           have hcs5 := (hb5.block _ (hlt hcs)).trans hcs
           have hg45 := (hb5.block _ (hlt hg4)).trans hg4
           have hg35 := (hb5.block _ (hlt hg3)).trans hg3
           obtain ⟨c0, c1, c2, c3, c4, c5⟩ := cells6 hg45
           obtain ⟨uk, huk⟩ : ∃ u, cs[k]? = some u := ⟨_, Array.getElem?_eq_getElem (by omega)⟩
           have ck := (cellD hcs5 k).trans huk
           have fk := frozenD hcs5 k
           have hzr := hbr.size))
      all_goals first | omega | skip
      have gG : (w5.setCell ⟨G, k, none⟩ (.slice (some ⟨g, 0, none⟩) 4096 4096)).heap[G]? = some (.cells (cs.setIfInBounds k (.slice (some ⟨g, 0, none⟩) 4096 4096)) 37 (0, 0)) := by rw [heap_setCell_same w5 G k _ _ _ hcs5]
      have hs5 : ∀ (g' : Nat) (x : Array Value), w5.heap[g']? = some (.cells x 5 (0, 0)) → (w5.setCell ⟨G, k, none⟩ (.slice (some ⟨g, 0, none⟩) 4096 4096)).heap[g']? = w5.heap[g']? := fun g' x hx => Below.heap_setCell _ _ _ _ (tag_ne hx hcs5 (by decide))
      have hb0' : Below w.heap.size w (w5.setCell ⟨G, k, none⟩ (.slice (some ⟨g, 0, none⟩) 4096 4096)) := (hbr.trans (hb5.mono hbr.size)).setCell hGw _
      have hzS : w5.heap.size ≤ (w5.setCell ⟨G, k, none⟩ (.slice (some ⟨g, 0, none⟩) 4096 4096)).heap.size := by simp
      have n4 : t4 ≠ G := tag_ne hg45 hcs5 (by decide)
      have n3 : w.heap.size ≠ G := tag_ne hg35 hcs5 (by decide)
      refine ⟨⟨k + 1, _, by omega, by go_num, gG, by simp; omega, fun j hj hjk => ?_, (Below.heap_setCell _ _ _ _ n4).trans hg45, (Below.heap_setCell _ _ _ _ n3).trans hg35, hb0'⟩, hmeas⟩
      by_cases hjk' : j = k
      · subst hjk'
        refine ⟨_, by rw [Array.getElem?_setIfInBounds_self_of_lt (by omega)], ?_⟩
        exact (Hb.of_bk hBk (Nat.le_trans hzr hg)).same5 hzS hs5
      · obtain ⟨u, h1, h2⟩ := HBS.out j hj (by omega)
        refine ⟨u, by rw [Array.getElem?_setIfInBounds_ne (by omega)]; exact h1, ?_⟩
        exact (h2.same (Up.below hb5)).same5 hzS hs5
    · obtain rfl : k = B := by omega
      go_wp2_with (go_at_call 15; with_reducible refine hkr.mono ?_; rintro e wr ⟨rfl, rfl⟩)
      all_goals first | omega | skip
      obtain ⟨c0, c1, c2, c3, c4, c5⟩ := cells6 hg4
      obtain ⟨q0, q1, q2, q3, q4, q5⟩ := cells6 hg3
      have z0 := frozenD hg3 0
      have z1 := frozenD hg3 1
      have z2 := frozenD hg3 2
      have z3 := frozenD hg3 3
      have z4 := frozenD hg3 4
      have z5 := frozenD hg3 5
      have S6 := set6 (W := wr) (g := w.heap.size) hg3 (.slice (some ⟨G, 0, none⟩) k C) (.slice none 0 0) (.bool false) (.int .i64 (-1)) (.int .i64 (-1)) (.int .i64 0)
      have B6 := (hbr.trans (S6.2 _ (Nat.le_refl _))).trans (drewN_below _ _ 1)
      have S7 := drew_get S6.1
      have hne : t4 ≠ w.heap.size := Nat.ne_of_gt HZ4.out
      have hT : ((((((wr.setCell ⟨w.heap.size, 0, none⟩ (.slice (some ⟨G, 0, none⟩) k C)).setCell ⟨w.heap.size, 1, none⟩ (.slice none 0 0)).setCell ⟨w.heap.size, 2, none⟩ (.bool false)).setCell ⟨w.heap.size, 3, none⟩ (.int .i64 (-1))).setCell ⟨w.heap.size, 4, none⟩ (.int .i64 (-1))).setCell ⟨w.heap.size, 5, none⟩ (.int .i64 0)).heap[t4]? = wr.heap[t4]? := by
        rw [Below.heap_setCell _ _ _ _ hne, Below.heap_setCell _ _ _ _ hne, Below.heap_setCell _ _ _ _ hne, Below.heap_setCell _ _ _ _ hne, Below.heap_setCell _ _ _ _ hne, Below.heap_setCell _ _ _ _ hne]
      have S8 := cells6 (hT.trans hg4)
      have S9 := cells6 (drew_get (hT.trans hg4))
      go_region_held3 (fun w' => w'.cell? ⟨t4, 0, none⟩ = some (.slice (some ⟨G, 0, none⟩) k C) ∧ w'.cell? ⟨t4, 1, none⟩ = some (.slice none 0 0) ∧ w'.cell? ⟨t4, 2, none⟩ = some (.bool false) ∧ w'.cell? ⟨t4, 3, none⟩ = some (.int .i64 (-1)) ∧ w'.cell? ⟨t4, 4, none⟩ = some (.int .i64 (-1)) ∧ w'.cell? ⟨t4, 5, none⟩ = some (.int .i64 0))
        (first | with_reducible exact S8 | with_reducible exact S9 | go_keep)
        (first | (go_at_call 51; with_reducible refine (hpd _ (by first | exact hbr.trans (drewN_below _ _ 1) | exact B6 | exact hbr)).mono ?_; rintro e wq ⟨rfl, rfl⟩))
      all_goals
        go_wp2
        refine bodyPost_ret (ret_disk (g := w.heap.size) (V := #[.slice (some ⟨G, 0, none⟩) k C, .slice none 0 0, .bool false, .int .i64 (-1), .int .i64 (-1), .int .i64 0]) rfl rfl S7 rfl) rfl ?_
        refine ⟨⟨_, rfl, .slice (some ⟨G, 0, none⟩) k C, .slice none 0 0, rfl, ?_, Rws.nil _ _, ?_⟩, B6⟩
        · have nG : G ≠ w.heap.size := tag_ne hcs hg3 (by decide)
          have hO6 : ∀ j, j ≠ w.heap.size → ((((((wr.setCell ⟨w.heap.size, 0, none⟩ (.slice (some ⟨G, 0, none⟩) k C)).setCell ⟨w.heap.size, 1, none⟩ (.slice none 0 0)).setCell ⟨w.heap.size, 2, none⟩ (.bool false)).setCell ⟨w.heap.size, 3, none⟩ (.int .i64 (-1))).setCell ⟨w.heap.size, 4, none⟩ (.int .i64 (-1))).setCell ⟨w.heap.size, 5, none⟩ (.int .i64 0)).drew.heap[j]? = wr.heap[j]? := fun j hne => drew_get (by
            rw [Below.heap_setCell _ _ _ _ hne, Below.heap_setCell _ _ _ _ hne, Below.heap_setCell _ _ _ _ hne, Below.heap_setCell _ _ _ _ hne, Below.heap_setCell _ _ _ _ hne, Below.heap_setCell _ _ _ _ hne])
          have hz6 := ((S6.2 _ (Nat.le_refl _)).trans (drewN_below _ _ 1)).size
          have hGG := (hO6 G nG).trans hcs
          refine ⟨G, 0, C, by rw [← HB.out], hGw, hlt hGG, fun j hj => ?_, _, hGG⟩
          have hj' : j < P.bs.length := hj
          obtain ⟨u, h1, h2⟩ := hbs j hj' (by have := HB.out; omega)
          exact ⟨u, by rw [Nat.zero_add, cellD hGG]; exact h1, h2.same5 hz6 fun g' x hx => hO6 g' (tag_ne hx hg3 (by decide))⟩
        · have := HOK.out
          exact ⟨this.lens, fun x hx => (by cases hx), by show (-1 : Int) ≤ -1; omega, by show (-1 : Int) ≤ 1000; omega⟩
end Go.Proofs.YtecnddogdiikiaaGreat

