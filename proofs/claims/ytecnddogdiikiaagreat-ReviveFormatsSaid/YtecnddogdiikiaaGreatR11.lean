/-
  chanceryref03.Sync (f105), when nothing fails.
  chanceryref03.Sync (f105).
-/
import Derived.Test.YtecnddogdiikiaaGreatR9
set_option linter.unusedVariables false
set_option linter.unusedSimpArgs false
namespace Go.Proofs.YtecnddogdiikiaaGreat
open Go Go.RowKit
set_option maxRecDepth 100000
set_option maxHeartbeats 3000000

theorem info4 : (Tryz.prog.info? 4).map (fun i => (i.zero, i.size, i.bytes)) = some (some (.bool false), 1, 1) := by kernel_rfl
theorem sz45 : Go.Ev.szOf Tryz.prog 45 = some 1 := by kernel_rfl

/-- one more bool -/
theorem appT {w : World} {base n : Nat} {A : Option Addr} {c : Nat} {xs : List Value} (hown : w.ownsRow base 4 1 (.slice A n c) n xs) (hn : n ≤ 100) (hbase : base ≤ w.heap.size) :
    ∃ A' c' w', (Builtin.append_ #[107, 107] 107 #[.slice A n c, .slice (some ⟨w.heap.size, 0, none⟩) 1 1]).run Tryz.prog (w.alloc (.cells #[.bool true] 4)) = .ok (.slice A' (n + 1) c') w' ∧ w'.ownsRow base 4 1 (.slice A' (n + 1) c') (n + 1) (xs ++ [.bool true]) ∧ Below base w w' := by
  obtain ⟨i0, hi, hz0, hz1, hz2⟩ := info_parts info4
  obtain ⟨v', w', hr, ho, hg, _, _⟩ := run_append_own_at (P := Tryz.prog) (w.alloc (.cells #[.bool true] 4)) base 107 107 4 i0 _ 1 1 Tryz.underlying107 hi hz0 hz1 hz2 rfl (by omega) (.slice A n c) n xs (ownsRow_same hown fun g x hx => Below.heap_alloc w _ g (hlt hx)) ⟨w.heap.size, 0, none⟩ 1 1 [.bool true] rfl (fun j v hj => by
      rw [addOff, Nat.zero_add, World.cell?_alloc_at _ _ _ _ rfl]; simpa using hj) (fun z hz => by simp at hz; subst hz; rfl) (by simp [maxLen]; omega) (by omega) (by simp; omega)
  obtain ⟨A', c', rfl⟩ := own_sl ho
  have hk : ∀ k, (Value.slice A n c).ownBlock = some k → base ≤ k := by
    intro k hk
    rcases hown.2 with ⟨e, _⟩ | ⟨g, cap, cur, e, h1, _⟩
    · rw [e] at hk; simp [Value.ownBlock] at hk
    · rw [e] at hk; simp [Value.ownBlock] at hk; omega
  exact ⟨A', c', w', hr, ho, ((Below.refl _ _).alloc hbase _).trans (grown_below hg hk (by rw [World.size_alloc]; omega))⟩
theorem own_true {w : World} {base n : Nat} {A : Option Addr} {c : Nat} (h : w.ownsRow base 4 1 (.slice A n c) n (List.replicate n (.bool true))) (j : Nat) (hj : j < n) : ∃ g o, A = some ⟨g, o, none⟩ ∧ g < w.heap.size ∧ w.cell? ⟨g, o + j, none⟩ = some (.bool true) := by
  rcases h.2 with ⟨e, e'⟩ | ⟨g, cap, cur, e, h1, h2, h3, h4, h5, h6⟩
  · omega
  · injection e with e
    refine ⟨g, 0, e, hlt h2, ?_⟩
    rw [Nat.zero_add, cellD h2]
    have : (cur.toList.take (n * 1))[j]? = some (.bool true) := by rw [h6]; simp [hj]
    rw [List.getElem?_take] at this
    split at this
    · simpa using this
    · cases this

theorem rsync_ok {w : World} {lo : Nat} {v : Value} {P : PD} (h : Rv w lo v P) (hlo : lo ≤ w.heap.size) (hpos : 0 < P.bs.length) (hlen : P.bs.length ≤ 1000000) (hw : P.ws.length ≤ 90) (he0 : opE P.ft P.wh = 0) :
    Calls Tryz.prog 105 #[v] w fun e w' => (∃ v', e = .returned (.tuple #[v', .int .i64 P.sync.2]) ∧ Rv w' lo v' P.sync.1) ∧ Below w.heap.size w w' := by
  obtain ⟨x, y, rfl, hrow, hws, hok⟩ := h
  have hrow0 := hrow
  obtain ⟨g, o, rc, rfl, hg1, hg2, hg3⟩ := hrow0
  have hws0 := hws
  obtain ⟨Y, m, rfl, -, -⟩ := hws0
  obtain ⟨B, hB⟩ : ∃ B, B = P.bs.length := ⟨_, rfl⟩
  obtain ⟨n, hn⟩ : ∃ n, n = P.ws.length := ⟨_, rfl⟩
  obtain ⟨ft, hft⟩ : ∃ ft, ft = P.ft := ⟨_, rfl⟩
  obtain ⟨wh, hwh⟩ : ∃ wh, wh = P.wh := ⟨_, rfl⟩
  rw [← hB, ← hn, ← hft, ← hwh]
  have he : opE ft wh = 0 := by rw [hft, hwh]; exact he0
  obtain ⟨W0, hW0⟩ : ∃ W0, (w.alloc (.cells #[.slice (some ⟨g, o, none⟩) B rc, .slice Y n m, .bool false, .int .i64 (-1), .int .i64 ft, .int .i64 wh] 50)).alloc (.cells #[.slice none 0 0, .slice none 0 0, .bool false, .int .i64 0, .int .i64 0, .int .i64 0] 50) = W0 := ⟨_, rfl⟩
  have g3 : W0.heap[w.heap.size]? = some (.cells #[.slice (some ⟨g, o, none⟩) B rc, .slice Y n m, .bool false, .int .i64 (-1), .int .i64 ft, .int .i64 wh] 50 (0, 0)) := by rw [← hW0]; exact (Below.heap_alloc _ _ _ (by simp)).trans (heap_alloc_new w _)
  have g6 : W0.heap[w.heap.size + 1]? = some (.cells #[.slice none 0 0, .slice none 0 0, .bool false, .int .i64 0, .int .i64 0, .int .i64 0] 50 (0, 0)) := by
    rw [← hW0]
    have := heap_alloc_new (w.alloc (.cells #[.slice (some ⟨g, o, none⟩) B rc, .slice Y n m, .bool false, .int .i64 (-1), .int .i64 ft, .int .i64 wh] 50)) (.cells #[.slice none 0 0, .slice none 0 0, .bool false, .int .i64 0, .int .i64 0, .int .i64 0] 50)
    rw [World.size_alloc] at this
    exact this
  have b0 : Below w.heap.size w W0 := by rw [← hW0]; exact ((Below.refl _ _).alloc (Nat.le_refl _) _).alloc (by simp) _
  obtain ⟨c0, c1, c2, c3, c4, c5⟩ := cells6 g3
  have hO := fun W => roper_any (some ⟨g, o, none⟩) B rc Y n m ft wh (by rw [hft]; exact hok.lo) (by rw [hft]; exact hok.hi) W
  have hz3 := hlt g3
  have hz6 := hlt g6
  have HB := Lib.hid hB
  have HN := Lib.hid hn
  have HF := Lib.hid hft
  have HH := Lib.hid hwh
  have HE := Lib.hid he0
  have HP := Lib.hid hpos
  have HL := Lib.hid hlen
  rw [sync_ok he0]
  have hn90 : n ≤ 90 := by omega
  clear hB hn hft hwh he0 hpos hlen hw
  have hO' : ∀ W, Calls Tryz.prog 169 #[rvv (.slice (some ⟨g, o, none⟩) B rc) (.slice Y n m) ft wh] W fun e w' => e = .returned (.tuple #[rvv (.slice (some ⟨g, o, none⟩) B rc) (.slice Y n m) (opF ft) wh, .int .i64 0]) ∧ Below W.heap.size W w' := fun W => by have := hO W; rwa [he] at this
  clear hO
  go_enter Tryz.func105, Tryz.ntmps105
  go_wp2_with (first
    | (go_at_call 169
       with_reducible refine (hO' _).mono ?_
       rintro e w2 ⟨rfl, hb2⟩
       have g62 := (hb2.block _ (hlt g6)).trans g6
       have g32 := (hb2.block _ (hlt g3)).trans g3
       obtain ⟨W3, hW3⟩ : ∃ W3, w2.alloc (.cells #[.slice (some ⟨g, o, none⟩) B rc, .slice Y n m, .bool false, .int .i64 (-1), .int .i64 (opF ft), .int .i64 wh] 50) = W3 := ⟨_, rfl⟩
       have g8 : W3.heap[w2.heap.size]? = some (.cells #[.slice (some ⟨g, o, none⟩) B rc, .slice Y n m, .bool false, .int .i64 (-1), .int .i64 (opF ft), .int .i64 wh] 50 (0, 0)) := by rw [← hW3]; exact heap_alloc_new w2 _
       have bW3 : Below w2.heap.size w2 W3 := by rw [← hW3]; exact (Below.refl _ _).alloc (Nat.le_refl _) _
       have b3 : Below w.heap.size w W3 := b0.trans ((hb2.trans (bW3.mono hb2.size)).mono b0.size)
       have g63 := (bW3.block _ (hlt g62)).trans g62
       have g33 := (bW3.block _ (hlt g32)).trans g32
       have hz8 := hlt g8
       have hz63 := hlt g63
       have hz33 := hlt g33
       clear c0 c1 c2 c3 c4 c5 g3 g6 g32 g62))
  go_loopw [6, 7] (fun v i wr => ∃ (k : Nat) (A : Option Addr) (c : Nat), k ≤ n ∧ i = .int .i64 k ∧ v = .slice A k c ∧ wr.ownsRow W3.heap.size 4 1 (.slice A k c) k (List.replicate k (.bool true)) ∧ Below W3.heap.size W3 wr) (fun _ i _ => n - (intOf i).toNat)
  case atStart => exact ⟨0, none, 0, Nat.zero_le _, rfl, rfl, World.ownsRow_nil _ _ _ _, Below.refl _ _⟩
  case round =>
    obtain ⟨k, A, c, hk, rfl, rfl, own, hbr⟩ := hrel
    have g3r := (hbr.block _ hz33).trans g33
    have g8r := (hbr.block _ hz8).trans g8
    have g6r := (hbr.block _ hz63).trans g63
    obtain ⟨c0, c1, c2, c3, c4, c5⟩ := cells6 g3r
    by_cases hlt' : k < n
    · have hd1 : decide (k < n) = true := by simp [hlt']
      obtain ⟨A', c', w', hap, own', hb'⟩ := appT own (by omega) hbr.size
      go_wp2_with (at_builtin; refine Lib.wpList_append_run _ rfl _ _ _ _ rfl _ _ rfl rfl _ _ hap ?_; clear hap)
      refine ⟨?_, by simp [intOf] <;> omega⟩
      refine ⟨k + 1, A', c', by omega, by go_num, rfl, ?_, hbr.trans hb'⟩
      rw [List.replicate_succ']
      exact own'
    · obtain rfl : k = n := by omega
      have bwr := b3.trans (hbr.mono b3.size)
      have hLft : Calls Tryz.prog 170 #[rvv (.slice (some ⟨g, o, none⟩) B rc) (.slice Y k m) ft wh, .agg #[.slice A k c, .int .i64 (-1), .int .i64 0]] wr fun e w' => (∃ G C, e = .returned (.slice (some ⟨G, 0, none⟩) B C) ∧ wr.heap.size ≤ G ∧ G < w'.heap.size ∧ (∃ x, w'.heap[G]? = some (Obj.cells x 37 (0, 0))) ∧ ∀ (k : Nat) (l : List UInt8), (carry P.bs P.ws)[k]? = some l → ∃ u, w'.cell? ⟨G, k, none⟩ = some u ∧ Hb w lo u l) ∧ Below wr.heap.size wr w' := by
        have := left_any bwr _ _ ft wh hrow hws hok HP.out HL.out (by have := HN.out; omega) A c (by rw [← HN.out]; exact fun j hj => own_true own j hj)
        rw [← HN.out, ← HB.out] at this
        exact this
      have hz2 : w.heap.size + 1 < w2.heap.size := Nat.lt_of_lt_of_le hz6 (Below.size hb2)
      have HZ2 := Lib.hid hz2
      clear hz2
      have hz8' := Nat.lt_of_lt_of_le hz8 hbr.size
      have hz6' := Nat.lt_of_lt_of_le hz63 hbr.size
      go_wp2_with (first
        | (go_at_call 170
           with_reducible refine hLft.mono ?_
           rintro e w5 ⟨⟨G, C, rfl, hG1, hG2, hGx, hR⟩, hb5⟩
           have g85 := (hb5.block _ hz8').trans g8r
           have g65 := (hb5.block _ hz6').trans g6r
           have HG1 := Lib.hid hG1
           clear hG1
           clear g8r g6r g3r c0 c1 c2 c3 c4 c5)
        | (refine stV rfl 45 (.tmp 31) (.tmp 30) rfl rfl w2.heap.size 0 rfl 1 sz45 _ (.slice (some ⟨G, 0, none⟩) B C) 50 g85 rfl (by simp) rfl (by simp [Value.cells, Value.oneCell']) ?_
           intro w6 g86' o6 b6 z6
           have g86 : w6.heap[w2.heap.size]? = some (.cells #[.slice (some ⟨G, 0, none⟩) B C, .slice Y k m, .bool false, .int .i64 (-1), .int .i64 (opF ft), .int .i64 wh] 50 (0, 0)) := g86'.trans rfl
           clear g85 g86')
        | (refine stV rfl 48 (.tmp 32) (.const (.slice none 0 0)) rfl rfl w2.heap.size 1 rfl 1 sz48 _ (.slice none 0 0) 50 g86 rfl (by simp) rfl (by simp [Value.cells, Value.oneCell']) ?_
           intro w7 g87 o7 b7 z7
           have g88 : w7.heap[w2.heap.size]? = some (.cells #[.slice (some ⟨G, 0, none⟩) B C, .slice none 0 0, .bool false, .int .i64 (-1), .int .i64 (opF ft), .int .i64 wh] 50 (0, 0)) := g87.trans rfl
           obtain ⟨e0, e1, e2, e3, e4, e5⟩ := cells6 g88
           have g68 := (o7 (w.heap.size + 1) (Nat.ne_of_lt HZ2.out)).trans ((o6 (w.heap.size + 1) (Nat.ne_of_lt HZ2.out)).trans g65)
           clear g86 g87 g65)
        | (refine stV rfl 50 (.tmp 2) (.tmp 33) rfl rfl (w.heap.size + 1) 0 rfl 6 sz50 _ (rvv (.slice (some ⟨G, 0, none⟩) B C) (.slice none 0 0) (opF ft) wh) 50 g68 rfl (by simp) rfl (by simp [Value.cells, Value.oneCell']) ?_; intro w10 g10 o10 b10 z10))
      have g11 : w10.heap[w.heap.size + 1]? = some (.cells #[.slice (some ⟨G, 0, none⟩) B C, .slice none 0 0, .bool false, .int .i64 (-1), .int .i64 (opF ft), .int .i64 wh] 50 (0, 0)) := by rw [g10]; rfl
      have hz2 := HZ2.out
      have b67 : Below (w.heap.size + 1) w5 w10 := ((b6 _ (by omega)).trans (b7 _ (by omega))).trans (b10 _ (Nat.le_refl _))
      have bf : Below w.heap.size w w10 := (bwr.trans (hb5.mono bwr.size)).trans (b67.mono (Nat.le_succ _))
      refine bodyPost_ret (ret_disk rfl rfl g11 rfl) rfl ?_
      have hG1 := HG1.out
      have hG : ∀ k, w10.cell? ⟨G, k, none⟩ = w5.cell? ⟨G, k, none⟩ := fun k => by
        have n1 : G ≠ w2.heap.size := by omega
        have n2 : G ≠ w.heap.size + 1 := by omega
        simp only [World.cell?, o10 G n2, o7 G n1, o6 G n1]
      have hGx' : ∃ x, w10.heap[G]? = some (Obj.cells x 37 (0, 0)) := by
        obtain ⟨x, hx⟩ := hGx
        have n1 : G ≠ w2.heap.size := by omega
        have n2 : G ≠ w.heap.size + 1 := by omega
        exact ⟨x, by rw [o10 G n2, o7 G n1, o6 G n1]; exact hx⟩
      have hput := hok.sync
      rw [sync_ok HE.out] at hput
      refine ⟨⟨_, rfl, .slice (some ⟨G, 0, none⟩) B C, .slice none 0 0, ?_, ?_, Rws.nil _ _, hput⟩, bf⟩
      · rw [HF.out, HH.out]
      · have hcl : (carry P.bs P.ws).length = B := by rw [carry_len]; exact HB.out.symm
        refine ⟨G, 0, C, by rw [hcl], by have := bwr.size; omega, by have := b67.size; omega, fun j hj => ?_, hGx'⟩
        obtain ⟨u, h1, h2⟩ := hR j _ (List.getElem?_eq_getElem hj)
        exact ⟨u, by rw [Nat.zero_add, hG]; exact h1, h2.same (Up.below bf)⟩
end Go.Proofs.YtecnddogdiikiaaGreat

namespace Go.Proofs.YtecnddogdiikiaaGreat
open Go Go.RowKit
set_option maxRecDepth 100000
set_option maxHeartbeats 3000000

theorem rsync_bad {w : World} {lo : Nat} {v : Value} {P : PD} (h : Rv w lo v P) (he0 : opE P.ft P.wh ≠ 0) :
    Calls Tryz.prog 105 #[v] w fun e w' => (∃ v', e = .returned (.tuple #[v', .int .i64 P.sync.2]) ∧ Rv w' lo v' P.sync.1) ∧ Below w.heap.size w w' := by
  obtain ⟨x, y, rfl, hrow, hws, hok⟩ := h
  have hrow0 := hrow
  obtain ⟨g, o, rc, rfl, hg1, hg2, hg3⟩ := hrow0
  have hws0 := hws
  obtain ⟨Y, m, rfl, -, -⟩ := hws0
  obtain ⟨B, hB⟩ : ∃ B, B = P.bs.length := ⟨_, rfl⟩
  obtain ⟨n, hn⟩ : ∃ n, n = P.ws.length := ⟨_, rfl⟩
  obtain ⟨ft, hft⟩ : ∃ ft, ft = P.ft := ⟨_, rfl⟩
  obtain ⟨wh, hwh⟩ : ∃ wh, wh = P.wh := ⟨_, rfl⟩
  rw [← hB, ← hn, ← hft, ← hwh]
  have he : opE ft wh ≠ 0 := by rw [hft, hwh]; exact he0
  clear he0
  obtain ⟨W0, hW0⟩ : ∃ W0, (w.alloc (.cells #[.slice (some ⟨g, o, none⟩) B rc, .slice Y n m, .bool false, .int .i64 (-1), .int .i64 ft, .int .i64 wh] 50)).alloc (.cells #[.slice none 0 0, .slice none 0 0, .bool false, .int .i64 0, .int .i64 0, .int .i64 0] 50) = W0 := ⟨_, rfl⟩
  have g3 : W0.heap[w.heap.size]? = some (.cells #[.slice (some ⟨g, o, none⟩) B rc, .slice Y n m, .bool false, .int .i64 (-1), .int .i64 ft, .int .i64 wh] 50 (0, 0)) := by rw [← hW0]; exact (Below.heap_alloc _ _ _ (by simp)).trans (heap_alloc_new w _)
  have g6 : W0.heap[w.heap.size + 1]? = some (.cells #[.slice none 0 0, .slice none 0 0, .bool false, .int .i64 0, .int .i64 0, .int .i64 0] 50 (0, 0)) := by
    rw [← hW0]
    have := heap_alloc_new (w.alloc (.cells #[.slice (some ⟨g, o, none⟩) B rc, .slice Y n m, .bool false, .int .i64 (-1), .int .i64 ft, .int .i64 wh] 50)) (.cells #[.slice none 0 0, .slice none 0 0, .bool false, .int .i64 0, .int .i64 0, .int .i64 0] 50)
    rw [World.size_alloc] at this
    exact this
  have b0 : Below w.heap.size w W0 := by rw [← hW0]; exact ((Below.refl _ _).alloc (Nat.le_refl _) _).alloc (by simp) _
  obtain ⟨c0, c1, c2, c3, c4, c5⟩ := cells6 g3
  have hO := fun W => roper_any (some ⟨g, o, none⟩) B rc Y n m ft wh (by rw [hft]; exact hok.lo) (by rw [hft]; exact hok.hi) W
  have hz3 := hlt g3
  have HB := Lib.hid hB
  have HN := Lib.hid hn
  have HF := Lib.hid hft
  have HH := Lib.hid hwh
  clear hB hn hft hwh
  have FR : ∀ w', Below w.heap.size w w' → Rv w' lo (rvv (.slice (some ⟨g, o, none⟩) B rc) (.slice Y n m) (opF ft) wh) P.stop := fun w' hb => by
    have := HB.out; have := HN.out; have := HF.out; have := HH.out
    subst B n ft wh
    exact ⟨_, _, rfl, hrow.same (Up.below hb), hws.same (Up.below hb), hok.stop⟩
  have hpn : P.sync = (P.stop, opE ft wh) := by rw [sync_no (by rw [← HF.out, ← HH.out]; exact he), HF.out, HH.out]
  rw [hpn]
  go_enter Tryz.func105, Tryz.ntmps105
  go_wp2_with (first
    | (go_at_call 169; with_reducible refine (hO _).mono ?_; rintro e w2 ⟨rfl, hb2⟩; have g62 := (hb2.block _ (hlt g6)).trans g6; have g63 := fun o => (Below.heap_alloc w2 o _ (hlt g62)).trans g62)
    | (refine stV rfl 50 (.tmp 2) (.tmp 15) rfl rfl (w.heap.size + 1) 0 rfl 6 sz50 _ (rvv (.slice (some ⟨g, o, none⟩) B rc) (.slice Y n m) (opF ft) wh) 50 (g63 _) rfl (by simp) rfl (by simp [Value.cells, Value.oneCell']) ?_; intro w10 g10 o10 b10 z10))
  have g11 : w10.heap[w.heap.size + 1]? = some (.cells #[.slice (some ⟨g, o, none⟩) B rc, .slice Y n m, .bool false, .int .i64 (-1), .int .i64 (opF ft), .int .i64 wh] 50 (0, 0)) := by rw [g10]; rfl
  have bw2 := b0.trans (hb2.mono b0.size)
  have bf := (bw2.alloc bw2.size _).trans (b10 _ (Nat.le_succ _))
  refine bodyPost_ret (ret_disk rfl rfl g11 rfl) rfl ?_
  exact ⟨⟨_, rfl, FR _ bf⟩, bf⟩

theorem rsync_any {w : World} {lo : Nat} {v : Value} {P : PD} (h : Rv w lo v P) (hlo : lo ≤ w.heap.size) (hpos : 0 < P.bs.length) (hlen : P.bs.length ≤ 1000000) (hw : P.ws.length ≤ 90) :
    Calls Tryz.prog 105 #[v] w fun e w' => (∃ v', e = .returned (.tuple #[v', .int .i64 P.sync.2]) ∧ Rv w' lo v' P.sync.1) ∧ Below w.heap.size w w' := by
  by_cases he : opE P.ft P.wh = 0
  · exact rsync_ok h hlo hpos hlen hw he
  · exact rsync_bad h he
end Go.Proofs.YtecnddogdiikiaaGreat

