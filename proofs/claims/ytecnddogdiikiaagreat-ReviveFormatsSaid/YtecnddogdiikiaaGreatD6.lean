/-
  revive.Read: what the call does.
-/
import Derived.Test.YtecnddogdiikiaaGreatD4
set_option linter.unusedVariables false
set_option linter.unusedSimpArgs false
namespace Go.Proofs.YtecnddogdiikiaaGreat
open Go Go.RowKit
set_option maxRecDepth 100000
set_option maxHeartbeats 2000000

/-- what Read answers -/
noncomputable def readE (bs : List (List UInt8)) : Int := open Classical in if headed bs then 0 else 260
/-- the last stamp so far -/
noncomputable def lastN (bs : List (List UInt8)) (k : Nat) : Nat :=
  match k with
  | 0 => 0
  | 1 => hat bs.length 0 (bs.getD 0 [])
  | _ => max (hat bs.length 0 (bs.getD 0 [])) (hat bs.length 1 (bs.getD 1 []))
theorem lastN_two (bs : List (List UInt8)) : readE bs = if lastN bs 2 = 0 then 260 else 0 := by
  show readE bs = if max (hat bs.length 0 (bs.getD 0 [])) (hat bs.length 1 (bs.getD 1 [])) = 0 then 260 else 0
  unfold readE headed
  generalize hat bs.length 0 (bs.getD 0 []) = x
  generalize hat bs.length 1 (bs.getD 1 []) = y
  by_cases h1 : x = 0
  · by_cases h2 : y = 0
    · rw [if_neg (fun z => z.elim (fun a => a h1) fun a => a h2), if_pos (by omega)]
    · rw [if_pos (Or.inr h2), if_neg (by omega)]
  · rw [if_pos (Or.inl h1), if_neg (by omega)]
theorem hat_le {B n : Nat} {l : List UInt8} : hat B n l ≤ 4611686018427387904 := by
  unfold hat
  split
  · rename_i h; exact h.2.2.1
  · omega
theorem lastN_le (bs : List (List UInt8)) (k : Nat) : lastN bs k ≤ 4611686018427387904 := by
  unfold lastN
  split
  · omega
  · exact hat_le
  · have := hat_le (B := bs.length) (n := 0) (l := bs.getD 0 []); have := hat_le (B := bs.length) (n := 1) (l := bs.getD 1 []); omega
theorem lastN_succ (bs : List (List UInt8)) (k : Nat) (h : k < 2) (hk : k < bs.length) : lastN bs (k + 1) = max (lastN bs k) (hat bs.length k bs[k]) := by
  have : k = 0 ∨ k = 1 := by omega
  rcases this with rfl | rfl
  · simp [lastN, hk]
  · simp [lastN, hk]

theorem sz37 : Go.Ev.szOf Tryz.prog 37 = some 1 := by kernel_rfl
theorem ret_head2 {fn : Func} {p u q : Tmp} (h : fn.results = #[.cell p 28, .tmp u, .tmp q]) {tmps : Array Value} {w : World} {g : Nat} {V : Array Value} (hp : tmps.getD p undef = .pointer (some ⟨g, 0, none⟩)) (hV : w.heap[g]? = some (.cells V 28 (0, 0))) (hz : V.size = 7) :
    (results fn tmps).run Tryz.prog w = .ok (.tuple #[.agg V, tmps.getD u undef, tmps.getD q undef]) w := by
  have hl := Go.Ev.run_loadVar_agg (P := Tryz.prog) (w := w) agg24 (a := ⟨g, 0, none⟩) (cs := V.toList) (by simp [hz]) (by
    intro j v hj
    have : (⟨g, 0, none⟩ : Addr).add j = ⟨g, j, none⟩ := by unfold Addr.add; split <;> simp_all
    rw [this]
    simp only [World.cell?, hV]
    simpa using hj)
  have ha : asAddr (.pointer (some ⟨g, 0, none⟩)) = pure ⟨g, 0, none⟩ := rfl
  have hp' : tmps[p]?.getD undef = .pointer (some ⟨g, 0, none⟩) := by rw [← hp]; simp
  simp only [results, h]
  simp [Sem.run_bind, Result.andThen, hp', ha, hl]

theorem idx60 (p0 p1 k : Nat) (hk : k < 2) (W : World) : (Instr.index 60 (.agg #[.slice (some ⟨p0, 0, none⟩) 4096 4096, .slice (some ⟨p1, 0, none⟩) 4096 4096]) (.int .i64 (k : Int))).run Tryz.prog W = .ok (.slice (some ⟨if k = 0 then p0 else p1, 0, none⟩) 4096 4096) W := by
  obtain ⟨i0, hi, hz0, hz1, hz2⟩ := info_parts info37
  have : k = 0 ∨ k = 1 := by omega
  rcases this with rfl | rfl <;> simp [Instr.index, asIntOf, run_underlying Tryz.underlying60, sizeOf, typeInfo, hi, hz1, part, isAgg, run_underlying Tryz.underlying37]

/-- the two blocks that are read: the first k of them -/
structure Two (bs : List (List UInt8)) (k : Nat) (v0 v1 : Value) (w : World) : Prop where
  b0 : 0 < k → ∀ h : 0 < bs.length, ∃ g, v0 = .slice (some ⟨g, 0, none⟩) 4096 4096 ∧ Bk w v0 bs[0]
  b1 : 1 < k → ∀ h : 1 < bs.length, ∃ g, v1 = .slice (some ⟨g, 0, none⟩) 4096 4096 ∧ Bk w v1 bs[1]
theorem Two.same {bs : List (List UInt8)} {k : Nat} {v0 v1 : Value} {w w' : World} (h : Two bs k v0 v1 w) (hs : ∀ (g : Nat) (x : Array Value), w.heap[g]? = some (.cells x 5 (0, 0)) → w'.heap[g]? = w.heap[g]?) : Two bs k v0 v1 w' :=
  ⟨fun a b => by obtain ⟨g, e, hb⟩ := h.b0 a b; exact ⟨g, e, hb.same hs⟩, fun a b => by obtain ⟨g, e, hb⟩ := h.b1 a b; exact ⟨g, e, hb.same hs⟩⟩

theorem revread_any {w : World} {n0 d db : Nat} {P : PD} (h : Dk w n0 d db (.slice none 0 0) P) (hB : P.bs.length ≤ 4096) (hB2 : 2 ≤ P.bs.length)
    (hopen : ∀ (w : World) (b o c : Nat) (l : List UInt8), Rd w w.heap.size (some ⟨b, o, none⟩) l → l.length = 4096 → 4096 ≤ c → Calls Tryz.prog 58 #[.slice (some ⟨b, o, none⟩) 4096 c] w fun e w' => ((sub l 0 8 = sub l 4088 8 ∧ ∃ A c', e = .returned (.tuple #[.slice A 4080 c', .int .u64 (leN (sub l 0 8) : Nat), .int .i64 0]) ∧ Rd w' w'.heap.size A (sub l 8 4080)) ∨ (sub l 0 8 ≠ sub l 4088 8 ∧ e = .returned (.tuple #[.slice none 0 0, .int .u64 0, .int .i64 140]))) ∧ Below w.heap.size w w') :
    Calls Tryz.prog 6 #[.pointer (some ⟨d, 0, none⟩)] w fun e w' => (∃ v, (∃ g, e = .returned (.tuple #[v, g, .int .i64 (readE P.bs)])) ∧ Hs v) ∧ Below w.heap.size w w' := by
  obtain ⟨W1, hW1⟩ : ∃ W1, (w.alloc (.cells #[.int .i64 0, .int .i64 0, .int .i64 0, .int .i64 0, .int .i64 0, .slice none 0 0, .slice none 0 0] 28)).alloc (.cells #[.slice none 0 0, .slice none 0 0] 60) = W1 := ⟨_, rfl⟩
  have g0 : W1.heap[w.heap.size]? = some (.cells (hdV zeroH none none 0 0 0 0) 28 (0, 0)) := by rw [← hW1]; exact (Below.heap_alloc _ _ _ (by simp)).trans (heap_alloc_new w _)
  have g1 : W1.heap[w.heap.size + 1]? = some (.cells #[.slice none 0 0, .slice none 0 0] 60 (0, 0)) := by
    rw [← hW1]
    have := heap_alloc_new (w.alloc (.cells #[.int .i64 0, .int .i64 0, .int .i64 0, .int .i64 0, .int .i64 0, .slice none 0 0, .slice none 0 0] 28)) (.cells #[.slice none 0 0, .slice none 0 0] 60)
    rw [World.size_alloc] at this
    exact this
  have b1 : Below w.heap.size w W1 := by rw [← hW1]; exact ((Below.refl _ _).alloc (Nat.le_refl _) _).alloc (by simp) _
  obtain ⟨B, hBB⟩ : ∃ B, B = P.bs.length := ⟨_, rfl⟩
  have HB := Lib.hid hBB
  have hbk : ∀ (W : World), Dk W n0 d db (.slice none 0 0) P → Calls Tryz.prog 15 #[.pointer (some ⟨d, 0, none⟩)] W fun e w' => e = .returned (.int .i64 (B : Int)) ∧ w' = W := fun W hd => by rw [hBB]; exact blocks_any hd.box
  have hB2' : 2 ≤ B := by omega
  have hB4 : B ≤ 4096 := by omega
  have h1 := h.below b1
  have hmin : min (2 : Int) (B : Int) = 2 := by omega
  have hk0 := hbk (w.alloc (.cells #[.int .i64 0, .int .i64 0, .int .i64 0, .int .i64 0, .int .i64 0, .slice none 0 0, .slice none 0 0] 28)) (h.below ((Below.refl _ _).alloc (Nat.le_refl _) _))
  have hk1 := hbk W1 h1
  clear hBB
  go_enter Tryz.func6, Tryz.ntmps6
  go_wp2_with (first
    | (go_at_call 15; with_reducible refine hk0.mono ?_; rintro e W0 ⟨rfl, rfl⟩)
    | (go_at_call 15; with_reducible refine hk1.mono ?_; rintro e W1 ⟨rfl, rfl⟩))
  all_goals first | omega | skip
  go_loopw [22] (fun i wr => ∃ (k : Nat) (v0 v1 : Value), k ≤ 2 ∧ i = .int .i64 k ∧ Two P.bs k v0 v1 wr ∧ wr.heap[w.heap.size + 1]? = some (.cells #[v0, v1] 60 (0, 0)) ∧ wr.heap[w.heap.size]? = some (.cells (hdV zeroH none none 0 0 0 0) 28 (0, 0)) ∧ Below w.heap.size w wr) (fun i _ => 2 - (intOf i).toNat)
  case atStart => exact ⟨0, _, _, by omega, rfl, ⟨fun h => by omega, fun h => by omega⟩, g1, g0, b1⟩
  case round =>
    obtain ⟨k, v0, v1, hk, rfl, hT, hg1, hg0, hbw⟩ := hrel
    by_cases hlt2 : k < 2
    · have hkl : k < P.bs.length := by omega
      have hr := read_any (h.below hbw) k hkl
      clear g0 g1 b1 h1 hk0 hk1
      have step : ∀ (w2 w10 : World) (g : Nat), Below wr.heap.size wr w2 → (∀ j, j ≠ w.heap.size + 1 → w10.heap[j]? = w2.heap[j]?) → (∀ B, B ≤ w.heap.size + 1 → Below B w2 w10) → w10.heap[w.heap.size]? = some (.cells (hdV zeroH none none 0 0 0 0) 28 (0, 0)) ∧ Below w.heap.size w w10 :=
        fun w2 w10 g hb2 ho hbb => ⟨(ho _ (by omega)).trans ((hb2.block _ (hlt hg0)).trans hg0), (hbw.trans (hb2.mono hbw.size)).trans (hbb _ (Nat.le_succ _))⟩
      go_wp2_with (first
        | (go_at_call 9; with_reducible refine hr.mono ?_; rintro e w2 ⟨⟨g, rfl, hBk⟩, hb2⟩; have hg2 := (hb2.block _ (hlt hg1)).trans hg1)
        | (refine stV rfl 37 (.tmp 37) (.tmp 36) rfl rfl (w.heap.size + 1) k rfl 1 sz37 _ (.slice (some ⟨g, 0, none⟩) 4096 4096) 60 hg2 rfl (by simp; omega) rfl (by simp [Value.cells, Value.oneCell']) ?_; intro w10 g10 o10 b10 z10))
      obtain ⟨q0, q1⟩ := step w2 w10 g hb2 o10 b10
      have hmeas : 2 - (intOf (Value.int .i64 ((k : Int) + 1))).toNat < 2 - (intOf (Value.int .i64 (k : Int))).toNat := by simp [intOf]; omega
      have hk01 : k = 0 ∨ k = 1 := by omega
      rcases hk01 with rfl | rfl
      · refine ⟨⟨1, .slice (some ⟨g, 0, none⟩) 4096 4096, v1, by omega, by go_num, ⟨fun _ _ => ⟨g, rfl, ?_⟩, fun h => by omega⟩, by rw [g10]; rfl, q0, q1⟩, hmeas⟩
        exact hBk.same fun g' x hx => o10 g' (tag_ne hx hg2 (by decide))
      · refine ⟨⟨2, v0, .slice (some ⟨g, 0, none⟩) 4096 4096, by omega, by go_num, ⟨fun _ hh => ?_, fun _ _ => ⟨g, rfl, ?_⟩⟩, by rw [g10]; rfl, q0, q1⟩, hmeas⟩
        · obtain ⟨g', e, hb⟩ := hT.b0 (by omega) hh
          exact ⟨g', e, (hb.same fun g x hx => hb2.block _ (hlt hx)).same fun g' x hx => o10 g' (tag_ne hx hg2 (by decide))⟩
        · exact hBk.same fun g' x hx => o10 g' (tag_ne hx hg2 (by decide))
    · obtain rfl : k = 2 := by omega
      obtain ⟨p0, rfl, hq0⟩ := hT.b0 (by omega) (by omega)
      obtain ⟨p1, rfl, hq1⟩ := hT.b1 (by omega) (by omega)
      have e0 := cellD hg1 0
      have e1 := cellD hg1 1
      have e0' : wr.cell? ⟨w.heap.size + 1, 0, none⟩ = some (.slice (some ⟨p0, 0, none⟩) 4096 4096) := e0
      have e1' : wr.cell? ⟨w.heap.size + 1, 1, none⟩ = some (.slice (some ⟨p1, 0, none⟩) 4096 4096) := e1
      obtain ⟨W2, hW2⟩ : ∃ W2, wr.alloc (.cells #[.int .i64 0, .int .i64 0, .int .i64 0, .int .i64 0, .int .i64 0, .slice none 0 0, .slice none 0 0] 28) = W2 := ⟨_, rfl⟩
      have c0 : W2.cell? ⟨w.heap.size + 1, 0, none⟩ = some (.slice (some ⟨p0, 0, none⟩) 4096 4096) := by rw [← hW2]; exact (World.cell?_alloc_lt wr _ ⟨w.heap.size + 1, 0, none⟩ (hlt hg1)).trans e0'
      have c1 : W2.cell? ⟨w.heap.size + 1, 1, none⟩ = some (.slice (some ⟨p1, 0, none⟩) 4096 4096) := by rw [← hW2]; exact (World.cell?_alloc_lt wr _ ⟨w.heap.size + 1, 1, none⟩ (hlt hg1)).trans e1'
      have n9 : W2.heap[wr.heap.size]? = some (.cells (hdV zeroH none none 0 0 0 0) 28 (0, 0)) := by rw [← hW2]; exact heap_alloc_new wr _
      have bW : Below wr.heap.size wr W2 := by rw [← hW2]; exact (Below.refl _ _).alloc (Nat.le_refl _) _
      have hbW2 := hbw.trans (bW.mono hbw.size)
      have n0' := (bW.block _ (hlt hg0)).trans hg0
      have t0 := hq0.same fun g x hx => bW.block g (hlt hx)
      have t1 := hq1.same fun g x hx => bW.block g (hlt hx)
      have hz0 := hlt hg0
      have hl9 : w.heap.size + 1 < wr.heap.size := hlt hg1
      clear e0 e1 e0' e1' hq0 hq1 hT g0 g1 b1 h1 hk0 hk1 hmin hg1 hg0 hbw bW hk
      go_wp2
      generalize wr.heap.size = r9 at *
      go_loopw [10, 40] (fun last i wz => ∃ (k : Nat) (H : Hd) (A4 B4 : Option Addr) (n4 c4 m4 d4 : Nat), k ≤ 2 ∧ i = .int .i64 k ∧ last = .int .i64 (lastN P.bs k : Nat) ∧ wz.heap[r9]? = some (.cells (hdV H A4 B4 n4 c4 m4 d4) 28 (0, 0)) ∧ wz.heap[w.heap.size]? = some (.cells (hdV zeroH none none 0 0 0 0) 28 (0, 0)) ∧ Bk wz (.slice (some ⟨p0, 0, none⟩) 4096 4096) P.bs[0] ∧ Bk wz (.slice (some ⟨p1, 0, none⟩) 4096 4096) P.bs[1] ∧ Below w.heap.size w wz) (fun _ i _ => 2 - (intOf i).toNat)
      case atStart => exact ⟨0, zeroH, none, none, 0, 0, 0, 0, by omega, rfl, rfl, n9, n0', t0, t1, hbW2⟩
      case round =>
        obtain ⟨k, H, A4, B4, n4, c4, m4, d4, hk2, rfl, rfl, h9, h0', u0, u1, hbz⟩ := hrel
        have hNle := lastN_le P.bs k
        by_cases hlt3 : k < 2
        · have hkl : k < P.bs.length := by omega
          obtain ⟨pk, hpk⟩ : ∃ pk, pk = if k = 0 then p0 else p1 := ⟨_, rfl⟩
          have uk : Bk wr (.slice (some ⟨pk, 0, none⟩) 4096 4096) P.bs[k] := by
            have hk01 : k = 0 ∨ k = 1 := by omega
            rcases hk01 with rfl | rfl
            · rw [hpk]; exact u0
            · rw [hpk]; exact u1
          obtain ⟨A5, e5, hr5⟩ := uk.rd
          cases e5
          have hl5 : P.bs[k].length = 4096 := by obtain ⟨_, _, _, hh⟩ := uk; exact hh
          have hh := headat_any (h.below hbz) hB k hlt3 pk 0 4096 P.bs[k] hr5 hl5 (Nat.le_refl _) (fun w hr => hopen w pk 0 4096 P.bs[k] hr hl5 (Nat.le_refl _))
          have hlast := lastN_succ P.bs k hlt3 hkl
          have hhle := hat_le (B := P.bs.length) (n := k) (l := P.bs[k])
          have hix := idx60 p0 p1 k hlt3 wr
          rw [← hpk] at hix
          generalize hat P.bs.length k P.bs[k] = N2 at *
          obtain ⟨N1, hN1⟩ : ∃ N1, N1 = lastN P.bs k := ⟨_, rfl⟩
          rw [← hN1] at hlast hNle ⊢
          have HL := Lib.hid hlast
          have hki : (0 : Int) ≤ (k : Int) := by omega
          have hki2 : (k : Int) < 2 := by omega
          have hmeas : 2 - (intOf (Value.int .i64 ((k : Int) + 1))).toNat < 2 - (intOf (Value.int .i64 (k : Int))).toNat := by simp [intOf]; omega
          clear hlast hN1 hpk uk hr5
          by_cases hgt : N1 < N2
          · go_wp2_with (first
              | (go_at_call 23; go_loud (with_reducible refine hh.mono ?_; rintro e w2 ⟨⟨v, rfl, hv⟩, hb2⟩; unfold Hs at hv; obtain ⟨H5, A6, B6, n6, c6, m6, d6, rfl⟩ := hv; have z9 := (hb2.block _ (hlt h9)).trans h9; have z99 := fun o => (Below.heap_alloc w2 o _ (hlt z9)).trans z9))
              | (refine stV rfl 28 (.tmp 9) (.tmp 54) rfl rfl r9 0 rfl 7 sz24 _ (.agg (hdV H5 A6 B6 n6 c6 m6 d6)) 28 (z99 _) rfl (by simp) rfl (by simp [Value.cells, Value.oneCell']) ?_; intro w10 g10 o10 b10 z10))
            have hbb := (hbz.trans (hb2.mono hbz.size))
            have hsame : ∀ (g : Nat) (t : Obj), wr.heap[g]? = some t → g ≠ r9 → w10.heap[g]? = wr.heap[g]? := fun g t hg hne => (o10 g hne).trans ((Below.heap_alloc w2 _ g (Nat.lt_of_lt_of_le (hlt hg) hb2.size)).trans (hb2.block g (hlt hg)))
            refine ⟨?_, hmeas⟩
            iterate 22 apply Exists.intro
            refine ⟨?_, rfl⟩
            · refine ⟨k + 1, H5, A6, B6, n6, c6, m6, d6, by omega, by go_num, by rw [HL.out, Nat.max_eq_right (Nat.le_of_lt hgt)], ?_, (hsame _ _ h0' (by omega)).trans h0', u0.same fun g x hx => hsame g _ hx (tag_ne hx h9 (by decide)), u1.same fun g x hx => hsame g _ hx (tag_ne hx h9 (by decide)), (hbb.alloc hbb.size _).trans (b10 _ (by omega))⟩
              rw [g10]; congr 2
          · go_wp2_with (go_at_call 23; go_loud (with_reducible refine hh.mono ?_; rintro e w2 ⟨⟨v, rfl, hv⟩, hb2⟩; unfold Hs at hv; obtain ⟨H5, A6, B6, n6, c6, m6, d6, rfl⟩ := hv; have z9 := (hb2.block _ (hlt h9)).trans h9; have z99 := fun o => (Below.heap_alloc w2 o _ (hlt z9)).trans z9))
            have hbb := (hbz.trans (hb2.mono hbz.size))
            have hsame : ∀ (o : Obj) (g : Nat) (t : Obj), wr.heap[g]? = some t → (w2.alloc o).heap[g]? = wr.heap[g]? := fun o g t hg => (Below.heap_alloc w2 _ g (Nat.lt_of_lt_of_le (hlt hg) hb2.size)).trans (hb2.block g (hlt hg))
            refine ⟨?_, hmeas⟩
            iterate 22 apply Exists.intro
            refine ⟨?_, rfl⟩
            exact ⟨k + 1, H, A4, B4, n4, c4, m4, d4, by omega, by go_num, by rw [HL.out, Nat.max_eq_left (by omega)], (hsame _ _ _ h9).trans h9, (hsame _ _ _ h0').trans h0', u0.same fun g x hx => hsame _ g _ hx, u1.same fun g x hx => hsame _ g _ hx, hbb.alloc hbb.size _⟩
        · obtain rfl : k = 2 := by omega
          have hre := lastN_two P.bs
          obtain ⟨N1, hN1⟩ : ∃ N1, N1 = lastN P.bs 2 := ⟨_, rfl⟩
          rw [← hN1] at hre hNle ⊢
          have HR := Lib.hid hre
          clear hre hN1 u0 u1
          have f9 := cellD h9
          by_cases hz : N1 = 0
          · subst hz
            go_wp2_with (refine stV rfl 28 (.tmp 2) (.tmp 59) rfl rfl w.heap.size 0 rfl 7 sz24 _ (.agg (hdV zeroH none none 0 0 0 0)) 28 h0' rfl (by simp) rfl (by simp [Value.cells, Value.oneCell']) ?_; intro w10 g10 o10 b10 z10)
            have g11 : w10.heap[w.heap.size]? = some (.cells (hdV zeroH none none 0 0 0 0) 28 (0, 0)) := by rw [g10]; congr 2
            refine bodyPost_ret (ret_head2 rfl rfl g11 rfl) rfl ?_
            exact ⟨⟨_, ⟨_, by rw [HR.out]; rfl⟩, ⟨zeroH, none, none, 0, 0, 0, 0, rfl⟩⟩, hbz.trans (b10 _ (Nat.le_refl _))⟩
          · have f0 := f9 0
            have f1 := f9 1
            have f2 := f9 2
            have f3 := f9 3
            have f4 := f9 4
            have f5 := f9 5
            have f6 := f9 6
            go_wp2_with (refine stV rfl 28 (.tmp 2) (.tmp 60) rfl rfl w.heap.size 0 rfl 7 sz24 _ (.agg (hdV H A4 B4 n4 c4 m4 d4)) 28 h0' rfl (by simp) rfl (by simp [Value.cells, Value.oneCell']) ?_; intro w10 g10 o10 b10 z10)
            have g11 : w10.heap[w.heap.size]? = some (.cells (hdV H A4 B4 n4 c4 m4 d4) 28 (0, 0)) := by rw [g10]; congr 2
            refine bodyPost_ret (ret_head2 rfl rfl g11 rfl) rfl ?_
            exact ⟨⟨_, ⟨_, by rw [HR.out, if_neg hz]; rfl⟩, ⟨H, A4, B4, n4, c4, m4, d4, rfl⟩⟩, hbz.trans (b10 _ (Nat.le_refl _))⟩
end Go.Proofs.YtecnddogdiikiaaGreat

