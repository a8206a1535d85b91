/-
  A loop over an iterator whose rounds are asked for no more than what comes: the body may lean on the order of what it is handed
  (the kit's contracts ask the round at every element, whatever came before).
  change.Diff of two pages: slices.Clone of bytes; the iterator unlike.
  change.Diff of two pages: the closure put, the call.
-/
import Derived.RangeFuncNested
import Derived.RangeFuncBound
import Derived.RangeFuncCalls
import Derived.RangeFuncLeaves
import Derived.RangeFuncBox
import Derived.Shelf.Abstract
import Derived.Shelf.RegionOpen
import Derived.OwnWalkIn
import Derived.Test.YtdmnkhcddbjglaaGreatHKept
import Derived.Lib.SliceRun
import Derived.TacticsInMore
import Derived.LoopNIn
import Derived.LoopIn
import Derived.Deep.RegionHeld
import Derived.BigRegion
import Derived.Deep.DeepCutAuto
set_option linter.unusedVariables false
set_option linter.unusedSimpArgs false
namespace Go.Proofs.YtdmnkhcddbjglaaGreat
open Go Go.RowKit Go.Shelf
set_option maxRecDepth 100000
set_option maxHeartbeats 2000000

/-- the iterator hands out xs, in order; a round is asked at the next one alone -/
def SeqNext {α : Type} (F : Fence) (n : Nat) (P : Program) (g : Nat) (lb : Array Value) (encs : α → Array Value) (Kp : World → World → Prop) (xs : List α) (w : World) : Prop :=
  ∀ (l : Nat) (J : List α → World → Prop) (W : World), Below w.heap.size w W → AbidesFrom W.heap.size J →
    (∀ pre x W1, J pre W1 → pre ++ [x] <+: xs → YieldAt F (n - 1) P l (encs x) W1 fun e W' => e = .returned (.bool true) ∧ J (pre ++ [x]) W' ∧ Kp W1 W') →
    J [] W → CallsIn F n P g (#[.func (.yield l) #[] #[]] ++ lb) W fun e W' => (∃ v, e = .returned v) ∧ J xs W'

/-- the statement itself, for a body that never leaves the loop -/
theorem rangeFunc_next {F : Fence} {n : Nat} {P : Program} {α : Type} {g : Operand} {ps : Array Tmp} {assign body : Code} {Q : Exit → Act → World → Prop} {a : Act} {w : World}
    (hro : F.round = none) (h1 : 1 ≤ n) {gf : Nat} {lb : Array Value} (hg : a.eval g = .func (.func gf) #[] lb) (hFg : F.fn gf) (eg : ∀ args w, (callFunc gf args).run P w = .ok (.enter gf args) w)
    {encs : α → Array Value} {Kp : World → World → Prop} {xs : List α} (hseq : SeqNext F (n - 1) P gf lb encs Kp xs w)
    (hKt : ∀ {A B C : World}, Kp A B → Kp B C → Kp A C) (hKb : ∀ (W : World) (l : Nat) (o o' : Obj), w.heap.size ≤ l → W.heap[l]? = some o → o.isCells = false → Kp W (W.putObj l o')) (hps : ∀ x, (encs x).size = ps.size)
    (I : List α → World → Prop) (hI : OwnFrom w.heap.size I) (h0 : I [] w) (a₁ : α → Act)
    (hassign : ∀ (l : Nat) (x : α) (W : World) (K : Act → World → Prop), K (a₁ x) W →
      assign.wpIn (F.inRound l) (n - 1 - 1) P (Exit.then K (fun _ _ _ => False)) { tmps := (ps.zip (encs x)).foldl (fun t (p, v) => t.setIfInBounds p v) a.tmps, defers := [] } W)
    (hbody : ∀ (l : Nat) (pre : List α) (x : α) (W : World), I pre W → pre ++ [x] <+: xs →
      body.wpIn (F.inRound l) (n - 1 - 1) P (Exit.then (fun _ W' => KeepsFrom w.heap.size W W' ∧ Kp W W' ∧ I (pre ++ [x]) W') (fun _ _ _ => False)) (a₁ x) W)
    (hdone : ∀ (D : Nat) (W : World), w.heap.size ≤ D → I xs W → W.heap[D]? = some (.deferred (some [])) → Q .normal { a with defers := { target := .collected D, args := #[] } :: a.defers } W) :
    (Code.rangeFunc g ps assign body).wpIn F n P Q a w := by
  refine wpIn_rangeFunc fun fn hfn => ?_
  rw [hro]
  obtain ⟨rec, hrec⟩ : ∃ rec : LoopState → Option Code → Loop, rec = fun st pe => { state := st, pending := pe, fn, tmps := a.tmps, params := ps, assign, body, defers := w.heap.size } := ⟨_, rfl⟩
  obtain ⟨W1, hW1⟩ : ∃ W1, (w.alloc (.deferred (some []))).alloc (.loop (rec .ready none)) = W1 := ⟨_, rfl⟩
  have hz1 : W1.heap.size = w.heap.size + 2 := by rw [← hW1]; simp
  have hL1 : W1.heap[w.heap.size + 1]? = some (.loop (rec .ready none)) := by
    have := World.alloc_heap_new (w.alloc (.deferred (some []))) (.loop (rec .ready none))
    rw [World.size_alloc, hW1] at this
    exact this
  have hK1 : W1.heap[w.heap.size]? = some (.deferred (some [])) := by
    have := (Below.heap_alloc (w.alloc (.deferred (some []))) (.loop (rec .ready none)) w.heap.size (by simp)).trans (World.alloc_heap_new w _)
    rw [hW1] at this
    exact this
  have hI1 : I [] W1 := by rw [← hW1]; exact hI.alloc _ (hI.alloc _ h0)
  have hb1 : Below w.heap.size w W1 := by rw [← hW1]; exact ((Below.refl _ w).alloc (Nat.le_refl _) _).alloc (by simp) _
  refine ⟨w.heap.size + 1, [{ target := .collected w.heap.size, args := #[] }], W1, { target := .fn (.func gf) lb, args := #[.func (.yield (w.heap.size + 1)) #[] #[]] }, W1, gf,
    #[.func (.yield (w.heap.size + 1)) #[] #[]] ++ lb, W1, ?_, ?_, ?_, ?_, fun _ => h1, ?_⟩
  · rw [← hW1, hrec]; exact run_enterLoop_outer _ _ _ _ _
  · simp only [resolve, hg]; simp [go_sem]
  · intro f' hf'; simp [Target.leads] at hf'; subst hf'; exact hFg
  · simp [invoke, go_sem, eg]
  -- what the rounds keep beside I: the loop's record, the block for deferred calls
  let J : List α → World → Prop := fun pre W => I pre W ∧ W.heap[w.heap.size + 1]? = some (.loop (rec .ready none)) ∧ W.heap[w.heap.size]? = some (.deferred (some []))
  have hJ : AbidesFrom W1.heap.size J := fun s A B row hs hg' hr =>
    ⟨hI s A B row hs.1 hg' (fun r e => by obtain ⟨hB, o, ho, hw⟩ := hr r e; exact ⟨by omega, o, ho, Obj.not_cells_of_walk hw⟩),
      (grownBy_keeps hg' (fun r e => (hr r e).2) hs.2.1 rfl).trans hs.2.1, (grownBy_keeps hg' (fun r e => (hr r e).2) hs.2.2 rfl).trans hs.2.2⟩
  refine (hseq (w.heap.size + 1) J W1 hb1 hJ ?_ ⟨hI1, hL1, hK1⟩).mono ?_
  · rintro pre x W ⟨hi, hl, hk⟩ hpx
    have hlt : w.heap.size + 1 < W.heap.size := (Array.getElem?_eq_some_iff.1 hl).1
    have hy := run_yield (P := P) (args := encs x) hl (by rw [hrec]; exact hps x)
    rw [hrec] at hy
    obtain ⟨W2, hW2⟩ : ∃ W2, W.putObj (w.heap.size + 1) (.loop { rec .ready none with state := .busy }) = W2 := ⟨_, rfl⟩
    have hl2 : W2.heap[w.heap.size + 1]? = some (.loop { rec .ready none with state := .busy }) := by rw [← hW2]; exact World.putObj_heap_same hlt
    have hk2 : W2.heap[w.heap.size]? = some (.deferred (some [])) := by rw [← hW2]; exact (World.putObj_heap_other (by omega)).trans hk
    have hw2 : Kp W W2 := by rw [← hW2]; exact hKb _ _ _ _ (by omega) hl rfl
    have hi2 : I pre W2 := by rw [← hW2]; exact hI.putObj _ hi (by omega) hl rfl
    refine ⟨fn, _, assign, body, hy, roundIn_of_wpIn hfn (hassign _ x W _ ⟨_, run_beginRound hl (by rw [hrec]), ?_⟩)⟩
    rw [hW2]
    refine wpIn_mono (hbody _ pre x W2 hi2 hpx) ?_
    rintro e a3 W3 hp
    cases e <;> first | exact hp.elim | skip
    obtain ⟨hk3, hkp3, hi3⟩ := hp
    have hl3 := hk3.same _ _ (by omega) hl2 rfl
    have hd3 := hk3.same _ _ (Nat.le_refl _) hk2 rfl
    have her := run_endRound (P := P) none hl3
    rw [hrec] at her hl3
    refine ⟨_, _, her, rfl, ⟨hI.putObj _ hi3 (by omega) hl3 rfl, ?_, (World.putObj_heap_other (by omega)).trans hd3⟩, hKt (hKt hw2 hkp3) (hKb _ _ _ _ (by omega) hl3 rfl)⟩
    rw [hrec]
    exact World.putObj_heap_same (Array.getElem?_eq_some_iff.1 hl3).1
  · rintro e W2 ⟨⟨v, rfl⟩, hi, hl, hk⟩
    have he := run_endLoop (P := P) hl (by rw [hrec]; simp)
    refine ⟨none, _, by rw [hrec] at he; exact he, ?_⟩
    exact hdone _ _ (Nat.le_refl _) (hI.putObj _ hi (by omega) hl rfl) ((World.putObj_heap_other (by omega)).trans hk)
end Go.Proofs.YtdmnkhcddbjglaaGreat

namespace Go.Proofs.YtdmnkhcddbjglaaGreat
open Go Go.RowKit Go.Shelf
set_option maxRecDepth 100000
set_option maxHeartbeats 2000000

theorem clone_any (A : Addr) (c n : Nat) (l : List UInt8) (w : World) (hr : Rd w w.heap.size (some A) l) (hn : n = l.length) (hl : l.length ≤ 1000000) :
    Calls Tryz.prog 87 #[.slice (some A) n c] w fun e w' => ∃ v, e = .returned v ∧ Own w' w.heap.size v l ∧ Below w.heap.size w w' := by
  have HN := Lib.hid hn
  have q25 : ∀ (w : World) (a : Option Addr) (n c n' c' : Nat), (binOp .eql 25 (.slice a n c) (.slice none n' c')).run Tryz.prog w = .ok (.bool a.isNone) w := fun w a n c n' c' => Lib.run_eql_slice_nil w _ _ a n c n' c' Tryz.underlying25
  clear hn
  go_enter Tryz.func87, Tryz.ntmps87
  go_wp2_with (at_builtin; refine apB rfl (.tmp 5) (.tmp 6) rfl w.heap.size _ [] rfl (World.ownsRow_made w #[] 0 (Nat.le_refl _) (Nat.zero_le _) rfl) _ _ n c l rfl HN.out (hr.alloc (Nat.le_refl _) _) ?c1 ?c2 ?_)
  case c1 => simp; omega
  case c2 => simp
  intro v w1 hown hb _ _
  have hbb := ((Below.refl w.heap.size w).alloc (Nat.le_refl _) (.cells #[] 5)).trans hb
  have hown' : Own w1 w.heap.size v l := by simpa using hown
  clear hown hb
  go_wp2
  go_ret
  exact ⟨_, rfl, hown', hbb⟩

attribute [local go_sem] Oper.semAt_some

/-- the places below k at which the rows differ -/
def ixU (la lb : List UInt8) (k : Nat) : List (Fin 4080) := (List.range k).filterMap fun j => if h : j < 4080 then if la[j]? = lb[j]? then none else some ⟨j, h⟩ else none
theorem ixU_len (la lb : List UInt8) : ∀ k, (ixU la lb k).length ≤ k
  | 0 => Nat.le_refl _
  | k + 1 => by
    have := ixU_len la lb k
    unfold ixU at this ⊢
    rw [List.range_succ, List.filterMap_append, List.length_append]
    have h1 : (List.filterMap (fun j => if h : j < 4080 then if la[j]? = lb[j]? then none else some (⟨j, h⟩ : Fin 4080) else none) [k]).length ≤ 1 := List.length_filterMap_le _ _
    omega
theorem ixU_same {la lb : List UInt8} {k : Nat} (h : la[k]? = lb[k]?) : ixU la lb (k + 1) = ixU la lb k := by
  unfold ixU
  rw [List.range_succ, List.filterMap_append]
  simp [h]
theorem ixU_hit {la lb : List UInt8} {k : Nat} (hk : k < 4080) (h : ¬ la[k]? = lb[k]?) : ixU la lb (k + 1) = ixU la lb k ++ [⟨k, hk⟩] := by
  unfold ixU
  rw [List.range_succ, List.filterMap_append]
  simp [h, hk]

theorem ixU_pre (la lb : List UInt8) {k : Nat} (hk : k < 4080) : ixU la lb (k + 1) <+: ixU la lb 4080 := by
  have go : ∀ j, k + 1 + j ≤ 4080 → ixU la lb (k + 1) <+: ixU la lb (k + 1 + j) := by
    intro j
    induction j with
    | zero => exact fun _ => List.prefix_refl _
    | succ j ih =>
      intro hj
      by_cases h : la[k + 1 + j]? = lb[k + 1 + j]?
      · rw [← Nat.add_assoc, ixU_same h]; exact ih (by omega)
      · rw [← Nat.add_assoc, ixU_hit (by omega) h]; exact (ih (by omega)).trans (List.prefix_append _ _)
  have := go (4080 - (k + 1)) (by omega)
  rwa [show k + 1 + (4080 - (k + 1)) = 4080 by omega] at this

theorem belowN (w : World) (B q : Nat) : Below B w (w.drewN q) := ⟨rfl, rfl, rfl, Nat.le_refl _, fun _ _ => rfl⟩

/-- what a round keeps: what lay below n₀, and the closure's own boxes -/
structure Kd (n₀ B1 B2 : Nat) (W W' : World) : Prop where
  b : Below n₀ W W'
  x1 : W'.heap[B1]? = W.heap[B1]?
  x2 : W'.heap[B2]? = W.heap[B2]?
theorem Kd.refl (n₀ B1 B2 : Nat) (W : World) : Kd n₀ B1 B2 W W := ⟨Below.refl _ _, rfl, rfl⟩
theorem Kd.trans {n₀ B1 B2 : Nat} {A B C : World} (h : Kd n₀ B1 B2 A B) (k : Kd n₀ B1 B2 B C) : Kd n₀ B1 B2 A C := ⟨h.b.trans k.b, k.x1.trans h.x1, k.x2.trans h.x2⟩
theorem Kd.drewN (n₀ B1 B2 : Nat) (W : World) (q : Nat) : Kd n₀ B1 B2 W (W.drewN q) := ⟨belowN _ _ _, rfl, rfl⟩
theorem cell_of_blk {W W' : World} {B k : Nat} {v : Value} (h : W'.heap[B]? = W.heap[B]?) (hc : W.cell? ⟨B, k, none⟩ = some v) : W'.cell? ⟨B, k, none⟩ = some v := by
  simp only [World.cell?] at hc ⊢
  rw [h]; exact hc

/-- unlike's closure: for every loop body that keeps what lay below n₀ -/
theorem unlike1_in (n : Nat) (hn : 1 ≤ n) (l B1 B2 n₀ b1 o1 c1 b2 o2 c2 : Nat) (la lb : List UInt8) (hla : la.length = 4080) (hlb : lb.length = 4080) (hb1 : b1 < n₀) (hb2 : b2 < n₀) (J : List (Fin 4080) → World → Prop)
    (hJd : ∀ pre W q, J pre W → J pre (W.drewN q))
    (hY : ∀ pre x W, J pre W → pre ++ [x] <+: ixU la lb 4080 → YieldAt Fence.wide (n - 1) Tryz.prog l #[.int .i64 (x.val : Int)] W fun e W' =>
      e = .returned (.bool true) ∧ J (pre ++ [x]) W' ∧ Kd n₀ B1 B2 W W')
    (W : World) (hc1 : W.cell? ⟨B1, 0, none⟩ = some (.slice (some ⟨b1, o1, none⟩) 4080 c1)) (hc2 : W.cell? ⟨B2, 0, none⟩ = some (.slice (some ⟨b2, o2, none⟩) 4080 c2))
    (hv1 : ∀ k (h : k < la.length), W.cell? ⟨b1, o1 + k, none⟩ = some (u8V la[k])) (hv2 : ∀ k (h : k < lb.length), W.cell? ⟨b2, o2 + k, none⟩ = some (u8V lb[k])) (h0 : J [] W) :
    CallsIn Fence.wide n Tryz.prog 284 #[.func (.yield l) #[] #[], .pointer (some ⟨B1, 0, none⟩), .pointer (some ⟨B2, 0, none⟩)] W fun e W' => (∃ v, e = .returned v) ∧ J (ixU la lb 4080) W' := by
  have mixed : Tryz.prog.follows .mixedOrders = true := by kernel_rfl
  refine callsIn_of_wp Tryz.func284 rfl trivial ?_ rfl
  simp only [Tryz.ntmps284, List.size_toArray, List.length_cons, List.length_nil, Nat.reduceAdd, Nat.reduceSub, Array.replicate_succ, Array.replicate_zero, List.push_toArray, List.append_toArray, List.nil_append, List.cons_append]
  gi_wp2
  gi_loopw [7] (fun i wr => ∃ k : Nat, k ≤ 4080 ∧ i = .int .i64 k ∧ J (ixU la lb k) wr ∧ Kd n₀ B1 B2 W wr)
    (fun i _ => 4080 - (intOf i).toNat)
  case atStart => exact ⟨0, Nat.zero_le _, rfl, h0, Kd.refl _ _ _ _⟩
  case round =>
    obtain ⟨k, hk, rfl, hJs, hnx⟩ := hrel
    by_cases hlt : k < 4080
    · have d1 : wr.cell? ⟨B1, 0, none⟩ = some (.slice (some ⟨b1, o1, none⟩) 4080 c1) := cell_of_blk hnx.x1 hc1
      have d2 : wr.cell? ⟨B2, 0, none⟩ = some (.slice (some ⟨b2, o2, none⟩) 4080 c2) := cell_of_blk hnx.x2 hc2
      obtain ⟨x, hx⟩ : ∃ x, la[k]'(by omega) = x := ⟨_, rfl⟩
      obtain ⟨y, hy2⟩ : ∃ y, lb[k]'(by omega) = y := ⟨_, rfl⟩
      have e1 : wr.cell? ⟨b1, o1 + k, none⟩ = some (.int .u8 (x.toNat : Int)) := by rw [← hx]; exact (hnx.b.cell (p := ⟨b1, o1 + k, none⟩) hb1).trans (hv1 k (by omega))
      have e2 : wr.cell? ⟨b2, o2 + k, none⟩ = some (.int .u8 (y.toNat : Int)) := by rw [← hy2]; exact (hnx.b.cell (p := ⟨b2, o2 + k, none⟩) hb2).trans (hv2 k (by omega))
      have g1 : la[k]? = some x := by rw [List.getElem?_eq_getElem (by omega), hx]
      have g2 : lb[k]? = some y := by rw [List.getElem?_eq_getElem (by omega), hy2]
      by_cases hxy : x = y
      · have hst : ixU la lb (k + 1) = ixU la lb k := ixU_same (by rw [g1, g2, hxy])
        subst hxy
        have hd : (((x.toNat : Int)) != ((x.toNat : Int))) = false := by simp
        gi_wp2
        refine wpIn_region_quiet_lit rfl (by kernel_rfl) (by kernel_rfl) ?_
        repeat (gi_big_quiet_step (fail))
        refine BigFrame.wpQuietIn_skip (fun _ _ _ _ => trivial) rfl ?_
        show wpQuietIn _ _ _ _ _ _ _ ⟨#[_, _, _, _, _, _, _, _, _, _, _, _, _, _, _, _, _, _, _, _, _, _, undef, _, _, _], []⟩
        repeat (gi_big_quiet_step (fail))
        refine wpQuietIn_nil ?_
        intro _ hw'
        obtain ⟨nq, hw''⟩ := hw'
        subst hw''
        gi_wp2
        go_roundw
        case rel => exact ⟨k + 1, by omega, by simp, by rw [hst]; exact hJd _ _ _ hJs, hnx.trans (Kd.drewN _ _ _ _ _)⟩
        case measure => simp [intOf]; omega
      · have hst : ixU la lb (k + 1) = ixU la lb k ++ [⟨k, hlt⟩] := ixU_hit hlt (by rw [g1, g2]; simpa using hxy)
        have hd : (((x.toNat : Int)) != ((y.toNat : Int))) = true := by
          simp only [bne_iff_ne, ne_eq]
          intro h
          exact hxy (UInt8.toNat_inj.1 (by omega))
        obtain ⟨fn, tmps, assign, body, hy, hR⟩ := hY _ ⟨k, hlt⟩ wr.drew (hJd _ _ 1 hJs) (by rw [← hst]; exact ixU_pre la lb hlt)
        dsimp only at hy
        have hR' : RoundIn Fence.wide (n - 1) Tryz.prog l fn tmps assign body wr.drew (fun e W' => e = .returned (.bool true) ∧ J (ixU la lb (k + 1)) W' ∧ Kd n₀ B1 B2 wr.drew W') := by
          refine hR.mono ?_
          rw [hst]
          exact fun _ _ h => h
        clear hR
        gi_wp2
        refine wpIn_mono (Q := Exit.then (fun a w' => ∃ (v8 v9 v10 v11 v12 v13 v14 v15 v16 v17 v18 v19 v20 v21 v22 v23 v25 : Value), a = ⟨#[.func (.yield l) #[] #[], .pointer (some ⟨B1, 0, none⟩), .pointer (some ⟨B2, 0, none⟩), undef, .int .i64 k, .slice (some ⟨b1, o1, none⟩) 4080 c1, .int .i64 4080, .int .i64 k, v8, v9, v10, v11, v12, v13, v14, v15, v16, v17, v18, v19, v20, v21, v22, v23, .bool false, v25], []⟩ ∧ J (ixU la lb (k + 1)) w' ∧ Kd n₀ B1 B2 wr.drew w') (fun _ _ _ => False)) ?reg ?imp
        case reg =>
          gi_region_with_o (refine hR'.mono ?_; rintro e W3 ⟨rfl, hor⟩)
          all_goals exact ⟨_, _, _, _, _, _, _, _, _, _, _, _, _, _, _, _, _, rfl, hor⟩
        case imp =>
          intro e a W3 hq
          cases e <;> first | exact hq.elim | skip
          obtain ⟨v8, v9, v10, v11, v12, v13, v14, v15, v16, v17, v18, v19, v20, v21, v22, v23, v25, rfl, hJ3, hk3⟩ := hq
          gi_wp2
          go_roundw
          case rel => exact ⟨k + 1, by omega, by simp, hJ3, (hnx.trans (Kd.drewN _ _ _ _ 1)).trans hk3⟩
          case measure => simp [intOf]; omega
    · obtain rfl : k = 4080 := by omega
      gi_wp2
      go_end0
      exact ⟨⟨_, rfl⟩, hJs⟩

theorem unlike_next (n : Nat) (hn : 1 ≤ n) (B1 B2 n₀ b1 o1 c1 b2 o2 c2 : Nat) (la lb : List UInt8) (hla : la.length = 4080) (hlb : lb.length = 4080) (hb1 : b1 < n₀) (hb2 : b2 < n₀)
    (w : World) (hn₀ : n₀ ≤ w.heap.size) (hB1 : B1 < w.heap.size) (hB2 : B2 < w.heap.size) (hc1 : w.cell? ⟨B1, 0, none⟩ = some (.slice (some ⟨b1, o1, none⟩) 4080 c1)) (hc2 : w.cell? ⟨B2, 0, none⟩ = some (.slice (some ⟨b2, o2, none⟩) 4080 c2))
    (hv1 : ∀ k (h : k < la.length), w.cell? ⟨b1, o1 + k, none⟩ = some (u8V la[k])) (hv2 : ∀ k (h : k < lb.length), w.cell? ⟨b2, o2 + k, none⟩ = some (u8V lb[k])) :
    SeqNext Fence.wide n Tryz.prog 284 #[.pointer (some ⟨B1, 0, none⟩), .pointer (some ⟨B2, 0, none⟩)] (fun x : Fin 4080 => #[Value.int .i64 (x.val : Int)]) (Kd n₀ B1 B2) (ixU la lb 4080) w := fun l J W hW hJ hY h0 =>
  unlike1_in n hn l B1 B2 n₀ b1 o1 c1 b2 o2 c2 la lb hla hlb hb1 hb2 J (fun pre W q h => hJ pre _ _ none h ⟨rfl, rfl, rfl, Nat.le_refl _, fun _ _ _ => rfl⟩ (fun r e => by cases e)) hY W
    ((hW.cell (p := ⟨B1, 0, none⟩) hB1).trans hc1) ((hW.cell (p := ⟨B2, 0, none⟩) hB2).trans hc2) (fun k h => (hW.cell (p := ⟨b1, o1 + k, none⟩) (Nat.lt_of_lt_of_le hb1 hn₀)).trans (hv1 k h)) (fun k h => (hW.cell (p := ⟨b2, o2 + k, none⟩) (Nat.lt_of_lt_of_le hb2 hn₀)).trans (hv2 k h)) h0
end Go.Proofs.YtdmnkhcddbjglaaGreat

namespace Go.Proofs.YtdmnkhcddbjglaaGreat
open Go Go.RowKit Go.Shelf
set_option maxRecDepth 100000
set_option maxHeartbeats 2000000
set_option linter.unusedSimpArgs false
attribute [local go_sem] Oper.semAt_some

theorem unlike_in (n : Nat) (A B : Option Addr) (a b c d : Nat) (w : World) :
    CallsIn Fence.wide n Tryz.prog 276 #[.slice A a b, .slice B c d] w fun e w' => e = .returned (.func (.func 284) #[] #[.pointer (some ⟨w.heap.size, 0, none⟩), .pointer (some ⟨w.heap.size + 1, 0, none⟩)]) ∧ w' = (w.alloc (.cells #[.slice A a b] 25)).alloc (.cells #[.slice B c d] 25) := by
  refine callsIn_of_wp Tryz.func276 rfl trivial ?_ rfl
  simp only [Tryz.ntmps276, List.size_toArray, List.length_cons, List.length_nil, Nat.reduceAdd, Nat.reduceSub, Array.replicate_succ, Array.replicate_zero, List.push_toArray, List.append_toArray, List.nil_append, List.cons_append]
  gi_wp2
  go_ret
  exact ⟨rfl, rfl⟩

/-! ### The pieces -/
/-- how far the pieces are: those that are whole (from where, how many bytes); the one that is being made -/
abbrev PS := List (Nat × Nat) × Option (Nat × Nat)
def psFin (s : PS) : List (Nat × Nat) := match s.2 with | none => s.1 | some (f, t) => s.1 ++ [(f, t + 1 - f)]
def psStep (s : PS) (x : Nat) : PS := match s.2 with
  | none => (s.1, some (x, x))
  | some (f, t) => if x - t ≤ 8 then (s.1, some (f, x)) else (psFin s, some (x, x))
def psOf (l : List (Fin 4080)) : PS := l.foldl (fun s x => psStep s x.val) ([], none)
theorem psOf_snoc (l : List (Fin 4080)) (x : Fin 4080) : psOf (l ++ [x]) = psStep (psOf l) x.val := by simp [psOf]

/-- a piece's two cells: its place, its bytes' block -/
def pcell (p g : Nat × Nat) : List Value := [.int .i64 (p.1 : Int), .slice (some ⟨g.1, 0, none⟩) p.2 g.2]
def pcells (ps gs : List (Nat × Nat)) : List Value := (ps.zip gs).flatMap fun x => pcell x.1 x.2

/-- the slice v has these pieces of the page lb, all in memory from n₀ on -/
def Pcs (n₀ : Nat) (W : World) (lb : List UInt8) (v : Value) (ps : List (Nat × Nat)) : Prop :=
  ∃ gs : List (Nat × Nat), gs.length = ps.length ∧ W.ownsRow n₀ 263 2 v ps.length (pcells ps gs) ∧ (v = .slice none 0 0 ↔ ps = []) ∧ (gs.map (·.1)).Nodup ∧
    ∀ (k : Nat) (p g : Nat × Nat), ps[k]? = some p → gs[k]? = some g → n₀ ≤ g.1 ∧ Own W n₀ (.slice (some ⟨g.1, 0, none⟩) p.2 g.2) ((lb.drop p.1).take p.2)

theorem put_none (W : World) (Bl Bt Bf Bn : Nat) (ht : Boxed W Bt 3 (.int .i64 (-1))) :
    Calls Tryz.prog 275 #[.pointer (some ⟨Bt, 0, none⟩), .pointer (some ⟨Bl, 0, none⟩), .pointer (some ⟨Bf, 0, none⟩), .pointer (some ⟨Bn, 0, none⟩)] W fun e W' => (∃ v, e = .returned v) ∧ W' = W := by
  have hc := ht.cell
  go_enter Tryz.func275, Tryz.ntmps275
  go_wp2
  go_end0
  exact ⟨⟨_, rfl⟩, rfl⟩

theorem info263 : (Tryz.prog.info? 263).map (fun i => (i.zero, i.size, i.bytes)) = some (some (.agg #[.int .i64 0, .slice none 0 0]), 2, 32) := by kernel_rfl

theorem Own.nonnil {w : World} {base : Nat} {v : Value} {l : List UInt8} (h : Own w base v l) (hl : 0 < l.length) : ∃ g cap, v = .slice (some ⟨g, 0, none⟩) l.length cap ∧ base ≤ g ∧ g < w.heap.size := by
  rcases h.form with ⟨_, h0⟩ | ⟨g, cap, e, h1, h2, _⟩
  · subst h0; simp at hl
  · exact ⟨g, cap, e, h1, h2⟩
theorem ownB_lt {w : World} {base size n : Nat} {e : TypeId} {v : Value} {xs : List Value} (h : w.ownsRow base e size v n xs) : ∀ g, v.ownBlock = some g → g < w.heap.size := by
  intro g hg
  rcases h.2 with ⟨rfl, _⟩ | ⟨b, cap, cur, rfl, _, hb, _⟩
  · simp [Value.ownBlock] at hg
  · simp [Value.ownBlock] at hg; subst hg; exact (Array.getElem?_eq_some_iff.1 hb).1
theorem boxS {W W' : World} {B : Nat} {t : TypeId} {v : Value} (h : Boxed W B t v) (hb : Below W.heap.size W W') : Boxed W' B t v := (hb.block B h.lt).trans h
theorem row_belowS {w w' : World} {base size n : Nat} {e : TypeId} {v : Value} {xs : List Value} (h : w.ownsRow base e size v n xs) (hb : Below w.heap.size w w') : w'.ownsRow base e size v n xs := by
  refine ⟨h.1, ?_⟩
  rcases h.2 with hn | ⟨g, cap, cur, rfl, h1, hgg, rest⟩
  · exact .inl hn
  · exact .inr ⟨g, cap, cur, rfl, h1, (hb.block g (Array.getElem?_eq_some_iff.1 hgg).1).trans hgg, rest⟩

theorem box_ne {W : World} {A B : Nat} {t s : TypeId} {u v : Value} (h1 : Boxed W A t u) (h2 : Boxed W B s v) (hts : t ≠ s) : A ≠ B := by
  rintro rfl
  have h : W.heap[A]? = _ := h1
  rw [show W.heap[A]? = _ from h2] at h
  simp at h
  exact hts h.2.symm

/-- what stands while put works: the boxes; the row of pieces -/
structure SP (n₀ Bl Bt Bf Bn b2 o2 c2 f t : Nat) (v : Value) (k : Nat) (xs : List Value) (W0 W : World) : Prop where
  t : Boxed W Bt 3 (.int .i64 t)
  f : Boxed W Bf 3 (.int .i64 f)
  l : Boxed W Bl 259 v
  n : Boxed W Bn 25 (.slice (some ⟨b2, o2, none⟩) 4080 c2)
  row : W.ownsRow n₀ 263 2 v k xs
  bl : Below W0.heap.size W0 W
theorem SP.step {n₀ Bl Bt Bf Bn b2 o2 c2 f t : Nat} {v : Value} {k : Nat} {xs : List Value} {W0 W W' : World} (s : SP n₀ Bl Bt Bf Bn b2 o2 c2 f t v k xs W0 W) (hb : Below W.heap.size W W') : SP n₀ Bl Bt Bf Bn b2 o2 c2 f t v k xs W0 W' :=
  ⟨boxS s.t hb, boxS s.f hb, boxS s.l hb, boxS s.n hb, row_belowS s.row hb, s.bl.trans (hb.mono s.bl.size)⟩
theorem SP.all {n₀ Bl Bt Bf Bn b2 o2 c2 f t : Nat} {v : Value} {k : Nat} {xs : List Value} {W0 W : World} (s : SP n₀ Bl Bt Bf Bn b2 o2 c2 f t v k xs W0 W) :
    W.cell? ⟨Bt, 0, none⟩ = some (.int .i64 t) ∧ W.cell? ⟨Bf, 0, none⟩ = some (.int .i64 f) ∧ W.cell? ⟨Bl, 0, none⟩ = some v ∧ W.cell? ⟨Bn, 0, none⟩ = some (.slice (some ⟨b2, o2, none⟩) 4080 c2) := ⟨s.t.cell, s.f.cell, s.l.cell, s.n.cell⟩

/-- what put leaves, of the piece's bytes themselves -/
def PutOkS (n₀ Bl f : Nat) (sb : List UInt8) (v : Value) (k : Nat) (xs : List Value) (W W' : World) : Prop :=
  ∃ v' g cap, Boxed W' Bl 259 v' ∧ v' ≠ .slice none 0 0 ∧ W'.ownsRow n₀ 263 2 v' (k + 1) (xs ++ pcell (f, sb.length) (g, cap)) ∧ W.heap.size ≤ g ∧ g < W'.heap.size ∧ Own W' n₀ (.slice (some ⟨g, 0, none⟩) sb.length cap) sb ∧
    (∀ B, B < W.heap.size → B ≠ Bl → some B ≠ v.ownBlock → W'.heap[B]? = W.heap[B]?) ∧ W.heap.size ≤ W'.heap.size ∧ W'.os = W.os ∧ W'.tape = W.tape ∧ W'.output = W.output

theorem put_end {n₀ Bl Bt Bf Bn b2 o2 c2 f t : Nat} {v : Value} {k : Nat} {xs : List Value} {W wA w2 : World} {sb : List UInt8} {g cap g2 cap2 : Nat} (hrow : W.ownsRow n₀ 263 2 v k xs) (hn₀ : n₀ ≤ W.heap.size)
    (sA : SP n₀ Bl Bt Bf Bn b2 o2 c2 f t v k xs W wA) (ownA : Own wA W.drew.heap.size (.slice (some ⟨g, 0, none⟩) sb.length cap) sb) (hg : W.drew.heap.size ≤ g) (hgl : g < wA.heap.size) (hBl : Bl < W.heap.size)
    (hl2 : Boxed w2 Bl 259 v) (hown2 : w2.ownsRow n₀ 263 2 (.slice (some ⟨g2, 0, none⟩) (k + 1) cap2) (k + 1) (xs ++ pcell (f, sb.length) (g, cap))) (hgrow2 : wA.grownBy w2 v.ownBlock) :
    PutOkS n₀ Bl f sb v k xs W (w2.setCell ⟨Bl, 0, none⟩ (.slice (some ⟨g2, 0, none⟩) (k + 1) cap2)) := by
  have hs : W.heap.size ≤ wA.heap.size := sA.bl.size
  have hz2 : (w2.setCell ⟨Bl, 0, none⟩ (.slice (some ⟨g2, 0, none⟩) (k + 1) cap2)).heap.size = w2.heap.size := by simp [World.setCell]
  have hrl := ownB_lt hrow
  have gb : ∀ B, B < wA.heap.size → B ≠ Bl → some B ≠ v.ownBlock → (w2.setCell ⟨Bl, 0, none⟩ (.slice (some ⟨g2, 0, none⟩) (k + 1) cap2)).heap[B]? = wA.heap[B]? := fun B h1 h2 h3 =>
    (Below.heap_setCell _ _ _ B (fun e => h2 e)).trans (hgrow2.block B h1 h3)
  have hgW : W.heap.size ≤ g := hg
  refine ⟨_, g, cap, hl2.set _, by simp, hown2.kept (grownBy_setCell' w2 Bl _) (.inr (hl2.not_row (by decide) hown2).symm), hg, ?_, ?_, ?_, ?_, ?_, ?_, ?_⟩
  · rw [hz2]; exact Nat.lt_of_lt_of_le hgl hgrow2.size
  · refine (ownA.blocks fun j hj => ?_).down (B' := n₀) hn₀
    obtain rfl : g = j := by simpa [Value.ownBlock] using hj
    exact gb g hgl (by omega) (fun e => by have := hrl g e.symm; omega)
  · intro B h1 h2 h3
    exact (gb B (by omega) h2 h3).trans (sA.bl.block B h1)
  · rw [hz2]; exact Nat.le_trans hs hgrow2.size
  · exact (show _ = w2.os from rfl).trans (hgrow2.os.trans sA.bl.os)
  · exact (show _ = w2.tape from rfl).trans (hgrow2.tape.trans sA.bl.tape)
  · exact (show _ = w2.output from rfl).trans (hgrow2.output.trans sA.bl.output)

theorem put_some (W : World) (n₀ Bl Bt Bf Bn b2 o2 c2 : Nat) (f t : Nat) (lb : List UInt8) (hlb : lb.length = 4080) (hft : f ≤ t) (ht4 : t < 4080) (hc2 : 4080 ≤ c2) (v : Value) (k : Nat) (xs : List Value) (hk : k ≤ 4080)
    (ht : Boxed W Bt 3 (.int .i64 t)) (hf : Boxed W Bf 3 (.int .i64 f)) (hl : Boxed W Bl 259 v) (hn : Boxed W Bn 25 (.slice (some ⟨b2, o2, none⟩) 4080 c2)) (hb2 : b2 < n₀) (hn₀ : n₀ ≤ W.heap.size)
    (hv : ∀ k (h : k < lb.length), W.cell? ⟨b2, o2 + k, none⟩ = some (u8V lb[k])) (hrow : W.ownsRow n₀ 263 2 v k xs) :
    Calls Tryz.prog 275 #[.pointer (some ⟨Bt, 0, none⟩), .pointer (some ⟨Bl, 0, none⟩), .pointer (some ⟨Bf, 0, none⟩), .pointer (some ⟨Bn, 0, none⟩)] W fun e W' => (∃ v, e = .returned v) ∧ PutOkS n₀ Bl f ((lb.drop f).take (t + 1 - f)) v k xs W W' := by
  have s0 : SP n₀ Bl Bt Bf Bn b2 o2 c2 f t v k xs W W.drew := ⟨ht, hf, hl, hn, hrow, ⟨rfl, rfl, rfl, Nat.le_refl _, fun _ _ => rfl⟩⟩
  have ct := ht.cell
  have cf := hf.cell
  have cl := hl.cell
  have cn := hn.cell
  have hrd : Rd W.drew W.drew.heap.size (some ⟨b2, o2 + f, none⟩) ((lb.drop f).take (t + 1 - f)) := fun _ => ⟨b2, o2 + f, rfl, by show b2 < W.heap.size; omega, fun j hj => by
    have hj' : j < t + 1 - f := by simp at hj; omega
    have := hv (f + j) (by omega)
    show W.cell? _ = _
    rw [Nat.add_assoc, this]
    simp⟩
  have hrl : t + 1 - f = ((lb.drop f).take (t + 1 - f)).length := by simp; omega
  have hrp : 0 < ((lb.drop f).take (t + 1 - f)).length := by omega
  have hrb : ((lb.drop f).take (t + 1 - f)).length ≤ 1000000 := by omega
  have hBl := hl.lt
  obtain ⟨sb, hsb⟩ : ∃ sb, sb = (lb.drop f).take (t + 1 - f) := ⟨_, rfl⟩
  rw [← hsb] at hrd hrl hrp hrb ⊢
  have HL := Lib.hid hrl
  clear hsb hv hrl
  obtain ⟨i0, hi, hz0, hz1, hz2⟩ := info_parts info263
  have mixed : Tryz.prog.follows .mixedOrders = true := by kernel_rfl
  have n1 : (t : Int) + 1 ≤ (c2 : Int) := by omega
  have n2 : (f : Int) ≤ (t : Int) + 1 := by omega
  have n3 : ((t : Int) + 1).toNat = t + 1 := by omega
  have n4 : (0 : Int) ≤ (t : Int) + 1 := by omega
  have n5 : IntKind.i64.wrap ((t : Int) + 1) = (t : Int) + 1 := by rw [IntKind.wrap_i64]; omega
  have n6 : ¬ (c2 = f) := by omega
  go_enter Tryz.func275, Tryz.ntmps275
  go_upto_region 1 with fail
  refine wp_region_held_drew (S := fun w' => w'.cell? ⟨Bt, 0, none⟩ = some (.int .i64 t) ∧ w'.cell? ⟨Bf, 0, none⟩ = some (.int .i64 f) ∧ w'.cell? ⟨Bn, 0, none⟩ = some (.slice (some ⟨b2, o2, none⟩) 4080 c2)) (by kernel_rfl) ⟨ct, cf, cn⟩ (fun hS0 => ?_)
  refine wpAnyH_take (i := 1) (oi := { dst := some 7, op := .load 3 (.tmp 2), type := 3, pos := "change.go:36", after := #[], guard := none }) (v := .int .i64 f) rfl (by kernel_rfl) (by kernel_rfl) (by kernel_rfl) (fun _ _ _ h => h) (Or.inl ⟨by rfl, by intro w hSw; (try dsimp only at hSw); go_simp⟩) (by assumption) ?_
  simp only [Act.put, List.setIfInBounds_toArray, List.set_cons_zero, List.set_cons_succ]
  refine wpAnyH_take (i := 2) (oi := { dst := some 8, op := .load 25 (.tmp 3), type := 25, pos := "change.go:36", after := #[], guard := none }) (v := .slice (some ⟨b2, o2, none⟩) 4080 c2) rfl (by kernel_rfl) (by kernel_rfl) (by kernel_rfl) (fun _ _ _ h => h) (Or.inl ⟨by rfl, by intro w hSw; (try dsimp only at hSw); go_simp⟩) (by assumption) ?_
  simp only [Act.put, List.setIfInBounds_toArray, List.set_cons_zero, List.set_cons_succ]
  refine wpAnyH_take (i := 3) (oi := { dst := some 9, op := .load 3 (.tmp 2), type := 3, pos := "change.go:36", after := #[], guard := none }) (v := .int .i64 f) rfl (by kernel_rfl) (by kernel_rfl) (by kernel_rfl) (fun _ _ _ h => h) (Or.inl ⟨by rfl, by intro w hSw; (try dsimp only at hSw); go_simp⟩) (by assumption) ?_
  simp only [Act.put, List.setIfInBounds_toArray, List.set_cons_zero, List.set_cons_succ]
  refine wpAnyH_take (i := 4) (oi := { dst := some 10, op := .load 3 (.tmp 0), type := 3, pos := "change.go:36", after := #[], guard := none }) (v := .int .i64 t) rfl (by kernel_rfl) (by kernel_rfl) (by kernel_rfl) (fun _ _ _ h => h) (Or.inl ⟨by rfl, by intro w hSw; (try dsimp only at hSw); go_simp⟩) (by assumption) ?_
  simp only [Act.put, List.setIfInBounds_toArray, List.set_cons_zero, List.set_cons_succ]
  refine wpAnyH_take (i := 5) (oi := { dst := some 11, op := .binOp .add 3 (.tmp 10) (.const (.int .i64 1)) 3, type := 3, pos := "change.go:36", after := #[{ on := 4, ground := .data }], guard := none }) (v := .int .i64 ((t : Int) + 1)) rfl (by kernel_rfl) (by kernel_rfl) (by kernel_rfl) (fun _ _ _ h => h) (Or.inl ⟨by rfl, by intro w hSw; (try dsimp only at hSw); go_simp⟩) (by assumption) ?_
  simp only [Act.put, List.setIfInBounds_toArray, List.set_cons_zero, List.set_cons_succ]
  refine wpAnyH_take (i := 6) (oi := { dst := some 12, op := .slice 25 (.tmp 8) (some (.tmp 9)) (some (.tmp 11)) none, type := 25, pos := "change.go:36", after := #[{ on := 2, ground := .data }, { on := 3, ground := .data }, { on := 5, ground := .data }], guard := none }) (v := .slice (some ⟨b2, o2 + f, none⟩) (t + 1 - f) (c2 - f)) rfl (by kernel_rfl) (by kernel_rfl) (by kernel_rfl) (fun _ _ _ h => h) (Or.inl ⟨by rfl, by intro w hSw; (try dsimp only at hSw); go_simp⟩) (by assumption) ?_
  simp only [Act.put, List.setIfInBounds_toArray, List.set_cons_zero, List.set_cons_succ]
  refine wpAnyH_ready (rs := [0, 7]) (by kernel_rfl) (by simp) ?_
  refine AllReadyH.cons (o := { dst := some 6, op := .load 259 (.tmp 1), type := 259, pos := "change.go:36", after := #[], guard := none }) rfl (fun K hK => ?_) ?_
  rotate_left
  · refine AllReadyH.cons (o := { dst := some 13, op := .call { callee := .value (.func 87), args := #[.tmp 12], argTypes := #[25] }, type := 25, pos := "change.go:36", after := #[{ on := 6, ground := .data }], guard := none }) rfl (fun K hK => ?_) AllReadyH.nil
    go_simp
    go_at_call 87
    with_reducible refine (clone_any ⟨b2, o2 + f, none⟩ (c2 - f) (t + 1 - f) sb _ hrd HL.out hrb).mono ?_
    rintro e w1 ⟨u, rfl, own1, hb1⟩
    have s1 := s0.step hb1
    obtain ⟨g, cap, rfl, hg, hgl⟩ := own1.nonnil hrp
    have cl1 := s1.l.cell
    have sA := s1.step ((Below.refl _ _).alloc (Nat.le_refl _) (.cells #[.int .i64 f, .slice (some ⟨g, 0, none⟩) sb.length cap] 263))
    have ownA := own1.alloc (.cells #[.int .i64 f, .slice (some ⟨g, 0, none⟩) sb.length cap] 263)
    have hzA := sA.bl.size
    have clA := sA.l.cell
    clear s0
    try go_simp
    refine hK _ _ ⟨s1.t.cell, s1.f.cell, s1.n.cell⟩ (fun hS1 => ?_)
    clear hK K
    refine wpAnyH_take (i := 8) (oi := { dst := some 14, op := .build 263 #[(0, .tmp 7), (1, .tmp 13)], type := 263, pos := "change.go:36", after := #[{ on := 1, ground := .data }, { on := 7, ground := .data }], guard := none }) (v := .agg #[.int .i64 f, .slice (some ⟨g, 0, none⟩) sb.length cap]) rfl (by kernel_rfl) (by kernel_rfl) (by kernel_rfl) (fun _ _ _ h => h) (Or.inl ⟨by rfl, by intro w hSw; (try dsimp only at hSw); go_simp⟩) (by assumption) ?_
    simp only [Act.put, List.setIfInBounds_toArray, List.set_cons_zero, List.set_cons_succ]
    refine wpAnyH_ready (rs := [0, 9]) (by kernel_rfl) (by simp) ?_
    refine AllReadyH.cons (o := { dst := some 6, op := .load 259 (.tmp 1), type := 259, pos := "change.go:36", after := #[], guard := none }) rfl (fun K hK => ?_) ?_
    rotate_left
    · refine AllReadyH.cons (o := { dst := some 15, op := .buildSlice 259 1 #[(0, .tmp 14)], type := 259, pos := "change.go:36", after := #[{ on := 8, ground := .data }], guard := none }) rfl (fun K hK => ?_) AllReadyH.nil
      go_simp
      refine hK _ _ ⟨sA.t.cell, sA.f.cell, sA.n.cell⟩ (fun hS2 => ?_)
      clear hK K
      refine wpAnyH_ready (rs := [0]) (by kernel_rfl) (by simp) ?_
      refine AllReadyH.cons (o := { dst := some 6, op := .load 259 (.tmp 1), type := 259, pos := "change.go:36", after := #[], guard := none }) rfl (fun K hK => ?_) AllReadyH.nil
      go_simp
      refine hK _ _ ⟨sA.t.cell, sA.f.cell, sA.n.cell⟩ (fun hS2 => ?_)
      clear hK K
      refine wpAnyH_ready (rs := [10]) (by kernel_rfl) (by simp) ?_
      refine AllReadyH.cons (o := { dst := some 16, op := .call { callee := .builtin .append, args := #[.tmp 6, .tmp 15], argTypes := #[259, 259] }, type := 259, pos := "change.go:36", after := #[{ on := 0, ground := .data }, { on := 9, ground := .data }, { on := 7, ground := .chain }], guard := none }) rfl (fun K hK => ?_) AllReadyH.nil
      refine step_append_lies _ rfl (.tmp 6) (.tmp 15) 259 rfl n₀ 263 i0 _ 2 32 Tryz.underlying259 hi hz0 hz1 hz2 rfl (by decide) v k xs rfl sA.row ⟨w1.heap.size, 0, none⟩ 1 1 (pcell (f, sb.length) (g, cap)) rfl rfl (World.news_of_block (heap_alloc_new w1 _)) (by simp [pcell, Value.oneCell']) (by decide) (by unfold maxLen; omega) (by omega) (by omega) _ rfl ?_
      intro g2 cap2 w2 hown2 hgrow2 hwhich hg2
      have hl2 : Boxed w2 Bl 259 v := sA.l.kept hgrow2 (sA.l.not_row (by decide) sA.row)
      have ht2 : Boxed w2 Bt 3 (.int .i64 t) := sA.t.kept hgrow2 (sA.t.not_row (by decide) sA.row)
      have hf2 : Boxed w2 Bf 3 (.int .i64 f) := sA.f.kept hgrow2 (sA.f.not_row (by decide) sA.row)
      have hn2 : Boxed w2 Bn 25 (.slice (some ⟨b2, o2, none⟩) 4080 c2) := sA.n.kept hgrow2 (sA.n.not_row (by decide) sA.row)
      refine hK _ _ ⟨ht2.cell, hf2.cell, hn2.cell⟩ (fun hS3 => ?_)
      clear hK K
      simp only [Act.put, List.setIfInBounds_toArray, List.set_cons_zero, List.set_cons_succ]
      have cl3 := hl2.cell
      have cf3 := hl2.frozen
      have d1 := box_ne ht2 hl2 (by decide)
      have d2 := box_ne hf2 hl2 (by decide)
      have d3 := box_ne hn2 hl2 (by decide)
      refine wpAnyH_ready (rs := [11]) (by kernel_rfl) (by simp) ?_
      refine AllReadyH.cons (o := { dst := none, op := .store 259 (.tmp 1) (.tmp 16), type := 0, pos := "change.go:36", after := #[{ on := 10, ground := .data }, { on := 10, ground := .chain }, { on := 0, ground := .phase }, { on := 1, ground := .phase }, { on := 2, ground := .phase }, { on := 3, ground := .phase }, { on := 4, ground := .phase }, { on := 5, ground := .phase }, { on := 6, ground := .phase }, { on := 7, ground := .phase }, { on := 8, ground := .phase }, { on := 9, ground := .phase }, { on := 10, ground := .phase }], guard := none }) rfl (fun K hK => ?_) AllReadyH.nil
      go_simp
      refine hK _ _ ⟨(ht2.other d1 _).cell, (hf2.other d2 _).cell, (hn2.other d3 _).cell⟩ (fun hS2 => ?_)
      clear hK K
      refine wpAnyH_done (by kernel_rfl) ?_ _
      go_wp2
      go_end0
      exact ⟨⟨_, rfl⟩, put_end hrow hn₀ sA ownA hg (ownA.lt _ rfl) hBl hl2 hown2 hgrow2⟩
    · go_simp
      refine hK _ _ ⟨s1.t.cell, s1.f.cell, s1.n.cell⟩ (fun hS2 => ?_)
      clear hK K
      refine wpAnyH_ready (rs := [9]) (by kernel_rfl) (by simp) ?_
      refine AllReadyH.cons (o := { dst := some 15, op := .buildSlice 259 1 #[(0, .tmp 14)], type := 259, pos := "change.go:36", after := #[{ on := 8, ground := .data }], guard := none }) rfl (fun K hK => ?_) AllReadyH.nil
      go_simp
      refine hK _ _ ⟨sA.t.cell, sA.f.cell, sA.n.cell⟩ (fun hS2 => ?_)
      clear hK K
      refine wpAnyH_ready (rs := [10]) (by kernel_rfl) (by simp) ?_
      refine AllReadyH.cons (o := { dst := some 16, op := .call { callee := .builtin .append, args := #[.tmp 6, .tmp 15], argTypes := #[259, 259] }, type := 259, pos := "change.go:36", after := #[{ on := 0, ground := .data }, { on := 9, ground := .data }, { on := 7, ground := .chain }], guard := none }) rfl (fun K hK => ?_) AllReadyH.nil
      refine step_append_lies _ rfl (.tmp 6) (.tmp 15) 259 rfl n₀ 263 i0 _ 2 32 Tryz.underlying259 hi hz0 hz1 hz2 rfl (by decide) v k xs rfl sA.row ⟨w1.heap.size, 0, none⟩ 1 1 (pcell (f, sb.length) (g, cap)) rfl rfl (World.news_of_block (heap_alloc_new w1 _)) (by simp [pcell, Value.oneCell']) (by decide) (by unfold maxLen; omega) (by omega) (by omega) _ rfl ?_
      intro g2 cap2 w2 hown2 hgrow2 hwhich hg2
      have hl2 : Boxed w2 Bl 259 v := sA.l.kept hgrow2 (sA.l.not_row (by decide) sA.row)
      have ht2 : Boxed w2 Bt 3 (.int .i64 t) := sA.t.kept hgrow2 (sA.t.not_row (by decide) sA.row)
      have hf2 : Boxed w2 Bf 3 (.int .i64 f) := sA.f.kept hgrow2 (sA.f.not_row (by decide) sA.row)
      have hn2 : Boxed w2 Bn 25 (.slice (some ⟨b2, o2, none⟩) 4080 c2) := sA.n.kept hgrow2 (sA.n.not_row (by decide) sA.row)
      refine hK _ _ ⟨ht2.cell, hf2.cell, hn2.cell⟩ (fun hS3 => ?_)
      clear hK K
      simp only [Act.put, List.setIfInBounds_toArray, List.set_cons_zero, List.set_cons_succ]
      have cl3 := hl2.cell
      have cf3 := hl2.frozen
      have d1 := box_ne ht2 hl2 (by decide)
      have d2 := box_ne hf2 hl2 (by decide)
      have d3 := box_ne hn2 hl2 (by decide)
      refine wpAnyH_ready (rs := [11]) (by kernel_rfl) (by simp) ?_
      refine AllReadyH.cons (o := { dst := none, op := .store 259 (.tmp 1) (.tmp 16), type := 0, pos := "change.go:36", after := #[{ on := 10, ground := .data }, { on := 10, ground := .chain }, { on := 0, ground := .phase }, { on := 1, ground := .phase }, { on := 2, ground := .phase }, { on := 3, ground := .phase }, { on := 4, ground := .phase }, { on := 5, ground := .phase }, { on := 6, ground := .phase }, { on := 7, ground := .phase }, { on := 8, ground := .phase }, { on := 9, ground := .phase }, { on := 10, ground := .phase }], guard := none }) rfl (fun K hK => ?_) AllReadyH.nil
      go_simp
      refine hK _ _ ⟨(ht2.other d1 _).cell, (hf2.other d2 _).cell, (hn2.other d3 _).cell⟩ (fun hS2 => ?_)
      clear hK K
      refine wpAnyH_done (by kernel_rfl) ?_ _
      go_wp2
      go_end0
      exact ⟨⟨_, rfl⟩, put_end hrow hn₀ sA ownA hg (ownA.lt _ rfl) hBl hl2 hown2 hgrow2⟩
  · go_simp
    refine hK _ _ ⟨ct, cf, cn⟩ (fun hS2 => ?_)
    clear hK K
    refine wpAnyH_ready (rs := [7]) (by kernel_rfl) (by simp) ?_
    refine AllReadyH.cons (o := { dst := some 13, op := .call { callee := .value (.func 87), args := #[.tmp 12], argTypes := #[25] }, type := 25, pos := "change.go:36", after := #[{ on := 6, ground := .data }], guard := none }) rfl (fun K hK => ?_) AllReadyH.nil
    go_simp
    go_at_call 87
    with_reducible refine (clone_any ⟨b2, o2 + f, none⟩ (c2 - f) (t + 1 - f) sb _ hrd HL.out hrb).mono ?_
    rintro e w1 ⟨u, rfl, own1, hb1⟩
    have s1 := s0.step hb1
    obtain ⟨g, cap, rfl, hg, hgl⟩ := own1.nonnil hrp
    have cl1 := s1.l.cell
    have sA := s1.step ((Below.refl _ _).alloc (Nat.le_refl _) (.cells #[.int .i64 f, .slice (some ⟨g, 0, none⟩) sb.length cap] 263))
    have ownA := own1.alloc (.cells #[.int .i64 f, .slice (some ⟨g, 0, none⟩) sb.length cap] 263)
    have hzA := sA.bl.size
    have clA := sA.l.cell
    clear s0
    try go_simp
    refine hK _ _ ⟨s1.t.cell, s1.f.cell, s1.n.cell⟩ (fun hS1 => ?_)
    clear hK K
    refine wpAnyH_take (i := 8) (oi := { dst := some 14, op := .build 263 #[(0, .tmp 7), (1, .tmp 13)], type := 263, pos := "change.go:36", after := #[{ on := 1, ground := .data }, { on := 7, ground := .data }], guard := none }) (v := .agg #[.int .i64 f, .slice (some ⟨g, 0, none⟩) sb.length cap]) rfl (by kernel_rfl) (by kernel_rfl) (by kernel_rfl) (fun _ _ _ h => h) (Or.inl ⟨by rfl, by intro w hSw; (try dsimp only at hSw); go_simp⟩) (by assumption) ?_
    simp only [Act.put, List.setIfInBounds_toArray, List.set_cons_zero, List.set_cons_succ]
    refine wpAnyH_ready (rs := [9]) (by kernel_rfl) (by simp) ?_
    refine AllReadyH.cons (o := { dst := some 15, op := .buildSlice 259 1 #[(0, .tmp 14)], type := 259, pos := "change.go:36", after := #[{ on := 8, ground := .data }], guard := none }) rfl (fun K hK => ?_) AllReadyH.nil
    go_simp
    refine hK _ _ ⟨sA.t.cell, sA.f.cell, sA.n.cell⟩ (fun hS2 => ?_)
    clear hK K
    refine wpAnyH_ready (rs := [10]) (by kernel_rfl) (by simp) ?_
    refine AllReadyH.cons (o := { dst := some 16, op := .call { callee := .builtin .append, args := #[.tmp 6, .tmp 15], argTypes := #[259, 259] }, type := 259, pos := "change.go:36", after := #[{ on := 0, ground := .data }, { on := 9, ground := .data }, { on := 7, ground := .chain }], guard := none }) rfl (fun K hK => ?_) AllReadyH.nil
    refine step_append_lies _ rfl (.tmp 6) (.tmp 15) 259 rfl n₀ 263 i0 _ 2 32 Tryz.underlying259 hi hz0 hz1 hz2 rfl (by decide) v k xs rfl sA.row ⟨w1.heap.size, 0, none⟩ 1 1 (pcell (f, sb.length) (g, cap)) rfl rfl (World.news_of_block (heap_alloc_new w1 _)) (by simp [pcell, Value.oneCell']) (by decide) (by unfold maxLen; omega) (by omega) (by omega) _ rfl ?_
    intro g2 cap2 w2 hown2 hgrow2 hwhich hg2
    have hl2 : Boxed w2 Bl 259 v := sA.l.kept hgrow2 (sA.l.not_row (by decide) sA.row)
    have ht2 : Boxed w2 Bt 3 (.int .i64 t) := sA.t.kept hgrow2 (sA.t.not_row (by decide) sA.row)
    have hf2 : Boxed w2 Bf 3 (.int .i64 f) := sA.f.kept hgrow2 (sA.f.not_row (by decide) sA.row)
    have hn2 : Boxed w2 Bn 25 (.slice (some ⟨b2, o2, none⟩) 4080 c2) := sA.n.kept hgrow2 (sA.n.not_row (by decide) sA.row)
    refine hK _ _ ⟨ht2.cell, hf2.cell, hn2.cell⟩ (fun hS3 => ?_)
    clear hK K
    simp only [Act.put, List.setIfInBounds_toArray, List.set_cons_zero, List.set_cons_succ]
    have cl3 := hl2.cell
    have cf3 := hl2.frozen
    have d1 := box_ne ht2 hl2 (by decide)
    have d2 := box_ne hf2 hl2 (by decide)
    have d3 := box_ne hn2 hl2 (by decide)
    refine wpAnyH_ready (rs := [11]) (by kernel_rfl) (by simp) ?_
    refine AllReadyH.cons (o := { dst := none, op := .store 259 (.tmp 1) (.tmp 16), type := 0, pos := "change.go:36", after := #[{ on := 10, ground := .data }, { on := 10, ground := .chain }, { on := 0, ground := .phase }, { on := 1, ground := .phase }, { on := 2, ground := .phase }, { on := 3, ground := .phase }, { on := 4, ground := .phase }, { on := 5, ground := .phase }, { on := 6, ground := .phase }, { on := 7, ground := .phase }, { on := 8, ground := .phase }, { on := 9, ground := .phase }, { on := 10, ground := .phase }], guard := none }) rfl (fun K hK => ?_) AllReadyH.nil
    go_simp
    refine hK _ _ ⟨(ht2.other d1 _).cell, (hf2.other d2 _).cell, (hn2.other d3 _).cell⟩ (fun hS2 => ?_)
    clear hK K
    refine wpAnyH_done (by kernel_rfl) ?_ _
    go_wp2
    go_end0
    exact ⟨⟨_, rfl⟩, put_end hrow hn₀ sA ownA hg (ownA.lt _ rfl) hBl hl2 hown2 hgrow2⟩
end Go.Proofs.YtdmnkhcddbjglaaGreat
