/-
  chanceryref28.Sum: one turn of its loop over the blocks, the loop, and what follows.
  chanceryref28.Sum: what follows the loop over the blocks; the tail as a law over worlds.
-/
import Derived.Test.YtiibpjahmhemmaaDoorZrsum
namespace Go.Ev
open Go Go.Proofs Go.RowKit Go.Proofs.YtiibpjahmhemmaaDoor
set_option maxRecDepth 100000
noncomputable section

/-! ### The region that takes a block -/
def isPlain : Code → Bool
  | .region _ _ false => true
  | _ => false
noncomputable def opsOf : Code → Array Oper
  | .region _ ops _ => ops
  | _ => #[]
theorem Tr.regionC {P : Program} {G : Nat} {call : CallF} (hcall : CallOk P G call) {c : Code} {fr fr1 : Fr} {st st1 : St} (hc : isPlain c = true) (h : evList P G call (opsOf c) (opsOf c).toList fr st = some (fr1, st1)) : Tr P G c fr st .normal fr1 st1 := by
  cases c <;> simp [isPlain] at hc
  rename_i id ops b
  cases b <;> simp at hc
  exact .region hcall h
noncomputable def c16 : Code := cA si5
noncomputable def o16 (k : Nat) : Oper := (opsOf c16).toList.getD k default
theorem l16 : (opsOf c16).toList = [o16 0, o16 1, o16 2] ++ (o16 3 :: o16 4 :: o16 5 :: [o16 6, o16 7]) := by kernel_rfl
def fput (fr : Fr) (i : Nat) (v : AV) : Fr := match fr with | ⟨l, d, t⟩ => ⟨l, d, t.set i v⟩
def G1 (N ca a : Nat) : Fr := fput (fput (fput (sF N ca a []) 51 (.slice 4 0 N ca 0)) 52 (i64A a)) 53 (i64A a)
def G2 (N ca a : Nat) : Fr := fput (G1 N ca a) 54 (i64A (a + 64))
def G3 (N ca a s t u : Nat) : Fr := fput (G2 N ca a) 55 (.slice 4 s t u 0)
def G4 (N ca a s u : Nat) (W : Nat → Nat) : Fr := fput (G3 N ca a s 64 u) 56 (.agg (row32 64 W))
theorem f1 (h K : Nat → Nat) (N M ca a : Nat) : evList Tryd.prog 1 callW (opsOf c16) [o16 0, o16 1, o16 2] (sF N ca a []) (sSt h K N M) = some (G1 N ca a, sSt h K N M) := by kernel_rfl
theorem f2 (h K : Nat → Nat) (N M ca a : Nat) : evOper Tryd.prog 1 callW (opsOf c16) (o16 3) (G1 N ca a) (sSt h K N M) = some (fput (G1 N ca a) 54 (.int .i64 (wrapF .i64 (.ofNat (a + 64)))), sSt h K N M) := by kernel_rfl
theorem f3a (N ca a : Nat) : wantedA (opsOf c16) (G2 N ca a) (o16 4) = some true := by kernel_rfl
theorem f3b : clsOf Tryd.prog (o16 4).op = .pure := by kernel_rfl
theorem f3c (N ca a : Nat) : opPureF (o16 4).op Tryd.prog (valA 1 (G2 N ca a)) = sliceA 1 (.slice 4 0 N ca 0) (some (.int .i64 (.ofNat a))) (some (.int .i64 (.ofNat (a + 64)))) none := by kernel_rfl
theorem f3d (N ca a s t u : Nat) : (G2 N ca a).put (o16 4).dst (.slice 4 s t u 0) = some (G3 N ca a s t u) := by kernel_rfl
theorem f4a (N ca a s t u : Nat) : wantedA (opsOf c16) (G3 N ca a s t u) (o16 5) = some true := by kernel_rfl
theorem f4b : clsOf Tryd.prog (o16 5).op = .heavy := by kernel_rfl
theorem f4c (h K : Nat → Nat) (N M ca a s t u : Nat) : opHeavy Tryd.prog callW (o16 5).op (valA 1 (G3 N ca a s t u)) (sSt h K N M) = wordsF [.slice 4 s t u 0] (sSt h K N M) := by kernel_rfl
theorem f4d (N ca a s u : Nat) (W : Nat → Nat) : (G3 N ca a s 64 u).put (o16 5).dst (.agg (row32 64 W)) = some (G4 N ca a s u W) := by kernel_rfl
theorem f4e (h K : Nat → Nat) (N M : Nat) : (sSt h K N M).obj 4 = .bytes false N M := by kernel_rfl
theorem f5 (h K W : Nat → Nat) (N M ca a s u : Nat) : (match evList Tryd.prog 1 callW (opsOf c16) [o16 6, o16 7] (G4 N ca a s u W) (sSt h K N M) with
  | some (fr, st) => some (fr.keep (sBi ++ [10]), st)
  | none => none) = some (sF N ca a [(10, .ptr 5 0)], jSt h K N M W) := by kernel_rfl
theorem evList_step {P : Program} {G : Nat} {call : CallF} {ops : Array Oper} {o : Oper} {l : List Oper} {fr fr1 : Fr} {st st1 : St} {r : Option (Fr × St)} (h1 : evOper P G call ops o fr st = some (fr1, st1)) (h2 : evList P G call ops l fr1 st1 = r) : evList P G call ops (o :: l) fr st = r := by
  rw [evList_cons, h1]; exact h2
theorem wordsF_at (i off cap N M : Nat) (st : St) (ho : st.obj i = .bytes false N M) (h1 : off + 64 ≤ N) (h2 : 64 ≤ cap) : wordsF [.slice i off 64 cap 0] st = some (.agg (row32 64 (wAll (cutB M off 64))), st) := by
  unfold wordsF
  simp only [ho, ble_iff.2 h1, ble_iff.2 h2, Bool.and_true, cond_true]
theorem c16_plain : isPlain c16 = true := by kernel_rfl
theorem c16_tr (h K : Nat → Nat) (N M ca a : Nat) (h1 : a + 64 ≤ N) (h2 : N ≤ ca) (h3 : ca ≤ 9223372036854775807) : Tr Tryd.prog 1 c16 (sF N ca a []) (sSt h K N M) .normal (sF N ca a [(10, .ptr 5 0)]) (jSt h K N M (wAll (cutB M a 64))) := by
  have e5 := f5 h K (wAll (cutB M a 64)) N M ca a (0 + a * 1) (ca - a)
  split at e5
  · rename_i fr st he
    simp only [Option.some.injEq, Prod.mk.injEq] at e5
    obtain ⟨e1, rfl⟩ := e5
    rw [← e1]
    refine Tr.keep (Tr.regionC callW_ok c16_plain ?_) _
    have e3 : evOper Tryd.prog 1 callW (opsOf c16) (o16 3) (G1 N ca a) (sSt h K N M) = some (G2 N ca a, sSt h K N M) := by rw [f2, wrapF_small _ (by omega)]; rfl
    have g3 : opPureF (o16 4).op Tryd.prog (valA 1 (G2 N ca a)) = some (.slice 4 (0 + a * 1) 64 (ca - a) 0) := by
      rw [f3c, sliceA_mid 4 N ca a (a + 64) (by omega) (by omega), Nat.add_sub_cancel_left]
    have g4 : opHeavy Tryd.prog callW (o16 5).op (valA 1 (G3 N ca a (0 + a * 1) 64 (ca - a))) (sSt h K N M) = some (.agg (row32 64 (wAll (cutB M a 64))), sSt h K N M) := by
      rw [f4c, wordsF_at 4 (0 + a * 1) (ca - a) N M _ (f4e h K N M) (by omega) (by omega), Nat.zero_add, Nat.mul_one]
    have e4 := evOper_pure (G := 1) (call := callW) (st := sSt h K N M) (f3a N ca a) f3b g3 (f3d N ca a (0 + a * 1) 64 (ca - a))
    have e5' := evOper_heavy (f4a N ca a (0 + a * 1) 64 (ca - a)) f4b g4 (f4d N ca a (0 + a * 1) (ca - a) _)
    rw [l16, evList_app (f1 h K N M ca a)]
    exact evList_step e3 (evList_step e4 (evList_step e5' he))
  · cases e5

/-! ### One turn -/
theorem Tr.seqCX {P : Program} {G : Nat} {c : Code} {fr fr1 : Fr} {st st1 : St} {ex : Ex} (hc : isSeq c = true) (hex : ex ≠ .normal) (h1 : Tr P G (cA c) fr st ex fr1 st1) : Tr P G c fr st ex fr1 st1 := by
  cases c <;> simp [isSeq] at hc
  exact .seqX hex h1
theorem r14 (h K : Nat → Nat) (N M ca a : Nat) : ev9 (sBi ++ [48]) (cA (cA sb3)) (sF N ca a []) (sSt h K N M) = some (.normal, sF N ca a [(48, .bool (ltA (.ofNat a) (.ofNat N)))], sSt h K N M, []) := by kernel_rfl
theorem r14t (h K : Nat → Nat) (N M ca a : Nat) : ev9 sBi (cA (cB (cA sb3))) (sF N ca a [(48, .bool true)]) (sSt h K N M) = some (.normal, sF N ca a [], sSt h K N M, []) := by kernel_rfl
theorem r14f (h K : Nat → Nat) (N M ca a : Nat) : ev9 sBi (cB (cB (cA sb3))) (sF N ca a [(48, .bool false)]) (sSt h K N M) = some (.exit 4, sF N ca a [], sSt h K N M, []) := by kernel_rfl
theorem v48 (N ca a : Nat) (b : Bool) : valA 1 (sF N ca a [(48, .bool b)]) (.tmp 48) = .bool b := by kernel_rfl
def sFx (N ca : Nat) (x : AV) : Fr := frOf 171 8 [(2, .ptr 1 0), (4, .ptr 2 0), (5, .ptr 3 0), (8, .slice 4 0 N ca 0), (9, x)]
theorem r15 (h K : Nat → Nat) (N M ca a : Nat) : ev9 sBi (cB (cB sb3)) (sF N ca a []) (sSt h K N M) = some (.normal, sFx N ca (.int .i64 (wrapF .i64 (.ofNat (a + 64)))), sSt h K N M, []) := by kernel_rfl
theorem tshape : isLoop sl3 = true ∧ isSeq sb3 = true ∧ isSeq (cA sb3) = true ∧ isCond 48 (cB (cA sb3)) = true ∧ isSeq (cB sb3) = true ∧ isBlock 5 sk5 = true ∧ isSeq si5 = true ∧ isSeq (cB si5) = true ∧ isSeq (cB (cB si5)) = true ∧ isSeq s18 = true ∧ isBlock 6 (cB s18) = true ∧ isSeq s25 = true ∧ isBlock 8 (cB s25) = true := by
  refine ⟨?_, ?_, ?_, ?_, ?_, ?_, ?_, ?_, ?_, ?_, ?_, ?_, ?_⟩ <;> kernel_rfl
theorem v0 (h K W : Nat → Nat) (N M : Nat) : iSt h K N M W h = iSt h K N M W (S8.get (toS8 h)) := by kernel_rfl
theorem q0 (h K W v : Nat → Nat) (N M : Nat) : ∀ i, i < 5 → (sSt h K N M).heap.get i = (iSt h K N M W v).heap.get i := by
  have a0 : (sSt h K N M).heap.get 0 = (iSt h K N M W v).heap.get 0 := by kernel_rfl
  have a1 : (sSt h K N M).heap.get 1 = (iSt h K N M W v).heap.get 1 := by kernel_rfl
  have a2 : (sSt h K N M).heap.get 2 = (iSt h K N M W v).heap.get 2 := by kernel_rfl
  have a3 : (sSt h K N M).heap.get 3 = (iSt h K N M W v).heap.get 3 := by kernel_rfl
  have a4 : (sSt h K N M).heap.get 4 = (iSt h K N M W v).heap.get 4 := by kernel_rfl
  intro i hi
  have : i = 0 ∨ i = 1 ∨ i = 2 ∨ i = 3 ∨ i = 4 := by omega
  rcases this with rfl | rfl | rfl | rfl | rfl <;> assumption
theorem q0f (h K : Nat → Nat) (N M : Nat) : ∀ i, i < 5 → ((sSt h K N M).heap.get i).flat = true := by
  have a0 : ((sSt h K N M).heap.get 0).flat = true := by kernel_rfl
  have a1 : ((sSt h K N M).heap.get 1).flat = true := by kernel_rfl
  have a2 : ((sSt h K N M).heap.get 2).flat = true := by kernel_rfl
  have a3 : ((sSt h K N M).heap.get 3).flat = true := by kernel_rfl
  have a4 : ((sSt h K N M).heap.get 4).flat = true := by kernel_rfl
  intro i hi
  have : i = 0 ∨ i = 1 ∨ i = 2 ∨ i = 3 ∨ i = 4 := by omega
  rcases this with rfl | rfl | rfl | rfl | rfl <;> assumption
theorem q0l (N ca a : Nat) : allBelow (fun j => ((sF N ca a []).t.get j).low 5) (sF N ca a []).lim = true := by kernel_rfl
theorem q0k (h K : Nat → Nat) (N M : Nat) : T.Ok (sSt h K N M).dep (sSt h K N M).heap := ((((T.Ok_full 4 _).set 1 _).set 2 _).set 3 _).set 4 _
theorem sk5_tr (h K : Nat → Nat) (N M ca a : Nat) (h1 : a + 64 ≤ N) (h2 : N ≤ ca) (h3 : ca ≤ 9223372036854775807) : Tr Tryd.prog 1 sk5 (sF N ca a []) (sSt h K N M) .normal (sF N ca a []) (sSt (mixS K h (cutB M a 64)) K N M) := by
  have key : Tr Tryd.prog 1 sk5 (sF N ca a []) (sSt h K N M) .normal (sF N ca a []) (iSt (mixS K h (cutB M a 64)) K N M (wAll (cutB M a 64)) (S8.get (rnds K (wAll (cutB M a 64)) (toS8 h) 64))) := by
    refine .blockN tshape.2.2.2.2.2.1 ?_
    refine .seqC tshape.2.2.2.2.2.2.1 (c16_tr h K N M ca a h1 h2 h3) ?_
    refine .seqC tshape.2.2.2.2.2.2.2.1 (tr9 (r17 h K _ N M ca a) trivial) ?_
    rw [v0]
    refine .seqC tshape.2.2.2.2.2.2.2.2.1 (.seqC tshape.2.2.2.2.2.2.2.2.2.1 (tr9 (r18 h K _ _ N M ca a) trivial) (.blockC tshape.2.2.2.2.2.2.2.2.2.2.1 (sl4_tr h K _ N M ca a (toS8 h) 64 0 rfl))) ?_
    exact .seqC tshape.2.2.2.2.2.2.2.2.2.2.2.1 (tr9 (r25 h K _ _ N M ca a) trivial) (.blockC tshape.2.2.2.2.2.2.2.2.2.2.2.2 (sl5_tr h K _ _ N M ca a 8 0 rfl))
  exact key.trim rfl rfl (q0k ..) (q0 _ K _ _ N M) (q0f _ K N M) (q0l ..)
theorem ltA_yes {a N : Nat} (h : a < N) : ltA (.ofNat a) (.ofNat N) = true := blt_iff.2 h
theorem ltA_no {a N : Nat} (h : ¬ a < N) : ltA (.ofNat a) (.ofNat N) = false := by
  show Nat.blt a N = false
  cases e : Nat.blt a N
  · rfl
  · exact absurd (blt_iff.1 e) h
theorem sb3_tr (h K : Nat → Nat) (N M ca a : Nat) (h1 : a + 64 ≤ N) (h2 : N ≤ ca) (h3 : ca ≤ 9223372036854775807) : Tr Tryd.prog 1 sb3 (sF N ca a []) (sSt h K N M) .normal (sF N ca (a + 64) []) (sSt (mixS K h (cutB M a 64)) K N M) := by
  refine .seqC tshape.2.1 (fr1 := sF N ca a []) (st1 := sSt h K N M) (.seqC tshape.2.2.1 (tr9 (r14 h K N M ca a) trivial) ?_) (.seqC tshape.2.2.2.2.1 (sk5_tr h K N M ca a h1 h2 h3) ?_)
  · rw [ltA_yes (by omega)]
    exact .condC tshape.2.2.2.1 (v48 N ca a true) (tr9 (r14t ..) trivial)
  · have := r15 (mixS K h (cutB M a 64)) K N M ca a
    rw [wrapF_small _ (by omega)] at this
    exact tr9 this trivial
theorem sb3_end (h K : Nat → Nat) (N M ca a : Nat) (h1 : ¬ a < N) : Tr Tryd.prog 1 sb3 (sF N ca a []) (sSt h K N M) (.exit 4) (sF N ca a []) (sSt h K N M) := by
  refine .seqCX tshape.2.1 (by simp) (.seqC tshape.2.2.1 (tr9 (r14 h K N M ca a) trivial) ?_)
  rw [ltA_no h1]
  exact .condC tshape.2.2.2.1 (v48 N ca a false) (tr9 (r14f ..) trivial)
/-- the state after k blocks -/
def blk (K h : Nat → Nat) (M : Nat) : Nat → Nat → Nat
  | 0 => h
  | k + 1 => mixS K (blk K h M k) (cutB M (64 * k) 64)
theorem sl3_tr (h K : Nat → Nat) (M ca nb : Nat) (h2 : 64 * nb ≤ ca) (h3 : ca ≤ 9223372036854775807) : ∀ k i, i + k = nb → Tr Tryd.prog 1 sl3 (sF (64 * nb) ca (64 * i) []) (sSt (blk K h M i) K (64 * nb) M) (.exit 4) (sF (64 * nb) ca (64 * nb) []) (sSt (blk K h M nb) K (64 * nb) M) := by
  intro k
  induction k with
  | zero => intro i hi; have : i = nb := by omega
            subst this; exact .loopCX tshape.1 (by simp) (sb3_end _ _ _ _ _ _ (by omega))
  | succ k ih =>
    intro i hi
    exact .loopC tshape.1 (sb3_tr (blk K h M i) K (64 * nb) M ca (64 * i) (by omega) h2 h3) (ih (i + 1) (by omega))
end
end Go.Ev

namespace Go.Ev
open Go Go.Proofs Go.RowKit Go.Proofs.YtiibpjahmhemmaaDoor
set_option maxRecDepth 100000
noncomputable section

def eSt (h K : Nat → Nat) (N M : Nat) : St := ⟨(((((((T.full 4 .dead).set 1 (mkCells (outA h))).set 2 (mkCells (row32 8 h))).set 3 (mkCells (row32 64 K))).set 4 (.bytes false N M)))).set 5 (mkCells (outA h)), 4, 6⟩
def sF0 (N ca : Nat) : Fr := frOf 171 8 [(2, .ptr 1 0), (4, .ptr 2 0), (5, .ptr 3 0), (8, .slice 4 0 N ca 0)]
theorem r13 (h K : Nat → Nat) (N M ca : Nat) : ev9 sBi (cA (cA (d9 7))) (sF0 N ca) (sSt h K N M) = some (.normal, sF N ca 0 [], sSt h K N M, []) := by kernel_rfl
noncomputable def lp9 : Code := cA (cB (cA (cB (d9 8))))
def outP (h : Nat → Nat) (i : Nat) : List AV := (List.range 32).map fun j => bif Nat.blt j i then AV.int .u8 (.ofNat (outN h j)) else AV.int .u8 (.ofNat 0)
def oSt (h K : Nat → Nat) (N M : Nat) (r : List AV) : St := ⟨(sHeap h K N M).set 5 (mkCells r), 4, 6⟩
def oF (l : List (Nat × AV)) : Fr := frOf 171 8 ([(2, .ptr 1 0), (4, .ptr 2 0), (18, .ptr 5 0)] ++ l)
theorem Good.alike {ρ ρ' : Ren} {st st' st1 : St} {w w' : World} (h : Good ρ st w ρ' st' w') (hdep : st1.dep = st'.dep) (hnext : st1.next = st'.next) (hok : T.Ok st1.dep st1.heap)
    (ha : ∀ i, i < st'.next → (st1.heap.get i).live = (st'.heap.get i).live ∧ (st1.heap.get i).writable = (st'.heap.get i).writable ∧ ∀ L ob, ORel ρ' L (st'.heap.get i) ob → ORel ρ' L (st1.heap.get i) ob) : Good ρ st w ρ' st1 w' := by
  refine ⟨h.ext, ⟨hok, by rw [hnext, hdep]; exact h.rel.lt, fun i hi => h.rel.fresh i (by omega), ?_, ?_⟩, by rw [hdep, h.dep], by have := h.next; omega, h.size, h.os, h.tape, h.output, h.kept, ?_, ?_, h.old⟩
  · intro i hi hl
    have hi' : i < st'.next := by omega
    rw [(ha i hi').1] at hl
    obtain ⟨L, ob, g1, g2, g3⟩ := h.rel.live i hi' hl
    exact ⟨L, ob, g1, g2, (ha i hi').2.2 L ob g3⟩
  · intro i j L M hi hj hne hl hw hL hM
    have hi' : i < st'.next := by omega
    have hj' : j < st'.next := by omega
    rw [(ha i hi').1] at hl
    rw [(ha j hj').2.1] at hw
    exact h.rel.inj i j L M hi' hj' hne hl hw hL hM
  · intro i L hi hl hL hLb
    have hi' : i < st'.next := by omega
    rw [(ha i hi').1] at hl
    rw [(ha i hi').2.1]
    exact h.owns i L hi' hl hL hLb
  · intro i hi hd
    rw [(ha i (by have := h.next; omega)).1]
    exact h.dead i hi hd
theorem Tr.alike {P : Program} {G : Nat} {c : Code} {fr fr' : Fr} {st st' st1 : St} {ex : Ex} (h : Tr P G c fr st ex fr' st') (hdep : st1.dep = st'.dep) (hnext : st1.next = st'.next) (hok : T.Ok st1.dep st1.heap)
    (ha : ∀ i, i < st'.next → (st1.heap.get i).live = (st'.heap.get i).live ∧ (st1.heap.get i).writable = (st'.heap.get i).writable ∧ ∀ ρ' L ob, ORel ρ' L (st'.heap.get i) ob → ORel ρ' L (st1.heap.get i) ob) : Tr P G c fr st ex fr' st1 := by
  intro ρ a w hF hR hG
  have key : ∀ (e : Exit) (a' : Act) (w' : World), (e = ex.toExit ∧ ∃ ρ', FR ρ' fr' a'.tmps ∧ Good ρ st w ρ' st' w' ∧ a'.defers = a.defers) → (e = ex.toExit ∧ ∃ ρ', FR ρ' fr' a'.tmps ∧ Good ρ st w ρ' st1 w' ∧ a'.defers = a.defers) := by
    rintro e a' w' ⟨rfl, ρ', hF', hg, hd⟩
    exact ⟨rfl, ρ', hF', hg.alike hdep hnext hok (fun i hi => ⟨(ha i hi).1, (ha i hi).2.1, (ha i hi).2.2 ρ'⟩), hd⟩
  have := h ρ a w hF hR hG
  cases c with
  | loop c => intro b k cs; obtain ⟨e, a', w', hq, harr⟩ := this b k cs; exact ⟨e, a', w', key e a' w' hq, harr⟩
  | _ => exact wp_mono (c := _) this key
theorem ORel.zeros {ρ : Ren} {L : Loc} {ob : Obj} (h : ORel ρ L (.bytes true 32 0) ob) : ORel ρ L (mkCells zero32) ob := by
  obtain ⟨C, e, fz, rfl, h1, h2, h3, h4⟩ := h
  have hlen : zero32.length = 32 := by simp [zero32]
  have hd : zero32.length ≤ 2 ^ depthOf 64 zero32.length := by rw [hlen]; decide
  refine ⟨(T.Ok_full _ _).setL, hd, C, e, fz, rfl, by rw [hlen]; exact h1, h2, ?_, fun _ => h4 rfl⟩
  intro k hk
  rw [hlen] at hk
  refine ⟨_, h3 k hk, ?_⟩
  rw [mkCells_get zero32 hd k (by omega)]
  have : byte 0 k = 0 := by simp [byte]
  simp only [zero32, List.getElem_map, byteV, this]
  exact .int _ _
def bSt (h K : Nat → Nat) (N M : Nat) : St := ⟨(sHeap h K N M).set 5 (.bytes true 32 0), 4, 6⟩
theorem r29 (h K : Nat → Nat) (N M ca a : Nat) : ev9 [2, 4, 18] (cA (d9 8)) (sF N ca a []) (sSt h K N M) = some (.normal, oF [], bSt h K N M, []) := by kernel_rfl
theorem oP0 (h K : Nat → Nat) (N M : Nat) : oSt h K N M (outP h 0) = oSt h K N M zero32 := by kernel_rfl
theorem r29_tr (h K : Nat → Nat) (N M ca a : Nat) : Tr Tryd.prog 1 (cA (d9 8)) (sF N ca a []) (sSt h K N M) .normal (oF []) (oSt h K N M (outP h 0)) := by
  have a0 : (oSt h K N M zero32).heap.get 0 = (bSt h K N M).heap.get 0 := by kernel_rfl
  have a1 : (oSt h K N M zero32).heap.get 1 = (bSt h K N M).heap.get 1 := by kernel_rfl
  have a2 : (oSt h K N M zero32).heap.get 2 = (bSt h K N M).heap.get 2 := by kernel_rfl
  have a3 : (oSt h K N M zero32).heap.get 3 = (bSt h K N M).heap.get 3 := by kernel_rfl
  have a4 : (oSt h K N M zero32).heap.get 4 = (bSt h K N M).heap.get 4 := by kernel_rfl
  have a5 : (oSt h K N M zero32).heap.get 5 = mkCells zero32 := by kernel_rfl
  have b5 : (bSt h K N M).heap.get 5 = .bytes true 32 0 := by kernel_rfl
  rw [oP0]
  refine Tr.alike (tr9 (r29 h K N M ca a) trivial) rfl rfl ((((((T.Ok_full 4 _).set 1 _).set 2 _).set 3 _).set 4 _).set 5 _) ?_
  intro i hi
  have hi' : i < 6 := hi
  have : i = 0 ∨ i = 1 ∨ i = 2 ∨ i = 3 ∨ i = 4 ∨ i = 5 := by omega
  rcases this with rfl | rfl | rfl | rfl | rfl | rfl
  · rw [a0]; exact ⟨rfl, rfl, fun _ _ _ h => h⟩
  · rw [a1]; exact ⟨rfl, rfl, fun _ _ _ h => h⟩
  · rw [a2]; exact ⟨rfl, rfl, fun _ _ _ h => h⟩
  · rw [a3]; exact ⟨rfl, rfl, fun _ _ _ h => h⟩
  · rw [a4]; exact ⟨rfl, rfl, fun _ _ _ h => h⟩
  · rw [a5, b5]; exact ⟨rfl, rfl, fun _ _ _ h => h.zeros⟩
theorem r30 (h K : Nat → Nat) (N M : Nat) (r : List AV) : ev9 [2, 4, 18, 19] (cA (cA (cB (d9 8)))) (oF []) (oSt h K N M r) = some (.normal, oF [(19, i64A 0)], oSt h K N M r, []) := by kernel_rfl
def R6 (i : Nat) : Prop := ∀ (h K : Nat → Nat) (N M : Nat), ev9 [2, 4, 18, 19] (cA lp9) (oF [(19, i64A i)]) (oSt h K N M (outP h i)) = some (.normal, oF [(19, i64A (i + 1))], oSt h K N M (outP h (i + 1)), [])
theorem r6end (h K : Nat → Nat) (N M : Nat) (r : List AV) : ev9 [2, 4, 18] (cA lp9) (oF [(19, i64A 32)]) (oSt h K N M r) = some (.exit 10, oF [], oSt h K N M r, []) := by kernel_rfl
theorem r34 (h K : Nat → Nat) (N M : Nat) : ev9 [2] (cB (cB (d9 8))) (oF []) (oSt h K N M (outP h 32)) = some (.ret, frOf 171 8 [(2, .ptr 1 0)], eSt h K N M, []) := by kernel_rfl
theorem R6x0 : R6 0 := by unfold R6; intros; kernel_rfl
theorem R6x1 : R6 1 := by unfold R6; intros; kernel_rfl
theorem R6x2 : R6 2 := by unfold R6; intros; kernel_rfl
theorem R6x3 : R6 3 := by unfold R6; intros; kernel_rfl
theorem R6x4 : R6 4 := by unfold R6; intros; kernel_rfl
theorem R6x5 : R6 5 := by unfold R6; intros; kernel_rfl
theorem R6x6 : R6 6 := by unfold R6; intros; kernel_rfl
theorem R6x7 : R6 7 := by unfold R6; intros; kernel_rfl
theorem R6x8 : R6 8 := by unfold R6; intros; kernel_rfl
theorem R6x9 : R6 9 := by unfold R6; intros; kernel_rfl
theorem R6x10 : R6 10 := by unfold R6; intros; kernel_rfl
theorem R6x11 : R6 11 := by unfold R6; intros; kernel_rfl
theorem R6x12 : R6 12 := by unfold R6; intros; kernel_rfl
theorem R6x13 : R6 13 := by unfold R6; intros; kernel_rfl
theorem R6x14 : R6 14 := by unfold R6; intros; kernel_rfl
theorem R6x15 : R6 15 := by unfold R6; intros; kernel_rfl
theorem R6x16 : R6 16 := by unfold R6; intros; kernel_rfl
theorem R6x17 : R6 17 := by unfold R6; intros; kernel_rfl
theorem R6x18 : R6 18 := by unfold R6; intros; kernel_rfl
theorem R6x19 : R6 19 := by unfold R6; intros; kernel_rfl
theorem R6x20 : R6 20 := by unfold R6; intros; kernel_rfl
theorem R6x21 : R6 21 := by unfold R6; intros; kernel_rfl
theorem R6x22 : R6 22 := by unfold R6; intros; kernel_rfl
theorem R6x23 : R6 23 := by unfold R6; intros; kernel_rfl
theorem R6x24 : R6 24 := by unfold R6; intros; kernel_rfl
theorem R6x25 : R6 25 := by unfold R6; intros; kernel_rfl
theorem R6x26 : R6 26 := by unfold R6; intros; kernel_rfl
theorem R6x27 : R6 27 := by unfold R6; intros; kernel_rfl
theorem R6x28 : R6 28 := by unfold R6; intros; kernel_rfl
theorem R6x29 : R6 29 := by unfold R6; intros; kernel_rfl
theorem R6x30 : R6 30 := by unfold R6; intros; kernel_rfl
theorem R6x31 : R6 31 := by unfold R6; intros; kernel_rfl
theorem R6all (t : Nat) (h2 : t < 32) : R6 t := by
  have : t = 0 ∨ t = 1 ∨ t = 2 ∨ t = 3 ∨ t = 4 ∨ t = 5 ∨ t = 6 ∨ t = 7 ∨ t = 8 ∨ t = 9 ∨ t = 10 ∨ t = 11 ∨ t = 12 ∨ t = 13 ∨ t = 14 ∨ t = 15 ∨ t = 16 ∨ t = 17 ∨ t = 18 ∨ t = 19 ∨ t = 20 ∨ t = 21 ∨ t = 22 ∨ t = 23 ∨ t = 24 ∨ t = 25 ∨ t = 26 ∨ t = 27 ∨ t = 28 ∨ t = 29 ∨ t = 30 ∨ t = 31 := by omega
  rcases this with rfl | rfl | rfl | rfl | rfl | rfl | rfl | rfl | rfl | rfl | rfl | rfl | rfl | rfl | rfl | rfl | rfl | rfl | rfl | rfl | rfl | rfl | rfl | rfl | rfl | rfl | rfl | rfl | rfl | rfl | rfl | rfl
  · exact R6x0
  · exact R6x1
  · exact R6x2
  · exact R6x3
  · exact R6x4
  · exact R6x5
  · exact R6x6
  · exact R6x7
  · exact R6x8
  · exact R6x9
  · exact R6x10
  · exact R6x11
  · exact R6x12
  · exact R6x13
  · exact R6x14
  · exact R6x15
  · exact R6x16
  · exact R6x17
  · exact R6x18
  · exact R6x19
  · exact R6x20
  · exact R6x21
  · exact R6x22
  · exact R6x23
  · exact R6x24
  · exact R6x25
  · exact R6x26
  · exact R6x27
  · exact R6x28
  · exact R6x29
  · exact R6x30
  · exact R6x31
theorem oshape : isSeq (d9 8) = true ∧ isSeq (cB (d9 8)) = true ∧ isSeq (cA (cB (d9 8))) = true ∧ isBlock 10 (cB (cA (cB (d9 8)))) = true ∧ isLoop lp9 = true := by
  refine ⟨?_, ?_, ?_, ?_, ?_⟩ <;> kernel_rfl
theorem lp9_tr (h K : Nat → Nat) (N M : Nat) : ∀ k i, i + k = 32 → Tr Tryd.prog 1 lp9 (oF [(19, i64A i)]) (oSt h K N M (outP h i)) (.exit 10) (oF []) (oSt h K N M (outP h 32)) := by
  intro k
  induction k with
  | zero => intro i hi; have : i = 32 := by omega
            subst this; exact .loopCX oshape.2.2.2.2 (by simp) (tr9 (r6end ..) trivial)
  | succ k ih =>
    intro i hi
    exact .loopC oshape.2.2.2.2 (tr9 (R6all i (by omega) h K N M) trivial) (ih (i + 1) (by omega))
theorem out9_tr (h K : Nat → Nat) (N M ca a : Nat) : Tr Tryd.prog 1 (d9 8) (sF N ca a []) (sSt h K N M) .ret (frOf 171 8 [(2, .ptr 1 0)]) (eSt h K N M) :=
  .seqC oshape.1 (r29_tr h K N M ca a) (.seqC oshape.2.1 (.seqC oshape.2.2.1 (tr9 (r30 ..) trivial) (.blockC oshape.2.2.2.1 (lp9_tr h K N M 32 0 rfl))) (tr9 (r34 ..) trivial))
theorem out9_res (h K : Nat → Nat) (N M : Nat) : resA Tryd.prog (frOf 171 8 [(2, .ptr 1 0)]) (eSt h K N M) Tryd.f9.results.toList = some [.agg (outA h)] := by kernel_rfl
theorem ushape : isSeq (d9 7) = true ∧ isSeq (cA (d9 7)) = true ∧ isBlock 4 (cB (cA (d9 7))) = true := by
  refine ⟨?_, ?_, ?_⟩ <;> kernel_rfl
theorem tail9 (h K : Nat → Nat) (M ca nb : Nat) (h2 : 64 * nb ≤ ca) (h3 : ca ≤ 9223372036854775807) : Tr Tryd.prog 1 (d9 7) (sF0 (64 * nb) ca) (sSt h K (64 * nb) M) .ret (frOf 171 8 [(2, .ptr 1 0)]) (eSt (blk K h M nb) K (64 * nb) M) :=
  .seqC ushape.1 (.seqC ushape.2.1 (tr9 (r13 ..) trivial) (.blockC ushape.2.2 (sl3_tr h K M ca nb h2 h3 nb 0 (by omega)))) (out9_tr _ K _ M ca _)

theorem rsum_wp (h K : Nat → Nat) (l : List UInt8) (nb ca : Nat) (hl : l.length = 64 * nb) (hnb : 0 < nb) (hca : 64 * nb ≤ ca) (hca2 : ca ≤ 9223372036854775807) {a : Act} {w : World} {g1 g2 g3 g4 o : Nat} {e1 e2 e3 : TypeId} (hs : a.tmps.size = 171)
    (t2 : a.tmps.getD 2 undef = .pointer (some ⟨g1, 0, none⟩)) (t4 : a.tmps.getD 4 undef = .pointer (some ⟨g2, 0, none⟩))
    (t5 : a.tmps.getD 5 undef = .pointer (some ⟨g3, 0, none⟩)) (t8 : a.tmps.getD 8 undef = .slice (some ⟨g4, o, none⟩) (64 * nb : Nat) ca)
    (h1 : w.heap[g1]? = some (.cells zero32V e1 (0, 0))) (h2 : w.heap[g2]? = some (.cells (rowV 8 h).toArray e2 (0, 0))) (h3 : w.heap[g3]? = some (.cells (rowV 64 K).toArray e3 (0, 0)))
    (h4 : ∀ k (hk : k < l.length), w.cell? ⟨g4, o + k, none⟩ = some (u8V l[k]))
    (n12 : g1 ≠ g2) (n13 : g1 ≠ g3) (n23 : g2 ≠ g3) (n14 : g1 ≠ g4) (n24 : g2 ≠ g4) (n34 : g3 ≠ g4) {Q : Exit → Act → World → Prop}
    (hQ : ∀ a' w', a'.defers = a.defers → (results Tryd.f9 a'.tmps).run Tryd.prog w' = .ok (.agg (out32V (blk K h (packB l) nb))) w' → (∀ B, B ≤ g1 → B ≤ g2 → B ≤ g3 → B ≤ w.heap.size → RowKit.Below B w w') → Q .ret a' w') : Code.wp Tryd.prog (d9 7) Q a w := by
  obtain ⟨C1, ee, fz1, hb1, _⟩ := block_of_cell (h4 0 (by omega))
  have hC1 : ∀ k (hk : k < l.length), C1[o + k]? = some (u8V l[k]) := by
    intro k hk
    have := h4 k hk
    simpa [World.cell?, hb1] using this
  have hsz1 : o + 64 * nb ≤ C1.size := by
    have := hC1 (64 * nb - 1) (by omega)
    have := (Array.getElem?_eq_some_iff.1 this).1; omega
  let ρ : Ren := fun i => if i = 0 then some ⟨0, 0, 0⟩ else if i = 1 then some ⟨g1, 0, 32⟩ else if i = 2 then some ⟨g2, 0, 8⟩ else if i = 3 then some ⟨g3, 0, 64⟩ else if i = 4 then some ⟨g4, o, C1.size⟩ else none
  have z1 : ∀ ρ : Ren, VRs ρ zero32 zero32V.toList := fun ρ => VRs_ofInts (fun _ => 0) .u8 (List.range 32)
  have z2 : ∀ ρ : Ren, VRs ρ (row32 8 h) (rowV 8 h).toArray.toList := fun ρ => VRs_ofInts h .u32 (List.range 8)
  have z3 : ∀ ρ : Ren, VRs ρ (row32 64 K) (rowV 64 K).toArray.toList := fun ρ => VRs_ofInts K .u32 (List.range 64)
  have gA : ∀ N M, (sSt h K N M).heap.get 0 = .dead := by intros; kernel_rfl
  have gB : ∀ N M, (sSt h K N M).heap.get 1 = mkCells zero32 := by intros; kernel_rfl
  have gC : ∀ N M, (sSt h K N M).heap.get 2 = mkCells (row32 8 h) := by intros; kernel_rfl
  have gD : ∀ N M, (sSt h K N M).heap.get 3 = mkCells (row32 64 K) := by intros; kernel_rfl
  have gE : ∀ N M, (sSt h K N M).heap.get 4 = .bytes false N M := by intros; kernel_rfl
  have hR : Rel ρ (sSt h K (64 * nb) (packB l)) w := by
    refine ⟨q0k .., (show (5 : Nat) ≤ 2 ^ 4 by decide), ?_, ?_, ?_⟩
    · intro i hi
      have hi' : 5 ≤ i := hi
      simp only [ρ]
      rw [if_neg (by omega), if_neg (by omega), if_neg (by omega), if_neg (by omega), if_neg (by omega)]
    · intro i hi hl
      have hi' : i < 5 := hi
      have : i = 0 ∨ i = 1 ∨ i = 2 ∨ i = 3 ∨ i = 4 := by omega
      rcases this with rfl | rfl | rfl | rfl | rfl
      · rw [gA] at hl; cases hl
      · exact ⟨⟨g1, 0, 32⟩, _, rfl, h1, by rw [gB]; exact ORel_mkCells (by decide) (z1 ρ)⟩
      · exact ⟨⟨g2, 0, 8⟩, _, rfl, h2, by rw [gC]; exact ORel_mkCells (by rw [show (row32 8 h).length = 8 by simp [row32]]; decide) (z2 ρ)⟩
      · exact ⟨⟨g3, 0, 64⟩, _, rfl, h3, by rw [gD]; exact ORel_mkCells (by rw [show (row32 64 K).length = 64 by simp [row32]]; decide) (z3 ρ)⟩
      · refine ⟨⟨g4, o, C1.size⟩, _, rfl, hb1, ?_⟩
        rw [gE]
        refine ⟨C1, ee, fz1, rfl, hsz1, Nat.le_refl _, ?_, by intro h; cases h⟩
        intro k hk
        have hk' : k < l.length := by omega
        rw [hC1 k hk', byteV, byte_packB l k hk']
    · intro i j L M hi hj hne hl hw hL hM
      have hi' : i < 5 := hi
      have hj' : j < 5 := hj
      have c1 : i = 0 ∨ i = 1 ∨ i = 2 ∨ i = 3 ∨ i = 4 := by omega
      have c2 : j = 0 ∨ j = 1 ∨ j = 2 ∨ j = 3 ∨ j = 4 := by omega
      rcases c1 with rfl | rfl | rfl | rfl | rfl <;> rcases c2 with rfl | rfl | rfl | rfl | rfl <;> first
        | (exact absurd rfl hne)
        | (rw [gA] at hl; cases hl)
        | (rw [gA] at hw; cases hw)
        | (rw [gE] at hw; cases hw)
        | (simp [ρ] at hL hM; subst hL; subst hM; simp; omega)
  have hG : Glob ρ 1 := fun g hg => by
    obtain rfl : g = 0 := by omega
    exact ⟨0, rfl⟩
  have hF : FR ρ (sF0 (64 * nb) ca) a.tmps := by
    refine FR_frOf (by decide) (by omega) _ ?_
    intro p hp
    simp only [List.mem_cons, List.not_mem_nil, or_false] at hp
    rcases hp with rfl | rfl | rfl | rfl
    · exact ⟨by decide, by rw [t2]; exact .ptr 1 0 ⟨g1, 0, 32⟩ rfl⟩
    · exact ⟨by decide, by rw [t4]; exact .ptr 2 0 ⟨g2, 0, 8⟩ rfl⟩
    · exact ⟨by decide, by rw [t5]; exact .ptr 3 0 ⟨g3, 0, 64⟩ rfl⟩
    · exact ⟨(show (8 : Nat) < 171 by decide), by rw [t8]; exact VR.slice 4 0 (64 * nb) ca 0 ca ⟨g4, o, C1.size⟩ rfl (by omega) hca (fun _ => rfl) (fun h => absurd rfl h)⟩
  refine wp_ret_of_tr (fn := Tryd.f9) (tail9 h K (packB l) ca nb hca hca2) (out9_res ..) hF hR hG ?_
  intro a' w' vc ρ' hd hrun hv hg
  generalize hbk : blk K h (packB l) nb = bk at *
  have hvc : vc = .agg (out32V bk) := by
    have hv' : VR ρ' (.agg (outA bk)) vc := hv
    cases hv' with | agg _ x ha =>
    have := VRs_ints (outN bk) .u8 (List.range 32) _ ha
    obtain ⟨al⟩ := x
    simp only at this
    subst this
    rfl
  subst hvc
  refine hQ a' w' hd hrun (fun B b1 b2 b3 b4 => ⟨hg.os, hg.tape, hg.output, hg.size, fun k hk => hg.kept k (by omega) ?_⟩)
  intro i L hi hw hL
  have hi' : i < 5 := hi
  have c1 : i = 0 ∨ i = 1 ∨ i = 2 ∨ i = 3 ∨ i = 4 := by omega
  rcases c1 with rfl | rfl | rfl | rfl | rfl
  · rw [gA] at hw; cases hw
  · simp [ρ] at hL; subst hL; simp; omega
  · simp [ρ] at hL; subst hL; simp; omega
  · simp [ρ] at hL; subst hL; simp; omega
  · rw [gE] at hw; cases hw

end
end Go.Ev
