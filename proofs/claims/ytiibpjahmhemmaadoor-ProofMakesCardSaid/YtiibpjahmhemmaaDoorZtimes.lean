/-
  chanceryref28.times: what the call does, with data that is not known.
-/
import Derived.Test.YtiibpjahmhemmaaDoorZout
namespace Go.Ev
open Go Go.Proofs Go.RowKit Go.Proofs.YtiibpjahmhemmaaDoor
set_option maxRecDepth 100000
noncomputable section

abbrev u64A (n : Nat) : AV := .int .u64 (.ofNat n)
def row64 (n : Nat) (W : Nat → Nat) : List AV := (List.range n).map fun i => u64A (W i)
def A64 (x y : Nat) : Nat := Nat.mod (Nat.add x y) 18446744073709551616
def M64 (x y : Nat) : Nat := Nat.mod (Nat.mul x y) 18446744073709551616
def Lo (x : Nat) : Nat := Nat.mod x 4294967296
def Hi (x : Nat) : Nat := Nat.mod (Nat.div x 4294967296) 18446744073709551616
def sT (x m v c : Nat) : Nat := A64 (A64 v (Lo (M64 x m))) c
def cT (x m v c : Nat) : Nat := A64 (Hi (M64 x m)) (Hi (sT x m v c))
def mT (low high i j : Nat) : Nat := bif Nat.beq j i then low else bif Nat.beq j (i + 1) then high else 0
structure OC where
  o : Nat → Nat
  c : Nat
def innT (a : Nat → Nat) (low high i : Nat) (o : Nat → Nat) : Nat → OC
  | 0 => ⟨o, 0⟩
  | k + 1 => ⟨updN (innT a low high i o k).o (i + k) (Lo (sT (a i) (mT low high i (i + k)) ((innT a low high i o k).o (i + k)) (innT a low high i o k).c)), cT (a i) (mT low high i (i + k)) ((innT a low high i o k).o (i + k)) (innT a low high i o k).c⟩
def outT (a : Nat → Nat) (low high : Nat) : Nat → Nat → Nat
  | 0 => fun _ => 0
  | i + 1 => (innT a low high i (outT a low high i) (5 - i)).o
def timesN (a : Nat → Nat) (n : Nat) : Nat → Nat := outT a (Lo n) (Hi n) 5

noncomputable def b31 : Code := bodyOf Tryd.prog 31
noncomputable def d31 (n : Nat) : Code := Nat.rec (motive := fun _ => Code) b31 (fun _ c => cB c) n
noncomputable def tl0 : Code := cA (cB (cA (d31 3)))
noncomputable def bd0 : Code := cA tl0
noncomputable def tSt (a r o : Nat → Nat) : St := ⟨(((T.full 3 .dead).set 1 (mkCells (row64 5 a))).set 2 (mkCells (row64 5 r))).set 3 (mkCells (row64 5 o)), 3, 4⟩
def tSt0 : St := ⟨T.full 3 .dead, 3, 1⟩
def tq : List (Nat × AV) := [(2, .ptr 1 0), (4, .ptr 2 0), (5, .ptr 3 0)]
def idsI : List Nat := [2, 4, 5, 6, 7, 8]
def frI (low high i : Nat) : Fr := frOf 61 6 (tq ++ [(6, u64A low), (7, u64A high), (8, i64A i)])
def idsJ : List Nat := [2, 4, 5, 6, 7, 8, 9, 10]
def frJ (low high i c j : Nat) : Fr := frOf 61 6 (tq ++ [(6, u64A low), (7, u64A high), (8, i64A i), (9, u64A c), (10, i64A j)])
def ev31 (ids : List Nat) (c : Code) (fr : Fr) (st : St) : Option (Ex × Fr × St × PL) := evK Tryd.prog callS 30 ids c fr st
def z5 : Nat → Nat := fun _ => 0


noncomputable def blk1 : Code := cA (cB bd0)
noncomputable def inn1 : Code := cA blk1
noncomputable def blk2 : Code := cB (cB inn1)
noncomputable def tlJ : Code := cA blk2
noncomputable def bdJ : Code := cA tlJ
theorem shapes : isLoop tl0 = true ∧ isSeq bd0 = true ∧ isSeq (cB bd0) = true ∧ isBlock 1 blk1 = true ∧ isSeq inn1 = true ∧ isSeq (cB inn1) = true ∧ isBlock 2 blk2 = true ∧ isLoop tlJ = true := by
  refine ⟨?_, ?_, ?_, ?_, ?_, ?_, ?_, ?_⟩ <;> kernel_rfl
theorem shapesD : isSeq (d31 0) = true ∧ isSeq (d31 1) = true ∧ isSeq (d31 2) = true ∧ isSeq (d31 3) = true ∧ isSeq (cA (d31 3)) = true ∧ isBlock 0 (cB (cA (d31 3))) = true := by
  refine ⟨?_, ?_, ?_, ?_, ?_, ?_⟩ <;> kernel_rfl
def TJ (i j : Nat) : Prop := ∀ (a r o : Nat → Nat) (low high c : Nat), ev31 idsJ bdJ (frJ low high i c j) (tSt a r o) = some (.normal, frJ low high i (cT (a i) (mT low high i j) (o j) c) (j + 1), tSt a r (updN o j (Lo (sT (a i) (mT low high i j) (o j) c))), [])
def TE (i : Nat) : Prop := ∀ (a r o : Nat → Nat) (low high c : Nat), ev31 idsI bdJ (frJ low high i c 5) (tSt a r o) = some (.exit 2, frI low high i, tSt a r o, [])
def TA (i : Nat) : Prop := ∀ (a r o : Nat → Nat) (low high : Nat), ev31 idsI (cA bd0) (frI low high i) (tSt a r o) = some (.normal, frI low high i, tSt a r o, [])
def TB (i : Nat) : Prop := ∀ (a r o : Nat → Nat) (low high : Nat), ev31 (idsI ++ [9]) (cA inn1) (frI low high i) (tSt a r o) = some (.normal, frOf 61 6 (tq ++ [(6, u64A low), (7, u64A high), (8, i64A i), (9, u64A 0)]), tSt a r o, [])
def TC (i : Nat) : Prop := ∀ (a r o : Nat → Nat) (low high : Nat), ev31 idsJ (cA (cB inn1)) (frOf 61 6 (tq ++ [(6, u64A low), (7, u64A high), (8, i64A i), (9, u64A 0)])) (tSt a r o) = some (.normal, frJ low high i 0 i, tSt a r o, [])
def TD (i : Nat) : Prop := ∀ (a r o : Nat → Nat) (low high : Nat), ev31 idsI (cB (cB bd0)) (frI low high i) (tSt a r o) = some (.normal, frI low high (i + 1), tSt a r o, [])
theorem tI5 (a r o : Nat → Nat) (low high : Nat) : ev31 [4, 5] (cA bd0) (frI low high 5) (tSt a r o) = some (.exit 0, frOf 61 6 [(4, .ptr 2 0), (5, .ptr 3 0)], tSt a r o, []) := by kernel_rfl
theorem t_a (a : Nat → Nat) (n : Nat) : ev31 [1, 2, 4] (cA (d31 0)) (mkFr 61 [.agg (row64 5 a), u64A n]) tSt0 = some (.normal, frOf 61 6 [(1, u64A n), (2, .ptr 1 0), (4, .ptr 2 0)], ⟨((T.full 3 .dead).set 1 (mkCells (row64 5 a))).set 2 (mkCells (row64 5 z5)), 3, 3⟩, []) := by kernel_rfl
theorem t_b (a : Nat → Nat) (n : Nat) : ev31 [1, 2, 4, 5] (cA (d31 1)) (frOf 61 6 [(1, u64A n), (2, .ptr 1 0), (4, .ptr 2 0)]) ⟨((T.full 3 .dead).set 1 (mkCells (row64 5 a))).set 2 (mkCells (row64 5 z5)), 3, 3⟩ = some (.normal, frOf 61 6 ((1, u64A n) :: tq), tSt a z5 z5, []) := by kernel_rfl
theorem t_c (a : Nat → Nat) (n : Nat) : ev31 [2, 4, 5, 6, 7] (cA (d31 2)) (frOf 61 6 ((1, u64A n) :: tq)) (tSt a z5 z5) = some (.normal, frOf 61 6 (tq ++ [(6, u64A (Lo n)), (7, u64A (Hi n))]), tSt a z5 z5, []) := by kernel_rfl
theorem t_d (a r o : Nat → Nat) (low high : Nat) : ev31 idsI (cA (cA (d31 3))) (frOf 61 6 (tq ++ [(6, u64A low), (7, u64A high)])) (tSt a r o) = some (.normal, frI low high 0, tSt a r o, []) := by kernel_rfl
theorem t_e (a r o : Nat → Nat) : ev31 [4] (d31 4) (frOf 61 6 [(4, .ptr 2 0), (5, .ptr 3 0)]) (tSt a r o) = some (.ret, frOf 61 6 [(4, .ptr 2 0)], tSt a o o, []) := by kernel_rfl
theorem t_res (a o : Nat → Nat) : resA Tryd.prog (frOf 61 6 [(4, .ptr 2 0)]) (tSt a o o) Tryd.f31.results.toList = some [.agg (row64 5 o)] := by kernel_rfl
theorem TEx0 : TE 0 := by unfold TE; intros; kernel_rfl
theorem TAx0 : TA 0 := by unfold TA; intros; kernel_rfl
theorem TBx0 : TB 0 := by unfold TB; intros; kernel_rfl
theorem TCx0 : TC 0 := by unfold TC; intros; kernel_rfl
theorem TDx0 : TD 0 := by unfold TD; intros; kernel_rfl
theorem TJx0x0 : TJ 0 0 := by unfold TJ; intros; kernel_rfl
theorem TJx0x1 : TJ 0 1 := by unfold TJ; intros; kernel_rfl
theorem TJx0x2 : TJ 0 2 := by unfold TJ; intros; kernel_rfl
theorem TJx0x3 : TJ 0 3 := by unfold TJ; intros; kernel_rfl
theorem TJx0x4 : TJ 0 4 := by unfold TJ; intros; kernel_rfl
theorem TEx1 : TE 1 := by unfold TE; intros; kernel_rfl
theorem TAx1 : TA 1 := by unfold TA; intros; kernel_rfl
theorem TBx1 : TB 1 := by unfold TB; intros; kernel_rfl
theorem TCx1 : TC 1 := by unfold TC; intros; kernel_rfl
theorem TDx1 : TD 1 := by unfold TD; intros; kernel_rfl
theorem TJx1x1 : TJ 1 1 := by unfold TJ; intros; kernel_rfl
theorem TJx1x2 : TJ 1 2 := by unfold TJ; intros; kernel_rfl
theorem TJx1x3 : TJ 1 3 := by unfold TJ; intros; kernel_rfl
theorem TJx1x4 : TJ 1 4 := by unfold TJ; intros; kernel_rfl
theorem TEx2 : TE 2 := by unfold TE; intros; kernel_rfl
theorem TAx2 : TA 2 := by unfold TA; intros; kernel_rfl
theorem TBx2 : TB 2 := by unfold TB; intros; kernel_rfl
theorem TCx2 : TC 2 := by unfold TC; intros; kernel_rfl
theorem TDx2 : TD 2 := by unfold TD; intros; kernel_rfl
theorem TJx2x2 : TJ 2 2 := by unfold TJ; intros; kernel_rfl
theorem TJx2x3 : TJ 2 3 := by unfold TJ; intros; kernel_rfl
theorem TJx2x4 : TJ 2 4 := by unfold TJ; intros; kernel_rfl
theorem TEx3 : TE 3 := by unfold TE; intros; kernel_rfl
theorem TAx3 : TA 3 := by unfold TA; intros; kernel_rfl
theorem TBx3 : TB 3 := by unfold TB; intros; kernel_rfl
theorem TCx3 : TC 3 := by unfold TC; intros; kernel_rfl
theorem TDx3 : TD 3 := by unfold TD; intros; kernel_rfl
theorem TJx3x3 : TJ 3 3 := by unfold TJ; intros; kernel_rfl
theorem TJx3x4 : TJ 3 4 := by unfold TJ; intros; kernel_rfl
theorem TEx4 : TE 4 := by unfold TE; intros; kernel_rfl
theorem TAx4 : TA 4 := by unfold TA; intros; kernel_rfl
theorem TBx4 : TB 4 := by unfold TB; intros; kernel_rfl
theorem TCx4 : TC 4 := by unfold TC; intros; kernel_rfl
theorem TDx4 : TD 4 := by unfold TD; intros; kernel_rfl
theorem TJx4x4 : TJ 4 4 := by unfold TJ; intros; kernel_rfl
theorem TEall (i : Nat) (h : i < 5) : TE i := by
  have : i = 0 ∨ i = 1 ∨ i = 2 ∨ i = 3 ∨ i = 4 := by omega
  rcases this with rfl | rfl | rfl | rfl | rfl
  · exact TEx0
  · exact TEx1
  · exact TEx2
  · exact TEx3
  · exact TEx4
theorem TAall (i : Nat) (h : i < 5) : TA i := by
  have : i = 0 ∨ i = 1 ∨ i = 2 ∨ i = 3 ∨ i = 4 := by omega
  rcases this with rfl | rfl | rfl | rfl | rfl
  · exact TAx0
  · exact TAx1
  · exact TAx2
  · exact TAx3
  · exact TAx4
theorem TBall (i : Nat) (h : i < 5) : TB i := by
  have : i = 0 ∨ i = 1 ∨ i = 2 ∨ i = 3 ∨ i = 4 := by omega
  rcases this with rfl | rfl | rfl | rfl | rfl
  · exact TBx0
  · exact TBx1
  · exact TBx2
  · exact TBx3
  · exact TBx4
theorem TCall (i : Nat) (h : i < 5) : TC i := by
  have : i = 0 ∨ i = 1 ∨ i = 2 ∨ i = 3 ∨ i = 4 := by omega
  rcases this with rfl | rfl | rfl | rfl | rfl
  · exact TCx0
  · exact TCx1
  · exact TCx2
  · exact TCx3
  · exact TCx4
theorem TDall (i : Nat) (h : i < 5) : TD i := by
  have : i = 0 ∨ i = 1 ∨ i = 2 ∨ i = 3 ∨ i = 4 := by omega
  rcases this with rfl | rfl | rfl | rfl | rfl
  · exact TDx0
  · exact TDx1
  · exact TDx2
  · exact TDx3
  · exact TDx4
theorem TJall (i j : Nat) (h1 : i ≤ j) (h : j < 5) : TJ i j := by
  have hi : i = 0 ∨ i = 1 ∨ i = 2 ∨ i = 3 ∨ i = 4 := by omega
  have hj : j = 0 ∨ j = 1 ∨ j = 2 ∨ j = 3 ∨ j = 4 := by omega
  rcases hi with rfl | rfl | rfl | rfl | rfl <;> rcases hj with rfl | rfl | rfl | rfl | rfl
  · exact TJx0x0
  · exact TJx0x1
  · exact TJx0x2
  · exact TJx0x3
  · exact TJx0x4
  · exfalso; omega
  · exact TJx1x1
  · exact TJx1x2
  · exact TJx1x3
  · exact TJx1x4
  · exfalso; omega
  · exfalso; omega
  · exact TJx2x2
  · exact TJx2x3
  · exact TJx2x4
  · exfalso; omega
  · exfalso; omega
  · exfalso; omega
  · exact TJx3x3
  · exact TJx3x4
  · exfalso; omega
  · exfalso; omega
  · exfalso; omega
  · exfalso; omega
  · exact TJx4x4

theorem tr31 {ids : List Nat} {c : Code} {fr fr1 : Fr} {st st1 : St} {ex : Ex} {ps : PL} (h : ev31 ids c fr st = some (ex, fr1, st1, ps)) (ha : AllEq ps) : Tr Tryd.prog 1 c fr st ex fr1 st1 :=
  Tr.of_evK callS_ok follows_mix h ha
theorem tlJ_tr (a r o : Nat → Nat) (low high i : Nat) (hi : i < 5) : ∀ n k, k + n = 5 - i → Tr Tryd.prog 1 tlJ (frJ low high i (innT a low high i o k).c (i + k)) (tSt a r (innT a low high i o k).o) (.exit 2) (frI low high i) (tSt a r (innT a low high i o (5 - i)).o) := by
  intro n
  induction n with
  | zero =>
    intro k hk
    have e : i + k = 5 := by omega
    have e2 : k = 5 - i := by omega
    rw [e, ← e2]
    exact .loopCX shapes.2.2.2.2.2.2.2 (by simp) (tr31 (TEall i hi a r _ low high _) trivial)
  | succ n ih =>
    intro k hk
    exact .loopC shapes.2.2.2.2.2.2.2 (tr31 (TJall i (i + k) (by omega) (by omega) a r _ low high _) trivial) (ih (k + 1) (by omega))
theorem bd0_tr (a r o : Nat → Nat) (low high i : Nat) (hi : i < 5) : Tr Tryd.prog 1 bd0 (frI low high i) (tSt a r o) .normal (frI low high (i + 1)) (tSt a r (innT a low high i o (5 - i)).o) := by
  refine .seqC shapes.2.1 (tr31 (TAall i hi a r o low high) trivial) (.seqC shapes.2.2.1 (fr1 := frI low high i) (st1 := tSt a r (innT a low high i o (5 - i)).o) ?_ (tr31 (TDall i hi a r _ low high) trivial))
  refine .blockN shapes.2.2.2.1 ?_
  refine .seqC shapes.2.2.2.2.1 (tr31 (TBall i hi a r o low high) trivial) ?_
  refine .seqC shapes.2.2.2.2.2.1 (tr31 (TCall i hi a r o low high) trivial) ?_
  exact .blockC shapes.2.2.2.2.2.2.1 (tlJ_tr a r o low high i hi (5 - i) 0 (by omega))
theorem tl0_tr (a r : Nat → Nat) (low high : Nat) : ∀ n i, i + n = 5 → Tr Tryd.prog 1 tl0 (frI low high i) (tSt a r (outT a low high i)) (.exit 0) (frOf 61 6 [(4, .ptr 2 0), (5, .ptr 3 0)]) (tSt a r (outT a low high 5)) := by
  intro n
  induction n with
  | zero => intro i hi; have : i = 5 := by omega
            subst this; exact .loopCX shapes.1 (by simp) (tr31 (tI5 ..) trivial)
  | succ n ih => intro i hi; exact .loopC shapes.1 (bd0_tr a r (outT a low high i) low high i (by omega)) (ih (i + 1) (by omega))
theorem body31 (a : Nat → Nat) (n : Nat) : Tr Tryd.prog 1 b31 (mkFr 61 [.agg (row64 5 a), u64A n]) tSt0 .ret (frOf 61 6 [(4, .ptr 2 0)]) (tSt a (timesN a n) (timesN a n)) := by
  refine .seqC shapesD.1 (tr31 (t_a a n) trivial) ?_
  refine .seqC shapesD.2.1 (tr31 (t_b a n) trivial) ?_
  refine .seqC shapesD.2.2.1 (tr31 (t_c a n) trivial) ?_
  refine .seqC shapesD.2.2.2.1 (.seqC shapesD.2.2.2.2.1 (tr31 (t_d a z5 z5 _ _) trivial) (.blockC shapesD.2.2.2.2.2 (tl0_tr a z5 (Lo n) (Hi n) 5 0 rfl))) ?_
  exact tr31 (t_e a z5 _) trivial

def row64V (n : Nat) (g : Nat → Nat) : Array Value := ((List.range n).map fun i => Value.int .u64 (g i : Int)).toArray
theorem ntmps31 : Tryd.f31.ntmps = 61 := by kernel_rfl
theorem body31_is : Tryd.f31.body = some b31 := by kernel_rfl
def ρ0 : Ren := fun i => if i = 0 then some ⟨0, 0, 0⟩ else none
theorem Rel0 (d : Nat) (w : World) : Rel ρ0 ⟨T.full d .dead, d, 1⟩ w := by
  refine ⟨T.Ok_full d _, Nat.one_le_two_pow, ?_, ?_, ?_⟩
  · intro i hi
    have hi' : 1 ≤ i := hi
    simp only [ρ0]; rw [if_neg (by omega)]
  · intro i _ hl
    have hg : (T.full d AO.dead).get i = .dead := T.get_full d _ i
    rw [hg] at hl; cases hl
  · intro i j L M _ _ _ hl
    have hg : (T.full d AO.dead).get i = .dead := T.get_full d _ i
    rw [hg] at hl; cases hl
theorem Glob0 : Glob ρ0 1 := fun g hg => by
  obtain rfl : g = 0 := by omega
  exact ⟨0, rfl⟩
theorem ro0 (d i : Nat) : ((T.full d AO.dead).get i).writable = false := by rw [T.get_full]; rfl

theorem times_calls (w : World) (a : Nat → Nat) (n : Nat) : Calls Tryd.prog 31 #[.agg (row64V 5 a), .int .u64 (n : Int)] w fun e w' => e = .returned (.agg (row64V 5 (timesN a n))) ∧ Below w.heap.size w w' := by
  have hA : VRs ρ0 [.agg (row64 5 a), u64A n] (#[.agg (row64V 5 a), .int .u64 (n : Int)] : Array Value).toList := .cons (.agg _ _ (VRs_ofInts a .u64 (List.range 5))) (.cons (.int .u64 (n : Int)) .nil)
  have hcalls := calls_of_Tr (f := 31) Tryd.func31 body31_is (args := [.agg (row64 5 a), u64A n]) (by rw [ntmps31]; show (2 : Nat) ≤ 61; omega) (by rw [ntmps31]; decide) (by rw [ntmps31]; exact body31 a n) (.inr rfl) (t_res a (timesN a n)) (Rel0 3 w) Glob0 hA
  refine hcalls.mono ?_
  rintro e w' ⟨vc, ρ', rfl, hv, hg⟩
  refine ⟨?_, below_of_Wx (hg.Wx fun i _ => ro0 3 i)⟩
  have hv' : VR ρ' (.agg (row64 5 (timesN a n))) vc := hv
  generalize timesN a n = g at hv' ⊢
  cases hv' with | agg _ x ha =>
  have := VRs_ints g .u64 (List.range 5) _ ha
  obtain ⟨al⟩ := x
  simp only at this
  subst this
  rfl
end
end Go.Ev
