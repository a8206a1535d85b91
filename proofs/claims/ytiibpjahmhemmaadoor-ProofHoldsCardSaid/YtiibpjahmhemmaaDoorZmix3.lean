/-
  proof.mix: its body.
-/
import Derived.Test.YtiibpjahmhemmaaDoorZmix2
namespace Go.Ev
open Go Go.Proofs
set_option maxRecDepth 100000
noncomputable section

def mixSt1 (K : Nat → Nat) (m : Nat) (h : Nat → Nat) : St :=
  ⟨(((((T.full 3 .dead).set 0 (roCells (row32 64 K))).set 1 (.bytes false 64 m)).set 2 (mkCells (row32 8 h))).set 3 (mkCells (row32 8 fun _ => 0))), 3, 4⟩
def sl (cap : Nat) : Nat × AV := (1, .slice 1 0 64 cap 0)
def pr2 : Nat × AV := (2, .ptr 2 0)
def pr4 : Nat × AV := (4, .ptr 3 0)
def pr5 : Nat × AV := (5, .ptr 4 0)
def z8 : Nat → Nat := fun _ => 0

theorem seqs : isSeq (d22 0) = true ∧ isSeq (d22 1) = true ∧ isSeq (d22 2) = true ∧ isSeq (d22 3) = true ∧ isSeq (d22 4) = true ∧ isSeq (d22 5) = true ∧ isSeq (d22 6) = true ∧ isSeq (d22 7) = true := by
  refine ⟨?_, ?_, ?_, ?_, ?_, ?_, ?_, ?_⟩ <;> kernel_rfl
theorem seqsA : isSeq (cA (d22 2)) = true ∧ isSeq (cA (d22 3)) = true ∧ isSeq (cA (d22 5)) = true ∧ isSeq (cA (d22 6)) = true := by
  refine ⟨?_, ?_, ?_, ?_⟩ <;> kernel_rfl
theorem blks : isBlock 0 (cB (cA (d22 2))) = true ∧ isBlock 4 (cB (cA (d22 3))) = true ∧ isBlock 6 (cB (cA (d22 5))) = true ∧ isBlock 8 (cB (cA (d22 6))) = true := by
  refine ⟨?_, ?_, ?_, ?_⟩ <;> kernel_rfl

theorem g0 (K h : Nat → Nat) (m cap : Nat) : ev22 [1, 2, 4] (cA (d22 0)) (mkFr 192 [.agg (row32 8 h), .slice 1 0 64 cap 0]) (mixSt0 K m) = some (.normal, frOf 192 8 [sl cap, pr2, pr4], mixSt1 K m h, []) := by kernel_rfl
theorem g1 (K h : Nat → Nat) (m cap : Nat) : ev22 [1, 2, 4, 5] (cA (d22 1)) (frOf 192 8 [sl cap, pr2, pr4]) (mixSt1 K m h) = some (.normal, frOf 192 8 [sl cap, pr2, pr4, pr5], mixSt K (ldAll m 0) m h z8, []) := by kernel_rfl
theorem g2 (K h : Nat → Nat) (m cap : Nat) : ev22 ids0 (cA (cA (d22 2))) (frOf 192 8 [sl cap, pr2, pr4, pr5]) (mixSt K (ldAll m 0) m h z8) = some (.normal, fr0 cap 0, mixSt K (ldAll m 0) m h z8, []) := by kernel_rfl
theorem g3 (K W h : Nat → Nat) (m : Nat) : ev22 ids4 (cA (cA (d22 3))) frE (mixSt K W m h z8) = some (.normal, fr4 16, mixSt K W m h z8, []) := by kernel_rfl
theorem g4 (K W h : Nat → Nat) (m : Nat) : ev22 [2, 4, 5, 13, 14, 15, 16, 17, 18, 19, 20] (cA (d22 4)) frE (mixSt K W m h z8) = some (.normal, frOf 192 8 [pr2, pr4, pr5, (13, u32A (h 0)), (14, u32A (h 1)), (15, u32A (h 2)), (16, u32A (h 3)), (17, u32A (h 4)), (18, u32A (h 5)), (19, u32A (h 6)), (20, u32A (h 7))], mixSt K W m h z8, []) := by kernel_rfl
theorem g5 (K W h : Nat → Nat) (m : Nat) : ev22 ids6 (cA (cA (d22 5))) (frOf 192 8 [pr2, pr4, pr5, (13, u32A (h 0)), (14, u32A (h 1)), (15, u32A (h 2)), (16, u32A (h 3)), (17, u32A (h 4)), (18, u32A (h 5)), (19, u32A (h 6)), (20, u32A (h 7))]) (mixSt K W m h z8) = some (.normal, fr6 0 (toS8 h), mixSt K W m h z8, []) := by kernel_rfl
theorem g6 (K W h : Nat → Nat) (m a b c d e f g hh : Nat) : ev22 ids8 (cA (cA (d22 6))) (fr6 64 ⟨a, b, c, d, e, f, g, hh⟩) (mixSt K W m h z8) = some (.normal, fr8 0 (S8.get ⟨a, b, c, d, e, f, g, hh⟩), mixSt K W m h z8, []) := by kernel_rfl
theorem g7 (K W h : Nat → Nat) (m : Nat) : ev22 [4] (d22 7) (frOf 192 8 [(2, .ptr 2 0), (4, .ptr 3 0)]) (mixSt K W m h z8) = some (.ret, frE4, mixSt K W m h h, []) := by kernel_rfl

theorem body22 (hcall : CallOk Tryd.prog 1 callS) (K h : Nat → Nat) (m cap : Nat) :
    Tr Tryd.prog 1 b22 (mkFr 192 [.agg (row32 8 h), .slice 1 0 64 cap 0]) (mixSt0 K m) .ret frE4 (mixSt K (wAll m) m (mixS K h m) (mixS K h m)) := by
  refine .seqC seqs.1 (tr22 hcall (g0 K h m cap) trivial) ?_
  refine .seqC seqs.2.1 (tr22 hcall (g1 K h m cap) trivial) ?_
  refine .seqC seqs.2.2.1 (.seqC seqsA.1 (tr22 hcall (g2 K h m cap) trivial) (.blockC blks.1 (loop0_tr hcall K h z8 m cap 16 0 rfl))) ?_
  refine .seqC seqs.2.2.2.1 (.seqC seqsA.2.1 (tr22 hcall (g3 K (ldAll m 16) h m) trivial) (.blockC blks.2.1 (loop4_tr hcall K (ldAll m 16) h z8 m 48 0 rfl))) ?_
  refine .seqC seqs.2.2.2.2.1 (tr22 hcall (g4 K (wAll m) h m) trivial) ?_
  refine .seqC seqs.2.2.2.2.2.1 (.seqC seqsA.2.2.1 (tr22 hcall (g5 K (wAll m) h m) trivial) (.blockC blks.2.2.1 (loop6_tr hcall K (wAll m) h z8 m (toS8 h) 64 0 rfl))) ?_
  refine .seqC seqs.2.2.2.2.2.2.1 (.seqC seqsA.2.2.2 (tr22 hcall (g6 K (wAll m) h m _ _ _ _ _ _ _ _) trivial) (.blockC blks.2.2.2 (loop8_tr hcall K (wAll m) h z8 _ m 8 0 rfl))) ?_
  exact tr22 hcall (g7 K (wAll m) _ m) trivial
end
end Go.Ev
