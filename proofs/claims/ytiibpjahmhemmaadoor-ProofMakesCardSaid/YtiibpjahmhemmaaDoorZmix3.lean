/-
  proof.mix: its loops, and its body.
  proof.mix: its body.
-/
import Derived.Test.YtiibpjahmhemmaaDoorZmix
namespace Go.Ev
open Go Go.Proofs
set_option maxRecDepth 100000
noncomputable section

theorem follows_mix : Tryd.prog.follows .mixedOrders = true := by kernel_rfl

def frE : Fr := frOf 192 8 [(2, .ptr 2 0), (4, .ptr 3 0), (5, .ptr 4 0)]
def frE4 : Fr := frOf 192 8 [(4, .ptr 3 0)]

theorem is0 : isLoop loop0 = true := by kernel_rfl
theorem is4 : isLoop loop4 = true := by kernel_rfl
theorem is6 : isLoop loop6 = true := by kernel_rfl
theorem is8 : isLoop loop8 = true := by kernel_rfl
theorem end0 (K W h r : Nat → Nat) (m cap : Nat) : ev22 [2, 4, 5] (cA loop0) (fr0 cap 16) (mixSt K W m h r) = some (.exit 0, frE, mixSt K W m h r, []) := by kernel_rfl
theorem end4 (K W h r : Nat → Nat) (m : Nat) : ev22 [2, 4, 5] (cA loop4) (fr4 64) (mixSt K W m h r) = some (.exit 4, frE, mixSt K W m h r, []) := by kernel_rfl
theorem end6 (K W h r : Nat → Nat) (m a b c d e f g hh : Nat) : ev22 ids6 (cA loop6) (fr6 64 ⟨a, b, c, d, e, f, g, hh⟩) (mixSt K W m h r) = some (.exit 6, fr6 64 ⟨a, b, c, d, e, f, g, hh⟩, mixSt K W m h r, []) := by kernel_rfl
theorem end8 (K W h r x : Nat → Nat) (m : Nat) : ev22 [2, 4] (cA loop8) (fr8 8 x) (mixSt K W m h r) = some (.exit 8, frOf 192 8 [(2, .ptr 2 0), (4, .ptr 3 0)], mixSt K W m h r, []) := by kernel_rfl
theorem in5_seq : isSeq in5 = true ∧ isSeq (cB in5) = true ∧ isSeq (cB (cB in5)) = true := by refine ⟨?_, ?_, ?_⟩ <;> kernel_rfl
theorem bd4_seq : isSeq (cA loop4) = true ∧ isSeq (cB (cA loop4)) = true := by refine ⟨?_, ?_⟩ <;> kernel_rfl
theorem blk5_is : isBlock 5 blk5 = true := by kernel_rfl

theorem Tr.blockN {P : Program} {G : Nat} {c : Code} {fr fr1 : Fr} {st st1 : St} {id : Nat} (hc : isBlock id c = true) (h1 : Tr P G (cA c) fr st .normal fr1 st1) : Tr P G c fr st .normal fr1 st1 := by
  cases c <;> simp [isBlock] at hc
  exact Tr.block h1

section
variable (hcall : CallOk Tryd.prog 1 callS)
include hcall

theorem tr22 {ids : List Nat} {c : Code} {fr fr1 : Fr} {st st1 : St} {ex : Ex} {ps : PL} (h : ev22 ids c fr st = some (ex, fr1, st1, ps)) (ha : AllEq ps) : Tr Tryd.prog 1 c fr st ex fr1 st1 :=
  Tr.of_evK hcall follows_mix h ha

theorem loop0_tr (K h r : Nat → Nat) (m cap : Nat) : ∀ k t, t + k = 16 → Tr Tryd.prog 1 loop0 (fr0 cap t) (mixSt K (ldAll m t) m h r) (.exit 0) frE (mixSt K (ldAll m 16) m h r) := by
  intro k
  induction k with
  | zero => intro t ht; have : t = 16 := by omega
            subst this; exact .loopCX is0 (by simp) (tr22 hcall (end0 ..) trivial)
  | succ k ih => intro t ht; exact .loopC is0 (tr22 hcall (Q0_all t (by omega) (by omega) K (ldAll m t) h r m cap) trivial) (ih (t + 1) (by omega))

theorem turn4 (K W h r : Nat → Nat) (m t : Nat) (h1 : 16 ≤ t) (h2 : t < 64) : Tr Tryd.prog 1 (cA loop4) (fr4 t) (mixSt K W m h r) .normal (fr4 (t + 1)) (mixSt K (updN W t (exw W t)) m h r) := by
  refine .seqC bd4_seq.1 (tr22 hcall (Q4a_all t h1 h2 K W h r m) trivial) (.seqC bd4_seq.2 (fr1 := fr4 t) (st1 := mixSt K (updN W t (exw W t)) m h r) ?_ (tr22 hcall (Q4f_all t h1 h2 K _ h r m) trivial))
  refine .blockN blk5_is ?_
  refine .seqC in5_seq.1 (tr22 hcall (Q4b_all t h1 h2 K W h r m) trivial) ?_
  refine .seqC in5_seq.2.1 (tr22 hcall (Q4c_any t K W h r m _ _) trivial) ?_
  refine .seqC in5_seq.2.2 (tr22 hcall (Q4d_any t K W h r m _ _) trivial) ?_
  exact tr22 hcall (Q4e_all t h1 h2 K W h r m _ _) trivial

theorem loop4_tr (K W h r : Nat → Nat) (m : Nat) : ∀ k j, j + k = 48 → Tr Tryd.prog 1 loop4 (fr4 (16 + j)) (mixSt K (exAll W j) m h r) (.exit 4) frE (mixSt K (exAll W 48) m h r) := by
  intro k
  induction k with
  | zero => intro j hj; have : j = 48 := by omega
            subst this; exact .loopCX is4 (by simp) (tr22 hcall (end4 ..) trivial)
  | succ k ih => intro j hj; exact .loopC is4 (turn4 hcall K (exAll W j) h r m (16 + j) (by omega) (by omega)) (ih (j + 1) (by omega))

theorem loop6_tr (K W h r : Nat → Nat) (m : Nat) (s : S8) : ∀ k t, t + k = 64 → Tr Tryd.prog 1 loop6 (fr6 t (rnds K W s t)) (mixSt K W m h r) (.exit 6) (fr6 64 (rnds K W s 64)) (mixSt K W m h r) := by
  intro k
  induction k with
  | zero => intro t ht; have : t = 64 := by omega
            subst this; exact .loopCX is6 (by simp) (tr22 hcall (end6 K W h r m _ _ _ _ _ _ _ _) trivial)
  | succ k ih => intro t ht; exact .loopC is6 (tr22 hcall (Q6_all t (by omega) (by omega) K W h r m _ _ _ _ _ _ _ _) ⟨rfl, rfl, rfl, rfl, rfl, rfl, trivial⟩) (ih (t + 1) (by omega))

theorem loop8_tr (K W h r x : Nat → Nat) (m : Nat) : ∀ k t, t + k = 8 → Tr Tryd.prog 1 loop8 (fr8 t x) (mixSt K W m (finAll h x t) r) (.exit 8) (frOf 192 8 [(2, .ptr 2 0), (4, .ptr 3 0)]) (mixSt K W m (finAll h x 8) r) := by
  intro k
  induction k with
  | zero => intro t ht; have : t = 8 := by omega
            subst this; exact .loopCX is8 (by simp) (tr22 hcall (end8 ..) trivial)
  | succ k ih => intro t ht; exact .loopC is8 (tr22 hcall (Q8_all t (by omega) (by omega) K W (finAll h x t) r x m) trivial) (ih (t + 1) (by omega))
end
end
end Go.Ev

namespace Go.Ev
open Go Go.Proofs
set_option maxRecDepth 100000
noncomputable section

def mixSt1 (K : Nat → Nat) (m : Nat) (h : Nat → Nat) : St :=
  ⟨(((((T.full 3 .dead).set 0 (roCells (row32 64 K))).set 1 (.bytes false 64 m)).set 2 (mkCells (row32 8 h))).set 3 (mkCells (row32 8 fun _ => 0))), 3, 4⟩
def sl (cap : Nat) : Nat × AV := (1, .slice 1 0 64 cap 0)
def pr2 : Nat × AV := (2, .ptr 2 0)
def pr4 : Nat × AV := (4, .ptr 3 0)
def pr5 : Nat × AV := (5, .ptr 4 0)
def z8 : Nat → Nat := fun _ => 0

theorem seqs : isSeq (d22 0) = true ∧ isSeq (d22 1) = true ∧ isSeq (d22 2) = true ∧ isSeq (d22 3) = true ∧ isSeq (d22 4) = true ∧ isSeq (d22 5) = true ∧ isSeq (d22 6) = true ∧ isSeq (d22 7) = true := by
  refine ⟨?_, ?_, ?_, ?_, ?_, ?_, ?_, ?_⟩ <;> kernel_rfl
theorem seqsA : isSeq (cA (d22 2)) = true ∧ isSeq (cA (d22 3)) = true ∧ isSeq (cA (d22 5)) = true ∧ isSeq (cA (d22 6)) = true := by
  refine ⟨?_, ?_, ?_, ?_⟩ <;> kernel_rfl
theorem blks : isBlock 0 (cB (cA (d22 2))) = true ∧ isBlock 4 (cB (cA (d22 3))) = true ∧ isBlock 6 (cB (cA (d22 5))) = true ∧ isBlock 8 (cB (cA (d22 6))) = true := by
  refine ⟨?_, ?_, ?_, ?_⟩ <;> kernel_rfl

theorem g0 (K h : Nat → Nat) (m cap : Nat) : ev22 [1, 2, 4] (cA (d22 0)) (mkFr 192 [.agg (row32 8 h), .slice 1 0 64 cap 0]) (mixSt0 K m) = some (.normal, frOf 192 8 [sl cap, pr2, pr4], mixSt1 K m h, []) := by kernel_rfl
theorem g1 (K h : Nat → Nat) (m cap : Nat) : ev22 [1, 2, 4, 5] (cA (d22 1)) (frOf 192 8 [sl cap, pr2, pr4]) (mixSt1 K m h) = some (.normal, frOf 192 8 [sl cap, pr2, pr4, pr5], mixSt K (ldAll m 0) m h z8, []) := by kernel_rfl
theorem g2 (K h : Nat → Nat) (m cap : Nat) : ev22 ids0 (cA (cA (d22 2))) (frOf 192 8 [sl cap, pr2, pr4, pr5]) (mixSt K (ldAll m 0) m h z8) = some (.normal, fr0 cap 0, mixSt K (ldAll m 0) m h z8, []) := by kernel_rfl
theorem g3 (K W h : Nat → Nat) (m : Nat) : ev22 ids4 (cA (cA (d22 3))) frE (mixSt K W m h z8) = some (.normal, fr4 16, mixSt K W m h z8, []) := by kernel_rfl
theorem g4 (K W h : Nat → Nat) (m : Nat) : ev22 [2, 4, 5, 13, 14, 15, 16, 17, 18, 19, 20] (cA (d22 4)) frE (mixSt K W m h z8) = some (.normal, frOf 192 8 [pr2, pr4, pr5, (13, u32A (h 0)), (14, u32A (h 1)), (15, u32A (h 2)), (16, u32A (h 3)), (17, u32A (h 4)), (18, u32A (h 5)), (19, u32A (h 6)), (20, u32A (h 7))], mixSt K W m h z8, []) := by kernel_rfl
theorem g5 (K W h : Nat → Nat) (m : Nat) : ev22 ids6 (cA (cA (d22 5))) (frOf 192 8 [pr2, pr4, pr5, (13, u32A (h 0)), (14, u32A (h 1)), (15, u32A (h 2)), (16, u32A (h 3)), (17, u32A (h 4)), (18, u32A (h 5)), (19, u32A (h 6)), (20, u32A (h 7))]) (mixSt K W m h z8) = some (.normal, fr6 0 (toS8 h), mixSt K W m h z8, []) := by kernel_rfl
theorem g6 (K W h : Nat → Nat) (m a b c d e f g hh : Nat) : ev22 ids8 (cA (cA (d22 6))) (fr6 64 ⟨a, b, c, d, e, f, g, hh⟩) (mixSt K W m h z8) = some (.normal, fr8 0 (S8.get ⟨a, b, c, d, e, f, g, hh⟩), mixSt K W m h z8, []) := by kernel_rfl
theorem g7 (K W h : Nat → Nat) (m : Nat) : ev22 [4] (d22 7) (frOf 192 8 [(2, .ptr 2 0), (4, .ptr 3 0)]) (mixSt K W m h z8) = some (.ret, frE4, mixSt K W m h h, []) := by kernel_rfl

theorem body22 (hcall : CallOk Tryd.prog 1 callS) (K h : Nat → Nat) (m cap : Nat) :
    Tr Tryd.prog 1 b22 (mkFr 192 [.agg (row32 8 h), .slice 1 0 64 cap 0]) (mixSt0 K m) .ret frE4 (mixSt K (wAll m) m (mixS K h m) (mixS K h m)) := by
  refine .seqC seqs.1 (tr22 hcall (g0 K h m cap) trivial) ?_
  refine .seqC seqs.2.1 (tr22 hcall (g1 K h m cap) trivial) ?_
  refine .seqC seqs.2.2.1 (.seqC seqsA.1 (tr22 hcall (g2 K h m cap) trivial) (.blockC blks.1 (loop0_tr hcall K h z8 m cap 16 0 rfl))) ?_
  refine .seqC seqs.2.2.2.1 (.seqC seqsA.2.1 (tr22 hcall (g3 K (ldAll m 16) h m) trivial) (.blockC blks.2.1 (loop4_tr hcall K (ldAll m 16) h z8 m 48 0 rfl))) ?_
  refine .seqC seqs.2.2.2.2.1 (tr22 hcall (g4 K (wAll m) h m) trivial) ?_
  refine .seqC seqs.2.2.2.2.2.1 (.seqC seqsA.2.2.1 (tr22 hcall (g5 K (wAll m) h m) trivial) (.blockC blks.2.2.1 (loop6_tr hcall K (wAll m) h z8 m (toS8 h) 64 0 rfl))) ?_
  refine .seqC seqs.2.2.2.2.2.2.1 (.seqC seqsA.2.2.2 (tr22 hcall (g6 K (wAll m) h m _ _ _ _ _ _ _ _) trivial) (.blockC blks.2.2.2 (loop8_tr hcall K (wAll m) h z8 _ m 8 0 rfl))) ?_
  exact tr22 hcall (g7 K (wAll m) _ m) trivial
end
end Go.Ev
