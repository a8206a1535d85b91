/-
  proof.mix: its loops, and its body.
-/
import Derived.Test.YtiibpjahmhemmaaDoorZmix
namespace Go.Ev
open Go Go.Proofs
set_option maxRecDepth 100000
noncomputable section

theorem follows_mix : Tryd.prog.follows .mixedOrders = true := by kernel_rfl

def frE : Fr := frOf 192 8 [(2, .ptr 2 0), (4, .ptr 3 0), (5, .ptr 4 0)]
def frE4 : Fr := frOf 192 8 [(4, .ptr 3 0)]

theorem is0 : isLoop loop0 = true := by kernel_rfl
theorem is4 : isLoop loop4 = true := by kernel_rfl
theorem is6 : isLoop loop6 = true := by kernel_rfl
theorem is8 : isLoop loop8 = true := by kernel_rfl
theorem end0 (K W h r : Nat → Nat) (m cap : Nat) : ev22 [2, 4, 5] (cA loop0) (fr0 cap 16) (mixSt K W m h r) = some (.exit 0, frE, mixSt K W m h r, []) := by kernel_rfl
theorem end4 (K W h r : Nat → Nat) (m : Nat) : ev22 [2, 4, 5] (cA loop4) (fr4 64) (mixSt K W m h r) = some (.exit 4, frE, mixSt K W m h r, []) := by kernel_rfl
theorem end6 (K W h r : Nat → Nat) (m a b c d e f g hh : Nat) : ev22 ids6 (cA loop6) (fr6 64 ⟨a, b, c, d, e, f, g, hh⟩) (mixSt K W m h r) = some (.exit 6, fr6 64 ⟨a, b, c, d, e, f, g, hh⟩, mixSt K W m h r, []) := by kernel_rfl
theorem end8 (K W h r x : Nat → Nat) (m : Nat) : ev22 [2, 4] (cA loop8) (fr8 8 x) (mixSt K W m h r) = some (.exit 8, frOf 192 8 [(2, .ptr 2 0), (4, .ptr 3 0)], mixSt K W m h r, []) := by kernel_rfl
theorem in5_seq : isSeq in5 = true ∧ isSeq (cB in5) = true ∧ isSeq (cB (cB in5)) = true := by refine ⟨?_, ?_, ?_⟩ <;> kernel_rfl
theorem bd4_seq : isSeq (cA loop4) = true ∧ isSeq (cB (cA loop4)) = true := by refine ⟨?_, ?_⟩ <;> kernel_rfl
theorem blk5_is : isBlock 5 blk5 = true := by kernel_rfl

theorem Tr.blockN {P : Program} {G : Nat} {c : Code} {fr fr1 : Fr} {st st1 : St} {id : Nat} (hc : isBlock id c = true) (h1 : Tr P G (cA c) fr st .normal fr1 st1) : Tr P G c fr st .normal fr1 st1 := by
  cases c <;> simp [isBlock] at hc
  exact Tr.block h1

section
variable (hcall : CallOk Tryd.prog 1 callS)
include hcall

theorem tr22 {ids : List Nat} {c : Code} {fr fr1 : Fr} {st st1 : St} {ex : Ex} {ps : PL} (h : ev22 ids c fr st = some (ex, fr1, st1, ps)) (ha : AllEq ps) : Tr Tryd.prog 1 c fr st ex fr1 st1 :=
  Tr.of_evK hcall follows_mix h ha

theorem loop0_tr (K h r : Nat → Nat) (m cap : Nat) : ∀ k t, t + k = 16 → Tr Tryd.prog 1 loop0 (fr0 cap t) (mixSt K (ldAll m t) m h r) (.exit 0) frE (mixSt K (ldAll m 16) m h r) := by
  intro k
  induction k with
  | zero => intro t ht; have : t = 16 := by omega
            subst this; exact .loopCX is0 (by simp) (tr22 hcall (end0 ..) trivial)
  | succ k ih => intro t ht; exact .loopC is0 (tr22 hcall (Q0_all t (by omega) (by omega) K (ldAll m t) h r m cap) trivial) (ih (t + 1) (by omega))

theorem turn4 (K W h r : Nat → Nat) (m t : Nat) (h1 : 16 ≤ t) (h2 : t < 64) : Tr Tryd.prog 1 (cA loop4) (fr4 t) (mixSt K W m h r) .normal (fr4 (t + 1)) (mixSt K (updN W t (exw W t)) m h r) := by
  refine .seqC bd4_seq.1 (tr22 hcall (Q4a_all t h1 h2 K W h r m) trivial) (.seqC bd4_seq.2 (fr1 := fr4 t) (st1 := mixSt K (updN W t (exw W t)) m h r) ?_ (tr22 hcall (Q4f_all t h1 h2 K _ h r m) trivial))
  refine .blockN blk5_is ?_
  refine .seqC in5_seq.1 (tr22 hcall (Q4b_all t h1 h2 K W h r m) trivial) ?_
  refine .seqC in5_seq.2.1 (tr22 hcall (Q4c_any t K W h r m _ _) trivial) ?_
  refine .seqC in5_seq.2.2 (tr22 hcall (Q4d_any t K W h r m _ _) trivial) ?_
  exact tr22 hcall (Q4e_all t h1 h2 K W h r m _ _) trivial

theorem loop4_tr (K W h r : Nat → Nat) (m : Nat) : ∀ k j, j + k = 48 → Tr Tryd.prog 1 loop4 (fr4 (16 + j)) (mixSt K (exAll W j) m h r) (.exit 4) frE (mixSt K (exAll W 48) m h r) := by
  intro k
  induction k with
  | zero => intro j hj; have : j = 48 := by omega
            subst this; exact .loopCX is4 (by simp) (tr22 hcall (end4 ..) trivial)
  | succ k ih => intro j hj; exact .loopC is4 (turn4 hcall K (exAll W j) h r m (16 + j) (by omega) (by omega)) (ih (j + 1) (by omega))

theorem loop6_tr (K W h r : Nat → Nat) (m : Nat) (s : S8) : ∀ k t, t + k = 64 → Tr Tryd.prog 1 loop6 (fr6 t (rnds K W s t)) (mixSt K W m h r) (.exit 6) (fr6 64 (rnds K W s 64)) (mixSt K W m h r) := by
  intro k
  induction k with
  | zero => intro t ht; have : t = 64 := by omega
            subst this; exact .loopCX is6 (by simp) (tr22 hcall (end6 K W h r m _ _ _ _ _ _ _ _) trivial)
  | succ k ih => intro t ht; exact .loopC is6 (tr22 hcall (Q6_all t (by omega) (by omega) K W h r m _ _ _ _ _ _ _ _) ⟨rfl, rfl, rfl, rfl, rfl, rfl, trivial⟩) (ih (t + 1) (by omega))

theorem loop8_tr (K W h r x : Nat → Nat) (m : Nat) : ∀ k t, t + k = 8 → Tr Tryd.prog 1 loop8 (fr8 t x) (mixSt K W m (finAll h x t) r) (.exit 8) (frOf 192 8 [(2, .ptr 2 0), (4, .ptr 3 0)]) (mixSt K W m (finAll h x 8) r) := by
  intro k
  induction k with
  | zero => intro t ht; have : t = 8 := by omega
            subst this; exact .loopCX is8 (by simp) (tr22 hcall (end8 ..) trivial)
  | succ k ih => intro t ht; exact .loopC is8 (tr22 hcall (Q8_all t (by omega) (by omega) K W (finAll h x t) r x m) trivial) (ih (t + 1) (by omega))
end
end
end Go.Ev
