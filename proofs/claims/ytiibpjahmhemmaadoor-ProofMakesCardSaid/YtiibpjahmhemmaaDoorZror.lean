/-
  proof.ror and chanceryref28.ror: calls that are met.
-/
import Derived.Test.YtiibpjahmhemmaaDoorZmix3
import Derived.Test.YtiibpjahmhemmaaDoorEvX
import Derived.Test.YtiibpjahmhemmaaDoorBw
namespace Go.Ev
open Go Go.Proofs
set_option maxRecDepth 100000
noncomputable section

def rorR (x n : Nat) : Nat := O32 (R32 x n) (Nat.mod (Nat.mul x (2 ^ (32 - n))) 4294967296)
theorem rorR_eq (x n : Nat) : rorR x n = rorS x n := by
  unfold rorR rorS O32
  exact congrArg (fun z => Nat.mod z 4294967296) (Nat.or_comm _ _)

theorem rorA1 (x : Nat) (st : St) : evCall Tryd.prog 1 20 30 [.int .u32 (.ofNat x), .int .i64 (.ofNat 1)] st = some (.int .u32 (.ofNat (rorS x 1)), st) := by kernel_rfl
theorem rorB1 (x : Nat) (st : St) : evCall Tryd.prog 1 20 27 [.int .u32 (.ofNat x), .int .u64 (.ofNat 1)] st = some (.int .u32 (.ofNat (rorR x 1)), st) := by kernel_rfl
theorem rorA2 (x : Nat) (st : St) : evCall Tryd.prog 1 20 30 [.int .u32 (.ofNat x), .int .i64 (.ofNat 2)] st = some (.int .u32 (.ofNat (rorS x 2)), st) := by kernel_rfl
theorem rorB2 (x : Nat) (st : St) : evCall Tryd.prog 1 20 27 [.int .u32 (.ofNat x), .int .u64 (.ofNat 2)] st = some (.int .u32 (.ofNat (rorR x 2)), st) := by kernel_rfl
theorem rorA3 (x : Nat) (st : St) : evCall Tryd.prog 1 20 30 [.int .u32 (.ofNat x), .int .i64 (.ofNat 3)] st = some (.int .u32 (.ofNat (rorS x 3)), st) := by kernel_rfl
theorem rorB3 (x : Nat) (st : St) : evCall Tryd.prog 1 20 27 [.int .u32 (.ofNat x), .int .u64 (.ofNat 3)] st = some (.int .u32 (.ofNat (rorR x 3)), st) := by kernel_rfl
theorem rorA4 (x : Nat) (st : St) : evCall Tryd.prog 1 20 30 [.int .u32 (.ofNat x), .int .i64 (.ofNat 4)] st = some (.int .u32 (.ofNat (rorS x 4)), st) := by kernel_rfl
theorem rorB4 (x : Nat) (st : St) : evCall Tryd.prog 1 20 27 [.int .u32 (.ofNat x), .int .u64 (.ofNat 4)] st = some (.int .u32 (.ofNat (rorR x 4)), st) := by kernel_rfl
theorem rorA5 (x : Nat) (st : St) : evCall Tryd.prog 1 20 30 [.int .u32 (.ofNat x), .int .i64 (.ofNat 5)] st = some (.int .u32 (.ofNat (rorS x 5)), st) := by kernel_rfl
theorem rorB5 (x : Nat) (st : St) : evCall Tryd.prog 1 20 27 [.int .u32 (.ofNat x), .int .u64 (.ofNat 5)] st = some (.int .u32 (.ofNat (rorR x 5)), st) := by kernel_rfl
theorem rorA6 (x : Nat) (st : St) : evCall Tryd.prog 1 20 30 [.int .u32 (.ofNat x), .int .i64 (.ofNat 6)] st = some (.int .u32 (.ofNat (rorS x 6)), st) := by kernel_rfl
theorem rorB6 (x : Nat) (st : St) : evCall Tryd.prog 1 20 27 [.int .u32 (.ofNat x), .int .u64 (.ofNat 6)] st = some (.int .u32 (.ofNat (rorR x 6)), st) := by kernel_rfl
theorem rorA7 (x : Nat) (st : St) : evCall Tryd.prog 1 20 30 [.int .u32 (.ofNat x), .int .i64 (.ofNat 7)] st = some (.int .u32 (.ofNat (rorS x 7)), st) := by kernel_rfl
theorem rorB7 (x : Nat) (st : St) : evCall Tryd.prog 1 20 27 [.int .u32 (.ofNat x), .int .u64 (.ofNat 7)] st = some (.int .u32 (.ofNat (rorR x 7)), st) := by kernel_rfl
theorem rorA8 (x : Nat) (st : St) : evCall Tryd.prog 1 20 30 [.int .u32 (.ofNat x), .int .i64 (.ofNat 8)] st = some (.int .u32 (.ofNat (rorS x 8)), st) := by kernel_rfl
theorem rorB8 (x : Nat) (st : St) : evCall Tryd.prog 1 20 27 [.int .u32 (.ofNat x), .int .u64 (.ofNat 8)] st = some (.int .u32 (.ofNat (rorR x 8)), st) := by kernel_rfl
theorem rorA9 (x : Nat) (st : St) : evCall Tryd.prog 1 20 30 [.int .u32 (.ofNat x), .int .i64 (.ofNat 9)] st = some (.int .u32 (.ofNat (rorS x 9)), st) := by kernel_rfl
theorem rorB9 (x : Nat) (st : St) : evCall Tryd.prog 1 20 27 [.int .u32 (.ofNat x), .int .u64 (.ofNat 9)] st = some (.int .u32 (.ofNat (rorR x 9)), st) := by kernel_rfl
theorem rorA10 (x : Nat) (st : St) : evCall Tryd.prog 1 20 30 [.int .u32 (.ofNat x), .int .i64 (.ofNat 10)] st = some (.int .u32 (.ofNat (rorS x 10)), st) := by kernel_rfl
theorem rorB10 (x : Nat) (st : St) : evCall Tryd.prog 1 20 27 [.int .u32 (.ofNat x), .int .u64 (.ofNat 10)] st = some (.int .u32 (.ofNat (rorR x 10)), st) := by kernel_rfl
theorem rorA11 (x : Nat) (st : St) : evCall Tryd.prog 1 20 30 [.int .u32 (.ofNat x), .int .i64 (.ofNat 11)] st = some (.int .u32 (.ofNat (rorS x 11)), st) := by kernel_rfl
theorem rorB11 (x : Nat) (st : St) : evCall Tryd.prog 1 20 27 [.int .u32 (.ofNat x), .int .u64 (.ofNat 11)] st = some (.int .u32 (.ofNat (rorR x 11)), st) := by kernel_rfl
theorem rorA12 (x : Nat) (st : St) : evCall Tryd.prog 1 20 30 [.int .u32 (.ofNat x), .int .i64 (.ofNat 12)] st = some (.int .u32 (.ofNat (rorS x 12)), st) := by kernel_rfl
theorem rorB12 (x : Nat) (st : St) : evCall Tryd.prog 1 20 27 [.int .u32 (.ofNat x), .int .u64 (.ofNat 12)] st = some (.int .u32 (.ofNat (rorR x 12)), st) := by kernel_rfl
theorem rorA13 (x : Nat) (st : St) : evCall Tryd.prog 1 20 30 [.int .u32 (.ofNat x), .int .i64 (.ofNat 13)] st = some (.int .u32 (.ofNat (rorS x 13)), st) := by kernel_rfl
theorem rorB13 (x : Nat) (st : St) : evCall Tryd.prog 1 20 27 [.int .u32 (.ofNat x), .int .u64 (.ofNat 13)] st = some (.int .u32 (.ofNat (rorR x 13)), st) := by kernel_rfl
theorem rorA14 (x : Nat) (st : St) : evCall Tryd.prog 1 20 30 [.int .u32 (.ofNat x), .int .i64 (.ofNat 14)] st = some (.int .u32 (.ofNat (rorS x 14)), st) := by kernel_rfl
theorem rorB14 (x : Nat) (st : St) : evCall Tryd.prog 1 20 27 [.int .u32 (.ofNat x), .int .u64 (.ofNat 14)] st = some (.int .u32 (.ofNat (rorR x 14)), st) := by kernel_rfl
theorem rorA15 (x : Nat) (st : St) : evCall Tryd.prog 1 20 30 [.int .u32 (.ofNat x), .int .i64 (.ofNat 15)] st = some (.int .u32 (.ofNat (rorS x 15)), st) := by kernel_rfl
theorem rorB15 (x : Nat) (st : St) : evCall Tryd.prog 1 20 27 [.int .u32 (.ofNat x), .int .u64 (.ofNat 15)] st = some (.int .u32 (.ofNat (rorR x 15)), st) := by kernel_rfl
theorem rorA16 (x : Nat) (st : St) : evCall Tryd.prog 1 20 30 [.int .u32 (.ofNat x), .int .i64 (.ofNat 16)] st = some (.int .u32 (.ofNat (rorS x 16)), st) := by kernel_rfl
theorem rorB16 (x : Nat) (st : St) : evCall Tryd.prog 1 20 27 [.int .u32 (.ofNat x), .int .u64 (.ofNat 16)] st = some (.int .u32 (.ofNat (rorR x 16)), st) := by kernel_rfl
theorem rorA17 (x : Nat) (st : St) : evCall Tryd.prog 1 20 30 [.int .u32 (.ofNat x), .int .i64 (.ofNat 17)] st = some (.int .u32 (.ofNat (rorS x 17)), st) := by kernel_rfl
theorem rorB17 (x : Nat) (st : St) : evCall Tryd.prog 1 20 27 [.int .u32 (.ofNat x), .int .u64 (.ofNat 17)] st = some (.int .u32 (.ofNat (rorR x 17)), st) := by kernel_rfl
theorem rorA18 (x : Nat) (st : St) : evCall Tryd.prog 1 20 30 [.int .u32 (.ofNat x), .int .i64 (.ofNat 18)] st = some (.int .u32 (.ofNat (rorS x 18)), st) := by kernel_rfl
theorem rorB18 (x : Nat) (st : St) : evCall Tryd.prog 1 20 27 [.int .u32 (.ofNat x), .int .u64 (.ofNat 18)] st = some (.int .u32 (.ofNat (rorR x 18)), st) := by kernel_rfl
theorem rorA19 (x : Nat) (st : St) : evCall Tryd.prog 1 20 30 [.int .u32 (.ofNat x), .int .i64 (.ofNat 19)] st = some (.int .u32 (.ofNat (rorS x 19)), st) := by kernel_rfl
theorem rorB19 (x : Nat) (st : St) : evCall Tryd.prog 1 20 27 [.int .u32 (.ofNat x), .int .u64 (.ofNat 19)] st = some (.int .u32 (.ofNat (rorR x 19)), st) := by kernel_rfl
theorem rorA20 (x : Nat) (st : St) : evCall Tryd.prog 1 20 30 [.int .u32 (.ofNat x), .int .i64 (.ofNat 20)] st = some (.int .u32 (.ofNat (rorS x 20)), st) := by kernel_rfl
theorem rorB20 (x : Nat) (st : St) : evCall Tryd.prog 1 20 27 [.int .u32 (.ofNat x), .int .u64 (.ofNat 20)] st = some (.int .u32 (.ofNat (rorR x 20)), st) := by kernel_rfl
theorem rorA21 (x : Nat) (st : St) : evCall Tryd.prog 1 20 30 [.int .u32 (.ofNat x), .int .i64 (.ofNat 21)] st = some (.int .u32 (.ofNat (rorS x 21)), st) := by kernel_rfl
theorem rorB21 (x : Nat) (st : St) : evCall Tryd.prog 1 20 27 [.int .u32 (.ofNat x), .int .u64 (.ofNat 21)] st = some (.int .u32 (.ofNat (rorR x 21)), st) := by kernel_rfl
theorem rorA22 (x : Nat) (st : St) : evCall Tryd.prog 1 20 30 [.int .u32 (.ofNat x), .int .i64 (.ofNat 22)] st = some (.int .u32 (.ofNat (rorS x 22)), st) := by kernel_rfl
theorem rorB22 (x : Nat) (st : St) : evCall Tryd.prog 1 20 27 [.int .u32 (.ofNat x), .int .u64 (.ofNat 22)] st = some (.int .u32 (.ofNat (rorR x 22)), st) := by kernel_rfl
theorem rorA23 (x : Nat) (st : St) : evCall Tryd.prog 1 20 30 [.int .u32 (.ofNat x), .int .i64 (.ofNat 23)] st = some (.int .u32 (.ofNat (rorS x 23)), st) := by kernel_rfl
theorem rorB23 (x : Nat) (st : St) : evCall Tryd.prog 1 20 27 [.int .u32 (.ofNat x), .int .u64 (.ofNat 23)] st = some (.int .u32 (.ofNat (rorR x 23)), st) := by kernel_rfl
theorem rorA24 (x : Nat) (st : St) : evCall Tryd.prog 1 20 30 [.int .u32 (.ofNat x), .int .i64 (.ofNat 24)] st = some (.int .u32 (.ofNat (rorS x 24)), st) := by kernel_rfl
theorem rorB24 (x : Nat) (st : St) : evCall Tryd.prog 1 20 27 [.int .u32 (.ofNat x), .int .u64 (.ofNat 24)] st = some (.int .u32 (.ofNat (rorR x 24)), st) := by kernel_rfl
theorem rorA25 (x : Nat) (st : St) : evCall Tryd.prog 1 20 30 [.int .u32 (.ofNat x), .int .i64 (.ofNat 25)] st = some (.int .u32 (.ofNat (rorS x 25)), st) := by kernel_rfl
theorem rorB25 (x : Nat) (st : St) : evCall Tryd.prog 1 20 27 [.int .u32 (.ofNat x), .int .u64 (.ofNat 25)] st = some (.int .u32 (.ofNat (rorR x 25)), st) := by kernel_rfl
theorem rorA26 (x : Nat) (st : St) : evCall Tryd.prog 1 20 30 [.int .u32 (.ofNat x), .int .i64 (.ofNat 26)] st = some (.int .u32 (.ofNat (rorS x 26)), st) := by kernel_rfl
theorem rorB26 (x : Nat) (st : St) : evCall Tryd.prog 1 20 27 [.int .u32 (.ofNat x), .int .u64 (.ofNat 26)] st = some (.int .u32 (.ofNat (rorR x 26)), st) := by kernel_rfl
theorem rorA27 (x : Nat) (st : St) : evCall Tryd.prog 1 20 30 [.int .u32 (.ofNat x), .int .i64 (.ofNat 27)] st = some (.int .u32 (.ofNat (rorS x 27)), st) := by kernel_rfl
theorem rorB27 (x : Nat) (st : St) : evCall Tryd.prog 1 20 27 [.int .u32 (.ofNat x), .int .u64 (.ofNat 27)] st = some (.int .u32 (.ofNat (rorR x 27)), st) := by kernel_rfl
theorem rorA28 (x : Nat) (st : St) : evCall Tryd.prog 1 20 30 [.int .u32 (.ofNat x), .int .i64 (.ofNat 28)] st = some (.int .u32 (.ofNat (rorS x 28)), st) := by kernel_rfl
theorem rorB28 (x : Nat) (st : St) : evCall Tryd.prog 1 20 27 [.int .u32 (.ofNat x), .int .u64 (.ofNat 28)] st = some (.int .u32 (.ofNat (rorR x 28)), st) := by kernel_rfl
theorem rorA29 (x : Nat) (st : St) : evCall Tryd.prog 1 20 30 [.int .u32 (.ofNat x), .int .i64 (.ofNat 29)] st = some (.int .u32 (.ofNat (rorS x 29)), st) := by kernel_rfl
theorem rorB29 (x : Nat) (st : St) : evCall Tryd.prog 1 20 27 [.int .u32 (.ofNat x), .int .u64 (.ofNat 29)] st = some (.int .u32 (.ofNat (rorR x 29)), st) := by kernel_rfl
theorem rorA30 (x : Nat) (st : St) : evCall Tryd.prog 1 20 30 [.int .u32 (.ofNat x), .int .i64 (.ofNat 30)] st = some (.int .u32 (.ofNat (rorS x 30)), st) := by kernel_rfl
theorem rorB30 (x : Nat) (st : St) : evCall Tryd.prog 1 20 27 [.int .u32 (.ofNat x), .int .u64 (.ofNat 30)] st = some (.int .u32 (.ofNat (rorR x 30)), st) := by kernel_rfl
theorem rorA31 (x : Nat) (st : St) : evCall Tryd.prog 1 20 30 [.int .u32 (.ofNat x), .int .i64 (.ofNat 31)] st = some (.int .u32 (.ofNat (rorS x 31)), st) := by kernel_rfl
theorem rorB31 (x : Nat) (st : St) : evCall Tryd.prog 1 20 27 [.int .u32 (.ofNat x), .int .u64 (.ofNat 31)] st = some (.int .u32 (.ofNat (rorR x 31)), st) := by kernel_rfl
theorem rorAall (n x : Nat) (h1 : 0 < n) (h2 : n < 32) (st : St) : evCall Tryd.prog 1 20 30 [.int .u32 (.ofNat x), .int .i64 (.ofNat n)] st = some (.int .u32 (.ofNat (rorS x n)), st) := by
  have : n = 1 ∨ n = 2 ∨ n = 3 ∨ n = 4 ∨ n = 5 ∨ n = 6 ∨ n = 7 ∨ n = 8 ∨ n = 9 ∨ n = 10 ∨ n = 11 ∨ n = 12 ∨ n = 13 ∨ n = 14 ∨ n = 15 ∨ n = 16 ∨ n = 17 ∨ n = 18 ∨ n = 19 ∨ n = 20 ∨ n = 21 ∨ n = 22 ∨ n = 23 ∨ n = 24 ∨ n = 25 ∨ n = 26 ∨ n = 27 ∨ n = 28 ∨ n = 29 ∨ n = 30 ∨ n = 31 := by omega
  rcases this with rfl | rfl | rfl | rfl | rfl | rfl | rfl | rfl | rfl | rfl | rfl | rfl | rfl | rfl | rfl | rfl | rfl | rfl | rfl | rfl | rfl | rfl | rfl | rfl | rfl | rfl | rfl | rfl | rfl | rfl | rfl
  · exact rorA1 x st
  · exact rorA2 x st
  · exact rorA3 x st
  · exact rorA4 x st
  · exact rorA5 x st
  · exact rorA6 x st
  · exact rorA7 x st
  · exact rorA8 x st
  · exact rorA9 x st
  · exact rorA10 x st
  · exact rorA11 x st
  · exact rorA12 x st
  · exact rorA13 x st
  · exact rorA14 x st
  · exact rorA15 x st
  · exact rorA16 x st
  · exact rorA17 x st
  · exact rorA18 x st
  · exact rorA19 x st
  · exact rorA20 x st
  · exact rorA21 x st
  · exact rorA22 x st
  · exact rorA23 x st
  · exact rorA24 x st
  · exact rorA25 x st
  · exact rorA26 x st
  · exact rorA27 x st
  · exact rorA28 x st
  · exact rorA29 x st
  · exact rorA30 x st
  · exact rorA31 x st
theorem rorBall (n x : Nat) (h1 : 0 < n) (h2 : n < 32) (st : St) : evCall Tryd.prog 1 20 27 [.int .u32 (.ofNat x), .int .u64 (.ofNat n)] st = some (.int .u32 (.ofNat (rorR x n)), st) := by
  have : n = 1 ∨ n = 2 ∨ n = 3 ∨ n = 4 ∨ n = 5 ∨ n = 6 ∨ n = 7 ∨ n = 8 ∨ n = 9 ∨ n = 10 ∨ n = 11 ∨ n = 12 ∨ n = 13 ∨ n = 14 ∨ n = 15 ∨ n = 16 ∨ n = 17 ∨ n = 18 ∨ n = 19 ∨ n = 20 ∨ n = 21 ∨ n = 22 ∨ n = 23 ∨ n = 24 ∨ n = 25 ∨ n = 26 ∨ n = 27 ∨ n = 28 ∨ n = 29 ∨ n = 30 ∨ n = 31 := by omega
  rcases this with rfl | rfl | rfl | rfl | rfl | rfl | rfl | rfl | rfl | rfl | rfl | rfl | rfl | rfl | rfl | rfl | rfl | rfl | rfl | rfl | rfl | rfl | rfl | rfl | rfl | rfl | rfl | rfl | rfl | rfl | rfl
  · exact rorB1 x st
  · exact rorB2 x st
  · exact rorB3 x st
  · exact rorB4 x st
  · exact rorB5 x st
  · exact rorB6 x st
  · exact rorB7 x st
  · exact rorB8 x st
  · exact rorB9 x st
  · exact rorB10 x st
  · exact rorB11 x st
  · exact rorB12 x st
  · exact rorB13 x st
  · exact rorB14 x st
  · exact rorB15 x st
  · exact rorB16 x st
  · exact rorB17 x st
  · exact rorB18 x st
  · exact rorB19 x st
  · exact rorB20 x st
  · exact rorB21 x st
  · exact rorB22 x st
  · exact rorB23 x st
  · exact rorB24 x st
  · exact rorB25 x st
  · exact rorB26 x st
  · exact rorB27 x st
  · exact rorB28 x st
  · exact rorB29 x st
  · exact rorB30 x st
  · exact rorB31 x st

theorem callS_ok : CallOk Tryd.prog 1 callS := by
  intro f args st v st' h
  refine evCall_sound follows_mix 20 f args st v st' ?_
  unfold callS at h
  split at h
  · rename_i x n
    cases hb : (Nat.blt 0 n && Nat.blt n 32) with
    | false => rw [hb] at h; simp at h
    | true =>
      rw [hb] at h
      simp only [cond_true, Option.some.injEq, Prod.mk.injEq] at h
      obtain ⟨rfl, rfl⟩ := h
      simp only [Bool.and_eq_true, blt_iff] at hb
      exact rorAall n x hb.1 hb.2 st
  · cases h

/-- the calls of the reference's Sum and words: its ror -/
def callR : CallF := fun f args st => match f, args with
  | 27, [.int .u32 (.ofNat x), .int .u64 (.ofNat n)] => bif Nat.blt 0 n && Nat.blt n 32 then some (.int .u32 (.ofNat (rorS x n)), st) else none
  | _, _ => none

theorem callR_ok : CallOk Tryd.prog 1 callR := by
  intro f args st v st' h
  refine evCall_sound follows_mix 20 f args st v st' ?_
  unfold callR at h
  split at h
  · rename_i x n
    cases hb : (Nat.blt 0 n && Nat.blt n 32) with
    | false => rw [hb] at h; simp at h
    | true =>
      rw [hb] at h
      simp only [cond_true, Option.some.injEq, Prod.mk.injEq] at h
      obtain ⟨rfl, rfl⟩ := h
      simp only [Bool.and_eq_true, blt_iff] at hb
      rw [rorBall n x hb.1 hb.2 st, rorR_eq]
  · cases h

end
end Go.Ev
