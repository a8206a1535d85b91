/-
  A closed run: what the evaluator reckons of a call that returns true, every call does, whatever the world; old memory stays as it was.
-/
import Derived.Test.YtdmnkhcddbjglaaGreatEvV
namespace Go.Ev
open Go Go.RowKit
noncomputable section

def renG (G : Nat) : Ren := fun g => if g < G then some ⟨g, 0, 0⟩ else none

theorem Rel.init (G dep : Nat) (h : G ≤ 2 ^ dep) (w : World) : Rel (renG G) (St.init G dep) w where
  ok := T.Ok_full _ _
  lt := h
  fresh i hi := by unfold renG; rw [if_neg (show ¬ i < G from Nat.not_lt.2 hi)]
  live i _ hl := by
    simp only [St.init, T.get_full] at hl
    cases hl
  inj i j L M _ _ _ hl := by
    simp only [St.init, T.get_full] at hl
    cases hl

theorem Glob.init (G : Nat) : Glob (renG G) G := fun g hg => ⟨0, by unfold renG; rw [if_pos hg]⟩

theorem VRs.tops {ρ : Ren} : ∀ l : List Value, VRs ρ (l.map fun _ => AV.top) l
  | [] => .nil
  | v :: l => .cons (.top v) (VRs.tops l)

/-- what the evaluator reckons of a call that returns true, every call of such arguments does -/
theorem closed_calls {P : Program} {ext : ExtF} (G dep fuel f : Nat) (hext : ExtOk P G ext) (hmix : P.follows .mixedOrders = true) (hG : Nat.ble G (2 ^ dep) = true) (cargs : Array Value) (args : List AV) (hargs : VRs (renG G) args cargs.toList)
    (hent : enters P f = true) (h : isTrue (evCall P G ext fuel (.func f) args (St.init G dep)) = true) (w : World) :
    Calls P f cargs w fun e w' => e = .returned (.bool true) ∧ Below w.heap.size w w' := by
  unfold isTrue at h
  split at h
  · rename_i st' he
    rcases evCall_sound hext hmix fuel (.func f) _ _ _ _ he (renG G) w cargs (Rel.init G dep (Nat.le_of_ble_eq_true hG) w) (Glob.init G) hargs with ⟨_, hc⟩ | ⟨z, w', h1, _⟩
    · refine hc.mono ?_
      rintro e w' ⟨vc, rfl, ρ', hv, hg⟩
      cases hv
      refine ⟨rfl, hg.os, hg.tape, hg.output, hg.size, fun b hb => hg.kept b hb ?_⟩
      intro i L _ hw
      simp only [St.init, T.get_full] at hw
      cases hw
    · rw [enters_spec hent] at h1; cases h1
  · cases h

end
end Go.Ev
