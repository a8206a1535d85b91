/-
  chancerylaw16.ReviveNumbers: every call returns true, and leaves all old memory as it was: a closed run, reckoned by the kernel.
-/
import Derived.Test.YtecnddogdiikiaaGreatRawake
namespace Go.Proofs.YtecnddogdiikiaaGreat
open Go Go.RowKit Go.Ev

noncomputable def ext1 : ExtF := orE ext0 (trueE [13])
theorem ext1_ok : ExtOk Tryz.prog 1 ext1 := orE_ok ext0_ok (trueE_ok (by
  intro f hf
  simp only [List.mem_cons, List.not_mem_nil, or_false] at hf
  subst hf
  exact ⟨by kernel_rfl, awake_any⟩))

set_option maxRecDepth 100000 in
theorem numbers_run : isTrue (callQ Tryz.prog mixed 1 ext1 hint 200 (.func 3) [] (St.init 1 14)) = true := by kernel_rfl

theorem numbers_any (w : World) : Calls Tryz.prog 3 #[] w fun e w' => e = .returned (.bool true) ∧ Below w.heap.size w w' :=
  closed_callsQ (hmix := mixed) hint 1 14 200 3 ext1_ok rfl #[] [] .nil (by kernel_rfl) numbers_run w

end Go.Proofs.YtecnddogdiikiaaGreat
