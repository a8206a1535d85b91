/-
  chancerylaw16.awake: every call returns true, and leaves all old memory as it was: a closed run, reckoned by the kernel.
-/
import Derived.Test.YtecnddogdiikiaaGreatRmA
namespace Go.Proofs.YtecnddogdiikiaaGreat
open Go Go.RowKit Go.Ev
noncomputable section

def extA : ExtF := orE (moE 8796093022336 [xm0, xm1, xm2, xm4]) ext0
theorem extA_ok : ExtOk Tryz.prog 1 extA := orE_ok (moE_ok (by
  intro m hm
  simp only [List.mem_cons, List.not_mem_nil, or_false] at hm
  rcases hm with rfl | rfl | rfl | rfl
  · exact xm0_ok
  · exact xm1_ok
  · exact xm2_ok
  · exact xm4_ok)) ext0_ok

set_option maxRecDepth 100000 in
theorem awake_run : isTrue (callQ Tryz.prog mixed 1 extA hint 200 (.func 13) [] (St.init 1 14)) = true := by kernel_rfl

theorem awake_any (w : World) : Calls Tryz.prog 13 #[] w fun e w' => e = .returned (.bool true) ∧ Below w.heap.size w w' :=
  closed_callsQ (hmix := mixed) hint 1 14 200 13 extA_ok rfl #[] [] .nil (by kernel_rfl) awake_run w

end
end Go.Proofs.YtecnddogdiikiaaGreat
