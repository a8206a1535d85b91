/-
  chancerylaw15.awake: every call returns true, and leaves all old memory as it was: closed runs, reckoned by the kernel.
-/
import Derived.Test.YtdmnkhcddbjglaaGreatSbase
import Derived.Test.YtdmnkhcddbjglaaGreatShint
namespace Go.Proofs.YtdmnkhcddbjglaaGreat
open Go Go.RowKit Go.Ev
noncomputable section

set_option maxRecDepth 100000 in
theorem awake_run : isTrue (callQ Tryz.prog mixed 1 ext0 hint 200 (.func 14) [] (St.init 1 14)) = true := by kernel_rfl
theorem awake_any (w : World) : Calls Tryz.prog 14 #[] w fun e w' => e = .returned (.bool true) ∧ Below w.heap.size w w' :=
  closed_callsQ (hmix := mixed) hint 1 14 200 14 ext0_ok rfl #[] [] .nil (by kernel_rfl) awake_run w

end
end Go.Proofs.YtdmnkhcddbjglaaGreat
