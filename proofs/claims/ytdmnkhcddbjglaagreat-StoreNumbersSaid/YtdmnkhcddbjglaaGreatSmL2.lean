/-
  chancerylaw15.laps: segments of rounds, reckoned by the kernel: part 2.
-/
import Derived.Test.YtdmnkhcddbjglaaGreatSmL
set_option linter.unusedVariables false
set_option linter.unusedSimpArgs false
namespace Go.Proofs.YtdmnkhcddbjglaaGreat
open Go Go.RowKit Go.Ev
noncomputable section

set_option maxRecDepth 100000 in
theorem seg5 : segB evL c19 7 lm5 lm6 = true := by kernel_rfl
set_option maxRecDepth 100000 in
theorem seg6 : segB evL c19 5 lm6 lm7 = true := by kernel_rfl
set_option maxRecDepth 100000 in
theorem seg7 : segB evL c19 6 lm7 lm8 = true := by kernel_rfl
set_option maxRecDepth 100000 in
theorem seg8 : segB evL c19 5 lm8 lm9 = true := by kernel_rfl
set_option maxRecDepth 100000 in
theorem seg9 : segB evL c19 5 lm9 lm10 = true := by kernel_rfl

end
end Go.Proofs.YtdmnkhcddbjglaaGreat
