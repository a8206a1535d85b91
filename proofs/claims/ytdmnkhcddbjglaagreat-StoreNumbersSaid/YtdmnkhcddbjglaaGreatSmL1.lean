/-
  chancerylaw15.laps: segments of rounds, reckoned by the kernel: part 1.
-/
import Derived.Test.YtdmnkhcddbjglaaGreatSmL
set_option linter.unusedVariables false
set_option linter.unusedSimpArgs false
namespace Go.Proofs.YtdmnkhcddbjglaaGreat
open Go Go.RowKit Go.Ev
noncomputable section

set_option maxRecDepth 100000 in
theorem seg0 : segB evL c19 17 lm0 lm1 = true := by kernel_rfl
set_option maxRecDepth 100000 in
theorem seg1 : segB evL c19 11 lm1 lm2 = true := by kernel_rfl
set_option maxRecDepth 100000 in
theorem seg2 : segB evL c19 9 lm2 lm3 = true := by kernel_rfl
set_option maxRecDepth 100000 in
theorem seg3 : segB evL c19 8 lm3 lm4 = true := by kernel_rfl
set_option maxRecDepth 100000 in
theorem seg4 : segB evL c19 7 lm4 lm5 = true := by kernel_rfl

end
end Go.Proofs.YtdmnkhcddbjglaaGreat
