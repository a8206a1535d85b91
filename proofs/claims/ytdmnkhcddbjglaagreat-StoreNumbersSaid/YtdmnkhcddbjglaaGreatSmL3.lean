/-
  chancerylaw15.laps: segments of rounds, reckoned by the kernel: part 3.
-/
import Derived.Test.YtdmnkhcddbjglaaGreatSmL
set_option linter.unusedVariables false
set_option linter.unusedSimpArgs false
namespace Go.Proofs.YtdmnkhcddbjglaaGreat
open Go Go.RowKit Go.Ev
noncomputable section

set_option maxRecDepth 100000 in
theorem seg10 : segB evL c19 5 lm10 lm11 = true := by kernel_rfl
set_option maxRecDepth 100000 in
theorem seg11 : segB evL c19 4 lm11 lm12 = true := by kernel_rfl
set_option maxRecDepth 100000 in
theorem seg12 : segB evL c19 5 lm12 lm13 = true := by kernel_rfl
set_option maxRecDepth 100000 in
theorem seg13 : segB evL c19 4 lm13 lm14 = true := by kernel_rfl
set_option maxRecDepth 100000 in
theorem seg14 : segB evL c19 4 lm14 lm15 = true := by kernel_rfl

end
end Go.Proofs.YtdmnkhcddbjglaaGreat
