/-
  chancerylaw15.laps: segments of rounds, reckoned by the kernel: part 4.
-/
import Derived.Test.YtdmnkhcddbjglaaGreatSmL
set_option linter.unusedVariables false
set_option linter.unusedSimpArgs false
namespace Go.Proofs.YtdmnkhcddbjglaaGreat
open Go Go.RowKit Go.Ev
noncomputable section

set_option maxRecDepth 100000 in
theorem seg15 : segB evL c19 4 lm15 lm16 = true := by kernel_rfl
set_option maxRecDepth 100000 in
theorem seg16 : segB evL c19 3 lm16 lm17 = true := by kernel_rfl
set_option maxRecDepth 100000 in
theorem seg17 : segB evL c19 3 lm17 lm18 = true := by kernel_rfl
set_option maxRecDepth 100000 in
theorem seg18 : segB evL c19 3 lm18 lm19 = true := by kernel_rfl
set_option maxRecDepth 100000 in
theorem seg19 : segB evL c19 3 lm19 lm20 = true := by kernel_rfl

end
end Go.Proofs.YtdmnkhcddbjglaaGreat
