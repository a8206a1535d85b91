/-
  chancerylaw15.laps: segments of rounds, reckoned by the kernel: part 5.
-/
import Derived.Test.YtdmnkhcddbjglaaGreatSmL
set_option linter.unusedVariables false
set_option linter.unusedSimpArgs false
namespace Go.Proofs.YtdmnkhcddbjglaaGreat
open Go Go.RowKit Go.Ev
noncomputable section

set_option maxRecDepth 100000 in
theorem seg20 : segB evL c19 3 lm20 lm21 = true := by kernel_rfl
set_option maxRecDepth 100000 in
theorem seg21 : segB evL c19 3 lm21 lm22 = true := by kernel_rfl
set_option maxRecDepth 100000 in
theorem seg22 : segB evL c19 3 lm22 lm23 = true := by kernel_rfl
set_option maxRecDepth 100000 in
theorem seg23 : segB evL c19 3 lm23 lm24 = true := by kernel_rfl
/-- the loop's end -/
def leL : LE := leOf (evL none (.loop c19) (mkFr 58 lm24.l) (lm24.k.st lm24.dep lm24.next))
set_option maxRecDepth 100000 in
theorem lastB : isS (evL none (.loop c19) (mkFr 58 lm24.l) (lm24.k.st lm24.dep lm24.next)) = true := by kernel_rfl
/-- the function's body -/
def eL : EvC := seqE (evL none c19A) (seqE (evL none c19B) (seqE (seqE (evL none c19C) (blockE 0 (loopE lm0 leL))) (evL none c19R)))
set_option maxRecDepth 100000 in
theorem lapsBody : bodyB Tryz.prog Tryz.f19 eL 1 17 = true := by kernel_rfl

end
end Go.Proofs.YtdmnkhcddbjglaaGreat
