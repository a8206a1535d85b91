/-
  The store seat: what the evaluator is told, with space.pageMap above.
  The store seat: what the evaluator is told, with page.Pack, page.Unpack, page.Below, tree.size and the numbers of octets above.
-/
import Derived.Test.YtdmnkhcddbjglaaGreatSbase
import Derived.Test.YtdmnkhcddbjglaaGreatSaw
import Derived.Test.YtdmnkhcddbjglaaGreatSpm
import Derived.Test.YtdmnkhcddbjglaaGreatPk8
set_option linter.unusedVariables false
set_option linter.unusedSimpArgs false
namespace Go.Proofs.YtdmnkhcddbjglaaGreat
open Go Go.RowKit Go.Ev
theorem and_l {a b : Bool} (h : (a && b) = true) : a = true := by cases a <;> simp_all
theorem and_r {a b : Bool} (h : (a && b) = true) : b = true := by cases b <;> simp_all
noncomputable section
def ext1 : ExtF := orE ext0 (maskE 401734511064747568885490523085290650630550748445698208825344 (pmE (callQ Tryz.prog mixed 1 ext0 hint 100)))
theorem ext1_ok : ExtOk Tryz.prog 1 ext1 := orE_ok ext0_ok (maskE_ok (pmE_ok (callQ_ok ext0_ok hint 100)))
end
end Go.Proofs.YtdmnkhcddbjglaaGreat

namespace Go.Proofs.YtdmnkhcddbjglaaGreat
open Go Go.RowKit Go.Ev
noncomputable section
def extK : ExtF := maskE 59238364930818949891363333317326160824703806440512707982214037504 (orE (addE 46 .u16 2 65535) (orE (unpE 197) (orE (packE 61) (orE (numE 54 2 .u16) (orE (numE 52 8 .u64) (orE (addE 45 .u64 8 18446744073709551615) (orE (addE 44 .u32 4 4294967295) (orE (numE 50 4 .u32) (orE (belowE 212) (sizeE 215))))))))))
theorem extK_ok : ExtOk Tryz.prog 1 extK := maskE_ok (orE_ok (addE_ok add16At) (orE_ok (unpE_ok unpAt) (orE_ok (packE_ok packAt) (orE_ok (numE_ok u16At) (orE_ok (numE_ok u64At) (orE_ok (addE_ok add64At) (orE_ok (addE_ok add32At) (orE_ok (numE_ok u32At) (orE_ok (belowE_ok belowAt) (sizeE_ok sizeAt))))))))))
def ext2 : ExtF := orE extK ext1
theorem ext2_ok : ExtOk Tryz.prog 1 ext2 := orE_ok extK_ok ext1_ok
end
end Go.Proofs.YtdmnkhcddbjglaaGreat
