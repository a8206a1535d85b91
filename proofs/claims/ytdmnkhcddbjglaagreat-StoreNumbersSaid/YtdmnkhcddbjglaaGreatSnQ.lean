/-
  Calls that are reckoned by themselves (states printed by a tool), several in one run: part 2.
  Calls that are reckoned by themselves (states printed by a tool), several in one run: part 3.
  chancerylaw15.asked: returns true, and leaves all old memory as it was.
-/
import Derived.Test.YtdmnkhcddbjglaaGreatSmQ1
set_option linter.unusedVariables false
set_option linter.unusedSimpArgs false
namespace Go.Proofs.YtdmnkhcddbjglaaGreat
open Go Go.RowKit Go.Ev
noncomputable section

set_option maxRecDepth 100000 in
theorem qg4_run : (moB (callQ Tryz.prog mixed 1 ext1 hint 200) qm11 && moB (callQ Tryz.prog mixed 1 ext1 hint 200) qm13) = true := by kernel_rfl
theorem qm11_ok : MoOk Tryz.prog 1 qm11 := moOk_of (callQ_ok ext1_ok hint 200) (and_l qg4_run)
theorem qm13_ok : MoOk Tryz.prog 1 qm13 := moOk_of (callQ_ok ext1_ok hint 200) (and_r qg4_run)
set_option maxRecDepth 100000 in
theorem qg5_run : (moB (callQ Tryz.prog mixed 1 ext1 hint 200) qm14 && moB (callQ Tryz.prog mixed 1 ext1 hint 200) qm15) = true := by kernel_rfl
theorem qm14_ok : MoOk Tryz.prog 1 qm14 := moOk_of (callQ_ok ext1_ok hint 200) (and_l qg5_run)
theorem qm15_ok : MoOk Tryz.prog 1 qm15 := moOk_of (callQ_ok ext1_ok hint 200) (and_r qg5_run)
set_option maxRecDepth 100000 in
theorem qg6_run : (moB (callQ Tryz.prog mixed 1 ext1 hint 200) qm16 && moB (callQ Tryz.prog mixed 1 ext1 hint 200) qm17) = true := by kernel_rfl
theorem qm16_ok : MoOk Tryz.prog 1 qm16 := moOk_of (callQ_ok ext1_ok hint 200) (and_l qg6_run)
theorem qm17_ok : MoOk Tryz.prog 1 qm17 := moOk_of (callQ_ok ext1_ok hint 200) (and_r qg6_run)

end
end Go.Proofs.YtdmnkhcddbjglaaGreat

namespace Go.Proofs.YtdmnkhcddbjglaaGreat
open Go Go.RowKit Go.Ev
noncomputable section

set_option maxRecDepth 100000 in
theorem qg7_run : (moB (callQ Tryz.prog mixed 1 ext1 hint 200) qm18 && moB (callQ Tryz.prog mixed 1 ext1 hint 200) qm19) = true := by kernel_rfl
theorem qm18_ok : MoOk Tryz.prog 1 qm18 := moOk_of (callQ_ok ext1_ok hint 200) (and_l qg7_run)
theorem qm19_ok : MoOk Tryz.prog 1 qm19 := moOk_of (callQ_ok ext1_ok hint 200) (and_r qg7_run)
set_option maxRecDepth 100000 in
theorem qg8_run : (moB (callQ Tryz.prog mixed 1 ext1 hint 200) qm20 && moB (callQ Tryz.prog mixed 1 ext1 hint 200) qm21) = true := by kernel_rfl
theorem qm20_ok : MoOk Tryz.prog 1 qm20 := moOk_of (callQ_ok ext1_ok hint 200) (and_l qg8_run)
theorem qm21_ok : MoOk Tryz.prog 1 qm21 := moOk_of (callQ_ok ext1_ok hint 200) (and_r qg8_run)

end
end Go.Proofs.YtdmnkhcddbjglaaGreat

namespace Go.Proofs.YtdmnkhcddbjglaaGreat
open Go Go.RowKit Go.Ev
noncomputable section

def extQ : ExtF := orE ext1 (moE 276824064 [qm0, qm1, qm2, qm3, qm4, qm5, qm6, qm7, qm8, qm9, qm10, qm11, qm12, qm13, qm14, qm15, qm16, qm17, qm18, qm19, qm20, qm21])
theorem extQ_ok : ExtOk Tryz.prog 1 extQ := orE_ok ext1_ok (moE_ok (mask := 276824064) (l := [qm0, qm1, qm2, qm3, qm4, qm5, qm6, qm7, qm8, qm9, qm10, qm11, qm12, qm13, qm14, qm15, qm16, qm17, qm18, qm19, qm20, qm21]) (by
  intro m hm
  simp only [List.mem_cons, List.not_mem_nil, or_false] at hm
  rcases hm with rfl | rfl | rfl | rfl | rfl | rfl | rfl | rfl | rfl | rfl | rfl | rfl | rfl | rfl | rfl | rfl | rfl | rfl | rfl | rfl | rfl | rfl
  · exact qm0_ok
  · exact qm1_ok
  · exact qm2_ok
  · exact qm3_ok
  · exact qm4_ok
  · exact qm5_ok
  · exact qm6_ok
  · exact qm7_ok
  · exact qm8_ok
  · exact qm9_ok
  · exact qm10_ok
  · exact qm11_ok
  · exact qm12_ok
  · exact qm13_ok
  · exact qm14_ok
  · exact qm15_ok
  · exact qm16_ok
  · exact qm17_ok
  · exact qm18_ok
  · exact qm19_ok
  · exact qm20_ok
  · exact qm21_ok))
set_option maxRecDepth 100000 in
theorem asked_run : isTrue (callQ Tryz.prog mixed 1 extQ hint 400 (.func 21) [] (St.init 1 18)) = true := by kernel_rfl
theorem asked_any (w : World) : Calls Tryz.prog 21 #[] w fun e w' => e = .returned (.bool true) ∧ Below w.heap.size w w' :=
  closed_callsQ (hmix := mixed) hint 1 18 400 21 extQ_ok rfl #[] [] .nil (by kernel_rfl) asked_run w

end
end Go.Proofs.YtdmnkhcddbjglaaGreat
