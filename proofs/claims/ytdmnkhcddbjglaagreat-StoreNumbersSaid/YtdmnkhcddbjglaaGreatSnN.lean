/-
  chancerylaw15.heads, failing: every call returns true, and leaves all old memory as it was: closed runs, reckoned by the kernel.
  chancerylaw15.both: returns true, and leaves all old memory as it was: a closed run, reckoned by the kernel.
  chancerylaw15.laps: returns true, and leaves all old memory as it was.
  chancerylaw15.StoreNumbers: returns true, and leaves all old memory as it was: its parts are known.
-/
import Derived.Test.YtdmnkhcddbjglaaGreatSaw
import Derived.Test.YtdmnkhcddbjglaaGreatSext2
import Derived.Test.YtdmnkhcddbjglaaGreatSmL1
import Derived.Test.YtdmnkhcddbjglaaGreatSmL2
import Derived.Test.YtdmnkhcddbjglaaGreatSmL3
import Derived.Test.YtdmnkhcddbjglaaGreatSmL4
import Derived.Test.YtdmnkhcddbjglaaGreatSmL5
import Derived.Test.YtdmnkhcddbjglaaGreatSnQ
set_option linter.unusedVariables false
set_option linter.unusedSimpArgs false
namespace Go.Proofs.YtdmnkhcddbjglaaGreat
open Go Go.RowKit Go.Ev
noncomputable section

set_option maxRecDepth 100000 in
theorem heads_run : isTrue (callQ Tryz.prog mixed 1 ext0 hint 200 (.func 17) [] (St.init 1 14)) = true := by kernel_rfl
theorem heads_any (w : World) : Calls Tryz.prog 17 #[] w fun e w' => e = .returned (.bool true) ∧ Below w.heap.size w w' :=
  closed_callsQ (hmix := mixed) hint 1 14 200 17 ext0_ok rfl #[] [] .nil (by kernel_rfl) heads_run w

set_option maxRecDepth 100000 in
theorem failing_run : isTrue (callQ Tryz.prog mixed 1 ext0 hint 200 (.func 20) [] (St.init 1 14)) = true := by kernel_rfl
theorem failing_any (w : World) : Calls Tryz.prog 20 #[] w fun e w' => e = .returned (.bool true) ∧ Below w.heap.size w w' :=
  closed_callsQ (hmix := mixed) hint 1 14 200 20 ext0_ok rfl #[] [] .nil (by kernel_rfl) failing_run w

end
end Go.Proofs.YtdmnkhcddbjglaaGreat

namespace Go.Proofs.YtdmnkhcddbjglaaGreat
open Go Go.RowKit Go.Ev
noncomputable section

set_option maxRecDepth 100000 in
theorem both_run : isTrue (callQ Tryz.prog mixed 1 ext1 hint 200 (.func 18) [] (St.init 1 16)) = true := by kernel_rfl
theorem both_any (w : World) : Calls Tryz.prog 18 #[] w fun e w' => e = .returned (.bool true) ∧ Below w.heap.size w w' :=
  closed_callsQ (hmix := mixed) hint 1 16 200 18 ext1_ok rfl #[] [] .nil (by kernel_rfl) both_run w

end
end Go.Proofs.YtdmnkhcddbjglaaGreat

namespace Go.Proofs.YtdmnkhcddbjglaaGreat
open Go Go.RowKit Go.Ev
noncomputable section

theorem lapsEnd : LoopOk Tryz.prog 1 c19 lm24 leL := last_ok evL_ok (leOf_ok (isS_ok lastB))
theorem lapsLoop : LoopOk Tryz.prog 1 c19 lm0 leL :=
  seg_ok evL_ok seg0 (seg_ok evL_ok seg1 (seg_ok evL_ok seg2 (seg_ok evL_ok seg3 (seg_ok evL_ok seg4 (seg_ok evL_ok seg5 (seg_ok evL_ok seg6 (seg_ok evL_ok seg7 (seg_ok evL_ok seg8 (seg_ok evL_ok seg9 (seg_ok evL_ok seg10 (seg_ok evL_ok seg11 (seg_ok evL_ok seg12 (seg_ok evL_ok seg13 (seg_ok evL_ok seg14 (seg_ok evL_ok seg15 (seg_ok evL_ok seg16 (seg_ok evL_ok seg17 (seg_ok evL_ok seg18 (seg_ok evL_ok seg19 (seg_ok evL_ok seg20 (seg_ok evL_ok seg21 (seg_ok evL_ok seg22 (seg_ok evL_ok seg23 lapsEnd)))))))))))))))))))))))
theorem eL_ok : COk Tryz.prog 1 (.seq c19A (.seq c19B (.seq (.seq c19C (.block 0 (.loop c19))) c19R))) eL :=
  seqE_ok (.of_ev evL_ok _) (seqE_ok (.of_ev evL_ok _) (seqE_ok (seqE_ok (.of_ev evL_ok _) (blockE_ok (loopE_ok lapsLoop))) (.of_ev evL_ok _)))
theorem laps_any (w : World) : Calls Tryz.prog 19 #[] w fun e w' => e = .returned (.bool true) ∧ Below w.heap.size w w' :=
  calls_body (fn := Tryz.f19) Tryz.func19 body19 (by kernel_rfl) (by kernel_rfl) eL_ok lapsBody w

end
end Go.Proofs.YtdmnkhcddbjglaaGreat

namespace Go.Proofs.YtdmnkhcddbjglaaGreat
open Go Go.RowKit Go.Ev
noncomputable section

def extN : ExtF := orE ext1 (trueE [14, 17, 18, 19, 20, 21])
theorem extN_ok : ExtOk Tryz.prog 1 extN := orE_ok ext1_ok (trueE_ok (by
  intro f hf
  simp only [List.mem_cons, List.not_mem_nil, or_false] at hf
  rcases hf with rfl | rfl | rfl | rfl | rfl | rfl
  · exact ⟨by kernel_rfl, awake_any⟩
  · exact ⟨by kernel_rfl, heads_any⟩
  · exact ⟨by kernel_rfl, both_any⟩
  · exact ⟨by kernel_rfl, laps_any⟩
  · exact ⟨by kernel_rfl, failing_any⟩
  · exact ⟨by kernel_rfl, asked_any⟩))
set_option maxRecDepth 100000 in
theorem storeNumbers_run : isTrue (callQ Tryz.prog mixed 1 extN hint 200 (.func 4) [] (St.init 1 16)) = true := by kernel_rfl
theorem storeNumbers_any (w : World) : Calls Tryz.prog 4 #[] w fun e w' => e = .returned (.bool true) ∧ Below w.heap.size w w' :=
  closed_callsQ (hmix := mixed) hint 1 16 200 4 extN_ok rfl #[] [] .nil (by kernel_rfl) storeNumbers_run w

end
end Go.Proofs.YtdmnkhcddbjglaaGreat
