/-
  The store seat: what the evaluator is told of the model's own entries and of slices.Sorted(maps.Keys(m)).
-/
import Derived.Test.YtdmnkhcddbjglaaGreatProg
import Derived.Test.YtdmnkhcddbjglaaGreatEvMo
import Derived.Test.YtdmnkhcddbjglaaGreatKeysHere
import Derived.Test.YtdmnkhcddbjglaaGreatSins
import Derived.Test.YtdmnkhcddbjglaaGreatSdf
import Derived.KernelRfl
set_option linter.unusedVariables false
set_option linter.unusedSimpArgs false
namespace Go.Proofs.YtdmnkhcddbjglaaGreat
open Go Go.RowKit Go.Ev
noncomputable section

abbrev primT : PrimT := [(146, .store), (178, .add .i64), (201, .load .i64), (202, .compare), (285, .load .u32), (292, .store), (294, .mark0), (296, .mark0), (295, .cas .i32), (297, .marked), (299, .marked), (300, .add .i32)]

theorem primT_ok : ∀ x ∈ primT, PrimOk Tryz.prog x := by
  intro x hx
  simp only [List.mem_cons, List.not_mem_nil, or_false] at hx
  rcases hx with rfl | rfl | rfl | rfl | rfl | rfl | rfl | rfl | rfl | rfl | rfl | rfl
  · exact ⟨_, _, Tryz.func146, by kernel_rfl, by kernel_rfl, by kernel_rfl, (by kernel_rfl : Extern.find _ = some Extern.Atomic.storeT), rfl⟩
  · exact ⟨_, _, Tryz.func178, by kernel_rfl, by kernel_rfl, by kernel_rfl, (by kernel_rfl : Extern.find _ = some (Extern.Atomic.update (Op.intArith .add) .i64 true)), rfl⟩
  · exact ⟨_, _, Tryz.func201, by kernel_rfl, by kernel_rfl, by kernel_rfl, (by kernel_rfl : Extern.find _ = some (Extern.Atomic.loadT (.int .i64))), rfl⟩
  · exact ⟨_, _, Tryz.func202, by kernel_rfl, by kernel_rfl, by kernel_rfl, (by kernel_rfl : Extern.find _ = some Extern.BytealgCompare.compare), rfl⟩
  · exact ⟨_, _, Tryz.func285, by kernel_rfl, by kernel_rfl, by kernel_rfl, (by kernel_rfl : Extern.find _ = some (Extern.Atomic.loadT (.int .u32))), rfl⟩
  · exact ⟨_, _, Tryz.func292, by kernel_rfl, by kernel_rfl, by kernel_rfl, (by kernel_rfl : Extern.find _ = some Extern.Atomic.storeT), rfl⟩
  · exact ⟨_, _, Tryz.func294, by kernel_rfl, by kernel_rfl, by kernel_rfl, (by kernel_rfl : Extern.find _ = some (fun _ => do mark Mark.disable; pure Extern.Race.none_)), ⟨_, rfl⟩⟩
  · exact ⟨_, _, Tryz.func296, by kernel_rfl, by kernel_rfl, by kernel_rfl, (by kernel_rfl : Extern.find _ = some (fun _ => do mark Mark.enable; pure Extern.Race.none_)), ⟨_, rfl⟩⟩
  · exact ⟨_, _, Tryz.func295, by kernel_rfl, by kernel_rfl, by kernel_rfl, (by kernel_rfl : Extern.find _ = some (Extern.Atomic.casT (.int .i32))), rfl⟩
  · exact ⟨_, _, Tryz.func297, by kernel_rfl, by kernel_rfl, by kernel_rfl, (by kernel_rfl : Extern.find _ = some (Extern.Race.marked Mark.acquire)), ⟨_, rfl⟩⟩
  · exact ⟨_, _, Tryz.func299, by kernel_rfl, by kernel_rfl, by kernel_rfl, (by kernel_rfl : Extern.find _ = some (Extern.Race.marked Mark.releaseMerge)), ⟨_, rfl⟩⟩
  · exact ⟨_, _, Tryz.func300, by kernel_rfl, by kernel_rfl, by kernel_rfl, (by kernel_rfl : Extern.find _ = some (Extern.Atomic.update (Op.intArith .add) .i32 true)), rfl⟩

abbrev keysT : KeysT := [(242, 241, 271), (274, 241, 283)]

theorem keysT_ok : ∀ x ∈ keysT, ∃ kt mt, KeysAt Tryz.prog x.1 x.2.1 x.2.2 kt mt := by
  intro x hx
  simp only [List.mem_cons, List.not_mem_nil, or_false] at hx
  rcases hx with rfl | rfl
  · exact ⟨_, _, Tryz.keysAt1⟩
  · exact ⟨_, _, Tryz.keysAt2⟩

theorem insT_ok : ∀ f ∈ [190], ∃ et, InsAt Tryz.prog f et := by
  intro f hf
  simp only [List.mem_cons, List.not_mem_nil, or_false] at hf
  subst hf
  exact ⟨_, insAt⟩
def ext0 : ExtF := maskE 3541003638996549359193927467578347774646648632978054568665144641739186784697224877274300416 (orE (primE primT) (orE (keysE keysT) (orE (insE [190]) (diffE 256))))
theorem ext0_ok : ExtOk Tryz.prog 1 ext0 := maskE_ok (orE_ok (primE_ok primT_ok) (orE_ok (keysE_ok keysT_ok) (orE_ok (insE_ok insT_ok) diffE_ok)))
theorem mixed : Tryz.prog.follows .mixedOrders = true := by kernel_rfl


end
end Go.Proofs.YtdmnkhcddbjglaaGreat
