/-
  The revive seat: what the evaluator is told of the model's own entries and of slices.Sorted(maps.Keys(m)).
-/
import Derived.Test.YtecnddogdiikiaaGreatProg
import Derived.Test.YtecnddogdiikiaaGreatEvY
import Derived.Test.YtecnddogdiikiaaGreatEvMo
import Derived.Test.YtecnddogdiikiaaGreatRKeysHere
import Derived.KernelRfl
namespace Go.Proofs.YtecnddogdiikiaaGreat
open Go Go.RowKit Go.Ev
noncomputable section

abbrev primT : PrimT := [(82, .store), (202, .load .i64), (205, .add .i64), (234, .compare), (305, .load .u32), (311, .store), (313, .mark0), (315, .mark0), (314, .cas .i32), (316, .marked), (318, .marked), (319, .add .i32)]

theorem primT_ok : ∀ x ∈ primT, PrimOk Tryz.prog x := by
  intro x hx
  simp only [List.mem_cons, List.not_mem_nil, or_false] at hx
  rcases hx with rfl | rfl | rfl | rfl | rfl | rfl | rfl | rfl | rfl | rfl | rfl | rfl
  · exact ⟨_, _, Tryz.func82, by kernel_rfl, by kernel_rfl, by kernel_rfl, (by kernel_rfl : Extern.find _ = some Extern.Atomic.storeT), rfl⟩
  · exact ⟨_, _, Tryz.func202, by kernel_rfl, by kernel_rfl, by kernel_rfl, (by kernel_rfl : Extern.find _ = some (Extern.Atomic.loadT (.int .i64))), rfl⟩
  · exact ⟨_, _, Tryz.func205, by kernel_rfl, by kernel_rfl, by kernel_rfl, (by kernel_rfl : Extern.find _ = some (Extern.Atomic.update (Op.intArith .add) .i64 true)), rfl⟩
  · exact ⟨_, _, Tryz.func234, by kernel_rfl, by kernel_rfl, by kernel_rfl, (by kernel_rfl : Extern.find _ = some Extern.BytealgCompare.compare), rfl⟩
  · exact ⟨_, _, Tryz.func305, by kernel_rfl, by kernel_rfl, by kernel_rfl, (by kernel_rfl : Extern.find _ = some (Extern.Atomic.loadT (.int .u32))), rfl⟩
  · exact ⟨_, _, Tryz.func311, by kernel_rfl, by kernel_rfl, by kernel_rfl, (by kernel_rfl : Extern.find _ = some Extern.Atomic.storeT), rfl⟩
  · exact ⟨_, _, Tryz.func313, by kernel_rfl, by kernel_rfl, by kernel_rfl, (by kernel_rfl : Extern.find _ = some (fun _ => do mark Mark.disable; pure Extern.Race.none_)), ⟨_, rfl⟩⟩
  · exact ⟨_, _, Tryz.func315, by kernel_rfl, by kernel_rfl, by kernel_rfl, (by kernel_rfl : Extern.find _ = some (fun _ => do mark Mark.enable; pure Extern.Race.none_)), ⟨_, rfl⟩⟩
  · exact ⟨_, _, Tryz.func314, by kernel_rfl, by kernel_rfl, by kernel_rfl, (by kernel_rfl : Extern.find _ = some (Extern.Atomic.casT (.int .i32))), rfl⟩
  · exact ⟨_, _, Tryz.func316, by kernel_rfl, by kernel_rfl, by kernel_rfl, (by kernel_rfl : Extern.find _ = some (Extern.Race.marked Mark.acquire)), ⟨_, rfl⟩⟩
  · exact ⟨_, _, Tryz.func318, by kernel_rfl, by kernel_rfl, by kernel_rfl, (by kernel_rfl : Extern.find _ = some (Extern.Race.marked Mark.releaseMerge)), ⟨_, rfl⟩⟩
  · exact ⟨_, _, Tryz.func319, by kernel_rfl, by kernel_rfl, by kernel_rfl, (by kernel_rfl : Extern.find _ = some (Extern.Atomic.update (Op.intArith .add) .i32 true)), rfl⟩

abbrev keysT : KeysT := [(27, 26, 65), (292, 26, 302)]

theorem keysT_ok : ∀ x ∈ keysT, ∃ kt mt, KeysAt Tryz.prog x.1 x.2.1 x.2.2 kt mt := by
  intro x hx
  simp only [List.mem_cons, List.not_mem_nil, or_false] at hx
  rcases hx with rfl | rfl
  · exact ⟨_, _, Tryz.keysAt1⟩
  · exact ⟨_, _, Tryz.keysAt2⟩

def ext0 : ExtF := orE (primE primT) (keysE keysT)
theorem ext0_ok : ExtOk Tryz.prog 1 ext0 := orE_ok (primE_ok primT_ok) (keysE_ok keysT_ok)
theorem mixed : Tryz.prog.follows .mixedOrders = true := by kernel_rfl

end
end Go.Proofs.YtecnddogdiikiaaGreat
