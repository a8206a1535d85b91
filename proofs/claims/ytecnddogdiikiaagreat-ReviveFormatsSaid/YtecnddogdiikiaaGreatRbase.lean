/-
  slices.Sorted(maps.Keys(m)) at the revive seat's program: the kit's contracts, laid at its numbers (printed by the kit's lay-plain).
  slices.Sorted(maps.Keys(m)) at this seat's program: what the evaluator asks of it.
  The revive seat: what the evaluator is told of the model's own entries and of slices.Sorted(maps.Keys(m)).
-/
import Derived.Shelf.SlIterI.Nil
import Derived.Shelf.SortM.Plain
import Derived.Shelf.SortM.SortNone
import Derived.Ground.GgzProg
import Derived.Ground.SlgmProg
import Derived.Test.YtecnddogdiikiaaGreatProg
import Derived.Test.YtecnddogdiikiaaGreatEvKy
import Derived.KernelRfl
import Derived.Test.YtecnddogdiikiaaGreatEvMo
set_option linter.unusedVariables false
set_option linter.unusedSimpArgs false
namespace Go.Proofs
open Go.Shelf
def Tryz.keys27_ren : Go.Shelf.Ren := ⟨fun | 7 => 27 | 10 => 65 | n => n, fun | 23 => 66 | 26 => 3 | 3 => 37 | 28 => 71 | 0 => 0 | 27 => 70 | 33 => 140 | 4 => 4 | n => n, fun | n => n⟩
theorem Tryz.keys27 : Go.Proofs.SlLaysZI.n7 Tryz.prog Tryz.keys27_ren := {
  mixed := by kernel_rfl
  f7 := ⟨Tryz.f27.name, by decide, Tryz.func27.trans (congrArg some (by kernel_rfl))⟩
  f10 := ⟨Tryz.f65.name, by decide, Tryz.func65.trans (congrArg some (by kernel_rfl))⟩
  t0 := Tryz.underlying0
  a0 := Tryz.isAgg0
  z0 := Tryz.sizeOf0
  v0 := Tryz.zeroValue0
  t4 := Tryz.underlying4
  a4 := Tryz.isAgg4
  z4 := Tryz.sizeOf4
  v4 := Tryz.zeroValue4
  t23 := Tryz.underlying66
  a23 := Tryz.isAgg66
  z23 := Tryz.sizeOf66
  v23 := Tryz.zeroValue66
  t26 := Tryz.underlying3
  a26 := Tryz.isAgg3
  z26 := Tryz.sizeOf3
  v26 := Tryz.zeroValue3
  t27 := Tryz.underlying70
  a27 := Tryz.isAgg70
  z27 := Tryz.sizeOf70
  v27 := Tryz.zeroValue70
  t28 := Tryz.underlying71
  a28 := Tryz.isAgg71
  z28 := Tryz.sizeOf71
  v28 := Tryz.zeroValue71
  t33 := Tryz.underlying140
  a33 := Tryz.isAgg140
  z33 := Tryz.sizeOf140
  v33 := Tryz.zeroValue140 }
def Tryz.keys292_ren : Go.Shelf.Ren := ⟨fun | 7 => 292 | 10 => 302 | n => n, fun | 23 => 144 | 26 => 3 | 3 => 3 | 28 => 71 | 0 => 0 | 27 => 70 | 33 => 140 | 4 => 4 | n => n, fun | n => n⟩
theorem Tryz.keys292 : Go.Proofs.SlLaysZI.n7 Tryz.prog Tryz.keys292_ren := {
  mixed := by kernel_rfl
  f7 := ⟨Tryz.f292.name, by decide, Tryz.func292.trans (congrArg some (by kernel_rfl))⟩
  f10 := ⟨Tryz.f302.name, by decide, Tryz.func302.trans (congrArg some (by kernel_rfl))⟩
  t0 := Tryz.underlying0
  a0 := Tryz.isAgg0
  z0 := Tryz.sizeOf0
  v0 := Tryz.zeroValue0
  t4 := Tryz.underlying4
  a4 := Tryz.isAgg4
  z4 := Tryz.sizeOf4
  v4 := Tryz.zeroValue4
  t23 := Tryz.underlying144
  a23 := Tryz.isAgg144
  z23 := Tryz.sizeOf144
  v23 := Tryz.zeroValue144
  t26 := Tryz.underlying3
  a26 := Tryz.isAgg3
  z26 := Tryz.sizeOf3
  v26 := Tryz.zeroValue3
  t27 := Tryz.underlying70
  a27 := Tryz.isAgg70
  z27 := Tryz.sizeOf70
  v27 := Tryz.zeroValue70
  t28 := Tryz.underlying71
  a28 := Tryz.isAgg71
  z28 := Tryz.sizeOf71
  v28 := Tryz.zeroValue71
  t33 := Tryz.underlying140
  a33 := Tryz.isAgg140
  z33 := Tryz.sizeOf140
  v33 := Tryz.zeroValue140 }
def Tryz.sorted26_ren : Go.Shelf.Ren := ⟨fun | 6 => 26 | 8 => 63 | 9 => 64 | 11 => 118 | 13 => 120 | 12 => 119 | 23 => 184 | 24 => 185 | 14 => 175 | 15 => 176 | 16 => 177 | 17 => 178 | 18 => 179 | 19 => 180 | 20 => 181 | 21 => 182 | 22 => 183 | 25 => 216 | 26 => 217 | 27 => 218 | 28 => 219 | 29 => 220 | 30 => 221 | 31 => 242 | n => n, fun | 26 => 3 | 28 => 71 | 24 => 26 | 0 => 0 | 3 => 3 | 37 => 143 | 48 => 142 | 50 => 74 | 4 => 4 | 40 => 252 | 39 => 251 | 45 => 256 | 5 => 5 | 9 => 9 | 51 => 291 | 55 => 295 | 57 => 328 | 58 => 263 | 33 => 140 | n => n, fun | n => n⟩
theorem Tryz.sorted26 : Go.Proofs.SlLaysZI.n6 Tryz.prog Tryz.sorted26_ren := {
  mixed := by kernel_rfl
  f6 := ⟨Tryz.f26.name, by decide, Tryz.func26.trans (congrArg some (by kernel_rfl))⟩
  f8 := ⟨Tryz.f63.name, by decide, Tryz.func63.trans (congrArg some (by kernel_rfl))⟩
  f11 := ⟨Tryz.f118.name, by decide, Tryz.func118.trans (congrArg some (by kernel_rfl))⟩
  t0 := Tryz.underlying0
  a0 := Tryz.isAgg0
  z0 := Tryz.sizeOf0
  v0 := Tryz.zeroValue0
  t24 := Tryz.underlying26
  a24 := Tryz.isAgg26
  z24 := Tryz.sizeOf26
  v24 := Tryz.zeroValue26
  t26 := Tryz.underlying3
  a26 := Tryz.isAgg3
  z26 := Tryz.sizeOf3
  v26 := Tryz.zeroValue3
  t28 := Tryz.underlying71
  a28 := Tryz.isAgg71
  z28 := Tryz.sizeOf71
  v28 := Tryz.zeroValue71
  i26 := by kernel_rfl }
def Tryz.sort64_ren : Go.Shelf.Ren := ⟨fun | 5 => 64 | 8 => 120 | 7 => 119 | 19 => 184 | 20 => 185 | 10 => 175 | 11 => 176 | 12 => 177 | 13 => 178 | 14 => 179 | 15 => 180 | 16 => 181 | 17 => 182 | 18 => 183 | 30 => 216 | 31 => 217 | 32 => 218 | 33 => 219 | 34 => 220 | 35 => 221 | 40 => 242 | n => n, fun | 23 => 26 | 25 => 3 | 3 => 3 | 32 => 143 | 22 => 26 | 0 => 0 | 44 => 142 | 46 => 74 | 4 => 4 | 36 => 252 | 35 => 251 | 41 => 256 | 5 => 5 | 9 => 9 | 53 => 291 | 57 => 295 | 63 => 328 | 64 => 263 | n => n, fun | n => n⟩
theorem Tryz.sort64 : Go.Proofs.SlLaysM.n5 Tryz.prog Tryz.sort64_ren := {
  mixed := by kernel_rfl
  f5 := ⟨Tryz.f64.name, by decide, Tryz.func64.trans (congrArg some (by kernel_rfl))⟩
  f7 := ⟨Tryz.f119.name, by decide, Tryz.func119.trans (congrArg some (by kernel_rfl))⟩
  f8 := Tryz.func120.trans (congrArg some (by kernel_rfl))
  f10 := ⟨Tryz.f175.name, by decide, Tryz.func175.trans (congrArg some (by kernel_rfl))⟩
  f11 := ⟨Tryz.f176.name, by decide, Tryz.func176.trans (congrArg some (by kernel_rfl))⟩
  f12 := ⟨Tryz.f177.name, by decide, Tryz.func177.trans (congrArg some (by kernel_rfl))⟩
  f13 := ⟨Tryz.f178.name, by decide, Tryz.func178.trans (congrArg some (by kernel_rfl))⟩
  f14 := ⟨Tryz.f179.name, by decide, Tryz.func179.trans (congrArg some (by kernel_rfl))⟩
  f15 := ⟨Tryz.f180.name, by decide, Tryz.func180.trans (congrArg some (by kernel_rfl))⟩
  f16 := ⟨Tryz.f181.name, by decide, Tryz.func181.trans (congrArg some (by kernel_rfl))⟩
  f17 := ⟨Tryz.f182.name, by decide, Tryz.func182.trans (congrArg some (by kernel_rfl))⟩
  f18 := ⟨Tryz.f183.name, by decide, Tryz.func183.trans (congrArg some (by kernel_rfl))⟩
  f19 := Tryz.func184.trans (congrArg some (by kernel_rfl))
  f20 := Tryz.func185.trans (congrArg some (by kernel_rfl))
  f30 := ⟨Tryz.f216.name, by decide, Tryz.func216.trans (congrArg some (by kernel_rfl))⟩
  f31 := Tryz.func217.trans (congrArg some (by kernel_rfl))
  f32 := Tryz.func218.trans (congrArg some (by kernel_rfl))
  f33 := ⟨Tryz.f219.name, by decide, Tryz.func219.trans (congrArg some (by kernel_rfl))⟩
  f34 := ⟨Tryz.f220.name, by decide, Tryz.func220.trans (congrArg some (by kernel_rfl))⟩
  f35 := ⟨Tryz.f221.name, by decide, Tryz.func221.trans (congrArg some (by kernel_rfl))⟩
  f40 := ⟨Tryz.f242.name, by decide, Tryz.func242.trans (congrArg some (by kernel_rfl))⟩
  t0 := Tryz.underlying0
  a0 := Tryz.isAgg0
  z0 := Tryz.sizeOf0
  v0 := Tryz.zeroValue0
  t3 := Tryz.underlying3
  a3 := Tryz.isAgg3
  z3 := Tryz.sizeOf3
  v3 := Tryz.zeroValue3
  t4 := Tryz.underlying4
  a4 := Tryz.isAgg4
  z4 := Tryz.sizeOf4
  v4 := Tryz.zeroValue4
  t5 := Tryz.underlying5
  a5 := Tryz.isAgg5
  z5 := Tryz.sizeOf5
  v5 := Tryz.zeroValue5
  t9 := Tryz.underlying9
  a9 := Tryz.isAgg9
  z9 := Tryz.sizeOf9
  v9 := Tryz.zeroValue9
  t22 := Tryz.underlying26
  a22 := Tryz.isAgg26
  z22 := Tryz.sizeOf26
  v22 := Tryz.zeroValue26
  t23 := Tryz.underlying26
  a23 := Tryz.isAgg26
  z23 := Tryz.sizeOf26
  v23 := Tryz.zeroValue26
  t25 := Tryz.underlying3
  a25 := Tryz.isAgg3
  z25 := Tryz.sizeOf3
  v25 := Tryz.zeroValue3
  t32 := Tryz.underlying143
  a32 := Tryz.isAgg143
  z32 := Tryz.sizeOf143
  v32 := Tryz.zeroValue143
  t35 := Tryz.underlying251
  a35 := Tryz.isAgg251
  z35 := Tryz.sizeOf251
  v35 := Tryz.zeroValue251
  t36 := Tryz.underlying252
  a36 := Tryz.isAgg252
  z36 := Tryz.sizeOf252
  v36 := Tryz.zeroValue252
  t41 := Tryz.underlying256
  a41 := Tryz.isAgg256
  z41 := Tryz.sizeOf256
  v41 := Tryz.zeroValue256
  t44 := Tryz.underlying142
  a44 := Tryz.isAgg142
  z44 := Tryz.sizeOf142
  v44 := Tryz.zeroValue142
  t46 := Tryz.underlying74
  a46 := Tryz.isAgg74
  z46 := Tryz.sizeOf74
  v46 := Tryz.zeroValue74
  t53 := Tryz.underlying291
  a53 := Tryz.isAgg291
  z53 := Tryz.sizeOf291
  v53 := Tryz.zeroValue291
  t57 := Tryz.underlying295
  a57 := Tryz.isAgg295
  z57 := Tryz.sizeOf295
  v57 := Tryz.zeroValue295
  t63 := Tryz.underlying328
  a63 := Tryz.isAgg328
  z63 := Tryz.sizeOf328
  v63 := Tryz.zeroValue328
  t64 := Tryz.underlying263
  a64 := Tryz.isAgg263
  z64 := Tryz.sizeOf263
  v64 := Tryz.zeroValue263 }
end Go.Proofs

namespace Go.Proofs
open Go Go.RowKit Go.Maps Go.Sort Go.Shelf

theorem Tryz.sorts (m : Nat) : AnyZI.SortsIn Tryz.prog Tryz.sorted26_ren Fence.wide m :=
  ⟨fun blk off cap ss W hH hblk hsz => callsIn_wide.2 (AnyM.slices_Sort_int Tryz.sort64 blk off cap ss W hH hblk hsz),
   fun p cap W => callsIn_wide.2 (AnyM.slices_Sort_int_none Tryz.sort64 p cap W)⟩

theorem Tryz.keysAt1 : Ev.KeysAt Tryz.prog 27 26 65 3 (Tryz.keys27_ren.t 23) where
  key := by kernel_rfl
  enterK := by kernel_rfl
  enterS := by kernel_rfl
  keys mb W := callsIn_wide.1 (AnyZI.keys_in Tryz.keys27 Fence.wide 5 trivial rfl mb W)
  sorted b nn D0 R w Bm hBm hm hown hmax hbytes :=
    callsIn_wide.1 (AnyZI.sorted_in Tryz.sorted26 Fence.wide 5 trivial trivial trivial trivial rfl (by omega) (Tryz.sorts _) (enters_of Tryz.func64 (by kernel_rfl) rfl) 65 #[.pointer (some ⟨Bm, 0, none⟩)] trivial (enters_of Tryz.func65 (by kernel_rfl) rfl) _ _ hmax hbytes w
      (AnyZI.keys_gives (ρ := Tryz.keys27_ren) { Tryz.keys27 with } Fence.wide _ trivial rfl (by omega) Bm b nn D0 w hBm hm hown))
  sorted0 w Bm hBm hm := by
    refine (callsIn_wide.1 (AnyZI.sorted_in Tryz.sorted26 Fence.wide 5 trivial trivial trivial trivial rfl (by omega) (Tryz.sorts _) (enters_of Tryz.func64 (by kernel_rfl) rfl) 65 #[.pointer (some ⟨Bm, 0, none⟩)] trivial (enters_of Tryz.func65 (by kernel_rfl) rfl) (fun ss : List Int => ss = []) 0 (Nat.zero_le _) (by omega) w
      (AnyZI.keys_gives_nil (ρ := Tryz.keys27_ren) { Tryz.keys27 with } Fence.wide _ trivial rfl Bm w hBm hm))).mono ?_
    rintro e w' ⟨v, ss, rfl, rfl, _, hnil, hb⟩
    exact ⟨by rw [hnil.2 rfl], hb⟩

theorem Tryz.keysAt2 : Ev.KeysAt Tryz.prog 292 26 302 3 (Tryz.keys292_ren.t 23) where
  key := by kernel_rfl
  enterK := by kernel_rfl
  enterS := by kernel_rfl
  keys mb W := callsIn_wide.1 (AnyZI.keys_in Tryz.keys292 Fence.wide 5 trivial rfl mb W)
  sorted b nn D0 R w Bm hBm hm hown hmax hbytes :=
    callsIn_wide.1 (AnyZI.sorted_in Tryz.sorted26 Fence.wide 5 trivial trivial trivial trivial rfl (by omega) (Tryz.sorts _) (enters_of Tryz.func64 (by kernel_rfl) rfl) 302 #[.pointer (some ⟨Bm, 0, none⟩)] trivial (enters_of Tryz.func302 (by kernel_rfl) rfl) _ _ hmax hbytes w
      (AnyZI.keys_gives (ρ := Tryz.keys292_ren) { Tryz.keys292 with } Fence.wide _ trivial rfl (by omega) Bm b nn D0 w hBm hm hown))
  sorted0 w Bm hBm hm := by
    refine (callsIn_wide.1 (AnyZI.sorted_in Tryz.sorted26 Fence.wide 5 trivial trivial trivial trivial rfl (by omega) (Tryz.sorts _) (enters_of Tryz.func64 (by kernel_rfl) rfl) 302 #[.pointer (some ⟨Bm, 0, none⟩)] trivial (enters_of Tryz.func302 (by kernel_rfl) rfl) (fun ss : List Int => ss = []) 0 (Nat.zero_le _) (by omega) w
      (AnyZI.keys_gives_nil (ρ := Tryz.keys292_ren) { Tryz.keys292 with } Fence.wide _ trivial rfl Bm w hBm hm))).mono ?_
    rintro e w' ⟨v, ss, rfl, rfl, _, hnil, hb⟩
    exact ⟨by rw [hnil.2 rfl], hb⟩
end Go.Proofs

namespace Go.Proofs.YtecnddogdiikiaaGreat
open Go Go.RowKit Go.Ev
noncomputable section

abbrev primT : PrimT := [(82, .store), (202, .load .i64), (205, .add .i64), (234, .compare), (305, .load .u32), (311, .store), (313, .mark0), (315, .mark0), (314, .cas .i32), (316, .marked), (318, .marked), (319, .add .i32)]

theorem primT_ok : ∀ x ∈ primT, PrimOk Tryz.prog x := by
  intro x hx
  simp only [List.mem_cons, List.not_mem_nil, or_false] at hx
  rcases hx with rfl | rfl | rfl | rfl | rfl | rfl | rfl | rfl | rfl | rfl | rfl | rfl
  · exact ⟨_, _, Tryz.func82, by kernel_rfl, by kernel_rfl, by kernel_rfl, (by kernel_rfl : Extern.find _ = some Extern.Atomic.storeT), rfl⟩
  · exact ⟨_, _, Tryz.func202, by kernel_rfl, by kernel_rfl, by kernel_rfl, (by kernel_rfl : Extern.find _ = some (Extern.Atomic.loadT (.int .i64))), rfl⟩
  · exact ⟨_, _, Tryz.func205, by kernel_rfl, by kernel_rfl, by kernel_rfl, (by kernel_rfl : Extern.find _ = some (Extern.Atomic.update (Op.intArith .add) .i64 true)), rfl⟩
  · exact ⟨_, _, Tryz.func234, by kernel_rfl, by kernel_rfl, by kernel_rfl, (by kernel_rfl : Extern.find _ = some Extern.BytealgCompare.compare), rfl⟩
  · exact ⟨_, _, Tryz.func305, by kernel_rfl, by kernel_rfl, by kernel_rfl, (by kernel_rfl : Extern.find _ = some (Extern.Atomic.loadT (.int .u32))), rfl⟩
  · exact ⟨_, _, Tryz.func311, by kernel_rfl, by kernel_rfl, by kernel_rfl, (by kernel_rfl : Extern.find _ = some Extern.Atomic.storeT), rfl⟩
  · exact ⟨_, _, Tryz.func313, by kernel_rfl, by kernel_rfl, by kernel_rfl, (by kernel_rfl : Extern.find _ = some (fun _ => do mark Mark.disable; pure Extern.Race.none_)), ⟨_, rfl⟩⟩
  · exact ⟨_, _, Tryz.func315, by kernel_rfl, by kernel_rfl, by kernel_rfl, (by kernel_rfl : Extern.find _ = some (fun _ => do mark Mark.enable; pure Extern.Race.none_)), ⟨_, rfl⟩⟩
  · exact ⟨_, _, Tryz.func314, by kernel_rfl, by kernel_rfl, by kernel_rfl, (by kernel_rfl : Extern.find _ = some (Extern.Atomic.casT (.int .i32))), rfl⟩
  · exact ⟨_, _, Tryz.func316, by kernel_rfl, by kernel_rfl, by kernel_rfl, (by kernel_rfl : Extern.find _ = some (Extern.Race.marked Mark.acquire)), ⟨_, rfl⟩⟩
  · exact ⟨_, _, Tryz.func318, by kernel_rfl, by kernel_rfl, by kernel_rfl, (by kernel_rfl : Extern.find _ = some (Extern.Race.marked Mark.releaseMerge)), ⟨_, rfl⟩⟩
  · exact ⟨_, _, Tryz.func319, by kernel_rfl, by kernel_rfl, by kernel_rfl, (by kernel_rfl : Extern.find _ = some (Extern.Atomic.update (Op.intArith .add) .i32 true)), rfl⟩

abbrev keysT : KeysT := [(27, 26, 65), (292, 26, 302)]

theorem keysT_ok : ∀ x ∈ keysT, ∃ kt mt, KeysAt Tryz.prog x.1 x.2.1 x.2.2 kt mt := by
  intro x hx
  simp only [List.mem_cons, List.not_mem_nil, or_false] at hx
  rcases hx with rfl | rfl
  · exact ⟨_, _, Tryz.keysAt1⟩
  · exact ⟨_, _, Tryz.keysAt2⟩

def ext0 : ExtF := maskE 1856538300500611725692957554943901396318178066909956752716073929551701496161016194811588776034304 (orE (primE primT) (keysE keysT))
theorem ext0_ok : ExtOk Tryz.prog 1 ext0 := maskE_ok (orE_ok (primE_ok primT_ok) (keysE_ok keysT_ok))
theorem mixed : Tryz.prog.follows .mixedOrders = true := by kernel_rfl

end
end Go.Proofs.YtecnddogdiikiaaGreat

