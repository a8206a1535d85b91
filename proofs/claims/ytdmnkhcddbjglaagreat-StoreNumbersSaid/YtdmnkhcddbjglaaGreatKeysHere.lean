/-
  slices.Sorted(maps.Keys(m)) at the store seat's program: the kit's contracts, laid at its numbers (printed by the kit's lay-plain).
  slices.Sorted(maps.Keys(m)) at this seat's program: what the evaluator asks of it.
-/
import Derived.Shelf.SlIterI.Nil
import Derived.Shelf.SortM.Plain
import Derived.Shelf.SortM.SortNone
import Derived.Ground.GgzProg
import Derived.Ground.SlgmProg
import Derived.Test.YtdmnkhcddbjglaaGreatProg
import Derived.Test.YtdmnkhcddbjglaaGreatEvKy
import Derived.KernelRfl
set_option linter.unusedVariables false
set_option linter.unusedSimpArgs false
namespace Go.Proofs
open Go.Shelf
def Tryz.keys242_ren : Go.Shelf.Ren := ⟨fun | 7 => 242 | 10 => 271 | n => n, fun | 23 => 169 | 26 => 3 | 3 => 3 | 28 => 295 | 0 => 0 | 27 => 294 | 33 => 67 | 4 => 4 | n => n, fun | n => n⟩
theorem Tryz.keys242 : Go.Proofs.SlLaysZI.n7 Tryz.prog Tryz.keys242_ren := {
  mixed := by kernel_rfl
  f7 := ⟨Tryz.f242.name, by decide, Tryz.func242.trans (congrArg some (by kernel_rfl))⟩
  f10 := ⟨Tryz.f271.name, by decide, Tryz.func271.trans (congrArg some (by kernel_rfl))⟩
  t0 := Tryz.underlying0
  a0 := Tryz.isAgg0
  z0 := Tryz.sizeOf0
  v0 := Tryz.zeroValue0
  t4 := Tryz.underlying4
  a4 := Tryz.isAgg4
  z4 := Tryz.sizeOf4
  v4 := Tryz.zeroValue4
  t23 := Tryz.underlying169
  a23 := Tryz.isAgg169
  z23 := Tryz.sizeOf169
  v23 := Tryz.zeroValue169
  t26 := Tryz.underlying3
  a26 := Tryz.isAgg3
  z26 := Tryz.sizeOf3
  v26 := Tryz.zeroValue3
  t27 := Tryz.underlying294
  a27 := Tryz.isAgg294
  z27 := Tryz.sizeOf294
  v27 := Tryz.zeroValue294
  t28 := Tryz.underlying295
  a28 := Tryz.isAgg295
  z28 := Tryz.sizeOf295
  v28 := Tryz.zeroValue295
  t33 := Tryz.underlying67
  a33 := Tryz.isAgg67
  z33 := Tryz.sizeOf67
  v33 := Tryz.zeroValue67 }
def Tryz.keys274_ren : Go.Shelf.Ren := ⟨fun | 7 => 274 | 10 => 283 | n => n, fun | 23 => 216 | 26 => 3 | 3 => 25 | 28 => 295 | 0 => 0 | 27 => 294 | 33 => 67 | 4 => 4 | n => n, fun | n => n⟩
theorem Tryz.keys274 : Go.Proofs.SlLaysZI.n7 Tryz.prog Tryz.keys274_ren := {
  mixed := by kernel_rfl
  f7 := ⟨Tryz.f274.name, by decide, Tryz.func274.trans (congrArg some (by kernel_rfl))⟩
  f10 := ⟨Tryz.f283.name, by decide, Tryz.func283.trans (congrArg some (by kernel_rfl))⟩
  t0 := Tryz.underlying0
  a0 := Tryz.isAgg0
  z0 := Tryz.sizeOf0
  v0 := Tryz.zeroValue0
  t4 := Tryz.underlying4
  a4 := Tryz.isAgg4
  z4 := Tryz.sizeOf4
  v4 := Tryz.zeroValue4
  t23 := Tryz.underlying216
  a23 := Tryz.isAgg216
  z23 := Tryz.sizeOf216
  v23 := Tryz.zeroValue216
  t26 := Tryz.underlying3
  a26 := Tryz.isAgg3
  z26 := Tryz.sizeOf3
  v26 := Tryz.zeroValue3
  t27 := Tryz.underlying294
  a27 := Tryz.isAgg294
  z27 := Tryz.sizeOf294
  v27 := Tryz.zeroValue294
  t28 := Tryz.underlying295
  a28 := Tryz.isAgg295
  z28 := Tryz.sizeOf295
  v28 := Tryz.zeroValue295
  t33 := Tryz.underlying67
  a33 := Tryz.isAgg67
  z33 := Tryz.sizeOf67
  v33 := Tryz.zeroValue67 }
def Tryz.sorted241_ren : Go.Shelf.Ren := ⟨fun | 6 => 241 | 8 => 270 | 9 => 179 | 11 => 281 | 13 => 204 | 12 => 203 | 23 => 238 | 24 => 239 | 14 => 229 | 15 => 230 | 16 => 231 | 17 => 232 | 18 => 233 | 19 => 234 | 20 => 235 | 21 => 236 | 22 => 237 | 25 => 263 | 26 => 264 | 27 => 265 | 28 => 266 | 29 => 267 | 30 => 268 | 31 => 280 | n => n, fun | 26 => 3 | 28 => 295 | 24 => 22 | 0 => 0 | 3 => 3 | 37 => 158 | 48 => 71 | 50 => 73 | 4 => 4 | 40 => 285 | 39 => 284 | 45 => 245 | 5 => 5 | 9 => 9 | 51 => 311 | 55 => 315 | 57 => 326 | 58 => 173 | 33 => 67 | n => n, fun | n => n⟩
theorem Tryz.sorted241 : Go.Proofs.SlLaysZI.n6 Tryz.prog Tryz.sorted241_ren := {
  mixed := by kernel_rfl
  f6 := ⟨Tryz.f241.name, by decide, Tryz.func241.trans (congrArg some (by kernel_rfl))⟩
  f8 := ⟨Tryz.f270.name, by decide, Tryz.func270.trans (congrArg some (by kernel_rfl))⟩
  f11 := ⟨Tryz.f281.name, by decide, Tryz.func281.trans (congrArg some (by kernel_rfl))⟩
  t0 := Tryz.underlying0
  a0 := Tryz.isAgg0
  z0 := Tryz.sizeOf0
  v0 := Tryz.zeroValue0
  t24 := Tryz.underlying22
  a24 := Tryz.isAgg22
  z24 := Tryz.sizeOf22
  v24 := Tryz.zeroValue22
  t26 := Tryz.underlying3
  a26 := Tryz.isAgg3
  z26 := Tryz.sizeOf3
  v26 := Tryz.zeroValue3
  t28 := Tryz.underlying295
  a28 := Tryz.isAgg295
  z28 := Tryz.sizeOf295
  v28 := Tryz.zeroValue295
  i26 := by kernel_rfl }
def Tryz.sort179_ren : Go.Shelf.Ren := ⟨fun | 5 => 179 | 8 => 204 | 7 => 203 | 19 => 238 | 20 => 239 | 10 => 229 | 11 => 230 | 12 => 231 | 13 => 232 | 14 => 233 | 15 => 234 | 16 => 235 | 17 => 236 | 18 => 237 | 30 => 263 | 31 => 264 | 32 => 265 | 33 => 266 | 34 => 267 | 35 => 268 | 40 => 280 | n => n, fun | 23 => 22 | 25 => 3 | 3 => 3 | 32 => 158 | 22 => 22 | 0 => 0 | 44 => 71 | 46 => 73 | 4 => 4 | 36 => 285 | 35 => 284 | 41 => 245 | 5 => 5 | 9 => 9 | 53 => 311 | 57 => 315 | 63 => 326 | 64 => 173 | n => n, fun | n => n⟩
theorem Tryz.sort179 : Go.Proofs.SlLaysM.n5 Tryz.prog Tryz.sort179_ren := {
  mixed := by kernel_rfl
  f5 := ⟨Tryz.f179.name, by decide, Tryz.func179.trans (congrArg some (by kernel_rfl))⟩
  f7 := ⟨Tryz.f203.name, by decide, Tryz.func203.trans (congrArg some (by kernel_rfl))⟩
  f8 := Tryz.func204.trans (congrArg some (by kernel_rfl))
  f10 := ⟨Tryz.f229.name, by decide, Tryz.func229.trans (congrArg some (by kernel_rfl))⟩
  f11 := ⟨Tryz.f230.name, by decide, Tryz.func230.trans (congrArg some (by kernel_rfl))⟩
  f12 := ⟨Tryz.f231.name, by decide, Tryz.func231.trans (congrArg some (by kernel_rfl))⟩
  f13 := ⟨Tryz.f232.name, by decide, Tryz.func232.trans (congrArg some (by kernel_rfl))⟩
  f14 := ⟨Tryz.f233.name, by decide, Tryz.func233.trans (congrArg some (by kernel_rfl))⟩
  f15 := ⟨Tryz.f234.name, by decide, Tryz.func234.trans (congrArg some (by kernel_rfl))⟩
  f16 := ⟨Tryz.f235.name, by decide, Tryz.func235.trans (congrArg some (by kernel_rfl))⟩
  f17 := ⟨Tryz.f236.name, by decide, Tryz.func236.trans (congrArg some (by kernel_rfl))⟩
  f18 := ⟨Tryz.f237.name, by decide, Tryz.func237.trans (congrArg some (by kernel_rfl))⟩
  f19 := Tryz.func238.trans (congrArg some (by kernel_rfl))
  f20 := Tryz.func239.trans (congrArg some (by kernel_rfl))
  f30 := ⟨Tryz.f263.name, by decide, Tryz.func263.trans (congrArg some (by kernel_rfl))⟩
  f31 := Tryz.func264.trans (congrArg some (by kernel_rfl))
  f32 := Tryz.func265.trans (congrArg some (by kernel_rfl))
  f33 := ⟨Tryz.f266.name, by decide, Tryz.func266.trans (congrArg some (by kernel_rfl))⟩
  f34 := ⟨Tryz.f267.name, by decide, Tryz.func267.trans (congrArg some (by kernel_rfl))⟩
  f35 := ⟨Tryz.f268.name, by decide, Tryz.func268.trans (congrArg some (by kernel_rfl))⟩
  f40 := ⟨Tryz.f280.name, by decide, Tryz.func280.trans (congrArg some (by kernel_rfl))⟩
  t0 := Tryz.underlying0
  a0 := Tryz.isAgg0
  z0 := Tryz.sizeOf0
  v0 := Tryz.zeroValue0
  t3 := Tryz.underlying3
  a3 := Tryz.isAgg3
  z3 := Tryz.sizeOf3
  v3 := Tryz.zeroValue3
  t4 := Tryz.underlying4
  a4 := Tryz.isAgg4
  z4 := Tryz.sizeOf4
  v4 := Tryz.zeroValue4
  t5 := Tryz.underlying5
  a5 := Tryz.isAgg5
  z5 := Tryz.sizeOf5
  v5 := Tryz.zeroValue5
  t9 := Tryz.underlying9
  a9 := Tryz.isAgg9
  z9 := Tryz.sizeOf9
  v9 := Tryz.zeroValue9
  t22 := Tryz.underlying22
  a22 := Tryz.isAgg22
  z22 := Tryz.sizeOf22
  v22 := Tryz.zeroValue22
  t23 := Tryz.underlying22
  a23 := Tryz.isAgg22
  z23 := Tryz.sizeOf22
  v23 := Tryz.zeroValue22
  t25 := Tryz.underlying3
  a25 := Tryz.isAgg3
  z25 := Tryz.sizeOf3
  v25 := Tryz.zeroValue3
  t32 := Tryz.underlying158
  a32 := Tryz.isAgg158
  z32 := Tryz.sizeOf158
  v32 := Tryz.zeroValue158
  t35 := Tryz.underlying284
  a35 := Tryz.isAgg284
  z35 := Tryz.sizeOf284
  v35 := Tryz.zeroValue284
  t36 := Tryz.underlying285
  a36 := Tryz.isAgg285
  z36 := Tryz.sizeOf285
  v36 := Tryz.zeroValue285
  t41 := Tryz.underlying245
  a41 := Tryz.isAgg245
  z41 := Tryz.sizeOf245
  v41 := Tryz.zeroValue245
  t44 := Tryz.underlying71
  a44 := Tryz.isAgg71
  z44 := Tryz.sizeOf71
  v44 := Tryz.zeroValue71
  t46 := Tryz.underlying73
  a46 := Tryz.isAgg73
  z46 := Tryz.sizeOf73
  v46 := Tryz.zeroValue73
  t53 := Tryz.underlying311
  a53 := Tryz.isAgg311
  z53 := Tryz.sizeOf311
  v53 := Tryz.zeroValue311
  t57 := Tryz.underlying315
  a57 := Tryz.isAgg315
  z57 := Tryz.sizeOf315
  v57 := Tryz.zeroValue315
  t63 := Tryz.underlying326
  a63 := Tryz.isAgg326
  z63 := Tryz.sizeOf326
  v63 := Tryz.zeroValue326
  t64 := Tryz.underlying173
  a64 := Tryz.isAgg173
  z64 := Tryz.sizeOf173
  v64 := Tryz.zeroValue173 }
end Go.Proofs

namespace Go.Proofs
open Go Go.RowKit Go.Maps Go.Sort Go.Shelf

theorem Tryz.sorts (m : Nat) : AnyZI.SortsIn Tryz.prog Tryz.sorted241_ren Fence.wide m :=
  ⟨fun blk off cap ss W hH hblk hsz => callsIn_wide.2 (AnyM.slices_Sort_int Tryz.sort179 blk off cap ss W hH hblk hsz),
   fun p cap W => callsIn_wide.2 (AnyM.slices_Sort_int_none Tryz.sort179 p cap W)⟩

theorem Tryz.keysAt1 : Ev.KeysAt Tryz.prog 242 241 271 3 (Tryz.keys242_ren.t 23) where
  key := by kernel_rfl
  enterK := by kernel_rfl
  enterS := by kernel_rfl
  keys mb W := callsIn_wide.1 (AnyZI.keys_in Tryz.keys242 Fence.wide 5 trivial rfl mb W)
  sorted b nn D0 R w Bm hBm hm hown hmax hbytes :=
    callsIn_wide.1 (AnyZI.sorted_in Tryz.sorted241 Fence.wide 5 trivial trivial trivial trivial rfl (by omega) (Tryz.sorts _) (enters_of Tryz.func179 (by kernel_rfl) rfl) 271 #[.pointer (some ⟨Bm, 0, none⟩)] trivial (enters_of Tryz.func271 (by kernel_rfl) rfl) _ _ hmax hbytes w
      (AnyZI.keys_gives (ρ := Tryz.keys242_ren) { Tryz.keys242 with } Fence.wide _ trivial rfl (by omega) Bm b nn D0 w hBm hm hown))
  sorted0 w Bm hBm hm := by
    refine (callsIn_wide.1 (AnyZI.sorted_in Tryz.sorted241 Fence.wide 5 trivial trivial trivial trivial rfl (by omega) (Tryz.sorts _) (enters_of Tryz.func179 (by kernel_rfl) rfl) 271 #[.pointer (some ⟨Bm, 0, none⟩)] trivial (enters_of Tryz.func271 (by kernel_rfl) rfl) (fun ss : List Int => ss = []) 0 (Nat.zero_le _) (by omega) w
      (AnyZI.keys_gives_nil (ρ := Tryz.keys242_ren) { Tryz.keys242 with } Fence.wide _ trivial rfl Bm w hBm hm))).mono ?_
    rintro e w' ⟨v, ss, rfl, rfl, _, hnil, hb⟩
    exact ⟨by rw [hnil.2 rfl], hb⟩

theorem Tryz.keysAt2 : Ev.KeysAt Tryz.prog 274 241 283 3 (Tryz.keys274_ren.t 23) where
  key := by kernel_rfl
  enterK := by kernel_rfl
  enterS := by kernel_rfl
  keys mb W := callsIn_wide.1 (AnyZI.keys_in Tryz.keys274 Fence.wide 5 trivial rfl mb W)
  sorted b nn D0 R w Bm hBm hm hown hmax hbytes :=
    callsIn_wide.1 (AnyZI.sorted_in Tryz.sorted241 Fence.wide 5 trivial trivial trivial trivial rfl (by omega) (Tryz.sorts _) (enters_of Tryz.func179 (by kernel_rfl) rfl) 283 #[.pointer (some ⟨Bm, 0, none⟩)] trivial (enters_of Tryz.func283 (by kernel_rfl) rfl) _ _ hmax hbytes w
      (AnyZI.keys_gives (ρ := Tryz.keys274_ren) { Tryz.keys274 with } Fence.wide _ trivial rfl (by omega) Bm b nn D0 w hBm hm hown))
  sorted0 w Bm hBm hm := by
    refine (callsIn_wide.1 (AnyZI.sorted_in Tryz.sorted241 Fence.wide 5 trivial trivial trivial trivial rfl (by omega) (Tryz.sorts _) (enters_of Tryz.func179 (by kernel_rfl) rfl) 283 #[.pointer (some ⟨Bm, 0, none⟩)] trivial (enters_of Tryz.func283 (by kernel_rfl) rfl) (fun ss : List Int => ss = []) 0 (Nat.zero_le _) (by omega) w
      (AnyZI.keys_gives_nil (ρ := Tryz.keys274_ren) { Tryz.keys274 with } Fence.wide _ trivial rfl Bm w hBm hm))).mono ?_
    rintro e w' ⟨v, ss, rfl, rfl, _, hnil, hb⟩
    exact ⟨by rw [hnil.2 rfl], hb⟩
end Go.Proofs
