/-
  slices.Sorted(maps.Keys(m)) at this seat's program: what the evaluator asks of it.
-/
import Derived.Test.YtdmnkhcddbjglaaGreatEvKy
import Derived.Test.YtdmnkhcddbjglaaGreatKeysLaid
import Derived.KernelRfl
namespace Go.Proofs
open Go Go.RowKit Go.Maps Go.Sort Go.Shelf

theorem Tryz.sorts (m : Nat) : AnyZI.SortsIn Tryz.prog Tryz.sorted241_ren Fence.wide m :=
  ⟨fun blk off cap ss W hH hblk hsz => callsIn_wide.2 (AnyM.slices_Sort_int Tryz.sort179 blk off cap ss W hH hblk hsz),
   fun p cap W => callsIn_wide.2 (AnyM.slices_Sort_int_none Tryz.sort179 p cap W)⟩

theorem Tryz.keysAt1 : Ev.KeysAt Tryz.prog 242 241 271 3 (Tryz.keys242_ren.t 23) where
  key := by kernel_rfl
  enterK := by kernel_rfl
  enterS := by kernel_rfl
  keys mb W := callsIn_wide.1 (AnyZI.keys_in Tryz.keys242 Fence.wide 5 trivial rfl mb W)
  sorted b nn D0 R w Bm hBm hm hown hmax hbytes :=
    callsIn_wide.1 (AnyZI.sorted_in Tryz.sorted241 Fence.wide 5 trivial trivial trivial trivial rfl (by omega) (Tryz.sorts _) (enters_of Tryz.func179 (by kernel_rfl) rfl) 271 #[.pointer (some ⟨Bm, 0, none⟩)] trivial (enters_of Tryz.func271 (by kernel_rfl) rfl) _ _ hmax hbytes w
      (AnyZI.keys_gives (ρ := Tryz.keys242_ren) { Tryz.keys242 with } Fence.wide _ trivial rfl (by omega) Bm b nn D0 w hBm hm hown))
  sorted0 w Bm hBm hm := by
    refine (callsIn_wide.1 (AnyZI.sorted_in Tryz.sorted241 Fence.wide 5 trivial trivial trivial trivial rfl (by omega) (Tryz.sorts _) (enters_of Tryz.func179 (by kernel_rfl) rfl) 271 #[.pointer (some ⟨Bm, 0, none⟩)] trivial (enters_of Tryz.func271 (by kernel_rfl) rfl) (fun ss : List Int => ss = []) 0 (Nat.zero_le _) (by omega) w
      (AnyZI.keys_gives_nil (ρ := Tryz.keys242_ren) { Tryz.keys242 with } Fence.wide _ trivial rfl Bm w hBm hm))).mono ?_
    rintro e w' ⟨v, ss, rfl, rfl, _, hnil, hb⟩
    exact ⟨by rw [hnil.2 rfl], hb⟩

theorem Tryz.keysAt2 : Ev.KeysAt Tryz.prog 274 241 283 3 (Tryz.keys274_ren.t 23) where
  key := by kernel_rfl
  enterK := by kernel_rfl
  enterS := by kernel_rfl
  keys mb W := callsIn_wide.1 (AnyZI.keys_in Tryz.keys274 Fence.wide 5 trivial rfl mb W)
  sorted b nn D0 R w Bm hBm hm hown hmax hbytes :=
    callsIn_wide.1 (AnyZI.sorted_in Tryz.sorted241 Fence.wide 5 trivial trivial trivial trivial rfl (by omega) (Tryz.sorts _) (enters_of Tryz.func179 (by kernel_rfl) rfl) 283 #[.pointer (some ⟨Bm, 0, none⟩)] trivial (enters_of Tryz.func283 (by kernel_rfl) rfl) _ _ hmax hbytes w
      (AnyZI.keys_gives (ρ := Tryz.keys274_ren) { Tryz.keys274 with } Fence.wide _ trivial rfl (by omega) Bm b nn D0 w hBm hm hown))
  sorted0 w Bm hBm hm := by
    refine (callsIn_wide.1 (AnyZI.sorted_in Tryz.sorted241 Fence.wide 5 trivial trivial trivial trivial rfl (by omega) (Tryz.sorts _) (enters_of Tryz.func179 (by kernel_rfl) rfl) 283 #[.pointer (some ⟨Bm, 0, none⟩)] trivial (enters_of Tryz.func283 (by kernel_rfl) rfl) (fun ss : List Int => ss = []) 0 (Nat.zero_le _) (by omega) w
      (AnyZI.keys_gives_nil (ρ := Tryz.keys274_ren) { Tryz.keys274 with } Fence.wide _ trivial rfl Bm w hBm hm))).mono ?_
    rintro e w' ⟨v, ss, rfl, rfl, _, hnil, hb⟩
    exact ⟨by rw [hnil.2 rfl], hb⟩
end Go.Proofs
