/-
  chancerylaw28.awake: what the call does.
-/
import Derived.Test.YtiibpjahmhemmaaDoorZabc
namespace Go.Proofs.YtiibpjahmhemmaaDoor
open Go Go.RowKit
open Go.Ev (Tab Tab.belowB Tab.below Tab.pos)

theorem Rd.three (w : World) : Rd (w.alloc (.cells #[.int .u8 97, .int .u8 98, .int .u8 99] 5 (3, 4))) (w.heap.size + 1) (some ⟨w.heap.size, 0, none⟩) [97, 98, 99] := fun _ =>
  ⟨_, 0, rfl, by omega, fun k hk => by
    have hk2 : k < 3 := hk
    have hh := heap_alloc_new w (.cells #[.int .u8 97, .int .u8 98, .int .u8 99] 5 (3, 4))
    simp only [World.cell?, hh]
    have : k = 0 ∨ k = 1 ∨ k = 2 := by omega
    rcases this with rfl | rfl | rfl <;> rfl⟩
theorem cell_sha {w : World} {g i : Nat} {x : UInt8} {t : TypeId} (h : w.heap[g]? = some (.cells (shaV rootK [97, 98, 99]) t (0, 0))) (hx : (shaB rootK [97, 98, 99])[i]? = some x) : w.cell? ⟨g, i, none⟩ = some (u8V x) := by
  rw [cell_of_row w g i _ t (0, 0) h]
  simp [shaV, hx]

set_option maxHeartbeats 1000000 in
theorem awake_any (w : World) (hT : Tab w rootK) : Calls Tryd.prog 13 #[] w fun e w' => e = .returned (.bool true) ∧ Below w.heap.size w w' := by
  have kc := fun (w : World) (C : Array Value) (n c : Nat) => Lib.run_convert_bytes_const (P := Tryd.prog) w 22 5 C n c Tryd.underlying22 Tryd.underlying5
  have hbA : ∀ o, Below w.heap.size w (w.alloc o) := fun o => (Below.refl _ _).alloc (Nat.le_refl _) o
  go_enter Tryd.func13, Tryd.ntmps13
  go_upto_region 2 with (first
    | (go_at_call 8; go_loud (refine (sum_shaN rootK _ 3 3 [97, 98, 99] _ rfl (hT.below (hbA _)) ((Rd.three w).more (by simp)) (by decide) (by decide)).mono ?_); rintro e w1 ⟨rfl, hb1⟩)
    | (refine stR rfl 24 (.tmp 1) (.tmp 4) rfl rfl w1.heap.size rfl 32 szOf24 _ (shaV rootK [97, 98, 99]) 24 (heap_alloc_new _ _) rfl rfl (shaV_size _ _) (shaV_one _ _) ?_; intro w2 hs2 hf2 hbl2))
  have hb1' : Below w.heap.size w w1 := (hbA _).trans (hb1.mono (by simp))
  have hb2 : Below w.heap.size w w2 := (hb1'.alloc hb1'.size _).trans (hbl2 _ hb1'.size)
  have c0 : w2.cell? ⟨w1.heap.size, 0, none⟩ = some (.int .u8 186) := cell_sha hs2 abcA
  have c1 : w2.cell? ⟨w1.heap.size, 1, none⟩ = some (.int .u8 120) := cell_sha hs2 abcB
  have c31 : w2.cell? ⟨w1.heap.size, 31, none⟩ = some (.int .u8 173) := cell_sha hs2 abcC
  have hT2 := hT.below hb2
  clear hs2 hf2 hbl2 hb1 kc hbA hb1'
  go_wp2_with (first
    | (go_at_call 14; refine (proof_any rootK ⟨#[107]⟩ ⟨#[114]⟩ 1 7 _ hT2 (by decide) (by decide) (by decide) (by decide) (by decide)).mono ?_; rintro e w3 ⟨v3, rfl, hown3, hb3⟩; obtain ⟨A3, c3, rfl, hc3, _, hrd3⟩ := hown3.sl (n := 32) (proofB_len _ _ _ _ _))
    | (go_at_call 19; refine (holds_any rootK ⟨#[107]⟩ ⟨#[114]⟩ 1 7 _ _ _ _ _ (hT2.below hb3) (by decide) (by decide) (by decide) (by decide) (by decide) hrd3 (proofB_len _ _ _ _ _).symm).mono ?_; rintro e w4 ⟨rfl, hb4⟩))
  go_ret
  exact ⟨by simp, (hb2.trans (hb3.mono hb2.size)).trans (hb4.mono (Nat.le_trans hb2.size hb3.size))⟩

end Go.Proofs.YtiibpjahmhemmaaDoor
