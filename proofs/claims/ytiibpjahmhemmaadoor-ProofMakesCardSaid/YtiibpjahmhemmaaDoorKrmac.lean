/-
  chanceryref28.Mac: what the call does.
-/
import Derived.Test.YtiibpjahmhemmaaDoorKrsum2
import Derived.Test.YtiibpjahmhemmaaDoorKxor
namespace Go.Proofs.YtiibpjahmhemmaaDoor
open Go Go.RowKit Go.Ev

theorem xor_at (x : UInt8) (n : Int) (hx : (x.toNat : Int) = n) (A C : Option Addr) (c d m : Nat) (key l : List UInt8) (w : World) (hm : l.length = m) (hk : Rd w w.heap.size A key) (hr : Rd w w.heap.size C l) (hkl : key.length ≤ 1000000) (hl : m ≤ 1000000) :
    Calls Tryd.prog 28 #[.slice A key.length c, .int .u8 n, .slice C m d] w fun e w' => ∃ (A' : Option Addr) (c' : Nat), e = .returned (.slice A' (64 + m) c') ∧ 64 + m ≤ c' ∧ Rd w' w'.heap.size A' (xorL key x ++ l) ∧ Below w.heap.size w w' := by
  subst hx
  subst hm
  refine (xored_any A C c d x key l w hk hr hkl hl).mono ?_
  rintro e w1 ⟨v1, rfl, hown1, hb1⟩
  obtain ⟨A1, c1, rfl, hc1, _, hrd1⟩ := hown1.sl (n := 64 + l.length) (by simp [xorL])
  exact ⟨A1, c1, rfl, hc1, hrd1, hb1⟩

theorem rsum_n (A : Option Addr) (c n : Nat) (l : List UInt8) (w : World) (hn : l.length = n) (hr : Rd w w.heap.size A l) (hl : n ≤ 1000000) (hlc : n ≤ c) :
    Calls Tryd.prog 9 #[.slice A n c] w fun e w' => e = .returned (.agg (shaV rootK l)) ∧ Below w.heap.size w w' := by
  subst hn; exact rsum_any A c l w hr hl hlc

set_option maxRecDepth 20000 in
set_option maxHeartbeats 2000000 in
theorem rmac_any (A C : Option Addr) (c d : Nat) (key l : List UInt8) (w : World) (hk : Rd w w.heap.size A key) (hr : Rd w w.heap.size C l) (hkl : key.length ≤ 100000) (hkc : key.length ≤ c) (hl : l.length ≤ 100000) :
    Calls Tryd.prog 11 #[.slice A key.length c, .slice C l.length d] w fun e w' => e = .returned (.agg (macV rootK key l)) ∧ Below w.heap.size w w' := by
  go_enter Tryd.func11, Tryd.ntmps11
  go_upto_if 9 with fail
  go_cut [0] (fun v wx => ∃ A' c', v = .slice A' (keyB rootK key).length c' ∧ Rd wx wx.heap.size A' (keyB rootK key) ∧ (keyB rootK key).length ≤ c' ∧ wx.heap[w.heap.size]? = some (.cells (Array.replicate 32 (.int .u8 0)) 24 (0, 0)) ∧ Below w.heap.size w wx)
  case first =>
    have hb0 : Below w.heap.size w (w.alloc (.cells (Array.replicate 32 (.int .u8 0)) 24)) := (Below.refl _ _).alloc (Nat.le_refl _) _
    by_cases h64 : 64 < key.length
    · have hkB : keyB rootK key = shaB rootK key := by unfold keyB; rw [if_pos h64]
      have HK := Lib.hid hkB
      clear hkB
      go_wp2_with (first
        | (go_at_call 9; refine (rsum_any A c key _ (hk.belowS hb0) (by omega) hkc).mono ?_; rintro e w1 ⟨rfl, hb1⟩)
        | (refine stR rfl 24 (.tmp 5) (.tmp 11) rfl rfl w1.heap.size rfl 32 szOf24 _ (shaV rootK key) 24 (heap_alloc_new _ _) rfl rfl (shaV_size _ _) (shaV_one _ _) ?_; intro w2 hs2 hf2 hbl2))
      go_meet
      have hgs : w2.heap[w1.heap.size]? = some (.cells ((shaB rootK key).map u8V).toArray 24 (0, 0)) := hs2
      have hsz1 : w.heap.size + 1 ≤ w1.heap.size := by have := hb1.size; simp at this; omega
      rw [HK.out]
      refine ⟨some ⟨w1.heap.size, 0, none⟩, 32, by rw [shaB_len], Rd.row hgs, by rw [shaB_len]; omega, ?_, ?_⟩
      · rw [hf2 _ (by omega), Below.heap_alloc _ _ _ (by omega), hb1.block _ (by simp)]
        exact heap_alloc_new _ _
      · exact ((hb0.trans (hb1.mono (by simp))).alloc (by omega) _).trans (hbl2 _ (by omega))
    · have hkB : keyB rootK key = key := by unfold keyB; rw [if_neg h64]
      have HK := Lib.hid hkB
      clear hkB
      go_wp2
      go_meet
      rw [HK.out]
      exact ⟨A, c, rfl, hk.belowS hb0, hkc, heap_alloc_new _ _, hb0⟩
  case rest =>
    obtain ⟨A', c', rfl, hkr, hkc', hrb, hb⟩ := hcut
    have hkbl : (keyB rootK key).length ≤ 100000 := by
      unfold keyB; split
      · rw [shaB_len]; omega
      · exact hkl
    obtain ⟨kb, hkb⟩ : ∃ kb, keyB rootK key = kb := ⟨_, rfl⟩
    rw [hkb] at hkr hkc' hkbl
    rw [hkb]
    have HKB := Lib.hid hkb
    clear hkb
    have hrw := hr.belowS hb
    have hzc : w.heap.size + 1 ≤ wc.heap.size := (Array.getElem?_eq_some_iff.1 hrb).1
    have HRB := Lib.hid hrb
    clear hrb
    apply ‹∀ (a : Act) (w : World), Code.wp Tryd.prog _ _ a w → _›
    go_wp2_with (first
        | (go_at_call 28; (with_reducible refine (xor_at 54 54 rfl A' C c' d l.length kb l _ rfl hkr hrw (by omega) (by omega)).mono ?_); rintro e w1 ⟨A1, c1, rfl, hc1, hrd1, hb1⟩)
        | (go_at_call 9; (with_reducible refine (rsum_n A1 c1 (64 + l.length) (xorL kb 54 ++ l) _ (by simp [xorL]) hrd1 (by omega) hc1).mono ?_); rintro e w2 ⟨rfl, hb2⟩)
        | (refine stR rfl 24 (.tmp 6) (.tmp 16) rfl rfl w2.heap.size rfl 32 szOf24 _ (shaV rootK (xorL kb 54 ++ l)) 24 (heap_alloc_new _ _) rfl rfl (shaV_size _ _) (shaV_one _ _) ?_; intro w3 hs3 hf3 hbl3))
    have hin : w3.heap[w2.heap.size]? = some (.cells ((shaB rootK (xorL kb 54 ++ l)).map u8V).toArray 24 (0, 0)) := hs3
    have hz1 := hb1.size
    have hz2 := hb2.size
    have hb03 : Below wc.heap.size wc w3 := ((hb1.trans (hb2.mono hz1)).alloc (by omega) _).trans (hbl3 _ (by omega))
    have hkr3 := hkr.belowS hb03
    have hin3 := Rd.row hin
    have hrb3 := (hb03.block w.heap.size (by omega)).trans HRB.out
    have hz3 := hb03.size
    have HMB : Hid (macB rootK key l = xorL kb 92 ++ shaB rootK (xorL kb 54 ++ l)) := Lib.hid (by unfold macB; rw [HKB.out])
    clear hs3 hf3 hbl3 hin
    go_wp2_with (first
        | (go_at_call 28; (with_reducible refine (xor_at 92 92 rfl A' (some ⟨w2.heap.size, 0, none⟩) c' 32 32 kb (shaB rootK (xorL kb 54 ++ l)) _ (shaB_len _ _) hkr3 hin3 (by omega) (by omega)).mono ?_); rintro e w4 ⟨A4, c4, rfl, hc4, hrd4, hb4⟩)
        | (go_at_call 9; (with_reducible refine (rsum_n A4 c4 96 (xorL kb 92 ++ shaB rootK (xorL kb 54 ++ l)) _ (by simp [xorL, shaB_len]) hrd4 (by omega) hc4).mono ?_); rintro e w5 ⟨rfl, hb5⟩; have hrb5 := (hb5.block w.heap.size (by have := hb4.size; omega)).trans ((hb4.block w.heap.size (by omega)).trans hrb3))
        | (refine stR rfl 24 (.tmp 4) (.tmp 20) rfl rfl w.heap.size rfl 32 szOf24 (Array.replicate 32 (.int .u8 0)) (shaV rootK (xorL kb 92 ++ shaB rootK (xorL kb 54 ++ l))) 24 hrb5 rfl (by simp) (shaV_size _ _) (shaV_one _ _) ?_; intro w6 hs6 hf6 hbl6))
    refine bodyPost_ret (results_cell_row Tryd.results11 _ _ w.heap.size 24 (shaV rootK (xorL kb 92 ++ shaB rootK (xorL kb 54 ++ l))) (0, 0) (.array 32 5) rfl hs6 Tryd.underlying24 rfl (size24 _ _)) rfl ⟨?_, ?_⟩
    · unfold macV; rw [HMB.out]
    · exact ((hb.trans (hb03.mono (by omega))).trans ((hb4.trans (hb5.mono hb4.size)).mono (by omega))).trans (hbl6 _ (Nat.le_refl _))
end Go.Proofs.YtiibpjahmhemmaaDoor
