/-
  chanceryref28.Proof: what the call does.
-/
import Derived.Test.YtiibpjahmhemmaaDoorKrmac
import Derived.Test.YtiibpjahmhemmaaDoorKproof
namespace Go.Proofs.YtiibpjahmhemmaaDoor
open Go Go.RowKit Go.Ev

theorem rmac_str (A C : Option Addr) (c d n : Nat) (key : ByteArray) (l : List UInt8) (w : World) (hk : Rd w w.heap.size A key.data.toList) (hr : Rd w w.heap.size C l) (hkl : key.size ≤ 1000) (hl : l.length ≤ 2000) (hkc : key.size ≤ c) (hn : n = l.length) :
    Calls Tryd.prog 11 #[.slice A key.size c, .slice C n d] w fun e w' => e = .returned (.agg (macV rootK key.data.toList l)) ∧ Below w.heap.size w w' := by
  subst hn
  have e : key.data.toList.length = key.size := by simp
  have h := rmac_any A C c d key.data.toList l w hk hr (by omega) (by omega) (by omega)
  rw [e] at h
  exact h

set_option maxHeartbeats 2000000 in
theorem rproof_any (key role : ByteArray) (t : Int) (draw : Nat) (w : World) (hks : key.size ≤ 1000) (hrs : role.size ≤ 1000) (ht : -9223372036854775808 ≤ t) (ht2 : t ≤ 9223372036854775807) (hd : draw ≤ 18446744073709551615) :
    Calls Tryd.prog 15 #[.string key, .int .i64 t, .string role, .int .u64 draw] w fun e w' => ∃ v, e = .returned v ∧ Own w' w.heap.size v (proofB rootK key t role draw) ∧ Below w.heap.size w w' := by
  obtain ⟨c0, w0, hcv, hrd0, hb0, hc0, hz0⟩ := conv_str key w
  have HZ := Lib.hid hz0
  clear hz0
  have HML := Lib.hid (show (msgL t role.data.toList draw).length ≤ 2000 by simp [msgL, be64]; have : role.data.size = role.size := rfl; omega)
  have HKL := Lib.hid (show key.data.toList.length = key.size by simp)
  go_enter Tryd.func15, Tryd.ntmps15
  go_upto_region 2 with (first
    | (go_at_call 18; refine (refmsg_any t role draw _ ht ht2 (by omega) hd).mono ?_; rintro e w1 ⟨v1, rfl, hown1, hb1⟩; obtain ⟨A1, c1, rfl, hc1, _, hrd1⟩ := hown1.sl (n := (msgL t role.data.toList draw).length) rfl)
    | (go_at_call 11; go_loud (refine (rmac_str _ _ _ _ _ key (msgL t role.data.toList draw) _ (hrd0.belowS hb1) hrd1 (by omega) HML.out hc0 rfl).mono ?_); rintro e w2 ⟨rfl, hb2⟩)
    | (refine stR rfl 24 (.tmp 9) (.tmp 17) rfl rfl w2.heap.size rfl 32 szOf24 _ (macV rootK key.data.toList (msgL t role.data.toList draw)) 24 (heap_alloc_new _ _) rfl rfl (shaV_size _ _) (shaV_one _ _) ?_; intro w3 hs3 hf3 hbl3))
  have hbm : Below w.heap.size w w2 := (hb0.trans (hb1.mono hb0.size)).trans (hb2.mono (Nat.le_trans hb0.size hb1.size))
  have hz2 := hbm.size
  have hb3 : Below w.heap.size w w3 := (hbm.alloc hz2 _).trans (hbl3 _ hz2)
  have hz3 := hb3.size
  have hrd3 : Rd w3 w3.heap.size (some ⟨w2.heap.size, 0, none⟩) (proofB rootK key t role draw) := Rd.row hs3
  have HPL := Lib.hid (shaB_len rootK (macB rootK key.data.toList (msgL t role.data.toList draw)))
  clear hs3 hf3 hbl3 hcv hrd0 hrd1 hown1 hc1 hb1 hb2 hb0
  go_wp2_with (at_builtin; go_loud (refine apB rfl (.tmp 18) (.tmp 19) rfl w.heap.size _ [] rfl (Own.nil _ _) w3.heap.size _ 32 32 (proofB rootK key t role draw) rfl ?x0 hrd3 ?x1 ?x2 ?_))
  case x0 => exact HPL.out.symm
  case x1 => have := HPL.out; unfold proofB; simp; omega
  case x2 => omega
  intro v4 w4 hown4 hb4 _ _
  go_wp2
  go_ret
  exact ⟨_, rfl, by simpa using hown4, hb3.trans hb4⟩
end Go.Proofs.YtiibpjahmhemmaaDoor
