/-
  proof.Proof, proof.Holds, chancerylaw28.awake: what each call does.
-/
import Derived.Test.YtiibpjahmhemmaaDoorKmac
import Derived.Laws.IdiomStrings
namespace Go.Proofs.YtiibpjahmhemmaaDoor
open Go Go.RowKit
open Go.Ev (Tab Tab.belowB Tab.below Tab.pos)

noncomputable def proofB (K : Nat → Nat) (key : ByteArray) (t : Int) (role : ByteArray) (draw : Nat) : List UInt8 := shaB K (macB K key.data.toList (msgL t role.data.toList draw))

theorem conv_str (s : ByteArray) (w : World) : ∃ c0 w0, (convert 9 22 (.string s)).run Tryd.prog w = .ok (.slice (some ⟨w.heap.size, 0, none⟩) s.size c0) w0 ∧ Rd w0 w0.heap.size (some ⟨w.heap.size, 0, none⟩) s.data.toList ∧ Below w.heap.size w w0 ∧ s.size ≤ c0 ∧ w0.heap.size = w.heap.size + 1 := by
  have h := run_bytes_of_string (P := Tryd.prog) w 9 22 5 s Tryd.underlying9 Tryd.underlying22 Tryd.underlying5
  refine ⟨_, _, h, ?_, ⟨rfl, rfl, rfl, by simp, fun k hk => Below.heap_alloc w.drew _ k hk⟩, grownCap_ge w s.size 0 5, by simp⟩
  intro hne
  refine ⟨w.heap.size, 0, rfl, by simp, fun k hk => ?_⟩
  have hn : (w.drew.alloc (.cells (bytesRow s (grownCap w s.size 0 5)) 5 ((bytesRow s (grownCap w s.size 0 5)).size, (bytesRow s (grownCap w s.size 0 5)).size + 1))).heap[w.heap.size]? = _ := heap_alloc_new w.drew _
  simp only [World.cell?, hn, Nat.zero_add]
  unfold bytesRow
  have hk' : k < s.data.size := by simpa using hk
  rw [Array.getElem?_append_left (by simpa using hk')]
  simp [hk']
  exact ⟨_, Array.getElem?_eq_getElem hk', rfl⟩

theorem mac_str (K : Nat → Nat) (A C : Option Addr) (c d n : Nat) (key : ByteArray) (l : List UInt8) (w : World) (hT : Tab w K) (hk : Rd w w.heap.size A key.data.toList) (hr : Rd w w.heap.size C l) (hkl : key.size ≤ 1000) (hl : l.length ≤ 2000) (hkc : key.size ≤ c) (hn : n = l.length) :
    Calls Tryd.prog 10 #[.slice A key.size c, .slice C n d] w fun e w' => e = .returned (.agg (macV K key.data.toList l)) ∧ Below w.heap.size w w' := by
  subst hn
  have e : key.data.toList.length = key.size := by simp
  have h := mac_any K A C c d key.data.toList l w hT hk hr (by omega) (by omega) (by omega)
  rw [e] at h
  exact h

set_option maxHeartbeats 1000000 in
theorem proof_any (K : Nat → Nat) (key role : ByteArray) (t : Int) (draw : Nat) (w : World) (hT : Tab w K) (hks : key.size ≤ 1000) (hrs : role.size ≤ 1000) (ht : -9223372036854775808 ≤ t) (ht2 : t ≤ 9223372036854775807) (hd : draw ≤ 18446744073709551615) :
    Calls Tryd.prog 14 #[.string key, .int .i64 t, .string role, .int .u64 draw] w fun e w' => ∃ v, e = .returned v ∧ Own w' w.heap.size v (proofB K key t role draw) ∧ Below w.heap.size w w' := by
  obtain ⟨c0, w0, hcv, hrd0, hb0, hc0, hz0⟩ := conv_str key w
  have HZ := Lib.hid hz0
  clear hz0
  have HML := Lib.hid (show (msgL t role.data.toList draw).length ≤ 2000 by simp [msgL, be64]; have : role.data.size = role.size := rfl; omega)
  have HKL := Lib.hid (show key.data.toList.length = key.size by simp)
  go_enter Tryd.func14, Tryd.ntmps14
  go_upto_region 2 with (first
    | (go_at_call 17; refine (message_any t role draw _ ht ht2 (by omega) hd).mono ?_; rintro e w1 ⟨v1, rfl, hown1, hb1⟩; obtain ⟨A1, c1, rfl, hc1, _, hrd1⟩ := hown1.sl (n := (msgL t role.data.toList draw).length) rfl)
    | (go_at_call 10; go_loud (refine (mac_str K _ _ _ _ _ key (msgL t role.data.toList draw) _ (hT.below (hb0.trans (hb1.mono hb0.size))) (hrd0.belowS hb1) hrd1 (by omega) HML.out hc0 rfl).mono ?_); rintro e w2 ⟨rfl, hb2⟩)
    | (refine stR rfl 24 (.tmp 9) (.tmp 16) rfl rfl w2.heap.size rfl 32 szOf24 _ (macV K key.data.toList (msgL t role.data.toList draw)) 24 (heap_alloc_new _ _) rfl rfl (shaV_size _ _) (shaV_one _ _) ?_; intro w3 hs3 hf3 hbl3))
  have hbm : Below w.heap.size w w2 := (hb0.trans (hb1.mono hb0.size)).trans (hb2.mono (Nat.le_trans hb0.size hb1.size))
  have hz2 := hbm.size
  have hb3 : Below w.heap.size w w3 := (hbm.alloc hz2 _).trans (hbl3 _ hz2)
  have hz3 := hb3.size
  have hrd3 : Rd w3 w3.heap.size (some ⟨w2.heap.size, 0, none⟩) (proofB K key t role draw) := Rd.row hs3
  have HPL := Lib.hid (shaB_len K (macB K key.data.toList (msgL t role.data.toList draw)))
  clear hs3 hf3 hbl3 hcv hrd0 hrd1 hown1 hc1 hb1 hb2 hb0
  go_wp2_with (at_builtin; go_loud (refine apB rfl (.tmp 17) (.tmp 18) rfl w.heap.size _ [] rfl (Own.empty _ _ hz3) w3.heap.size _ 32 32 (proofB K key t role draw) rfl ?x0 (hrd3.alloc (Nat.le_refl _) _) ?x1 ?x2 ?_))
  case x0 => exact HPL.out.symm
  case x1 => have := HPL.out; unfold proofB; simp; omega
  case x2 => simp; omega
  intro v4 w4 hown4 hb4 _ _
  go_wp2
  go_ret
  exact ⟨_, rfl, by simpa using hown4, (hb3.alloc hz3 _).trans hb4⟩

theorem proofB_len (K : Nat → Nat) (key : ByteArray) (t : Int) (role : ByteArray) (draw : Nat) : (proofB K key t role draw).length = 32 := shaB_len _ _

set_option maxHeartbeats 1000000 in
theorem holds_any (K : Nat → Nat) (key role : ByteArray) (t : Int) (draw : Nat) (A : Option Addr) (n c : Nat) (l : List UInt8) (w : World) (hT : Tab w K) (hks : key.size ≤ 1000) (hrs : role.size ≤ 1000) (ht : -9223372036854775808 ≤ t) (ht2 : t ≤ 9223372036854775807) (hd : draw ≤ 18446744073709551615)
    (hr : Rd w w.heap.size A l) (hn : n = l.length) :
    Calls Tryd.prog 19 #[.string key, .int .i64 t, .string role, .int .u64 draw, .slice A n c] w fun e w' => e = .returned (.bool (decide (l = proofB K key t role draw))) ∧ Below w.heap.size w w' := by
  subst hn
  go_enter Tryd.func19, Tryd.ntmps19
  go_wp2_with (first
    | (go_at_call 14; refine (proof_any K key role t draw _ hT hks hrs ht ht2 hd).mono ?_; rintro e w1 ⟨v1, rfl, hown1, hb1⟩; obtain ⟨A1, c1, rfl, hc1, _, hrd1⟩ := hown1.sl (n := (proofB K key t role draw).length) rfl)
    | (go_at_call 29; refine (equal_any _ _ _ _ l (proofB K key t role draw) _ (hr.belowS hb1) hrd1).mono ?_; rintro e w2 ⟨rfl, rfl⟩))
  go_ret
  exact ⟨rfl, hb1⟩

end Go.Proofs.YtiibpjahmhemmaaDoor
