/-
  chancerylaw28.ProofMakes: what the call does.
-/
import Derived.Test.YtiibpjahmhemmaaDoorKrproof
import Derived.Test.YtiibpjahmhemmaaDoorKholds
namespace Go.Proofs.YtiibpjahmhemmaaDoor
open Go Go.RowKit
open Go.Ev (Tab Tab.belowB Tab.below Tab.pos)

/-- all but the block g is as it was; the block g is a row of bytes still -/
def Zg (w w' : World) (g : Nat) : Prop := Below g w w' ∧ w'.heap.size = w.heap.size ∧ (∀ j, j ≠ g → w'.heap[j]? = w.heap[j]?) ∧ ∃ cur, w'.heap[g]? = some (.cells cur 5 (0, 0)) ∧ 32 ≤ cur.size
section
variable {w w' : World} {g : Nat}
theorem Zg.start {B : Nat} {c : Nat} {l : List UInt8} (h : Own w B (.slice (some ⟨g, 0, none⟩) 32 c) l) : Zg w w g := by
  refine ⟨Below.refl _ _, rfl, fun _ _ => rfl, ?_⟩
  rcases h.2 with ⟨h1, _⟩ | ⟨g', cap, cur, h1, _, h3, h4, _, h6, _⟩
  · cases h1
  · injection h1 with h1 h2 _
    injection h1 with h1
    injection h1 with h1 _ _
    subst h1
    exact ⟨cur, h3, by omega⟩
theorem Zg.cell (h : Zg w w' g) {k : Nat} (hk : k < 32) : ∃ v, w'.cell? ⟨g, k, none⟩ = some v := by
  obtain ⟨_, _, _, cur, h1, h2⟩ := h
  exact ⟨cur[k]'(by omega), by simp [World.cell?, h1, show k < cur.size by omega]⟩
theorem Zg.frozen (h : Zg w w' g) (k : Nat) : w'.frozen? ⟨g, k, none⟩ = false := by
  obtain ⟨_, _, _, cur, h1, h2⟩ := h
  simp [World.frozen?, h1]
theorem Zg.set (h : Zg w w' g) (k : Nat) (u : Value) : Zg w (w'.setCell ⟨g, k, none⟩ u) g := by
  obtain ⟨h0, h1, h2, cur, h3, h4⟩ := h
  refine ⟨h0.setCell (Nat.le_refl _) u, by simpa [World.setCell] using h1, fun j hj => (Below.heap_setCell _ _ _ _ hj).trans (h2 j hj), cur.setIfInBounds k u, ?_, by simpa using h4⟩
  simp [World.setCell, Array.getElem?_modify, h3]
theorem Zg.tab {K : Nat → Nat} (h : Zg w w' g) (hT : Tab w K) (hg : 0 < g) : Tab w' K := by
  obtain ⟨C, e, fz, k1, k2⟩ := hT
  exact ⟨C, e, fz, (h.2.2.1 0 (by omega)).trans k1, k2⟩
theorem Zg.own {B : Nat} {v : Value} {l : List UInt8} (h : Zg w w' g) (ho : Own w B v l) (hB : g < B) : Own w' B v l :=
  ho.blocks fun k hk => h.2.2.1 k (by have := ho.blk k hk; omega)
end
theorem same_yes (A C : Option Addr) (n m c d : Nat) (l : List UInt8) (w : World) (hr : Rd w w.heap.size A l) (hm : Rd w w.heap.size C l) (hl : l.length ≤ 1099511627775) (hn : n = l.length) (hm2 : m = l.length) :
    Calls Tryd.prog 16 #[.slice A n c, .slice C m d] w fun e w' => e = .returned (.bool true) ∧ Below w.heap.size w w' := by
  subst hn; subst hm2
  refine (same_any A C c d l l w hr hm hl (by omega)).mono ?_
  rintro e w' ⟨rfl, hb⟩
  exact ⟨by simp, hb⟩
theorem proof_sl (key role : ByteArray) (t : Int) (draw : Nat) (w : World) (hT : Tab w rootK) (hks : key.size ≤ 1000) (hrs : role.size ≤ 1000) (ht : -9223372036854775808 ≤ t) (ht2 : t ≤ 9223372036854775807) (hd : draw ≤ 18446744073709551615) :
    Calls Tryd.prog 14 #[.string key, .int .i64 t, .string role, .int .u64 draw] w fun e w' => ∃ g c, e = .returned (.slice (some ⟨g, 0, none⟩) 32 c) ∧ g < w'.heap.size ∧ w.heap.size ≤ g ∧ 32 ≤ c ∧ Own w' w.heap.size (.slice (some ⟨g, 0, none⟩) 32 c) (proofB rootK key t role draw) ∧ Below w.heap.size w w' := by
  refine (proof_any rootK key role t draw w hT hks hrs ht ht2 hd).mono ?_
  rintro e w' ⟨v, rfl, hown, hb⟩
  rcases hown.form with ⟨_, h0⟩ | ⟨g, c, rfl, h1, h2, h3, h4, _⟩
  · exfalso; have := proofB_len rootK key t role draw; rw [h0] at this; simp at this
  · rw [proofB_len] at hown h3
    exact ⟨g, c, by rw [proofB_len], h2, h1, h3, hown, hb⟩
theorem rproof_sl (key role : ByteArray) (t : Int) (draw : Nat) (w : World) (hks : key.size ≤ 1000) (hrs : role.size ≤ 1000) (ht : -9223372036854775808 ≤ t) (ht2 : t ≤ 9223372036854775807) (hd : draw ≤ 18446744073709551615) :
    Calls Tryd.prog 15 #[.string key, .int .i64 t, .string role, .int .u64 draw] w fun e w' => ∃ g c, e = .returned (.slice (some ⟨g, 0, none⟩) 32 c) ∧ Own w' w.heap.size (.slice (some ⟨g, 0, none⟩) 32 c) (proofB rootK key t role draw) ∧ Below w.heap.size w w' := by
  refine (rproof_any key role t draw w hks hrs ht ht2 hd).mono ?_
  rintro e w' ⟨v, rfl, hown, hb⟩
  rcases hown.form with ⟨_, h0⟩ | ⟨g, c, rfl, h1, h2, h3, h4, _⟩
  · exfalso; have := proofB_len rootK key t role draw; rw [h0] at this; simp at this
  · rw [proofB_len] at hown
    exact ⟨g, c, by rw [proofB_len], hown, hb⟩
theorem msg_sl (t : Int) (s : ByteArray) (draw : Nat) (w : World) (ht : -9223372036854775808 ≤ t) (ht2 : t ≤ 9223372036854775807) (hs : s.size ≤ 1000000) (hd : draw ≤ 18446744073709551615) :
    Calls Tryd.prog 17 #[.int .i64 t, .string s, .int .u64 draw] w fun e w' => ∃ A c, e = .returned (.slice A (msgL t s.data.toList draw).length c) ∧ Rd w' w'.heap.size A (msgL t s.data.toList draw) ∧ Below w.heap.size w w' := by
  refine (message_any t s draw w ht ht2 hs hd).mono ?_
  rintro e w' ⟨v, rfl, hown, hb⟩
  obtain ⟨A, c, rfl, _, _, hr⟩ := hown.slice
  exact ⟨A, c, rfl, hr, hb⟩
theorem rmsg_sl (t : Int) (s : ByteArray) (draw : Nat) (w : World) (ht : -9223372036854775808 ≤ t) (ht2 : t ≤ 9223372036854775807) (hs : s.size ≤ 1000000) (hd : draw ≤ 18446744073709551615) :
    Calls Tryd.prog 18 #[.int .i64 t, .string s, .int .u64 draw] w fun e w' => ∃ A c, e = .returned (.slice A (msgL t s.data.toList draw).length c) ∧ Rd w' w'.heap.size A (msgL t s.data.toList draw) ∧ Below w.heap.size w w' := by
  refine (refmsg_any t s draw w ht ht2 hs hd).mono ?_
  rintro e w' ⟨v, rfl, hown, hb⟩
  obtain ⟨A, c, rfl, _, _, hr⟩ := hown.slice
  exact ⟨A, c, rfl, hr, hb⟩

set_option maxHeartbeats 2000000 in
set_option maxRecDepth 100000 in
theorem makeslaw_any (key role : ByteArray) (t : Int) (draw : Nat) (w : World) (hT : Tab w rootK) (ht : -9223372036854775808 ≤ t) (ht2 : t ≤ 9223372036854775807) (hd : draw ≤ 18446744073709551615)
    (hks : key.size ≤ 9223372036854775807) (hrs : role.size ≤ 9223372036854775807) :
    Calls Tryd.prog 4 #[.agg (clA key t role draw)] w fun e w' => e = .returned (.bool true) ∧ Below w.heap.size w w' := by
  have hbA : ∀ o, Below w.heap.size w (w.alloc o) := fun o => (Below.refl _ _).alloc (Nat.le_refl _) o
  by_cases h1 : 300 < key.size
  · have h1' : (300 : Int) < (key.size : Int) := by omega
    go_enter Tryd.func4, Tryd.ntmps4
    go_wp2_with (go_at_call 13; refine (awake_any _ (hT.below (hbA _))).mono ?_; rintro e w1 ⟨rfl, hb⟩)
    go_ret
    exact ⟨rfl, (hbA _).trans (hb.mono (by simp))⟩
  by_cases h2 : 300 < role.size
  · have h1' : ¬ (300 : Int) < (key.size : Int) := by omega
    have h2' : (300 : Int) < (role.size : Int) := by omega
    go_enter Tryd.func4, Tryd.ntmps4
    go_wp2_with (go_at_call 13; refine (awake_any _ (hT.below (hbA _))).mono ?_; rintro e w1 ⟨rfl, hb⟩)
    go_ret
    exact ⟨rfl, (hbA _).trans (hb.mono (by simp))⟩
  have h1' : ¬ (300 : Int) < (key.size : Int) := by omega
  have h2' : ¬ (300 : Int) < (role.size : Int) := by omega
  have hcl0 : CL (w.alloc (.cells (clA key t role draw) 31)) w.heap.size key t role draw := heap_alloc_new _ _
  have hb0 := hbA (.cells (clA key t role draw) 31)
  have hT0 := hT.below hb0
  clear hbA
  go_enter Tryd.func4, Tryd.ntmps4
  go_upto_region 3 with fail
  generalize hw0 : w.alloc (.cells (clA key t role draw) 31) = w0 at *
  have hTD : Tab w0.drew rootK := hT0
  have hclD : CL w0.drew w.heap.size key t role draw := hcl0
  have hbbD : Below w.heap.size w w0.drew := hb0.drew
  obtain ⟨z0, z1, z2, z3⟩ := hcl0.cells
  clear hT0 hb0 hw0
  go_region_held3 (fun w' => w'.cell? ⟨w.heap.size, 0, none⟩ = some (.string key) ∧ w'.cell? ⟨w.heap.size, 1, none⟩ = some (.int .i64 t) ∧ w'.cell? ⟨w.heap.size, 2, none⟩ = some (.string role) ∧ w'.cell? ⟨w.heap.size, 3, none⟩ = some (.int .u64 (draw : Int)))
    (first | exact ⟨z0, z1, z2, z3⟩ | exact CL.cells (by assumption) | go_keep)
    (first
      | (go_at_call 14; (refine (proof_sl key role t draw _ hTD (by omega) (by omega) ht ht2 hd).mono ?_); rintro e V1 ⟨g1, c1, rfl, hg1, hgb1, hcc1, hown1, hbV1⟩; have hclV1 : CL V1 w.heap.size key t role draw := hclD.below hbV1; have hTV1 := hTD.below hbV1; have hbbV1 := hbbD.trans (hbV1.mono hbbD.size); have hgw : w.heap.size ≤ g1 := Nat.le_trans hbbD.size hgb1; have htp : 0 < g1 := Nat.lt_of_lt_of_le hTD.pos hgb1; clear hTD hbV1 hbbD)
      | (go_at_call 14; (refine (proof_sl key role t draw _ hTV1 (by omega) (by omega) ht ht2 hd).mono ?_); rintro e V2 ⟨g2, c2, rfl, hg2, hgb2, hcc2, hown2, hbV2⟩; have hclV2 : CL V2 w.heap.size key t role draw := hclV1.below hbV2; have hTV2 := hTV1.below hbV2; have hbbV2 := hbbV1.trans (hbV2.mono hbbV1.size); have hownP := hown1.belowS hbV2; clear hTV1 hbV2 hbbV1 hclV1 hown1))
  obtain ⟨y0, y1, y2, y3⟩ := hclV2.cells
  clear z0 z1 z2 z3
  go_upto_region 5 with (first
    | (go_at_call 15; (with_reducible refine (rproof_sl key role t draw _ (by omega) (by omega) ht ht2 hd).mono ?_); rintro e V3 ⟨g3, c3, rfl, hown3, hbV3⟩))
  have hclV3 : CL V3 w.heap.size key t role draw := hclV2.below hbV3
  have hTV3 := hTV2.below hbV3
  have hbbV3 := hbbV2.trans (hbV3.mono hbbV2.size)
  have hownP3 := hownP.belowS hbV3
  have hownQ3 := hown2.belowS hbV3
  have hz3 := hbV3.size
  clear hclV2 hTV2 hbbV2 hownP hown2 hbV3 y0 y1 y2 y3
  have HPL := Lib.hid (proofB_len rootK key t role draw)
  have HML := Lib.hid (show (msgL t role.data.toList draw).length ≤ 2000 by simp [msgL, be64]; have : role.data.size = role.size := rfl; omega)
  have hTE : Tab V3.drew rootK := hTV3
  have hclE : CL V3.drew w.heap.size key t role draw := hclV3
  have hbbE : Below w.heap.size w V3.drew := hbbV3.drew
  have hPE : Own V3.drew _ _ _ := hownP3
  have hQE : Own V3.drew _ _ _ := hownQ3
  have hWE : Own V3.drew _ _ _ := hown3
  have hsE : V3.heap.size = V3.drew.heap.size := rfl
  obtain ⟨z0, z1, z2, z3⟩ := hclV3.cells
  clear hTV3 hbbV3 hownP3 hownQ3 hown3
  go_region_held3 (fun w' => w'.cell? ⟨w.heap.size, 0, none⟩ = some (.string key) ∧ w'.cell? ⟨w.heap.size, 1, none⟩ = some (.int .i64 t) ∧ w'.cell? ⟨w.heap.size, 2, none⟩ = some (.string role) ∧ w'.cell? ⟨w.heap.size, 3, none⟩ = some (.int .u64 (draw : Int)))
    (first | exact ⟨z0, z1, z2, z3⟩ | exact CL.cells (by assumption) | go_keep)
    (first
      | (go_at_call 16; (refine (same_yes (some ⟨g1, 0, none⟩) (some ⟨g3, 0, none⟩) 32 32 c1 c3 (proofB rootK key t role draw) _ (own_rd hPE) (own_rd hWE) (by have := HPL.out; omega) HPL.out.symm HPL.out.symm).mono ?_); rintro e U1 ⟨rfl, hbU1⟩; have hclU1 : CL U1 w.heap.size key t role draw := hclE.below hbU1; have hPF := hPE; clear hclE hPE)
      | (go_at_call 17; (refine (msg_sl t role draw _ ht ht2 (by omega) hd).mono ?_); rintro e U2 ⟨A4, c4, rfl, hm4, hbU2'⟩; have hclU2 : CL U2 w.heap.size key t role draw := hclU1.below hbU2'; have hbU2 := hbU1.trans (hbU2'.mono hbU1.size); clear hclU1)
      | (go_at_call 18; (refine (rmsg_sl t role draw _ ht ht2 (by omega) hd).mono ?_); rintro e U3 ⟨A5, c5, rfl, hm5, hbU3'⟩; have hclU3 : CL U3 w.heap.size key t role draw := hclU2.below hbU3'; have hbU3 := hbU2.trans (hbU3'.mono hbU2.size); have hm4' := hm4.belowS hbU3'; clear hclU2)
      | (go_at_call 16; (refine (same_yes A4 A5 _ _ c4 c5 (msgL t role.data.toList draw) _ hm4' hm5 (by have := HML.out; omega) rfl rfl).mono ?_); rintro e U4 ⟨rfl, hbU4'⟩; have hclU4 : CL U4 w.heap.size key t role draw := hclU3.below hbU4'; have hbU4 := hbU3.trans (hbU4'.mono hbU3.size); clear hclU3))
  have hTU := hTE.below hbU4
  have hbbU := hbbE.trans (hbU4.mono hbbE.size)
  have hPU := hPF.belowS hbU4
  have hQU := hQE.belowS hbU4
  have hWU := hWE.belowS hbU4
  have hgP := hg1
  clear hclU4 hbU1 hbU2 hbU3 hbU4 hbU2' hbU3' hbU4' hm4 hm5 hm4' hTE hbbE hPF hQE hWE z0 z1 z2 z3 hclV3
  clear hcl0 hclD
  have hz0 := Zg.start hPU
  go_wp2
  go_loopw [6] (fun i wr => ∃ k : Nat, k ≤ 32 ∧ i = .int .i64 k ∧ Zg U4 wr g1) (fun i _ => 32 - (intOf i).toNat)
  case atStart => exact ⟨0, by omega, rfl, hz0⟩
  case round =>
    obtain ⟨k, hk, rfl, hz⟩ := hrel
    by_cases hlt : k < 32
    · obtain ⟨v, hcv⟩ := hz.cell hlt
      have hfz := hz.frozen k
      have hlti : (k : Int) < 32 := by omega
      have hs := hz.set k (.int .u8 0)
      clear hPU hQU hWU hTU hbbU
      go_wp2
      go_roundw
      case rel => exact ⟨k + 1, by omega, by go_num, hs⟩
      case measure => simp [intOf]; omega
    · have hTX := hz.tab hTU htp
      have hQX := hz.own hQU hg1
      have hWX := hz.own hWU (by omega)
      have hbX := hbbU.trans (hz.1.mono hgw)
      clear hPU hQU hWU hTU hbbU hz hz0
      go_wp2_with (first
        | (go_at_call 16; (refine (same_yes (some ⟨g2, 0, none⟩) (some ⟨g3, 0, none⟩) 32 32 c2 c3 (proofB rootK key t role draw) _ (own_rd hQX) (own_rd hWX) (by have := HPL.out; omega) HPL.out.symm HPL.out.symm).mono ?_); rintro e X1 ⟨rfl, hbX1⟩)
        | (go_at_call 13; (with_reducible refine (awake_any _ (hTX.below hbX1)).mono ?_); rintro e X2 ⟨rfl, hbX2⟩))
      go_ret
      exact ⟨rfl, (hbX.trans (hbX1.mono hbX.size)).trans (hbX2.mono (Nat.le_trans hbX.size hbX1.size))⟩
end Go.Proofs.YtiibpjahmhemmaaDoor
