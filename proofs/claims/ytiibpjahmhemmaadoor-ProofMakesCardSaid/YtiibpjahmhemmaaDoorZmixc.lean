/-
  proof.mix: what the call does to the world.
-/
import Derived.Test.YtiibpjahmhemmaaDoorZror
namespace Go.Ev
open Go Go.Proofs Go.RowKit Go.Proofs.YtiibpjahmhemmaaDoor
set_option maxRecDepth 100000
noncomputable section

/-- words as values -/
def rowV (n : Nat) (g : Nat → Nat) : List Value := (List.range n).map fun i => Value.int .u32 (g i : Int)
def aggV (n : Nat) (g : Nat → Nat) : Value := .agg (rowV n g).toArray
/-- bytes, packed -/
def packB (l : List UInt8) : Nat := packL (l.map UInt8.toNat)
theorem byte_packB (l : List UInt8) (k : Nat) (h : k < l.length) : byte (packB l) k = l[k].toNat := by
  unfold packB
  rw [byte_packL]
  simp [h]

theorem VRs_ints {ρ : Ren} {α : Type} (f : α → Nat) (k : IntKind) : ∀ (l : List α) (vs : List Value), VRs ρ (l.map fun i => AV.int k (.ofNat (f i))) vs → vs = l.map fun i => Value.int k (f i : Int)
  | [], _, h => by cases h; rfl
  | a :: l, _, h => by
    cases h with | cons h1 h2 =>
    cases h1
    rw [VRs_ints f k l _ h2]; rfl
theorem VRs_ofInts {ρ : Ren} {α : Type} (f : α → Nat) (k : IntKind) : ∀ (l : List α), VRs ρ (l.map fun i => AV.int k (.ofNat (f i))) (l.map fun i => Value.int k (f i : Int))
  | [] => .nil
  | a :: l => .cons (.int k (f a : Int)) (VRs_ofInts f k l)

theorem below_of_Wx {w w' : World} (h : Wx w w') : Below w.heap.size w w' := ⟨h.os, h.tape, h.output, h.size, h.old⟩

/-- the table of proof.mix lies in block 0 -/
def Tab (w : World) (K : Nat → Nat) : Prop := ∃ C e fz, w.heap[0]? = some (.cells C e fz) ∧ ∀ k, k < 64 → C[k]? = some (.int .u32 (K k : Int))
theorem Tab.below {w w' : World} {K : Nat → Nat} (h : Tab w K) (hb : Below w.heap.size w w') : Tab w' K := by
  obtain ⟨C, e, fz, h1, h2⟩ := h
  exact ⟨C, e, fz, by rw [hb.block 0 ((Array.getElem?_eq_some_iff.1 h1).1)]; exact h1, h2⟩
theorem Tab.belowB {w w' : World} {K : Nat → Nat} {B : Nat} (hB : 0 < B) (h : Tab w K) (hb : Below B w w') : Tab w' K := by
  obtain ⟨C, e, fz, h1, h2⟩ := h
  exact ⟨C, e, fz, by rw [hb.block 0 hB]; exact h1, h2⟩
theorem Tab.pos {w : World} {K : Nat → Nat} (h : Tab w K) : 0 < w.heap.size := by
  obtain ⟨C, e, fz, h1, _⟩ := h
  exact (Array.getElem?_eq_some_iff.1 h1).1

theorem block_of_cell {w : World} {b o : Nat} {v : Value} (h : w.cell? ⟨b, o, none⟩ = some v) : ∃ C e fz, w.heap[b]? = some (.cells C e fz) ∧ C[o]? = some v := by
  unfold World.cell? at h
  split at h
  · rename_i C e fz hb; exact ⟨C, e, fz, hb, h⟩
  · cases h

theorem roCells_get (K : Nat → Nat) (k : Nat) (hk : k < 64) : ((T.full (depthOf 64 (row32 64 K).length) AV.top).setL 0 (row32 64 K)).get k = u32A (K k) := by
  have hl : (row32 64 K).length = 64 := by simp [row32]
  have hd : depthOf 64 64 = 6 := by kernel_rfl
  rw [hl, hd, T.get_setL (d := 6) _ _ 0 k (T.Ok_full _ _) (by rw [hl]; decide) (by omega), dif_pos (by rw [hl]; omega)]
  simp [row32]

theorem mixSt0_roA (K : Nat → Nat) (m : Nat) : ((mixSt0 K m).heap.get 0).writable = false := by kernel_rfl
theorem mixSt0_roB (K : Nat → Nat) (m : Nat) : ((mixSt0 K m).heap.get 1).writable = false := by kernel_rfl
theorem mixSt0_ro (K : Nat → Nat) (m i : Nat) (hi : i < 2) : ((mixSt0 K m).heap.get i).writable = false := by
  have : i = 0 ∨ i = 1 := by omega
  rcases this with rfl | rfl
  · exact mixSt0_roA K m
  · exact mixSt0_roB K m
theorem ntmps22 : Tryd.f22.ntmps = 192 := by kernel_rfl
theorem body22_is : Tryd.f22.body = some b22 := by kernel_rfl

theorem mix_calls (w : World) (K h : Nat → Nat) (A : Option Addr) (c : Nat) (l : List UInt8) (hl : l.length = 64) (hc : 64 ≤ c) (hT : Tab w K) (hr : Rd w w.heap.size A l) :
    Calls Tryd.prog 22 #[aggV 8 h, .slice A 64 c] w fun e w' => e = .returned (aggV 8 (mixS K h (packB l))) ∧ Below w.heap.size w w' := by
  obtain ⟨b, o, rfl, hbB, hcell⟩ := hr (by rintro rfl; simp at hl)
  obtain ⟨C0, e0, fz0, hb0, hC0⟩ := hT
  obtain ⟨C1, e1, fz1, hb1, _⟩ := block_of_cell (hcell 0 (by omega))
  have hC1 : ∀ k (hk : k < l.length), C1[o + k]? = some (u8V l[k]) := by
    intro k hk
    have := hcell k hk
    simpa [World.cell?, hb1] using this
  have hsz0 : 64 ≤ C0.size := by
    have := hC0 63 (by omega)
    have := (Array.getElem?_eq_some_iff.1 this).1; omega
  have hsz1 : o + 64 ≤ C1.size := by
    have := hC1 63 (by omega)
    have := (Array.getElem?_eq_some_iff.1 this).1; omega
  let ρ : Ren := fun i => if i = 0 then some ⟨0, 0, C0.size⟩ else if i = 1 then some ⟨b, o, C1.size⟩ else none
  have hR : Rel ρ (mixSt0 K (packB l)) w := by
    refine ⟨((T.Ok_full 3 _).set 0 _).set 1 _, (show (2 : Nat) ≤ 2 ^ 3 by decide), ?_, ?_, ?_⟩
    · intro i hi
      have hi' : 2 ≤ i := hi
      simp only [ρ]
      rw [if_neg (by omega), if_neg (by omega)]
    · intro i hi _
      have hi' : i < 2 := hi
      have : i = 0 ∨ i = 1 := by omega
      rcases this with rfl | rfl
      · refine ⟨⟨0, 0, C0.size⟩, _, rfl, hb0, ?_⟩
        have hg : (mixSt0 K (packB l)).heap.get 0 = roCells (row32 64 K) := by
          show ((((T.full 3 AO.dead).set 0 (roCells (row32 64 K))).set 1 _)).get 0 = _
          rw [T.get_set_ne 3 _ 1 0 _ ((T.Ok_full 3 _).set 0 _) (by decide) (by decide) (by decide), T.get_set_same]
        rw [hg]
        have hl64 : (row32 64 K).length = 64 := by simp [row32]
        refine ⟨(T.Ok_full _ _).setL, by rw [hl64]; decide, C0, e0, fz0, rfl, by rw [hl64]; simpa using hsz0, Nat.le_refl _, ?_, by intro h; cases h⟩
        intro k hk
        rw [hl64] at hk
        refine ⟨_, by rw [Nat.zero_add]; exact hC0 k hk, ?_⟩
        rw [roCells_get K k hk]
        exact .int .u32 (K k : Int)
      · refine ⟨⟨b, o, C1.size⟩, _, rfl, hb1, ?_⟩
        have hg : (mixSt0 K (packB l)).heap.get 1 = .bytes false 64 (packB l) := T.get_set_same ((T.full 3 AO.dead).set 0 (roCells (row32 64 K))) 1 _
        rw [hg]
        refine ⟨C1, e1, fz1, rfl, hsz1, Nat.le_refl _, ?_, by intro h; cases h⟩
        intro k hk
        have hk' : k < l.length := by omega
        rw [hC1 k hk', byteV, byte_packB l k hk']
    · intro i j L M hi hj _ _ hw
      have hj' : j < 2 := hj
      exfalso
      rw [mixSt0_ro _ _ j hj'] at hw
      cases hw
  have hG : Glob ρ 1 := fun g hg => by
    obtain rfl : g = 0 := by omega
    exact ⟨C0.size, rfl⟩
  have hA : VRs ρ [.agg (row32 8 h), .slice 1 0 64 c 0] (#[aggV 8 h, .slice (some ⟨b, o, none⟩) 64 c] : Array Value).toList := by
    refine .cons (.agg _ _ ?_) (.cons ?_ .nil)
    · exact VRs_ofInts h .u32 (List.range 8)
    · exact VR.slice 1 0 64 c 0 c ⟨b, o, C1.size⟩ rfl (by omega) hc (fun _ => rfl) (fun h => absurd rfl h)
  have hres : resA Tryd.prog frE4 (mixSt K (wAll (packB l)) (packB l) (mixS K h (packB l)) (mixS K h (packB l))) Tryd.f22.results.toList = some [.agg (row32 8 (mixS K h (packB l)))] := by
    generalize wAll (packB l) = W
    generalize mixS K h (packB l) = g
    generalize packB l = m
    kernel_rfl
  have ht := body22 callS_ok K h (packB l) c
  have hcalls := calls_of_Tr (f := 22) Tryd.func22 body22_is (args := [.agg (row32 8 h), .slice 1 0 64 c 0]) (by rw [ntmps22]; show (2 : Nat) ≤ 192; omega) (by rw [ntmps22]; decide) (by rw [ntmps22]; exact ht) (.inr rfl) hres hR hG hA
  refine hcalls.mono ?_
  rintro e w' ⟨vc, ρ', rfl, hv, hg⟩
  refine ⟨?_, below_of_Wx (hg.Wx ?_)⟩
  · have hv' : VR ρ' (.agg (row32 8 (mixS K h (packB l)))) vc := hv
    generalize mixS K h (packB l) = g at hv' ⊢
    cases hv' with | agg _ a ha =>
    have := VRs_ints g .u32 (List.range 8) _ ha
    obtain ⟨al⟩ := a
    simp only at this
    subst this
    rfl
  · exact fun i hi => mixSt0_ro _ _ i hi

end
end Go.Ev
