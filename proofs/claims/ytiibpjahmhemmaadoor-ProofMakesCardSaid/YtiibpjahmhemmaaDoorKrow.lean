/-
  What the rows of this seat need: the table 'roots' as it is laid; an argument of bytes, opened.
-/
import Derived.Test.YtiibpjahmhemmaaDoorRows
import Derived.Test.YtiibpjahmhemmaaDoorTie
import Derived.Test.YtiibpjahmhemmaaDoorCards
import Derived.Test.YtiibpjahmhemmaaDoorKawake
import Derived.ProofKit
import Derived.OpenShut
import Derived.LaidMore
import Derived.Lay
import Derived.Carry
import Derived.Lib.SmallJoins
import Derived.ChangeMaps5
import Derived.SevenTiedAt
import Derived.Stop.Joined
namespace Go.Proofs.YtiibpjahmhemmaaDoor
open Go Go.ChangeShapes Go.WideShapes Go.ChangeAt Go.RowKit
open Go.Ev (Tab)

theorem own : ownKnob Tryd.prog.godebug = none := by kernel_rfl
theorem laidOut : laidOutB Tryd.prog = true := by kernel_rfl
theorem cellsU8 : Tryd.prog.cellsOf 5 = 1 := by kernel_rfl
abbrev laidR : List (String × DataW Unit) := [("chancery/proof.roots", Rows.laid_chancery_proof_roots)]

theorem root_cell {W : World} (h : laidMetH Tryd.prog laidR W) (r : Nat) (hr : r < 64) : W.cell? ⟨0, r, none⟩ = some (.int .u32 (rootK r : Int)) := by
  rw [MakeChecks.laidMetH_plain _ _ _ (by kernel_rfl)] at h
  obtain ⟨ps, ⟨g, t, cs, fuel, p, q, hg, ht, hv, hd, _, _⟩, _, _⟩ := h
  obtain rfl := Option.some.inj ((show Tryd.prog.globalNamed "chancery/proof.roots" = some 0 by kernel_rfl).symm.trans hg)
  obtain rfl := Option.some.inj ((show (Tryd.prog.globals[0]?).map (·.type) = some 43 by kernel_rfl).symm.trans ht)
  obtain ⟨xs, m, _, ex, _, hl, hel⟩ := DataW.trod_array Tryd.underlying43 hd
  have c5 : Tryd.prog.cellsOf 38 = 1 := by kernel_rfl
  have hE := hel r hr
  rw [c5, Nat.mul_one, List.getElem?_eq_getElem (by omega)] at hE
  obtain ⟨z, e1, e2, _⟩ := DataW.trod_int Tryd.underlying38 hE
  have hlen : rootL.length = 64 := by kernel_rfl
  have e3 : (xs.map (·.1)) = rootL.map fun n : Nat => .lit (.int .u32 (n : Int)) := (DataW.agg.inj (Prod.mk.inj ex).1).symm
  have e4 : (xs.map (·.1))[r]? = (rootL.map fun n : Nat => (DataW.lit (.int .u32 (n : Int)) : DataW Unit))[r]? := by rw [e3]
  rw [List.getElem?_map, List.getElem?_map, List.getElem?_eq_getElem (by omega : r < xs.length), List.getElem?_eq_getElem (by omega : r < rootL.length), e2] at e4
  have hz : z = (rootK r : Int) := by
    simp only [Option.map_some, Option.some.injEq, DataW.lit.injEq, Lit.int.injEq, true_and] at e4
    rw [e4, rootK, List.getD, List.getElem?_eq_getElem (by omega : r < rootL.length)]; rfl
  rw [World.var?_cell hg hv r, ← hz]
  have : cs.toList[r]? = some (.int .u32 z) := by
    have h0 : ((cs.toList.drop r).take 1)[0]? = some (.int .u32 z) := by rw [e1]; rfl
    simpa using h0
  simpa using this
theorem tab_of_laid {W : World} (h : laidMetH Tryd.prog laidR W) : Tab W rootK := by
  obtain ⟨C, e, fz, hb, _⟩ := Go.Ev.block_of_cell (root_cell h 0 (by omega))
  refine ⟨C, e, fz, hb, fun k hk => ?_⟩
  have := root_cell h k hk
  simpa [World.cell?, hb] using this

/-- an argument of type []byte, opened, nil or not -/
theorem opened {H : Type} {enc : TypeId × Value → H} {W : World} {a0 : Option Addr} {len cap : Nat} {d0 : DataW H} {p : List MemPlace}
    (h0 : DataW.Trod enc Tryd.prog W 0 (fun _ => true) true 22 (.slice a0 len cap) d0 p) :
    ∃ l : List UInt8, l.length = len ∧ len ≤ cap ∧ cap ≤ maxLen ∧ Rd W W.heap.size a0 l := by
  obtain ⟨fuel, hf⟩ := h0
  rcases open_ints Tryd.underlying22 Tryd.underlying5 cellsU8 hf with ⟨hcs, hx⟩ | ⟨a, len', cap', zs, hcs, _, hl, hm, hz, hx, hcell, hwz⟩
  · simp [Value.cells] at hcs
    obtain ⟨rfl, rfl, rfl⟩ := hcs
    exact ⟨[], rfl, Nat.le_refl _, Nat.zero_le _, .nil _ _ _⟩
  · simp [Value.cells] at hcs
    obtain ⟨rfl, rfl, rfl⟩ := hcs
    simp only [if_true] at hz
    refine ⟨(zs.take len).map fun z => UInt8.ofNat z.toNat, by simp; omega, hl, hm, fun hne => ?_⟩
    have hpos : 0 < len := by
      rcases Nat.eq_zero_or_pos len with h | h
      · subst h; simp at hne
      · exact h
    obtain ⟨b, o, s⟩ := a
    obtain rfl : s = none := by simpa [Addr.add] using World.cell?_spot (hcell 0 (by omega))
    have hc0 := hcell 0 (by omega)
    refine ⟨b, o, rfl, by have := block_lt_of_cell hc0; simpa [Addr.add] using this, fun k hk => ?_⟩
    have hk' : k < len := by simp at hk; omega
    have hck := hcell k (by omega)
    rw [Go.WideShapes.add_plain] at hck
    rw [hck]
    have hw := hwz zs[k] (List.getElem_mem (by omega))
    have hb : 0 ≤ zs[k] ∧ zs[k] ≤ 255 := by simpa [Lit.wf, IntKind.wrap, IntKind.signed, IntKind.bits, IntKind.min, IntKind.max] using hw
    simp [u8V, List.getD, show k < zs.length by omega, UInt8.toNat_ofNat']
    omega

end Go.Proofs.YtiibpjahmhemmaaDoor
