/-
  chancerykit.KeptBytes and bytes.Equal: what each call does.
-/
import Derived.Test.YtiibpjahmhemmaaDoorKcopy
import Derived.Shelf.Bytes.SlEqualAll
namespace Go.Proofs.YtiibpjahmhemmaaDoor
open Go Go.RowKit

set_option maxHeartbeats 800000 in
theorem kept_any (g cap : Nat) (C : Option Addr) (d : Nat) (l : List UInt8) (w : World) (hr : Rd w w.heap.size (some ⟨g, 0, none⟩) (l ++ [77, 78])) (hcap : l.length + 2 ≤ cap) (hcap2 : cap ≤ 9223372036854775807)
    (hm : Rd w w.heap.size C l) (hl : l.length ≤ 1099511627700) :
    Calls Tryd.prog 12 #[.slice (some ⟨g, 0, none⟩) l.length cap, .slice C l.length d] w fun e w' => e = .returned (.bool true) ∧ Below w.heap.size w w' := by
  have hrl : Rd w w.heap.size (some ⟨g, 0, none⟩) l := fun _ => by
    obtain ⟨b, o, e, hb, hc⟩ := hr (by simp)
    exact ⟨b, o, e, hb, fun k hk => by have := hc k (by simp; omega); rwa [List.getElem_append_left hk] at this⟩
  have h77 : w.cell? ⟨g, l.length, none⟩ = some (.int .u8 77) := by
    obtain ⟨b, o, e, hb, hc⟩ := hr (by simp)
    cases e
    have := hc l.length (by simp)
    simp at this
    exact this
  have h78 : w.cell? ⟨g, l.length + 1, none⟩ = some (.int .u8 78) := by
    obtain ⟨b, o, e, hb, hc⟩ := hr (by simp)
    cases e
    have := hc (l.length + 1) (by simp)
    simp at this
    exact this
  have hg : g < w.heap.size := by
    obtain ⟨b, o, e, hb, hc⟩ := hr (by simp)
    cases e; exact hb
  clear hr
  go_enter Tryd.func12, Tryd.ntmps12
  go_wp2_with (go_at_call 16; refine (same_any _ _ _ _ l l _ hrl hm (by omega) (by omega)).mono ?_; rintro e w1 ⟨rfl, hb⟩; have h77' : w1.cell? ⟨g, l.length, none⟩ = some (.int .u8 77) := (hb.cell hg).trans h77; have h78' : w1.cell? ⟨g, l.length + 1, none⟩ = some (.int .u8 78) := (hb.cell hg).trans h78; clear h77 h78)
  go_ret
  exact ⟨rfl, hb⟩

theorem conv_any {A : Option Addr} {c : Nat} {l : List UInt8} {w : World} {B : Nat} (hr : Rd w B A l) : (convert 22 9 (.slice A l.length c)).run Tryd.prog w = .ok (.string ⟨l.toArray⟩) w := by
  have hb : Lib.BytesIn w A l.length (l.map fun x => (x.toNat : Int)) := fun hn => by
    obtain ⟨b, o, e, _, hc⟩ := hr (by rintro rfl; simp at hn)
    exact ⟨b, o, e, fun i hi => by rw [hc i hi]; simp [u8V, hi]⟩
  have h := hb.convert (P := Tryd.prog) (by simp) c 22 5 9 Tryd.underlying22 Tryd.underlying5 Tryd.underlying9
  rw [h]
  congr 2
  apply ByteArray.ext
  apply Array.ext'
  rw [strOfNums_data, List.map_map]
  show l.map _ = l
  conv => rhs; rw [← List.map_id l]
  apply List.map_congr_left
  intro x _
  simp

theorem equal_any (A C : Option Addr) (c d : Nat) (l m : List UInt8) (w : World) (hr : Rd w w.heap.size A l) (hm : Rd w w.heap.size C m) :
    Calls Tryd.prog 29 #[.slice A l.length c, .slice C m.length d] w fun e w' => e = .returned (.bool (decide (l = m))) ∧ w = w' := by
  have h1 := conv_any (c := c) hr
  have h2 := conv_any (c := d) hm
  go_enter Tryd.func29, Tryd.ntmps29
  go_wp2
  go_ret
  exact ⟨by
    show Ending.returned (.bool _) = _
    congr 2
    rw [Bool.eq_iff_iff]
    simp, rfl⟩

end Go.Proofs.YtiibpjahmhemmaaDoor
