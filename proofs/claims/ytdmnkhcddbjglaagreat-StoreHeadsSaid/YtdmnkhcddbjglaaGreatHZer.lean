/-
  append(b, make([]byte, n)...) at a row of the call's own.
-/
import Derived.Test.YtdmnkhcddbjglaaGreatHBytes
import Derived.Lib.AppendZerosOnto
namespace Go.Proofs.YtdmnkhcddbjglaaGreat
open Go Go.RowKit
set_option maxRecDepth 100000
set_option maxHeartbeats 1600000

theorem zeroCells8 (k : Nat) : Builtin.zeroCells (Value.int .u8 0).cells k = (List.replicate k (u8V 0)).toArray := by
  apply Array.ext'
  apply List.ext_getElem?
  intro j
  have h1 : (#[Value.int .u8 0] : Array Value).size = 1 := rfl
  simp only [Builtin.zeroCells, Value.cells, h1, Nat.mul_one, Nat.mod_one, Array.toList_map, Array.toList_range, List.getElem?_map, List.map_replicate, List.getElem?_replicate]
  by_cases h : j < k
  · rw [List.getElem?_range h, if_pos h]; rfl
  · rw [List.getElem?_eq_none (by simp; omega), if_neg h]; rfl

theorem row_get {l : List UInt8} {N k : Nat} (hk : k < (l ++ List.replicate N (0 : UInt8)).length) : (l.map u8V ++ List.replicate N (u8V 0))[k]? = some (u8V (l ++ List.replicate N 0)[k]) := by
  have : l.map u8V ++ List.replicate N (u8V 0) = (l ++ List.replicate N (0 : UInt8)).map u8V := by simp only [List.map_append, List.map_replicate]
  rw [this, List.getElem?_map, List.getElem?_eq_getElem hk]
  rfl

theorem append_zeros {w : World} {base g n cap N : Nat} {l : List UInt8} (hown : Own w base (.slice (some ⟨g, 0, none⟩) n cap) l) (hn : n = l.length) (hN : 0 < N) (hb : n + N ≤ 1000000) (hbase : base ≤ w.heap.size) :
    ∃ v' w', (Builtin.append_ #[25, 3] 25 #[.slice (some ⟨g, 0, none⟩) n cap, .int .i64 (N : Int)]).run Tryz.prog w = .ok v' w' ∧ (∃ A c, v' = .slice A (n + N) c ∧ Rd w' w'.heap.size A (l ++ List.replicate N 0)) ∧ Below base w w' := by
  obtain ⟨i0, hi, hz0, hz1, hz2⟩ := info_parts Tryz.info5
  subst hn
  rcases hown.2 with ⟨h1, _⟩ | ⟨g', cap', cur, h1, h2, h3, h4, h5, h6, h7⟩
  · cases h1
  cases h1
  have hlt : g < w.heap.size := (Array.getElem?_eq_some_iff.1 h3).1
  by_cases hc : l.length + N ≤ cap
  · have hst := run_storeCells_at Tryz.prog g l.length 5 (List.replicate N (u8V 0)) 0 cur w h3 (by simp; omega) (by intro v hv; simp at hv; rw [hv.2]; rfl)
    have hw : IntKind.i64.wrap (N : Int) = N := by rw [IntKind.wrap_i64]; omega
    have hneg : ¬ ((N : Int) < 0) := by omega
    have hN0 : N ≠ 0 := by omega
    have h48 : ¬ (281474976710656 < (N : Int)) := by omega
    have hadd : (⟨g, 0, none⟩ : Addr).add l.length = ⟨g, l.length, none⟩ := by unfold Addr.add; split <;> simp_all
    have hrun : (Builtin.append_ #[25, 3] 25 #[.slice (some ⟨g, 0, none⟩) l.length cap, .int .i64 (N : Int)]).run Tryz.prog w = .ok (.slice (some ⟨g, 0, none⟩) (l.length + N) cap) (w.setRow g ((cur.toList.take (l.length + 0) ++ List.replicate N (u8V 0) ++ cur.toList.drop (l.length + 0 + (List.replicate N (u8V 0)).length)).toArray)) := by
      simp [Builtin.append_, run_underlying Tryz.underlying25, run_underlying Tryz.underlying3, sizeOf, typeInfo, zeroValue, hi, hz0, hz1, hz2, asInt, asIntOf, hw, hneg, hN0, h48, hc, zeroCells8, hadd]
      simp only [Nat.add_zero, List.length_replicate, List.append_assoc] at hst
      rw [hst]
      rfl
    have hset := setRow_heap w g cur ((cur.toList.take (l.length + 0) ++ List.replicate N (u8V 0) ++ cur.toList.drop (l.length + 0 + (List.replicate N (u8V 0)).length)).toArray) 5 (0, 0) h3
    refine ⟨_, _, hrun, ⟨_, _, rfl, fun _ => ⟨g, 0, rfl, ?_, ?_⟩⟩, below_setRow (Below.refl _ _) h2 _⟩
    · exact (Array.getElem?_eq_some_iff.1 hset).1
    · intro k hk
      simp only [World.cell?, hset, Nat.zero_add, Option.isSome_none, Bool.false_eq_true, if_false, List.getElem?_toArray]
      rw [List.getElem?_append_left (by simp at hk ⊢; omega)]
      have h7' : cur.toList.take (l.length + 0) = l.map u8V := by simpa using h7
      rw [h7']
      exact row_get hk
  · have hfc : (Builtin.firstCells i0.size l.length (.slice (some ⟨g, 0, none⟩) l.length cap)).run Tryz.prog w.drew = .ok (l.map u8V).toArray w.drew := by
      rw [hz1]
      exact run_firstCells_some w.drew 1 l.length ⟨g, 0, none⟩ l.length cap (l.map u8V) (by simp) (fun j v hj => by
        obtain ⟨A, c, e, _, _, hr⟩ := hown.slice
        cases e
        obtain ⟨ad, e, hs⟩ := hr.addr (by rintro rfl; simp at hj)
        cases e
        exact hs j v hj)
    have hrun := Lib.run_append_grow_zeros (P := Tryz.prog) w 25 3 25 5 i0 _ .i64 .i64 Tryz.underlying25 Tryz.underlying3 hi hz0 (some ⟨g, 0, none⟩) l.length cap _ hfc N hN (by omega) (by omega) (by omega) (by rw [hz2]; omega) (by rw [hz2]; exact growslice_fits (by omega) (by omega))
    refine ⟨_, _, hrun, ⟨_, _, rfl, fun _ => ⟨w.heap.size, 0, rfl, by simp, ?_⟩⟩, ((Below.refl _ w).drew).alloc hbase _⟩
    intro k hk
    rw [World.cell?_alloc_at (w := w.drew) _ _ w.heap.size _ rfl, zeroCells8, Nat.zero_add, List.append_toArray, List.append_toArray, List.getElem?_toArray, List.getElem?_append_left (by simp at hk ⊢; omega)]
    exact row_get hk
end Go.Proofs.YtdmnkhcddbjglaaGreat
