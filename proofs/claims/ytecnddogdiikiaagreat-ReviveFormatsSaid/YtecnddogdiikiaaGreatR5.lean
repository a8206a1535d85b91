/-
  The empty leaf's page: Right, Taken and page.right, taken: what each call does.
  chanceryref04.Seal; the empty leaf as chanceryref07.Pack and page.Pack make it: what each call does.
-/
import Derived.Test.YtecnddogdiikiaaGreatD1
import Derived.Test.YtecnddogdiikiaaGreatD3
import Derived.Test.YtecnddogdiikiaaGreatHRef
set_option linter.unusedVariables false
set_option linter.unusedSimpArgs false
namespace Go.Proofs.YtecnddogdiikiaaGreat
open Go Go.RowKit
set_option maxRecDepth 100000
set_option maxHeartbeats 800000
/-- the page's numbers -/
abbrev leafV : Value := .agg #[.int .u8 1, .int .i64 0, .slice none 0 0]
abbrev leafO : Obj := .cells #[.int .u8 1, .int .i64 0, .slice none 0 0] 85
theorem leafO_below (w : World) : Below w.heap.size w (w.alloc leafO) := (Below.refl _ _).alloc (Nat.le_refl _) _

theorem rright_any (w : World) : Calls Tryz.prog 99 #[leafV] w fun e w' => e = .returned (.bool true) ∧ w' = w.alloc leafO := by
  go_enter Tryz.func99, Tryz.ntmps99
  go_wp2
  go_loopw [3] (fun i wr => i = .int .i64 0 ∧ wr = w.alloc leafO) (fun _ _ => 0)
  case atStart => exact ⟨rfl, rfl⟩
  case round =>
    obtain ⟨rfl, rfl⟩ := hrel
    go_wp2
    go_ret
    exact ⟨rfl, rfl⟩
theorem rtaken_any (w : World) : Calls Tryz.prog 100 #[leafV] w fun e w' => e = .returned (.int .i64 8) ∧ w' = w.alloc leafO := by
  go_enter Tryz.func100, Tryz.ntmps100
  go_wp2
  go_loopw [3, 4] (fun n i wr => n = .int .i64 8 ∧ i = .int .i64 0 ∧ wr = w.alloc leafO) (fun _ _ _ => 0)
  case atStart => exact ⟨rfl, rfl, rfl⟩
  case round =>
    obtain ⟨rfl, rfl, rfl⟩ := hrel
    go_wp2
    go_ret
    exact ⟨rfl, rfl⟩
theorem pright_any (w : World) : Calls Tryz.prog 75 #[leafV] w fun e w' => e = .returned (.bool true) ∧ w' = w.alloc leafO := by
  go_enter Tryz.func75, Tryz.ntmps75
  go_wp2
  go_loopw [32] (fun i wr => i = .int .i64 0 ∧ wr = w.alloc leafO) (fun _ _ => 0)
  case atStart => exact ⟨rfl, rfl⟩
  case round =>
    obtain ⟨rfl, rfl⟩ := hrel
    go_wp2
    go_ret
    exact ⟨rfl, rfl⟩
theorem ptaken_any (w : World) : Calls Tryz.prog 76 #[.slice none 0 0] w fun e w' => e = .returned (.int .i64 0) ∧ w' = w := by
  go_enter Tryz.func76, Tryz.ntmps76
  go_wp2
  go_loopw [3, 8] (fun n i wr => n = .int .i64 0 ∧ i = .int .i64 0 ∧ wr = w) (fun _ _ _ => 0)
  case atStart => exact ⟨rfl, rfl, rfl⟩
  case round =>
    obtain ⟨rfl, rfl, rfl⟩ := hrel
    go_wp2
    go_ret
    exact ⟨rfl, rfl⟩
end Go.Proofs.YtecnddogdiikiaaGreat

namespace Go.Proofs.YtecnddogdiikiaaGreat
open Go Go.RowKit
set_option maxRecDepth 100000
set_option maxHeartbeats 4000000

theorem append0 {w : World} {g n cap : Nat} (hc : n ≤ cap) : (Builtin.append_ #[37, 3] 37 #[.slice (some ⟨g, 0, none⟩) n cap, .int .i64 0]).run Tryz.prog w = .ok (.slice (some ⟨g, 0, none⟩) n cap) w := by
  obtain ⟨i0, hi, hz0, hz1, hz2⟩ := info_parts Tryz.info5
  have hw : IntKind.i64.wrap (0 : Int) = 0 := rfl
  simp [Builtin.append_, run_underlying Tryz.underlying37, run_underlying Tryz.underlying3, sizeOf, typeInfo, zeroValue, hi, hz0, hz1, hz2, asInt, asIntOf, hw, hc, storeCells]

theorem rseal_any (A : Option Addr) (c s : Nat) (p : List UInt8) (w : World) (hr : Rd w w.heap.size A p) (hp : p.length = 4080) (hs : s ≤ 18446744073709551615) :
    Calls Tryz.prog 102 #[.slice A 4080 c, .int .u64 (s : Int)] w fun e w' => (∃ u, e = .returned (.tuple #[u, .int .i64 0]) ∧ Own w' w.heap.size u (sealed p s)) ∧ Below w.heap.size w w' := by
  have HP := Lib.hid hp.symm
  clear hp
  go_enter Tryz.func102, Tryz.ntmps102
  go_wp2_with (first
    | (go_at_call 101; with_reducible refine (refadd8 none 0 0 s [] _ (.nil _ _ _) rfl (by simp) hs).mono ?_; rintro e w1 ⟨u, rfl, ho, hb⟩; have hr1 := (hr.below hb).more hb.size)
    | (at_builtin; refine apB rfl (.tmp 12) (.tmp 13) rfl w.heap.size _ _ rfl ho _ _ 4080 c p rfl HP.out hr1 ?c1 ?c2 ?_))
  case c1 => have := HP.out; simp [le_len]; omega
  case c2 => exact hb.size
  intro v w2 ho2 hb2 _ _
  have hbb := hb.trans hb2
  have hl2 : (le 8 s ++ p).length = 4088 := by have := HP.out; simp [le_len]; omega
  have ho2' : Own w2 w.heap.size v (le 8 s ++ p) := by simpa using ho2
  have hr2 : ∃ g2 c2, v = .slice (some ⟨g2, 0, none⟩) 4088 c2 ∧ 4088 ≤ c2 ∧ Rd w2 w2.heap.size (some ⟨g2, 0, none⟩) (le 8 s ++ p) := by
    obtain ⟨A2, c2, e, hc2, _, hr2⟩ := ho2'.sl hl2
    rcases ho2'.form with ⟨_, e0⟩ | ⟨g, cap, e1, _⟩
    · have := congrArg List.length e0; rw [hl2] at this; simp at this
    · rw [e1, hl2] at e; cases e; exact ⟨g, _, by rw [e1, hl2], hc2, hr2⟩
  obtain ⟨g2, c2, rfl, hc2, hr2⟩ := hr2
  have hap := append0 (w := w2) (g := g2) hc2
  have HL := Lib.hid hl2.symm
  have hz := hbb.size
  clear ho hr1 hb hb2 ho2 hl2
  go_wp2_with (first
    | (go_at_call 101; with_reducible refine (refadd8 (some ⟨g2, 0, none⟩) c2 4088 s (le 8 s ++ p) _ hr2 HL.out (by rw [← HL.out]; omega) hs).mono ?_; rintro e w3 ⟨u, rfl, ho3, hb3⟩)
    | (at_builtin; refine Lib.wpList_append_run _ rfl _ _ _ _ rfl _ _ rfl rfl _ _ hap ?_))
  go_ret2
  exact ⟨⟨_, rfl, ho3.down hz⟩, hbb.trans (hb3.mono hz)⟩

theorem Own.gf {w : World} {base : Nat} {v : Value} {l : List UInt8} (h : Own w base v l) {n : Nat} (hl : l.length = n) (hn : 0 < n) : ∃ g c, v = .slice (some ⟨g, 0, none⟩) n c ∧ n ≤ c := by
  rcases h.form with ⟨_, e⟩ | ⟨g', cap, e, _, _, hc, _⟩
  · subst e; simp at hl; omega
  · exact ⟨g', cap, by rw [e, hl], by omega⟩
theorem leafB_eq : ([1, 0] : List UInt8) ++ le 2 0 ++ le 4 0 ++ List.replicate 4072 0 = leafB := rfl
theorem Rd.two (w : World) (t : TypeId) : Rd (w.alloc (.cells #[.int .u8 1, .int .u8 0] t)) (w.heap.size + 1) (some ⟨w.heap.size, 0, none⟩) [1, 0] := fun _ =>
  ⟨_, 0, rfl, by omega, fun k hk => by
    have hk2 : k < 2 := hk
    have hh := heap_alloc_new w (.cells #[.int .u8 1, .int .u8 0] t)
    simp only [World.cell?, hh]
    have : k = 0 ∨ k = 1 := by omega
    rcases this with rfl | rfl <;> rfl⟩

theorem radd2z (A : Option Addr) (c n : Nat) (l : List UInt8) (w : World) (hr : Rd w w.heap.size A l) (hn : n = l.length) (hl : l.length ≤ 1000000) :
    Calls Tryz.prog 101 #[.slice A n c, .int .u64 0, .int .i64 2] w fun e w' => ∃ u, e = .returned u ∧ Own w' w.heap.size u (l ++ le 2 0) ∧ Below w.heap.size w w' := refadd2 A c n 0 l w hr hn hl (by omega)
theorem radd4z (A : Option Addr) (c n : Nat) (l : List UInt8) (w : World) (hr : Rd w w.heap.size A l) (hn : n = l.length) (hl : l.length ≤ 1000000) :
    Calls Tryz.prog 101 #[.slice A n c, .int .u64 0, .int .i64 4] w fun e w' => ∃ u, e = .returned u ∧ Own w' w.heap.size u (l ++ le 4 0) ∧ Below w.heap.size w w' := refadd4 A c n 0 l w hr hn hl (by omega)
theorem add16z (w : World) : Calls Tryz.prog 77 #[.slice none 0 0, .int .u16 0] w fun e w' => ∃ u, e = .returned u ∧ Own w' w.heap.size u ([] ++ le 2 0) ∧ Below w.heap.size w w' := add16_any none 0 0 0 [] w (.nil _ _ _) rfl (by simp) (by omega)
theorem add32z (w : World) : Calls Tryz.prog 78 #[.slice none 0 0, .int .u32 0] w fun e w' => ∃ u, e = .returned u ∧ Own w' w.heap.size u ([] ++ le 4 0) ∧ Below w.heap.size w w' := add32_any none 0 0 0 [] w (.nil _ _ _) rfl (by simp) (by omega)

theorem rpack_any (w : World) : Calls Tryz.prog 53 #[leafV] w fun e w' => (∃ A c, e = .returned (.tuple #[.slice A 4080 c, .int .i64 0]) ∧ Rd w' w'.heap.size A leafB) ∧ Below w.heap.size w w' := by
  obtain ⟨W0, hW0⟩ : ∃ W0, ((w.alloc leafO).alloc leafO).alloc leafO = W0 := ⟨_, rfl⟩
  have b0 : Below w.heap.size w W0 := by rw [← hW0]; exact (((Below.refl _ _).alloc (Nat.le_refl _) _).alloc (by simp) _).alloc (by simp; omega) _
  have g0 : W0.heap[w.heap.size]? = some leafO := by rw [← hW0]; exact (Below.heap_alloc _ _ _ (by simp; omega)).trans ((Below.heap_alloc _ _ _ (by simp)).trans (heap_alloc_new w _))
  have c0 : W0.cell? ⟨w.heap.size, 0, none⟩ = some (.int .u8 1) := cellD g0 0
  have c1 : W0.cell? ⟨w.heap.size, 1, none⟩ = some (.int .i64 0) := cellD g0 1
  have c2 : W0.cell? ⟨w.heap.size, 2, none⟩ = some (.slice none 0 0) := cellD g0 2
  have z0 := hlt g0
  have hb1 : Below W0.heap.size W0 (W0.alloc (.cells #[.int .u8 1, .int .u8 0] 5)) := (Below.refl _ _).alloc (Nat.le_refl _) _
  have r1 : Rd (W0.alloc (.cells #[.int .u8 1, .int .u8 0] 5)) (W0.alloc (.cells #[.int .u8 1, .int .u8 0] 5)).heap.size (some ⟨W0.heap.size, 0, none⟩) [1, 0] := (Rd.two W0 5).more (by simp)
  go_enter Tryz.func53, Tryz.ntmps53
  go_wp2_with (first
    | (go_at_call 99; with_reducible refine (rright_any _).mono ?_; rintro e w1 ⟨rfl, rfl⟩)
    | (go_at_call 100; with_reducible refine (rtaken_any _).mono ?_; rintro e w1 ⟨rfl, rfl⟩; rw [hW0])
    | (go_at_call 101; with_reducible refine (radd2z (some ⟨W0.heap.size, 0, none⟩) 2 2 [1, 0] _ r1 rfl (by simp)).mono ?_; rintro e w2 ⟨u2, rfl, o2, hb2⟩; have bb2 := hb1.trans (hb2.mono hb1.size); have d2 := (bb2.cell (p := ⟨w.heap.size, 2, none⟩) z0).trans c2; have d1 := (bb2.cell (p := ⟨w.heap.size, 1, none⟩) z0).trans c1; obtain ⟨A2, k2, rfl, _, _, r2⟩ := o2.sl (n := 4) rfl; clear o2)
    | (go_at_call 101; with_reducible refine (radd4z A2 k2 4 ([1, 0] ++ le 2 0) _ r2 rfl (by simp [le_len])).mono ?_; rintro e w3 ⟨u3, rfl, o3, hb3⟩; have bb3 := bb2.trans (hb3.mono bb2.size); have e2 := (bb3.cell (p := ⟨w.heap.size, 2, none⟩) z0).trans c2; obtain ⟨g3, k3, rfl, hk3⟩ := Own.gf o3 (n := 8) rfl (by omega); clear r2 d1 d2))
  have bw3 := b0.trans (bb3.mono b0.size)
  obtain ⟨v9, w9, hap, ⟨A9, c9, rfl, r9⟩, b9⟩ := append_zeros (N := 4072) o3 rfl (by omega) (by omega) hb3.size
  have hbf := bw3.trans (b9.mono (Nat.le_trans b0.size bb2.size))
  rw [leafB_eq] at r9
  clear r1 o3 c0 c1 c2 g0
  go_wp2
  go_loopw [4, 6] (fun v i wr => v = .slice (some ⟨g3, 0, none⟩) 8 k3 ∧ i = .int .i64 0 ∧ wr = w3) (fun _ _ _ => 0)
  case atStart => exact ⟨rfl, rfl, rfl⟩
  case round =>
    obtain ⟨rfl, rfl, rfl⟩ := hrel
    go_wp2
    go_loopw [4, 7] (fun v i wz => v = .slice (some ⟨g3, 0, none⟩) 8 k3 ∧ i = .int .i64 0 ∧ wz = wr) (fun _ _ _ => 0)
    case atStart => exact ⟨rfl, rfl, rfl⟩
    case round =>
      obtain ⟨rfl, rfl, rfl⟩ := hrel
      go_wp2_with (at_builtin; refine Lib.wpList_append_run _ rfl _ _ _ _ rfl _ _ rfl rfl _ _ hap ?_)
      go_ret2
      exact ⟨⟨_, _, rfl, r9⟩, hbf⟩

theorem pack_any (w : World) : Calls Tryz.prog 34 #[leafV] w fun e w' => (∃ A c, e = .returned (.tuple #[.slice A 4080 c, .int .i64 0]) ∧ Rd w' w'.heap.size A leafB) ∧ Below w.heap.size w w' := by
  obtain ⟨W0, hW0⟩ : ∃ W0, (w.alloc leafO).alloc leafO = W0 := ⟨_, rfl⟩
  have b0 : Below w.heap.size w W0 := by rw [← hW0]; exact ((Below.refl _ _).alloc (Nat.le_refl _) _).alloc (by simp) _
  have g0 : W0.heap[w.heap.size]? = some leafO := by rw [← hW0]; exact (Below.heap_alloc _ _ _ (by simp)).trans (heap_alloc_new w _)
  have c0 : W0.cell? ⟨w.heap.size, 0, none⟩ = some (.int .u8 1) := cellD g0 0
  have c1 : W0.cell? ⟨w.heap.size, 1, none⟩ = some (.int .i64 0) := cellD g0 1
  have c2 : W0.cell? ⟨w.heap.size, 2, none⟩ = some (.slice none 0 0) := cellD g0 2
  have z0 := hlt g0
  obtain ⟨w3, hmk0, hown3, hb3⟩ := mk0 W0 4080 (by omega)
  have hmk : (Instr.makeSlice 37 (.int .i64 0) (.int .i64 4080)).run Tryz.prog W0 = .ok (.slice (some ⟨W0.heap.size, 0, none⟩) 0 4080) w3 := hmk0
  have d0 := (hb3.cell (p := ⟨w.heap.size, 0, none⟩) z0).trans c0
  have d1 := (hb3.cell (p := ⟨w.heap.size, 1, none⟩) z0).trans c1
  have d2 := (hb3.cell (p := ⟨w.heap.size, 2, none⟩) z0).trans c2
  clear hmk0
  go_enter Tryz.func34, Tryz.ntmps34
  go_wp2_with (first
    | (go_at_call 75; with_reducible refine (pright_any _).mono ?_; rintro e w1 ⟨rfl, rfl⟩; rw [hW0])
    | (go_at_call 76; with_reducible refine (ptaken_any _).mono ?_; rintro e W0 ⟨rfl, rfl⟩)
    | (at_builtin; refine apB rfl (.tmp 18) (.tmp 21) rfl W0.heap.size _ _ rfl (hown3.alloc _) _ _ 2 2 [1, 0] rfl rfl (Rd.two _ 5) ?c1 ?c2 ?_))
  case c1 => simp
  case c2 => have := hb3.size; simp; omega
  intro v4 w4 o4 hb4 _ _
  have bb4 : Below W0.heap.size W0 w4 := (hb3.alloc hb3.size _).trans hb4
  have e1 := (bb4.cell (p := ⟨w.heap.size, 1, none⟩) z0).trans c1
  have e2 := (bb4.cell (p := ⟨w.heap.size, 2, none⟩) z0).trans c2
  clear hown3 hb3 hmk d0 d1 d2 c0 hb4 g0
  go_wp2_with (first
    | (go_at_call 77; with_reducible refine (add16z _).mono ?_; rintro e w5 ⟨u5, rfl, o5, hb5⟩; obtain ⟨A5, k5, rfl, _, _, r5⟩ := o5.sl (n := 2) rfl; have p5 := o4.belowS hb5; clear o5)
    | (at_builtin; refine apB rfl (.tmp 23) (.tmp 28) rfl W0.heap.size _ _ rfl p5 _ _ 2 k5 ([] ++ le 2 0) rfl rfl r5 ?c1 ?c2 ?_))
  case c1 => simp [le_len]
  case c2 => exact Nat.le_trans bb4.size hb5.size
  intro v6 w6 o6 hb6 _ _
  have bb6 : Below W0.heap.size W0 w6 := (bb4.trans (hb5.mono bb4.size)).trans hb6
  have f1 := (bb6.cell (p := ⟨w.heap.size, 1, none⟩) z0).trans c1
  have f2 := (bb6.cell (p := ⟨w.heap.size, 2, none⟩) z0).trans c2
  clear r5 p5 hb5 hb6 e1 e2 o4 bb4
  go_wp2_with (first
    | (go_at_call 78; with_reducible refine (add32z _).mono ?_; rintro e w7 ⟨u7, rfl, o7, hb7⟩; obtain ⟨A7, k7, rfl, _, _, r7⟩ := o7.sl (n := 4) rfl; have p7 := o6.belowS hb7; clear o7)
    | (at_builtin; refine apB rfl (.tmp 30) (.tmp 34) rfl W0.heap.size _ _ rfl p7 _ _ 4 k7 ([] ++ le 4 0) rfl rfl r7 ?c1 ?c2 ?_))
  case c1 => simp [le_len]
  case c2 => exact Nat.le_trans bb6.size hb7.size
  intro v8 w8 o8 hb8 _ _
  have bb8 : Below W0.heap.size W0 w8 := (bb6.trans (hb7.mono bb6.size)).trans hb8
  have g2 := (bb8.cell (p := ⟨w.heap.size, 2, none⟩) z0).trans c2
  obtain ⟨g8, k8, rfl, hk8⟩ := Own.gf o8 (n := 8) rfl (by omega)
  obtain ⟨v9, w9, hap, ⟨A9, c9, rfl, r9⟩, b9⟩ := append_zeros (N := 4072) o8 rfl (by omega) (by omega) bb8.size
  have r9' : Rd w9 w9.heap.size A9 leafB := r9
  have hbf := (b0.trans (bb8.mono b0.size)).trans (b9.mono b0.size)
  clear r7 p7 hb7 hb8 f1 f2 o6 bb6 o8 c1 c2 r9
  go_wp2
  go_loopw [4, 44] (fun v i wr => v = .slice (some ⟨g8, 0, none⟩) 8 k8 ∧ i = .int .i64 0 ∧ wr = w8) (fun _ _ _ => 0)
  case atStart => exact ⟨rfl, rfl, rfl⟩
  case round =>
    obtain ⟨rfl, rfl, rfl⟩ := hrel
    go_wp2
    go_loopw [4, 62] (fun v i wz => v = .slice (some ⟨g8, 0, none⟩) 8 k8 ∧ i = .int .i64 0 ∧ wz = wr) (fun _ _ _ => 0)
    case atStart => exact ⟨rfl, rfl, rfl⟩
    case round =>
      obtain ⟨rfl, rfl, rfl⟩ := hrel
      go_wp2_with (at_builtin; refine Lib.wpList_append_run _ rfl _ _ _ _ rfl _ _ rfl rfl _ _ hap ?_)
      go_ret2
      exact ⟨⟨_, _, rfl, r9'⟩, hbf⟩
end Go.Proofs.YtecnddogdiikiaaGreat

