/-
  slices.Clone of bytes, stamp.Open: what each call does.
  revive.Format: what the call does.
-/
import Derived.Test.YtecnddogdiikiaaGreatR3
import Derived.Test.YtecnddogdiikiaaGreatD5
import Derived.Deep.RegionHeld3
import Derived.Lib.LazyBuf
import Derived.Stop.BytesEq
import Derived.Test.YtecnddogdiikiaaGreatD6
import Derived.Test.YtecnddogdiikiaaGreatR5
set_option linter.unusedVariables false
set_option linter.unusedSimpArgs false
namespace Go.Proofs.YtecnddogdiikiaaGreat
open Go Go.RowKit
set_option maxRecDepth 100000
set_option maxHeartbeats 8000000

theorem clone_any (b o c n : Nat) (l : List UInt8) (w : World) (hr : Rd w w.heap.size (some ⟨b, o, none⟩) l) (hn : n = l.length) (h0 : 0 < n) (hl : n ≤ 1000000) :
    Calls Tryz.prog 108 #[.slice (some ⟨b, o, none⟩) n c] w fun e w' => (∃ v, e = .returned v ∧ Own w' w.heap.size v l) ∧ Below w.heap.size w w' := by
  have HN := Lib.hid hn
  clear hn
  go_enter Tryz.func108, Tryz.ntmps108
  have hq : (binOp .eql 37 (.slice (some ⟨b, o, none⟩) n c) (.slice none 0 0)).run Tryz.prog w = .ok (.bool false) w := Go.run_eql_slice_nil (P := Tryz.prog) w 37 5 _ n c Tryz.underlying37
  have ho : Own (w.alloc (.cells #[] 5)) w.heap.size (.slice (some ⟨w.heap.size, 0, none⟩) 0 0) [] := Own.of_full (heap_alloc_new w _) (Nat.le_refl _) rfl (by simp [maxLen])
  have hb1 : Below w.heap.size w (w.alloc (.cells #[] 5)) := (Below.refl _ _).alloc (Nat.le_refl _) _
  have hr1 := (hr.below hb1).more hb1.size
  clear hr
  go_wp2_with (at_builtin; refine apB rfl (.tmp 5) (.tmp 6) rfl w.heap.size _ [] rfl ho _ (some ⟨b, o, none⟩) n c l rfl HN.out hr1 ?c1 ?c2 ?_)
  case c1 => have := HN.out; simp; omega
  case c2 => exact hb1.size
  intro v w2 o2 hb2 _ _
  go_wp2
  go_ret
  exact ⟨⟨_, rfl, by simpa using o2⟩, hb1.trans hb2⟩

theorem eight {l : List UInt8} (h : l.length = 8) : ∃ a b c d e f g i, l = [a, b, c, d, e, f, g, i] := by
  match l, h with
  | [a, b, c, d, e, f, g, i], _ => exact ⟨a, b, c, d, e, f, g, i, rfl⟩
theorem Rd.e8 {w : World} {B b o : Nat} {x0 x1 x2 x3 x4 x5 x6 x7 : UInt8} (h : Rd w B (some ⟨b, o, none⟩) [x0, x1, x2, x3, x4, x5, x6, x7]) : w.cell? ⟨b, o, none⟩ = some (u8V x0) ∧ w.cell? ⟨b, o + 1, none⟩ = some (u8V x1) ∧ w.cell? ⟨b, o + 2, none⟩ = some (u8V x2) ∧ w.cell? ⟨b, o + 3, none⟩ = some (u8V x3) ∧
    w.cell? ⟨b, o + 4, none⟩ = some (u8V x4) ∧ w.cell? ⟨b, o + 5, none⟩ = some (u8V x5) ∧ w.cell? ⟨b, o + 6, none⟩ = some (u8V x6) ∧ w.cell? ⟨b, o + 7, none⟩ = some (u8V x7) := by
  obtain ⟨b', o', e, _, hc⟩ := h (by simp)
  cases e
  exact ⟨hc 0 (by simp), hc 1 (by simp), hc 2 (by simp), hc 3 (by simp), hc 4 (by simp), hc 5 (by simp), hc 6 (by simp), hc 7 (by simp)⟩

theorem c8 {w : World} {g : Nat} {a0 a1 a2 a3 a4 a5 a6 a7 : Value} {t : TypeId} (h : w.heap[g]? = some (.cells #[a0, a1, a2, a3, a4, a5, a6, a7] t (0, 0))) : w.cell? ⟨g, 0, none⟩ = some a0 ∧ w.cell? ⟨g, 1, none⟩ = some a1 ∧ w.cell? ⟨g, 2, none⟩ = some a2 ∧ w.cell? ⟨g, 3, none⟩ = some a3 ∧ w.cell? ⟨g, 4, none⟩ = some a4 ∧ w.cell? ⟨g, 5, none⟩ = some a5 ∧ w.cell? ⟨g, 6, none⟩ = some a6 ∧ w.cell? ⟨g, 7, none⟩ = some a7 :=
  ⟨cellD h 0, cellD h 1, cellD h 2, cellD h 3, cellD h 4, cellD h 5, cellD h 6, cellD h 7⟩
theorem two_alloc (w : World) (X Y : Obj) : ∃ W, ((w.alloc X).alloc Y).drew = W ∧ W.heap[w.heap.size]? = some X ∧ W.heap[w.heap.size + 1]? = some Y ∧ Below w.heap.size w W := by
  refine ⟨_, rfl, (Below.heap_alloc _ _ _ (by simp)).trans (heap_alloc_new w _), ?_, (((Below.refl _ _).alloc (Nat.le_refl _) _).alloc (by simp) _).trans (drewN_below _ _ 1)⟩
  have := heap_alloc_new (w.alloc X) Y
  rw [World.size_alloc] at this
  exact this
theorem size5' (w : World) : (sizeOf 5).run Tryz.prog w = .ok 1 w := by
  obtain ⟨i0, hi, hz0, hz1, hz2⟩ := info_parts Tryz.info5
  simp [sizeOf, typeInfo, hi, hz1]
theorem u64_8 (g : Nat) (l : List UInt8) (w : World) (hr : Rd w w.heap.size (some ⟨g, 0, none⟩) l) (hl : l.length = 8) : Calls Tryz.prog 107 #[.slice (some ⟨g, 0, none⟩) 8 8, .int .i64 0] w fun e w' => e = .returned (.tuple #[.int .u64 (leN l : Nat), .bool true]) ∧ w' = w := by
  have := u64_any (some ⟨g, 0, none⟩) 8 8 0 l w hr hl.symm (by omega) (by omega)
  have e : sub l 0 8 = l := by simp [sub, ← hl]
  rw [e] at this
  exact this

theorem open_any (b o c : Nat) (l : List UInt8) (w : World) (hr : Rd w w.heap.size (some ⟨b, o, none⟩) l) (hl : l.length = 4096) (hc : 4096 ≤ c) :
    Calls Tryz.prog 58 #[.slice (some ⟨b, o, none⟩) 4096 c] w fun e w' => ((sub l 0 8 = sub l 4088 8 ∧ ∃ A c', e = .returned (.tuple #[.slice A 4080 c', .int .u64 (leN (sub l 0 8) : Nat), .int .i64 0]) ∧ Rd w' w'.heap.size A (sub l 8 4080)) ∨ (sub l 0 8 ≠ sub l 4088 8 ∧ e = .returned (.tuple #[.slice none 0 0, .int .u64 0, .int .i64 140]))) ∧ Below w.heap.size w w' := by
  have hc8 : ¬ c = 8 := by omega
  have hc9 : ¬ c = 4088 := by omega
  have hi1 : (8 : Int) ≤ (c : Int) := by omega
  have hi2 : (4088 : Int) ≤ (c : Int) := by omega
  have hi3 : (4096 : Int) ≤ (c : Int) := by omega
  have hs := hr.sub (p := 8) (n := 4080) (by omega)
  have hx := hr.sub (p := 0) (n := 8) (by omega)
  have hy := hr.sub (p := 4088) (n := 8) (by omega)
  obtain ⟨x0, x1, x2, x3, x4, x5, x6, x7, ex⟩ := eight (sub_len (l := l) (a := 0) (n := 8) (by omega))
  obtain ⟨y0, y1, y2, y3, y4, y5, y6, y7, ey⟩ := eight (sub_len (l := l) (a := 4088) (n := 8) (by omega))
  rw [ex] at hx
  rw [ey] at hy
  rw [ex, ey]
  obtain ⟨p0, p1, p2, p3, p4, p5, p6, p7⟩ := hx.e8
  obtain ⟨q0, q1, q2, q3, q4, q5, q6, q7⟩ := hy.e8
  simp only [Nat.add_zero] at p0 p1 p2 p3 p4 p5 p6 p7
  have hsl := sub_len (l := l) (a := 8) (n := 4080) (by omega)
  have HS := Lib.hid hsl
  have hat1 := fun w => at184 b o 8 c w (by omega)
  have hat2 := fun w => at184 b (o + 4088) 8 (c - 4088) w (by omega)
  clear hr hl hx hy ex ey hsl
  obtain ⟨WA, hWA, ga1, ga2, ba⟩ := two_alloc w (.cells #[u8V x0, u8V x1, u8V x2, u8V x3, u8V x4, u8V x5, u8V x6, u8V x7] 184) (.cells #[u8V y0, u8V y1, u8V y2, u8V y3, u8V y4, u8V y5, u8V y6, u8V y7] 184)
  obtain ⟨WB, hWB, gb1, gb2, bb⟩ := two_alloc w (.cells #[u8V y0, u8V y1, u8V y2, u8V y3, u8V y4, u8V y5, u8V y6, u8V y7] 184) (.cells #[u8V x0, u8V x1, u8V x2, u8V x3, u8V x4, u8V x5, u8V x6, u8V x7] 184)
  have ra : Rd WA WA.heap.size (some ⟨w.heap.size, 0, none⟩) [x0, x1, x2, x3, x4, x5, x6, x7] := fun _ => ⟨_, 0, rfl, hlt ga1, fun k hk => by rw [Nat.zero_add, cellD ga1]; match k, hk with | 0, _ => rfl | 1, _ => rfl | 2, _ => rfl | 3, _ => rfl | 4, _ => rfl | 5, _ => rfl | 6, _ => rfl | 7, _ => rfl⟩
  have rb : Rd WB WB.heap.size (some ⟨w.heap.size + 1, 0, none⟩) [x0, x1, x2, x3, x4, x5, x6, x7] := fun _ => ⟨_, 0, rfl, hlt gb2, fun k hk => by rw [Nat.zero_add, cellD gb2]; match k, hk with | 0, _ => rfl | 1, _ => rfl | 2, _ => rfl | 3, _ => rfl | 4, _ => rfl | 5, _ => rfl | 6, _ => rfl | 7, _ => rfl⟩
  have ua := u64_8 w.heap.size _ WA ra rfl
  have ub := u64_8 (w.heap.size + 1) _ WB rb rfl
  have ka := clone_any b (o + 8) (c - 8) 4080 (sub l 8 4080) WA ((hs.below ba).more ba.size) HS.out.symm (by omega) (by omega)
  have kb := clone_any b (o + 8) (c - 8) 4080 (sub l 8 4080) WB ((hs.below bb).more bb.size) HS.out.symm (by omega) (by omega)
  have hbl : b < w.heap.size := by
    obtain ⟨b', o', e, hb, -⟩ := hs (fun e => by have := HS.out; rw [e] at this; cases this)
    cases e; exact hb
  have kpA := And.intro ((ba.cell (p := ⟨b, o, none⟩) hbl).trans p0) <| And.intro ((ba.cell (p := ⟨b, o + 1, none⟩) hbl).trans p1) <| And.intro ((ba.cell (p := ⟨b, o + 2, none⟩) hbl).trans p2) <| And.intro ((ba.cell (p := ⟨b, o + 3, none⟩) hbl).trans p3) <| And.intro ((ba.cell (p := ⟨b, o + 4, none⟩) hbl).trans p4) <| And.intro ((ba.cell (p := ⟨b, o + 5, none⟩) hbl).trans p5) <| And.intro ((ba.cell (p := ⟨b, o + 6, none⟩) hbl).trans p6) <| And.intro ((ba.cell (p := ⟨b, o + 7, none⟩) hbl).trans p7) <| And.intro ((ba.cell (p := ⟨b, o + 4088, none⟩) hbl).trans q0) <| And.intro ((ba.cell (p := ⟨b, o + 4088 + 1, none⟩) hbl).trans q1) <| And.intro ((ba.cell (p := ⟨b, o + 4088 + 2, none⟩) hbl).trans q2) <| And.intro ((ba.cell (p := ⟨b, o + 4088 + 3, none⟩) hbl).trans q3) <| And.intro ((ba.cell (p := ⟨b, o + 4088 + 4, none⟩) hbl).trans q4) <| And.intro ((ba.cell (p := ⟨b, o + 4088 + 5, none⟩) hbl).trans q5) <| And.intro ((ba.cell (p := ⟨b, o + 4088 + 6, none⟩) hbl).trans q6) <| (ba.cell (p := ⟨b, o + 4088 + 7, none⟩) hbl).trans q7
  have kpB := And.intro ((bb.cell (p := ⟨b, o, none⟩) hbl).trans p0) <| And.intro ((bb.cell (p := ⟨b, o + 1, none⟩) hbl).trans p1) <| And.intro ((bb.cell (p := ⟨b, o + 2, none⟩) hbl).trans p2) <| And.intro ((bb.cell (p := ⟨b, o + 3, none⟩) hbl).trans p3) <| And.intro ((bb.cell (p := ⟨b, o + 4, none⟩) hbl).trans p4) <| And.intro ((bb.cell (p := ⟨b, o + 5, none⟩) hbl).trans p5) <| And.intro ((bb.cell (p := ⟨b, o + 6, none⟩) hbl).trans p6) <| And.intro ((bb.cell (p := ⟨b, o + 7, none⟩) hbl).trans p7) <| And.intro ((bb.cell (p := ⟨b, o + 4088, none⟩) hbl).trans q0) <| And.intro ((bb.cell (p := ⟨b, o + 4088 + 1, none⟩) hbl).trans q1) <| And.intro ((bb.cell (p := ⟨b, o + 4088 + 2, none⟩) hbl).trans q2) <| And.intro ((bb.cell (p := ⟨b, o + 4088 + 3, none⟩) hbl).trans q3) <| And.intro ((bb.cell (p := ⟨b, o + 4088 + 4, none⟩) hbl).trans q4) <| And.intro ((bb.cell (p := ⟨b, o + 4088 + 5, none⟩) hbl).trans q5) <| And.intro ((bb.cell (p := ⟨b, o + 4088 + 6, none⟩) hbl).trans q6) <| (bb.cell (p := ⟨b, o + 4088 + 7, none⟩) hbl).trans q7
  obtain ⟨A0, A1, A2, A3, A4, A5, A6, A7⟩ := c8 ga1
  obtain ⟨B0, B1, B2, B3, B4, B5, B6, B7⟩ := c8 ga2
  obtain ⟨C0, C1, C2, C3, C4, C5, C6, C7⟩ := c8 gb1
  obtain ⟨D0, D1, D2, D3, D4, D5, D6, D7⟩ := c8 gb2
  have heq : ∀ W, (Op.equalIn 10000 184 (.agg #[u8V x0, u8V x1, u8V x2, u8V x3, u8V x4, u8V x5, u8V x6, u8V x7]) (.agg #[u8V y0, u8V y1, u8V y2, u8V y3, u8V y4, u8V y5, u8V y6, u8V y7])).run Tryz.prog W = .ok ([x0, x1, x2, x3, x4, x5, x6, x7] == [y0, y1, y2, y3, y4, y5, y6, y7]) W := fun W => run_equalIn_bytes (P := Tryz.prog) W 9998 184 5 8 Tryz.underlying184 Tryz.underlying5 size5' [x0, x1, x2, x3, x4, x5, x6, x7] [y0, y1, y2, y3, y4, y5, y6, y7] rfl rfl
  obtain ⟨N, hN⟩ : ∃ N, N = leN [x0, x1, x2, x3, x4, x5, x6, x7] := ⟨_, rfl⟩
  rw [← hN] at ua ub ⊢
  by_cases hxy : [x0, x1, x2, x3, x4, x5, x6, x7] = [y0, y1, y2, y3, y4, y5, y6, y7]
  · have hb : ([x0, x1, x2, x3, x4, x5, x6, x7] == [y0, y1, y2, y3, y4, y5, y6, y7]) = true := by simpa using hxy
    simp only [hb] at heq
    have HX := Lib.hid hxy
    clear hxy hb hN ga1 ga2 gb1 gb2 ra rb
    go_enter Tryz.func58, Tryz.ntmps58
    go_wp2
    all_goals first | omega | skip
    go_region_held3 (fun w' => w'.cell? ⟨b, o, none⟩ = some (u8V x0) ∧ w'.cell? ⟨b, o + 1, none⟩ = some (u8V x1) ∧ w'.cell? ⟨b, o + 2, none⟩ = some (u8V x2) ∧ w'.cell? ⟨b, o + 3, none⟩ = some (u8V x3) ∧ w'.cell? ⟨b, o + 4, none⟩ = some (u8V x4) ∧ w'.cell? ⟨b, o + 5, none⟩ = some (u8V x5) ∧ w'.cell? ⟨b, o + 6, none⟩ = some (u8V x6) ∧ w'.cell? ⟨b, o + 7, none⟩ = some (u8V x7) ∧ w'.cell? ⟨b, o + 4088, none⟩ = some (u8V y0) ∧ w'.cell? ⟨b, o + 4088 + 1, none⟩ = some (u8V y1) ∧ w'.cell? ⟨b, o + 4088 + 2, none⟩ = some (u8V y2) ∧ w'.cell? ⟨b, o + 4088 + 3, none⟩ = some (u8V y3) ∧ w'.cell? ⟨b, o + 4088 + 4, none⟩ = some (u8V y4) ∧ w'.cell? ⟨b, o + 4088 + 5, none⟩ = some (u8V y5) ∧ w'.cell? ⟨b, o + 4088 + 6, none⟩ = some (u8V y6) ∧ w'.cell? ⟨b, o + 4088 + 7, none⟩ = some (u8V y7))
      (first | with_reducible exact kpA | with_reducible exact kpB | go_keep)
      (first | (fail))
    all_goals
      go_wp2_with (first
        | (go_at_call 107; with_reducible refine ua.mono ?_; rintro e WA ⟨rfl, rfl⟩)
        | (go_at_call 107; with_reducible refine ub.mono ?_; rintro e WB ⟨rfl, rfl⟩)
        | (go_at_call 108; with_reducible refine ka.mono ?_; rintro e w5 ⟨⟨v, rfl, own⟩, hb5⟩)
        | (go_at_call 108; with_reducible refine kb.mono ?_; rintro e w5 ⟨⟨v, rfl, own⟩, hb5⟩))
      obtain ⟨A9, k9, rfl, _, _, r9⟩ := own.sl HS.out
      refine bodyPost_ret (results_tmps3 rfl) rfl ?_
      first
        | exact ⟨.inl ⟨HX.out, _, _, rfl, r9⟩, ba.trans (hb5.mono ba.size)⟩
        | exact ⟨.inl ⟨HX.out, _, _, rfl, r9⟩, bb.trans (hb5.mono bb.size)⟩
  · have hb : ([x0, x1, x2, x3, x4, x5, x6, x7] == [y0, y1, y2, y3, y4, y5, y6, y7]) = false := by simpa using hxy
    simp only [hb] at heq
    have HX := Lib.hid hxy
    clear hxy hb hN ga1 ga2 gb1 gb2 ra rb ua ub ka kb
    go_enter Tryz.func58, Tryz.ntmps58
    go_wp2
    all_goals first | omega | skip
    go_region_held3 (fun w' => w'.cell? ⟨b, o, none⟩ = some (u8V x0) ∧ w'.cell? ⟨b, o + 1, none⟩ = some (u8V x1) ∧ w'.cell? ⟨b, o + 2, none⟩ = some (u8V x2) ∧ w'.cell? ⟨b, o + 3, none⟩ = some (u8V x3) ∧ w'.cell? ⟨b, o + 4, none⟩ = some (u8V x4) ∧ w'.cell? ⟨b, o + 5, none⟩ = some (u8V x5) ∧ w'.cell? ⟨b, o + 6, none⟩ = some (u8V x6) ∧ w'.cell? ⟨b, o + 7, none⟩ = some (u8V x7) ∧ w'.cell? ⟨b, o + 4088, none⟩ = some (u8V y0) ∧ w'.cell? ⟨b, o + 4088 + 1, none⟩ = some (u8V y1) ∧ w'.cell? ⟨b, o + 4088 + 2, none⟩ = some (u8V y2) ∧ w'.cell? ⟨b, o + 4088 + 3, none⟩ = some (u8V y3) ∧ w'.cell? ⟨b, o + 4088 + 4, none⟩ = some (u8V y4) ∧ w'.cell? ⟨b, o + 4088 + 5, none⟩ = some (u8V y5) ∧ w'.cell? ⟨b, o + 4088 + 6, none⟩ = some (u8V y6) ∧ w'.cell? ⟨b, o + 4088 + 7, none⟩ = some (u8V y7))
      (first | with_reducible exact kpA | with_reducible exact kpB | go_keep)
      (first | (fail))
    all_goals
      go_wp2
      refine bodyPost_ret (results_tmps3 rfl) rfl ?_
      first
        | exact ⟨.inr ⟨HX.out, rfl⟩, ba⟩
        | exact ⟨.inr ⟨HX.out, rfl⟩, bb⟩
end Go.Proofs.YtecnddogdiikiaaGreat

namespace Go.Proofs.YtecnddogdiikiaaGreat
open Go Go.RowKit
set_option maxRecDepth 100000
set_option maxHeartbeats 3000000

theorem of_k (k : Nat) (hk : k < 2) (w : World) : Calls Tryz.prog 29 #[.int .i64 1, .int .i64 (k : Int)] w fun e w' => e = .returned (.int .u64 ((4294967296 + k : Nat) : Int)) ∧ w' = w := by
  have : k = 0 ∨ k = 1 := by omega
  rcases this with rfl | rfl
  · exact of0 w
  · exact of1 w

theorem u8_not_d {w : World} {d db n o : Nat} {A0 : Option Addr} {n1 c1 : Nat} {ft wh : Int} {x : UInt8} (hD : DB w d db n (.slice A0 n1 c1) ft wh) (h : w.cell? ⟨d, o, none⟩ = some (u8V x)) : False := by
  rw [hD.cell] at h
  unfold dV at h
  match o, h with
  | 0, h => simp at h
  | 1, h => simp at h
  | 2, h => simp at h
  | 3, h => simp at h
  | 4, h => simp at h
  | 5, h => simp at h
  | 6, h => simp at h
  | k + 7, h => simp at h
theorem u8_not_db {w : World} {n0 d db o : Nat} {pv : Value} {P : PD} {x : UInt8} (hD : Dk w n0 d db pv P) (h : w.cell? ⟨db, o, none⟩ = some (u8V x)) : False := by
  obtain ⟨cs, h1, h2, h3⟩ := hD.row
  rw [cellD h1] at h
  have ho : o < P.bs.length := by rw [← h2]; exact (Array.getElem?_eq_some_iff.1 h).1
  obtain ⟨u, hu, hdb⟩ := h3 o ho
  rw [hu] at h
  cases h
  rcases hdb with ⟨g, e, _⟩ | ⟨e, _⟩ <;> cases e
theorem Rd.frk {w w' : World} {n0 d db B : Nat} {pv : Value} {P : PD} {A : Option Addr} {l : List UInt8} (h : Rd w B A l) (hB : B ≤ n0) (hn : n0 ≤ w.heap.size) (hD : Dk w n0 d db pv P) (hF : Fr n0 d db w w') : Rd w' B A l := fun hl => by
  obtain ⟨b, o, e, hb, hc⟩ := h hl
  have h0 : 0 < l.length := by cases l with | nil => exact absurd rfl hl | cons => simp
  have hne : ¬ (b = d ∨ b = db ∨ n0 ≤ b) := by
    rintro (rfl | rfl | hh)
    · obtain ⟨A0, c0, rfl⟩ := hD.pend.form
      exact u8_not_d hD.box (hc 0 h0)
    · exact u8_not_db hD (hc 0 h0)
    · omega
  exact ⟨b, o, e, hb, fun k hk => by rw [← hc k hk]; simp [World.cell?, hF.block b (by omega) hne]⟩

/-- what stands while the two payloads are written -/
structure Fo (W : World) (d db lb : Nat) (P : PD) (X1 X2 : PD × Int) (s1 s2 : Value) (k : Nat) (w : World) : Prop where
  c0 : k = 0 → ∃ pv, Dk w W.heap.size d db pv P
  c1 : k = 1 → X1.2 = 0 ∧ ∃ pv, Dk w W.heap.size d db pv X1.1
  c2 : k = 2 → X1.2 = 0 ∧ X2.2 = 0 ∧ ∃ pv, Dk w W.heap.size d db pv X2.1
  fr : Fr W.heap.size d db W w
  l0 : w.cell? ⟨lb, 0, none⟩ = some s1
  l1 : w.cell? ⟨lb, 1, none⟩ = some s2

theorem Fr.wk {n n0 d db : Nat} {w w' : World} (h : Fr n d db w w') (hn : n0 ≤ n) : Fr n0 d db w w' := h.weaken fun _ hk => hk.imp id fun x => x.imp id fun y => Nat.le_trans hn y

theorem wrap_fit {n : Int} (h : -9223372036854775808 ≤ n ∧ n ≤ 9223372036854775807) : IntKind.i64.wrap n = n := IntWalk.i64_in n h

theorem format_bad {w : World} {n0 d db : Nat} {P : PD} (h : Dk w n0 d db (.slice none 0 0) P) (hB : P.bs.length ≤ 4096) (hB1 : 1 ≤ P.bs.length) (log : Int) (hlo : -9223372036854775808 ≤ log) (hhi : log ≤ 9223372036854775807) (hbad : log < 24 ∨ 1024 < log ∨ (P.bs.length : Int) < 10 + log) :
    Calls Tryz.prog 8 #[.pointer (some ⟨d, 0, none⟩), .int .i64 log] w fun e w' => e = .returned (.int .i64 2) ∧ w' = w := by
  have hbk := blocks_any h.box
  generalize P.bs.length = B at *
  by_cases h1 : log < 24
  · go_enter Tryz.func8, Tryz.ntmps8
    go_wp2_with (go_at_call 15; with_reducible refine hbk.mono ?_; rintro e w ⟨rfl, rfl⟩)
    all_goals first | omega | skip
    go_ret
    exact ⟨rfl, rfl⟩
  · by_cases h2 : 1024 < log
    · go_enter Tryz.func8, Tryz.ntmps8
      go_wp2_with (go_at_call 15; with_reducible refine hbk.mono ?_; rintro e w ⟨rfl, rfl⟩)
      all_goals first | omega | skip
      go_ret
      exact ⟨rfl, rfl⟩
    · have w1 : IntKind.i64.wrap ((B : Int) - 2) = (B : Int) - 2 := wrap_fit (by omega)
      have w2 : IntKind.i64.wrap ((B : Int) - 2 - log) = (B : Int) - 2 - log := wrap_fit (by omega)
      have w3 : (B : Int) - 2 - log < 8 := by omega
      go_enter Tryz.func8, Tryz.ntmps8
      go_wp2_with (go_at_call 15; with_reducible refine hbk.mono ?_; rintro e w ⟨rfl, rfl⟩)
      all_goals first | omega | skip
      go_ret
      exact ⟨rfl, rfl⟩

theorem revread' {w : World} {n0 d db : Nat} {P : PD} (h : Dk w n0 d db (.slice none 0 0) P) (hB : P.bs.length ≤ 4096) (hB2 : 2 ≤ P.bs.length) :
    Calls Tryz.prog 6 #[.pointer (some ⟨d, 0, none⟩)] w fun e w' => (∃ H A3 B3 n3 c3 m3 d3 g, e = .returned (.tuple #[.agg (hdV H A3 B3 n3 c3 m3 d3), g, .int .i64 (readE P.bs)])) ∧ Below w.heap.size w w' := by
  refine (revread_any h hB hB2 fun w b o c l hr hl hc => open_any b o c l w hr hl hc).mono ?_
  rintro e w' ⟨⟨v, ⟨g, rfl⟩, H, A3, B3, n3, c3, m3, d3, rfl⟩, hb⟩
  exact ⟨⟨H, A3, B3, n3, c3, m3, d3, g, rfl⟩, hb⟩

theorem format_found {w : World} {n0 d db : Nat} {P : PD} (h : Dk w n0 d db (.slice none 0 0) P) (hB : P.bs.length ≤ 4096) (L : Nat) (h1 : 24 ≤ L) (h2 : L ≤ 1024) (h3 : 10 + L ≤ P.bs.length) (hh : readE P.bs = 0) :
    Calls Tryz.prog 8 #[.pointer (some ⟨d, 0, none⟩), .int .i64 (L : Int)] w fun e w' => e = .returned (.int .i64 260) ∧ Below w.heap.size w w' := by
  have hbk := blocks_any h.box
  have hr := revread' h hB (by omega)
  rw [hh] at hr
  generalize P.bs.length = B at *
  have w1 : IntKind.i64.wrap ((B : Int) - 2) = (B : Int) - 2 := wrap_fit (by omega)
  have w2 : IntKind.i64.wrap ((B : Int) - 2 - (L : Int)) = (B : Int) - 2 - (L : Int) := wrap_fit (by omega)
  have w3 : ¬ (B : Int) - 2 - (L : Int) < 8 := by omega
  go_enter Tryz.func8, Tryz.ntmps8
  go_wp2_with (first
    | (go_at_call 15; with_reducible refine hbk.mono ?_; rintro e w ⟨rfl, rfl⟩)
    | (go_at_call 6; with_reducible refine hr.mono ?_; rintro e w1 ⟨⟨H, A3, B3, n3, c3, m3, d3, g, rfl⟩, hb1⟩))
  all_goals first | omega | skip
  go_ret
  exact ⟨rfl, hb1.alloc hb1.size _⟩

noncomputable def goP (P : PD) (L : Nat) : PD × Int :=
  bindP (P.put (2 + L) (sealed taken 4294967296)) fun P1 => bindP (P1.put (3 + L) (sealed leafB 4294967297)) fun P2 => bindP P2.sync fun P3 => bindP (P3.put 1 (sealed (headB (firstH L)) 1)) fun P4 => P4.sync

theorem format_go {w : World} {n0 d db : Nat} {P : PD} (h : Dk w n0 d db (.slice none 0 0) P) (hB : P.bs.length ≤ 4096) (L : Nat) (h1 : 24 ≤ L) (h2 : L ≤ 1024) (h3 : 10 + L ≤ P.bs.length) (hh : readE P.bs = 260) :
    Calls Tryz.prog 8 #[.pointer (some ⟨d, 0, none⟩), .int .i64 (L : Int)] w fun e w' => e = .returned (.int .i64 (goP P L).2) ∧ (∃ n1 pv, Dk w' n1 d db pv (goP P L).1) ∧ Fr w.heap.size d db w w' := by
  have hbk := blocks_any h.box
  have hr := revread' h hB (by omega)
  rw [hh] at hr
  have hBL : 10 + L ≤ P.bs.length := h3
  obtain ⟨B, hBB⟩ : ∃ B, B = P.bs.length := ⟨_, rfl⟩
  rw [← hBB] at hbk
  have HB := Lib.hid hBB
  have w1 : IntKind.i64.wrap ((B : Int) - 2) = (B : Int) - 2 := wrap_fit (by omega)
  have w2 : IntKind.i64.wrap ((B : Int) - 2 - (L : Int)) = (B : Int) - 2 - (L : Int) := wrap_fit (by omega)
  have w3 : ¬ (B : Int) - 2 - (L : Int) < 8 := by omega
  have hbs : (1 : Int) ≤ (B : Int) := by omega
  clear hBB h3
  -- the chain of four
  obtain ⟨P1, y1, e1⟩ : ∃ P1 y1, P.put (2 + L) (sealed taken 4294967296) = (P1, y1) := ⟨_, _, rfl⟩
  obtain ⟨P2, y2, e2⟩ : ∃ P2 y2, P1.put (3 + L) (sealed leafB 4294967297) = (P2, y2) := ⟨_, _, rfl⟩
  obtain ⟨P3, y3, e3⟩ : ∃ P3 y3, P2.sync = (P3, y3) := ⟨_, _, rfl⟩
  obtain ⟨P4, y4, e4⟩ : ∃ P4 y4, (bindP (P3.put 1 (sealed (headB (firstH L)) 1)) fun P4 => P4.sync) = (P4, y4) := ⟨_, _, rfl⟩
  have hl1 : P1.bs.length = P.bs.length := by have := PD.put_len P (2 + L) (sealed taken 4294967296); rwa [e1] at this
  have hl2 : P2.bs.length = P.bs.length := by have := PD.put_len P1 (3 + L) (sealed leafB 4294967297); rw [e2] at this; exact this.trans hl1
  have hl3 : P3.bs.length = P.bs.length := by have := PD.sync_len P2; rw [e3] at this; exact this.trans hl2
  have hws : P.ws = [] := h.pend.none0
  have hw1 : P1.ws.length ≤ 1 := by have : P1 = (P.put (2 + L) (sealed taken 4294967296)).1 := by rw [e1]
                                    rw [this]; unfold PD.put; split <;> simp [PD.stop, hws]
  have hw2 : P2.ws.length ≤ 2 := by have : P2 = (P1.put (3 + L) (sealed leafB 4294967297)).1 := by rw [e2]
                                    rw [this]; unfold PD.put; split <;> simp [PD.stop] <;> omega
  have hw3 : P3.ws.length ≤ 2 := by have : P3 = P2.sync.1 := by rw [e3]
                                    rw [this]; unfold PD.sync; split <;> simp [PD.stop] <;> omega
  have hR : goP P L = if y1 = 0 then (if y2 = 0 then (if y3 = 0 then (P4, y4) else (P3, y3)) else (P2, y2)) else (P1, y1) := by
    unfold goP
    rw [e1]; unfold bindP; simp only
    split
    · rw [e2]; simp only
      split
      · rw [e3]; simp only
        split
        · exact e4
        · rfl
      · rfl
    · rfl
  obtain ⟨R, hRR⟩ : ∃ R, R = goP P L := ⟨_, rfl⟩
  rw [← hRR] at hR ⊢
  have HR := Lib.hid hR
  clear hR hRR
  go_enter Tryz.func8, Tryz.ntmps8
  go_wp2_with (first
    | (go_at_call 15; with_reducible refine hbk.mono ?_; rintro e w ⟨rfl, rfl⟩)
    | (go_at_call 6
       with_reducible refine hr.mono ?_
       rintro e w1 ⟨⟨H, A3, B3, n3, c3, m3, d3, g, rfl⟩, hb1⟩
       obtain ⟨W2, hW2⟩ : ∃ W2, w1.alloc (.cells #[.int .i64 H.lg, .int .i64 H.ep, .int .i64 H.fr, .int .i64 H.ct, .int .i64 H.nx, .slice A3 n3 c3, .slice B3 m3 d3] 28) = W2 := ⟨_, rfl⟩
       have b2 : Below w.heap.size w W2 := by rw [← hW2]; exact hb1.alloc hb1.size _
       obtain ⟨w3, hmk0, ho3, hb3⟩ := mkn W2 4080 (by omega)
       have hmk : (Instr.makeSlice 37 (.int .i64 4080) (.int .i64 4080)).run Tryz.prog W2 = .ok (.slice (some ⟨W2.heap.size, 0, none⟩) 4080 4080) w3 := hmk0
       have g3 := ho3.full (by simp) (by omega)
       have cz : w3.cell? ⟨W2.heap.size, 0, none⟩ = some (.int .u8 0) := (cellD g3 0).trans rfl
       have fz : w3.frozen? ⟨W2.heap.size, 0, none⟩ = false := frozenD g3 0
       obtain ⟨W4, hW4⟩ : ∃ W4, w3.setCell ⟨W2.heap.size, 0, none⟩ (.int .u8 3) = W4 := ⟨_, rfl⟩
       have g4 : W4.heap[W2.heap.size]? = some (.cells (taken.map u8V).toArray 5 (0, 0)) := by
         rw [← hW4, heap_setCell_same w3 _ 0 _ _ _ g3]
         rfl
       have b4 : Below w.heap.size w W4 := by rw [← hW4]; exact (b2.trans (hb3.mono b2.size)).setCell b2.size _
       have t4 : Rd W4 W4.heap.size (some ⟨W2.heap.size, 0, none⟩) taken := fun _ => ⟨_, 0, rfl, hlt g4, fun k hk => by rw [cellD g4]; simp [hk]⟩
       have pk := pack_any W4
       clear hmk0 ho3 g3 hb3 g4 hb1)
    | (go_at_call 34
       with_reducible refine pk.mono ?_
       rintro e w5 ⟨⟨A5, c5, rfl, r5⟩, hb5⟩
       obtain ⟨W6, hW6⟩ : ∃ W6, w5.alloc (.cells #[.slice (some ⟨W2.heap.size, 0, none⟩) 4080 4080, .slice A5 4080 c5] 37) = W6 := ⟨_, rfl⟩
       have g6 : W6.heap[w5.heap.size]? = some (.cells #[.slice (some ⟨W2.heap.size, 0, none⟩) 4080 4080, .slice A5 4080 c5] 37 (0, 0)) := by rw [← hW6]; exact heap_alloc_new w5 _
       have b65 : Below w5.heap.size w5 W6 := by rw [← hW6]; exact (Below.refl _ _).alloc (Nat.le_refl _) _
       have b6 : Below w.heap.size w W6 := (b4.trans (hb5.mono b4.size)).trans (b65.mono (Nat.le_trans b4.size hb5.size))
       have t6 := (t4.belowS hb5).belowS b65
       have l6 := r5.belowS b65))
  all_goals first | omega | skip
  have hd6 := (h.below b6).rebase
  have hdb : db < w5.heap.size := by
    obtain ⟨cs, hrow, -⟩ := h.row
    have := hlt hrow
    have := b4.size; have := hb5.size
    omega
  have hdd : d < w5.heap.size := by
    have := h.box.lt
    have := b4.size; have := hb5.size
    omega
  have hlb : w5.heap.size < W6.heap.size := hlt g6
  clear hW6 hW4 hW2 hmk cz fz b4 b2 t4 pk r5 hb5 b65
  generalize w5.heap.size = lb at *
  generalize W2.heap.size = tg at *
  have F0 : Fo W6 d db lb P (P1, y1) (P2, y2) (.slice (some ⟨tg, 0, none⟩) 4080 4080) (.slice A5 4080 c5) 0 W6 := ⟨fun _ => ⟨_, hd6⟩, fun h => (by cases h), fun h => (by cases h), Kp.refl _ _, cellD g6 0, cellD g6 1⟩
  have hsz6 : w.heap.size ≤ W6.heap.size := b6.size
  have fin : ∀ {w' : World}, Fr W6.heap.size d db W6 w' → Fr w.heap.size d db w w' := fun hF => (Fr.below b6).then (hF.wk hsz6)
  clear hd6 g6
  go_loopw [57] (fun i wr => ∃ k : Nat, k ≤ 2 ∧ i = .int .i64 k ∧ Fo W6 d db lb P (P1, y1) (P2, y2) (.slice (some ⟨tg, 0, none⟩) 4080 4080) (.slice A5 4080 c5) k wr) (fun i _ => 2 - (intOf i).toNat)
  case atStart => exact ⟨0, by omega, rfl, F0⟩
  case round =>
    obtain ⟨k, hk, rfl, F⟩ := hrel
    have hzr : W6.heap.size ≤ wr.heap.size := F.fr.size
    by_cases hk2 : k < 2
    · obtain ⟨Pk, Yk, q, Ak, ck, pvk, hDk, hYk, hq, hqr, hcell, hnum, hwsk, hwhich⟩ : ∃ Pk Yk q Ak ck pvk, Dk wr W6.heap.size d db pvk Pk ∧ Pk.put (2 + L + k) (sealed q (4294967296 + k)) = Yk ∧ q.length = 4080 ∧ Rd wr wr.heap.size Ak q ∧ wr.cell? ⟨lb, k, none⟩ = some (.slice Ak 4080 ck) ∧ 2 + L + k < Pk.bs.length ∧ Pk.ws.length ≤ 100 ∧ ((k = 0 ∧ Yk = (P1, y1)) ∨ (k = 1 ∧ y1 = 0 ∧ Yk = (P2, y2))) := by
        have hk01 : k = 0 ∨ k = 1 := by omega
        rcases hk01 with rfl | rfl
        · obtain ⟨pv, hD⟩ := F.c0 rfl
          exact ⟨P, (P1, y1), taken, _, _, pv, hD, e1, taken_len, (t6.frk (Nat.le_refl _) (Nat.le_refl _) (h.below b6).rebase F.fr).more hzr, F.l0, by omega, by rw [hws]; simp, .inl ⟨rfl, rfl⟩⟩
        · obtain ⟨hy, pv, hD⟩ := F.c1 rfl
          refine ⟨P1, (P2, y2), leafB, _, _, pv, hD, ?_, leafB_len, (l6.frk (Nat.le_refl _) (Nat.le_refl _) (h.below b6).rebase F.fr).more hzr, F.l1, by rw [hl1]; omega, by omega, .inr ⟨rfl, hy, rfl⟩⟩
          rw [← e2]
          congr 1
          omega
      have pt := put_any hDk (2 + L + k) hnum Ak ck (4294967296 + k) q hqr hq (by omega) hwsk
      rw [hYk] at pt
      have ec : ((2 + L + k : Nat) : Int) = 2 + (L : Int) + (k : Int) := by omega
      have ec2 : ((4294967296 + k : Nat) : Int) = 4294967296 + (k : Int) := by omega
      rw [ec, ec2] at pt
      obtain ⟨Q, y⟩ := Yk
      have hok := of_k k hk2
      have hmeas : 2 - (intOf (Value.int .i64 ((k : Int) + 1))).toNat < 2 - (intOf (Value.int .i64 (k : Int))).toNat := by simp [intOf]; omega
      have HW := Lib.hid hwhich
      clear hwhich hYk hqr hDk ec ec2 hwsk hnum
      by_cases hy : y = 0
      · subst hy
        go_wp2_with (first
          | (go_at_call 29; with_reducible refine (hok _).mono ?_; rintro e wr ⟨rfl, rfl⟩)
          | (go_at_call 28; with_reducible refine pt.mono ?_; rintro e w7 ⟨rfl, ⟨pv7, hD7⟩, hF7⟩))
        refine ⟨⟨k + 1, by omega, by go_num, ?_⟩, hmeas⟩
        have hlbb : ∀ j, w7.cell? ⟨lb, j, none⟩ = wr.cell? ⟨lb, j, none⟩ := fun j => by simp [World.cell?, hF7.block lb (by omega) (by omega)]
        refine ⟨fun h => by omega, fun h => ?_, fun h => ?_, F.fr.then hF7, (hlbb 0).trans F.l0, (hlbb 1).trans F.l1⟩
        · rcases HW.out with ⟨_, e⟩ | ⟨e, _, _⟩
          · cases e; exact ⟨rfl, _, hD7⟩
          · omega
        · rcases HW.out with ⟨e, _⟩ | ⟨_, hy1, e⟩
          · omega
          · cases e; exact ⟨hy1, rfl, _, hD7⟩
      · go_wp2_with (first
          | (go_at_call 29; with_reducible refine (hok _).mono ?_; rintro e wr ⟨rfl, rfl⟩)
          | (go_at_call 28; with_reducible refine pt.mono ?_; rintro e w7 ⟨rfl, ⟨pv7, hD7⟩, hF7⟩))
        go_ret
        have hRQ : R = (Q, y) := by
          rw [HR.out]
          rcases HW.out with ⟨_, e⟩ | ⟨_, hy1, e⟩
          · cases e; rw [if_neg hy]
          · cases e; rw [if_pos hy1, if_neg hy]
        exact ⟨by rw [hRQ]; rfl, ⟨_, _, by rw [hRQ]; exact hD7⟩, fin (F.fr.then hF7)⟩
    · obtain rfl : k = 2 := by omega
      obtain ⟨hy1, hy2, pv, hD⟩ := F.c2 rfl
      simp only at hy1 hy2 hD
      have sy := sync_any hD (by omega)
      rw [e3] at sy
      rw [if_pos hy1, if_pos hy2] at HR
      simp only at sy
      by_cases hy : y3 = 0
      · subst hy
        rw [if_pos rfl] at HR
        have ph : ∀ (w8 : World) (pv8 : Value), Dk w8 W6.heap.size d db pv8 P3 → Calls Tryz.prog 31 #[.pointer (some ⟨d, 0, none⟩), .agg #[.int .i64 (L : Int), .int .i64 1, .int .i64 0, .int .i64 1, .int .i64 1, .slice none 0 0, .slice none 0 0], .int .i64 1] w8 fun e w' => e = .returned (.int .i64 y4) ∧ (∃ pv', Dk w' W6.heap.size d db pv' P4) ∧ Fr W6.heap.size d db w8 w' := by
          intro w8 pv8 h8
          have := puthead_any h8 (by rw [hl3]; omega) L h1 h2 (by omega)
          rw [e4] at this
          exact this
        go_wp2_with (first
          | (go_at_call 12; with_reducible refine sy.mono ?_; rintro e w8 ⟨rfl, ⟨pv8, hD8, -⟩, hF8⟩)
          | (go_at_call 31; with_reducible refine (ph w8 pv8 hD8).mono ?_; rintro e w9 ⟨rfl, ⟨pv9, hD9⟩, hF9⟩))
        go_ret
        exact ⟨by rw [HR.out]; rfl, ⟨_, _, by rw [HR.out]; exact hD9⟩, fin ((F.fr.then hF8).then hF9)⟩
      · rw [if_neg hy] at HR
        go_wp2_with (go_at_call 12; with_reducible refine sy.mono ?_; rintro e w8 ⟨rfl, ⟨pv8, hD8, -⟩, hF8⟩)
        go_ret
        exact ⟨by rw [HR.out]; rfl, ⟨_, _, by rw [HR.out]; exact hD8⟩, fin (F.fr.then hF8)⟩
end Go.Proofs.YtecnddogdiikiaaGreat

