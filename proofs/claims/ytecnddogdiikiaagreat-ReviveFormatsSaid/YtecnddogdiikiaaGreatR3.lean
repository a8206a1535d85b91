/-
  stamp.Open and chanceryref04.Open, Seal, Of: what each call does.
  chanceryref03: Read, where nothing is unsynced: what the call does.
-/
import Derived.Test.YtecnddogdiikiaaGreatD3
import Derived.Test.YtecnddogdiikiaaGreatHSome
import Derived.Test.YtecnddogdiikiaaGreatHOf
import Derived.Test.YtecnddogdiikiaaGreatD1
import Derived.Laws.Cover3
set_option linter.unusedVariables false
set_option linter.unusedSimpArgs false
namespace Go.Proofs.YtecnddogdiikiaaGreat
open Go Go.RowKit
set_option maxRecDepth 100000
set_option maxHeartbeats 1600000

theorem rof0 (w : World) : Calls Tryz.prog 103 #[.int .i64 1, .int .i64 0] w fun e w' => e = .returned (.int .u64 4294967296) ∧ w' = w := by
  go_enter Tryz.func103, Tryz.ntmps103
  go_wp2
  go_ret
  exact ⟨rfl, rfl⟩
theorem rof1 (w : World) : Calls Tryz.prog 103 #[.int .i64 1, .int .i64 1] w fun e w' => e = .returned (.int .u64 4294967297) ∧ w' = w := by
  go_enter Tryz.func103, Tryz.ntmps103
  go_wp2
  go_ret
  exact ⟨rfl, rfl⟩

theorem Rd.sub {w : World} {B b o : Nat} {l : List UInt8} (h : Rd w B (some ⟨b, o, none⟩) l) {p n : Nat} (hp : p + n ≤ l.length) : Rd w B (some ⟨b, o + p, none⟩) (sub l p n) := fun hne => by
  obtain ⟨b', o', e, hb, hc⟩ := h (by rintro rfl; simp [Go.Proofs.YtecnddogdiikiaaGreat.sub] at hne)
  cases e
  refine ⟨b, o + p, rfl, hb, fun k hk => ?_⟩
  have hk2 : k < n := by rw [sub_len hp] at hk; exact hk
  have e2 : (Go.Proofs.YtecnddogdiikiaaGreat.sub l p n)[k] = l[p + k]'(by omega) := by simp [Go.Proofs.YtecnddogdiikiaaGreat.sub]
  rw [e2, Nat.add_assoc]
  exact hc (p + k) (by omega)

/-- two stamps that read alike are alike -/
theorem leN_inj : ∀ {a b : List UInt8}, a.length = b.length → leN a = leN b → a = b
  | [], [], _, _ => rfl
  | x :: a, y :: b, h, e => by
    simp only [leN] at e
    have hx := x.toNat_lt
    have hy := y.toNat_lt
    have e1 : x.toNat = y.toNat := by omega
    have e2 : leN a = leN b := by omega
    rw [leN_inj (by simpa using h) e2, UInt8.toNat_inj.1 e1]

theorem results_tmps3 {fn : Func} {p q r : Tmp} (h : fn.results = #[.tmp p, .tmp q, .tmp r]) {tmps : Array Value} {P : Program} {w : World} : (results fn tmps).run P w = .ok (.tuple #[tmps.getD p undef, tmps.getD q undef, tmps.getD r undef]) w := by
  simp only [results, h]
  simp [Sem.run_bind, Result.andThen]
theorem ropen_any (b o c : Nat) (l : List UInt8) (w : World) (hr : Rd w w.heap.size (some ⟨b, o, none⟩) l) (hl : l.length = 4096) (hc : 4096 ≤ c) :
    Calls Tryz.prog 97 #[.slice (some ⟨b, o, none⟩) 4096 c] w fun e w' => ((sub l 0 8 = sub l 4088 8 ∧ ∃ A c', e = .returned (.tuple #[.slice A 4080 c', .int .u64 (leN (sub l 0 8) : Nat), .int .i64 0]) ∧ Rd w' w'.heap.size A (sub l 8 4080)) ∨ (sub l 0 8 ≠ sub l 4088 8 ∧ e = .returned (.tuple #[.slice none 0 0, .int .u64 0, .int .i64 140]))) ∧ Below w.heap.size w w' := by
  have hc8 : ¬ c = 8 := by omega
  have hs := hr.sub (p := 8) (n := 4080) (by omega)
  have HN := Lib.hid hl.symm
  obtain ⟨x, hx⟩ : ∃ x, x = leN (sub l 0 8) := ⟨_, rfl⟩
  obtain ⟨y, hy⟩ : ∃ y, y = leN (sub l 4088 8) := ⟨_, rfl⟩
  have hll : l.length ≤ 1000000 := by omega
  have q1 : 0 + 8 ≤ l.length := by omega
  have q2 : 4088 + 8 ≤ l.length := by omega
  have r1 : Calls Tryz.prog 165 #[.slice (some ⟨b, o, none⟩) 4096 c, .int .i64 0, .int .i64 8] w fun e w' => e = .returned (.tuple #[.int .u64 (leN (sub l 0 8) : Nat), .bool true]) ∧ w' = w := refnum8 (some ⟨b, o, none⟩) c 4096 0 l w hr HN.out hll q1
  have r2 : Calls Tryz.prog 165 #[.slice (some ⟨b, o, none⟩) 4096 c, .int .i64 4088, .int .i64 8] w fun e w' => e = .returned (.tuple #[.int .u64 (leN (sub l 4088 8) : Nat), .bool true]) ∧ w' = w := refnum8 (some ⟨b, o, none⟩) c 4096 4088 l w hr HN.out hll q2
  rw [← hx] at r1
  rw [← hy] at r2
  have hxy : (sub l 0 8 = sub l 4088 8) ↔ x = y := by
    rw [hx, hy]
    exact ⟨fun e => by rw [e], fun e => leN_inj (by rw [sub_len q1, sub_len q2]) e⟩
  rw [← hx]
  have HX := Lib.hid hxy
  have hsl := sub_len (l := l) (a := 8) (n := 4080) (by omega)
  have HS := Lib.hid hsl
  clear hx hy hxy hl hr hsl
  by_cases he : x = y
  · subst he
    go_enter Tryz.func97, Tryz.ntmps97
    go_wp2_with (first
      | (go_at_call 165; with_reducible refine r1.mono ?_; rintro e w ⟨rfl, rfl⟩)
      | (go_at_call 165; with_reducible refine r2.mono ?_; rintro e w ⟨rfl, rfl⟩)
      | (at_builtin; refine apB rfl (.tmp 26) (.tmp 28) rfl w.heap.size _ [] rfl (.nil _ _) _ (some ⟨b, o + 8, none⟩) 4080 (c - 8) (sub l 8 4080) rfl HS.out.symm hs ?c1 ?c2 ?_))
    all_goals first | omega | skip
    case c1 => have := HS.out; simp; omega
    all_goals try (first | exact Nat.le_refl _ | omega)
    intro v w1 hown hb _ _
    obtain ⟨A1, c1, rfl, _, _, hr1⟩ := hown.sl (n := 4080) (by have := HS.out; simpa using this)
    go_wp2
    refine bodyPost_ret (results_tmps3 rfl) rfl ?_
    exact ⟨.inl ⟨HX.out.2 trivial, _, _, rfl, hr1⟩, hb⟩
  · go_enter Tryz.func97, Tryz.ntmps97
    go_wp2_with (first
      | (go_at_call 165; with_reducible refine r1.mono ?_; rintro e w ⟨rfl, rfl⟩)
      | (go_at_call 165; with_reducible refine r2.mono ?_; rintro e w ⟨rfl, rfl⟩))
    all_goals first | omega | skip
    refine bodyPost_ret (results_tmps3 rfl) rfl ?_
    exact ⟨.inr ⟨fun e => he (HX.out.1 e), rfl⟩, Below.refl _ _⟩
end Go.Proofs.YtecnddogdiikiaaGreat

namespace Go.Proofs.YtecnddogdiikiaaGreat
open Go Go.RowKit
set_option maxRecDepth 100000
set_option maxHeartbeats 600000

theorem rread_raw {w : World} {g o B c m b ub uo uc : Nat} {A : Option Addr} {ft wh : Int} (hg : g < w.heap.size) (hb : b < B) (hu : w.cell? ⟨g, o + b, none⟩ = some (.slice (some ⟨ub, uo, none⟩) 4096 uc))
    (hI : ∀ w : World, Calls Tryz.prog 164 #[.agg #[.slice (some ⟨g, o, none⟩) B c, .slice A 0 m, .bool false, .int .i64 (-1), .int .i64 ft, .int .i64 wh], .int .i64 (b : Int)] w fun e w' => e = .returned (.bool true) ∧ Below w.heap.size w w') :
    Calls Tryz.prog 96 #[.agg #[.slice (some ⟨g, o, none⟩) B c, .slice A 0 m, .bool false, .int .i64 (-1), .int .i64 ft, .int .i64 wh], .int .i64 (b : Int)] w fun e w' => e = .returned (.tuple #[.slice (some ⟨ub, uo, none⟩) 4096 uc, .int .i64 0]) ∧ Below w.heap.size w w' := by
  obtain ⟨W0, hW0⟩ : ∃ W0, w.alloc (.cells #[.slice (some ⟨g, o, none⟩) B c, .slice A 0 m, .bool false, .int .i64 (-1), .int .i64 ft, .int .i64 wh] 50) = W0 := ⟨_, rfl⟩
  have g0 : W0.heap[w.heap.size]? = some (.cells #[.slice (some ⟨g, o, none⟩) B c, .slice A 0 m, .bool false, .int .i64 (-1), .int .i64 ft, .int .i64 wh] 50 (0, 0)) := by rw [← hW0]; exact heap_alloc_new w _
  have b0 : Below w.heap.size w W0 := by rw [← hW0]; exact (Below.refl _ _).alloc (Nat.le_refl _) _
  have c0 : W0.cell? ⟨w.heap.size, 0, none⟩ = some (.slice (some ⟨g, o, none⟩) B c) := cellD g0 0
  have c1 : W0.cell? ⟨w.heap.size, 1, none⟩ = some (.slice A 0 m) := cellD g0 1
  have c2 : W0.cell? ⟨w.heap.size, 2, none⟩ = some (.bool false) := cellD g0 2
  have c3 : W0.cell? ⟨w.heap.size, 3, none⟩ = some (.int .i64 (-1)) := cellD g0 3
  have c4 : W0.cell? ⟨w.heap.size, 4, none⟩ = some (.int .i64 ft) := cellD g0 4
  have c5 : W0.cell? ⟨w.heap.size, 5, none⟩ = some (.int .i64 wh) := cellD g0 5
  have h0 := hI W0
  have cu := (b0.cell (p := ⟨g, o + b, none⟩) hg).trans hu
  have hz := hlt g0
  clear hI
  go_enter Tryz.func96, Tryz.ntmps96
  go_wp2_with (go_at_call 164; refine h0.mono ?_; rintro e w1 ⟨rfl, hb1⟩; have d0 := (hb1.cell (p := ⟨w.heap.size, 0, none⟩) hz).trans c0; have d1 := (hb1.cell (p := ⟨w.heap.size, 1, none⟩) hz).trans c1; have d2 := (hb1.cell (p := ⟨w.heap.size, 2, none⟩) hz).trans c2; have du := (hb1.cell (p := ⟨g, o + b, none⟩) (Nat.lt_trans hg hz)).trans cu; clear c0 c1 c2 c3 c4 c5 cu)
  all_goals first | omega | skip
  go_loopw [6, 7] (fun v i wr => v = .slice (some ⟨ub, uo, none⟩) 4096 uc ∧ i = .int .i64 0 ∧ wr = w1) (fun _ _ _ => 0)
  case atStart => exact ⟨rfl, rfl, rfl⟩
  case round =>
    obtain ⟨rfl, rfl, rfl⟩ := hrel
    go_wp2
    go_ret2
    exact ⟨rfl, b0.trans (hb1.mono b0.size)⟩
end Go.Proofs.YtecnddogdiikiaaGreat

