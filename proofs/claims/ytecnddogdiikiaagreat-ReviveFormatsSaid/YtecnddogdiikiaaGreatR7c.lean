/-
  chanceryref03: Put, left, Sync: what each call does.
  chanceryref03.Put (f104), when it fails.
  chanceryref03.Put (f104), when nothing fails.
-/
import Derived.Test.YtecnddogdiikiaaGreatR2
import Derived.Test.YtecnddogdiikiaaGreatD3
import Derived.Test.YtecnddogdiikiaaGreatR5
set_option linter.unusedVariables false
set_option linter.unusedSimpArgs false
namespace Go.Proofs.YtecnddogdiikiaaGreat
open Go Go.RowKit
set_option maxRecDepth 100000
set_option maxHeartbeats 3000000

theorem info242 : (Tryz.prog.info? 242).map (fun i => (i.zero, i.size, i.bytes)) = some (some (.agg #[.int .i64 0, .slice none 0 0]), 2, 32) := by kernel_rfl

theorem wc_one : ∀ (ws : List (Nat × List UInt8)) (us : List Value), (∀ u ∈ us, u.oneCell' = true) → ∀ u ∈ wc ws us, u.oneCell' = true
  | x :: ws, u :: us, h, z, hz => by
    simp only [wc, List.mem_cons] at hz
    rcases hz with rfl | rfl | hz
    · rfl
    · exact h _ List.mem_cons_self
    · exact wc_one ws us (fun u hu => h u (List.mem_cons_of_mem _ hu)) z hz
  | [], _, _, z, hz => by simp [wc] at hz
  | _ :: _, [], _, z, hz => by simp [wc] at hz
theorem Hb.one {w : World} {lo : Nat} {v : Value} {l : List UInt8} (h : Hb w lo v l) : v.oneCell' = true := by
  obtain ⟨b, o, c, rfl, _⟩ := h; rfl
theorem addOff (g o j : Nat) : (⟨g, o, none⟩ : Addr).add j = ⟨g, o + j, none⟩ := by unfold Addr.add; split <;> simp_all
theorem grown_below {w w' : World} {v : Value} {B : Nat} (h : w.grownBy w' v.ownBlock) (hv : ∀ k, v.ownBlock = some k → B ≤ k) (hB : B ≤ w.heap.size) : Below B w w' :=
  ⟨h.os, h.tape, h.output, h.size, fun k hk => h.block k (by omega) fun e => by have := hv k e.symm; omega⟩

/-- a copy of the unsynced writes' row -/
theorem app1 {w0 w : World} {lo : Nat} {y : Value} {ws : List (Nat × List UInt8)} (h : Rws w0 lo y ws) (hb0 : Below w0.heap.size w0 w) (hw : ws.length ≤ 100) :
    ∃ v' w', (Builtin.append_ #[48, 48] 48 #[.slice none 0 0, y]).run Tryz.prog w = .ok v' w' ∧ (∃ us : List Value, us.length = ws.length ∧ w'.ownsRow w.heap.size 242 2 v' ws.length (wc ws us) ∧ ∀ k (h : k < us.length) (h' : k < ws.length), Hb w0 lo us[k] ws[k].2) ∧ Below w.heap.size w w' := by
  obtain ⟨i0, hi, hz0, hz1, hz2⟩ := info_parts info242
  obtain ⟨A, c, rfl, hnil, hsome⟩ := h
  by_cases he : ws = []
  · obtain ⟨rfl, rfl⟩ := hnil he
    subst he
    refine ⟨.slice none 0 0, w, by simp [Builtin.append_, run_underlying Tryz.underlying48, sizeOf, typeInfo, hi, Builtin.lenOf, Builtin.firstCells], ⟨[], rfl, World.ownsRow_nil _ _ _ _, fun k h => by simp at h⟩, Below.refl _ _⟩
  · obtain ⟨g, o, us, rfl, h1, h2, h3, h4, h5, -⟩ := hsome he
    obtain ⟨v', w', hr, ho, hg, _, _⟩ := run_append_own_at (P := Tryz.prog) w w.heap.size 48 48 242 i0 _ 2 32 Tryz.underlying48 hi hz0 hz1 hz2 rfl (by omega) (.slice none 0 0) 0 [] (World.ownsRow_nil _ _ _ _) ⟨g, o, none⟩ ws.length c (wc ws us) (wc_len _ _ h3) (fun j u hu => by rw [addOff]; exact (hb0.cell (p := ⟨g, o + j, none⟩) h2).trans (h4 j u hu))
      (wc_one ws us fun u hu => by
        obtain ⟨k, hk, rfl⟩ := List.mem_iff_getElem.1 hu
        exact (h5 k hk (by omega)).one) (by simp [maxLen]; omega) (by omega) (Nat.le_refl _)
    have hb := grown_below hg (B := w.heap.size) (fun k hk => by simp [Value.ownBlock] at hk) (Nat.le_refl _)
    exact ⟨v', w', hr, ⟨us, h3, by simpa using ho, h5⟩, hb⟩
theorem own_sl {w : World} {base e size n : Nat} {v : Value} {xs : List Value} (h : w.ownsRow base e size v n xs) : ∃ A c, v = .slice A n c := by
  rcases h.2 with ⟨rfl, rfl⟩ | ⟨g, c, _, rfl, _⟩ <;> exact ⟨_, _, rfl⟩
theorem own_blk {w : World} {base e size n : Nat} {v : Value} {xs : List Value} (h : w.ownsRow base e size v n xs) {k : Nat} (hk : v.ownBlock = some k) : base ≤ k ∧ ∃ x, w.heap[k]? = some (.cells x e (0, 0)) := by
  rcases h.2 with ⟨rfl, rfl⟩ | ⟨g, c, cur, rfl, h1, h2, _⟩
  · simp [Value.ownBlock] at hk
  · simp [Value.ownBlock] at hk; subst hk; exact ⟨h1, _, h2⟩
theorem Rws.of_own {w : World} {lo base : Nat} {v : Value} {ws : List (Nat × List UInt8)} {us : List Value} (own : w.ownsRow base 242 2 v ws.length (wc ws us)) (hus : us.length = ws.length) (hne : ws ≠ []) (hlo : lo ≤ base) (hb : ∀ k (h : k < us.length) (h' : k < ws.length), Hb w lo us[k] ws[k].2) : Rws w lo v ws := by
  rcases own.2 with ⟨_, e⟩ | ⟨g, cap, cur, rfl, h1, h2, h3, h4, h5, h6⟩
  · exact absurd (List.eq_nil_of_length_eq_zero e) hne
  · refine ⟨_, cap, rfl, fun e => absurd e hne, fun _ => ⟨g, 0, us, rfl, Nat.le_trans hlo h1, hlt h2, hus, fun j u hu => ?_, hb, _, h2⟩⟩
    rw [Nat.zero_add, cellD h2]
    rw [← h6, List.getElem?_take] at hu
    split at hu
    · simpa using hu
    · cases hu

/-- one more write -/
theorem app2 {w : World} {base n b : Nat} {v u : Value} {xs : List Value} (hown : w.ownsRow base 242 2 v n xs) (hn : n ≤ 100) (hu : u.oneCell' = true) (hbase : base ≤ w.heap.size) :
    ∃ v' w', (Builtin.append_ #[48, 48] 48 #[v, .slice (some ⟨w.heap.size, 0, none⟩) 1 1]).run Tryz.prog (w.alloc (.cells #[.int .i64 (b : Int), u] 242)) = .ok v' w' ∧ w'.ownsRow base 242 2 v' (n + 1) (xs ++ [.int .i64 (b : Int), u]) ∧ (w.alloc (.cells #[.int .i64 (b : Int), u] 242)).grownBy w' v.ownBlock := by
  obtain ⟨i0, hi, hz0, hz1, hz2⟩ := info_parts info242
  obtain ⟨v', w', hr, ho, hg, _, _⟩ := run_append_own_at (P := Tryz.prog) (w.alloc (.cells #[.int .i64 (b : Int), u] 242)) base 48 48 242 i0 _ 2 32 Tryz.underlying48 hi hz0 hz1 hz2 rfl (by omega) v n xs (ownsRow_same hown fun g x hx => Below.heap_alloc w _ g (hlt hx)) ⟨w.heap.size, 0, none⟩ 1 1 [.int .i64 (b : Int), u] rfl (fun j v hj => by
      rw [addOff, Nat.zero_add, World.cell?_alloc_at _ _ _ _ rfl]; simpa using hj) (fun z hz => by simp at hz; rcases hz with rfl | rfl; exact rfl; exact hu) (by simp [maxLen]; omega) (by omega) (by simp; omega)
  exact ⟨v', w', hr, ho, hg⟩

theorem app3 {w : World} {base n b : Nat} {A : Option Addr} {c : Nat} {u : Value} {xs : List Value} (hown : w.ownsRow base 242 2 (.slice A n c) n xs) (hn : n ≤ 100) (hu : u.oneCell' = true) (hbase : base ≤ w.heap.size) :
    ∃ A' c' w', (Builtin.append_ #[48, 48] 48 #[.slice A n c, .slice (some ⟨w.heap.size, 0, none⟩) 1 1]).run Tryz.prog (w.alloc (.cells #[.int .i64 (b : Int), u] 242)) = .ok (.slice A' (n + 1) c') w' ∧ w'.ownsRow base 242 2 (.slice A' (n + 1) c') (n + 1) (xs ++ [.int .i64 (b : Int), u]) ∧ Below base w w' ∧ ∀ (g : Nat) (x : Array Value), w.heap[g]? = some (Obj.cells x 5 (0, 0)) → w'.heap[g]? = some (Obj.cells x 5 (0, 0)) := by
  obtain ⟨v', w', hr, ho, hg⟩ := app2 (b := b) hown hn hu hbase
  obtain ⟨A', c', rfl⟩ := own_sl ho
  have hk : ∀ k, (Value.slice A n c).ownBlock = some k → base ≤ k ∧ ∃ x, w.heap[k]? = some (.cells x 242 (0, 0)) := fun k hk => own_blk hown hk
  refine ⟨A', c', w', hr, ho, ((Below.refl _ _).alloc hbase _).trans (grown_below hg (fun k h => (hk k h).1) (by rw [World.size_alloc]; omega)), fun g x hx => ?_⟩
  rw [hg.block g (by rw [World.size_alloc]; have := hlt hx; omega) fun e => by
    obtain ⟨-, y, hy⟩ := hk g e.symm
    rw [hx] at hy; cases hy]
  exact (Below.heap_alloc w _ g (hlt hx)).trans hx
end Go.Proofs.YtecnddogdiikiaaGreat

namespace Go.Proofs.YtecnddogdiikiaaGreat
open Go Go.RowKit
set_option maxRecDepth 100000
set_option maxHeartbeats 3000000

theorem rput_bad {w : World} {lo : Nat} {v : Value} {P : PD} (h : Rv w lo v P) (hlo : lo ≤ w.heap.size) (b : Nat) (hb : b < P.bs.length) (A : Option Addr) (c : Nat) (l : List UInt8) (hr : Rd w w.heap.size A l) (hl : l.length = 4096) (hw : P.ws.length ≤ 90) (he0 : opE P.ft P.wh ≠ 0) :
    Calls Tryz.prog 104 #[v, .int .i64 (b : Int), .slice A 4096 c] w fun e w' => (∃ v', e = .returned (.tuple #[v', .int .i64 (P.put b l).2]) ∧ Rv w' lo v' (P.put b l).1) ∧ Below w.heap.size w w' := by
  obtain ⟨x, y, rfl, hrow, hws, hok⟩ := h
  have hrow0 := hrow
  obtain ⟨g, o, rc, rfl, hg1, hg2, hg3⟩ := hrow0
  have hws0 := hws
  obtain ⟨Y, m, rfl, -, -⟩ := hws0
  obtain ⟨B, hB⟩ : ∃ B, B = P.bs.length := ⟨_, rfl⟩
  obtain ⟨n, hn⟩ : ∃ n, n = P.ws.length := ⟨_, rfl⟩
  obtain ⟨ft, hft⟩ : ∃ ft, ft = P.ft := ⟨_, rfl⟩
  obtain ⟨wh, hwh⟩ : ∃ wh, wh = P.wh := ⟨_, rfl⟩
  rw [← hB, ← hn, ← hft, ← hwh]
  have he : opE ft wh ≠ 0 := by rw [hft, hwh]; exact he0
  clear he0
  obtain ⟨W0, hW0⟩ : ∃ W0, (w.alloc (.cells #[.slice (some ⟨g, o, none⟩) B rc, .slice Y n m, .bool false, .int .i64 (-1), .int .i64 ft, .int .i64 wh] 50)).alloc (.cells #[.slice none 0 0, .slice none 0 0, .bool false, .int .i64 0, .int .i64 0, .int .i64 0] 50) = W0 := ⟨_, rfl⟩
  have g3 : W0.heap[w.heap.size]? = some (.cells #[.slice (some ⟨g, o, none⟩) B rc, .slice Y n m, .bool false, .int .i64 (-1), .int .i64 ft, .int .i64 wh] 50 (0, 0)) := by rw [← hW0]; exact (Below.heap_alloc _ _ _ (by simp)).trans (heap_alloc_new w _)
  have g6 : W0.heap[w.heap.size + 1]? = some (.cells #[.slice none 0 0, .slice none 0 0, .bool false, .int .i64 0, .int .i64 0, .int .i64 0] 50 (0, 0)) := by
    rw [← hW0]
    have := heap_alloc_new (w.alloc (.cells #[.slice (some ⟨g, o, none⟩) B rc, .slice Y n m, .bool false, .int .i64 (-1), .int .i64 ft, .int .i64 wh] 50)) (.cells #[.slice none 0 0, .slice none 0 0, .bool false, .int .i64 0, .int .i64 0, .int .i64 0] 50)
    rw [World.size_alloc] at this
    exact this
  have b0 : Below w.heap.size w W0 := by rw [← hW0]; exact ((Below.refl _ _).alloc (Nat.le_refl _) _).alloc (by simp) _
  obtain ⟨c0, c1, c2, c3, c4, c5⟩ := cells6 g3
  have hI := is_any (some ⟨g, o, none⟩) B rc Y n m ft wh b (by omega) W0
  have hO := fun W => roper_any (some ⟨g, o, none⟩) B rc Y n m ft wh (by rw [hft]; exact hok.lo) (by rw [hft]; exact hok.hi) W
  have HL := Lib.hid hl
  have hz3 := hlt g3
  have HB := Lib.hid hB
  have HN := Lib.hid hn
  have HF := Lib.hid hft
  have HH := Lib.hid hwh
  clear hl hB hn hft hwh
  have FR : ∀ w', Below w.heap.size w w' → Rv w' lo (rvv (.slice (some ⟨g, o, none⟩) B rc) (.slice Y n m) (opF ft) wh) P.stop := fun w' hb => by
    have := HB.out; have := HN.out; have := HF.out; have := HH.out
    subst B n ft wh
    exact ⟨_, _, rfl, hrow.same (Up.below hb), hws.same (Up.below hb), hok.stop⟩
  have hpn : P.put b l = (P.stop, opE ft wh) := by rw [put_no (by rw [← HF.out, ← HH.out]; exact he), HF.out, HH.out]
  rw [hpn]
  go_enter Tryz.func104, Tryz.ntmps104
  go_wp2_with (first
    | (go_at_call 164; with_reducible refine hI.mono ?_; rintro e w1 ⟨rfl, hb1⟩; have d0 := (hb1.cell (p := ⟨w.heap.size, 0, none⟩) hz3).trans c0; have d1 := (hb1.cell (p := ⟨w.heap.size, 1, none⟩) hz3).trans c1; have d2 := (hb1.cell (p := ⟨w.heap.size, 2, none⟩) hz3).trans c2; have d3 := (hb1.cell (p := ⟨w.heap.size, 3, none⟩) hz3).trans c3; have d4 := (hb1.cell (p := ⟨w.heap.size, 4, none⟩) hz3).trans c4; have d5 := (hb1.cell (p := ⟨w.heap.size, 5, none⟩) hz3).trans c5; have g61 := (hb1.block _ (hlt g6)).trans g6)
    | (go_at_call 169; with_reducible refine (hO _).mono ?_; rintro e w2 ⟨rfl, hb2⟩; have g62 := (hb2.block _ (hlt g61)).trans g61; have g63 := fun o => (Below.heap_alloc w2 o _ (hlt g62)).trans g62)
    | (refine stV rfl 50 (.tmp 6) (.tmp 28) rfl rfl (w.heap.size + 1) 0 rfl 6 sz50 _ (rvv (.slice (some ⟨g, o, none⟩) B rc) (.slice Y n m) (opF ft) wh) 50 (g63 _) rfl (by simp) rfl (by simp [Value.cells, Value.oneCell']) ?_; intro w10 g10 o10 b10 z10))
  have g11 : w10.heap[w.heap.size + 1]? = some (.cells #[.slice (some ⟨g, o, none⟩) B rc, .slice Y n m, .bool false, .int .i64 (-1), .int .i64 (opF ft), .int .i64 wh] 50 (0, 0)) := by rw [g10]; rfl
  have bw2 := (b0.trans (hb1.mono b0.size)).trans (hb2.mono (b0.trans (hb1.mono b0.size)).size)
  have bf := (bw2.alloc bw2.size _).trans (b10 _ (Nat.le_succ _))
  refine bodyPost_ret (ret_disk rfl rfl g11 rfl) rfl ?_
  exact ⟨⟨_, rfl, FR _ bf⟩, bf⟩
end Go.Proofs.YtecnddogdiikiaaGreat

namespace Go.Proofs.YtecnddogdiikiaaGreat
open Go Go.RowKit
set_option maxRecDepth 100000
set_option maxHeartbeats 3000000

theorem Rws.snoc {w : World} {lo base : Nat} {v u : Value} {ws : List (Nat × List UInt8)} {us : List Value} {n b : Nat} {l : List UInt8} (hn : n = ws.length) (own : w.ownsRow base 242 2 v (n + 1) (wc ws us ++ [.int .i64 (b : Int), u])) (hus : us.length = ws.length) (hlo : lo ≤ base) (hb : ∀ k (h : k < us.length) (h' : k < ws.length), Hb w lo us[k] ws[k].2) (hu : Hb w lo u l) : Rws w lo v (ws ++ [(b, l)]) := by
  subst hn
  refine Rws.of_own (us := us ++ [u]) (base := base) ?_ (by simp [hus]) (by simp) hlo fun k h h' => ?_
  · rw [wc_snoc ws us (b, l) u hus]
    simpa using own
  · by_cases hk : k < us.length
    · have e1 : (us ++ [u])[k] = us[k] := List.getElem_append_left hk
      have e2 : (ws ++ [(b, l)])[k] = ws[k]'(by omega) := List.getElem_append_left (by omega)
      rw [e1, e2]
      exact hb k hk (by omega)
    · have hk' : k = us.length := by simp at h; omega
      subst hk'
      have e1 : (us ++ [u])[us.length] = u := by simp
      have e2 : (ws ++ [(b, l)])[us.length] = (b, l) := by simp [hus]
      rw [e1, e2]
      exact hu

theorem sz48 : Go.Ev.szOf Tryz.prog 48 = some 1 := by kernel_rfl

theorem rput_ok {w : World} {lo : Nat} {v : Value} {P : PD} (h : Rv w lo v P) (hlo : lo ≤ w.heap.size) (b : Nat) (hb : b < P.bs.length) (A : Option Addr) (c : Nat) (l : List UInt8) (hr : Rd w w.heap.size A l) (hl : l.length = 4096) (hw : P.ws.length ≤ 90) (he0 : opE P.ft P.wh = 0) :
    Calls Tryz.prog 104 #[v, .int .i64 (b : Int), .slice A 4096 c] w fun e w' => (∃ v', e = .returned (.tuple #[v', .int .i64 (P.put b l).2]) ∧ Rv w' lo v' (P.put b l).1) ∧ Below w.heap.size w w' := by
  obtain ⟨x, y, rfl, hrow, hws, hok⟩ := h
  have hrow0 := hrow
  obtain ⟨g, o, rc, rfl, hg1, hg2, hg3⟩ := hrow0
  have hws0 := hws
  obtain ⟨Y, m, rfl, -, -⟩ := hws0
  obtain ⟨B, hB⟩ : ∃ B, B = P.bs.length := ⟨_, rfl⟩
  obtain ⟨n, hn⟩ : ∃ n, n = P.ws.length := ⟨_, rfl⟩
  obtain ⟨ft, hft⟩ : ∃ ft, ft = P.ft := ⟨_, rfl⟩
  obtain ⟨wh, hwh⟩ : ∃ wh, wh = P.wh := ⟨_, rfl⟩
  rw [← hB, ← hn, ← hft, ← hwh]
  have he : opE ft wh = 0 := by rw [hft, hwh]; exact he0
  clear he0
  obtain ⟨W0, hW0⟩ : ∃ W0, (w.alloc (.cells #[.slice (some ⟨g, o, none⟩) B rc, .slice Y n m, .bool false, .int .i64 (-1), .int .i64 ft, .int .i64 wh] 50)).alloc (.cells #[.slice none 0 0, .slice none 0 0, .bool false, .int .i64 0, .int .i64 0, .int .i64 0] 50) = W0 := ⟨_, rfl⟩
  have g3 : W0.heap[w.heap.size]? = some (.cells #[.slice (some ⟨g, o, none⟩) B rc, .slice Y n m, .bool false, .int .i64 (-1), .int .i64 ft, .int .i64 wh] 50 (0, 0)) := by rw [← hW0]; exact (Below.heap_alloc _ _ _ (by simp)).trans (heap_alloc_new w _)
  have g6 : W0.heap[w.heap.size + 1]? = some (.cells #[.slice none 0 0, .slice none 0 0, .bool false, .int .i64 0, .int .i64 0, .int .i64 0] 50 (0, 0)) := by
    rw [← hW0]
    have := heap_alloc_new (w.alloc (.cells #[.slice (some ⟨g, o, none⟩) B rc, .slice Y n m, .bool false, .int .i64 (-1), .int .i64 ft, .int .i64 wh] 50)) (.cells #[.slice none 0 0, .slice none 0 0, .bool false, .int .i64 0, .int .i64 0, .int .i64 0] 50)
    rw [World.size_alloc] at this
    exact this
  have b0 : Below w.heap.size w W0 := by rw [← hW0]; exact ((Below.refl _ _).alloc (Nat.le_refl _) _).alloc (by simp) _
  obtain ⟨c0, c1, c2, c3, c4, c5⟩ := cells6 g3
  have hI := is_any (some ⟨g, o, none⟩) B rc Y n m ft wh b (by omega) W0
  have hO := fun W => roper_any (some ⟨g, o, none⟩) B rc Y n m ft wh (by rw [hft]; exact hok.lo) (by rw [hft]; exact hok.hi) W
  have HL := Lib.hid hl
  have hz3 := hlt g3
  have HB := Lib.hid hB
  have HN := Lib.hid hn
  have HF := Lib.hid hft
  have HH := Lib.hid hwh
  clear hl hB hn hft hwh
  have FR : ∀ w', Below w.heap.size w w' → Rv w' lo (rvv (.slice (some ⟨g, o, none⟩) B rc) (.slice Y n m) (opF ft) wh) P.stop := fun w' hb => by
    have := HB.out; have := HN.out; have := HF.out; have := HH.out
    subst B n ft wh
    exact ⟨_, _, rfl, hrow.same (Up.below hb), hws.same (Up.below hb), hok.stop⟩
  have hpn : P.put b l = ({ P with ft := opF P.ft, ws := P.ws ++ [(b, l)] }, 0) := put_ok (by rw [← HF.out, ← HH.out]; exact he)
  rw [hpn]
  have hO' : ∀ W, Calls Tryz.prog 169 #[rvv (.slice (some ⟨g, o, none⟩) B rc) (.slice Y n m) ft wh] W fun e w' => e = .returned (.tuple #[rvv (.slice (some ⟨g, o, none⟩) B rc) (.slice Y n m) (opF ft) wh, .int .i64 0]) ∧ Below W.heap.size W w' := fun W => by have := hO W; rwa [he] at this
  clear hO hpn
  go_enter Tryz.func104, Tryz.ntmps104
  go_wp2_with (first
    | (go_at_call 164; with_reducible refine hI.mono ?_; rintro e w1 ⟨rfl, hb1⟩; have d0 := (hb1.cell (p := ⟨w.heap.size, 0, none⟩) hz3).trans c0; have d1 := (hb1.cell (p := ⟨w.heap.size, 1, none⟩) hz3).trans c1; have d2 := (hb1.cell (p := ⟨w.heap.size, 2, none⟩) hz3).trans c2; have d3 := (hb1.cell (p := ⟨w.heap.size, 3, none⟩) hz3).trans c3; have d4 := (hb1.cell (p := ⟨w.heap.size, 4, none⟩) hz3).trans c4; have d5 := (hb1.cell (p := ⟨w.heap.size, 5, none⟩) hz3).trans c5; have g61 := (hb1.block _ (hlt g6)).trans g6)
    | (go_at_call 169
       with_reducible refine (hO' _).mono ?_
       rintro e w2 ⟨rfl, hb2⟩
       have g62 := (hb2.block _ (hlt g61)).trans g61
       obtain ⟨W3, hW3⟩ : ∃ W3, w2.alloc (.cells #[.slice (some ⟨g, o, none⟩) B rc, .slice Y n m, .bool false, .int .i64 (-1), .int .i64 (opF ft), .int .i64 wh] 50) = W3 := ⟨_, rfl⟩
       have g8 : W3.heap[w2.heap.size]? = some (.cells #[.slice (some ⟨g, o, none⟩) B rc, .slice Y n m, .bool false, .int .i64 (-1), .int .i64 (opF ft), .int .i64 wh] 50 (0, 0)) := by rw [← hW3]; exact heap_alloc_new w2 _
       have bW3 : Below w2.heap.size w2 W3 := by rw [← hW3]; exact (Below.refl _ _).alloc (Nat.le_refl _) _
       have b13 : Below W0.heap.size W0 W3 := (hb1.trans (hb2.mono hb1.size)).trans (bW3.mono (Nat.le_trans hb1.size hb2.size))
       have b3 : Below w.heap.size w W3 := b0.trans (b13.mono b0.size)
       have f1 := (b13.cell (p := ⟨w.heap.size, 1, none⟩) hz3).trans c1
       have g63 := (bW3.block _ (hlt g62)).trans g62
       obtain ⟨v4, w4, hap, ⟨us, hus, own4, hbk4⟩, hb4⟩ := app1 (w := W3) hws b3 (by omega)
       obtain ⟨A4, c4', rfl⟩ := own_sl own4
       rw [← HN.out] at hap own4
       have b4 : Below w.heap.size w w4 := b3.trans (hb4.mono b3.size)
       have hr4 := (hr.below b4).more b4.size
       have g84 := (hb4.block _ (hlt g8)).trans g8
       have g64 := (hb4.block _ (hlt g63)).trans g63
       have cpy := copy_any A c 4096 l w4 hr4 HL.out.symm (by have := HL.out; omega)
       have hz4 := hb4.size
       clear g61 g62 g63 g8 d0 d1 d2 d3 d4 d5 hr4)
    | (go_at_call 16
       with_reducible refine cpy.mono ?_
       rintro e w5 ⟨vc, rfl, own5, hb5⟩
       have own45 := ownsRow_same own4 fun g x hx => hb5.block g (hlt hx)
       have g85 := (hb5.block _ (hlt g84)).trans g84
       have g65 := (hb5.block _ (hlt g64)).trans g64
       have b5 := b4.trans (hb5.mono b4.size)
       obtain ⟨gc, cc, rfl, hcc⟩ := Own.gf own5 (n := 4096) HL.out (by omega)
       have hz3' : W3.heap.size = w2.heap.size + 1 := by rw [← hW3]; simp
       have hz2 : w.heap.size + 1 < w2.heap.size := Nat.lt_of_lt_of_le (hlt g6) (Nat.le_trans hb1.size hb2.size)
       obtain ⟨A7, c7, w7, hap, own7, hb7, hk7⟩ := app3 (b := b) (u := .slice (some ⟨gc, 0, none⟩) 4096 cc) own45 (by have := HN.out; omega) rfl (Nat.le_trans hz4 hb5.size)
       have g87 := (hb7.block w2.heap.size (by rw [hz3']; exact Nat.lt_succ_self _)).trans g85
       have g67 := (hb7.block (w.heap.size + 1) (by rw [hz3']; omega)).trans g65
       have b7 : Below w.heap.size w w7 := b5.trans (hb7.mono b3.size)
       obtain ⟨T, hT⟩ : ∃ T, T = W3.heap.size := ⟨_, rfl⟩
       rw [← hT] at own7 hb7
       have HT := Lib.hid hT
       have HZ2 := Lib.hid hz2
       have HZ3 := Lib.hid hz3'
       clear hT hz2 hz3' hz4 g84 g85 g64 g65 own45)
    | (at_builtin; refine Lib.wpList_append_run _ rfl _ _ _ _ rfl _ _ rfl rfl _ _ hap ?_; clear hap)
    | (refine stV rfl 48 (.tmp 41) (.tmp 40) rfl rfl w2.heap.size 1 rfl 1 sz48 _ (.slice A7 (n + 1) c7) 50 g87 rfl (by simp) rfl (by simp [Value.cells, Value.oneCell']) ?_
       intro w8 g8 o8 b8 z8
       have g88 : w8.heap[w2.heap.size]? = some (.cells #[.slice (some ⟨g, o, none⟩) B rc, .slice A7 (n + 1) c7, .bool false, .int .i64 (-1), .int .i64 (opF ft), .int .i64 wh] 50 (0, 0)) := g8.trans rfl
       have g68 := (o8 (w.heap.size + 1) (Nat.ne_of_lt HZ2.out)).trans g67
       obtain ⟨e0, e1, e2, e3, e4, e5⟩ := cells6 g88
       clear g8)
    | (refine stV rfl 50 (.tmp 6) (.tmp 42) rfl rfl (w.heap.size + 1) 0 rfl 6 sz50 _ (rvv (.slice (some ⟨g, o, none⟩) B rc) (.slice A7 (n + 1) c7) (opF ft) wh) 50 g68 rfl (by simp) rfl (by simp [Value.cells, Value.oneCell']) ?_; intro w10 g10 o10 b10 z10))
  have g11 : w10.heap[w.heap.size + 1]? = some (.cells #[.slice (some ⟨g, o, none⟩) B rc, .slice A7 (n + 1) c7, .bool false, .int .i64 (-1), .int .i64 (opF ft), .int .i64 wh] 50 (0, 0)) := by rw [g10]; rfl
  have hz2 := HZ2.out
  have b80 : Below w.heap.size w w8 := b7.trans (b8 _ (by omega))
  have bf : Below w.heap.size w w10 := b80.trans (b10 _ (Nat.le_succ _))
  have kp : ∀ (t : TypeId), t ≠ 50 → ∀ (g : Nat) (x : Array Value), w7.heap[g]? = some (Obj.cells x t (0, 0)) → w10.heap[g]? = some (Obj.cells x t (0, 0)) := fun t ht g x hx => by
    have n8 : g ≠ w2.heap.size := fun e => by rw [e, g87] at hx; cases hx; exact ht rfl
    have n10 : g ≠ w.heap.size + 1 := fun e => by rw [e, g67] at hx; cases hx; exact ht rfl
    rw [o10 g n10, o8 g n8, hx]
  refine bodyPost_ret (ret_disk rfl rfl g11 rfl) rfl ?_
  have own10 := ownsRow_same own7 fun g x hx => (kp 242 (by decide) g x hx).trans hx.symm
  have ownc : Own w10 w4.heap.size (.slice (some ⟨gc, 0, none⟩) 4096 cc) l := ownsRow_same own5 fun g x hx => (kp 5 (by decide) g x (hk7 g x hx)).trans hx.symm
  have hput := hok.put hb HL.out
  rw [put_ok (by rw [← HF.out, ← HH.out]; exact he)] at hput
  refine ⟨⟨_, rfl, .slice (some ⟨g, o, none⟩) B rc, .slice A7 (n + 1) c7, ?_, ?_, ?_, hput⟩, bf⟩
  · rw [HF.out, HH.out]
  · rw [HB.out]; exact hrow.same (Up.below bf)
  · exact Rws.snoc HN.out own10 hus (by rw [HT.out]; exact Nat.le_trans hlo b3.size) (fun k h h' => (hbk4 k h h').same (Up.below bf)) (Hb.of_own ownc HL.out (Nat.le_trans hlo b4.size))

theorem rput_any {w : World} {lo : Nat} {v : Value} {P : PD} (h : Rv w lo v P) (hlo : lo ≤ w.heap.size) (b : Nat) (hb : b < P.bs.length) (A : Option Addr) (c : Nat) (l : List UInt8) (hr : Rd w w.heap.size A l) (hl : l.length = 4096) (hw : P.ws.length ≤ 90) :
    Calls Tryz.prog 104 #[v, .int .i64 (b : Int), .slice A 4096 c] w fun e w' => (∃ v', e = .returned (.tuple #[v', .int .i64 (P.put b l).2]) ∧ Rv w' lo v' (P.put b l).1) ∧ Below w.heap.size w w' := by
  by_cases he : opE P.ft P.wh = 0
  · exact rput_ok h hlo b hb A c l hr hl hw he
  · exact rput_bad h hlo b hb A c l hr hl hw he
end Go.Proofs.YtecnddogdiikiaaGreat

