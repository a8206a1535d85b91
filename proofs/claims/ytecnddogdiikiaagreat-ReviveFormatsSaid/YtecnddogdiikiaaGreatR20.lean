/-
  Format of both sides, in one form; chancerylaw16.same: what the call does.
  chancerylaw16.ReviveFormats: what the call does.
-/
import Derived.Test.YtecnddogdiikiaaGreatR16
import Derived.Test.YtecnddogdiikiaaGreatR18
import Derived.Test.YtecnddogdiikiaaGreatD7
set_option linter.unusedVariables false
set_option linter.unusedSimpArgs false
namespace Go.Proofs.YtecnddogdiikiaaGreat
open Go Go.RowKit
set_option maxRecDepth 100000
set_option maxHeartbeats 3000000

theorem formatP_bad {P : PD} {log : Int} (h : log < 24 ∨ 1024 < log ∨ (P.bs.length : Int) < 10 + log) : formatP P log = (P, 2) := if_pos h
theorem formatP_found {P : PD} {L : Nat} (h : ¬ ((L : Int) < 24 ∨ 1024 < (L : Int) ∨ (P.bs.length : Int) < 10 + (L : Int))) (hh : readE P.bs = 0) : formatP P (L : Int) = (P, 260) := by
  unfold formatP
  rw [if_neg h, if_pos]
  unfold readE at hh
  split at hh
  · assumption
  · cases hh
theorem formatP_go {P : PD} {L : Nat} (h : ¬ ((L : Int) < 24 ∨ 1024 < (L : Int) ∨ (P.bs.length : Int) < 10 + (L : Int))) (hh : readE P.bs = 260) : formatP P (L : Int) = goP P L := by
  unfold formatP
  rw [if_neg h, if_neg]
  · rfl
  · intro hd
    unfold readE at hh
    rw [if_pos hd] at hh
    cases hh
theorem readE_two (bs : List (List UInt8)) : readE bs = 0 ∨ readE bs = 260 := by
  unfold readE
  split
  · exact .inl rfl
  · exact .inr rfl

theorem dformat_any {w : World} {n0 d db : Nat} {P : PD} (h : Dk w n0 d db (.slice none 0 0) P) (hB : P.bs.length ≤ 4096) (hB1 : 1 ≤ P.bs.length) (log : Int) (hlo : -9223372036854775808 ≤ log) (hhi : log ≤ 9223372036854775807) :
    Calls Tryz.prog 8 #[.pointer (some ⟨d, 0, none⟩), .int .i64 log] w fun e w' => e = .returned (.int .i64 (formatP P log).2) ∧ (∃ n1 pv, Dk w' n1 d db pv (formatP P log).1) ∧ Fr w.heap.size d db w w' := by
  by_cases hbad : log < 24 ∨ 1024 < log ∨ (P.bs.length : Int) < 10 + log
  · rw [formatP_bad hbad]
    refine (format_bad h hB hB1 log hlo hhi hbad).mono ?_
    rintro e w' ⟨rfl, rfl⟩
    exact ⟨rfl, ⟨_, _, h⟩, Kp.refl _ _⟩
  · obtain ⟨L, rfl⟩ : ∃ L : Nat, log = (L : Int) := ⟨log.toNat, by omega⟩
    rcases readE_two P.bs with hh | hh
    · rw [formatP_found hbad hh]
      refine (format_found h hB L (by omega) (by omega) (by omega) hh).mono ?_
      rintro e w' ⟨rfl, hb⟩
      exact ⟨rfl, ⟨_, _, h.below hb⟩, Fr.below hb⟩
    · rw [formatP_go hbad hh]
      exact format_go h hB L (by omega) (by omega) (by omega) hh

theorem rformat_any {w : World} {lo : Nat} {v : Value} {P : PD} (h : Rv w lo v P) (hlo : lo ≤ w.heap.size) (hws0 : P.ws = []) (hB : P.bs.length ≤ 4096) (log : Int) (hl : -9223372036854775808 ≤ log) (hhi : log ≤ 9223372036854775807) :
    Calls Tryz.prog 20 #[v, .int .i64 log] w fun e w' => (∃ X B rc Y n m ft wh, e = .returned (.tuple #[rvv (.slice X B rc) (.slice Y n m) ft wh, .int .i64 (formatP P log).2]) ∧ Rv w' lo (rvv (.slice X B rc) (.slice Y n m) ft wh) (formatP P log).1) ∧ Below w.heap.size w w' := by
  have K : Calls Tryz.prog 20 #[v, .int .i64 log] w fun e w' => (∃ v', e = .returned (.tuple #[v', .int .i64 (formatP P log).2]) ∧ Rv w' lo v' (formatP P log).1) ∧ Below w.heap.size w w' := by
    by_cases hbad : log < 24 ∨ 1024 < log ∨ (P.bs.length : Int) < 10 + log
    · rw [formatP_bad hbad]
      exact rformat_bad h hB log hl hhi hbad
    · obtain ⟨L, rfl⟩ : ∃ L : Nat, log = (L : Int) := ⟨log.toNat, by omega⟩
      rcases readE_two P.bs with hh | hh
      · rw [formatP_found hbad hh]
        exact rformat_found h hws0 hB L (by omega) (by omega) (by omega) hh
      · rw [formatP_go hbad hh]
        exact rformat_go h hlo hws0 hB L (by omega) (by omega) (by omega) hh
  refine K.mono ?_
  rintro e w' ⟨⟨v', rfl, hv⟩, hb⟩
  obtain ⟨X, B, rc, Y, n, m, ft, wh, rfl⟩ := hv.gen
  exact ⟨⟨X, B, rc, Y, n, m, ft, wh, rfl, hv⟩, hb⟩

theorem samelaw_any {w : World} {n0 d db lo : Nat} {pv v : Value} {P : PD} (h : Dk w n0 d db pv P) (hv : Rv w lo v P) (hB : P.bs.length ≤ 4096) :
    Calls Tryz.prog 21 #[.pointer (some ⟨d, 0, none⟩), v] w fun e w' => e = .returned (.bool true) ∧ Below w.heap.size w w' := by
  obtain ⟨x, y, rfl, hrow, hws, hok⟩ := hv
  obtain ⟨g, o, rc, rfl, hg1, hg2, hg3, -⟩ := hrow
  obtain ⟨Y, m, rfl, -, -⟩ := hws
  obtain ⟨A0, c0, rfl⟩ := h.pend.form
  obtain ⟨B, hBB⟩ : ∃ B, B = P.bs.length := ⟨_, rfl⟩
  obtain ⟨n, hn⟩ : ∃ n, n = P.ws.length := ⟨_, rfl⟩
  obtain ⟨ft, hft⟩ : ∃ ft, ft = P.ft := ⟨_, rfl⟩
  obtain ⟨wh, hwh⟩ : ∃ wh, wh = P.wh := ⟨_, rfl⟩
  have hbk : ∀ (W : World), Below w.heap.size w W → Calls Tryz.prog 15 #[.pointer (some ⟨d, 0, none⟩)] W fun e w' => e = .returned (.int .i64 (B : Int)) ∧ w' = W := fun W hb => by rw [hBB]; exact blocks_any (h.below hb).box
  have hpd : ∀ (W : World), Below w.heap.size w W → Calls Tryz.prog 51 #[.pointer (some ⟨d, 0, none⟩)] W fun e w' => e = .returned (.int .i64 (n : Int)) ∧ w' = W := fun W hb => by rw [hn]; exact pending_any (h.below hb).box
  have hdu : ∀ (W : World) (b : Nat) (hb : b < P.bs.length), Below w.heap.size w W → Calls Tryz.prog 50 #[.pointer (some ⟨d, 0, none⟩), .int .i64 (b : Int)] W fun e w' => (∃ g, e = .returned (.tuple #[.slice (some ⟨g, 0, none⟩) 4096 4096, .int .i64 0]) ∧ Bk w' (.slice (some ⟨g, 0, none⟩) 4096 4096) P.bs[b] ∧ W.heap.size ≤ g) ∧ Below W.heap.size W w' :=
    fun W b hb hW => durable_any (h.below hW) b hb
  rw [← hBB, ← hn, ← hft, ← hwh]
  rw [← hBB] at hB
  have HB := Lib.hid hBB
  clear hBB hn hft hwh h hok
  obtain ⟨W0, hW0⟩ : ∃ W0, w.alloc (.cells #[.slice (some ⟨g, o, none⟩) B rc, .slice Y n m, .bool false, .int .i64 (-1), .int .i64 ft, .int .i64 wh] 50) = W0 := ⟨_, rfl⟩
  have b0 : Below w.heap.size w W0 := by rw [← hW0]; exact (Below.refl _ _).alloc (Nat.le_refl _) _
  have g3 : W0.heap[w.heap.size]? = some (.cells #[.slice (some ⟨g, o, none⟩) B rc, .slice Y n m, .bool false, .int .i64 (-1), .int .i64 ft, .int .i64 wh] 50 (0, 0)) := by rw [← hW0]; exact heap_alloc_new w _
  go_enter Tryz.func21, Tryz.ntmps21
  go_wp2
  go_loopw [5, 6, 7] (fun i _ _ wr => ∃ (k : Nat), k ≤ B ∧ i = .int .i64 k ∧ wr.heap[w.heap.size]? = some (.cells #[.slice (some ⟨g, o, none⟩) B rc, .slice Y n m, .bool false, .int .i64 (-1), .int .i64 ft, .int .i64 wh] 50 (0, 0)) ∧ Below w.heap.size w wr) (fun i _ _ _ => B - (intOf i).toNat)
  case atStart => exact ⟨0, Nat.zero_le _, rfl, g3, b0⟩
  case round =>
    clear g3 b0 hW0
    obtain ⟨k, hk, rfl, hg, hbr⟩ := hrel
    have hkr := hbk wr hbr
    by_cases hkB : k < B
    · have hkl : k < P.bs.length := by rw [← HB.out]; exact hkB
      have hd := hdu wr k hkl hbr
      obtain ⟨u, hu, hb⟩ := hg3 k hkl
      obtain ⟨ub, uo, uc, rfl, hl, hc, hrd⟩ := hb.rd
      generalize P.bs[k] = l at *
      have HL := Lib.hid hl
      have hmeas : B - (intOf (Value.int .i64 ((k : Int) + 1))).toNat < B - (intOf (Value.int .i64 (k : Int))).toNat := by simp [intOf]; omega
      clear hb hl
      go_wp2_with (first
        | (go_at_call 15; with_reducible refine hkr.mono ?_; rintro e wr ⟨rfl, rfl⟩)
        | (go_at_call 50
           with_reducible refine hd.mono ?_
           rintro e w5 ⟨⟨g5, rfl, hBk, hg5⟩, hb5⟩
           have hg35 := (hb5.block _ (hlt hg)).trans hg
           obtain ⟨c0, c1, c2, c3, c4, c5⟩ := cells6 hg35
           have b5 := hbr.trans (hb5.mono hbr.size)
           have cu := (b5.cell (p := ⟨g, o + k, none⟩) hg2).trans hu
           obtain ⟨A5, e5, r5⟩ := hBk.rd
           cases e5
           have sm := same_any _ _ 4096 uc 4096 4096 l l w5 r5 ((hrd.below b5).more b5.size) HL.out.symm HL.out.symm)
        | (go_at_call 56; with_reducible refine sm.mono ?_; rintro e w6 ⟨rfl, rfl⟩))
      all_goals first | omega | skip
      exact ⟨⟨k + 1, by omega, by go_num, hg35, b5⟩, hmeas⟩
    · obtain rfl : k = B := by omega
      obtain ⟨c0, c1, c2, c3, c4, c5⟩ := cells6 hg
      go_wp2_with (go_at_call 15; with_reducible refine hkr.mono ?_; rintro e wr ⟨rfl, rfl⟩)
      all_goals first | omega | skip
      go_quiet (first
        | (go_at_call 51; refine Calls.quiet_of_same (hpd _ ?_); first | exact hbr | exact hbr.trans (drewN_below _ _ _)))
      go_wp2
      go_ret
      exact ⟨rfl, by first | exact hbr.trans (drewN_below _ _ _) | exact hbr⟩
end Go.Proofs.YtecnddogdiikiaaGreat

namespace Go.Proofs.YtecnddogdiikiaaGreat
open Go Go.RowKit
set_option maxRecDepth 100000
set_option maxHeartbeats 3000000

theorem append_zerosW {w : World} {base g n cap N : Nat} {l : List UInt8} (hown : Own w base (.slice (some ⟨g, 0, none⟩) n cap) l) (hn : n = l.length) (hN : 0 < N) (hb : n + N ≤ 140737488355328) (hbase : base ≤ w.heap.size) :
    ∃ v' w', (Builtin.append_ #[37, 3] 37 #[.slice (some ⟨g, 0, none⟩) n cap, .int .i64 (N : Int)]).run Tryz.prog w = .ok v' w' ∧ (∃ A c, v' = .slice A (n + N) c ∧ n + N ≤ c ∧ Rd w' w'.heap.size A (l ++ List.replicate N 0)) ∧ Below base w w' := by
  obtain ⟨i0, hi, hz0, hz1, hz2⟩ := info_parts Tryz.info5
  subst hn
  rcases hown.2 with ⟨h1, _⟩ | ⟨g', cap', cur, h1, h2, h3, h4, h5, h6, h7⟩
  · cases h1
  cases h1
  have hlt : g < w.heap.size := (Array.getElem?_eq_some_iff.1 h3).1
  by_cases hc : l.length + N ≤ cap
  · have hst := run_storeCells_at Tryz.prog g l.length 5 (List.replicate N (u8V 0)) 0 cur w h3 (by simp; omega) (by intro v hv; simp at hv; rw [hv.2]; rfl)
    have hw : IntKind.i64.wrap (N : Int) = N := by rw [IntKind.wrap_i64]; omega
    have hneg : ¬ ((N : Int) < 0) := by omega
    have hN0 : N ≠ 0 := by omega
    have h48 : ¬ (281474976710656 < (N : Int)) := by omega
    have hadd : (⟨g, 0, none⟩ : Addr).add l.length = ⟨g, l.length, none⟩ := by unfold Addr.add; split <;> simp_all
    have hrun : (Builtin.append_ #[37, 3] 37 #[.slice (some ⟨g, 0, none⟩) l.length cap, .int .i64 (N : Int)]).run Tryz.prog w = .ok (.slice (some ⟨g, 0, none⟩) (l.length + N) cap) (w.setRow g ((cur.toList.take (l.length + 0) ++ List.replicate N (u8V 0) ++ cur.toList.drop (l.length + 0 + (List.replicate N (u8V 0)).length)).toArray)) := by
      simp [Builtin.append_, run_underlying Tryz.underlying37, run_underlying Tryz.underlying3, sizeOf, typeInfo, zeroValue, hi, hz0, hz1, hz2, asInt, asIntOf, hw, hneg, hN0, h48, hc, zeroCells8, hadd]
      simp only [Nat.add_zero, List.length_replicate, List.append_assoc] at hst
      rw [hst]
      rfl
    have hset := setRow_heap w g cur ((cur.toList.take (l.length + 0) ++ List.replicate N (u8V 0) ++ cur.toList.drop (l.length + 0 + (List.replicate N (u8V 0)).length)).toArray) 5 (0, 0) h3
    refine ⟨_, _, hrun, ⟨_, _, rfl, hc, fun _ => ⟨g, 0, rfl, ?_, ?_⟩⟩, below_setRow (Below.refl _ _) h2 _⟩
    · exact (Array.getElem?_eq_some_iff.1 hset).1
    · intro k hk
      simp only [World.cell?, hset, Nat.zero_add, Option.isSome_none, Bool.false_eq_true, if_false, List.getElem?_toArray]
      rw [List.getElem?_append_left (by simp at hk ⊢; omega)]
      have h7' : cur.toList.take (l.length + 0) = l.map u8V := by simpa using h7
      rw [h7']
      exact row_get hk
  · have hfc : (Builtin.firstCells i0.size l.length (.slice (some ⟨g, 0, none⟩) l.length cap)).run Tryz.prog w.drew = .ok (l.map u8V).toArray w.drew := by
      rw [hz1]
      exact run_firstCells_some w.drew 1 l.length ⟨g, 0, none⟩ l.length cap (l.map u8V) (by simp) (fun j v hj => by
        obtain ⟨A, c, e, _, _, hr⟩ := hown.slice
        cases e
        obtain ⟨ad, e, hs⟩ := hr.addr (by rintro rfl; simp at hj)
        cases e
        exact hs j v hj)
    have hrun := Lib.run_append_grow_zeros (P := Tryz.prog) w 37 3 37 5 i0 _ .i64 .i64 Tryz.underlying37 Tryz.underlying3 hi hz0 (some ⟨g, 0, none⟩) l.length cap _ hfc N hN (by omega) (by omega) (by omega) (by rw [hz2]; omega) (by rw [hz2]; exact growslice_fits (by omega) (by omega))
    refine ⟨_, _, hrun, ⟨_, _, rfl, grownCap_ge w (l.length + N) cap 5, fun _ => ⟨w.heap.size, 0, rfl, by simp, ?_⟩⟩, ((Below.refl _ w).drew).alloc hbase _⟩
    intro k hk
    rw [World.cell?_alloc_at (w := w.drew) _ _ w.heap.size _ rfl, zeroCells8, Nat.zero_add, List.append_toArray, List.append_toArray, List.getElem?_toArray, List.getElem?_append_left (by simp at hk ⊢; omega)]
    exact row_get hk

theorem append_zeros0 {w : World} {N : Nat} (hN : 0 < N) (hb : N ≤ 140737488355328) :
    ∃ v' w', (Builtin.append_ #[37, 3] 37 #[.slice none 0 0, .int .i64 (N : Int)]).run Tryz.prog w = .ok v' w' ∧ (∃ A c, v' = .slice A N c ∧ N ≤ c ∧ Rd w' w'.heap.size A (List.replicate N 0)) ∧ Below w.heap.size w w' := by
  obtain ⟨i0, hi, hz0, hz1, hz2⟩ := info_parts Tryz.info5
  have hrun := Lib.run_append_nil_zeros (P := Tryz.prog) w 37 3 37 5 i0 _ .i64 .i64 Tryz.underlying37 Tryz.underlying3 hi hz0 N hN (by omega) (by omega) (by rw [hz2]; omega)
  refine ⟨_, _, hrun, ⟨_, _, rfl, grownCap_ge w N 0 5, fun _ => ⟨w.heap.size, 0, rfl, by simp, ?_⟩⟩, ((Below.refl _ w).drew).alloc (Nat.le_refl _) _⟩
  intro k hk
  rw [World.cell?_alloc_at (w := w.drew) _ _ w.heap.size _ rfl, zeroCells8, Nat.zero_add, List.append_toArray, List.getElem?_toArray, List.getElem?_append_left (by simp at hk ⊢; omega)]
  have := row_get (l := []) (N := N) (k := k) (by simpa using hk)
  simpa using this

theorem fill_any {w : World} {base : Nat} {v : Value} {l : List UInt8} (hown : Own w base v l) (hl : l.length + 4096 ≤ 140737488355328) (hbase : base ≤ w.heap.size) :
    ∃ A c w', (Builtin.append_ #[37, 3] 37 #[v, .int .i64 4096]).run Tryz.prog w = .ok (.slice A (l.length + 4096) c) w' ∧ 4096 ≤ c ∧ Rd w' w'.heap.size A (l ++ List.replicate 4096 0) ∧ Below base w w' := by
  rcases hown.form with ⟨rfl, rfl⟩ | ⟨g, cap, rfl, _⟩
  · obtain ⟨v', w', hr, ⟨A, c, rfl, hc, hrd⟩, hb⟩ := append_zeros0 (w := w) (N := 4096) (by omega) (by omega)
    exact ⟨A, c, w', by simpa using hr, hc, by simpa using hrd, hb.mono hbase⟩
  · obtain ⟨v', w', hr, ⟨A, c, rfl, hc, hrd⟩, hb⟩ := append_zerosW hown rfl (N := 4096) (by omega) (by omega) hbase
    exact ⟨A, c, w', hr, by omega, hrd, hb⟩

/-- the first 4096 bytes of these, filled up with noughts -/
def first4 (l : List UInt8) : List UInt8 := (l ++ List.replicate 4096 0).take 4096
theorem first4_len (l : List UInt8) : (first4 l).length = 4096 := by simp [first4]
theorem Rd.first4 {w : World} {B : Nat} {A : Option Addr} {l : List UInt8} (h : Rd w B A (l ++ List.replicate 4096 0)) : Rd w B A (first4 l) := fun hne => by
  obtain ⟨b, o, e, hb, hc⟩ := h (by intro e; have := congrArg List.length e; simp at this)
  refine ⟨b, o, e, hb, fun k hk => ?_⟩
  have hk' : k < 4096 := by rw [first4_len] at hk; exact hk
  have := hc k (by simp; omega)
  rw [this]
  simp only [Go.Proofs.YtecnddogdiikiaaGreat.first4, List.getElem_take]

end Go.Proofs.YtecnddogdiikiaaGreat

