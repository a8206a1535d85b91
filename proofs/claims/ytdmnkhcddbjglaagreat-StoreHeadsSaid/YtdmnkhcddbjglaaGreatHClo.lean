/-
  The closures of store.HeadOf: what each call does.
-/
import Derived.Test.YtdmnkhcddbjglaaGreatHSt
namespace Go.Proofs.YtdmnkhcddbjglaaGreat
open Go Go.RowKit
set_option maxRecDepth 100000
set_option maxHeartbeats 1600000

/-- what the closures share: the bytes' box b, the place's box a, the box of 'long' -/
structure S7 (A : Option Addr) (c : Nat) (l : List UInt8) (bx ax : Nat) (p : Nat) (w : World) : Prop where
  rd : Rd w w.heap.size A l
  b : w.cell? ⟨bx, 0, none⟩ = some (.slice A 4080 c)
  a : w.heap[ax]? = some (.cells #[.int .i64 (p : Int)] 3 (0, 0))
  ne : bx ≠ ax

theorem S7.cell {A : Option Addr} {c : Nat} {l : List UInt8} {bx ax p : Nat} {w : World} (s : S7 A c l bx ax p w) : w.cell? ⟨ax, 0, none⟩ = some (.int .i64 (p : Int)) := cell_of_row w ax 0 _ 3 (0, 0) s.a

theorem word_any (A : Option Addr) (c : Nat) (l : List UInt8) (bx ax p : Nat) (w : World) (s : S7 A c l bx ax p w) (hl : l.length = 4080) (hp : p + 4 ≤ 4080) :
    Calls Tryz.prog 49 #[.pointer (some ⟨bx, 0, none⟩), .pointer (some ⟨ax, 0, none⟩)] w fun e w' => e = .returned (.int .i64 (leN (sub l p 4) : Nat)) ∧
      w'.heap[ax]? = some (.cells #[.int .i64 ((p + 4 : Nat) : Int)] 3 (0, 0)) ∧ (∀ j, j ≠ ax → w'.heap[j]? = w.heap[j]?) ∧ (∀ B, B ≤ ax → Below B w w') ∧ w'.heap.size = w.heap.size := by
  have hb := s.b
  have ha := s.cell
  have hrd := s.rd
  have hga := s.a
  have HN := Lib.hid (show 4080 = l.length by omega)
  have HP := Lib.hid (show p + 4 ≤ l.length by omega)
  obtain ⟨N, hN⟩ : ∃ N, N = leN (sub l p 4) := ⟨_, rfl⟩
  have hN2 : N < 4294967296 := by rw [hN]; exact leN_sub_lt (l := l) (p := p) (k := 4) (by omega)
  have HNN := Lib.hid hN
  rw [← hN]
  have hll : l.length ≤ 1000000 := by omega
  clear s hl hN
  go_enter Tryz.func49, Tryz.ntmps49
  go_wp2_with (first
    | (go_at_call 50; with_reducible refine (u32_any A c 4080 p l _ hrd HN.out hll HP.out).mono ?_; rintro e w1 ⟨rfl, rfl⟩; rw [← HNN.out])
    | (refine stV rfl 3 (.tmp 1) (.tmp 12) rfl rfl ax 0 rfl 1 sz3 _ (.int .i64 ((p + 4 : Nat) : Int)) 3 hga rfl (by simp) rfl (by simp [Value.cells, Value.oneCell']) ?_; intro w2 g2 o2 b2 z2))
  go_ret
  exact ⟨rfl, g2, o2, b2, z2⟩
theorem long_any (A : Option Addr) (c : Nat) (l : List UInt8) (bx ax p : Nat) (w : World) (s : S7 A c l bx ax p w) (hl : l.length = 4080) (hp : p + 8 ≤ 4080) :
    Calls Tryz.prog 51 #[.pointer (some ⟨bx, 0, none⟩), .pointer (some ⟨ax, 0, none⟩)] w fun e w' => e = .returned (.int .i64 (sI (leN (sub l p 8)))) ∧
      w'.heap[ax]? = some (.cells #[.int .i64 ((p + 8 : Nat) : Int)] 3 (0, 0)) ∧ (∀ j, j ≠ ax → w'.heap[j]? = w.heap[j]?) ∧ (∀ B, B ≤ ax → Below B w w') ∧ w'.heap.size = w.heap.size := by
  have hb := s.b
  have ha := s.cell
  have hrd := s.rd
  have hga := s.a
  have HN := Lib.hid (show 4080 = l.length by omega)
  have HP := Lib.hid (show p + 8 ≤ l.length by omega)
  obtain ⟨N, hN⟩ : ∃ N, N = leN (sub l p 8) := ⟨_, rfl⟩
  have hN2 : N < 18446744073709551616 := by rw [hN]; exact leN_sub_lt (l := l) (p := p) (k := 8) (by omega)
  have HNN := Lib.hid hN
  rw [← hN]
  have hsi : IntKind.i64.wrap (N : Int) = sI N := rfl
  have hll : l.length ≤ 1000000 := by omega
  clear s hl hN
  go_enter Tryz.func51, Tryz.ntmps51
  go_wp2_with (first
    | (go_at_call 52; with_reducible refine (u64_any A c 4080 p l _ hrd HN.out hll HP.out).mono ?_; rintro e w1 ⟨rfl, rfl⟩; rw [← HNN.out])
    | (refine stV rfl 3 (.tmp 1) (.tmp 12) rfl rfl ax 0 rfl 1 sz3 _ (.int .i64 ((p + 8 : Nat) : Int)) 3 hga rfl (by simp) rfl (by simp [Value.cells, Value.oneCell']) ?_; intro w2 g2 o2 b2 z2))
  go_ret
  exact ⟨rfl, g2, o2, b2, z2⟩

theorem list_any (A : Option Addr) (c : Nat) (l : List UInt8) (bx ax lx p most k : Nat) (w : World) (s : S7 A c l bx ax p w) (hlx : w.cell? ⟨lx, 0, none⟩ = some (.func (.func 51) #[] #[.pointer (some ⟨bx, 0, none⟩), .pointer (some ⟨ax, 0, none⟩)])) (hlne : lx ≠ ax) (hbl : bx < w.heap.size) (hll0 : lx < w.heap.size) (B0 : Nat) (hA : Rd w B0 A l) (hB0 : B0 ≤ ax) (hl : l.length = 4080) (hmo : most ≤ 64) (hp : p + 2 + 8 * most ≤ 4080) (hk : k = min (leN (sub l p 2)) most) :
    Calls Tryz.prog 53 #[.int .i64 most, .pointer (some ⟨bx, 0, none⟩), .pointer (some ⟨ax, 0, none⟩), .pointer (some ⟨lx, 0, none⟩)] w fun e w' => (∃ v, e = .returned v ∧ OwnI w' w.heap.size v (dec l (p + 2) k)) ∧
      w'.heap[ax]? = some (.cells #[.int .i64 ((p + 2 + 8 * k : Nat) : Int)] 3 (0, 0)) ∧ (∀ j, j < w.heap.size → j ≠ ax → w'.heap[j]? = w.heap[j]?) ∧ Below ax w w' := by
  have hb := s.b
  have ha := s.cell
  have hrd := s.rd
  have hga := s.a
  have hne := s.ne
  have hax := (Array.getElem?_eq_some_iff.1 hga).1
  have hbv := Lib.hid hb
  have hlv := Lib.hid hlx
  have HN := Lib.hid (show 4080 = l.length by omega)
  have HP := Lib.hid (show p + 2 ≤ l.length by omega)
  obtain ⟨N, hN⟩ : ∃ N, N = leN (sub l p 2) := ⟨_, rfl⟩
  have hN2 : N < 65536 := by rw [hN]; exact leN_sub_lt (l := l) (p := p) (k := 2) (by omega)
  rw [← hN] at hk
  have HK := Lib.hid hk
  have HNN := Lib.hid hN
  have hll : l.length ≤ 1000000 := by omega
  clear s hk hN
  have hmin : min (N : Int) (most : Int) = (k : Int) := by have := HK.out; omega
  go_enter Tryz.func53, Tryz.ntmps53
  go_wp2_with (first
    | (go_at_call 54; with_reducible refine (u16_any A c 4080 p l _ hrd HN.out hll HP.out).mono ?_; rintro e w1 ⟨rfl, rfl⟩; rw [← HNN.out])
    | (refine stV rfl 3 (.tmp 2) (.tmp 16) rfl rfl ax 0 rfl 1 sz3 _ (.int .i64 ((p + 2 : Nat) : Int)) 3 hga rfl (by simp) rfl (by simp [Value.cells, Value.oneCell']) ?_; intro w2 g2 o2 b2 z2))
  clear hb ha hrd hga
  go_loopw [8, 21] (fun v i wr => ∃ j q : Nat, j ≤ k ∧ q = p + 2 + 8 * j ∧ i = .int .i64 j ∧ OwnI wr w1.heap.size v (dec l (p + 2) j) ∧ wr.heap[ax]? = some (.cells #[.int .i64 (q : Int)] 3 (0, 0)) ∧ (∀ t, t < w1.heap.size → t ≠ ax → wr.heap[t]? = w1.heap[t]?) ∧ Below ax w1 wr ∧ w1.heap.size ≤ wr.heap.size) (fun _ i _ => k - (intOf i).toNat)
  case atStart => exact ⟨0, p + 2, by omega, rfl, rfl, .nil _ _, g2, fun t _ h => o2 t h, b2 _ (Nat.le_refl _), Nat.le_of_eq z2.symm⟩
  case round =>
    obtain ⟨j, q, hj, hq, rfl, hown, hga, ho, hbl2, hsz⟩ := hrel
    have hkm : k ≤ most := by have := HK.out; omega
    by_cases hlt : j < k
    · have hq8 : q + 8 ≤ 4080 := by omega
      have hql : q ≤ 20000000 := by omega
      have hb' : wr.cell? ⟨bx, 0, none⟩ = some (.slice A 4080 c) := by simp only [World.cell?, ho bx hbl hne]; exact hbv.out
      have hl' : wr.cell? ⟨lx, 0, none⟩ = some (.func (.func 51) #[] #[.pointer (some ⟨bx, 0, none⟩), .pointer (some ⟨ax, 0, none⟩)]) := by simp only [World.cell?, ho lx hll0 hlne]; exact hlv.out
      have s' : S7 A c l bx ax q wr := ⟨(hA.below (hbl2.mono hB0)).more (by omega), hb', hga, hne⟩
      have HE := Lib.hid hq
      clear hq
      go_wp2_with (first
        | (go_at_call 51; with_reducible refine (long_any A c l bx ax q _ s' hl hq8).mono ?_; rintro e w5 ⟨rfl, g5, o5, b5, z5⟩; have hz5 : w1.heap.size ≤ w5.heap.size := Nat.le_trans hsz (Nat.le_of_eq z5.symm); have own5 := hown.blocks (w' := w5) fun t ht => o5 t (by have := hown.blk t ht; omega); clear z5)
        | (at_builtin; refine apI rfl (.tmp 23) (.tmp 26) rfl w1.heap.size _ _ rfl (own5.alloc _) _ _ 1 1 [sI (leN (sub l q 8))] rfl rfl (RdI.one _ _) ?c1 ?c2 ?_))
      case c1 => simp [dec_len]; omega
      case c2 => simp; omega
      intro v' w6 own6 b6 _ _
      have own6' := own6.cast (m := dec l (p + 2) (j + 1)) (by rw [dec_succ, ← HE.out])
      have hal : Below w1.heap.size w5 w6 := ((Below.refl _ _).alloc hz5 _).trans b6
      clear own6 b6 own5 hown
      go_wp2
      go_roundw
      case rel => exact ⟨j + 1, q + 8, by omega, by have := HE.out; omega, by go_num, own6', (hal.block _ hax).trans g5, fun t ht hne' => (hal.block _ ht).trans ((o5 t hne').trans (ho t ht hne')), (hbl2.trans (b5 _ (Nat.le_refl _))).trans (hal.mono (Nat.le_of_lt hax)), Nat.le_trans hz5 (by have := hal.size; omega)⟩
      case measure => simp [intOf] <;> omega
    · obtain rfl : j = k := by omega
      have HE := Lib.hid hq
      clear hq
      go_wp2
      go_ret
      exact ⟨⟨_, rfl, hown⟩, by rw [← HE.out]; exact hga, ho, hbl2⟩
end Go.Proofs.YtdmnkhcddbjglaaGreat
