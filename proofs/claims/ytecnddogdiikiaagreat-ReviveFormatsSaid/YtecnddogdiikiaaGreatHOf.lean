/-
  The closures of store.HeadOf: what each call does.
  What the bytes of a head say of its lists' lengths; so it does not matter whether one number more than may be is read.
  What stands while store.HeadOf reads the numbers.
  More of what stands while store.HeadOf works; the closure that reads a list, with its number in another form.
  store.HeadOf: what the call does.
-/
import Derived.Test.YtecnddogdiikiaaGreatF2
import Derived.Test.YtecnddogdiikiaaGreatHRef
import Derived.Deep.RegionHeld3
import Derived.BigRegion
import Derived.Deep.DeepCutAuto
set_option linter.unusedVariables false
set_option linter.unusedSimpArgs false
namespace Go.Proofs.YtecnddogdiikiaaGreat
open Go Go.RowKit
set_option maxRecDepth 100000
set_option maxHeartbeats 1600000

/-- what the closures share: the bytes' box b, the place's box a, the box of 'long' -/
structure S7 (A : Option Addr) (c : Nat) (l : List UInt8) (bx ax : Nat) (p : Nat) (w : World) : Prop where
  rd : Rd w w.heap.size A l
  b : w.cell? ⟨bx, 0, none⟩ = some (.slice A 4080 c)
  a : w.heap[ax]? = some (.cells #[.int .i64 (p : Int)] 3 (0, 0))
  ne : bx ≠ ax

theorem S7.cell {A : Option Addr} {c : Nat} {l : List UInt8} {bx ax p : Nat} {w : World} (s : S7 A c l bx ax p w) : w.cell? ⟨ax, 0, none⟩ = some (.int .i64 (p : Int)) := cell_of_row w ax 0 _ 3 (0, 0) s.a

theorem word_any (A : Option Addr) (c : Nat) (l : List UInt8) (bx ax p : Nat) (w : World) (s : S7 A c l bx ax p w) (hl : l.length = 4080) (hp : p + 4 ≤ 4080) :
    Calls Tryz.prog 109 #[.pointer (some ⟨bx, 0, none⟩), .pointer (some ⟨ax, 0, none⟩)] w fun e w' => e = .returned (.int .i64 (leN (sub l p 4) : Nat)) ∧
      w'.heap[ax]? = some (.cells #[.int .i64 ((p + 4 : Nat) : Int)] 3 (0, 0)) ∧ (∀ j, j ≠ ax → w'.heap[j]? = w.heap[j]?) ∧ (∀ B, B ≤ ax → Below B w w') ∧ w'.heap.size = w.heap.size := by
  have hb := s.b
  have ha := s.cell
  have hrd := s.rd
  have hga := s.a
  have HN := Lib.hid (show 4080 = l.length by omega)
  have HP := Lib.hid (show p + 4 ≤ l.length by omega)
  obtain ⟨N, hN⟩ : ∃ N, N = leN (sub l p 4) := ⟨_, rfl⟩
  have hN2 : N < 4294967296 := by rw [hN]; exact leN_sub_lt (l := l) (p := p) (k := 4) (by omega)
  have HNN := Lib.hid hN
  rw [← hN]
  have hll : l.length ≤ 1000000 := by omega
  clear s hl hN
  go_enter Tryz.func109, Tryz.ntmps109
  go_wp2_with (first
    | (go_at_call 110; with_reducible refine (u32_any A c 4080 p l _ hrd HN.out hll HP.out).mono ?_; rintro e w1 ⟨rfl, rfl⟩; rw [← HNN.out])
    | (refine stV rfl 3 (.tmp 1) (.tmp 12) rfl rfl ax 0 rfl 1 sz3 _ (.int .i64 ((p + 4 : Nat) : Int)) 3 hga rfl (by simp) rfl (by simp [Value.cells, Value.oneCell']) ?_; intro w2 g2 o2 b2 z2))
  go_ret
  exact ⟨rfl, g2, o2, b2, z2⟩
theorem long_any (A : Option Addr) (c : Nat) (l : List UInt8) (bx ax p : Nat) (w : World) (s : S7 A c l bx ax p w) (hl : l.length = 4080) (hp : p + 8 ≤ 4080) :
    Calls Tryz.prog 111 #[.pointer (some ⟨bx, 0, none⟩), .pointer (some ⟨ax, 0, none⟩)] w fun e w' => e = .returned (.int .i64 (sI (leN (sub l p 8)))) ∧
      w'.heap[ax]? = some (.cells #[.int .i64 ((p + 8 : Nat) : Int)] 3 (0, 0)) ∧ (∀ j, j ≠ ax → w'.heap[j]? = w.heap[j]?) ∧ (∀ B, B ≤ ax → Below B w w') ∧ w'.heap.size = w.heap.size := by
  have hb := s.b
  have ha := s.cell
  have hrd := s.rd
  have hga := s.a
  have HN := Lib.hid (show 4080 = l.length by omega)
  have HP := Lib.hid (show p + 8 ≤ l.length by omega)
  obtain ⟨N, hN⟩ : ∃ N, N = leN (sub l p 8) := ⟨_, rfl⟩
  have hN2 : N < 18446744073709551616 := by rw [hN]; exact leN_sub_lt (l := l) (p := p) (k := 8) (by omega)
  have HNN := Lib.hid hN
  rw [← hN]
  have hsi : IntKind.i64.wrap (N : Int) = sI N := rfl
  have hll : l.length ≤ 1000000 := by omega
  clear s hl hN
  go_enter Tryz.func111, Tryz.ntmps111
  go_wp2_with (first
    | (go_at_call 107; with_reducible refine (u64_any A c 4080 p l _ hrd HN.out hll HP.out).mono ?_; rintro e w1 ⟨rfl, rfl⟩; rw [← HNN.out])
    | (refine stV rfl 3 (.tmp 1) (.tmp 12) rfl rfl ax 0 rfl 1 sz3 _ (.int .i64 ((p + 8 : Nat) : Int)) 3 hga rfl (by simp) rfl (by simp [Value.cells, Value.oneCell']) ?_; intro w2 g2 o2 b2 z2))
  go_ret
  exact ⟨rfl, g2, o2, b2, z2⟩

theorem list_any (A : Option Addr) (c : Nat) (l : List UInt8) (bx ax lx p most k : Nat) (w : World) (s : S7 A c l bx ax p w) (hlx : w.cell? ⟨lx, 0, none⟩ = some (.func (.func 111) #[] #[.pointer (some ⟨bx, 0, none⟩), .pointer (some ⟨ax, 0, none⟩)])) (hlne : lx ≠ ax) (hbl : bx < w.heap.size) (hll0 : lx < w.heap.size) (B0 : Nat) (hA : Rd w B0 A l) (hB0 : B0 ≤ ax) (hl : l.length = 4080) (hmo : most ≤ 64) (hp : p + 2 + 8 * most ≤ 4080) (hk : k = min (leN (sub l p 2)) most) :
    Calls Tryz.prog 112 #[.int .i64 most, .pointer (some ⟨bx, 0, none⟩), .pointer (some ⟨ax, 0, none⟩), .pointer (some ⟨lx, 0, none⟩)] w fun e w' => (∃ v, e = .returned v ∧ OwnI w' w.heap.size v (dec l (p + 2) k)) ∧
      w'.heap[ax]? = some (.cells #[.int .i64 ((p + 2 + 8 * k : Nat) : Int)] 3 (0, 0)) ∧ (∀ j, j < w.heap.size → j ≠ ax → w'.heap[j]? = w.heap[j]?) ∧ Below ax w w' := by
  have hb := s.b
  have ha := s.cell
  have hrd := s.rd
  have hga := s.a
  have hne := s.ne
  have hax := (Array.getElem?_eq_some_iff.1 hga).1
  have hbv := Lib.hid hb
  have hlv := Lib.hid hlx
  have HN := Lib.hid (show 4080 = l.length by omega)
  have HP := Lib.hid (show p + 2 ≤ l.length by omega)
  obtain ⟨N, hN⟩ : ∃ N, N = leN (sub l p 2) := ⟨_, rfl⟩
  have hN2 : N < 65536 := by rw [hN]; exact leN_sub_lt (l := l) (p := p) (k := 2) (by omega)
  rw [← hN] at hk
  have HK := Lib.hid hk
  have HNN := Lib.hid hN
  have hll : l.length ≤ 1000000 := by omega
  clear s hk hN
  have hmin : min (N : Int) (most : Int) = (k : Int) := by have := HK.out; omega
  go_enter Tryz.func112, Tryz.ntmps112
  go_wp2_with (first
    | (go_at_call 113; with_reducible refine (u16_any A c 4080 p l _ hrd HN.out hll HP.out).mono ?_; rintro e w1 ⟨rfl, rfl⟩; rw [← HNN.out])
    | (refine stV rfl 3 (.tmp 2) (.tmp 16) rfl rfl ax 0 rfl 1 sz3 _ (.int .i64 ((p + 2 : Nat) : Int)) 3 hga rfl (by simp) rfl (by simp [Value.cells, Value.oneCell']) ?_; intro w2 g2 o2 b2 z2))
  clear hb ha hrd hga
  go_loopw [8, 21] (fun v i wr => ∃ j q : Nat, j ≤ k ∧ q = p + 2 + 8 * j ∧ i = .int .i64 j ∧ OwnI wr w1.heap.size v (dec l (p + 2) j) ∧ wr.heap[ax]? = some (.cells #[.int .i64 (q : Int)] 3 (0, 0)) ∧ (∀ t, t < w1.heap.size → t ≠ ax → wr.heap[t]? = w1.heap[t]?) ∧ Below ax w1 wr ∧ w1.heap.size ≤ wr.heap.size) (fun _ i _ => k - (intOf i).toNat)
  case atStart => exact ⟨0, p + 2, by omega, rfl, rfl, .nil _ _, g2, fun t _ h => o2 t h, b2 _ (Nat.le_refl _), Nat.le_of_eq z2.symm⟩
  case round =>
    obtain ⟨j, q, hj, hq, rfl, hown, hga, ho, hbl2, hsz⟩ := hrel
    have hkm : k ≤ most := by have := HK.out; omega
    by_cases hlt : j < k
    · have hq8 : q + 8 ≤ 4080 := by omega
      have hql : q ≤ 20000000 := by omega
      have hb' : wr.cell? ⟨bx, 0, none⟩ = some (.slice A 4080 c) := by simp only [World.cell?, ho bx hbl hne]; exact hbv.out
      have hl' : wr.cell? ⟨lx, 0, none⟩ = some (.func (.func 111) #[] #[.pointer (some ⟨bx, 0, none⟩), .pointer (some ⟨ax, 0, none⟩)]) := by simp only [World.cell?, ho lx hll0 hlne]; exact hlv.out
      have s' : S7 A c l bx ax q wr := ⟨(hA.below (hbl2.mono hB0)).more (by omega), hb', hga, hne⟩
      have HE := Lib.hid hq
      clear hq
      go_wp2_with (first
        | (go_at_call 111; with_reducible refine (long_any A c l bx ax q _ s' hl hq8).mono ?_; rintro e w5 ⟨rfl, g5, o5, b5, z5⟩; have hz5 : w1.heap.size ≤ w5.heap.size := Nat.le_trans hsz (Nat.le_of_eq z5.symm); have own5 := hown.blocks (w' := w5) fun t ht => o5 t (by have := hown.blk t ht; omega); clear z5)
        | (at_builtin; refine apI rfl (.tmp 23) (.tmp 26) rfl w1.heap.size _ _ rfl (own5.alloc _) _ _ 1 1 [sI (leN (sub l q 8))] rfl rfl (RdI.one _ _) ?c1 ?c2 ?_))
      case c1 => simp [dec_len]; omega
      case c2 => simp; omega
      intro v' w6 own6 b6 _ _
      have own6' := own6.cast (m := dec l (p + 2) (j + 1)) (by rw [dec_succ, ← HE.out])
      have hal : Below w1.heap.size w5 w6 := ((Below.refl _ _).alloc hz5 _).trans b6
      clear own6 b6 own5 hown
      go_wp2
      go_roundw
      case rel => exact ⟨j + 1, q + 8, by omega, by have := HE.out; omega, by go_num, own6', (hal.block _ hax).trans g5, fun t ht hne' => (hal.block _ ht).trans ((o5 t hne').trans (ho t ht hne')), (hbl2.trans (b5 _ (Nat.le_refl _))).trans (hal.mono (Nat.le_of_lt hax)), Nat.le_trans hz5 (by have := hal.size; omega)⟩
      case measure => simp [intOf] <;> omega
    · obtain rfl : j = k := by omega
      have HE := Lib.hid hq
      clear hq
      go_wp2
      go_ret
      exact ⟨⟨_, rfl, hown⟩, by rw [← HE.out]; exact hga, ho, hbl2⟩
end Go.Proofs.YtecnddogdiikiaaGreat

namespace Go.Proofs.YtecnddogdiikiaaGreat
open Go Go.RowKit
set_option maxRecDepth 100000

theorem leB_toNat (v n : Nat) : (leB v n).toNat = v / 256 ^ n % 256 := by
  unfold leB
  rw [pow256]
  simp
theorem leN_le (v : Nat) : ∀ n, leN (le n v) = v % 256 ^ n
  | 0 => by simp [le, leN, Nat.mod_one]
  | n + 1 => by
    rw [le_succ, leN_snoc, leN_le v n, le_len, leB_toNat, Nat.mod_pow_succ, Nat.mul_comm (256 ^ n)]
theorem sub_mid (a b c : List UInt8) (p n : Nat) (hp : a.length = p) (hn : b.length = n) : sub (a ++ b ++ c) p n = b := by
  subst hp; subst hn
  simp [sub, List.append_assoc]
theorem headB_op (h : Hd) : sub (headB h) 28 2 = le 2 h.op.length := by
  have e : headB h = head1 h ++ le 2 h.op.length ++ (flat 8 h.op ++ le 2 h.dd.length ++ flat 8 h.dd ++ List.replicate (4080 - (head3 h).length) 0) := by
    simp [headB, head3, head2]
  rw [e]
  exact sub_mid _ _ _ _ _ (head1_len h) (le_len _ _)
theorem headB_dd (h : Hd) : sub (headB h) (30 + 8 * h.op.length) 2 = le 2 h.dd.length := by
  have e : headB h = head2 h ++ le 2 h.dd.length ++ (flat 8 h.dd ++ List.replicate (4080 - (head3 h).length) 0) := by
    simp [headB, head3]
  rw [e]
  exact sub_mid _ _ _ _ _ (head2_len h) (le_len _ _)

theorem told_no {l : List UInt8} {m1 m2 : Nat} (h : ¬ (OkH (decH l m1 m2) ∧ headB (decH l m1 m2) = l)) : told l m1 m2 = (zeroH, 260) := by
  unfold told; rw [if_neg h]

theorem told_same (l : List UInt8) : told l 16 64 = told l 17 65 := by
  have d1 : ∀ m1 m2, (decH l m1 m2).op.length = min (leN (sub l 28 2)) m1 := fun m1 m2 => by simp [decH, dec_len]
  have d2 : ∀ m1 m2, (decH l m1 m2).dd.length = min (leN (sub l (30 + 8 * min (leN (sub l 28 2)) m1) 2)) m2 := fun m1 m2 => by simp [decH, dec_len]
  have hb1 : ∀ m1 m2, m1 ≤ 17 → headB (decH l m1 m2) = l → leN (sub l 28 2) = min (leN (sub l 28 2)) m1 := fun m1 m2 hm h => by
    have := congrArg leN (headB_op (decH l m1 m2))
    rw [h, leN_le, d1, Nat.mod_eq_of_lt (by omega)] at this
    exact this
  have hb2 : ∀ m1 m2, m2 ≤ 65 → headB (decH l m1 m2) = l → leN (sub l (30 + 8 * min (leN (sub l 28 2)) m1) 2) = min (leN (sub l (30 + 8 * min (leN (sub l 28 2)) m1) 2)) m2 := fun m1 m2 hm h => by
    have := congrArg leN (headB_dd (decH l m1 m2))
    rw [h, leN_le, d1, d2, Nat.mod_eq_of_lt (by omega)] at this
    exact this
  by_cases h1 : leN (sub l 28 2) ≤ 16
  · have e1 : min (leN (sub l 28 2)) 16 = leN (sub l 28 2) := by omega
    have e2 : min (leN (sub l 28 2)) 17 = leN (sub l 28 2) := by omega
    by_cases h2 : leN (sub l (30 + 8 * leN (sub l 28 2)) 2) ≤ 64
    · have e : decH l 16 64 = decH l 17 65 := by
        unfold decH
        simp only [e1, e2]
        rw [show min (leN (sub l (30 + 8 * leN (sub l 28 2)) 2)) 64 = min (leN (sub l (30 + 8 * leN (sub l 28 2)) 2)) 65 by omega]
      unfold told
      rw [e]
    · rw [told_no, told_no]
      · rintro ⟨ok, _⟩
        have := ok.dd1
        rw [d2, e2] at this
        omega
      · rintro ⟨_, hb⟩
        have := hb2 16 64 (by omega) hb
        rw [e1] at this
        omega
  · rw [told_no, told_no]
    · rintro ⟨ok, _⟩
      have := ok.op1
      rw [d1] at this
      omega
    · rintro ⟨_, hb⟩
      have := hb1 16 64 (by omega) hb
      omega
end Go.Proofs.YtecnddogdiikiaaGreat

namespace Go.Proofs.YtecnddogdiikiaaGreat
open Go Go.RowKit
set_option maxRecDepth 100000
set_option maxHeartbeats 1600000

abbrev fnL (N : Nat) : Value := .func (.func 111) #[] #[.pointer (some ⟨N, 0, none⟩), .pointer (some ⟨N + 1 + 1, 0, none⟩)]
/-- what stands while the numbers are read, N being the heap's size at the start -/
structure S8 (A : Option Addr) (c : Nat) (l : List UInt8) (w : World) (p : Nat) (wr : World) : Prop where
  rd : Rd wr wr.heap.size A l
  b : wr.heap[w.heap.size]? = some (.cells #[.slice A 4080 c] 37 (0, 0))
  z : Box wr (w.heap.size + 1) (hdV zeroH none none 0 0 0 0)
  a : wr.heap[w.heap.size + 1 + 1]? = some (.cells #[.int .i64 (p : Int)] 3 (0, 0))
  f : wr.heap[w.heap.size + 1 + 1 + 1]? = some (.cells #[fnL w.heap.size] 46 (0, 0))
  sz : w.heap.size + 4 ≤ wr.heap.size
  bl : Below w.heap.size w wr
section
variable {A : Option Addr} {c : Nat} {l : List UInt8} {w wr w' : World} {p q : Nat}
theorem S8.s7 (s : S8 A c l w p wr) : S7 A c l w.heap.size (w.heap.size + 1 + 1) p wr := ⟨s.rd, cell_of_row wr _ 0 _ 37 (0, 0) s.b, s.a, by omega⟩
theorem S8.lg (s : S8 A c l w p wr) : wr.cell? ⟨w.heap.size + 1 + 1 + 1, 0, none⟩ = some (fnL w.heap.size) := cell_of_row wr _ 0 _ 46 (0, 0) s.f
theorem S8.bc (s : S8 A c l w p wr) : wr.cell? ⟨w.heap.size, 0, none⟩ = some (.slice A 4080 c) := cell_of_row wr _ 0 _ 37 (0, 0) s.b
theorem S8.at_ (hA : Rd w w.heap.size A l) (s : S8 A c l w p wr) (h1 : w'.heap[w.heap.size + 1 + 1]? = some (.cells #[.int .i64 (q : Int)] 3 (0, 0))) (h2 : ∀ j, j < wr.heap.size → j ≠ w.heap.size + 1 + 1 → w'.heap[j]? = wr.heap[j]?) (h3 : Below (w.heap.size + 1 + 1) wr w') : S8 A c l w q w' := by
  have hs := s.sz
  exact ⟨(hA.below (s.bl.trans (h3.mono (by omega)))).more (by have := h3.size; omega), (h2 _ (by omega) (by omega)).trans s.b, (h2 _ (by omega) (by omega)).trans s.z, h1, (h2 _ (by omega) (by omega)).trans s.f, by have := h3.size; omega, s.bl.trans (h3.mono (by omega))⟩
theorem S8.step (s : S8 A c l w p wr) (hb : Below wr.heap.size wr w') : S8 A c l w p w' := by
  have hs := s.sz
  exact ⟨s.rd.belowS hb, (hb.block _ (by omega)).trans s.b, s.z.below hb, (hb.block _ (by omega)).trans s.a, (hb.block _ (by omega)).trans s.f, by have := hb.size; omega, s.bl.trans (hb.mono (by omega))⟩
/-- the same, and the new head's block g stands -/
structure S9 (A : Option Addr) (c : Nat) (l : List UInt8) (w : World) (p : Nat) (g : Nat) (V : Array Value) (wr : World) : Prop where
  s : S8 A c l w p wr
  h : Box wr g V
  lo : w.heap.size + 4 ≤ g
theorem S9.new (s : S8 A c l w p wr) {V : Array Value} : S9 A c l w p wr.heap.size V (wr.alloc (.cells V 28 (0, 0))) := ⟨s.step ((Below.refl _ _).alloc (Nat.le_refl _) _), Box.new _ _, s.sz⟩
theorem S9.newd (s : S8 A c l w p wr) {V : Array Value} : S9 A c l w p wr.heap.size V (wr.alloc (.cells V 28 (0, 0))).drew := by
  have t := S9.new s (V := V)
  exact ⟨⟨t.s.rd, t.s.b, t.s.z, t.s.a, t.s.f, t.s.sz, t.s.bl.drew⟩, t.h, t.lo⟩
theorem S9.at_ {g : Nat} {V : Array Value} (hA : Rd w w.heap.size A l) (s : S9 A c l w p g V wr) (h1 : w'.heap[w.heap.size + 1 + 1]? = some (.cells #[.int .i64 (q : Int)] 3 (0, 0))) (h2 : ∀ j, j < wr.heap.size → j ≠ w.heap.size + 1 + 1 → w'.heap[j]? = wr.heap[j]?) (h3 : Below (w.heap.size + 1 + 1) wr w') : S9 A c l w q g V w' := by
  have hs := s.lo
  have hg := s.h.lt
  exact ⟨s.s.at_ hA h1 h2 h3, (h2 g hg (by omega)).trans s.h, s.lo⟩
theorem setCell_block {w : World} {g k : Nat} {C : Array Value} {t : TypeId} {fz : Nat × Nat} (h : w.heap[g]? = some (.cells C t fz)) (v : Value) : (w.setCell ⟨g, k, none⟩ v).heap[g]? = some (.cells (C.setIfInBounds k v) t fz) := by
  simp [World.setCell, Array.getElem?_modify, h]
theorem S9.set {g : Nat} {V : Array Value} (hA : Rd w w.heap.size A l) (s : S9 A c l w p g V wr) (k : Nat) (v : Value) : S9 A c l w p g (V.setIfInBounds k v) (wr.setCell ⟨g, k, none⟩ v) := by
  have hs := s.lo
  have hb : Below g wr (wr.setCell ⟨g, k, none⟩ v) := (Below.refl g wr).setCell (Nat.le_refl _) v
  have hsz := s.s.sz
  have hbs := hb.size
  exact ⟨⟨(hA.below (s.s.bl.trans (hb.mono (by omega)))).more (by omega), (hb.block _ (by omega)).trans s.s.b, (hb.block _ (by omega)).trans s.s.z, (hb.block _ (by omega)).trans s.s.a, (hb.block _ (by omega)).trans s.s.f, by omega, s.s.bl.trans (hb.mono (by omega))⟩, setCell_block s.h v, s.lo⟩
theorem S9.fz {g : Nat} {V : Array Value} (s : S9 A c l w p g V wr) (k : Nat) : wr.frozen? ⟨g, k, none⟩ = false := by
  have := s.h
  unfold Box at this
  simp [World.frozen?, this]
theorem S9.zc {g : Nat} (s : S9 A c l w p g #[.int .i64 0, .int .i64 0, .int .i64 0, .int .i64 0, .int .i64 0, .slice none 0 0, .slice none 0 0] wr) : wr.cell? ⟨g, 0, none⟩ = some (.int .i64 0) ∧ wr.cell? ⟨g, 1, none⟩ = some (.int .i64 0) ∧ wr.cell? ⟨g, 2, none⟩ = some (.int .i64 0) ∧ wr.cell? ⟨g, 3, none⟩ = some (.int .i64 0) ∧ wr.cell? ⟨g, 4, none⟩ = some (.int .i64 0) ∧ wr.cell? ⟨g, 5, none⟩ = some (.slice none 0 0) ∧ wr.cell? ⟨g, 6, none⟩ = some (.slice none 0 0) :=
  ⟨s.h.cell 0, s.h.cell 1, s.h.cell 2, s.h.cell 3, s.h.cell 4, s.h.cell 5, s.h.cell 6⟩
theorem S9.put {g : Nat} (hA : Rd w w.heap.size A l) (s : S9 A c l w p g #[.int .i64 0, .int .i64 0, .int .i64 0, .int .i64 0, .int .i64 0, .slice none 0 0, .slice none 0 0] wr) (a b d e f : Value) : S9 A c l w p g #[a, b, d, e, f, .slice none 0 0, .slice none 0 0] (((((((wr.setCell ⟨g, 0, none⟩ a).setCell ⟨g, 1, none⟩ b).setCell ⟨g, 2, none⟩ d).setCell ⟨g, 3, none⟩ e).setCell ⟨g, 4, none⟩ f).setCell ⟨g, 5, none⟩ (.slice none 0 0)).setCell ⟨g, 6, none⟩ (.slice none 0 0)) :=
  ((((((s.set hA 0 a).set hA 1 b).set hA 2 d).set hA 3 e).set hA 4 f).set hA 5 (.slice none 0 0)).set hA 6 (.slice none 0 0)
end

theorem sz80 : Go.Ev.szOf Tryz.prog 46 = some 1 := by kernel_rfl
theorem alloc_get {w : World} {o0 : Obj} {k : Nat} (h : k < w.heap.size) {x : Obj} (e : w.heap[k]? = some x) : (w.alloc o0).heap[k]? = some x := (Below.heap_alloc w o0 k h).trans e
theorem alloc1 (w : World) (o0 o1 o2 o3 : Obj) : ((((w.alloc o0).alloc o1).alloc o2).alloc o3).heap[w.heap.size]? = some o0 := by
  refine alloc_get (by simp; omega) (alloc_get (by simp; omega) (alloc_get (by simp) (heap_alloc_new _ _)))
theorem alloc2 (w : World) (o0 o1 o2 o3 : Obj) : ((((w.alloc o0).alloc o1).alloc o2).alloc o3).heap[w.heap.size + 1]? = some o1 := by
  have e : (w.alloc o0).heap.size = w.heap.size + 1 := by simp
  rw [← e]
  exact alloc_get (by simp) (alloc_get (by simp) (heap_alloc_new _ _))
theorem alloc3 (w : World) (o0 o1 o2 o3 : Obj) : ((((w.alloc o0).alloc o1).alloc o2).alloc o3).heap[w.heap.size + 1 + 1]? = some o2 := by
  have e : ((w.alloc o0).alloc o1).heap.size = w.heap.size + 1 + 1 := by simp
  rw [← e]
  exact alloc_get (by simp) (heap_alloc_new _ _)
theorem store_new (w : World) (u v : Value) (t : TypeId) (h1 : v.oneCell' = true := by rfl) : (store ⟨w.heap.size, 0, none⟩ v : Sem Unit).run Tryz.prog (w.alloc (.cells #[u] t)) = .ok () (w.alloc (.cells #[v] t)) := by
  have hg : (w.alloc (.cells #[u] t)).heap[w.heap.size]? = some (.cells #[u] t (0, 0)) := heap_alloc_new _ _
  have hc := cell_of_row _ w.heap.size 0 #[u] t (0, 0) hg
  have hf : (w.alloc (.cells #[u] t)).frozen? ⟨w.heap.size, 0, none⟩ = false := by unfold World.frozen?; rw [hg]; simp
  have e : (w.alloc (.cells #[u] t)).setCell ⟨w.heap.size, 0, none⟩ v = w.alloc (.cells #[v] t) := by
    rw [← World.alloc_eq, ← World.alloc_eq]
    simp only [World.setCell]
    congr 1
    apply Array.ext_getElem?
    intro i
    by_cases hi : i = w.heap.size
    · subst hi; rw [Array.getElem?_modify]; simp
    · simp [Array.getElem?_modify, Array.getElem?_push, hi, Ne.symm hi]
  rw [← e]
  simp only [List.getElem?_toArray, List.getElem?_cons_zero] at hc
  rw [run_store _ _ _ _ _ h1]
  simp [stored, hc, hf]
theorem alloc4 (w : World) (o0 o1 o2 o3 : Obj) : ((((w.alloc o0).alloc o1).alloc o2).alloc o3).heap[w.heap.size + 1 + 1 + 1]? = some o3 := by
  have e : (((w.alloc o0).alloc o1).alloc o2).heap.size = w.heap.size + 1 + 1 + 1 := by simp
  rw [← e]; exact heap_alloc_new _ _


end Go.Proofs.YtecnddogdiikiaaGreat

namespace Go.Proofs.YtecnddogdiikiaaGreat
open Go Go.RowKit
set_option maxRecDepth 100000
set_option maxHeartbeats 1600000

theorem S9.st {A : Option Addr} {c : Nat} {l : List UInt8} {w wr w' : World} {p g : Nat} {V V' : Array Value} (hA : Rd w w.heap.size A l) (s : S9 A c l w p g V wr) (h1 : w'.heap[g]? = some (.cells V' 28 (0, 0))) (h2 : ∀ j, j ≠ g → w'.heap[j]? = wr.heap[j]?) (h3 : Below w.heap.size wr w') (h4 : w'.heap.size = wr.heap.size) : S9 A c l w p g V' w' := by
  have hs := s.lo
  have hsz := s.s.sz
  exact ⟨⟨(hA.below (s.s.bl.trans h3)).more (by omega), (h2 _ (by omega)).trans s.s.b, (h2 _ (by omega)).trans s.s.z, (h2 _ (by omega)).trans s.s.a, (h2 _ (by omega)).trans s.s.f, by omega, s.s.bl.trans h3⟩, h1, s.lo⟩
theorem S9.step {A : Option Addr} {c : Nat} {l : List UInt8} {w wr w' : World} {p g : Nat} {V : Array Value} (s : S9 A c l w p g V wr) (hb : Below wr.heap.size wr w') : S9 A c l w p g V w' :=
  ⟨s.s.step hb, s.h.below hb, s.lo⟩
theorem list' (A : Option Addr) (c : Nat) (l : List UInt8) (bx ax lx p most k : Nat) (M : Int) (hM : M = most) (w : World) (s : S7 A c l bx ax p w) (hlx : w.cell? ⟨lx, 0, none⟩ = some (.func (.func 111) #[] #[.pointer (some ⟨bx, 0, none⟩), .pointer (some ⟨ax, 0, none⟩)])) (hlne : lx ≠ ax) (hbl : bx < w.heap.size) (hll0 : lx < w.heap.size) (B0 : Nat) (hA : Rd w B0 A l) (hB0 : B0 ≤ ax) (hl : l.length = 4080) (hmo : most ≤ 64) (hp : p + 2 + 8 * most ≤ 4080) (hk : k = min (leN (sub l p 2)) most) :
    Calls Tryz.prog 112 #[.int .i64 M, .pointer (some ⟨bx, 0, none⟩), .pointer (some ⟨ax, 0, none⟩), .pointer (some ⟨lx, 0, none⟩)] w fun e w' => (∃ v, e = .returned v ∧ OwnI w' w.heap.size v (dec l (p + 2) k)) ∧
      w'.heap[ax]? = some (.cells #[.int .i64 ((p + 2 + 8 * k : Nat) : Int)] 3 (0, 0)) ∧ (∀ j, j < w.heap.size → j ≠ ax → w'.heap[j]? = w.heap[j]?) ∧ Below ax w w' := by
  subst hM; exact list_any A c l bx ax lx p most k w s hlx hlne hbl hll0 B0 hA hB0 hl hmo hp hk
theorem headbytes' (h : Hd) (hok : OkH h) (A B : Option Addr) (n c m d : Nat) (w : World) (hA : RdI w w.heap.size A h.op) (hB : RdI w w.heap.size B h.dd) (hn : n = h.op.length) (hm : m = h.dd.length) :
    Calls Tryz.prog 71 #[.agg (hdV h A B n c m d)] w fun e w' => (∃ A' c', e = .returned (.tuple #[.slice A' 4080 c', .int .i64 0]) ∧ Rd w' w'.heap.size A' (headB h)) ∧ Below w.heap.size w w' := by
  refine (headbytes_ok h hok A B n c m d w hA hB hn hm).mono ?_
  rintro e w' ⟨⟨v, rfl, own⟩, hb⟩
  obtain ⟨A', c', rfl, _, _, r⟩ := own.sl (n := 4080) (headB_len hok)
  exact ⟨⟨A', c', rfl, r⟩, hb⟩
end Go.Proofs.YtecnddogdiikiaaGreat

namespace Go.Proofs.YtecnddogdiikiaaGreat
open Go Go.RowKit
set_option maxRecDepth 100000
set_option maxHeartbeats 20000000

abbrev fnW (N : Nat) : Value := .func (.func 109) #[] #[.pointer (some ⟨N, 0, none⟩), .pointer (some ⟨N + 1 + 1, 0, none⟩)]
abbrev fnK (N : Nat) : Value := .func (.func 112) #[] #[.pointer (some ⟨N, 0, none⟩), .pointer (some ⟨N + 1 + 1, 0, none⟩), .pointer (some ⟨N + 1 + 1 + 1, 0, none⟩)]
theorem headof_any (A : Option Addr) (c n : Nat) (l : List UInt8) (w : World) (hr : Rd w w.heap.size A l) (hn : n = l.length) (hl4 : l.length = 4080) :
    Calls Tryz.prog 59 #[.slice A n c] w fun e w' => (∃ v, e = .returned (.tuple #[v, .int .i64 (told l 16 64).2]) ∧ HV w' (told l 16 64).1 v) ∧ Below w.heap.size w w' := by
  have HN := Lib.hid (show 4080 = l.length by omega)
  have hn4 : n = 4080 := by omega
  have hl : l.length ≤ 1000000 := by omega
  obtain ⟨n0, e0⟩ : ∃ n0 : Nat, n0 = leN (sub l 4 4) := ⟨_, rfl⟩
  obtain ⟨n1, e1⟩ : ∃ n1 : Nat, n1 = leN (sub l 8 4) := ⟨_, rfl⟩
  obtain ⟨n2, e2⟩ : ∃ n2 : Nat, n2 = leN (sub l 12 4) := ⟨_, rfl⟩
  obtain ⟨n3, e3⟩ : ∃ n3 : Nat, n3 = leN (sub l 16 4) := ⟨_, rfl⟩
  obtain ⟨n5, e5⟩ : ∃ n5 : Nat, n5 = leN (sub l 20 8) := ⟨_, rfl⟩
  obtain ⟨k1, ek1⟩ : ∃ k1 : Nat, k1 = min (leN (sub l 28 2)) 16 := ⟨_, rfl⟩
  obtain ⟨k2, ek2⟩ : ∃ k2 : Nat, k2 = min (leN (sub l (30 + 8 * k1) 2)) 64 := ⟨_, rfl⟩
  have b0 : n0 < 4294967296 := by rw [e0]; exact leN_sub_lt (l := l) (p := 4) (k := 4) (by omega)
  have b1 : n1 < 4294967296 := by rw [e1]; exact leN_sub_lt (l := l) (p := 8) (k := 4) (by omega)
  have b2 : n2 < 4294967296 := by rw [e2]; exact leN_sub_lt (l := l) (p := 12) (k := 4) (by omega)
  have b3 : n3 < 4294967296 := by rw [e3]; exact leN_sub_lt (l := l) (p := 16) (k := 4) (by omega)
  have bk1 : k1 ≤ 16 := by omega
  have bk2 : k2 ≤ 64 := by omega
  have hdec : decH l 16 64 = ⟨n0, n1, n2, n3, sI n5, dec l 30 k1, dec l (32 + 8 * k1) k2⟩ := by
    rw [e0, e1, e2, e3, e5, ek2, ek1]; rfl
  have HD := Lib.hid hdec
  have HE0 := Lib.hid e0
  have HE1 := Lib.hid e1
  have HE2 := Lib.hid e2
  have HE3 := Lib.hid e3
  have HE5 := Lib.hid e5
  have HK1 := Lib.hid ek1
  have HK2 := Lib.hid ek2
  clear hn hdec e0 e1 e2 e3 e5 ek1 ek2
  subst hn4
  go_enter Tryz.func59, Tryz.ntmps59
  have hb0 : Below w.heap.size w ((((w.alloc (.cells #[.slice A 4080 c] 37)).alloc (.cells #[.int .i64 0, .int .i64 0, .int .i64 0, .int .i64 0, .int .i64 0, .slice none 0 0, .slice none 0 0] 28)).alloc (.cells #[.int .i64 4] 3)).alloc (.cells #[(.func (.func 111) #[] #[.pointer (some ⟨w.heap.size, 0, none⟩), .pointer (some ⟨w.heap.size + 1 + 1, 0, none⟩)])] 46)) := ((((Below.refl _ _).alloc (Nat.le_refl _) _).alloc (by simp) _).alloc (by simp; omega) _).alloc (by simp; omega) _
  have hst : (store ⟨w.heap.size + 1 + 1 + 1, 0, none⟩ (.func (.func 111) #[] #[.pointer (some ⟨w.heap.size, 0, none⟩), .pointer (some ⟨w.heap.size + 1 + 1, 0, none⟩)]) : Sem Unit).run Tryz.prog ((((w.alloc (.cells #[.slice A 4080 c] 37)).alloc (.cells #[.int .i64 0, .int .i64 0, .int .i64 0, .int .i64 0, .int .i64 0, .slice none 0 0, .slice none 0 0] 28)).alloc (.cells #[.int .i64 4] 3)).alloc (.cells #[.nilFunc] 46)) = .ok () ((((w.alloc (.cells #[.slice A 4080 c] 37)).alloc (.cells #[.int .i64 0, .int .i64 0, .int .i64 0, .int .i64 0, .int .i64 0, .slice none 0 0, .slice none 0 0] 28)).alloc (.cells #[.int .i64 4] 3)).alloc (.cells #[(.func (.func 111) #[] #[.pointer (some ⟨w.heap.size, 0, none⟩), .pointer (some ⟨w.heap.size + 1 + 1, 0, none⟩)])] 46)) := by
    have := store_new (((w.alloc (.cells #[.slice A 4080 c] 37)).alloc (.cells #[.int .i64 0, .int .i64 0, .int .i64 0, .int .i64 0, .int .i64 0, .slice none 0 0, .slice none 0 0] 28)).alloc (.cells #[.int .i64 4] 3)) .nilFunc (.func (.func 111) #[] #[.pointer (some ⟨w.heap.size, 0, none⟩), .pointer (some ⟨w.heap.size + 1 + 1, 0, none⟩)]) 46
    simpa using this
  have hs0 : S8 A c l w 4 ((((w.alloc (.cells #[.slice A 4080 c] 37)).alloc (.cells #[.int .i64 0, .int .i64 0, .int .i64 0, .int .i64 0, .int .i64 0, .slice none 0 0, .slice none 0 0] 28)).alloc (.cells #[.int .i64 4] 3)).alloc (.cells #[(.func (.func 111) #[] #[.pointer (some ⟨w.heap.size, 0, none⟩), .pointer (some ⟨w.heap.size + 1 + 1, 0, none⟩)])] 46)) := by
    exact ⟨(hr.below hb0).more (by simp; omega), alloc1 _ _ _ _ _, alloc2 _ _ _ _ _, alloc3 _ _ _ _ _, alloc4 _ _ _ _ _, by simp, hb0⟩
  clear hb0
  generalize hW : (((w.alloc (.cells #[.slice A 4080 c] 37)).alloc (.cells #[.int .i64 0, .int .i64 0, .int .i64 0, .int .i64 0, .int .i64 0, .slice none 0 0, .slice none 0 0] 28)).alloc (.cells #[.int .i64 4] 3)).alloc (.cells #[.func (.func 111) #[] #[.pointer (some ⟨w.heap.size, 0, none⟩), .pointer (some ⟨w.heap.size + 1 + 1, 0, none⟩)]] 46) = W at hs0 hst
  go_upto_region 7 with fail
  clear hW hst
  have s00 := hs0
  have s0 : S8 A c l w 4 W.drew := ⟨hs0.rd, hs0.b, hs0.z, hs0.a, hs0.f, hs0.sz, hs0.bl.drew⟩
  clear hs0
  refine Code.wp_mono (Q := fun e a w' => e = .normal ∧ ∃ g, a = ⟨#[.slice A 4080 c, .pointer (some ⟨w.heap.size, 0, none⟩), .pointer (some ⟨w.heap.size + 1, 0, none⟩), .int .i64 0, .pointer (some ⟨w.heap.size + 1 + 1, 0, none⟩), fnW w.heap.size, .pointer (some ⟨w.heap.size + 1 + 1 + 1, 0, none⟩), fnK w.heap.size, .pointer (some ⟨g, 0, none⟩), undef, undef, .slice A 4080 c, .int .i64 4080, .bool false, undef, fnW w.heap.size, fnL w.heap.size, fnK w.heap.size, fnW w.heap.size, .int .i64 n0, fnW w.heap.size, .int .i64 n1, fnW w.heap.size, .int .i64 n2, fnW w.heap.size, .int .i64 n3, fnL w.heap.size, .int .i64 (sI n5), .agg #[.int .i64 n0, .int .i64 n1, .int .i64 n2, .int .i64 n3, .int .i64 (sI n5), .slice none 0 0, .slice none 0 0], undef, undef, undef, undef, undef, undef, undef, undef, undef, undef, undef, undef, undef, undef, undef, undef, undef, undef, undef, undef, undef], []⟩ ∧ S9 A c l w 28 g #[.int .i64 n0, .int .i64 n1, .int .i64 n2, .int .i64 n3, .int .i64 (sI n5), .slice none 0 0, .slice none 0 0] w') ?imp ?reg
  case imp =>
    rintro e a W9 ⟨rfl, g, rfl, t0⟩
    have hg : w.heap.size < g := by have := t0.lo; omega
    have hg4 := t0.lo
    have hne3 : w.heap.size + 1 + 1 + 1 ≠ w.heap.size + 1 + 1 := by omega
    have hax : w.heap.size ≤ w.heap.size + 1 + 1 := by omega
    have e28 : 28 + 2 + 8 * k1 = 30 + 8 * k1 := by omega
    have lt0 : w.heap.size < W9.heap.size := by have := t0.s.sz; omega
    have lt3 : w.heap.size + 1 + 1 + 1 < W9.heap.size := by have := t0.s.sz; omega
    by_cases hok : OkH ⟨n0, n1, n2, n3, sI n5, dec l 30 k1, dec l (32 + 8 * k1) k2⟩
    · have HBL := Lib.hid (headB_len hok).symm
      by_cases heq : headB ⟨n0, n1, n2, n3, sI n5, dec l 30 k1, dec l (32 + 8 * k1) k2⟩ = l
      · have ht : told l 16 64 = (⟨n0, n1, n2, n3, sI n5, dec l 30 k1, dec l (32 + 8 * k1) k2⟩, 0) := by unfold told; rw [HD.out, if_pos ⟨hok, heq⟩]
        have hd : decide (headB ⟨n0, n1, n2, n3, sI n5, dec l 30 k1, dec l (32 + 8 * k1) k2⟩ = l) = true := by simp [heq]
        have HT := Lib.hid ht
        have HOK := Lib.hid hok
        clear hok ht heq
        go_wp2_with (first
          | (go_at_call 112; with_reducible refine (list' A c l w.heap.size (w.heap.size + 1 + 1) (w.heap.size + 1 + 1 + 1) 28 16 k1 16 rfl _ t0.s.s7 t0.s.lg hne3 lt0 lt3 w.heap.size (hr.below t0.s.bl) hax hl4 (by omega) (by omega) HK1.out).mono ?_; rintro e w4 ⟨⟨v1, rfl, own1⟩, ga, oa, ba⟩; rw [e28] at ga; have t1 := S9.at_ hr t0 ga oa ba; have own7 := own1.down (Nat.succ_le_of_lt t0.h.lt); clear own1 ga oa ba t0 lt0 lt3; obtain ⟨A1, d1, rfl, _, _, _⟩ := own7.sl (n := k1) (dec_len _ _ _))
          | (refine stV rfl 26 (.tmp 31) (.tmp 30) rfl rfl g 5 rfl 1 sz22 _ (.slice A1 k1 d1) 28 t1.h rfl (by simp) rfl (by simp [Value.cells, Value.oneCell']) ?_; intro w5 g5 o5 b5 z5; have t2 : S9 A c l w (30 + 8 * k1) g #[.int .i64 n0, .int .i64 n1, .int .i64 n2, .int .i64 n3, .int .i64 (sI n5), .slice A1 k1 d1, .slice none 0 0] w5 := S9.st hr t1 g5 o5 (b5 _ (Nat.le_of_lt hg)) z5; have own8 := own7.st o5; have lt0 : w.heap.size < w5.heap.size := (by have := t2.s.sz; omega); have lt3 : w.heap.size + 1 + 1 + 1 < w5.heap.size := (by have := t2.s.sz; omega); clear own7 t1 g5 o5 b5 z5)
          | (go_at_call 112; with_reducible refine (list' A c l w.heap.size (w.heap.size + 1 + 1) (w.heap.size + 1 + 1 + 1) (30 + 8 * k1) 64 k2 64 rfl _ t2.s.s7 t2.s.lg hne3 lt0 lt3 w.heap.size (hr.below t2.s.bl) hax hl4 (by omega) (by omega) HK2.out).mono ?_; rintro e w6 ⟨⟨v2, rfl, own2⟩, ga, oa, ba⟩; have t3 := S9.at_ hr t2 ga oa ba; have own9 := own8.blocks (w' := w6) fun j hj => oa j (own8.lt j hj) (by have := own8.blk j hj; omega); have ownb := own2.down (Nat.succ_le_of_lt t2.h.lt); clear own2 ga oa ba t2 own8 lt0 lt3; obtain ⟨A2, d2, rfl, _, _, _⟩ := ownb.sl (n := k2) (dec_len _ _ _))
          | (refine stV rfl 26 (.tmp 34) (.tmp 33) rfl rfl g 6 rfl 1 sz22 _ (.slice A2 k2 d2) 28 t3.h rfl (by simp) rfl (by simp [Value.cells, Value.oneCell']) ?_; intro w7 g7 o7 b7 z7; have t4 : S9 A c l w (30 + 8 * k1 + 2 + 8 * k2) g #[.int .i64 n0, .int .i64 n1, .int .i64 n2, .int .i64 n3, .int .i64 (sI n5), .slice A1 k1 d1, .slice A2 k2 d2] w7 := S9.st hr t3 g7 o7 (b7 _ (Nat.le_of_lt hg)) z7; have own10 : OwnI w7 (g + 1) (.slice A1 k1 d1) (dec l 30 k1) := own9.st o7; have own11 : OwnI w7 (g + 1) (.slice A2 k2 d2) (dec l (32 + 8 * k1) k2) := (ownb.st o7).cast (by rw [show 30 + 8 * k1 + 2 = 32 + 8 * k1 by omega]); clear own9 ownb t3 g7 o7 b7 z7; obtain ⟨c0, c1, c2, c3, c4, c5, c6⟩ := Box.cells (h := ⟨n0, n1, n2, n3, sI n5, dec l 30 k1, dec l (32 + 8 * k1) k2⟩) t4.h)
          | (go_at_call 71; with_reducible refine (headbytes' ⟨n0, n1, n2, n3, sI n5, dec l 30 k1, dec l (32 + 8 * k1) k2⟩ HOK.out A1 A2 k1 d1 k2 d2 _ own10.rd own11.rd (dec_len _ _ _).symm (dec_len _ _ _).symm).mono ?_; rintro e w8 ⟨⟨A8, c8, rfl, r8⟩, hb8⟩; have t5 := t4.step hb8; have own12 := own10.belowS hb8; have own13 := own11.belowS hb8; have bc := t5.s.bc; clear t4 own10 own11 hb8 c0 c1 c2 c3 c4 c5 c6)
          | (go_at_call 114; with_reducible refine (osame_any A8 A c8 c 4080 4080 (headB ⟨n0, n1, n2, n3, sI n5, dec l 30 k1, dec l (32 + 8 * k1) k2⟩) l _ r8 t5.s.rd HBL.out HN.out).mono ?_; rintro e w9 ⟨rfl, rfl⟩; obtain ⟨c0, c1, c2, c3, c4, c5, c6⟩ := Box.cells (h := ⟨n0, n1, n2, n3, sI n5, dec l 30 k1, dec l (32 + 8 * k1) k2⟩) t5.h)
          | (refine stV rfl 28 (.tmp 2) (.tmp 49) rfl rfl (w.heap.size + 1) 0 rfl 7 sz24 _ (.agg (#[.int .i64 n0, .int .i64 n1, .int .i64 n2, .int .i64 n3, .int .i64 (sI n5), .slice A1 k1 d1, .slice A2 k2 d2])) 28 t5.s.z rfl (by simp) rfl (by simp [Value.cells, Value.oneCell']) ?_; intro w10 g10 o10 b10 z10))
        have g11 : w10.heap[w.heap.size + 1]? = some (.cells #[.int .i64 n0, .int .i64 n1, .int .i64 n2, .int .i64 n3, .int .i64 (sI n5), .slice A1 k1 d1, .slice A2 k2 d2] 28 (0, 0)) := by rw [g10]; congr 2
        have own14 := own12.blocks (w' := w10) fun k hk => o10 k (by have := own12.blk k hk; omega)
        have own15 := own13.blocks (w' := w10) fun k hk => o10 k (by have := own13.blk k hk; omega)
        go_wp2
        refine bodyPost_ret (ret_head rfl rfl g11 rfl) rfl ?_
        exact ⟨⟨_, by rw [HT.out]; rfl, by rw [HT.out]; exact ⟨A1, A2, k1, d1, k2, d2, rfl, own14.rd, own15.rd, (dec_len _ _ _).symm, (dec_len _ _ _).symm⟩⟩, t5.s.bl.trans (b10 _ (Nat.le_succ _))⟩
      · have ht : told l 16 64 = (zeroH, 260) := by unfold told; rw [HD.out, if_neg (fun q => heq q.2)]
        have hd : decide (headB ⟨n0, n1, n2, n3, sI n5, dec l 30 k1, dec l (32 + 8 * k1) k2⟩ = l) = false := by simp [heq]
        have HT := Lib.hid ht
        have HOK := Lib.hid hok
        clear hok ht heq
        go_wp2_with (first
          | (go_at_call 112; with_reducible refine (list' A c l w.heap.size (w.heap.size + 1 + 1) (w.heap.size + 1 + 1 + 1) 28 16 k1 16 rfl _ t0.s.s7 t0.s.lg hne3 lt0 lt3 w.heap.size (hr.below t0.s.bl) hax hl4 (by omega) (by omega) HK1.out).mono ?_; rintro e w4 ⟨⟨v1, rfl, own1⟩, ga, oa, ba⟩; rw [e28] at ga; have t1 := S9.at_ hr t0 ga oa ba; have own7 := own1.down (Nat.succ_le_of_lt t0.h.lt); clear own1 ga oa ba t0 lt0 lt3; obtain ⟨A1, d1, rfl, _, _, _⟩ := own7.sl (n := k1) (dec_len _ _ _))
          | (refine stV rfl 26 (.tmp 31) (.tmp 30) rfl rfl g 5 rfl 1 sz22 _ (.slice A1 k1 d1) 28 t1.h rfl (by simp) rfl (by simp [Value.cells, Value.oneCell']) ?_; intro w5 g5 o5 b5 z5; have t2 : S9 A c l w (30 + 8 * k1) g #[.int .i64 n0, .int .i64 n1, .int .i64 n2, .int .i64 n3, .int .i64 (sI n5), .slice A1 k1 d1, .slice none 0 0] w5 := S9.st hr t1 g5 o5 (b5 _ (Nat.le_of_lt hg)) z5; have own8 := own7.st o5; have lt0 : w.heap.size < w5.heap.size := (by have := t2.s.sz; omega); have lt3 : w.heap.size + 1 + 1 + 1 < w5.heap.size := (by have := t2.s.sz; omega); clear own7 t1 g5 o5 b5 z5)
          | (go_at_call 112; with_reducible refine (list' A c l w.heap.size (w.heap.size + 1 + 1) (w.heap.size + 1 + 1 + 1) (30 + 8 * k1) 64 k2 64 rfl _ t2.s.s7 t2.s.lg hne3 lt0 lt3 w.heap.size (hr.below t2.s.bl) hax hl4 (by omega) (by omega) HK2.out).mono ?_; rintro e w6 ⟨⟨v2, rfl, own2⟩, ga, oa, ba⟩; have t3 := S9.at_ hr t2 ga oa ba; have own9 := own8.blocks (w' := w6) fun j hj => oa j (own8.lt j hj) (by have := own8.blk j hj; omega); have ownb := own2.down (Nat.succ_le_of_lt t2.h.lt); clear own2 ga oa ba t2 own8 lt0 lt3; obtain ⟨A2, d2, rfl, _, _, _⟩ := ownb.sl (n := k2) (dec_len _ _ _))
          | (refine stV rfl 26 (.tmp 34) (.tmp 33) rfl rfl g 6 rfl 1 sz22 _ (.slice A2 k2 d2) 28 t3.h rfl (by simp) rfl (by simp [Value.cells, Value.oneCell']) ?_; intro w7 g7 o7 b7 z7; have t4 : S9 A c l w (30 + 8 * k1 + 2 + 8 * k2) g #[.int .i64 n0, .int .i64 n1, .int .i64 n2, .int .i64 n3, .int .i64 (sI n5), .slice A1 k1 d1, .slice A2 k2 d2] w7 := S9.st hr t3 g7 o7 (b7 _ (Nat.le_of_lt hg)) z7; have own10 : OwnI w7 (g + 1) (.slice A1 k1 d1) (dec l 30 k1) := own9.st o7; have own11 : OwnI w7 (g + 1) (.slice A2 k2 d2) (dec l (32 + 8 * k1) k2) := (ownb.st o7).cast (by rw [show 30 + 8 * k1 + 2 = 32 + 8 * k1 by omega]); clear own9 ownb t3 g7 o7 b7 z7; obtain ⟨c0, c1, c2, c3, c4, c5, c6⟩ := Box.cells (h := ⟨n0, n1, n2, n3, sI n5, dec l 30 k1, dec l (32 + 8 * k1) k2⟩) t4.h)
          | (go_at_call 71; with_reducible refine (headbytes' ⟨n0, n1, n2, n3, sI n5, dec l 30 k1, dec l (32 + 8 * k1) k2⟩ HOK.out A1 A2 k1 d1 k2 d2 _ own10.rd own11.rd (dec_len _ _ _).symm (dec_len _ _ _).symm).mono ?_; rintro e w8 ⟨⟨A8, c8, rfl, r8⟩, hb8⟩; have t5 := t4.step hb8; have own12 := own10.belowS hb8; have own13 := own11.belowS hb8; have bc := t5.s.bc; clear t4 own10 own11 hb8 c0 c1 c2 c3 c4 c5 c6)
          | (go_at_call 114; with_reducible refine (osame_any A8 A c8 c 4080 4080 (headB ⟨n0, n1, n2, n3, sI n5, dec l 30 k1, dec l (32 + 8 * k1) k2⟩) l _ r8 t5.s.rd HBL.out HN.out).mono ?_; rintro e w9 ⟨rfl, rfl⟩; obtain ⟨c0, c1, c2, c3, c4, c5, c6⟩ := Box.cells (h := ⟨n0, n1, n2, n3, sI n5, dec l 30 k1, dec l (32 + 8 * k1) k2⟩) t5.h)
          | (refine stV rfl 28 (.tmp 2) (.tmp 48) rfl rfl (w.heap.size + 1) 0 rfl 7 sz24 _ (.agg (hdV zeroH none none 0 0 0 0)) 28 t5.s.z rfl (by simp) rfl (by simp [Value.cells, Value.oneCell']) ?_; intro w10 g10 o10 b10 z10))
        have g11 : w10.heap[w.heap.size + 1]? = some (.cells (hdV zeroH none none 0 0 0 0) 28 (0, 0)) := by rw [g10]; congr 2
        go_wp2
        refine bodyPost_ret (ret_head rfl rfl g11 rfl) rfl ?_
        exact ⟨⟨_, by rw [HT.out]; rfl, by rw [HT.out]; exact HV.zero _⟩, t5.s.bl.trans (b10 _ (Nat.le_succ _))⟩
    · have ht : told l 16 64 = (zeroH, 260) := by unfold told; rw [HD.out, if_neg (fun q => hok q.1)]
      have HT := Lib.hid ht
      have HOK := Lib.hid hok
      have hk1 : k1 ≤ 140737488355328 := by omega
      have hk2 : k2 ≤ 140737488355328 := by omega
      clear hok ht
      go_wp2_with (first
        | (go_at_call 112; with_reducible refine (list' A c l w.heap.size (w.heap.size + 1 + 1) (w.heap.size + 1 + 1 + 1) 28 16 k1 16 rfl _ t0.s.s7 t0.s.lg hne3 lt0 lt3 w.heap.size (hr.below t0.s.bl) hax hl4 (by omega) (by omega) HK1.out).mono ?_; rintro e w4 ⟨⟨v1, rfl, own1⟩, ga, oa, ba⟩; rw [e28] at ga; have t1 := S9.at_ hr t0 ga oa ba; have own7 := own1.down (Nat.succ_le_of_lt t0.h.lt); clear own1 ga oa ba t0 lt0 lt3; obtain ⟨A1, d1, rfl, _, _, _⟩ := own7.sl (n := k1) (dec_len _ _ _))
        | (refine stV rfl 26 (.tmp 31) (.tmp 30) rfl rfl g 5 rfl 1 sz22 _ (.slice A1 k1 d1) 28 t1.h rfl (by simp) rfl (by simp [Value.cells, Value.oneCell']) ?_; intro w5 g5 o5 b5 z5; have t2 : S9 A c l w (30 + 8 * k1) g #[.int .i64 n0, .int .i64 n1, .int .i64 n2, .int .i64 n3, .int .i64 (sI n5), .slice A1 k1 d1, .slice none 0 0] w5 := S9.st hr t1 g5 o5 (b5 _ (Nat.le_of_lt hg)) z5; have own8 := own7.st o5; have lt0 : w.heap.size < w5.heap.size := (by have := t2.s.sz; omega); have lt3 : w.heap.size + 1 + 1 + 1 < w5.heap.size := (by have := t2.s.sz; omega); clear own7 t1 g5 o5 b5 z5)
        | (go_at_call 112; with_reducible refine (list' A c l w.heap.size (w.heap.size + 1 + 1) (w.heap.size + 1 + 1 + 1) (30 + 8 * k1) 64 k2 64 rfl _ t2.s.s7 t2.s.lg hne3 lt0 lt3 w.heap.size (hr.below t2.s.bl) hax hl4 (by omega) (by omega) HK2.out).mono ?_; rintro e w6 ⟨⟨v2, rfl, own2⟩, ga, oa, ba⟩; have t3 := S9.at_ hr t2 ga oa ba; have own9 := own8.blocks (w' := w6) fun j hj => oa j (own8.lt j hj) (by have := own8.blk j hj; omega); have ownb := own2.down (Nat.succ_le_of_lt t2.h.lt); clear own2 ga oa ba t2 own8 lt0 lt3; obtain ⟨A2, d2, rfl, _, _, _⟩ := ownb.sl (n := k2) (dec_len _ _ _))
        | (refine stV rfl 26 (.tmp 34) (.tmp 33) rfl rfl g 6 rfl 1 sz22 _ (.slice A2 k2 d2) 28 t3.h rfl (by simp) rfl (by simp [Value.cells, Value.oneCell']) ?_; intro w7 g7 o7 b7 z7; have t4 : S9 A c l w (30 + 8 * k1 + 2 + 8 * k2) g #[.int .i64 n0, .int .i64 n1, .int .i64 n2, .int .i64 n3, .int .i64 (sI n5), .slice A1 k1 d1, .slice A2 k2 d2] w7 := S9.st hr t3 g7 o7 (b7 _ (Nat.le_of_lt hg)) z7; have own10 : OwnI w7 (g + 1) (.slice A1 k1 d1) (dec l 30 k1) := own9.st o7; have own11 : OwnI w7 (g + 1) (.slice A2 k2 d2) (dec l (32 + 8 * k1) k2) := (ownb.st o7).cast (by rw [show 30 + 8 * k1 + 2 = 32 + 8 * k1 by omega]); clear own9 ownb t3 g7 o7 b7 z7; obtain ⟨c0, c1, c2, c3, c4, c5, c6⟩ := Box.cells (h := ⟨n0, n1, n2, n3, sI n5, dec l 30 k1, dec l (32 + 8 * k1) k2⟩) t4.h)
        | (go_at_call 71; with_reducible refine (headbytes_no ⟨n0, n1, n2, n3, sI n5, dec l 30 k1, dec l (32 + 8 * k1) k2⟩ HOK.out A1 A2 k1 d1 k2 d2 _ own10.rd own11.rd (dec_len _ _ _).symm (dec_len _ _ _).symm hk1 hk2).mono ?_; rintro e w8 ⟨rfl, hb8⟩; have t5 := t4.step hb8; have bc := t5.s.bc; clear t4 own10 own11 hb8 c0 c1 c2 c3 c4 c5 c6)
        | (refine stV rfl 28 (.tmp 2) (.tmp 48) rfl rfl (w.heap.size + 1) 0 rfl 7 sz24 _ (.agg (hdV zeroH none none 0 0 0 0)) 28 t5.s.z rfl (by simp) rfl (by simp [Value.cells, Value.oneCell']) ?_; intro w10 g10 o10 b10 z10))
      have g11 : w10.heap[w.heap.size + 1]? = some (.cells (hdV zeroH none none 0 0 0 0) 28 (0, 0)) := by rw [g10]; congr 2
      go_wp2
      refine bodyPost_ret (ret_head rfl rfl g11 rfl) rfl ?_
      exact ⟨⟨_, by rw [HT.out]; rfl, by rw [HT.out]; exact HV.zero _⟩, t5.s.bl.trans (b10 _ (Nat.le_succ _))⟩
  case reg =>
  go_region_held3 (fun w' => w'.cell? ⟨w.heap.size + 1 + 1 + 1, 0, none⟩ = some (fnL w.heap.size))
    -- ARMS
    (first | with_reducible exact s0.lg | with_reducible exact s1.lg | with_reducible exact s2.lg | with_reducible exact s3.lg | with_reducible exact s4.lg | with_reducible exact s5.lg | with_reducible exact t1.s.lg | with_reducible exact t2.s.lg | with_reducible exact t3.s.lg | with_reducible exact t4.s.lg | with_reducible exact t5.s.lg | with_reducible exact (S9.newd s00).s.lg | with_reducible exact (S9.new s1).s.lg | with_reducible exact (S9.new s2).s.lg | with_reducible exact (S9.new s3).s.lg | with_reducible exact (S9.new s4).s.lg | with_reducible exact (S9.new s5).s.lg | with_reducible exact (S9.put hr t5 _ _ _ _ _).s.lg | go_keep)
    (first
      | (go_at_call 109; with_reducible refine (word_any A c l w.heap.size (w.heap.size + 1 + 1) 4 _ s0.s7 hl4 (by omega)).mono ?_; rintro e W1 ⟨rfl, g1, o1, b1, z1⟩; rw [← HE0.out]; have s1 := S8.at_ hr s0 g1 (fun j _ h => o1 j h) (b1 _ (Nat.le_refl _)); clear g1 o1 b1 z1 s0)
      | (go_at_call 109; with_reducible refine (word_any A c l w.heap.size (w.heap.size + 1 + 1) 4 _ t0.s.s7 hl4 (by omega)).mono ?_; rintro e W1 ⟨rfl, g1, o1, b1, z1⟩; rw [← HE0.out]; have t1 := S9.at_ hr t0 g1 (fun j _ h => o1 j h) (b1 _ (Nat.le_refl _)); clear g1 o1 b1 z1 t0)
      | (go_at_call 109; with_reducible refine (word_any A c l w.heap.size (w.heap.size + 1 + 1) 4 _ (S9.newd s00).s.s7 hl4 (by omega)).mono ?_; rintro e W1 ⟨rfl, g1, o1, b1, z1⟩; rw [← HE0.out]; have t1 := S9.at_ hr (S9.newd s00) g1 (fun j _ h => o1 j h) (b1 _ (Nat.le_refl _)); clear g1 o1 b1 z1 s0 s00)
      | (go_at_call 109; with_reducible refine (word_any A c l w.heap.size (w.heap.size + 1 + 1) 8 _ s1.s7 hl4 (by omega)).mono ?_; rintro e W2 ⟨rfl, g1, o1, b1, z1⟩; rw [← HE1.out]; have s2 := S8.at_ hr s1 g1 (fun j _ h => o1 j h) (b1 _ (Nat.le_refl _)); clear g1 o1 b1 z1 s1)
      | (go_at_call 109; with_reducible refine (word_any A c l w.heap.size (w.heap.size + 1 + 1) 8 _ t1.s.s7 hl4 (by omega)).mono ?_; rintro e W2 ⟨rfl, g1, o1, b1, z1⟩; rw [← HE1.out]; have t2 := S9.at_ hr t1 g1 (fun j _ h => o1 j h) (b1 _ (Nat.le_refl _)); clear g1 o1 b1 z1 t1)
      | (go_at_call 109; with_reducible refine (word_any A c l w.heap.size (w.heap.size + 1 + 1) 8 _ (S9.new s1).s.s7 hl4 (by omega)).mono ?_; rintro e W2 ⟨rfl, g1, o1, b1, z1⟩; rw [← HE1.out]; have t2 := S9.at_ hr (S9.new s1) g1 (fun j _ h => o1 j h) (b1 _ (Nat.le_refl _)); clear g1 o1 b1 z1 s1 )
      | (go_at_call 109; with_reducible refine (word_any A c l w.heap.size (w.heap.size + 1 + 1) 12 _ s2.s7 hl4 (by omega)).mono ?_; rintro e W3 ⟨rfl, g1, o1, b1, z1⟩; rw [← HE2.out]; have s3 := S8.at_ hr s2 g1 (fun j _ h => o1 j h) (b1 _ (Nat.le_refl _)); clear g1 o1 b1 z1 s2)
      | (go_at_call 109; with_reducible refine (word_any A c l w.heap.size (w.heap.size + 1 + 1) 12 _ t2.s.s7 hl4 (by omega)).mono ?_; rintro e W3 ⟨rfl, g1, o1, b1, z1⟩; rw [← HE2.out]; have t3 := S9.at_ hr t2 g1 (fun j _ h => o1 j h) (b1 _ (Nat.le_refl _)); clear g1 o1 b1 z1 t2)
      | (go_at_call 109; with_reducible refine (word_any A c l w.heap.size (w.heap.size + 1 + 1) 12 _ (S9.new s2).s.s7 hl4 (by omega)).mono ?_; rintro e W3 ⟨rfl, g1, o1, b1, z1⟩; rw [← HE2.out]; have t3 := S9.at_ hr (S9.new s2) g1 (fun j _ h => o1 j h) (b1 _ (Nat.le_refl _)); clear g1 o1 b1 z1 s2 )
      | (go_at_call 109; with_reducible refine (word_any A c l w.heap.size (w.heap.size + 1 + 1) 16 _ s3.s7 hl4 (by omega)).mono ?_; rintro e W4 ⟨rfl, g1, o1, b1, z1⟩; rw [← HE3.out]; have s4 := S8.at_ hr s3 g1 (fun j _ h => o1 j h) (b1 _ (Nat.le_refl _)); clear g1 o1 b1 z1 s3)
      | (go_at_call 109; with_reducible refine (word_any A c l w.heap.size (w.heap.size + 1 + 1) 16 _ t3.s.s7 hl4 (by omega)).mono ?_; rintro e W4 ⟨rfl, g1, o1, b1, z1⟩; rw [← HE3.out]; have t4 := S9.at_ hr t3 g1 (fun j _ h => o1 j h) (b1 _ (Nat.le_refl _)); clear g1 o1 b1 z1 t3)
      | (go_at_call 109; with_reducible refine (word_any A c l w.heap.size (w.heap.size + 1 + 1) 16 _ (S9.new s3).s.s7 hl4 (by omega)).mono ?_; rintro e W4 ⟨rfl, g1, o1, b1, z1⟩; rw [← HE3.out]; have t4 := S9.at_ hr (S9.new s3) g1 (fun j _ h => o1 j h) (b1 _ (Nat.le_refl _)); clear g1 o1 b1 z1 s3 )
      | (go_at_call 111; with_reducible refine (long_any A c l w.heap.size (w.heap.size + 1 + 1) 20 _ s4.s7 hl4 (by omega)).mono ?_; rintro e W5 ⟨rfl, g1, o1, b1, z1⟩; rw [← HE5.out]; have s5 := S8.at_ hr s4 g1 (fun j _ h => o1 j h) (b1 _ (Nat.le_refl _)); clear g1 o1 b1 z1 s4)
      | (go_at_call 111; with_reducible refine (long_any A c l w.heap.size (w.heap.size + 1 + 1) 20 _ t4.s.s7 hl4 (by omega)).mono ?_; rintro e W5 ⟨rfl, g1, o1, b1, z1⟩; rw [← HE5.out]; have t5 := S9.at_ hr t4 g1 (fun j _ h => o1 j h) (b1 _ (Nat.le_refl _)); clear g1 o1 b1 z1 t4; obtain ⟨c0, c1, c2, c3, c4, c5, c6⟩ := t5.zc; have f0 := t5.fz 0; have f1 := t5.fz 1; have f2 := t5.fz 2; have f3 := t5.fz 3; have f4 := t5.fz 4; have f5 := t5.fz 5; have f6 := t5.fz 6)
      | (go_at_call 111; with_reducible refine (long_any A c l w.heap.size (w.heap.size + 1 + 1) 20 _ (S9.new s4).s.s7 hl4 (by omega)).mono ?_; rintro e W5 ⟨rfl, g1, o1, b1, z1⟩; rw [← HE5.out]; have t5 := S9.at_ hr (S9.new s4) g1 (fun j _ h => o1 j h) (b1 _ (Nat.le_refl _)); clear g1 o1 b1 z1 s4 ; obtain ⟨c0, c1, c2, c3, c4, c5, c6⟩ := t5.zc; have f0 := t5.fz 0; have f1 := t5.fz 1; have f2 := t5.fz 2; have f3 := t5.fz 3; have f4 := t5.fz 4; have f5 := t5.fz 5; have f6 := t5.fz 6))
    -- END ARMS
  all_goals first | exact ⟨rfl, _, rfl, S9.new s5⟩ | exact ⟨rfl, _, rfl, S9.put hr t5 _ _ _ _ _⟩
end Go.Proofs.YtecnddogdiikiaaGreat

