/-
  chanceryref15.HeadOf: what the call does.
-/
import Derived.Test.YtecnddogdiikiaaGreatF2
set_option linter.unusedVariables false
set_option linter.unusedSimpArgs false
namespace Go.Proofs.YtecnddogdiikiaaGreat
open Go Go.RowKit
set_option maxRecDepth 100000
set_option maxHeartbeats 1600000

/-- what stands while the numbers are read -/
structure S5 (A : Option Addr) (l : List UInt8) (w : World) (arr : Array Value) (wr : World) : Prop where
  rd : Rd wr wr.heap.size A l
  z : Box wr w.heap.size (hdV zeroH none none 0 0 0 0)
  ar : wr.heap[w.heap.size + 1]? = some (.cells arr 244 (0, 0))
  sz : w.heap.size + 2 ≤ wr.heap.size
  bl : Below w.heap.size w wr
theorem S5.st {A : Option Addr} {l : List UInt8} {w wr w' : World} {arr arr' : Array Value} (hA : Rd w w.heap.size A l) (s : S5 A l w arr wr) (h1 : w'.heap[w.heap.size + 1]? = some (.cells arr' 244 (0, 0))) (h2 : ∀ j, j ≠ w.heap.size + 1 → w'.heap[j]? = wr.heap[j]?) (h3 : Below w.heap.size wr w') (h4 : w'.heap.size = wr.heap.size) : S5 A l w arr' w' :=
  ⟨(hA.below (s.bl.trans h3)).more (by have := s.sz; omega), (h2 _ (by omega)).trans s.z, h1, by rw [h4]; exact s.sz, s.bl.trans h3⟩

/-- what stands while the head is made: its box is g -/
structure S6 (A : Option Addr) (l : List UInt8) (w : World) (g : Nat) (V : Array Value) (wr : World) : Prop where
  rd : Rd wr wr.heap.size A l
  z : Box wr w.heap.size (hdV zeroH none none 0 0 0 0)
  hd : Box wr g V
  lo : w.heap.size < g
  bl : Below w.heap.size w wr
theorem S6.step {A : Option Addr} {l : List UInt8} {w wr w' : World} {g : Nat} {V : Array Value} (s : S6 A l w g V wr) (hb : Below wr.heap.size wr w') : S6 A l w g V w' :=
  ⟨s.rd.belowS hb, s.z.below hb, s.hd.below hb, s.lo, s.bl.trans (hb.mono s.bl.size)⟩
theorem S6.st {A : Option Addr} {l : List UInt8} {w wr w' : World} {g : Nat} {V V' : Array Value} (hA : Rd w w.heap.size A l) (s : S6 A l w g V wr) (h1 : w'.heap[g]? = some (.cells V' 28 (0, 0))) (h2 : ∀ j, j ≠ g → w'.heap[j]? = wr.heap[j]?) (h3 : Below w.heap.size wr w') (h4 : w'.heap.size = wr.heap.size) : S6 A l w g V' w' :=
  ⟨(hA.below (s.bl.trans h3)).more (by have := s.bl.size; omega), (h2 _ (by have := s.lo; omega)).trans s.z, h1, s.lo, s.bl.trans h3⟩
theorem OwnI.st {w w' : World} {g : Nat} {v : Value} {x : List Int} (o : OwnI w (g + 1) v x) (h2 : ∀ j, j ≠ g → w'.heap[j]? = w.heap[j]?) : OwnI w' (g + 1) v x :=
  o.blocks fun k hk => h2 k (by have := o.blk k hk; omega)

theorem headB_len {h : Hd} (ok : OkH h) : (headB h).length = 4080 := by
  have h1 := ok.op1
  have h2 := ok.dd1
  unfold headB
  rw [List.length_append, List.length_replicate, head3_len]
  omega
theorem putL_full {C V : Array Value} (h : C.size = V.size) : Go.Ev.putL C (0 + 0) V.toList = V := by
  apply Array.ext'
  rw [putL_toList _ _ _ (by simp; omega)]
  simp; omega
theorem OwnI.rd {w : World} {base n c : Nat} {A : Option Addr} {x : List Int} (o : OwnI w base (.slice A n c) x) : RdI w w.heap.size A x := by
  obtain ⟨A', c', e, _, _, r⟩ := o.slice
  cases e
  exact r

theorem refof_any (A : Option Addr) (c n : Nat) (l : List UInt8) (w : World) (hr : Rd w w.heap.size A l) (hn : n = l.length) (hl4 : l.length = 4080) :
    Calls Tryz.prog 98 #[.slice A n c] w fun e w' => (∃ v, e = .returned (.tuple #[v, .int .i64 (told l 17 65).2]) ∧ HV w' (told l 17 65).1 v) ∧ Below w.heap.size w w' := by
  have HN := Lib.hid hn
  have hl : l.length ≤ 1000000 := by omega
  have hn4 : n = 4080 := by omega
  obtain ⟨n0, e0⟩ : ∃ n0 : Nat, n0 = leN (sub l 4 4) := ⟨_, rfl⟩
  obtain ⟨n1, e1⟩ : ∃ n1 : Nat, n1 = leN (sub l 8 4) := ⟨_, rfl⟩
  obtain ⟨n2, e2⟩ : ∃ n2 : Nat, n2 = leN (sub l 12 4) := ⟨_, rfl⟩
  obtain ⟨n3, e3⟩ : ∃ n3 : Nat, n3 = leN (sub l 16 4) := ⟨_, rfl⟩
  obtain ⟨n5, e5⟩ : ∃ n5 : Nat, n5 = leN (sub l 20 8) := ⟨_, rfl⟩
  obtain ⟨k1, ek1⟩ : ∃ k1 : Nat, k1 = min (leN (sub l 28 2)) 17 := ⟨_, rfl⟩
  obtain ⟨k2, ek2⟩ : ∃ k2 : Nat, k2 = min (leN (sub l (30 + 8 * k1) 2)) 65 := ⟨_, rfl⟩
  have b0 : n0 < 4294967296 := by rw [e0]; exact leN_sub_lt (l := l) (p := 4) (k := 4) (by omega)
  have b1 : n1 < 4294967296 := by rw [e1]; exact leN_sub_lt (l := l) (p := 8) (k := 4) (by omega)
  have b2 : n2 < 4294967296 := by rw [e2]; exact leN_sub_lt (l := l) (p := 12) (k := 4) (by omega)
  have b3 : n3 < 4294967296 := by rw [e3]; exact leN_sub_lt (l := l) (p := 16) (k := 4) (by omega)
  have b5 : n5 < 18446744073709551616 := by rw [e5]; exact leN_sub_lt (l := l) (p := 20) (k := 8) (by omega)
  have bk1 : k1 ≤ 17 := by omega
  have hdec : decH l 17 65 = ⟨n0, n1, n2, n3, sI n5, dec l 30 k1, dec l (32 + 8 * k1) k2⟩ := by
    rw [e0, e1, e2, e3, e5, ek2, ek1]; rfl
  have HD := Lib.hid hdec
  have HE0 := Lib.hid e0
  have HE1 := Lib.hid e1
  have HE2 := Lib.hid e2
  have HE3 := Lib.hid e3
  have HE5 := Lib.hid e5
  have HK1 := Lib.hid (show k1 = min (leN (sub l 28 2)) (16 + 1) from ek1)
  have HK2 := Lib.hid (show k2 = min (leN (sub l (30 + 8 * k1) 2)) (64 + 1) from ek2)
  have hsi : IntKind.i64.wrap (n5 : Int) = sI n5 := rfl
  clear hn hdec e0 e1 e2 e3 e5 ek1 ek2
  subst hn4
  go_enter Tryz.func98, Tryz.ntmps98
  go_wp2
  go_loopw [5] (fun i wr => (i = .int .i64 0 ∧ S5 A l w #[.int .i64 0, .int .i64 0, .int .i64 0, .int .i64 0] wr) ∨ (i = .int .i64 1 ∧ S5 A l w #[.int .i64 n0, .int .i64 0, .int .i64 0, .int .i64 0] wr) ∨ (i = .int .i64 2 ∧ S5 A l w #[.int .i64 n0, .int .i64 n1, .int .i64 0, .int .i64 0] wr) ∨ (i = .int .i64 3 ∧ S5 A l w #[.int .i64 n0, .int .i64 n1, .int .i64 n2, .int .i64 0] wr) ∨ (i = .int .i64 4 ∧ S5 A l w #[.int .i64 n0, .int .i64 n1, .int .i64 n2, .int .i64 n3] wr)) (fun i _ => 4 - (intOf i).toNat)
  case atStart =>
    have hb0 := ((Below.refl w.heap.size w).alloc (Nat.le_refl _) (.cells (hdV zeroH none none 0 0 0 0) 28)).alloc (by simp) (.cells #[.int .i64 0, .int .i64 0, .int .i64 0, .int .i64 0] 244)
    refine .inl ⟨rfl, (hr.below hb0).more (by simp; omega), (Box.new w _).alloc _, ?_, by simp, hb0⟩
    have e : (w.alloc (.cells (hdV zeroH none none 0 0 0 0) 28)).heap.size = w.heap.size + 1 := by simp
    show ((w.alloc (.cells (hdV zeroH none none 0 0 0 0) 28)).alloc _).heap[w.heap.size + 1]? = _
    rw [← e]
    exact heap_alloc_new _ _
  case round =>
    rcases hrel with ⟨rfl, s⟩ | ⟨rfl, s⟩ | ⟨rfl, s⟩ | ⟨rfl, s⟩ | ⟨rfl, s⟩
    · -- round 0
      have r := s.rd
      go_wp2_with (first
        | (go_at_call 165; with_reducible refine (refnum4' A c 4080 4 4 rfl l _ r HN.out hl (by omega)).mono ?_; rintro e w2 ⟨rfl, rfl⟩; rw [← HE0.out])
        | (refine stV rfl 3 (.tmp 34) (.tmp 33) rfl rfl (w.heap.size + 1) 0 rfl 1 sz3 _ (.int .i64 n0) 244 s.ar rfl (by simp) rfl (by simp [Value.cells, Value.oneCell']) ?_; intro w3 g3 o3 b3 z3))
      have s3 := S5.st hr s (by simpa [Value.cells] using g3) o3 (b3 _ (by omega)) z3
      clear s r g3 o3 b3 z3
      go_wp2
      go_roundw
      case rel => exact .inr (.inl ⟨by go_num, s3⟩)
      case measure => simp [intOf] <;> omega
    · -- round 1
      have r := s.rd
      go_wp2_with (first
        | (go_at_call 165; with_reducible refine (refnum4' A c 4080 8 8 rfl l _ r HN.out hl (by omega)).mono ?_; rintro e w2 ⟨rfl, rfl⟩; rw [← HE1.out])
        | (refine stV rfl 3 (.tmp 34) (.tmp 33) rfl rfl (w.heap.size + 1) 1 rfl 1 sz3 _ (.int .i64 n1) 244 s.ar rfl (by simp) rfl (by simp [Value.cells, Value.oneCell']) ?_; intro w3 g3 o3 b3 z3))
      have s3 := S5.st hr s (by simpa [Value.cells] using g3) o3 (b3 _ (by omega)) z3
      clear s r g3 o3 b3 z3
      go_wp2
      go_roundw
      case rel => exact .inr (.inr (.inl ⟨by go_num, s3⟩))
      case measure => simp [intOf] <;> omega
    · -- round 2
      have r := s.rd
      go_wp2_with (first
        | (go_at_call 165; with_reducible refine (refnum4' A c 4080 12 12 rfl l _ r HN.out hl (by omega)).mono ?_; rintro e w2 ⟨rfl, rfl⟩; rw [← HE2.out])
        | (refine stV rfl 3 (.tmp 34) (.tmp 33) rfl rfl (w.heap.size + 1) 2 rfl 1 sz3 _ (.int .i64 n2) 244 s.ar rfl (by simp) rfl (by simp [Value.cells, Value.oneCell']) ?_; intro w3 g3 o3 b3 z3))
      have s3 := S5.st hr s (by simpa [Value.cells] using g3) o3 (b3 _ (by omega)) z3
      clear s r g3 o3 b3 z3
      go_wp2
      go_roundw
      case rel => exact .inr (.inr (.inr (.inl ⟨by go_num, s3⟩)))
      case measure => simp [intOf] <;> omega
    · -- round 3
      have r := s.rd
      go_wp2_with (first
        | (go_at_call 165; with_reducible refine (refnum4' A c 4080 16 16 rfl l _ r HN.out hl (by omega)).mono ?_; rintro e w2 ⟨rfl, rfl⟩; rw [← HE3.out])
        | (refine stV rfl 3 (.tmp 34) (.tmp 33) rfl rfl (w.heap.size + 1) 3 rfl 1 sz3 _ (.int .i64 n3) 244 s.ar rfl (by simp) rfl (by simp [Value.cells, Value.oneCell']) ?_; intro w3 g3 o3 b3 z3))
      have s3 := S5.st hr s (by simpa [Value.cells] using g3) o3 (b3 _ (by omega)) z3
      clear s r g3 o3 b3 z3
      go_wp2
      go_roundw
      case rel => exact .inr (.inr (.inr (.inr (⟨by go_num, s3⟩))))
      case measure => simp [intOf] <;> omega
    · have r := s.rd
      have c0 := cell_of_row wr (w.heap.size + 1) 0 _ 244 (0, 0) s.ar
      have c1 := cell_of_row wr (w.heap.size + 1) 1 _ 244 (0, 0) s.ar
      have c2 := cell_of_row wr (w.heap.size + 1) 2 _ 244 (0, 0) s.ar
      have c3 := cell_of_row wr (w.heap.size + 1) 3 _ 244 (0, 0) s.ar
      have hz := s.sz
      have hlz : w.heap.size + 1 < wr.heap.size := by omega
      simp only [List.getElem?_toArray, List.getElem?_cons_zero, List.getElem?_cons_succ] at c0 c1 c2 c3
      by_cases hok : OkH ⟨n0, n1, n2, n3, sI n5, dec l 30 k1, dec l (32 + 8 * k1) k2⟩
      · have HBL := Lib.hid (headB_len hok).symm
        by_cases heq : headB ⟨n0, n1, n2, n3, sI n5, dec l 30 k1, dec l (32 + 8 * k1) k2⟩ = l
        · have ht : told l 17 65 = (⟨n0, n1, n2, n3, sI n5, dec l 30 k1, dec l (32 + 8 * k1) k2⟩, 0) := by unfold told; rw [HD.out, if_pos ⟨hok, heq⟩]
          have hd : decide (headB ⟨n0, n1, n2, n3, sI n5, dec l 30 k1, dec l (32 + 8 * k1) k2⟩ = l) = true := by simp [heq]
          have HT := Lib.hid ht
          have HOK := Lib.hid hok
          clear hok ht heq
          go_wp2_with (first
        | (go_at_call 165; with_reducible refine (refnum8' A c 4080 20 20 rfl l _ r HN.out hl (by omega)).mono ?_; rintro e w2 ⟨rfl, rfl⟩; rw [← HE5.out]; have s6 : S6 A l w w2.heap.size #[.int .i64 n0, .int .i64 n1, .int .i64 n2, .int .i64 n3, .int .i64 (sI n5), .slice none 0 0, .slice none 0 0] (w2.alloc (.cells #[.int .i64 n0, .int .i64 n1, .int .i64 n2, .int .i64 n3, .int .i64 (sI n5), .slice none 0 0, .slice none 0 0] 28)) := ⟨(hr.below (s.bl.alloc s.bl.size _)).more (by have := s.bl.size; simp; omega), s.z.alloc _, Box.new _ _, by omega, s.bl.alloc s.bl.size _⟩; have hz3 : w2.heap.size + 1 ≤ (w2.alloc (.cells #[.int .i64 n0, .int .i64 n1, .int .i64 n2, .int .i64 n3, .int .i64 (sI n5), .slice none 0 0, .slice none 0 0] 28)).heap.size := by simp)
        | (go_at_call 166; with_reducible refine (some' A c 4080 28 16 28 16 rfl rfl l _ s6.rd HN.out hl (by omega) k1 HK1.out).mono ?_; rintro e w4 ⟨⟨v1, rfl, own1⟩, hb4⟩; have s7 := s6.step hb4; have own7 := own1.down hz3; have hz4 := Nat.le_trans hz3 hb4.size; clear own1 hb4 hz3 s6; obtain ⟨A1, d1, rfl, _, _, _⟩ := own7.sl (n := k1) (dec_len _ _ _))
        | (refine stV rfl 26 (.tmp 57) (.tmp 56) rfl rfl w2.heap.size 5 rfl 1 sz22 _ (.slice A1 k1 d1) 28 s7.hd rfl (by simp) rfl (by simp [Value.cells, Value.oneCell']) ?_; intro w5 g5 o5 b5 z5; have s8 : S6 A l w w2.heap.size #[.int .i64 n0, .int .i64 n1, .int .i64 n2, .int .i64 n3, .int .i64 (sI n5), .slice A1 k1 d1, .slice none 0 0] w5 := S6.st hr s7 g5 o5 (b5 _ (Nat.le_of_lt s7.lo)) z5; have own8 := own7.st o5; have hz5 : w2.heap.size + 1 ≤ w5.heap.size := Nat.le_trans hz4 (Nat.le_of_eq z5.symm); clear own7 s7 g5 o5 b5 z5 hz4)
        | (go_at_call 166; with_reducible refine (some' A c 4080 _ 64 (30 + 8 * k1) 64 (by omega) rfl l _ s8.rd HN.out hl (by omega) k2 HK2.out).mono ?_; rintro e w6 ⟨⟨v2, rfl, own2⟩, hb6⟩; have s9 := s8.step hb6; have own9 := own8.belowS hb6; have ownb := own2.down hz5; clear own2 hb6 hz5 s8 own8; obtain ⟨A2, d2, rfl, _, _, _⟩ := ownb.sl (n := k2) (dec_len _ _ _))
        | (refine stV rfl 26 (.tmp 64) (.tmp 62) rfl rfl w2.heap.size 6 rfl 1 sz22 _ (.slice A2 k2 d2) 28 s9.hd rfl (by simp) rfl (by simp [Value.cells, Value.oneCell']) ?_; intro w7 g7 o7 b7 z7; have s10 : S6 A l w w2.heap.size #[.int .i64 n0, .int .i64 n1, .int .i64 n2, .int .i64 n3, .int .i64 (sI n5), .slice A1 k1 d1, .slice A2 k2 d2] w7 := S6.st hr s9 g7 o7 (b7 _ (Nat.le_of_lt s9.lo)) z7; have own10 : OwnI w7 (w2.heap.size + 1) (.slice A1 k1 d1) (dec l 30 k1) := own9.st o7; have own11 : OwnI w7 (w2.heap.size + 1) (.slice A2 k2 d2) (dec l (32 + 8 * k1) k2) := (ownb.st o7).cast (by rw [show 30 + 8 * k1 + 2 = 32 + 8 * k1 by omega]); clear own9 ownb s9 g7 o7 b7 z7; obtain ⟨c0, c1, c2, c3, c4, c5, c6⟩ := Box.cells (h := ⟨n0, n1, n2, n3, sI n5, dec l 30 k1, dec l (32 + 8 * k1) k2⟩) s10.hd)
          | (go_at_call 106; with_reducible refine (refbytes_ok ⟨n0, n1, n2, n3, sI n5, dec l 30 k1, dec l (32 + 8 * k1) k2⟩ HOK.out A1 A2 k1 d1 k2 d2 _ own10.rd own11.rd (dec_len _ _ _).symm (dec_len _ _ _).symm).mono ?_; rintro e w8 ⟨⟨A8, c8, rfl, r8⟩, hb8⟩; have s11 := s10.step hb8; have own12 := own10.belowS hb8; have own13 := own11.belowS hb8; clear s10 own10 own11 hb8 c0 c1 c2 c3 c4 c5 c6)
          | (go_at_call 56; with_reducible refine (same_any A8 A c8 c 4080 4080 (headB ⟨n0, n1, n2, n3, sI n5, dec l 30 k1, dec l (32 + 8 * k1) k2⟩) l w8 r8 s11.rd HBL.out HN.out).mono ?_; rintro e w9 ⟨rfl, rfl⟩; obtain ⟨c0, c1, c2, c3, c4, c5, c6⟩ := Box.cells (h := ⟨n0, n1, n2, n3, sI n5, dec l 30 k1, dec l (32 + 8 * k1) k2⟩) s11.hd)
          | (refine stV rfl 28 (.tmp 2) (.tmp 79) rfl rfl w.heap.size 0 rfl 7 sz24 _ (.agg #[.int .i64 n0, .int .i64 n1, .int .i64 n2, .int .i64 n3, .int .i64 (sI n5), .slice A1 k1 d1, .slice A2 k2 d2]) 28 s11.z rfl (by simp) rfl (by simp [Value.cells, Value.oneCell']) ?_; intro w10 g10 o10 b10 z10))
          have g11 : w10.heap[w.heap.size]? = some (.cells #[.int .i64 n0, .int .i64 n1, .int .i64 n2, .int .i64 n3, .int .i64 (sI n5), .slice A1 k1 d1, .slice A2 k2 d2] 28 (0, 0)) := by rw [g10]; congr 2
          have own14 := own12.blocks (w' := w10) fun k hk => o10 k (by have := own12.blk k hk; have := s11.lo; omega)
          have own15 := own13.blocks (w' := w10) fun k hk => o10 k (by have := own13.blk k hk; have := s11.lo; omega)
          go_wp2
          refine bodyPost_ret (ret_head rfl rfl g11 rfl) rfl ?_
          exact ⟨⟨_, by rw [HT.out]; rfl, by rw [HT.out]; exact ⟨A1, A2, k1, d1, k2, d2, rfl, own14.rd, own15.rd, (dec_len _ _ _).symm, (dec_len _ _ _).symm⟩⟩, s11.bl.trans (b10 _ (Nat.le_refl _))⟩
        · have ht : told l 17 65 = (zeroH, 260) := by unfold told; rw [HD.out, if_neg (fun q => heq q.2)]
          have hd : decide (headB ⟨n0, n1, n2, n3, sI n5, dec l 30 k1, dec l (32 + 8 * k1) k2⟩ = l) = false := by simp [heq]
          have HT := Lib.hid ht
          have HOK := Lib.hid hok
          clear hok ht heq
          go_wp2_with (first
        | (go_at_call 165; with_reducible refine (refnum8' A c 4080 20 20 rfl l _ r HN.out hl (by omega)).mono ?_; rintro e w2 ⟨rfl, rfl⟩; rw [← HE5.out]; have s6 : S6 A l w w2.heap.size #[.int .i64 n0, .int .i64 n1, .int .i64 n2, .int .i64 n3, .int .i64 (sI n5), .slice none 0 0, .slice none 0 0] (w2.alloc (.cells #[.int .i64 n0, .int .i64 n1, .int .i64 n2, .int .i64 n3, .int .i64 (sI n5), .slice none 0 0, .slice none 0 0] 28)) := ⟨(hr.below (s.bl.alloc s.bl.size _)).more (by have := s.bl.size; simp; omega), s.z.alloc _, Box.new _ _, by omega, s.bl.alloc s.bl.size _⟩; have hz3 : w2.heap.size + 1 ≤ (w2.alloc (.cells #[.int .i64 n0, .int .i64 n1, .int .i64 n2, .int .i64 n3, .int .i64 (sI n5), .slice none 0 0, .slice none 0 0] 28)).heap.size := by simp)
        | (go_at_call 166; with_reducible refine (some' A c 4080 28 16 28 16 rfl rfl l _ s6.rd HN.out hl (by omega) k1 HK1.out).mono ?_; rintro e w4 ⟨⟨v1, rfl, own1⟩, hb4⟩; have s7 := s6.step hb4; have own7 := own1.down hz3; have hz4 := Nat.le_trans hz3 hb4.size; clear own1 hb4 hz3 s6; obtain ⟨A1, d1, rfl, _, _, _⟩ := own7.sl (n := k1) (dec_len _ _ _))
        | (refine stV rfl 26 (.tmp 57) (.tmp 56) rfl rfl w2.heap.size 5 rfl 1 sz22 _ (.slice A1 k1 d1) 28 s7.hd rfl (by simp) rfl (by simp [Value.cells, Value.oneCell']) ?_; intro w5 g5 o5 b5 z5; have s8 : S6 A l w w2.heap.size #[.int .i64 n0, .int .i64 n1, .int .i64 n2, .int .i64 n3, .int .i64 (sI n5), .slice A1 k1 d1, .slice none 0 0] w5 := S6.st hr s7 g5 o5 (b5 _ (Nat.le_of_lt s7.lo)) z5; have own8 := own7.st o5; have hz5 : w2.heap.size + 1 ≤ w5.heap.size := Nat.le_trans hz4 (Nat.le_of_eq z5.symm); clear own7 s7 g5 o5 b5 z5 hz4)
        | (go_at_call 166; with_reducible refine (some' A c 4080 _ 64 (30 + 8 * k1) 64 (by omega) rfl l _ s8.rd HN.out hl (by omega) k2 HK2.out).mono ?_; rintro e w6 ⟨⟨v2, rfl, own2⟩, hb6⟩; have s9 := s8.step hb6; have own9 := own8.belowS hb6; have ownb := own2.down hz5; clear own2 hb6 hz5 s8 own8; obtain ⟨A2, d2, rfl, _, _, _⟩ := ownb.sl (n := k2) (dec_len _ _ _))
        | (refine stV rfl 26 (.tmp 64) (.tmp 62) rfl rfl w2.heap.size 6 rfl 1 sz22 _ (.slice A2 k2 d2) 28 s9.hd rfl (by simp) rfl (by simp [Value.cells, Value.oneCell']) ?_; intro w7 g7 o7 b7 z7; have s10 : S6 A l w w2.heap.size #[.int .i64 n0, .int .i64 n1, .int .i64 n2, .int .i64 n3, .int .i64 (sI n5), .slice A1 k1 d1, .slice A2 k2 d2] w7 := S6.st hr s9 g7 o7 (b7 _ (Nat.le_of_lt s9.lo)) z7; have own10 : OwnI w7 (w2.heap.size + 1) (.slice A1 k1 d1) (dec l 30 k1) := own9.st o7; have own11 : OwnI w7 (w2.heap.size + 1) (.slice A2 k2 d2) (dec l (32 + 8 * k1) k2) := (ownb.st o7).cast (by rw [show 30 + 8 * k1 + 2 = 32 + 8 * k1 by omega]); clear own9 ownb s9 g7 o7 b7 z7; obtain ⟨c0, c1, c2, c3, c4, c5, c6⟩ := Box.cells (h := ⟨n0, n1, n2, n3, sI n5, dec l 30 k1, dec l (32 + 8 * k1) k2⟩) s10.hd)
          | (go_at_call 106; with_reducible refine (refbytes_ok ⟨n0, n1, n2, n3, sI n5, dec l 30 k1, dec l (32 + 8 * k1) k2⟩ HOK.out A1 A2 k1 d1 k2 d2 _ own10.rd own11.rd (dec_len _ _ _).symm (dec_len _ _ _).symm).mono ?_; rintro e w8 ⟨⟨A8, c8, rfl, r8⟩, hb8⟩; have s11 := s10.step hb8; have own12 := own10.belowS hb8; have own13 := own11.belowS hb8; clear s10 own10 own11 hb8 c0 c1 c2 c3 c4 c5 c6)
          | (go_at_call 56; with_reducible refine (same_any A8 A c8 c 4080 4080 (headB ⟨n0, n1, n2, n3, sI n5, dec l 30 k1, dec l (32 + 8 * k1) k2⟩) l w8 r8 s11.rd HBL.out HN.out).mono ?_; rintro e w9 ⟨rfl, rfl⟩; obtain ⟨c0, c1, c2, c3, c4, c5, c6⟩ := Box.cells (h := ⟨n0, n1, n2, n3, sI n5, dec l 30 k1, dec l (32 + 8 * k1) k2⟩) s11.hd)
          | (refine stV rfl 28 (.tmp 2) (.tmp 78) rfl rfl w.heap.size 0 rfl 7 sz24 _ (.agg (hdV zeroH none none 0 0 0 0)) 28 s11.z rfl (by simp) rfl (by simp [Value.cells, Value.oneCell']) ?_; intro w10 g10 o10 b10 z10))
          have g11 : w10.heap[w.heap.size]? = some (.cells (hdV zeroH none none 0 0 0 0) 28 (0, 0)) := by rw [g10]; congr 2
          go_wp2
          refine bodyPost_ret (ret_head rfl rfl g11 rfl) rfl ?_
          exact ⟨⟨_, by rw [HT.out]; rfl, by rw [HT.out]; exact HV.zero _⟩, s11.bl.trans (b10 _ (Nat.le_refl _))⟩
      · have ht : told l 17 65 = (zeroH, 260) := by unfold told; rw [HD.out, if_neg (fun q => hok q.1)]
        have HT := Lib.hid ht
        have HOK := Lib.hid hok
        have hk1 : k1 ≤ 140737488355328 := by omega
        have hk2 : k2 ≤ 140737488355328 := by have := HK2.out; omega
        clear hok ht
        go_wp2_with (first
        | (go_at_call 165; with_reducible refine (refnum8' A c 4080 20 20 rfl l _ r HN.out hl (by omega)).mono ?_; rintro e w2 ⟨rfl, rfl⟩; rw [← HE5.out]; have s6 : S6 A l w w2.heap.size #[.int .i64 n0, .int .i64 n1, .int .i64 n2, .int .i64 n3, .int .i64 (sI n5), .slice none 0 0, .slice none 0 0] (w2.alloc (.cells #[.int .i64 n0, .int .i64 n1, .int .i64 n2, .int .i64 n3, .int .i64 (sI n5), .slice none 0 0, .slice none 0 0] 28)) := ⟨(hr.below (s.bl.alloc s.bl.size _)).more (by have := s.bl.size; simp; omega), s.z.alloc _, Box.new _ _, by omega, s.bl.alloc s.bl.size _⟩; have hz3 : w2.heap.size + 1 ≤ (w2.alloc (.cells #[.int .i64 n0, .int .i64 n1, .int .i64 n2, .int .i64 n3, .int .i64 (sI n5), .slice none 0 0, .slice none 0 0] 28)).heap.size := by simp)
        | (go_at_call 166; with_reducible refine (some' A c 4080 28 16 28 16 rfl rfl l _ s6.rd HN.out hl (by omega) k1 HK1.out).mono ?_; rintro e w4 ⟨⟨v1, rfl, own1⟩, hb4⟩; have s7 := s6.step hb4; have own7 := own1.down hz3; have hz4 := Nat.le_trans hz3 hb4.size; clear own1 hb4 hz3 s6; obtain ⟨A1, d1, rfl, _, _, _⟩ := own7.sl (n := k1) (dec_len _ _ _))
        | (refine stV rfl 26 (.tmp 57) (.tmp 56) rfl rfl w2.heap.size 5 rfl 1 sz22 _ (.slice A1 k1 d1) 28 s7.hd rfl (by simp) rfl (by simp [Value.cells, Value.oneCell']) ?_; intro w5 g5 o5 b5 z5; have s8 : S6 A l w w2.heap.size #[.int .i64 n0, .int .i64 n1, .int .i64 n2, .int .i64 n3, .int .i64 (sI n5), .slice A1 k1 d1, .slice none 0 0] w5 := S6.st hr s7 g5 o5 (b5 _ (Nat.le_of_lt s7.lo)) z5; have own8 := own7.st o5; have hz5 : w2.heap.size + 1 ≤ w5.heap.size := Nat.le_trans hz4 (Nat.le_of_eq z5.symm); clear own7 s7 g5 o5 b5 z5 hz4)
        | (go_at_call 166; with_reducible refine (some' A c 4080 _ 64 (30 + 8 * k1) 64 (by omega) rfl l _ s8.rd HN.out hl (by omega) k2 HK2.out).mono ?_; rintro e w6 ⟨⟨v2, rfl, own2⟩, hb6⟩; have s9 := s8.step hb6; have own9 := own8.belowS hb6; have ownb := own2.down hz5; clear own2 hb6 hz5 s8 own8; obtain ⟨A2, d2, rfl, _, _, _⟩ := ownb.sl (n := k2) (dec_len _ _ _))
        | (refine stV rfl 26 (.tmp 64) (.tmp 62) rfl rfl w2.heap.size 6 rfl 1 sz22 _ (.slice A2 k2 d2) 28 s9.hd rfl (by simp) rfl (by simp [Value.cells, Value.oneCell']) ?_; intro w7 g7 o7 b7 z7; have s10 : S6 A l w w2.heap.size #[.int .i64 n0, .int .i64 n1, .int .i64 n2, .int .i64 n3, .int .i64 (sI n5), .slice A1 k1 d1, .slice A2 k2 d2] w7 := S6.st hr s9 g7 o7 (b7 _ (Nat.le_of_lt s9.lo)) z7; have own10 : OwnI w7 (w2.heap.size + 1) (.slice A1 k1 d1) (dec l 30 k1) := own9.st o7; have own11 : OwnI w7 (w2.heap.size + 1) (.slice A2 k2 d2) (dec l (32 + 8 * k1) k2) := (ownb.st o7).cast (by rw [show 30 + 8 * k1 + 2 = 32 + 8 * k1 by omega]); clear own9 ownb s9 g7 o7 b7 z7; obtain ⟨c0, c1, c2, c3, c4, c5, c6⟩ := Box.cells (h := ⟨n0, n1, n2, n3, sI n5, dec l 30 k1, dec l (32 + 8 * k1) k2⟩) s10.hd)
          | (go_at_call 106; with_reducible refine (refbytes_no ⟨n0, n1, n2, n3, sI n5, dec l 30 k1, dec l (32 + 8 * k1) k2⟩ HOK.out A1 A2 k1 d1 k2 d2 _ own10.rd own11.rd (dec_len _ _ _).symm (dec_len _ _ _).symm hk1 hk2).mono ?_; rintro e w8 ⟨rfl, hb8⟩; have s11 := s10.step hb8; clear s10 own10 own11 hb8 c0 c1 c2 c3 c4 c5 c6)
          | (refine stV rfl 28 (.tmp 2) (.tmp 78) rfl rfl w.heap.size 0 rfl 7 sz24 _ (.agg (hdV zeroH none none 0 0 0 0)) 28 s11.z rfl (by simp) rfl (by simp [Value.cells, Value.oneCell']) ?_; intro w10 g10 o10 b10 z10))
        have g11 : w10.heap[w.heap.size]? = some (.cells (hdV zeroH none none 0 0 0 0) 28 (0, 0)) := by rw [g10]; congr 2
        go_wp2
        refine bodyPost_ret (ret_head rfl rfl g11 rfl) rfl ?_
        exact ⟨⟨_, by rw [HT.out]; rfl, by rw [HT.out]; exact HV.zero _⟩, s11.bl.trans (b10 _ (Nat.le_refl _))⟩

end Go.Proofs.YtecnddogdiikiaaGreat

