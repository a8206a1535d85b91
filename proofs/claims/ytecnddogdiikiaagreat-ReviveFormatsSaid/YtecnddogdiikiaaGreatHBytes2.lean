/-
  chanceryref15.HeadBytes: what the call does.
-/
import Derived.Test.YtecnddogdiikiaaGreatHZer
import Derived.Test.YtecnddogdiikiaaGreatHRight2
import Derived.Lib.AppendZeros
set_option linter.unusedVariables false
set_option linter.unusedSimpArgs false
namespace Go.Proofs.YtecnddogdiikiaaGreat
open Go Go.RowKit
set_option maxRecDepth 100000
set_option maxHeartbeats 1600000

theorem refright_ok (h : Hd) (hok : OkH h) (A B : Option Addr) (n c m d : Nat) (w : World) (hA : RdI w w.heap.size A h.op) (hB : RdI w w.heap.size B h.dd) (hn : n = h.op.length) (hm : m = h.dd.length) :
    Calls Tryz.prog 171 #[.agg (hdV h A B n c m d)] w fun e w' => e = .returned (.bool true) ∧ Below w.heap.size w w' := by
  refine (refright_any h A B n c m d w hA hB hn hm (by have := hok.op1; omega) (by have := hok.dd1; omega)).mono ?_
  rintro e w' ⟨rfl, hb⟩
  exact ⟨by rw [okB_true hok], hb⟩

theorem refadd2 (A : Option Addr) (c n v : Nat) (l : List UInt8) (w : World) (hr : Rd w w.heap.size A l) (hn : n = l.length) (hl : l.length ≤ 1000000) (hv : v ≤ 18446744073709551615) :
    Calls Tryz.prog 101 #[.slice A n c, .int .u64 v, .int .i64 2] w fun e w' => ∃ u, e = .returned u ∧ Own w' w.heap.size u (l ++ le 2 v) ∧ Below w.heap.size w w' := refadd_any A c n v 2 l w hr hn hl hv (by omega)
theorem refadd4 (A : Option Addr) (c n v : Nat) (l : List UInt8) (w : World) (hr : Rd w w.heap.size A l) (hn : n = l.length) (hl : l.length ≤ 1000000) (hv : v ≤ 18446744073709551615) :
    Calls Tryz.prog 101 #[.slice A n c, .int .u64 v, .int .i64 4] w fun e w' => ∃ u, e = .returned u ∧ Own w' w.heap.size u (l ++ le 4 v) ∧ Below w.heap.size w w' := refadd_any A c n v 4 l w hr hn hl hv (by omega)
theorem refadd8 (A : Option Addr) (c n v : Nat) (l : List UInt8) (w : World) (hr : Rd w w.heap.size A l) (hn : n = l.length) (hl : l.length ≤ 1000000) (hv : v ≤ 18446744073709551615) :
    Calls Tryz.prog 101 #[.slice A n c, .int .u64 v, .int .i64 8] w fun e w' => ∃ u, e = .returned u ∧ Own w' w.heap.size u (l ++ le 8 v) ∧ Below w.heap.size w w' := refadd_any A c n v 8 l w hr hn hl hv (by omega)

/-- what stands while the bytes are written -/
structure S3 (h : Hd) (A B : Option Addr) (n c m d : Nat) (w : World) (l : List UInt8) (v : Value) (wr : World) : Prop where
  own : Own wr w.heap.size v l
  box : Box wr w.heap.size (hdV h A B n c m d)
  a : RdI wr wr.heap.size A h.op
  b : RdI wr wr.heap.size B h.dd
  bl : Below w.heap.size w wr
section
variable {h : Hd} {A B : Option Addr} {n c m d : Nat} {w : World} {l l' : List UInt8} {v v' : Value} {wr w' : World}
theorem S3.step (s : S3 h A B n c m d w l v wr) (hb : Below wr.heap.size wr w') (ho : Own w' wr.heap.size v' l') : S3 h A B n c m d w l' v' w' :=
  ⟨ho.down s.bl.size, s.box.below hb, s.a.belowS hb, s.b.belowS hb, s.bl.trans (hb.mono s.bl.size)⟩
theorem S3.cells {N1 N2 N3 N4 N5 : Nat} {op dd : List Int} (s : S3 ⟨N1, N2, N3, N4, N5, op, dd⟩ A B n c m d w l v wr) : wr.cell? ⟨w.heap.size, 0, none⟩ = some (.int .i64 N1) ∧ wr.cell? ⟨w.heap.size, 1, none⟩ = some (.int .i64 N2) ∧ wr.cell? ⟨w.heap.size, 2, none⟩ = some (.int .i64 N3) ∧
    wr.cell? ⟨w.heap.size, 3, none⟩ = some (.int .i64 N4) ∧ wr.cell? ⟨w.heap.size, 4, none⟩ = some (.int .i64 N5) ∧ wr.cell? ⟨w.heap.size, 5, none⟩ = some (.slice A n c) ∧ wr.cell? ⟨w.heap.size, 6, none⟩ = some (.slice B m d) := s.box.cells
theorem S3.cast {l2 : List UInt8} (s : S3 h A B n c m d w l v wr) (e : l = l2) : S3 h A B n c m d w l2 v wr := by subst e; exact s
end

theorem head1_cat (N1 N2 N3 N4 N5 : Nat) (op dd : List Int) : head1 ⟨N1, N2, N3, N4, N5, op, dd⟩ = magic ++ le 4 N1 ++ le 4 N2 ++ le 4 N3 ++ le 4 N4 ++ le 8 N5 := by
  simp [head1, four, flat]

theorem refbytes_nat (N1 N2 N3 N4 N5 : Nat) (op dd : List Int) (hok : OkH ⟨N1, N2, N3, N4, N5, op, dd⟩) (A B : Option Addr) (n c m d : Nat) (w : World) (hA : RdI w w.heap.size A op) (hB : RdI w w.heap.size B dd) (hn : n = op.length) (hm : m = dd.length) :
    Calls Tryz.prog 106 #[.agg (hdV ⟨N1, N2, N3, N4, N5, op, dd⟩ A B n c m d)] w fun e w' => (∃ A' c', e = .returned (.tuple #[.slice A' 4080 c', .int .i64 0]) ∧ Rd w' w'.heap.size A' (headB ⟨N1, N2, N3, N4, N5, op, dd⟩)) ∧ Below w.heap.size w w' := by
  have HN := Lib.hid hn
  have HM := Lib.hid hm
  have OK := Lib.hid hok
  have hb1 : Below w.heap.size w (w.alloc (.cells (hdV ⟨N1, N2, N3, N4, N5, op, dd⟩ A B n c m d) 28)) := (Below.refl _ _).alloc (Nat.le_refl _) _
  have hA1 := hA.belowS hb1
  have hB1 := hB.belowS hb1
  have k1 : N1 ≤ 1024 := by have := hok.lg2; simp at this; omega
  have k2 : N2 ≤ 4294967295 := by have := hok.ep2; simp at this; omega
  have k3 : N3 ≤ 1024 := by have := hok.lg2; have := hok.fr2; simp at *; omega
  have k4 : N4 ≤ 4294967295 := by have := hok.ct2; simp at this; omega
  have k5 : N5 ≤ 4611686018427387904 := by have := hok.nx2; simp at this; omega
  have kn : n ≤ 16 := by have := hok.op1; simp at this; omega
  have km : m ≤ 64 := by have := hok.dd1; simp at this; omega
  clear hn hm hok
  go_enter Tryz.func106, Tryz.ntmps106
  go_wp2_with (first
    | (go_at_call 171; with_reducible refine (refright_ok ⟨N1, N2, N3, N4, N5, op, dd⟩ OK.out A B n c m d _ hA1 hB1 HN.out HM.out).mono ?_; rintro e x0 ⟨rfl, hb2⟩; have hbx := (Box.new w (hdV ⟨N1, N2, N3, N4, N5, op, dd⟩ A B n c m d)).below hb2; have z0 := hbx.lt; have hb3 := (Below.refl x0.heap.size x0).alloc (Nat.le_refl _) (.cells #[.int .u8 67, .int .u8 72, .int .u8 78, .int .u8 49] 5); have s0 : S3 ⟨N1, N2, N3, N4, N5, op, dd⟩ A B n c m d w magic (.slice (some ⟨x0.heap.size, 0, none⟩) 4 4) (x0.alloc (.cells #[.int .u8 67, .int .u8 72, .int .u8 78, .int .u8 49] 5)) := ⟨Own.of_full (heap_alloc_new x0 _) (hb1.trans (hb2.mono hb1.size)).size rfl (by simp [maxLen]), hbx.alloc _, (hA1.belowS hb2).belowS hb3, (hB1.belowS hb2).belowS hb3, (hb1.trans (hb2.mono hb1.size)).trans (hb3.mono (hb1.trans (hb2.mono hb1.size)).size)⟩; obtain ⟨A0, c0, e0, _, _, r0⟩ := s0.own.sl (n := 4) rfl; cases e0; obtain ⟨d0, d1, d2, d3, d4, d5, d6⟩ := s0.cells; have z1 := s0.box.lt)
    | (go_at_call 101; with_reducible refine (refadd4 _ _ 4 N1 (magic) _ r0 (by simp [magic, le_len]) (by simp [magic, le_len]) (by omega)).mono ?_; rintro e x1 ⟨u1, rfl, o1, b1⟩; have s1 := s0.step b1 o1; obtain ⟨A1, c1, rfl, _, _, r1⟩ := s1.own.sl (n := 8) (by simp [magic, le_len]); obtain ⟨d0, d1, d2, d3, d4, d5, d6⟩ := s1.cells; have z1 := s1.box.lt; clear o1 b1 s0 r0)
    | (go_at_call 101; with_reducible refine (refadd4 A1 c1 8 N2 (magic ++ le 4 N1) _ r1 (by simp [magic, le_len]) (by simp [magic, le_len]) (by omega)).mono ?_; rintro e x2 ⟨u2, rfl, o2, b2⟩; have s2 := s1.step b2 o2; obtain ⟨A2, c2, rfl, _, _, r2⟩ := s2.own.sl (n := 12) (by simp [magic, le_len]); obtain ⟨d0, d1, d2, d3, d4, d5, d6⟩ := s2.cells; have z2 := s2.box.lt; clear o2 b2 s1 r1)
    | (go_at_call 101; with_reducible refine (refadd4 A2 c2 12 N3 (magic ++ le 4 N1 ++ le 4 N2) _ r2 (by simp [magic, le_len]) (by simp [magic, le_len]) (by omega)).mono ?_; rintro e x3 ⟨u3, rfl, o3, b3⟩; have s3 := s2.step b3 o3; obtain ⟨A3, c3, rfl, _, _, r3⟩ := s3.own.sl (n := 16) (by simp [magic, le_len]); obtain ⟨d0, d1, d2, d3, d4, d5, d6⟩ := s3.cells; have z3 := s3.box.lt; clear o3 b3 s2 r2)
    | (go_at_call 101; with_reducible refine (refadd4 A3 c3 16 N4 (magic ++ le 4 N1 ++ le 4 N2 ++ le 4 N3) _ r3 (by simp [magic, le_len]) (by simp [magic, le_len]) (by omega)).mono ?_; rintro e x4 ⟨u4, rfl, o4, b4⟩; have s4 := s3.step b4 o4; obtain ⟨A4, c4, rfl, _, _, r4⟩ := s4.own.sl (n := 20) (by simp [magic, le_len]); obtain ⟨d0, d1, d2, d3, d4, d5, d6⟩ := s4.cells; have z4 := s4.box.lt; clear o4 b4 s3 r3)
    | (go_at_call 101; with_reducible refine (refadd8 A4 c4 20 N5 (magic ++ le 4 N1 ++ le 4 N2 ++ le 4 N3 ++ le 4 N4) _ r4 (by simp [magic, le_len]) (by simp [magic, le_len]) (by omega)).mono ?_; rintro e x5 ⟨u5, rfl, o5, b5⟩; have s5 := s4.step b5 o5; obtain ⟨A5, c5, rfl, _, _, r5⟩ := s5.own.sl (n := 28) (by simp [magic, le_len]); obtain ⟨d0, d1, d2, d3, d4, d5, d6⟩ := s5.cells; have z5 := s5.box.lt; clear o5 b5 s4 r4)
    | (go_at_call 101; with_reducible refine (refadd2 A5 c5 28 n (magic ++ le 4 N1 ++ le 4 N2 ++ le 4 N3 ++ le 4 N4 ++ le 8 N5) _ r5 (by simp [magic, le_len]) (by simp [magic, le_len]) (by omega)).mono ?_; rintro e x6 ⟨u6, rfl, o6, b6⟩; have s6 := s5.step b6 o6; clear o6 b6 s5 r5))
  rw [← head1_cat N1 N2 N3 N4 N5 op dd] at s6
  go_loopw [4, 5] (fun v i wr => ∃ k : Nat, k ≤ n ∧ i = .int .i64 k ∧ S3 ⟨N1, N2, N3, N4, N5, op, dd⟩ A B n c m d w (head1 ⟨N1, N2, N3, N4, N5, op, dd⟩ ++ le 2 n ++ flat 8 (op.take k)) v wr) (fun _ i _ => n - (intOf i).toNat)
  case atStart => exact ⟨0, by omega, rfl, s6.cast (by simp [flat])⟩
  case round =>
    obtain ⟨k, hk, rfl, s⟩ := hrel
    clear s6
    obtain ⟨L, hL⟩ : ∃ L, L = (head1 ⟨N1, N2, N3, N4, N5, op, dd⟩ ++ le 2 n ++ flat 8 (op.take k)).length := ⟨_, rfl⟩
    have hl2 : L ≤ 2000 := by rw [hL]; simp [head1_len, head2_len, le_len, flat_len]; have := HN.out; have := HM.out; omega
    have HL := Lib.hid hL
    obtain ⟨A7, c7, rfl, hc7, hc8, r7⟩ := s.own.sl hL.symm
    clear hL
    obtain ⟨d0, d1, d2, d3, d4, d5, d6⟩ := s.cells
    by_cases hlt : k < n
    · have hkl : k < op.length := by have := HN.out; omega
      obtain ⟨b, o, rfl, hbB, hc⟩ := s.a.at_ hkl
      obtain ⟨y, hy, hy2⟩ : ∃ y : Nat, op[k] = (y : Int) ∧ y ≤ 4611686018427387904 := ⟨op[k].toNat, by have := rise_get OK.out.op2 hkl; simp at this; omega, by have := rise_get OK.out.op2 hkl; have := OK.out.nx2; simp at *; omega⟩
      rw [hy] at hc
      have hfl := flat_take (k := 8) hkl
      rw [hy, Int.toNat_natCast] at hfl
      have HF := Lib.hid hfl
      clear hfl hy hc7 hc8
      go_wp2_with (go_at_call 101; with_reducible refine (refadd8 A7 c7 L y _ _ r7 HL.out (by rw [← HL.out]; omega) (by omega)).mono ?_; rintro e w8 ⟨u8, rfl, o8, b8⟩)
      have s8 := (s.step b8 o8).cast (by rw [List.append_assoc, ← HF.out])
      clear o8 b8 s r7 hc
      go_wp2
      go_roundw
      case rel => exact ⟨k + 1, by omega, by go_num, s8⟩
      case measure => simp [intOf] <;> omega
    · obtain rfl : k = n := by omega
      have e2 : head1 ⟨N1, N2, N3, N4, N5, op, dd⟩ ++ le 2 k ++ flat 8 (op.take k) = head2 ⟨N1, N2, N3, N4, N5, op, dd⟩ := by rw [List.take_of_length_le (by have := HN.out; omega), HN.out]; rfl
      rw [e2] at s r7 HL
      go_wp2_with (go_at_call 101; with_reducible refine (refadd2 A7 c7 L m _ _ r7 HL.out (by rw [← HL.out]; omega) (by omega)).mono ?_; rintro e x7 ⟨u7, rfl, o7, b7⟩; have s7 := s.step b7 o7; clear o7 b7 s r7)
      go_loopw [4, 6] (fun v i wr => ∃ q : Nat, q ≤ m ∧ i = .int .i64 q ∧ S3 ⟨N1, N2, N3, N4, N5, op, dd⟩ A B k c m d w (head2 ⟨N1, N2, N3, N4, N5, op, dd⟩ ++ le 2 m ++ flat 8 (dd.take q)) v wr) (fun _ i _ => m - (intOf i).toNat)
      case atStart => exact ⟨0, by omega, rfl, s7.cast (by simp [flat])⟩
      case round =>
        obtain ⟨q, hq, rfl, s⟩ := hrel
        clear s7
        obtain ⟨M, hL⟩ : ∃ M, M = (head2 ⟨N1, N2, N3, N4, N5, op, dd⟩ ++ le 2 m ++ flat 8 (dd.take q)).length := ⟨_, rfl⟩
        have hl3 : M ≤ 2000 := by rw [hL]; simp [head1_len, head2_len, le_len, flat_len]; have := HN.out; have := HM.out; omega
        have HL2 := Lib.hid hL
        obtain ⟨A8, c8, rfl, hc8, hd8, r8⟩ := s.own.sl hL.symm
        clear hL
        obtain ⟨d0, d1, d2, d3, d4, d5, d6⟩ := s.cells
        by_cases hlt2 : q < m
        · have hkl : q < dd.length := by have := HM.out; omega
          obtain ⟨b, o, rfl, hbB, hc⟩ := s.b.at_ hkl
          obtain ⟨y, hy, hy2⟩ : ∃ y : Nat, dd[q] = (y : Int) ∧ y ≤ 4611686018427387904 := ⟨dd[q].toNat, by have := rise_get OK.out.dd2 hkl; simp at this; omega, by have := rise_get OK.out.dd2 hkl; have := OK.out.nx2; simp at *; omega⟩
          rw [hy] at hc
          have hfl := flat_take (k := 8) hkl
          rw [hy, Int.toNat_natCast] at hfl
          have HF := Lib.hid hfl
          clear hfl hy
          go_wp2_with (go_at_call 101; with_reducible refine (refadd8 A8 c8 M y _ _ r8 HL2.out (by rw [← HL2.out]; omega) (by omega)).mono ?_; rintro e w8 ⟨u8, rfl, o8, b8⟩)
          have s8 := (s.step b8 o8).cast (by rw [List.append_assoc, ← HF.out])
          clear o8 b8 s r8 hc
          go_wp2
          go_roundw
          case rel => exact ⟨q + 1, by omega, by go_num, s8⟩
          case measure => simp [intOf] <;> omega
        · obtain rfl : q = m := by omega
          have e3 : head2 ⟨N1, N2, N3, N4, N5, op, dd⟩ ++ le 2 q ++ flat 8 (dd.take q) = head3 ⟨N1, N2, N3, N4, N5, op, dd⟩ := by rw [List.take_of_length_le (by have := HM.out; omega), HM.out]; rfl
          rw [e3] at s r8 HL2
          have hM : M ≤ 700 := by rw [HL2.out, head3_len]; have := HN.out; have := HM.out; simp; omega
          have hsub : (4080 : Int) - (M : Int) = ((4080 - M : Nat) : Int) := by omega
          rcases s.own.form with ⟨e0, _⟩ | ⟨g, cap, e0, hg, hgl, _, _, _⟩
          · cases e0
            have := HL2.out
            rw [head3_len] at this
            omega
          · rw [← HL2.out] at e0
            cases e0
            obtain ⟨v9, w9, hap, ⟨A9, c9, rfl, r9⟩, b9⟩ := append_zeros (N := 4080 - M) s.own HL2.out (by omega) (by omega) s.bl.size
            have hbl := s.bl.trans b9
            have hfin : M + (4080 - M) = 4080 := by omega
            rw [hfin] at hap
            have hrl : head3 ⟨N1, N2, N3, N4, N5, op, dd⟩ ++ List.replicate (4080 - M) 0 = headB ⟨N1, N2, N3, N4, N5, op, dd⟩ := by unfold headB; rw [← HL2.out]
            rw [hrl] at r9
            clear hrl e3 s r8 b9 hfin
            go_wp2_with (at_builtin; refine Lib.wpList_append_run _ rfl _ _ _ _ rfl _ _ rfl rfl _ _ hap ?_)
            go_ret2
            exact ⟨⟨_, _, rfl, r9⟩, hbl⟩

theorem refbytes_ok (h : Hd) (hok : OkH h) (A B : Option Addr) (n c m d : Nat) (w : World) (hA : RdI w w.heap.size A h.op) (hB : RdI w w.heap.size B h.dd) (hn : n = h.op.length) (hm : m = h.dd.length) :
    Calls Tryz.prog 106 #[.agg (hdV h A B n c m d)] w fun e w' => (∃ A' c', e = .returned (.tuple #[.slice A' 4080 c', .int .i64 0]) ∧ Rd w' w'.heap.size A' (headB h)) ∧ Below w.heap.size w w' := by
  obtain ⟨a, b, c', d', e, op, dd⟩ := h
  obtain ⟨N1, rfl⟩ : ∃ N : Nat, a = N := ⟨a.toNat, by have := hok.lg1; simp at this; omega⟩
  obtain ⟨N2, rfl⟩ : ∃ N : Nat, b = N := ⟨b.toNat, by have := hok.ep1; simp at this; omega⟩
  obtain ⟨N3, rfl⟩ : ∃ N : Nat, c' = N := ⟨c'.toNat, by have := hok.fr1; simp at this; omega⟩
  obtain ⟨N4, rfl⟩ : ∃ N : Nat, d' = N := ⟨d'.toNat, by have := hok.ct1; simp at this; omega⟩
  obtain ⟨N5, rfl⟩ : ∃ N : Nat, e = N := ⟨e.toNat, by have := hok.nx1; simp at this; omega⟩
  exact refbytes_nat N1 N2 N3 N4 N5 op dd hok A B n c m d w hA hB hn hm

theorem refbytes_no (h : Hd) (hok : ¬ OkH h) (A B : Option Addr) (n c m d : Nat) (w : World) (hA : RdI w w.heap.size A h.op) (hB : RdI w w.heap.size B h.dd) (hn : n = h.op.length) (hm : m = h.dd.length) (hnl : n ≤ 140737488355328) (hml : m ≤ 140737488355328) :
    Calls Tryz.prog 106 #[.agg (hdV h A B n c m d)] w fun e w' => e = .returned (.tuple #[.slice none 0 0, .int .i64 2]) ∧ Below w.heap.size w w' := by
  have HN := Lib.hid hn
  have HM := Lib.hid hm
  have OK := Lib.hid (okB_false hok)
  have hb1 : Below w.heap.size w (w.alloc (.cells (hdV h A B n c m d) 28)) := (Below.refl _ _).alloc (Nat.le_refl _) _
  have hA1 := hA.belowS hb1
  have hB1 := hB.belowS hb1
  clear hn hm hok
  go_enter Tryz.func106, Tryz.ntmps106
  go_wp2_with (go_at_call 171; with_reducible refine (refright_any h A B n c m d _ hA1 hB1 HN.out HM.out hnl hml).mono ?_; rintro e w1 ⟨rfl, hb2⟩; rw [OK.out])
  go_ret2
  exact ⟨rfl, hb1.trans (hb2.mono hb1.size)⟩

end Go.Proofs.YtecnddogdiikiaaGreat

