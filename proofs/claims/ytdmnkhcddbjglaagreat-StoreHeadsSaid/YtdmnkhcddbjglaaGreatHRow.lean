/-
  What store.HeadBytes, HeadOf and the document's answer tell of any head and any bytes, in one form; chancerylaw15.sameHead, and the law StoreHeads, walked.
  chancerylaw15.StoreHeads: for every head and every bytes the law returns true, and each argument reads as it did. No condition.
-/
import Derived.Test.YtdmnkhcddbjglaaGreatHOf
import Derived.Test.YtdmnkhcddbjglaaGreatRows
import Derived.Test.YtdmnkhcddbjglaaGreatSaw
import Derived.ProofKit
import Derived.OpenShut
import Derived.SizedLaws
import Derived.Lib.SmallJoins
namespace Go.Proofs.YtdmnkhcddbjglaaGreat
open Go Go.RowKit
set_option maxRecDepth 100000
set_option maxHeartbeats 1600000

open Classical in
noncomputable def hbl (h : Hd) : List UInt8 := if OkH h then headB h else []
open Classical in
noncomputable def hbe (h : Hd) : Int := if OkH h then 0 else 2

section
variable (h : Hd) (A B : Option Addr) (n c m d : Nat) (w : World) (hA : RdI w w.heap.size A h.op) (hB : RdI w w.heap.size B h.dd) (hn : n = h.op.length) (hm : m = h.dd.length) (hnl : n ≤ 140737488355328) (hml : m ≤ 140737488355328)
include hA hB hn hm hnl hml
theorem bytes7 : Calls Tryz.prog 7 #[.agg (hdV h A B n c m d)] w fun e w' => (∃ A' c', e = .returned (.tuple #[.slice A' (hbl h).length c', .int .i64 (hbe h)]) ∧ Rd w' w'.heap.size A' (hbl h)) ∧ Below w.heap.size w w' := by
  by_cases ok : OkH h
  · have e1 : hbl h = headB h := by unfold hbl; rw [if_pos ok]
    have e2 : hbe h = 0 := by unfold hbe; rw [if_pos ok]
    rw [e1, e2, headB_len ok]
    exact headbytes' h ok A B n c m d w hA hB hn hm
  · have e1 : hbl h = [] := by unfold hbl; rw [if_neg ok]
    have e2 : hbe h = 2 := by unfold hbe; rw [if_neg ok]
    rw [e1, e2]
    refine (headbytes_no h ok A B n c m d w hA hB hn hm hnl hml).mono ?_
    rintro e w' ⟨rfl, hb⟩
    exact ⟨⟨_, _, rfl, .nil _ _ _⟩, hb⟩
theorem bytes8 : Calls Tryz.prog 8 #[.agg (hdV h A B n c m d)] w fun e w' => (∃ A' c', e = .returned (.tuple #[.slice A' (hbl h).length c', .int .i64 (hbe h)]) ∧ Rd w' w'.heap.size A' (hbl h)) ∧ Below w.heap.size w w' := by
  by_cases ok : OkH h
  · have e1 : hbl h = headB h := by unfold hbl; rw [if_pos ok]
    have e2 : hbe h = 0 := by unfold hbe; rw [if_pos ok]
    rw [e1, e2, headB_len ok]
    exact refbytes_ok h ok A B n c m d w hA hB hn hm
  · have e1 : hbl h = [] := by unfold hbl; rw [if_neg ok]
    have e2 : hbe h = 2 := by unfold hbe; rw [if_neg ok]
    rw [e1, e2]
    refine (refbytes_no h ok A B n c m d w hA hB hn hm hnl hml).mono ?_
    rintro e w' ⟨rfl, hb⟩
    exact ⟨⟨_, _, rfl, .nil _ _ _⟩, hb⟩
end

theorem of_short (A : Option Addr) (c n : Nat) (w : World) (hn : n ≠ 4080) (hn2 : n ≤ 9223372036854775807) :
    Calls Tryz.prog 9 #[.slice A n c] w fun e w' => (∃ v, e = .returned (.tuple #[v, .int .i64 260]) ∧ HV w' zeroH v) ∧ Below w.heap.size w w' := by
  have hd0 : ¬ ((n : Int) = 4080) := by omega
  have g11 : ((w.alloc (.cells #[.slice A n c] 25)).alloc (.cells (hdV zeroH none none 0 0 0 0) 24)).heap[w.heap.size + 1]? = some (.cells (hdV zeroH none none 0 0 0 0) 24 (0, 0)) := by
    have e : (w.alloc (.cells #[.slice A n c] 25)).heap.size = w.heap.size + 1 := by simp
    rw [← e]; exact heap_alloc_new _ _
  have hb0 : Below w.heap.size w ((w.alloc (.cells #[.slice A n c] 25)).alloc (.cells (hdV zeroH none none 0 0 0 0) 24)) := ((Below.refl _ _).alloc (Nat.le_refl _) _).alloc (by simp) _
  go_enter Tryz.func9, Tryz.ntmps9
  go_wp2_with fail
  refine bodyPost_ret (ret_head rfl rfl g11 rfl) rfl ?_
  exact ⟨⟨_, rfl, HV.zero _⟩, hb0⟩
theorem refof_short (A : Option Addr) (c n : Nat) (w : World) (hn : n ≠ 4080) (hn2 : n ≤ 9223372036854775807) :
    Calls Tryz.prog 10 #[.slice A n c] w fun e w' => (∃ v, e = .returned (.tuple #[v, .int .i64 260]) ∧ HV w' zeroH v) ∧ Below w.heap.size w w' := by
  have hd0 : ¬ ((n : Int) = 4080) := by omega
  have g11 : (w.alloc (.cells (hdV zeroH none none 0 0 0 0) 24)).heap[w.heap.size]? = some (.cells (hdV zeroH none none 0 0 0 0) 24 (0, 0)) := heap_alloc_new _ _
  have hb0 : Below w.heap.size w (w.alloc (.cells (hdV zeroH none none 0 0 0 0) 24)) := (Below.refl _ _).alloc (Nat.le_refl _) _
  go_enter Tryz.func10, Tryz.ntmps10
  go_wp2_with fail
  refine bodyPost_ret (ret_head rfl rfl g11 rfl) rfl ?_
  exact ⟨⟨_, rfl, HV.zero _⟩, hb0⟩

/-- what HeadOf tells of any bytes -/
noncomputable def told' (l : List UInt8) : Hd × Int := if l.length = 4080 then told l 17 65 else (zeroH, 260)
section
variable (A : Option Addr) (c n : Nat) (l : List UInt8) (w : World) (hr : Rd w w.heap.size A l) (hn : n = l.length) (hl : l.length ≤ 140737488355328)
include hr hn hl
theorem of9 : Calls Tryz.prog 9 #[.slice A n c] w fun e w' => (∃ v, e = .returned (.tuple #[v, .int .i64 (told' l).2]) ∧ HV w' (told' l).1 v) ∧ Below w.heap.size w w' := by
  by_cases h4 : l.length = 4080
  · unfold told'
    rw [if_pos h4, ← told_same]
    exact headof_any A c n l w hr hn h4
  · unfold told'
    rw [if_neg h4]
    exact of_short A c n w (by omega) (by omega)
theorem of10 : Calls Tryz.prog 10 #[.slice A n c] w fun e w' => (∃ v, e = .returned (.tuple #[v, .int .i64 (told' l).2]) ∧ HV w' (told' l).1 v) ∧ Below w.heap.size w w' := by
  by_cases h4 : l.length = 4080
  · unfold told'
    rw [if_pos h4]
    exact refof_any A c n l w hr hn h4
  · unfold told'
    rw [if_neg h4]
    exact refof_short A c n w (by omega) (by omega)
end
theorem told'_len (l : List UInt8) : (told' l).1.op.length ≤ 17 ∧ (told' l).1.dd.length ≤ 65 := by
  unfold told'
  split
  · unfold told
    split
    · simp only [decH, dec_len]; omega
    · simp [zeroH]
  · simp [zeroH]

theorem samehead_any (a b x y z : Int) (op dd : List Int) (A B A' B' : Option Addr) (n c m d n' c' m' d' : Nat) (w : World) (hA : RdI w w.heap.size A op) (hB : RdI w w.heap.size B dd) (hA' : RdI w w.heap.size A' op) (hB' : RdI w w.heap.size B' dd)
    (hn : n = op.length) (hm : m = dd.length) (hn' : n' = op.length) (hm' : m' = dd.length) (hl : n ≤ 1000000) (hl' : m ≤ 1000000) :
    Calls Tryz.prog 12 #[.agg (hdV ⟨a, b, x, y, z, op, dd⟩ A B n c m d), .agg (hdV ⟨a, b, x, y, z, op, dd⟩ A' B' n' c' m' d')] w fun e w' => e = .returned (.bool true) ∧ Below w.heap.size w w' := by
  have HN := Lib.hid hn
  have HM := Lib.hid hm
  have HN' := Lib.hid hn'
  have HM' := Lib.hid hm'
  clear hn hm hn' hm'
  have hb0 : Below w.heap.size w ((w.alloc (.cells (hdV ⟨a, b, x, y, z, op, dd⟩ A B n c m d) 24)).alloc (.cells (hdV ⟨a, b, x, y, z, op, dd⟩ A' B' n' c' m' d') 24)) := ((Below.refl _ _).alloc (Nat.le_refl _) _).alloc (by simp) _
  go_enter Tryz.func12, Tryz.ntmps12
  have b1 : Box ((w.alloc (.cells (hdV ⟨a, b, x, y, z, op, dd⟩ A B n c m d) 24)).alloc (.cells (hdV ⟨a, b, x, y, z, op, dd⟩ A' B' n' c' m' d') 24)) w.heap.size (hdV ⟨a, b, x, y, z, op, dd⟩ A B n c m d) := (Box.new w _).alloc _
  have b2 : Box ((w.alloc (.cells (hdV ⟨a, b, x, y, z, op, dd⟩ A B n c m d) 24)).alloc (.cells (hdV ⟨a, b, x, y, z, op, dd⟩ A' B' n' c' m' d') 24)) (w.heap.size + 1) (hdV ⟨a, b, x, y, z, op, dd⟩ A' B' n' c' m' d') := by
    have e : (w.alloc (.cells (hdV ⟨a, b, x, y, z, op, dd⟩ A B n c m d) 24)).heap.size = w.heap.size + 1 := by simp
    rw [← e]; exact Box.new _ _
  have rA : RdI ((w.alloc (.cells (hdV ⟨a, b, x, y, z, op, dd⟩ A B n c m d) 24)).alloc (.cells (hdV ⟨a, b, x, y, z, op, dd⟩ A' B' n' c' m' d') 24)) w.heap.size A op := hA.below hb0
  have rB : RdI ((w.alloc (.cells (hdV ⟨a, b, x, y, z, op, dd⟩ A B n c m d) 24)).alloc (.cells (hdV ⟨a, b, x, y, z, op, dd⟩ A' B' n' c' m' d') 24)) w.heap.size B dd := hB.below hb0
  have rA' : RdI ((w.alloc (.cells (hdV ⟨a, b, x, y, z, op, dd⟩ A B n c m d) 24)).alloc (.cells (hdV ⟨a, b, x, y, z, op, dd⟩ A' B' n' c' m' d') 24)) w.heap.size A' op := hA'.below hb0
  have rB' : RdI ((w.alloc (.cells (hdV ⟨a, b, x, y, z, op, dd⟩ A B n c m d) 24)).alloc (.cells (hdV ⟨a, b, x, y, z, op, dd⟩ A' B' n' c' m' d') 24)) w.heap.size B' dd := hB'.below hb0
  have hz : w.heap.size ≤ ((w.alloc (.cells (hdV ⟨a, b, x, y, z, op, dd⟩ A B n c m d) 24)).alloc (.cells (hdV ⟨a, b, x, y, z, op, dd⟩ A' B' n' c' m' d') 24)).heap.size := hb0.size
  generalize hW : (w.alloc (.cells (hdV ⟨a, b, x, y, z, op, dd⟩ A B n c m d) 24)).alloc (.cells (hdV ⟨a, b, x, y, z, op, dd⟩ A' B' n' c' m' d') 24) = W at hb0 b1 b2 rA rB rA' rB' hz
  clear hA hB hA' hB'
  obtain ⟨c0, c1, c2, c3, c4, c5, c6⟩ := Box.cells (h := ⟨a, b, x, y, z, op, dd⟩) b1
  obtain ⟨e0, e1, e2, e3, e4, e5, e6⟩ := Box.cells (h := ⟨a, b, x, y, z, op, dd⟩) b2
  have sA := sints_any A A' c c' n n' op op W (rA.more hz) (rA'.more hz) HN.out HN'.out rfl hl
  have dr : ∀ q, Below w.heap.size w (W.drewN q) := fun q => hb0.trans (drewN_below _ _ _)
  have sB : ∀ q, Calls Tryz.prog 36 #[.slice B m d, .slice B' m' d'] (W.drewN q) fun e w' => e = .returned (.bool true) ∧ ∃ q', w' = W.drewN q' := fun q =>
    (sints_any B B' d d' m m' dd dd (W.drewN q) ((rB.more hz).drewN q) ((rB'.more hz).drewN q) HM.out HM'.out rfl hl').mono (by
      rintro e w' ⟨rfl, q', rfl⟩
      exact ⟨rfl, q + q', by rw [World.drewN_drewN]⟩)
  go_wp2_with (first
    | (go_at_call 36; with_reducible refine sA.mono ?_; rintro e w1 ⟨rfl, q, rfl⟩; clear sA)
    | (go_at_call 36; with_reducible refine (sB q).mono ?_; rintro e w1 ⟨rfl, q', rfl⟩; clear sB))
  go_ret
  exact ⟨rfl, dr _⟩

theorem Rd.pre {w : World} {B : Nat} {A : Option Addr} {l k : List UInt8} (h : Rd w B A (l ++ k)) : Rd w B A l := fun hl => by
  obtain ⟨b, o, e, hb, hc⟩ := h (by simp [hl])
  exact ⟨b, o, e, hb, fun j hj => by have := hc j (by simp; omega); rwa [List.getElem_append_left hj] at this⟩

theorem HV.open {w : World} {h : Hd} {v : Value} (x : HV w h v) : ∃ A B n c m d, v = .agg (hdV h A B n c m d) ∧ RdI w w.heap.size A h.op ∧ RdI w w.heap.size B h.dd ∧ n = h.op.length ∧ m = h.dd.length := x
/-- what stands while the law works -/
structure SL (h : Hd) (A B : Option Addr) (n c m d : Nat) (C : Option Addr) (l : List UInt8) (w wr : World) : Prop where
  a : RdI wr wr.heap.size A h.op
  b : RdI wr wr.heap.size B h.dd
  l : Rd wr wr.heap.size C l
  box : Box wr w.heap.size (hdV h A B n c m d)
  bl : Below w.heap.size w wr
theorem SL.step {h : Hd} {A B : Option Addr} {n c m d : Nat} {C : Option Addr} {l : List UInt8} {w wr w' : World} (s : SL h A B n c m d C l w wr) (hb : Below wr.heap.size wr w') : SL h A B n c m d C l w w' :=
  ⟨s.a.belowS hb, s.b.belowS hb, s.l.belowS hb, s.box.below hb, s.bl.trans (hb.mono s.bl.size)⟩

theorem law_any (h : Hd) (A B C : Option Addr) (n c m d p q : Nat) (l : List UInt8) (w : World) (hA : RdI w w.heap.size A h.op) (hB : RdI w w.heap.size B h.dd) (hC : Rd w w.heap.size C l) (hn : n = h.op.length) (hm : m = h.dd.length) (hp : p = l.length)
    (hnl : n ≤ 140737488355328) (hml : m ≤ 140737488355328) (hpl : l.length ≤ 140737488355300) (aw : ∀ w, Calls Tryz.prog 14 #[] w fun e w' => e = .returned (.bool true) ∧ Below w.heap.size w w') :
    Calls Tryz.prog 3 #[.agg (hdV h A B n c m d), .slice C p q] w fun e w' => e = .returned (.bool true) ∧ Below w.heap.size w w' := by
  have HN := Lib.hid hn
  have HM := Lib.hid hm
  have HP := Lib.hid hp
  have HL := Lib.hid hpl
  have hp2 : p ≤ 140737488355300 := by omega
  obtain ⟨y, hy⟩ : ∃ y, y = hbl h := ⟨_, rfl⟩
  obtain ⟨ye, hye⟩ : ∃ y, y = hbe h := ⟨_, rfl⟩
  obtain ⟨⟨⟨t0, t1, t2, t3, t4, t5, t6⟩, te⟩, ht⟩ : ∃ t, t = told' l := ⟨_, rfl⟩
  have HY := Lib.hid hy
  have HYE := Lib.hid hye
  have HT := Lib.hid ht
  have b7 := fun w a b => bytes7 h A B n c m d w a b hn hm hnl hml
  have b8 := fun w a b => bytes8 h A B n c m d w a b hn hm hnl hml
  rw [← hy, ← hye] at b7 b8
  have o9 := fun A c w a => of9 A c p l w a hp (by omega)
  have o10 := fun A c w a => of10 A c p l w a hp (by omega)
  rw [← ht] at o9 o10
  have tl : t5.length ≤ 17 ∧ t6.length ≤ 65 := by have := told'_len l; rw [← ht] at this; exact this
  have s0 : SL h A B n c m d C l w (w.alloc (.cells (hdV h A B n c m d) 24)) :=
    ⟨hA.belowS ((Below.refl _ _).alloc (Nat.le_refl _) _), hB.belowS ((Below.refl _ _).alloc (Nat.le_refl _) _), hC.belowS ((Below.refl _ _).alloc (Nat.le_refl _) _), Box.new _ _, (Below.refl _ _).alloc (Nat.le_refl _) _⟩
  clear hy hye ht hn hm hp hpl hA hB hC
  go_enter Tryz.func3, Tryz.ntmps3
  go_wp2_with (first
    | (go_at_call 6; with_reducible refine (lent_any C q p l _ s0.l HP.out HL.out).mono ?_; rintro e w1 ⟨⟨g, cap, rfl, hcap, hcap2, rL⟩, hb1⟩; have s1 := s0.step hb1; obtain ⟨c0, c1, c2, c3, c4, c5, c6⟩ := Box.cells (h := h) s1.box; clear s0 hb1)
    | (go_at_call 7; with_reducible refine (b7 _ s1.a s1.b).mono ?_; rintro e w2 ⟨⟨A7, d7, rfl, r7⟩, hb2⟩; have s2 := s1.step hb2; have rL2 := rL.belowS hb2; clear c0 c1 c2 c3 c4 c5 c6; obtain ⟨c0, c1, c2, c3, c4, c5, c6⟩ := Box.cells (h := h) s2.box; clear s1 hb2 rL)
    | (go_at_call 8; with_reducible refine (b8 _ s2.a s2.b).mono ?_; rintro e w3 ⟨⟨A8, d8, rfl, r8⟩, hb3⟩; have s3 := s2.step hb3; have rL3 := rL2.belowS hb3; have q7 := r7.belowS hb3; clear c0 c1 c2 c3 c4 c5 c6 s2 hb3 rL2 r7)
    | (go_at_call 9; with_reducible refine (o9 _ _ _ rL3.pre).mono ?_; (rintro e w4 ⟨⟨v9, rfl, hv9⟩, hb4⟩; obtain ⟨A9, B9, n9, c9, m9, d9, rfl, rA9, rB9, hn9, hm9⟩ := HV.open hv9; have s4 := s3.step hb4; have rL4 := rL3.belowS hb4; have q74 := q7.belowS hb4; have q84 := r8.belowS hb4; have HN9 := Lib.hid hn9; have HM9 := Lib.hid hm9; have x9 : Box (w4.alloc (.cells (hdV ⟨t0, t1, t2, t3, t4, t5, t6⟩ A9 B9 n9 c9 m9 d9) 24)) w4.heap.size (hdV ⟨t0, t1, t2, t3, t4, t5, t6⟩ A9 B9 n9 c9 m9 d9) := Box.new _ _; have hb9 : Below w4.heap.size w4 (w4.alloc (.cells (hdV ⟨t0, t1, t2, t3, t4, t5, t6⟩ A9 B9 n9 c9 m9 d9) 24)) := (Below.refl _ _).alloc (Nat.le_refl _) _; have s5 := s4.step hb9; have rL5 := rL4.belowS hb9; have q75 := q74.belowS hb9; have q85 := q84.belowS hb9; have rA5 := rA9.belowS hb9; have rB5 := rB9.belowS hb9; clear s3 hb4 rL3 q7 r8 hn9 hm9 s4 rL4 q74 q84 hb9 rA9 rB9 hv9))
    | (go_at_call 10; with_reducible refine (o10 _ _ _ s5.l).mono ?_; (rintro e w6 ⟨⟨v10, rfl, hv10⟩, hb6⟩; obtain ⟨A10, B10, n10, c10, m10, d10, rfl, rA10, rB10, hn10, hm10⟩ := HV.open hv10; have hb11 : Below w6.heap.size w6 (w6.alloc (.cells (hdV ⟨t0, t1, t2, t3, t4, t5, t6⟩ A10 B10 n10 c10 m10 d10) 24)) := (Below.refl _ _).alloc (Nat.le_refl _) _; have s6 := (s5.step hb6).step hb11; have rL6 := (rL5.belowS hb6).belowS hb11; have q76 := (q75.belowS hb6).belowS hb11; have q86 := (q85.belowS hb6).belowS hb11; have rA6 := (rA5.belowS hb6).belowS hb11; have rB6 := (rB5.belowS hb6).belowS hb11; have x96 := (x9.below hb6).below hb11; have x10 : Box (w6.alloc (.cells (hdV ⟨t0, t1, t2, t3, t4, t5, t6⟩ A10 B10 n10 c10 m10 d10) 24)) w6.heap.size (hdV ⟨t0, t1, t2, t3, t4, t5, t6⟩ A10 B10 n10 c10 m10 d10) := Box.new _ _; have rA11 := rA10.belowS hb11; have rB11 := rB10.belowS hb11; have HN10 := Lib.hid hn10; have HM10 := Lib.hid hm10; obtain ⟨c0, c1, c2, c3, c4, c5, c6⟩ := Box.cells (h := ⟨t0, t1, t2, t3, t4, t5, t6⟩) x96; obtain ⟨e0, e1, e2, e3, e4, e5, e6⟩ := Box.cells (h := ⟨t0, t1, t2, t3, t4, t5, t6⟩) x10; clear s5 hb6 rL5 q75 q85 rA5 rB5 x9 hn10 hm10 rA10 rB10 hv10 hb11))
    | (go_at_call 11; with_reducible refine (same_any _ _ _ _ _ _ y y _ q76 q86 rfl rfl).mono ?_; rintro e w7 ⟨rfl, rfl⟩)
    | (go_at_call 12; with_reducible refine (samehead_any t0 t1 t2 t3 t4 t5 t6 _ _ _ _ _ _ _ _ _ _ _ _ _ rA6 rB6 rA11 rB11 HN9.out HM9.out HN10.out HM10.out (by have := HN9.out; omega) (by have := HM9.out; omega)).mono ?_; (rintro e w8 ⟨rfl, hb8⟩; have s8 := s6.step hb8; have rL8 := rL6.belowS hb8; clear s6 rL6 q76 q86 rA6 rB6 rA11 rB11 hb8 c0 c1 c2 c3 c4 c5 c6 e0 e1 e2 e3 e4 e5 e6))
    | (go_at_call 13; with_reducible refine (kept_any g cap p p C q l _ rL8 hcap hcap2 s8.l HP.out rfl HL.out).mono ?_; rintro e w9 ⟨rfl, rfl⟩)
    | (go_at_call 14; with_reducible refine (aw _).mono ?_; (rintro e w10 ⟨rfl, hb10⟩; have s10 := s8.step hb10; clear s8 hb10)))
  go_ret
  exact ⟨rfl, s10.bl⟩
end Go.Proofs.YtdmnkhcddbjglaaGreat

namespace Go.Proofs.YtdmnkhcddbjglaaGreat
open Go Go.ChangeShapes Go.WideShapes Go.ChangeAt Go.RowKit Go.Deep

theorem own : ownKnob Tryz.prog.godebug = none := by kernel_rfl
theorem laidOut : laidOutB Tryz.prog = true := by kernel_rfl
theorem cellsU8 : Tryz.prog.cellsOf 5 = 1 := by kernel_rfl
theorem cellsI : Tryz.prog.cellsOf 3 = 1 := by kernel_rfl
theorem cells24 : Tryz.prog.cellsOf 24 = 7 := by kernel_rfl
theorem bytesI : Tryz.prog.bytesOf 3 = 8 := by kernel_rfl
theorem bytesU8 : Tryz.prog.bytesOf 5 = 1 := by kernel_rfl

section
variable {H : Type} {enc : TypeId × Value → H} {W : World}

/-- bytes, opened, nil or not -/
theorem bytes_opened {fuel : Nat} {cs : List Value} {x : DataW H × List MemPlace} (hf : DataW.trod enc Tryz.prog W 0 (fun _ => true) true fuel 25 cs = some x) :
    ∃ (A : Option Addr) (len cap : Nat) (l : List UInt8), cs = [.slice A len cap] ∧ l.length = len ∧ Rd W W.heap.size A l ∧ ((len = 0 ∧ x.1 = .nil) ∨ ∃ el sp, x.1 = .slice el sp ∧ el.length = len) := by
  rcases open_ints Tryz.underlying25 Tryz.underlying5 cellsU8 hf with ⟨hcs, hx⟩ | ⟨a, len, cap, zs, hcs, _, hl, hm, hz, hx, hcell, hwz⟩
  · exact ⟨none, 0, 0, [], hcs, rfl, .nil _ _ _, .inl ⟨rfl, by rw [hx]⟩⟩
  · simp only [if_true] at hz
    refine ⟨some a, len, cap, (zs.take len).map fun z => UInt8.ofNat z.toNat, hcs, by simp; omega, fun hne => ?_, .inr ⟨_, _, by rw [hx], by simp [lits]; omega⟩⟩
    have hpos : 0 < len := by
      rcases Nat.eq_zero_or_pos len with h | h
      · subst h; simp at hne
      · exact h
    obtain ⟨b, o, s⟩ := a
    obtain rfl : s = none := by simpa [Addr.add] using World.cell?_spot (hcell 0 (by omega))
    have hc0 := hcell 0 (by omega)
    refine ⟨b, o, rfl, by have := block_lt_of_cell hc0; simpa [Addr.add] using this, fun k hk => ?_⟩
    have hk' : k < len := by simp at hk; omega
    have hck := hcell k (by omega)
    rw [Go.WideShapes.add_plain] at hck
    rw [hck]
    have hw := hwz zs[k] (List.getElem_mem (by omega))
    have hb : 0 ≤ zs[k] ∧ zs[k] ≤ 255 := by simpa [Lit.wf, IntKind.wrap, IntKind.signed, IntKind.bits, IntKind.min, IntKind.max] using hw
    simp [u8V, List.getD, show k < zs.length by omega, UInt8.toNat_ofNat']
    omega

/-- numbers, opened, nil or not -/
theorem ints_opened {fuel : Nat} {cs : List Value} {x : DataW H × List MemPlace} (hf : DataW.trod enc Tryz.prog W 0 (fun _ => true) true fuel 22 cs = some x) :
    ∃ (A : Option Addr) (len cap : Nat) (l : List Int), cs = [.slice A len cap] ∧ l.length = len ∧ RdI W W.heap.size A l ∧ ((len = 0 ∧ x.1 = .nil) ∨ ∃ el sp, x.1 = .slice el sp ∧ el.length = len) := by
  rcases open_ints Tryz.underlying22 Tryz.underlying3 cellsI hf with ⟨hcs, hx⟩ | ⟨a, len, cap, zs, hcs, _, hl, hm, hz, hx, hcell, hwz⟩
  · exact ⟨none, 0, 0, [], hcs, rfl, .nil _ _ _, .inl ⟨rfl, by rw [hx]⟩⟩
  · simp only [if_true] at hz
    refine ⟨some a, len, cap, zs.take len, hcs, by simp; omega, fun hne => ?_, .inr ⟨_, _, by rw [hx], by simp [lits]; omega⟩⟩
    have hpos : 0 < len := by
      rcases Nat.eq_zero_or_pos len with h | h
      · subst h; simp at hne
      · exact h
    obtain ⟨b, o, s⟩ := a
    obtain rfl : s = none := by simpa [Addr.add] using World.cell?_spot (hcell 0 (by omega))
    have hc0 := hcell 0 (by omega)
    refine ⟨b, o, rfl, by have := block_lt_of_cell hc0; simpa [Addr.add] using this, fun k hk => ?_⟩
    have hk' : k < len := by simp at hk; omega
    have hck := hcell k (by omega)
    rw [Go.WideShapes.add_plain] at hck
    rw [hck]
    simp [List.getD, show k < zs.length by omega]

theorem int_of_trod {n : Nat} {cs : List Value} {y : DataW H × List MemPlace} (h : DataW.trod enc Tryz.prog W 0 (fun _ => true) true n 3 cs = some y) : ∃ z : Int, cs = [.int .i64 z] := by
  obtain ⟨z, h1, _, _⟩ := DataW.trod_int Tryz.underlying3 h
  exact ⟨z, h1⟩

theorem array7 {α : Type} {cs : Array α} (h : cs.size = 7) : ∃ c0 c1 c2 c3 c4 c5 c6, cs = #[c0, c1, c2, c3, c4, c5, c6] := by
  obtain ⟨l⟩ := cs
  match l, h with
  | [c0, c1, c2, c3, c4, c5, c6], _ => exact ⟨c0, c1, c2, c3, c4, c5, c6, rfl⟩

theorem list7 {α : Type} {cs : List α} (h : cs.length = 7) : ∃ c0 c1 c2 c3 c4 c5 c6, cs = [c0, c1, c2, c3, c4, c5, c6] := by
  match cs, h with
  | [c0, c1, c2, c3, c4, c5, c6], _ => exact ⟨c0, c1, c2, c3, c4, c5, c6, rfl⟩
theorem trod_struct7 {P : Program} {w : World} {base : Nat} {spare : Nat → Bool} {held : Bool} {t : TypeId} {f0 f1 f2 f3 f4 f5 f6 : Field} {fuel : Nat} {c0 c1 c2 c3 c4 c5 c6 : Value} {x : DataW H × List MemPlace} (ht : P.underlying t = some (.struct #[f0, f1, f2, f3, f4, f5, f6])) (hone : oneCellFields P #[f0, f1, f2, f3, f4, f5, f6] = true) (h : DataW.trod enc P w base spare held fuel t [c0, c1, c2, c3, c4, c5, c6] = some x) :
    ∃ y0 y1 y2 y3 y4 y5 y6 n, x.1 = .agg [y0.1, y1.1, y2.1, y3.1, y4.1, y5.1, y6.1] ∧ DataW.trod enc P w base spare held n f0.type [c0] = some y0 ∧ DataW.trod enc P w base spare held n f1.type [c1] = some y1 ∧ DataW.trod enc P w base spare held n f2.type [c2] = some y2 ∧ DataW.trod enc P w base spare held n f3.type [c3] = some y3 ∧ DataW.trod enc P w base spare held n f4.type [c4] = some y4 ∧ DataW.trod enc P w base spare held n f5.type [c5] = some y5 ∧ DataW.trod enc P w base spare held n f6.type [c6] = some y6 := by
  obtain ⟨xs, n, _, rfl, _, hlen, hf⟩ := DataW.trod_struct ht h
  obtain ⟨y0, y1, y2, y3, y4, y5, y6, rfl⟩ := list7 hlen
  obtain ⟨o0, k0⟩ := hone_of hone 0 f0 rfl
  obtain ⟨o1, k1⟩ := hone_of hone 1 f1 rfl
  obtain ⟨o2, k2⟩ := hone_of hone 2 f2 rfl
  obtain ⟨o3, k3⟩ := hone_of hone 3 f3 rfl
  obtain ⟨o4, k4⟩ := hone_of hone 4 f4 rfl
  obtain ⟨o5, k5⟩ := hone_of hone 5 f5 rfl
  obtain ⟨o6, k6⟩ := hone_of hone 6 f6 rfl
  refine ⟨y0, y1, y2, y3, y4, y5, y6, n, rfl, by simpa [o0, k0] using hf 0 f0 rfl, by simpa [o1, k1] using hf 1 f1 rfl, by simpa [o2, k2] using hf 2 f2 rfl, by simpa [o3, k3] using hf 3 f3 rfl, by simpa [o4, k4] using hf 4 f4 rfl, by simpa [o5, k5] using hf 5 f5 rfl, by simpa [o6, k6] using hf 6 f6 rfl⟩
theorem agg_weights {P : Program} {t ty : TypeId} {fs : Array Field} {parts : List (DataW H)} {j n : Nat} {d : DataW H} (hu : P.underlying t = some (.struct fs)) (ht : (fs.toList.map (·.type))[j]? = some ty) (hd : parts[j]? = some d) (hn : n ∈ d.weights P ty) : n ∈ (DataW.agg parts).weights P t := by
  simp only [DataW.weights, hu]
  exact DataW.weights_mem_each ht hd n hn
theorem slice_weight {P : Program} {t e : TypeId} {el sp : List (DataW H)} (hu : P.underlying t = some (.slice e)) : (el.length + sp.length) * P.bytesOf e ∈ (DataW.slice el sp).weights P t := by
  simp [DataW.weights, hu]

set_option maxRecDepth 100000 in
/-- a head, opened -/
theorem head_opened {base : Nat} {v : Value} {d : DataW H} {p : List MemPlace} (hv : Value.okWide Tryz.prog W .any base 24 v) (h : DataW.Trod enc Tryz.prog W 0 (fun _ => true) true 24 v d p) (hs : ∀ n ∈ d.weights Tryz.prog 24, n ≤ reachBytes) :
    ∃ (hd : Hd) (A B : Option Addr) (n c m k : Nat), v = .agg (hdV hd A B n c m k) ∧ RdI W W.heap.size A hd.op ∧ RdI W W.heap.size B hd.dd ∧ n = hd.op.length ∧ m = hd.dd.length ∧ n ≤ 140737488355328 ∧ m ≤ 140737488355328 := by
  obtain ⟨cs, rfl, hsz⟩ := okWide_struct Tryz.underlying24 hv
  obtain ⟨c0, c1, c2, c3, c4, c5, c6, rfl⟩ := array7 (hsz.trans cells24)
  obtain ⟨fuel, hf⟩ := h
  obtain ⟨y0, y1, y2, y3, y4, y5, y6, k, hx, h0, h1, h2, h3, h4, h5, h6⟩ := trod_struct7 Tryz.underlying24 (by kernel_rfl) hf
  simp only [] at hx
  subst hx
  obtain ⟨z0, e0⟩ := int_of_trod h0
  obtain ⟨z1, e1⟩ := int_of_trod h1
  obtain ⟨z2, e2⟩ := int_of_trod h2
  obtain ⟨z3, e3⟩ := int_of_trod h3
  obtain ⟨z4, e4⟩ := int_of_trod h4
  obtain ⟨A, n, c, op, e5, l5, r5, w5⟩ := ints_opened h5
  obtain ⟨B, m, q, dd, e6, l6, r6, w6⟩ := ints_opened h6
  simp only [List.cons.injEq, and_true] at e0 e1 e2 e3 e4 e5 e6
  subst e0; subst e1; subst e2; subst e3; subst e4; subst e5; subst e6
  have hr := reachBytes_lt
  have hn : n ≤ 140737488355328 := by
    rcases w5 with ⟨h, _⟩ | ⟨el, sp, h, hl⟩
    · omega
    · have := hs _ (agg_weights (j := 5) (ty := 22) (d := y5.1) Tryz.underlying24 rfl rfl (by rw [h]; exact slice_weight Tryz.underlying22))
      rw [bytesI] at this
      omega
  have hm : m ≤ 140737488355328 := by
    rcases w6 with ⟨h, _⟩ | ⟨el, sp, h, hl⟩
    · omega
    · have := hs _ (agg_weights (j := 6) (ty := 22) (d := y6.1) Tryz.underlying24 rfl rfl (by rw [h]; exact slice_weight Tryz.underlying22))
      rw [bytesI] at this
      omega
  exact ⟨⟨z0, z1, z2, z3, z4, op, dd⟩, A, B, n, c, m, q, rfl, r5, r6, l5.symm, l6.symm, hn, hm⟩

/-- an argument of bytes -/
theorem arg_opened {v : Value} {d : DataW H} {p : List MemPlace} (h : DataW.Trod enc Tryz.prog W 0 (fun _ => true) true 25 v d p) (hv : ∃ A len cap, v = .slice A len cap) (hs : ∀ n ∈ d.weights Tryz.prog 25, n ≤ reachBytes) :
    ∃ (A : Option Addr) (n c : Nat) (l : List UInt8), v = .slice A n c ∧ Rd W W.heap.size A l ∧ n = l.length ∧ l.length ≤ 140737488351232 := by
  obtain ⟨A0, n0, k0, rfl⟩ := hv
  obtain ⟨fuel, hf⟩ := h
  obtain ⟨A, n, c, l, e, hl, r, w⟩ := bytes_opened hf
  simp only [Value.cells, List.cons.injEq, and_true] at e
  refine ⟨A, n, c, l, e, r, hl.symm, ?_⟩
  rcases w with ⟨h, _⟩ | ⟨el, sp, h, hle⟩
  · omega
  · simp only [] at h
    have := hs _ (by rw [h]; exact slice_weight Tryz.underlying25)
    rw [bytesU8] at this
    have hr : reachBytes = 140737488351232 := by decide
    omega
end

set_option maxRecDepth 100000 in
theorem heads_lifted (os : Os) (started : os.Started) (H : Type) (enc : TypeId × Value → H) :
    ReturnsInHanded {} Tryz.checked os 3 .any (Rows.storeHeadsSpec.pre6 enc Tryz.prog Tryz.f3 Rows.storeHeadsRow.domain false) (Rows.storeHeadsSpec.post enc Tryz.prog Tryz.f3 false true false false) := by
  refine returnsInHanded_of_change_sized (C := Tryz.checked) own started (by kernel_rfl) Tryz.func3
    (ChangeSpec.witness6 (enc := enc) (C := Tryz.checked) false ⟨#[], #[.agg #[.int .i64 0, .int .i64 0, .int .i64 0, .int .i64 0, .int .i64 0, .slice none 0 0, .slice none 0 0], .slice none 0 0], []⟩ 8 (by kernel_rfl) (by kernel_rfl) (by kernel_rfl) (by kernel_rfl)) ?_
  intro W base args ds gs before hval0 hW hcnd hsz _
  have hval : ∀ (j : Nat) t v, Tryz.f3.params[j]? = some t → args[j]? = some v → Value.okWide Tryz.prog W .any base t v := hval0
  have hW' := hW
  obtain ⟨p, q, hA0, hV, rfl, hfz, hnd⟩ := hW
  have hA : DataW.TrodAll enc Tryz.prog W 0 (fun _ => true) true Tryz.f3.params.toList args.toList ds p := hA0
  rw [Tryz.params3] at hA hval
  obtain ⟨v0, v1, d0, d1, p0, p1, rfl, rfl, rfl, h0, h1⟩ := trodAll_two hA
  obtain ⟨rfl, rfl⟩ := trodVars_none hV
  have hw0 : ∀ n ∈ d0.weights Tryz.prog 24, n ≤ reachBytes := fun n hn => by
    have := List.all_eq_true.1 hsz n (DataW.weights_mem_each (j := 0) (t := 24) (d := d0) rfl rfl n hn)
    simpa using this
  have hw1 : ∀ n ∈ d1.weights Tryz.prog 25, n ≤ reachBytes := fun n hn => by
    have := List.all_eq_true.1 hsz n (DataW.weights_mem_each (j := 1) (t := 25) (d := d1) rfl rfl n hn)
    simpa using this
  have hk0 := h0
  have hk1 := h1
  obtain ⟨hd, A, B, n, c, m, k, rfl, rA, rB, hn, hm, hnl, hml⟩ := head_opened (hval 0 24 v0 rfl rfl) h0 hw0
  obtain ⟨C, n1, c1, l, rfl, rC, hl, hle⟩ := arg_opened h1 (okWide_slice Tryz.underlying25 (hval 1 25 v1 rfl rfl)) hw1
  simp only [List.append_nil] at hW'
  have hlt : ∀ x ∈ p0 ++ p1, x.block < W.heap.size := fun x hx => hW'.lt x (by simpa using hx)
  refine (law_any hd A B C n c m k n1 c1 l W rA rB rC hn hm hl hnl hml (by omega) awake_any).mono fun e W' ⟨he, hb⟩ => ?_
  subst he
  have harg0 := Below.trod laidOut (by kernel_rfl) (of_decide_eq_true (by kernel_rfl)) hk0 hb (fun x hx => hlt x (by simp [hx]))
  have harg1 := Below.trod laidOut (by kernel_rfl) (of_decide_eq_true (by kernel_rfl)) hk1 hb (fun x hx => hlt x (by simp [hx]))
  refine ⟨_, rfl, _, _, _, [], _, [], hW', ?_, trodAll_mk2 harg0 harg1, rfl, hb.frame _, fun h => by cases h⟩
  exact trodAll_mk1 (shut_bool Tryz.underlying4 _)

theorem storeHeads_holds : Rows.StoreHeadsSaid :=
  OpenClaim.holds_of_wide 3 Tryz.f3 rfl rfl rfl rfl rfl rfl rfl ⟨rfl, rfl, rfl, rfl, rfl⟩ rfl rfl rfl rfl rfl (by kernel_rfl) Tryz.func3 (by kernel_rfl)
    (of_decide_eq_true (by kernel_rfl)) (by unfold Func.isWrapper; first | (rw [if_pos (by decide +kernel)]; kernel_rfl) | (rw [if_neg (by decide +kernel)]; exact ⟨rfl, rfl⟩))
    (fun os started H enc _ => heads_lifted os started H enc)

end Go.Proofs.YtdmnkhcddbjglaaGreat
