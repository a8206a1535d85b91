/-
  Rows of numbers: store.below, chanceryref15.numbers, chancerylow.SameInts: what each call does.
  bytes.Compare, octets.Cmp, octets.Same, chancerylow.SameInts: what each call does.
  octets.add, Add16, Add32, Add64 and chanceryref01.Add: what each call does: the bytes, and behind them a number's lowest bytes, the lowest first.
  octets.number, U16, U32, U64 and chanceryref01.Number: what each call does: the number that some bytes say, the lowest first.
-/
import Derived.Test.YtdmnkhcddbjglaaGreatHKept
import Derived.Lib.Bytealg
import Derived.Laws.Externs
import Derived.Laws.OwnMore
set_option linter.unusedVariables false
set_option linter.unusedSimpArgs false
namespace Go.Proofs.YtdmnkhcddbjglaaGreat
open Go Go.RowKit
set_option maxRecDepth 100000
set_option maxHeartbeats 1600000

/-- the slice 'A' of these numbers lies below block B -/
def RdI (w : World) (B : Nat) (A : Option Addr) (l : List Int) : Prop :=
  l ≠ [] → ∃ b o, A = some ⟨b, o, none⟩ ∧ b < B ∧ ∀ k (h : k < l.length), w.cell? ⟨b, o + k, none⟩ = some (.int .i64 l[k])

section
variable {w w' : World} {B B' : Nat} {A : Option Addr} {l : List Int} {v : Value}
theorem RdI.nil (w : World) (B : Nat) (A : Option Addr) : RdI w B A [] := fun h => absurd rfl h
theorem RdI.keep (h : RdI w B A l) (hk : ∀ p : Addr, p.block < B → w'.cell? p = w.cell? p) : RdI w' B A l := fun hl => by
  obtain ⟨b, o, e, hb, hc⟩ := h hl
  exact ⟨b, o, e, hb, fun k hk' => (hk _ hb).trans (hc k hk')⟩
theorem RdI.more (h : RdI w B A l) (hB : B ≤ B') : RdI w B' A l := fun hl => by
  obtain ⟨b, o, e, hb, hc⟩ := h hl
  exact ⟨b, o, e, by omega, hc⟩
theorem RdI.below (h : RdI w B A l) (hb : Below B w w') : RdI w' B A l := h.keep fun _ hp => hb.cell hp
theorem RdI.belowS (h : RdI w w.heap.size A l) (hb : Below w.heap.size w w') : RdI w' w'.heap.size A l := (h.below hb).more hb.size
theorem RdI.at_ (h : RdI w B A l) {k : Nat} (hk : k < l.length) : ∃ b o, A = some ⟨b, o, none⟩ ∧ b < B ∧ w.cell? ⟨b, o + k, none⟩ = some (.int .i64 l[k]) := by
  obtain ⟨b, o, e, hb, hc⟩ := h (by rintro rfl; simp at hk)
  exact ⟨b, o, e, hb, hc k hk⟩
theorem RdI.alloc (h : RdI w B A l) (hB : B ≤ w.heap.size) (o : Obj) : RdI (w.alloc o) B A l := h.keep fun p hp => World.cell?_alloc_lt w o p (by omega)
theorem RdI.drew (h : RdI w B A l) : RdI w.drew B A l := h.keep fun _ _ => rfl
end

/-- do numbers rise, from above a on, below lim? -/
def rise (lim : Int) : Int → List Int → Bool
  | _, [] => true
  | a, n :: l => decide (a < n) && (decide (n < lim) && rise lim n l)

theorem rise_at {lim a : Int} {l : List Int} {k : Nat} (hk : k < l.length) : rise lim a (l.drop k) = (decide (a < l[k]) && (decide (l[k] < lim) && rise lim l[k] (l.drop (k + 1)))) := by
  rw [List.drop_eq_getElem_cons hk, rise]

theorem below_any (A : Option Addr) (c n : Nat) (lim : Int) (l : List Int) (w : World) (hr : RdI w w.heap.size A l) (hn : n = l.length) (hl : l.length ≤ 140737488355328) :
    Calls Tryz.prog 118 #[.slice A n c, .int .i64 lim] w fun e w' => e = .returned (.bool (rise lim 0 l)) ∧ w' = w := by
  have HN := Lib.hid hn
  have hnl : n ≤ 140737488355328 := by omega
  clear hn hl
  go_enter Tryz.func118, Tryz.ntmps118
  go_wp2
  go_loopw [5, 10] (fun x i wr => ∃ (k : Nat) (a : Int), k ≤ n ∧ i = .int .i64 k ∧ x = .int .i64 a ∧ rise lim 0 l = rise lim a (l.drop k) ∧ wr = w) (fun _ i _ => n - (intOf i).toNat)
  case atStart => exact ⟨0, 0, by omega, rfl, rfl, by simp, rfl⟩
  case round =>
    obtain ⟨k, a, hk, rfl, rfl, hrise, rfl⟩ := hrel
    have HR := Lib.hid hrise
    clear hrise
    by_cases hlt : k < n
    · have hkl : k < l.length := by have := HN.out; omega
      have hat := rise_at (lim := lim) (a := a) hkl
      obtain ⟨b, o, rfl, hbB, hc⟩ := hr.at_ hkl
      by_cases h1 : a < l[k]
      · by_cases h2 : l[k] < lim
        · have HT := Lib.hid hat
          clear hat
          go_wp2
          go_roundw
          case rel => exact ⟨k + 1, l[k], by omega, by go_num, rfl, by rw [HR.out, HT.out]; simp [h1, h2], trivial⟩
          case measure => simp [intOf] <;> omega
        · have HT := Lib.hid hat
          clear hat
          go_wp2
          go_ret
          exact ⟨by rw [HR.out, HT.out]; simp; intros; omega, rfl⟩
      · have HT := Lib.hid hat
        clear hat
        go_wp2
        go_ret
        exact ⟨by rw [HR.out, HT.out]; simp; intros; omega, rfl⟩
    · obtain rfl : k = n := by omega
      go_wp2
      go_ret
      exact ⟨by rw [HR.out, List.drop_of_length_le (by have := HN.out; omega)]; rfl, rfl⟩

/-- the number ahead of place k -/
def prev (l : List Int) (k : Nat) : Int := if h : 0 < k ∧ k ≤ l.length then l[k - 1]'(by omega) else 0

theorem prev_succ {l : List Int} {k : Nat} (h : k < l.length) : prev l (k + 1) = l[k] := by
  unfold prev
  rw [dif_pos ⟨by omega, by omega⟩]
  rfl

theorem drewN_below (w : World) (B n : Nat) : Below B w (w.drewN n) := ⟨rfl, rfl, rfl, Nat.le_refl _, fun _ _ => rfl⟩

theorem numbers_any (A : Option Addr) (c n : Nat) (lim : Int) (l : List Int) (w : World) (hr : RdI w w.heap.size A l) (hn : n = l.length) (hl : l.length ≤ 140737488355328) :
    Calls Tryz.prog 120 #[.slice A n c, .int .i64 lim] w fun e w' => e = .returned (.bool (rise lim 0 l)) ∧ ∃ q, w' = w.drewN q := by
  have HN := Lib.hid hn
  have hnl : n ≤ 140737488355328 := by omega
  clear hn hl
  go_enter Tryz.func120, Tryz.ntmps120
  go_wp2
  go_loopw [5] (fun i wr => ∃ (k : Nat), k ≤ n ∧ i = .int .i64 k ∧ rise lim 0 l = rise lim (prev l k) (l.drop k) ∧ 0 ≤ prev l k ∧ ∃ q, wr = w.drewN q) (fun i _ => n - (intOf i).toNat)
  case atStart => exact ⟨0, by omega, rfl, by simp [prev], by simp [prev], 0, rfl⟩
  case round =>
    obtain ⟨k, hk, rfl, hrise, hp0, q0, rfl⟩ := hrel
    have HR := Lib.hid hrise
    clear hrise
    by_cases hlt : k < n
    · have hkl : k < l.length := by have := HN.out; omega
      have HT := Lib.hid (rise_at (lim := lim) (a := prev l k) hkl)
      obtain ⟨b, o, rfl, hbB, hc⟩ := hr.at_ hkl
      have hpn : prev l (k + 1) = l[k] := prev_succ hkl
      have fin : ∀ n1, ∃ q, (w.drewN q0).drewN n1 = w.drewN q := fun n1 => ⟨q0 + n1, by rw [World.drewN_drewN]⟩
      by_cases h1 : l[k] < 1
      · have hd1 : decide (l[k] < 1) = true := by simp [h1]
        go_wp2
        go_quiet (fail)
        go_wp2
        go_ret
        exact ⟨by show Ending.returned (.bool false) = _; rw [HR.out, HT.out]; simp; intros; omega, fin _⟩
      have hd1 : decide (l[k] < 1) = false := by simp; omega
      by_cases h2 : lim ≤ l[k]
      · have hd2 : decide (lim ≤ l[k]) = true := by simp [h2]
        go_wp2
        go_quiet (fail)
        go_wp2
        go_ret
        exact ⟨by show Ending.returned (.bool false) = _; rw [HR.out, HT.out]; simp; intros; omega, fin _⟩
      have hd2 : decide (lim ≤ l[k]) = false := by simp; omega
      by_cases hk0 : 0 < k
      · obtain ⟨b', o', e, hbB', hc'⟩ := hr.at_ (show k - 1 < l.length by omega)
        cases e
        have htn : ((k : Int) - 1).toNat = k - 1 := by omega
        have hge : (0 : Int) ≤ (k : Int) - 1 := by omega
        have hpv : prev l k = l[k - 1] := by unfold prev; rw [dif_pos ⟨hk0, by omega⟩]
        rw [hpv] at HT HR hp0
        have hd3 : decide (0 < k) = true := by simp [hk0]
        clear hpv
        by_cases h3 : l[k] ≤ l[k - 1]
        · have hd4 : decide (l[k] ≤ l[k - 1]) = true := by simp [h3]
          go_wp2
          go_quiet (fail)
          go_wp2
          go_ret
          exact ⟨by show Ending.returned (.bool false) = _; rw [HR.out, HT.out]; simp; intros; omega, fin _⟩
        · have hd4 : decide (l[k] ≤ l[k - 1]) = false := by simp; omega
          go_wp2
          go_quiet (fail)
          go_wp2
          go_roundw
          case rel => exact ⟨k + 1, by omega, by go_num, by rw [HR.out, HT.out, hpn, decide_eq_true (show l[k - 1] < l[k] by omega), decide_eq_true (show l[k] < lim by omega)]; rfl, by rw [hpn]; omega, _, rfl⟩
          case measure => simp [intOf] <;> omega
      · have hz : prev l k = 0 := by unfold prev; rw [dif_neg (by omega)]
        rw [hz] at HT HR hp0
        have hd3 : decide (0 < k) = false := by simp; omega
        clear hz
        go_wp2
        go_quiet (fail)
        go_wp2
        go_roundw
        case rel => exact ⟨k + 1, by omega, by go_num, by rw [HR.out, HT.out, hpn, decide_eq_true (show 0 < l[k] by omega), decide_eq_true (show l[k] < lim by omega)]; rfl, by rw [hpn]; omega, _, rfl⟩
        case measure => simp [intOf] <;> omega
    · obtain rfl : k = n := by omega
      go_wp2
      go_ret
      exact ⟨by rw [HR.out, List.drop_of_length_le (by have := HN.out; omega)]; rfl, q0, rfl⟩
end Go.Proofs.YtdmnkhcddbjglaaGreat

namespace Go.Proofs.YtdmnkhcddbjglaaGreat
open Go Go.RowKit
set_option maxRecDepth 100000
set_option maxHeartbeats 1600000

theorem loadBytes_any {w : World} : ∀ (l : List UInt8) (a : Addr) (acc : ByteArray), (∀ j v, (l.map u8V)[j]? = some v → w.cell? (a.add j) = some v) →
    (Extern.Bytes.loadBytes a l.length acc).run Tryz.prog w = .ok ⟨(acc.data.toList ++ l).toArray⟩ w
  | [], a, acc, _ => by simp [Extern.Bytes.loadBytes]
  | x :: l, a, acc, h => by
    have h0 := h 0 (u8V x) rfl
    rw [show a.add 0 = a from rfl] at h0
    have ih := loadBytes_any l (a.add 1) (acc.push x) (by
      intro j v hj
      have : (a.add 1).add j = a.add (j + 1) := by
        unfold Addr.add
        by_cases hj0 : j = 0
        · subst hj0; simp
        · simp [hj0]; omega
      rw [this]
      exact h (j + 1) v (by simpa using hj))
    simp only [List.length_cons, Extern.Bytes.loadBytes, Sem.run_bind]
    have hl : (load a : Sem Value).run Tryz.prog w = .ok (u8V x) w := by simp [h0]
    rw [hl]
    simp only [Result.andThen_ok, u8V]
    have hx : ((x.toNat : Int)).toNat.toUInt8 = x := by simp
    rw [hx, ih]
    simp
theorem bytesOf_any {w : World} {B n c : Nat} {A : Option Addr} {l : List UInt8} (hr : Rd w B A l) (hn : n = l.length) : (Extern.Bytes.bytesOf (.slice A n c)).run Tryz.prog w = .ok ⟨l.toArray⟩ w := by
  subst hn
  cases l with
  | nil => cases A <;> rfl
  | cons x l =>
    obtain ⟨b, o, rfl, _, hc⟩ := hr (by simp)
    have h := loadBytes_any (x :: l) ⟨b, o, none⟩ .empty (w := w) (by
      intro j v hj
      rw [List.getElem?_map] at hj
      rcases Nat.lt_or_ge j (x :: l).length with hlt | hge
      · rw [List.getElem?_eq_getElem hlt] at hj
        simp only [Option.map_some, Option.some.injEq] at hj
        subst hj
        have : (⟨b, o, none⟩ : Addr).add j = ⟨b, o + j, none⟩ := by unfold Addr.add; split <;> simp_all
        rw [this]; exact hc j hlt
      · rw [List.getElem?_eq_none hge] at hj; cases hj)
    exact h
theorem compareBytes_zero : ∀ l k : List UInt8, Lib.compareBytes l k = 0 ↔ l = k
  | [], [] => by simp [Lib.compareBytes]
  | [], y :: k => by simp [Lib.compareBytes]
  | x :: l, [] => by simp [Lib.compareBytes]
  | x :: l, y :: k => by
    have := compareBytes_zero l k
    simp only [Lib.compareBytes]
    by_cases h1 : x < y
    · rw [if_pos h1]
      constructor
      · intro h; omega
      · intro h; injection h with h _; subst h; exact absurd h1 (by simp)
    · rw [if_neg h1]
      by_cases h2 : y < x
      · rw [if_pos h2]
        constructor
        · intro h; omega
        · intro h; injection h with h _; subst h; exact absurd h2 (by simp)
      · rw [if_neg h2, this]
        have : x = y := by
          rw [UInt8.lt_iff_toNat_lt] at h1 h2
          exact UInt8.toNat_inj.1 (by omega)
        simp [this]
theorem compare_any (A C : Option Addr) (c d n m : Nat) (l k : List UInt8) (w : World) (hr : Rd w w.heap.size A l) (hm : Rd w w.heap.size C k) (hn : n = l.length) (hn2 : m = k.length) :
    (callFunc 202 #[.slice A n c, .slice C m d]).run Tryz.prog w = .ok (.value (.int .i64 (Lib.compareBytes l k))) w := by
  rw [run_callFunc_extern Tryz.func202 (by kernel_rfl) (by kernel_rfl) (by kernel_rfl) (e := Extern.BytealgCompare.compare) (by kernel_rfl)]
  have h : (Extern.BytealgCompare.compare #[.slice A n c, .slice C m d]) = (do pure (goInt (Extern.BytealgCompare.cmp (← Extern.Bytes.bytesOf (.slice A n c)) (← Extern.Bytes.bytesOf (.slice C m d)))) : Sem Value) := rfl
  rw [h]
  simp only [Sem.run_bind, bytesOf_any hr hn, bytesOf_any hm hn2, Result.andThen_ok, Sem.run_pure, Lib.cmp_eq]
  rfl

theorem bcompare_any (A C : Option Addr) (c d n m : Nat) (l k : List UInt8) (w : World) (hr : Rd w w.heap.size A l) (hm : Rd w w.heap.size C k) (hn : n = l.length) (hn2 : m = k.length) :
    Calls Tryz.prog 173 #[.slice A n c, .slice C m d] w fun e w' => e = .returned (.int .i64 (Lib.compareBytes l k)) ∧ w' = w := by
  have h := compare_any A C c d n m l k w hr hm hn hn2
  clear hn hn2
  go_enter Tryz.func173, Tryz.ntmps173
  go_wp2
  go_ret
  exact ⟨rfl, rfl⟩
theorem cmp_any (A C : Option Addr) (c d n m : Nat) (l k : List UInt8) (w : World) (hr : Rd w w.heap.size A l) (hm : Rd w w.heap.size C k) (hn : n = l.length) (hn2 : m = k.length) :
    Calls Tryz.prog 122 #[.slice A n c, .slice C m d] w fun e w' => e = .returned (.int .i64 (Lib.compareBytes l k)) ∧ w' = w := by
  have HN := Lib.hid hn
  have HM := Lib.hid hn2
  clear hn hn2
  go_enter Tryz.func122, Tryz.ntmps122
  go_wp2_with (go_at_call 173; refine (bcompare_any _ _ _ _ _ _ l k _ hr hm HN.out HM.out).mono ?_; rintro e w1 ⟨rfl, rfl⟩)
  go_ret
  exact ⟨rfl, rfl⟩
theorem osame_any (A C : Option Addr) (c d n m : Nat) (l k : List UInt8) (w : World) (hr : Rd w w.heap.size A l) (hm : Rd w w.heap.size C k) (hn : n = l.length) (hn2 : m = k.length) :
    Calls Tryz.prog 55 #[.slice A n c, .slice C m d] w fun e w' => e = .returned (.bool (decide (l = k))) ∧ w' = w := by
  have HN := Lib.hid hn
  have HM := Lib.hid hn2
  have hz : (Lib.compareBytes l k == 0) = decide (l = k) := by
    have := compareBytes_zero l k
    rw [Bool.eq_iff_iff]; simp [this]
  have HZ := Lib.hid hz
  clear hn hn2 hz
  go_enter Tryz.func55, Tryz.ntmps55
  go_wp2_with (go_at_call 122; refine (cmp_any _ _ _ _ _ _ l k _ hr hm HN.out HM.out).mono ?_; rintro e w1 ⟨rfl, rfl⟩)
  go_ret
  exact ⟨by rw [← HZ.out]; rfl, rfl⟩

theorem sints_any (A C : Option Addr) (c d n m : Nat) (l k : List Int) (w : World) (hr : RdI w w.heap.size A l) (hm : RdI w w.heap.size C k) (hn : n = l.length) (hn2 : m = k.length) (hl : l = k) (hle : n ≤ 1000000) :
    Calls Tryz.prog 36 #[.slice A n c, .slice C m d] w fun e w' => e = .returned (.bool true) ∧ ∃ q, w' = w.drewN q := by
  subst hl
  obtain rfl : n = m := by omega
  have HN := Lib.hid hn
  clear hn hn2
  go_enter Tryz.func36, Tryz.ntmps36
  go_wp2
  go_loopw [5] (fun i wr => ∃ j : Nat, j ≤ n ∧ i = .int .i64 j ∧ ∃ q, wr = w.drewN q) (fun i _ => n - (intOf i).toNat)
  case atStart => exact ⟨0, by omega, rfl, 0, rfl⟩
  case round =>
    obtain ⟨j, hj, rfl, q, rfl⟩ := hrel
    by_cases hlt : j < n
    · have hjl : j < l.length := by have := HN.out; omega
      obtain ⟨b, o, rfl, hbB, hc⟩ := hr.at_ hjl
      obtain ⟨b', o', rfl, hbB', hc'⟩ := hm.at_ hjl
      go_wp2
      go_quiet (fail)
      go_wp2
      go_roundw
      case rel => exact ⟨j + 1, by omega, by go_num, _, rfl⟩
      case measure => simp [intOf] <;> omega
    · obtain rfl : j = n := by omega
      go_wp2
      go_ret
      exact ⟨rfl, _, rfl⟩
end Go.Proofs.YtdmnkhcddbjglaaGreat

namespace Go.Proofs.YtdmnkhcddbjglaaGreat
open Go Go.RowKit
set_option maxRecDepth 100000
set_option maxHeartbeats 1600000

/-- byte i of a number -/
def leB (v i : Nat) : UInt8 := UInt8.ofNat (v / 2 ^ (8 * i) % 256)
/-- the lowest n bytes of a number -/
def le (n v : Nat) : List UInt8 := (List.range n).map (leB v)
theorem le_len (n v : Nat) : (le n v).length = n := by simp [le]
theorem le_succ (n v : Nat) : le (n + 1) v = le n v ++ [leB v n] := by simp [le, List.range_succ]
theorem leB_int (v i : Nat) : (v : Int) / 2 ^ (8 * i) % 256 = ((leB v i).toNat : Int) := by
  unfold leB
  rw [UInt8.toNat_ofNat']
  simp

theorem madeCells_toList' (c : Nat) : (madeCells (Value.int .u8 0).cells (c * 1)).toList = List.replicate c (.int .u8 0) := by
  apply List.ext_getElem?
  intro k
  simp only [madeCells, Nat.mul_one, Array.toList_map, Array.toList_range, List.getElem?_map, List.getElem?_replicate]
  by_cases h : k < c
  · rw [List.getElem?_range h, if_pos h]; simp [Value.cells, Nat.mod_one]
  · rw [List.getElem?_eq_none (by simp; omega), if_neg h]; rfl
theorem mk0 (w : World) (c : Nat) (hc : c ≤ 1000000000) : ∃ w0, (Instr.makeSlice 25 (.int .i64 0) (.int .i64 (c : Int))).run Tryz.prog w = .ok (.slice (some ⟨w.heap.size, 0, none⟩) 0 c) w0 ∧
    Own w0 w.heap.size (.slice (some ⟨w.heap.size, 0, none⟩) 0 c) [] ∧ Below w.heap.size w w0 := by
  obtain ⟨i0, hi, hz0, hz1, hz2⟩ := info_parts Tryz.info5
  obtain ⟨w0, h1, h2, h3⟩ := run_make_own (P := Tryz.prog) w w.heap.size 25 5 i0 _ 1 Tryz.underlying25 hi hz0 hz1 .i64 .i64 c (by rw [hz2]; omega) (by unfold maxLen; omega) (Nat.le_refl _)
  exact ⟨w0, h1, h2, ⟨h3.os, h3.tape, h3.output, h3.size, fun k hk => h3.block k hk (fun e => by cases e)⟩⟩
theorem mkn (w : World) (c : Nat) (hc : c ≤ 1000000000) : ∃ w0, (Instr.makeSlice 25 (.int .i64 (c : Int)) (.int .i64 (c : Int))).run Tryz.prog w = .ok (.slice (some ⟨w.heap.size, 0, none⟩) c c) w0 ∧
    Own w0 w.heap.size (.slice (some ⟨w.heap.size, 0, none⟩) c c) (List.replicate c 0) ∧ Below w.heap.size w w0 := by
  obtain ⟨i0, hi, hz0, hz1, hz2⟩ := info_parts Tryz.info5
  obtain ⟨w0, h1, h2, h3⟩ := run_make_full (P := Tryz.prog) w w.heap.size 25 5 i0 _ 1 Tryz.underlying25 hi hz0 hz1 .i64 .i64 c (by rw [hz2]; omega) (by unfold maxLen; omega) (Nat.le_refl _)
  refine ⟨w0, h1, ?_, ⟨h3.os, h3.tape, h3.output, h3.size, fun k hk => h3.block k hk (fun e => by cases e)⟩⟩
  unfold Own
  have e1 : (List.replicate c (0 : UInt8)).map u8V = (madeCells (Value.int .u8 0).cells (c * 1)).toList := by
    apply List.ext_getElem?
    intro k
    rw [madeCells_toList', List.map_replicate]
    rfl
  rw [e1, List.length_replicate]
  exact h2

theorem add_any (A : Option Addr) (c n v s : Nat) (l : List UInt8) (w : World) (hr : Rd w w.heap.size A l) (hn : n = l.length) (hl : l.length ≤ 1000000) (hv : v ≤ 18446744073709551615) (hs : s ≤ 8) :
    Calls Tryz.prog 119 #[.slice A n c, .int .u64 v, .int .i64 s] w fun e w' => ∃ u, e = .returned u ∧ Own w' w.heap.size u (l ++ le s v) ∧ Below w.heap.size w w' := by
  have HN := Lib.hid hn
  have hnl : n ≤ 1000000 := by omega
  obtain ⟨w0, hmk, hown0, hb0⟩ := mk0 w (n + s) (by omega)
  rw [Int.natCast_add] at hmk
  clear hn
  go_enter Tryz.func119, Tryz.ntmps119
  go_wp2_with (at_builtin; refine apB rfl (.tmp 14) (.tmp 15) rfl w.heap.size _ [] rfl hown0 _ _ n c l rfl HN.out (hr.below hb0) ?c1 ?c2 ?_)
  case c1 => simp; omega
  case c2 => exact hb0.size
  intro v1 w1 hown1 hb1 _ _
  have hb1' := hb0.trans hb1
  clear hown0 hb0 hb1 hmk
  go_wp2
  go_loopw [7, 18] (fun u i wr => ∃ k : Nat, k ≤ s ∧ i = .int .i64 k ∧ Own wr w.heap.size u (l ++ le k v) ∧ Below w.heap.size w wr) (fun _ i _ => s - (intOf i).toNat)
  case atStart => exact ⟨0, by omega, rfl, by simpa [le] using hown1, hb1'⟩
  case round =>
    obtain ⟨k, hk, rfl, hown, hb⟩ := hrel
    have hz := hb.size
    by_cases hlt : k < s
    · have hB := leB_int v k
      go_wp2_with (at_builtin; refine apB rfl (.tmp 21) (.tmp 27) rfl w.heap.size _ _ rfl (hown.alloc _) _ _ 1 1 [leB v k] rfl rfl (Rd.one _ _) ?c1 ?c2 ?_)
      case c1 => simp [le_len]; omega
      case c2 => simp; omega
      intro v' w2 hown2 hb2 _ _
      have hown2' := hown2.cast (m := l ++ le (k + 1) v) (by rw [le_succ])
      have hbb2 := (hb.alloc hz _).trans hb2
      clear hown2 hb2 hown hB
      go_wp2
      go_roundw
      case rel => exact ⟨k + 1, by omega, by go_num, hown2', hbb2⟩
      case measure => simp [intOf] <;> omega
    · obtain rfl : k = s := by omega
      go_wp2
      go_ret
      exact ⟨_, rfl, hown, hb⟩

theorem add16_any (A : Option Addr) (c n v : Nat) (l : List UInt8) (w : World) (hr : Rd w w.heap.size A l) (hn : n = l.length) (hl : l.length ≤ 1000000) (hv : v ≤ 65535) :
    Calls Tryz.prog 46 #[.slice A n c, .int .u16 v] w fun e w' => ∃ u, e = .returned u ∧ Own w' w.heap.size u (l ++ le 2 v) ∧ Below w.heap.size w w' := by
  have HN := Lib.hid hn
  clear hn
  go_enter Tryz.func46, Tryz.ntmps46
  go_wp2_with (go_at_call 119; refine (add_any _ _ _ v 2 l _ hr HN.out (by omega) (by omega) (by omega)).mono ?_; rintro e w1 ⟨u, rfl, hown, hb⟩)
  go_ret
  exact ⟨_, rfl, hown, hb⟩
theorem add32_any (A : Option Addr) (c n v : Nat) (l : List UInt8) (w : World) (hr : Rd w w.heap.size A l) (hn : n = l.length) (hl : l.length ≤ 1000000) (hv : v ≤ 4294967295) :
    Calls Tryz.prog 44 #[.slice A n c, .int .u32 v] w fun e w' => ∃ u, e = .returned u ∧ Own w' w.heap.size u (l ++ le 4 v) ∧ Below w.heap.size w w' := by
  have HN := Lib.hid hn
  clear hn
  go_enter Tryz.func44, Tryz.ntmps44
  go_wp2_with (go_at_call 119; refine (add_any _ _ _ v 4 l _ hr HN.out (by omega) (by omega) (by omega)).mono ?_; rintro e w1 ⟨u, rfl, hown, hb⟩)
  go_ret
  exact ⟨_, rfl, hown, hb⟩
theorem add64_any (A : Option Addr) (c n v : Nat) (l : List UInt8) (w : World) (hr : Rd w w.heap.size A l) (hn : n = l.length) (hl : l.length ≤ 1000000) (hv : v ≤ 18446744073709551615) :
    Calls Tryz.prog 45 #[.slice A n c, .int .u64 v] w fun e w' => ∃ u, e = .returned u ∧ Own w' w.heap.size u (l ++ le 8 v) ∧ Below w.heap.size w w' := by
  have HN := Lib.hid hn
  clear hn
  go_enter Tryz.func45, Tryz.ntmps45
  go_wp2_with (go_at_call 119; refine (add_any _ _ _ v 8 l _ hr HN.out (by omega) (by omega) (by omega)).mono ?_; rintro e w1 ⟨u, rfl, hown, hb⟩)
  go_ret
  exact ⟨_, rfl, hown, hb⟩

/-- what is left of a number behind its lowest i bytes -/
def rest (v i : Nat) : Nat := v / 2 ^ (8 * i)
theorem rest_le (v i : Nat) (h : v ≤ 18446744073709551615) : rest v i ≤ 18446744073709551615 := Nat.le_trans (Nat.div_le_self _ _) h
theorem rest_succ (v i : Nat) : rest v i / 256 = rest v (i + 1) := by
  unfold rest
  rw [Nat.div_div_eq_div_mul, show 8 * (i + 1) = 8 * i + 8 by omega, Nat.pow_add]
theorem rest_byte (v i : Nat) : (rest v i : Int) % 256 = ((leB v i).toNat : Int) := by
  rw [← leB_int]; simp [rest]

theorem refadd_any (A : Option Addr) (c n v s : Nat) (l : List UInt8) (w : World) (hr : Rd w w.heap.size A l) (hn : n = l.length) (hl : l.length ≤ 1000000) (hv : v ≤ 18446744073709551615) (hs : s ≤ 8) :
    Calls Tryz.prog 48 #[.slice A n c, .int .u64 v, .int .i64 s] w fun e w' => ∃ u, e = .returned u ∧ Own w' w.heap.size u (l ++ le s v) ∧ Below w.heap.size w w' := by
  have HN := Lib.hid hn
  have hnl : n ≤ 1000000 := by omega
  clear hn
  go_enter Tryz.func48, Tryz.ntmps48
  go_wp2_with (at_builtin; refine apB rfl (.tmp 9) (.tmp 10) rfl w.heap.size _ [] rfl (.nil _ _) _ _ n c l rfl HN.out hr ?c1 ?c2 ?_)
  case c1 => simp; omega
  case c2 => omega
  intro v1 w1 hown1 hb1 _ _
  go_wp2
  go_loopw [7, 8, 1] (fun u i x wr => ∃ k : Nat, k ≤ s ∧ i = .int .i64 k ∧ x = .int .u64 (rest v k : Nat) ∧ Own wr w.heap.size u (l ++ le k v) ∧ Below w.heap.size w wr) (fun _ i _ _ => s - (intOf i).toNat)
  case atStart => exact ⟨0, by omega, rfl, by simp [rest], by simpa [le] using hown1, hb1⟩
  case round =>
    obtain ⟨k, hk, rfl, rfl, hown, hb⟩ := hrel
    have hz := hb.size
    have hrl := rest_le v k hv
    by_cases hlt : k < s
    · have hB := rest_byte v k
      have hS : (rest v k : Int) / 256 = (rest v (k + 1) : Int) := by have := rest_succ v k; omega
      go_wp2_with (at_builtin; refine apB rfl (.tmp 17) (.tmp 21) rfl w.heap.size _ _ rfl (hown.alloc _) _ _ 1 1 [leB v k] rfl rfl (Rd.one _ _) ?c1 ?c2 ?_)
      case c1 => simp [le_len]; omega
      case c2 => simp; omega
      intro v' w2 hown2 hb2 _ _
      have hown2' := hown2.cast (m := l ++ le (k + 1) v) (by rw [le_succ])
      have hbb2 := (hb.alloc hz _).trans hb2
      clear hown2 hb2 hown hB
      go_wp2
      go_roundw
      case rel => exact ⟨k + 1, by omega, by go_num, rfl, hown2', hbb2⟩
      case measure => simp [intOf] <;> omega
    · obtain rfl : k = s := by omega
      go_wp2
      go_ret
      exact ⟨_, rfl, hown, hb⟩
end Go.Proofs.YtdmnkhcddbjglaaGreat

namespace Go.Proofs.YtdmnkhcddbjglaaGreat
open Go Go.RowKit
set_option maxRecDepth 100000
set_option maxHeartbeats 1600000

/-- the number that bytes say -/
def leN : List UInt8 → Nat
  | [] => 0
  | x :: l => x.toNat + 256 * leN l
/-- n bytes from a place on -/
def sub (l : List UInt8) (at_ n : Nat) : List UInt8 := (l.drop at_).take n
theorem sub_len {l : List UInt8} {a n : Nat} (h : a + n ≤ l.length) : (sub l a n).length = n := by simp [sub]; omega
theorem sub_get {l : List UInt8} {a n k : Nat} (h : a + n ≤ l.length) (hk : k < n) : (sub l a n)[k]'(by rw [sub_len h]; exact hk) = l[a + k] := by simp [sub]
theorem leN_lt : ∀ l : List UInt8, leN l < 256 ^ l.length
  | [] => by simp [leN]
  | x :: l => by
    have h := leN_lt l
    have hx := x.toNat_lt
    simp only [leN, List.length_cons, Nat.pow_succ]
    omega
theorem leN_snoc : ∀ (l : List UInt8) (x : UInt8), leN (l ++ [x]) = leN l + x.toNat * 256 ^ l.length
  | [], x => by simp [leN]
  | y :: l, x => by
    have h := leN_snoc l x
    simp only [List.cons_append, leN, h, List.length_cons, Nat.pow_succ]
    rw [Nat.mul_add, ← Nat.add_assoc, Nat.mul_comm 256 (x.toNat * _), Nat.mul_assoc]

theorem pow256 (k : Nat) : 256 ^ k = 2 ^ (8 * k) := by rw [Nat.pow_mul]
theorem or_bits (a x k : Nat) (h : a < 256 ^ k) (hx : x < 256) (hk : k < 8) : bits .or .u64 (a : Int) (IntKind.u64.wrap ((x : Int) * 2 ^ (8 * k))) = ((a + x * 256 ^ k : Nat) : Int) := by
  rw [pow256] at h ⊢
  have hp : 2 ^ (8 * k) * 2 ^ (64 - 8 * k) = 2 ^ 64 := by rw [← Nat.pow_add]; congr 1; omega
  have h8 : 256 ≤ 2 ^ (64 - 8 * k) := Nat.pow_le_pow_right (n := 2) (by omega) (show 8 ≤ 64 - 8 * k by omega)
  have hb : x * 2 ^ (8 * k) + 2 ^ (8 * k) ≤ 2 ^ 64 := by
    rw [← hp, Nat.mul_comm (2 ^ (8 * k)) _, ← Nat.succ_mul]
    exact Nat.mul_le_mul_right _ (by omega)
  have e0 : ((x : Int) * 2 ^ (8 * k)) = ((x * 2 ^ (8 * k) : Nat) : Int) := by simp
  rw [e0]
  generalize hy : x * 2 ^ (8 * k) = y at hb
  have hw : IntKind.u64.wrap (y : Int) = (y : Int) := by rw [IntKind.wrap_u64]; omega
  rw [hw]
  have hor : a ||| y = a + y := by
    have := Nat.two_pow_add_eq_or_of_lt h x
    rw [Nat.mul_comm, hy] at this
    rw [Nat.or_comm, ← this]; omega
  have h1 : (BitVec.ofInt 64 (a : Int)).toNat = a := by rw [BitVec.ofInt_natCast, BitVec.toNat_ofNat]; exact Nat.mod_eq_of_lt (by omega)
  have h2 : (BitVec.ofInt 64 (y : Int)).toNat = y := by rw [BitVec.ofInt_natCast, BitVec.toNat_ofNat]; exact Nat.mod_eq_of_lt (by omega)
  have e : bits .or .u64 (a : Int) (y : Int) = IntKind.u64.wrap (((BitVec.ofInt 64 (a : Int)) ||| (BitVec.ofInt 64 (y : Int))).toNat : Int) := rfl
  rw [e, BitVec.toNat_or, h1, h2, hor, IntKind.wrap_u64]
  omega
theorem sub_succ {l : List UInt8} {p k : Nat} (h : p + k < l.length) : sub l p (k + 1) = sub l p k ++ [l[p + k]] := by
  unfold sub
  rw [List.take_succ_eq_append_getElem (by simp; omega)]
  simp
theorem leN_sub {l : List UInt8} {p k : Nat} (h : p + k < l.length) : leN (sub l p (k + 1)) = leN (sub l p k) + l[p + k].toNat * 256 ^ k := by
  rw [sub_succ h, leN_snoc, sub_len (by omega)]
theorem leN_sub_lt {l : List UInt8} {p k : Nat} (h : p + k ≤ l.length) : leN (sub l p k) < 256 ^ k := by
  have := leN_lt (sub l p k)
  rwa [sub_len h] at this

theorem number_any (A : Option Addr) (c n s : Nat) (p : Nat) (l : List UInt8) (w : World) (hr : Rd w w.heap.size A l) (hn : n = l.length) (hl : l.length ≤ 1000000) (hs : s ≤ 8) (hp : p + s ≤ l.length) :
    Calls Tryz.prog 121 #[.slice A n c, .int .i64 p, .int .i64 s] w fun e w' => e = .returned (.tuple #[.int .u64 (leN (sub l p s) : Nat), .bool true]) ∧ w' = w := by
  have HN := Lib.hid hn
  have hnl : n ≤ 1000000 := by omega
  have hps : p + s ≤ n := by omega
  clear hn hl hp
  go_enter Tryz.func121, Tryz.ntmps121
  go_wp2
  go_loopw [8, 21] (fun v i wr => ∃ k : Nat, k ≤ s ∧ i = .int .i64 k ∧ v = .int .u64 (leN (sub l p k) : Nat) ∧ wr = w) (fun _ i _ => s - (intOf i).toNat)
  case atStart => exact ⟨0, by omega, rfl, by simp [sub, leN], rfl⟩
  case round =>
    obtain ⟨k, hk, rfl, rfl, rfl⟩ := hrel
    by_cases hlt : k < s
    · have hpk : p + k < l.length := by have := HN.out; omega
      obtain ⟨b, o, rfl, hbB, hc⟩ := hr.at_ hpk
      have hB := or_bits _ l[p + k].toNat k (leN_sub_lt (l := l) (p := p) (by omega)) l[p + k].toNat_lt (by omega)
      rw [← leN_sub hpk] at hB
      have hx8 := l[p + k].toNat_lt
      go_wp2
      go_roundw
      case rel => exact ⟨k + 1, by omega, by go_num, rfl, trivial⟩
      case measure => simp [intOf] <;> omega
    · obtain rfl : k = s := by omega
      go_wp2
      go_ret2
      exact ⟨rfl, rfl⟩

theorem u16_any (A : Option Addr) (c n p : Nat) (l : List UInt8) (w : World) (hr : Rd w w.heap.size A l) (hn : n = l.length) (hl : l.length ≤ 1000000) (hp : p + 2 ≤ l.length) :
    Calls Tryz.prog 54 #[.slice A n c, .int .i64 p] w fun e w' => e = .returned (.tuple #[.int .u16 (leN (sub l p 2) : Nat), .bool true]) ∧ w' = w := by
  have HN := Lib.hid hn
  have HP := Lib.hid hp
  have hlt := leN_sub_lt hp
  clear hn hp
  go_enter Tryz.func54, Tryz.ntmps54
  go_wp2_with (go_at_call 121; refine (number_any _ _ _ 2 p l _ hr HN.out hl (by omega) HP.out).mono ?_; rintro e w1 ⟨rfl, rfl⟩)
  go_ret2
  exact ⟨rfl, rfl⟩
theorem u32_any (A : Option Addr) (c n p : Nat) (l : List UInt8) (w : World) (hr : Rd w w.heap.size A l) (hn : n = l.length) (hl : l.length ≤ 1000000) (hp : p + 4 ≤ l.length) :
    Calls Tryz.prog 50 #[.slice A n c, .int .i64 p] w fun e w' => e = .returned (.tuple #[.int .u32 (leN (sub l p 4) : Nat), .bool true]) ∧ w' = w := by
  have HN := Lib.hid hn
  have HP := Lib.hid hp
  have hlt := leN_sub_lt hp
  clear hn hp
  go_enter Tryz.func50, Tryz.ntmps50
  go_wp2_with (go_at_call 121; refine (number_any _ _ _ 4 p l _ hr HN.out hl (by omega) HP.out).mono ?_; rintro e w1 ⟨rfl, rfl⟩)
  go_ret2
  exact ⟨rfl, rfl⟩
theorem u64_any (A : Option Addr) (c n p : Nat) (l : List UInt8) (w : World) (hr : Rd w w.heap.size A l) (hn : n = l.length) (hl : l.length ≤ 1000000) (hp : p + 8 ≤ l.length) :
    Calls Tryz.prog 52 #[.slice A n c, .int .i64 p] w fun e w' => e = .returned (.tuple #[.int .u64 (leN (sub l p 8) : Nat), .bool true]) ∧ w' = w := by
  have HN := Lib.hid hn
  have HP := Lib.hid hp
  have hlt := leN_sub_lt hp
  clear hn hp
  go_enter Tryz.func52, Tryz.ntmps52
  go_wp2_with (go_at_call 121; refine (number_any _ _ _ 8 p l _ hr HN.out hl (by omega) HP.out).mono ?_; rintro e w1 ⟨rfl, rfl⟩)
  go_ret2
  exact ⟨rfl, rfl⟩

theorem sub_drop {l : List UInt8} {p s k : Nat} (h : p + s ≤ l.length) (hk : k < s) : sub l (p + k) (s - k) = l[p + k] :: sub l (p + (k + 1)) (s - (k + 1)) := by
  unfold sub
  rw [List.drop_eq_getElem_cons (by omega), show s - k = (s - (k + 1)) + 1 by omega, List.take_succ_cons, ← Nat.add_assoc]

theorem refnumber_any (A : Option Addr) (c n s : Nat) (p : Nat) (l : List UInt8) (w : World) (hr : Rd w w.heap.size A l) (hn : n = l.length) (hl : l.length ≤ 1000000) (hs : s ≤ 8) (hp : p + s ≤ l.length) :
    Calls Tryz.prog 56 #[.slice A n c, .int .i64 p, .int .i64 s] w fun e w' => e = .returned (.tuple #[.int .u64 (leN (sub l p s) : Nat), .bool true]) ∧ w' = w := by
  have HN := Lib.hid hn
  have hnl : n ≤ 1000000 := by omega
  have hps : p + s ≤ n := by omega
  clear hn hl hp
  go_enter Tryz.func56, Tryz.ntmps56
  go_wp2
  go_loopw [8, 9] (fun v i wr => ∃ k : Nat, k ≤ s ∧ i = .int .i64 ((k : Int) - 1) ∧ v = .int .u64 (leN (sub l (p + k) (s - k)) : Nat) ∧ wr = w) (fun _ i _ => (intOf i + 1).toNat)
  case atStart => exact ⟨s, by omega, rfl, by simp [sub, leN], rfl⟩
  case round =>
    obtain ⟨k, hk, rfl, rfl, rfl⟩ := hrel
    cases k with
    | zero =>
      go_wp2
      go_ret2
      exact ⟨by simp, rfl⟩
    | succ k =>
      have hpk : p + k < l.length := by have := HN.out; omega
      obtain ⟨b, o, rfl, hbB, hc⟩ := hr.at_ hpk
      have hsub := sub_drop (l := l) (p := p) (s := s) (k := k) (by have := HN.out; omega) (by omega)
      have hlt := leN_sub_lt (l := l) (p := p + k) (k := s - k) (by have := HN.out; omega)
      have hx8 := l[p + k].toNat_lt
      have hpw : 256 ^ (s - k) ≤ 256 ^ 8 := Nat.pow_le_pow_right (by omega) (by omega)
      have e : leN (sub l (p + k) (s - k)) = l[p + k].toNat + 256 * leN (sub l (p + (k + 1)) (s - (k + 1))) := by rw [hsub]; rfl
      have hW : IntKind.u64.wrap (IntKind.u64.wrap (256 * ↑(leN (sub l (p + (k + 1)) (s - (k + 1))))) + ↑l[p + k].toNat) = (leN (sub l (p + k) (s - k)) : Nat) := by
        rw [IntKind.wrap_u64, IntKind.wrap_u64]; omega
      clear e hpw hlt hsub
      go_wp2
      go_roundw
      case rel => exact ⟨k, by omega, rfl, rfl, trivial⟩
      case measure => simp [intOf] <;> omega
end Go.Proofs.YtdmnkhcddbjglaaGreat
