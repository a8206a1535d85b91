/-
  bytes.Compare, octets.Cmp, octets.Same, chancerylow.SameInts: what each call does.
-/
import Derived.Test.YtdmnkhcddbjglaaGreatHInt
import Derived.Lib.Bytealg
import Derived.Laws.Externs
namespace Go.Proofs.YtdmnkhcddbjglaaGreat
open Go Go.RowKit
set_option maxRecDepth 100000
set_option maxHeartbeats 1600000

theorem loadBytes_any {w : World} : ∀ (l : List UInt8) (a : Addr) (acc : ByteArray), (∀ j v, (l.map u8V)[j]? = some v → w.cell? (a.add j) = some v) →
    (Extern.Bytes.loadBytes a l.length acc).run Tryz.prog w = .ok ⟨(acc.data.toList ++ l).toArray⟩ w
  | [], a, acc, _ => by simp [Extern.Bytes.loadBytes]
  | x :: l, a, acc, h => by
    have h0 := h 0 (u8V x) rfl
    rw [show a.add 0 = a from rfl] at h0
    have ih := loadBytes_any l (a.add 1) (acc.push x) (by
      intro j v hj
      have : (a.add 1).add j = a.add (j + 1) := by
        unfold Addr.add
        by_cases hj0 : j = 0
        · subst hj0; simp
        · simp [hj0]; omega
      rw [this]
      exact h (j + 1) v (by simpa using hj))
    simp only [List.length_cons, Extern.Bytes.loadBytes, Sem.run_bind]
    have hl : (load a : Sem Value).run Tryz.prog w = .ok (u8V x) w := by simp [h0]
    rw [hl]
    simp only [Result.andThen_ok, u8V]
    have hx : ((x.toNat : Int)).toNat.toUInt8 = x := by simp
    rw [hx, ih]
    simp
theorem bytesOf_any {w : World} {B n c : Nat} {A : Option Addr} {l : List UInt8} (hr : Rd w B A l) (hn : n = l.length) : (Extern.Bytes.bytesOf (.slice A n c)).run Tryz.prog w = .ok ⟨l.toArray⟩ w := by
  subst hn
  cases l with
  | nil => cases A <;> rfl
  | cons x l =>
    obtain ⟨b, o, rfl, _, hc⟩ := hr (by simp)
    have h := loadBytes_any (x :: l) ⟨b, o, none⟩ .empty (w := w) (by
      intro j v hj
      rw [List.getElem?_map] at hj
      rcases Nat.lt_or_ge j (x :: l).length with hlt | hge
      · rw [List.getElem?_eq_getElem hlt] at hj
        simp only [Option.map_some, Option.some.injEq] at hj
        subst hj
        have : (⟨b, o, none⟩ : Addr).add j = ⟨b, o + j, none⟩ := by unfold Addr.add; split <;> simp_all
        rw [this]; exact hc j hlt
      · rw [List.getElem?_eq_none hge] at hj; cases hj)
    exact h
theorem compareBytes_zero : ∀ l k : List UInt8, Lib.compareBytes l k = 0 ↔ l = k
  | [], [] => by simp [Lib.compareBytes]
  | [], y :: k => by simp [Lib.compareBytes]
  | x :: l, [] => by simp [Lib.compareBytes]
  | x :: l, y :: k => by
    have := compareBytes_zero l k
    simp only [Lib.compareBytes]
    by_cases h1 : x < y
    · rw [if_pos h1]
      constructor
      · intro h; omega
      · intro h; injection h with h _; subst h; exact absurd h1 (by simp)
    · rw [if_neg h1]
      by_cases h2 : y < x
      · rw [if_pos h2]
        constructor
        · intro h; omega
        · intro h; injection h with h _; subst h; exact absurd h2 (by simp)
      · rw [if_neg h2, this]
        have : x = y := by
          rw [UInt8.lt_iff_toNat_lt] at h1 h2
          exact UInt8.toNat_inj.1 (by omega)
        simp [this]
theorem compare_any (A C : Option Addr) (c d n m : Nat) (l k : List UInt8) (w : World) (hr : Rd w w.heap.size A l) (hm : Rd w w.heap.size C k) (hn : n = l.length) (hn2 : m = k.length) :
    (callFunc 202 #[.slice A n c, .slice C m d]).run Tryz.prog w = .ok (.value (.int .i64 (Lib.compareBytes l k))) w := by
  rw [run_callFunc_extern Tryz.func202 (by kernel_rfl) (by kernel_rfl) (by kernel_rfl) (e := Extern.BytealgCompare.compare) (by kernel_rfl)]
  have h : (Extern.BytealgCompare.compare #[.slice A n c, .slice C m d]) = (do pure (goInt (Extern.BytealgCompare.cmp (← Extern.Bytes.bytesOf (.slice A n c)) (← Extern.Bytes.bytesOf (.slice C m d)))) : Sem Value) := rfl
  rw [h]
  simp only [Sem.run_bind, bytesOf_any hr hn, bytesOf_any hm hn2, Result.andThen_ok, Sem.run_pure, Lib.cmp_eq]
  rfl

theorem bcompare_any (A C : Option Addr) (c d n m : Nat) (l k : List UInt8) (w : World) (hr : Rd w w.heap.size A l) (hm : Rd w w.heap.size C k) (hn : n = l.length) (hn2 : m = k.length) :
    Calls Tryz.prog 173 #[.slice A n c, .slice C m d] w fun e w' => e = .returned (.int .i64 (Lib.compareBytes l k)) ∧ w' = w := by
  have h := compare_any A C c d n m l k w hr hm hn hn2
  clear hn hn2
  go_enter Tryz.func173, Tryz.ntmps173
  go_wp2
  go_ret
  exact ⟨rfl, rfl⟩
theorem cmp_any (A C : Option Addr) (c d n m : Nat) (l k : List UInt8) (w : World) (hr : Rd w w.heap.size A l) (hm : Rd w w.heap.size C k) (hn : n = l.length) (hn2 : m = k.length) :
    Calls Tryz.prog 122 #[.slice A n c, .slice C m d] w fun e w' => e = .returned (.int .i64 (Lib.compareBytes l k)) ∧ w' = w := by
  have HN := Lib.hid hn
  have HM := Lib.hid hn2
  clear hn hn2
  go_enter Tryz.func122, Tryz.ntmps122
  go_wp2_with (go_at_call 173; refine (bcompare_any _ _ _ _ _ _ l k _ hr hm HN.out HM.out).mono ?_; rintro e w1 ⟨rfl, rfl⟩)
  go_ret
  exact ⟨rfl, rfl⟩
theorem osame_any (A C : Option Addr) (c d n m : Nat) (l k : List UInt8) (w : World) (hr : Rd w w.heap.size A l) (hm : Rd w w.heap.size C k) (hn : n = l.length) (hn2 : m = k.length) :
    Calls Tryz.prog 55 #[.slice A n c, .slice C m d] w fun e w' => e = .returned (.bool (decide (l = k))) ∧ w' = w := by
  have HN := Lib.hid hn
  have HM := Lib.hid hn2
  have hz : (Lib.compareBytes l k == 0) = decide (l = k) := by
    have := compareBytes_zero l k
    rw [Bool.eq_iff_iff]; simp [this]
  have HZ := Lib.hid hz
  clear hn hn2 hz
  go_enter Tryz.func55, Tryz.ntmps55
  go_wp2_with (go_at_call 122; refine (cmp_any _ _ _ _ _ _ l k _ hr hm HN.out HM.out).mono ?_; rintro e w1 ⟨rfl, rfl⟩)
  go_ret
  exact ⟨by rw [← HZ.out]; rfl, rfl⟩

theorem sints_any (A C : Option Addr) (c d n m : Nat) (l k : List Int) (w : World) (hr : RdI w w.heap.size A l) (hm : RdI w w.heap.size C k) (hn : n = l.length) (hn2 : m = k.length) (hl : l = k) (hle : n ≤ 1000000) :
    Calls Tryz.prog 36 #[.slice A n c, .slice C m d] w fun e w' => e = .returned (.bool true) ∧ ∃ q, w' = w.drewN q := by
  subst hl
  obtain rfl : n = m := by omega
  have HN := Lib.hid hn
  clear hn hn2
  go_enter Tryz.func36, Tryz.ntmps36
  go_wp2
  go_loopw [5] (fun i wr => ∃ j : Nat, j ≤ n ∧ i = .int .i64 j ∧ ∃ q, wr = w.drewN q) (fun i _ => n - (intOf i).toNat)
  case atStart => exact ⟨0, by omega, rfl, 0, rfl⟩
  case round =>
    obtain ⟨j, hj, rfl, q, rfl⟩ := hrel
    by_cases hlt : j < n
    · have hjl : j < l.length := by have := HN.out; omega
      obtain ⟨b, o, rfl, hbB, hc⟩ := hr.at_ hjl
      obtain ⟨b', o', rfl, hbB', hc'⟩ := hm.at_ hjl
      go_wp2
      go_quiet (fail)
      go_wp2
      go_roundw
      case rel => exact ⟨j + 1, by omega, by go_num, _, rfl⟩
      case measure => simp [intOf] <;> omega
    · obtain rfl : j = n := by omega
      go_wp2
      go_ret
      exact ⟨rfl, _, rfl⟩
end Go.Proofs.YtdmnkhcddbjglaaGreat
