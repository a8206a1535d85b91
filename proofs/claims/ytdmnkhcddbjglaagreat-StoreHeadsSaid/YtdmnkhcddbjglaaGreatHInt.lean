/-
  Rows of numbers: store.below, chanceryref15.numbers, chancerylow.SameInts: what each call does.
-/
import Derived.Test.YtdmnkhcddbjglaaGreatHKept
namespace Go.Proofs.YtdmnkhcddbjglaaGreat
open Go Go.RowKit
set_option maxRecDepth 100000
set_option maxHeartbeats 1600000

/-- the slice 'A' of these numbers lies below block B -/
def RdI (w : World) (B : Nat) (A : Option Addr) (l : List Int) : Prop :=
  l ≠ [] → ∃ b o, A = some ⟨b, o, none⟩ ∧ b < B ∧ ∀ k (h : k < l.length), w.cell? ⟨b, o + k, none⟩ = some (.int .i64 l[k])

section
variable {w w' : World} {B B' : Nat} {A : Option Addr} {l : List Int} {v : Value}
theorem RdI.nil (w : World) (B : Nat) (A : Option Addr) : RdI w B A [] := fun h => absurd rfl h
theorem RdI.keep (h : RdI w B A l) (hk : ∀ p : Addr, p.block < B → w'.cell? p = w.cell? p) : RdI w' B A l := fun hl => by
  obtain ⟨b, o, e, hb, hc⟩ := h hl
  exact ⟨b, o, e, hb, fun k hk' => (hk _ hb).trans (hc k hk')⟩
theorem RdI.more (h : RdI w B A l) (hB : B ≤ B') : RdI w B' A l := fun hl => by
  obtain ⟨b, o, e, hb, hc⟩ := h hl
  exact ⟨b, o, e, by omega, hc⟩
theorem RdI.below (h : RdI w B A l) (hb : Below B w w') : RdI w' B A l := h.keep fun _ hp => hb.cell hp
theorem RdI.belowS (h : RdI w w.heap.size A l) (hb : Below w.heap.size w w') : RdI w' w'.heap.size A l := (h.below hb).more hb.size
theorem RdI.at_ (h : RdI w B A l) {k : Nat} (hk : k < l.length) : ∃ b o, A = some ⟨b, o, none⟩ ∧ b < B ∧ w.cell? ⟨b, o + k, none⟩ = some (.int .i64 l[k]) := by
  obtain ⟨b, o, e, hb, hc⟩ := h (by rintro rfl; simp at hk)
  exact ⟨b, o, e, hb, hc k hk⟩
theorem RdI.alloc (h : RdI w B A l) (hB : B ≤ w.heap.size) (o : Obj) : RdI (w.alloc o) B A l := h.keep fun p hp => World.cell?_alloc_lt w o p (by omega)
theorem RdI.drew (h : RdI w B A l) : RdI w.drew B A l := h.keep fun _ _ => rfl
end

/-- do numbers rise, from above a on, below lim? -/
def rise (lim : Int) : Int → List Int → Bool
  | _, [] => true
  | a, n :: l => decide (a < n) && (decide (n < lim) && rise lim n l)

theorem rise_at {lim a : Int} {l : List Int} {k : Nat} (hk : k < l.length) : rise lim a (l.drop k) = (decide (a < l[k]) && (decide (l[k] < lim) && rise lim l[k] (l.drop (k + 1)))) := by
  rw [List.drop_eq_getElem_cons hk, rise]

theorem below_any (A : Option Addr) (c n : Nat) (lim : Int) (l : List Int) (w : World) (hr : RdI w w.heap.size A l) (hn : n = l.length) (hl : l.length ≤ 140737488355328) :
    Calls Tryz.prog 118 #[.slice A n c, .int .i64 lim] w fun e w' => e = .returned (.bool (rise lim 0 l)) ∧ w' = w := by
  have HN := Lib.hid hn
  have hnl : n ≤ 140737488355328 := by omega
  clear hn hl
  go_enter Tryz.func118, Tryz.ntmps118
  go_wp2
  go_loopw [5, 10] (fun x i wr => ∃ (k : Nat) (a : Int), k ≤ n ∧ i = .int .i64 k ∧ x = .int .i64 a ∧ rise lim 0 l = rise lim a (l.drop k) ∧ wr = w) (fun _ i _ => n - (intOf i).toNat)
  case atStart => exact ⟨0, 0, by omega, rfl, rfl, by simp, rfl⟩
  case round =>
    obtain ⟨k, a, hk, rfl, rfl, hrise, rfl⟩ := hrel
    have HR := Lib.hid hrise
    clear hrise
    by_cases hlt : k < n
    · have hkl : k < l.length := by have := HN.out; omega
      have hat := rise_at (lim := lim) (a := a) hkl
      obtain ⟨b, o, rfl, hbB, hc⟩ := hr.at_ hkl
      by_cases h1 : a < l[k]
      · by_cases h2 : l[k] < lim
        · have HT := Lib.hid hat
          clear hat
          go_wp2
          go_roundw
          case rel => exact ⟨k + 1, l[k], by omega, by go_num, rfl, by rw [HR.out, HT.out]; simp [h1, h2], trivial⟩
          case measure => simp [intOf] <;> omega
        · have HT := Lib.hid hat
          clear hat
          go_wp2
          go_ret
          exact ⟨by rw [HR.out, HT.out]; simp; intros; omega, rfl⟩
      · have HT := Lib.hid hat
        clear hat
        go_wp2
        go_ret
        exact ⟨by rw [HR.out, HT.out]; simp; intros; omega, rfl⟩
    · obtain rfl : k = n := by omega
      go_wp2
      go_ret
      exact ⟨by rw [HR.out, List.drop_of_length_le (by have := HN.out; omega)]; rfl, rfl⟩

/-- the number ahead of place k -/
def prev (l : List Int) (k : Nat) : Int := if h : 0 < k ∧ k ≤ l.length then l[k - 1]'(by omega) else 0

theorem prev_succ {l : List Int} {k : Nat} (h : k < l.length) : prev l (k + 1) = l[k] := by
  unfold prev
  rw [dif_pos ⟨by omega, by omega⟩]
  rfl

theorem drewN_below (w : World) (B n : Nat) : Below B w (w.drewN n) := ⟨rfl, rfl, rfl, Nat.le_refl _, fun _ _ => rfl⟩

theorem numbers_any (A : Option Addr) (c n : Nat) (lim : Int) (l : List Int) (w : World) (hr : RdI w w.heap.size A l) (hn : n = l.length) (hl : l.length ≤ 140737488355328) :
    Calls Tryz.prog 120 #[.slice A n c, .int .i64 lim] w fun e w' => e = .returned (.bool (rise lim 0 l)) ∧ ∃ q, w' = w.drewN q := by
  have HN := Lib.hid hn
  have hnl : n ≤ 140737488355328 := by omega
  clear hn hl
  go_enter Tryz.func120, Tryz.ntmps120
  go_wp2
  go_loopw [5] (fun i wr => ∃ (k : Nat), k ≤ n ∧ i = .int .i64 k ∧ rise lim 0 l = rise lim (prev l k) (l.drop k) ∧ 0 ≤ prev l k ∧ ∃ q, wr = w.drewN q) (fun i _ => n - (intOf i).toNat)
  case atStart => exact ⟨0, by omega, rfl, by simp [prev], by simp [prev], 0, rfl⟩
  case round =>
    obtain ⟨k, hk, rfl, hrise, hp0, q0, rfl⟩ := hrel
    have HR := Lib.hid hrise
    clear hrise
    by_cases hlt : k < n
    · have hkl : k < l.length := by have := HN.out; omega
      have HT := Lib.hid (rise_at (lim := lim) (a := prev l k) hkl)
      obtain ⟨b, o, rfl, hbB, hc⟩ := hr.at_ hkl
      have hpn : prev l (k + 1) = l[k] := prev_succ hkl
      have fin : ∀ n1, ∃ q, (w.drewN q0).drewN n1 = w.drewN q := fun n1 => ⟨q0 + n1, by rw [World.drewN_drewN]⟩
      by_cases h1 : l[k] < 1
      · have hd1 : decide (l[k] < 1) = true := by simp [h1]
        go_wp2
        go_quiet (fail)
        go_wp2
        go_ret
        exact ⟨by show Ending.returned (.bool false) = _; rw [HR.out, HT.out]; simp; intros; omega, fin _⟩
      have hd1 : decide (l[k] < 1) = false := by simp; omega
      by_cases h2 : lim ≤ l[k]
      · have hd2 : decide (lim ≤ l[k]) = true := by simp [h2]
        go_wp2
        go_quiet (fail)
        go_wp2
        go_ret
        exact ⟨by show Ending.returned (.bool false) = _; rw [HR.out, HT.out]; simp; intros; omega, fin _⟩
      have hd2 : decide (lim ≤ l[k]) = false := by simp; omega
      by_cases hk0 : 0 < k
      · obtain ⟨b', o', e, hbB', hc'⟩ := hr.at_ (show k - 1 < l.length by omega)
        cases e
        have htn : ((k : Int) - 1).toNat = k - 1 := by omega
        have hge : (0 : Int) ≤ (k : Int) - 1 := by omega
        have hpv : prev l k = l[k - 1] := by unfold prev; rw [dif_pos ⟨hk0, by omega⟩]
        rw [hpv] at HT HR hp0
        have hd3 : decide (0 < k) = true := by simp [hk0]
        clear hpv
        by_cases h3 : l[k] ≤ l[k - 1]
        · have hd4 : decide (l[k] ≤ l[k - 1]) = true := by simp [h3]
          go_wp2
          go_quiet (fail)
          go_wp2
          go_ret
          exact ⟨by show Ending.returned (.bool false) = _; rw [HR.out, HT.out]; simp; intros; omega, fin _⟩
        · have hd4 : decide (l[k] ≤ l[k - 1]) = false := by simp; omega
          go_wp2
          go_quiet (fail)
          go_wp2
          go_roundw
          case rel => exact ⟨k + 1, by omega, by go_num, by rw [HR.out, HT.out, hpn, decide_eq_true (show l[k - 1] < l[k] by omega), decide_eq_true (show l[k] < lim by omega)]; rfl, by rw [hpn]; omega, _, rfl⟩
          case measure => simp [intOf] <;> omega
      · have hz : prev l k = 0 := by unfold prev; rw [dif_neg (by omega)]
        rw [hz] at HT HR hp0
        have hd3 : decide (0 < k) = false := by simp; omega
        clear hz
        go_wp2
        go_quiet (fail)
        go_wp2
        go_roundw
        case rel => exact ⟨k + 1, by omega, by go_num, by rw [HR.out, HT.out, hpn, decide_eq_true (show 0 < l[k] by omega), decide_eq_true (show l[k] < lim by omega)]; rfl, by rw [hpn]; omega, _, rfl⟩
        case measure => simp [intOf] <;> omega
    · obtain rfl : k = n := by omega
      go_wp2
      go_ret
      exact ⟨by rw [HR.out, List.drop_of_length_le (by have := HN.out; omega)]; rfl, q0, rfl⟩
end Go.Proofs.YtdmnkhcddbjglaaGreat
