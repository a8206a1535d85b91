/-
  page.size, mayBe: the walks.
  page.taken: the walk.
-/
import Derived.Test.YtdmnkhcddbjglaaGreatSdn
import Derived.BigRegion
set_option linter.unusedVariables false
set_option linter.unusedSimpArgs false
namespace Go.Proofs.YtdmnkhcddbjglaaGreat
open Go Go.RowKit Go.Shelf
set_option maxRecDepth 100000
set_option maxHeartbeats 2000000

theorem size_any (A B : Option Addr) (n c m d : Nat) (hn : n ≤ 1000000) (hm : m ≤ 1000000) (w : World) :
    Calls Tryz.prog 126 #[.agg #[.slice A n c, .slice B m d]] w fun e w' => e = .returned (.int .i64 ((6 + n + m : Nat) : Int)) ∧ Below w.heap.size w w' := by
  have n1 : IntKind.i64.wrap (6 + (n : Int)) = ((6 + n : Nat) : Int) := by rw [IntKind.wrap_i64]; omega
  have n2 : IntKind.i64.wrap (((6 + n : Nat) : Int) + (m : Int)) = ((6 + n + m : Nat) : Int) := by rw [IntKind.wrap_i64]; omega
  go_enter Tryz.func126, Tryz.ntmps126
  go_wp2
  go_ret
  exact ⟨by simp, (Below.refl _ _).alloc (Nat.le_refl _) _⟩

theorem mayBe_any (A B : Option Addr) (n c m d : Nat) (w : World) :
    Calls Tryz.prog 175 #[.slice A n c, .slice B m d] w fun e w' => e = .returned (.bool (decide (1 ≤ n) && (decide (n ≤ 320) && decide (m ≤ 576)))) ∧ w' = w := by
  go_enter Tryz.func175, Tryz.ntmps175
  go_wp2
  all_goals go_ret
  all_goals refine ⟨?_, rfl⟩
  all_goals (refine congrArg Ending.returned ?_; refine congrArg Value.bool (?_ : (_ : Bool) = _); rw [Bool.eq_iff_iff]; simp only [decide_eq_true_eq, Bool.and_eq_true, Bool.false_eq_true]; first | omega | (simp only [false_iff]; omega))
end Go.Proofs.YtdmnkhcddbjglaaGreat

namespace Go.Proofs.YtdmnkhcddbjglaaGreat
open Go Go.RowKit Go.Shelf
set_option maxRecDepth 100000
set_option maxHeartbeats 2000000

/-- a cell of a page: two slices -/
structure CV where
  ka : Option Addr
  kn : Nat
  kc : Nat
  va : Option Addr
  vn : Nat
  vc : Nat
def CV.k (x : CV) : Value := .slice x.ka x.kn x.kc
def CV.v (x : CV) : Value := .slice x.va x.vn x.vc
def RdC (w : World) (B : Nat) (A : Option Addr) (cs : List CV) : Prop :=
  cs ≠ [] → ∃ b o, A = some ⟨b, o, none⟩ ∧ b < B ∧ ∀ i (h : i < cs.length), w.cell? ⟨b, o + i * 2, none⟩ = some cs[i].k ∧ w.cell? ⟨b, o + i * 2 + 1, none⟩ = some cs[i].v
def sizeN (x : CV) : Nat := 6 + x.kn + x.vn
def takenN (cs : List CV) : Nat := (cs.map sizeN).sum

theorem taken_succ {cs : List CV} {k : Nat} (h : k < cs.length) : takenN (cs.take (k + 1)) = takenN (cs.take k) + sizeN cs[k] := by
  unfold takenN
  rw [List.take_succ_eq_append_getElem h, List.map_append, List.sum_append]
  simp
theorem taken_le {cs : List CV} (hs : ∀ x ∈ cs, x.kn ≤ 10000 ∧ x.vn ≤ 10000) : ∀ k, k ≤ cs.length → takenN (cs.take k) ≤ 20006 * k
  | 0, _ => by simp [takenN]
  | k + 1, h => by
    rw [taken_succ (by omega)]
    have := taken_le hs k (by omega)
    have := hs _ (List.getElem_mem (by omega : k < cs.length))
    unfold sizeN
    omega

theorem taken_any (A : Option Addr) (n c : Nat) (cs : List CV) (w : World) (hr : RdC w w.heap.size A cs) (hn : n = cs.length) (hl : cs.length ≤ 10000) (hs : ∀ x ∈ cs, x.kn ≤ 10000 ∧ x.vn ≤ 10000) :
    Calls Tryz.prog 125 #[.slice A n c] w fun e w' => e = .returned (.int .i64 ((takenN cs : Nat) : Int)) ∧ Below w.heap.size w w' := by
  have HN := Lib.hid hn
  clear hn
  go_enter Tryz.func125, Tryz.ntmps125
  go_wp2
  go_loopw [3, 8] (fun s i wr => ∃ k : Nat, k ≤ n ∧ i = .int .i64 k ∧ s = .int .i64 ((takenN (cs.take k) : Nat) : Int) ∧ Below w.heap.size w wr) (fun _ i _ => n - (intOf i).toNat)
  case atStart => exact ⟨0, by omega, rfl, by simp [takenN], Below.refl _ _⟩
  case round =>
    obtain ⟨k, hk, rfl, rfl, hb⟩ := hrel
    by_cases hlt : k < n
    · have hkl : k < cs.length := by have := HN.out; omega
      obtain ⟨b, o, rfl, hbb, hcells⟩ := hr (by intro e; rw [e] at hkl; simp at hkl)
      obtain ⟨h1, h2⟩ := hcells k hkl
      have e1 := (hb.cell (p := ⟨b, o + k * 2, none⟩) hbb).trans h1
      have e2 := (hb.cell (p := ⟨b, o + k * 2 + 1, none⟩) hbb).trans h2
      obtain ⟨hs1, hs2⟩ := hs _ (List.getElem_mem hkl)
      unfold CV.k at e1
      unfold CV.v at e2
      go_wp2_with (go_at_call 126; with_reducible refine (size_any _ _ _ _ _ _ (by omega) (by omega) _).mono ?_; rintro e w4 ⟨rfl, hb4⟩)
      have ht := taken_le hs k (by omega)
      have hsu := taken_succ hkl
      unfold sizeN at hsu
      refine ⟨⟨k + 1, by omega, by simp, ?_, (hb.alloc hb.size _).trans (hb4.mono (by have := hb.size; simp; omega))⟩, by simp [intOf]; omega⟩
      rw [hsu]
      refine congrArg (Value.int .i64) ?_
      unfold wrap64
      omega
    · obtain rfl : k = n := by omega
      go_wp2
      go_ret
      refine ⟨?_, hb⟩
      rw [HN.out, List.take_length]
      rfl
end Go.Proofs.YtdmnkhcddbjglaaGreat
