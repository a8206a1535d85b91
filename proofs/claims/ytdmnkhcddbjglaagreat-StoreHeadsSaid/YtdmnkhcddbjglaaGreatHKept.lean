/-
  chancerylow.CopyBytes, LentBytes, SameBytes, KeptBytes: what each call does.
-/
import Derived.Test.YtdmnkhcddbjglaaGreatHBw
import Derived.Outline
import Derived.BigQuiet
import Derived.Deep.QuietTactic
import Derived.Shelf.Bytes.SlEqualAll
namespace Go.Proofs.YtdmnkhcddbjglaaGreat
open Go Go.RowKit
set_option maxRecDepth 100000
set_option maxHeartbeats 1600000

theorem copy_any (A : Option Addr) (c n : Nat) (l : List UInt8) (w : World) (hr : Rd w w.heap.size A l) (hn : n = l.length) (hl : l.length ≤ 140737488355328) :
    Calls Tryz.prog 42 #[.slice A n c] w fun e w' => ∃ v, e = .returned v ∧ Own w' w.heap.size v l ∧ Below w.heap.size w w' := by
  have HN := Lib.hid hn
  clear hn
  go_enter Tryz.func42, Tryz.ntmps42
  go_wp2_with (at_builtin; refine apB rfl (.tmp 4) (.tmp 5) rfl w.heap.size _ [] rfl (.nil _ _) _ _ n c l rfl HN.out hr ?c1 ?c2 ?_)
  case c1 => simp; omega
  case c2 => omega
  intro v w1 hown hb _ _
  go_wp2
  go_ret
  exact ⟨_, rfl, by simpa using hown, hb⟩

theorem Rd.three (w : World) : Rd (w.alloc (.cells #[.int .u8 77, .int .u8 78, .int .u8 79] 5)) (w.heap.size + 1) (some ⟨w.heap.size, 0, none⟩) [77, 78, 79] := fun _ =>
  ⟨_, 0, rfl, by omega, fun k hk => by
    have hk2 : k < 3 := hk
    have : k = 0 ∨ k = 1 ∨ k = 2 := by omega
    rcases this with rfl | rfl | rfl <;> (rw [World.cell?_alloc_at _ _ _ _ rfl]; rfl)⟩

theorem lent_any (A : Option Addr) (c n : Nat) (l : List UInt8) (w : World) (hr : Rd w w.heap.size A l) (hn : n = l.length) (hl : l.length ≤ 140737488355300) :
    Calls Tryz.prog 6 #[.slice A n c] w fun e w' => (∃ g cap, e = .returned (.slice (some ⟨g, 0, none⟩) n cap) ∧ n + 3 ≤ cap ∧ cap ≤ 9223372036854775807 ∧ Rd w' w'.heap.size (some ⟨g, 0, none⟩) (l ++ [77, 78, 79])) ∧ Below w.heap.size w w' := by
  have HN := Lib.hid hn
  clear hn
  go_enter Tryz.func6, Tryz.ntmps6
  go_wp2_with (first
    | (go_at_call 42; refine (copy_any _ _ _ _ _ hr HN.out (by omega)).mono ?_; rintro e w1 ⟨v, rfl, hown, hb⟩)
    | (at_builtin; refine apB rfl (.tmp 5) (.tmp 6) rfl w.heap.size _ _ rfl (hown.alloc _) _ _ 3 3 [77, 78, 79] rfl rfl (Rd.three _) ?c1 ?c2 ?_))
  case c1 => simp; omega
  case c2 => have := hb.size; simp; omega
  intro v' w2 hown2 hb2 _ _
  have hbb := (hb.alloc hb.size _).trans hb2
  have hn := HN.out
  rcases hown2.form with ⟨_, h0⟩ | ⟨g, cap, rfl, hg, hlt, h4, h5, hc⟩
  · simp at h0
  · have hcap : n + 3 ≤ cap := by rw [hn]; simpa using h4
    have hrd : Rd w2 w2.heap.size (some ⟨g, 0, none⟩) (l ++ [77, 78, 79]) := fun _ => ⟨g, 0, rfl, hlt, fun k hk => by rw [Nat.zero_add]; exact hc k hk⟩
    have h5' : cap ≤ 9223372036854775807 := h5
    have hle : n ≤ cap := by omega
    clear hown2 hown h4 h5 hc hb2 hb hn
    go_wp2
    go_ret
    exact ⟨⟨g, cap, rfl, hcap, h5', hrd⟩, hbb⟩

theorem conv_any {A : Option Addr} {c n : Nat} {l : List UInt8} {w : World} {B : Nat} (hr : Rd w B A l) (hn : n = l.length) : (convert 25 9 (.slice A n c)).run Tryz.prog w = .ok (.string ⟨l.toArray⟩) w := by
  subst hn
  have hb : Lib.BytesIn w A l.length (l.map fun x => (x.toNat : Int)) := fun hn => by
    obtain ⟨b, o, e, _, hc⟩ := hr (by rintro rfl; simp at hn)
    exact ⟨b, o, e, fun i hi => by rw [hc i hi]; simp [u8V, hi]⟩
  have h := hb.convert (P := Tryz.prog) (by simp) c 25 5 9 Tryz.underlying25 Tryz.underlying5 Tryz.underlying9
  rw [h]
  congr 2
  apply ByteArray.ext
  apply Array.ext'
  rw [strOfNums_data, List.map_map]
  show l.map _ = l
  conv => rhs; rw [← List.map_id l]
  apply List.map_congr_left
  intro x _
  simp

theorem same_any (A C : Option Addr) (c d n m : Nat) (l k : List UInt8) (w : World) (hr : Rd w w.heap.size A l) (hm : Rd w w.heap.size C k) (hn : n = l.length) (hn2 : m = k.length) :
    Calls Tryz.prog 11 #[.slice A n c, .slice C m d] w fun e w' => e = .returned (.bool (decide (l = k))) ∧ w = w' := by
  have h1 := conv_any (c := c) hr hn
  have h2 := conv_any (c := d) hm hn2
  have HN := Lib.hid hn
  have HM := Lib.hid hn2
  clear hn hn2
  go_enter Tryz.func11, Tryz.ntmps11
  go_wp2
  go_ret
  exact ⟨by
    show Ending.returned (.bool _) = _
    congr 2
    rw [Bool.eq_iff_iff]
    simp, rfl⟩

theorem kept_any (g cap n m : Nat) (C : Option Addr) (d : Nat) (l : List UInt8) (w : World) (hr : Rd w w.heap.size (some ⟨g, 0, none⟩) (l ++ [77, 78, 79])) (hcap : n + 3 ≤ cap) (hcap2 : cap ≤ 9223372036854775807)
    (hm : Rd w w.heap.size C l) (hn : n = l.length) (hn2 : m = n) (hl : l.length ≤ 140737488355300) :
    Calls Tryz.prog 13 #[.slice (some ⟨g, 0, none⟩) n cap, .slice C m d] w fun e w' => e = .returned (.bool true) ∧ w = w' := by
  subst hn2
  have hrl : Rd w w.heap.size (some ⟨g, 0, none⟩) l := fun _ => by
    obtain ⟨b, o, e, hb, hc⟩ := hr (by simp)
    exact ⟨b, o, e, hb, fun k hk => by have := hc k (by simp; omega); rwa [List.getElem_append_left hk] at this⟩
  have hat : ∀ j (hj : j < 3), w.cell? ⟨g, m + j, none⟩ = some (u8V ([77, 78, 79][j]'hj)) := by
    intro j hj
    obtain ⟨b, o, e, hb, hc⟩ := hr (by simp)
    cases e
    have := hc (m + j) (by simp; omega)
    rw [List.getElem_append_right (by omega)] at this
    simp only [hn, Nat.add_sub_cancel_left, Nat.zero_add] at this ⊢
    exact this
  have h77 : w.cell? ⟨g, m, none⟩ = some (.int .u8 77) := hat 0 (by omega)
  have h78 : w.cell? ⟨g, m + 1, none⟩ = some (.int .u8 78) := hat 1 (by omega)
  have h79 : w.cell? ⟨g, m + 2, none⟩ = some (.int .u8 79) := hat 2 (by omega)
  have hml : m ≤ 140737488355300 := by omega
  have HN := Lib.hid hn
  clear hr hat hl hn
  go_enter Tryz.func13, Tryz.ntmps13
  go_wp2_with (go_at_call 11; refine (same_any _ _ _ _ _ _ l l _ hrl hm HN.out HN.out).mono ?_; rintro e w1 ⟨rfl, rfl⟩)
  go_ret
  exact ⟨rfl, rfl⟩

end Go.Proofs.YtdmnkhcddbjglaaGreat
