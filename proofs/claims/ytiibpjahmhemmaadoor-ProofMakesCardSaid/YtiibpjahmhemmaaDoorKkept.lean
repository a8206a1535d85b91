/-
  chancerykit.CopyBytes, SameBytes, Pick and chancerylaw28.cut: what each call does.
  chancerykit.KeptBytes and bytes.Equal: what each call does.
-/
import Derived.Test.YtiibpjahmhemmaaDoorBw
import Derived.Outline
import Derived.BigQuiet
import Derived.Deep.QuietTactic
import Derived.Shelf.Bytes.SlEqualAll
namespace Go.Proofs.YtiibpjahmhemmaaDoor
open Go Go.RowKit

theorem take_snoc8 (l : List UInt8) (k : Nat) (h : k < l.length) : l.take (k + 1) = l.take k ++ [l[k]] := by
  rw [List.take_succ_eq_append_getElem h]

set_option maxHeartbeats 800000 in
theorem copy_any (A : Option Addr) (c : Nat) (l : List UInt8) (w : World) (hr : Rd w w.heap.size A l) (hl : l.length ≤ 1099511627775) :
    Calls Tryd.prog 20 #[.slice A l.length c] w fun e w' => ∃ v, e = .returned v ∧ Own w' w.heap.size v l ∧ Below w.heap.size w w' := by
  go_enter Tryd.func20, Tryd.ntmps20
  go_wp2
  go_loopw [3, 4] (fun v i wr => ∃ k : Nat, k ≤ l.length ∧ i = .int .i64 k ∧ Own wr w.heap.size v (l.take k) ∧ Below w.heap.size w wr) (fun _ i _ => l.length - (intOf i).toNat)
  case atStart => exact ⟨0, Nat.zero_le _, rfl, .nil _ _, Below.refl _ _⟩
  case round =>
    obtain ⟨k, hk, rfl, hown, hb⟩ := hrel
    by_cases hlt : k < l.length
    · obtain ⟨b, o, rfl, hbB, hc⟩ := (hr.below hb).at_ hlt
      have hz := hb.size
      go_wp2_with (at_builtin; refine apB rfl (.tmp 11) (.tmp 16) rfl w.heap.size _ _ rfl (hown.alloc _) _ _ 1 1 [l[k]] rfl rfl (Rd.one _ _) ?c1 ?c2 ?_)
      case c1 => simp; omega
      case c2 => simp; omega
      intro v' w1 hown1 hb1 _ _
      clear hc hr
      go_wp2
      go_roundw
      case rel => exact ⟨k + 1, by omega, by go_num, by first | exact hown1 | (rw [take_snoc8 _ _ hlt]; exact hown1), (hb.alloc hz _).trans hb1⟩
      case measure => simp [intOf]; omega
    · go_wp2
      go_ret
      have : k = l.length := by omega
      subst this
      exact ⟨_, rfl, by simpa using hown, hb⟩

theorem take_eq_succ {l m : List UInt8} {k : Nat} (h1 : k < l.length) (h2 : k < m.length) (h : l.take k = m.take k) (he : l[k] = m[k]) : l.take (k + 1) = m.take (k + 1) := by
  rw [take_snoc8 _ _ h1, take_snoc8 _ _ h2, h, he]

set_option maxHeartbeats 800000 in
theorem same_any (A C : Option Addr) (c d : Nat) (l m : List UInt8) (w : World) (hr : Rd w w.heap.size A l) (hm : Rd w w.heap.size C m) (hl : l.length ≤ 1099511627775) (hl2 : m.length ≤ 9223372036854775807) :
    Calls Tryd.prog 16 #[.slice A l.length c, .slice C m.length d] w fun e w' => e = .returned (.bool (decide (l = m))) ∧ Below w.heap.size w w' := by
  by_cases hne : l.length = m.length
  · have hne' : ((l.length : Int) != (m.length : Int)) = false := by simp [hne]
    have HN := Lib.hid hne
    clear hne
    go_enter Tryd.func16, Tryd.ntmps16
    go_wp2
    go_loopw [5] (fun i wr => ∃ k : Nat, k ≤ l.length ∧ i = .int .i64 k ∧ l.take k = m.take k ∧ Below w.heap.size w wr) (fun i _ => l.length - (intOf i).toNat)
    case atStart => exact ⟨0, Nat.zero_le _, rfl, by simp, Below.refl _ _⟩
    case round =>
      obtain ⟨k, hk, rfl, ht, hb⟩ := hrel
      have HT := Lib.hid ht
      clear ht
      by_cases hlt : k < l.length
      · have hlt2 : k < m.length := by have := HN.out; omega
        obtain ⟨b, o, rfl, hbB, hc⟩ := (hr.below hb).at_ hlt
        obtain ⟨b', o', rfl, hbB', hc'⟩ := (hm.below hb).at_ hlt2
        by_cases hx : l[k] = m[k]
        · have hx1 : ((l[k].toNat : Int) != (m[k].toNat : Int)) = false := by simp [hx]
          have hx2 := Lib.hid hx
          clear hx
          go_wp2
          go_quiet (fail)
          go_wp2
          go_roundw
          case rel => exact ⟨k + 1, by omega, by go_num, take_eq_succ hlt hlt2 HT.out hx2.out, ⟨hb.os, hb.tape, hb.output, hb.size, hb.block⟩⟩
          case measure => simp [intOf]; omega
        · have hx1 : ((l[k].toNat : Int) != (m[k].toNat : Int)) = true := by
            simp only [bne_iff_ne, ne_eq, Int.natCast_inj]; exact fun h => hx (UInt8.toNat_inj.1 h)
          have hx2 := Lib.hid hx
          clear hx
          go_wp2
          go_quiet (fail)
          go_wp2
          go_ret
          have : l ≠ m := fun h => hx2.out (by subst h; rfl)
          exact ⟨by simp [this], ⟨hb.os, hb.tape, hb.output, hb.size, hb.block⟩⟩
      · go_wp2
        go_ret
        have : l = m := by
          have h := HT.out
          rw [List.take_of_length_le (by omega), List.take_of_length_le (by have := HN.out; omega)] at h
          exact h
        exact ⟨by simp [this], hb⟩
  · have hne' : ((l.length : Int) != (m.length : Int)) = true := by simp; omega
    have hlm : l ≠ m := fun h => hne (by rw [h])
    have HN := Lib.hid hne
    have HM := Lib.hid hlm
    clear hne hlm
    go_enter Tryd.func16, Tryd.ntmps16
    go_wp2
    go_ret
    exact ⟨by simp [HM.out], Below.refl _ _⟩

theorem pick_any (x : Int) (w : World) (hx : -9223372036854775808 ≤ x) (hx2 : x ≤ 9223372036854775807) :
    Calls Tryd.prog 21 #[.int .i64 x, .int .i64 256] w fun e w' => (∃ n : Nat, n < 256 ∧ e = .returned (.int .i64 n)) ∧ w = w' := by
  by_cases h : x.tmod 256 < 0
  · have h2 : -256 < x.tmod 256 := Int.lt_tmod_of_pos x (by decide)
    go_enter Tryd.func21, Tryd.ntmps21
    go_wp2
    go_ret
    exact ⟨⟨(x.tmod 256 + 256).toNat, by omega, by rw [Int.toNat_of_nonneg (by omega)]; rfl⟩, rfl⟩
  · have h2 : x.tmod 256 < 256 := Int.tmod_lt_of_pos x (by decide)
    go_enter Tryd.func21, Tryd.ntmps21
    go_wp2
    go_ret
    exact ⟨⟨(x.tmod 256).toNat, by omega, by rw [Int.toNat_of_nonneg (by omega)]; rfl⟩, rfl⟩

/-- what 'cut' keeps -/
theorem cut_any (A : Option Addr) (c : Nat) (l : List UInt8) (w : World) (hr : Rd w w.heap.size A l) (hlc : l.length ≤ c) (hl : l.length ≤ 9223372036854775807) (hc : c ≤ 9223372036854775807) :
    Calls Tryd.prog 6 #[.slice A l.length c] w fun e w' => (∃ c', e = .returned (.slice A (l.take 400).length c') ∧ (l.take 400).length ≤ c' ∧ c' ≤ 9223372036854775807 ∧ Rd w w.heap.size A (l.take 400)) ∧ w = w' := by
  by_cases h : 400 < l.length
  · have hL : (l.take 400).length = 400 := by rw [List.length_take]; omega
    have HL := Lib.hid hL
    clear hL
    go_enter Tryd.func6, Tryd.ntmps6
    go_wp2
    go_ret
    exact ⟨⟨c, by rw [HL.out]; rfl, by rw [HL.out]; omega, hc, fun hne => by
      obtain ⟨b, o, e, hb, hcell⟩ := hr (by rintro rfl; simp at h)
      exact ⟨b, o, e, hb, fun k hk => by rw [List.getElem_take]; exact hcell k (by simp at hk; omega)⟩⟩, rfl⟩
  · have hL : l.take 400 = l := List.take_of_length_le (by omega)
    have HL := Lib.hid hL
    clear hL
    go_enter Tryd.func6, Tryd.ntmps6
    go_wp2
    go_ret
    exact ⟨⟨c, by rw [HL.out]; rfl, by rw [HL.out]; omega, hc, by rw [HL.out]; exact hr⟩, rfl⟩

theorem Rd.two (w : World) (x y : UInt8) : Rd (w.alloc (.cells #[u8V x, u8V y] 5)) (w.heap.size + 1) (some ⟨w.heap.size, 0, none⟩) [x, y] := fun _ =>
  ⟨_, 0, rfl, by omega, fun k hk => by
    have hk2 : k < 2 := hk
    have : k = 0 ∨ k = 1 := by omega
    rcases this with rfl | rfl <;> (rw [World.cell?_alloc_at _ _ _ _ rfl]; rfl)⟩

set_option maxHeartbeats 800000 in
theorem lent_any (A : Option Addr) (c : Nat) (l : List UInt8) (w : World) (hr : Rd w w.heap.size A l) (hl : l.length ≤ 1099511627700) :
    Calls Tryd.prog 7 #[.slice A l.length c] w fun e w' => (∃ g cap, e = .returned (.slice (some ⟨g, 0, none⟩) l.length cap) ∧ l.length + 2 ≤ cap ∧ cap ≤ 9223372036854775807 ∧ Rd w' w'.heap.size (some ⟨g, 0, none⟩) (l ++ [77, 78])) ∧ Below w.heap.size w w' := by
  go_enter Tryd.func7, Tryd.ntmps7
  go_wp2_with (first
    | (go_at_call 20; refine (copy_any _ _ _ _ hr (by omega)).mono ?_; rintro e w1 ⟨v, rfl, hown, hb⟩)
    | (at_builtin; refine apB rfl (.tmp 5) (.tmp 6) rfl w.heap.size _ _ rfl (hown.alloc _) _ _ 2 2 [77, 78] rfl rfl (Rd.two _ _ _) ?c1 ?c2 ?_))
  case c1 => simp; omega
  case c2 => have := hb.size; simp; omega
  intro v' w2 hown2 hb2 _ _
  have hbb := (hb.alloc hb.size _).trans hb2
  rcases hown2.form with ⟨_, h0⟩ | ⟨g, cap, rfl, hg, hlt, h4, h5, hc⟩
  · simp at h0
  · have hcap : l.length + 2 ≤ cap := by simpa using h4
    have hrd : Rd w2 w2.heap.size (some ⟨g, 0, none⟩) (l ++ [77, 78]) := fun _ => ⟨g, 0, rfl, hlt, fun k hk => by rw [Nat.zero_add]; exact hc k hk⟩
    have h5' : cap ≤ 9223372036854775807 := h5
    have hle : l.length ≤ cap := by omega
    clear hown2 hown h4 h5 hc hb2 hb
    go_wp2
    go_ret
    exact ⟨⟨g, cap, rfl, hcap, h5', hrd⟩, hbb⟩

end Go.Proofs.YtiibpjahmhemmaaDoor

namespace Go.Proofs.YtiibpjahmhemmaaDoor
open Go Go.RowKit

set_option maxHeartbeats 800000 in
theorem kept_any (g cap : Nat) (C : Option Addr) (d : Nat) (l : List UInt8) (w : World) (hr : Rd w w.heap.size (some ⟨g, 0, none⟩) (l ++ [77, 78])) (hcap : l.length + 2 ≤ cap) (hcap2 : cap ≤ 9223372036854775807)
    (hm : Rd w w.heap.size C l) (hl : l.length ≤ 1099511627700) :
    Calls Tryd.prog 12 #[.slice (some ⟨g, 0, none⟩) l.length cap, .slice C l.length d] w fun e w' => e = .returned (.bool true) ∧ Below w.heap.size w w' := by
  have hrl : Rd w w.heap.size (some ⟨g, 0, none⟩) l := fun _ => by
    obtain ⟨b, o, e, hb, hc⟩ := hr (by simp)
    exact ⟨b, o, e, hb, fun k hk => by have := hc k (by simp; omega); rwa [List.getElem_append_left hk] at this⟩
  have h77 : w.cell? ⟨g, l.length, none⟩ = some (.int .u8 77) := by
    obtain ⟨b, o, e, hb, hc⟩ := hr (by simp)
    cases e
    have := hc l.length (by simp)
    simp at this
    exact this
  have h78 : w.cell? ⟨g, l.length + 1, none⟩ = some (.int .u8 78) := by
    obtain ⟨b, o, e, hb, hc⟩ := hr (by simp)
    cases e
    have := hc (l.length + 1) (by simp)
    simp at this
    exact this
  have hg : g < w.heap.size := by
    obtain ⟨b, o, e, hb, hc⟩ := hr (by simp)
    cases e; exact hb
  clear hr
  go_enter Tryd.func12, Tryd.ntmps12
  go_wp2_with (go_at_call 16; refine (same_any _ _ _ _ l l _ hrl hm (by omega) (by omega)).mono ?_; rintro e w1 ⟨rfl, hb⟩; have h77' : w1.cell? ⟨g, l.length, none⟩ = some (.int .u8 77) := (hb.cell hg).trans h77; have h78' : w1.cell? ⟨g, l.length + 1, none⟩ = some (.int .u8 78) := (hb.cell hg).trans h78; clear h77 h78)
  go_ret
  exact ⟨rfl, hb⟩

theorem conv_any {A : Option Addr} {c : Nat} {l : List UInt8} {w : World} {B : Nat} (hr : Rd w B A l) : (convert 22 9 (.slice A l.length c)).run Tryd.prog w = .ok (.string ⟨l.toArray⟩) w := by
  have hb : Lib.BytesIn w A l.length (l.map fun x => (x.toNat : Int)) := fun hn => by
    obtain ⟨b, o, e, _, hc⟩ := hr (by rintro rfl; simp at hn)
    exact ⟨b, o, e, fun i hi => by rw [hc i hi]; simp [u8V, hi]⟩
  have h := hb.convert (P := Tryd.prog) (by simp) c 22 5 9 Tryd.underlying22 Tryd.underlying5 Tryd.underlying9
  rw [h]
  congr 2
  apply ByteArray.ext
  apply Array.ext'
  rw [strOfNums_data, List.map_map]
  show l.map _ = l
  conv => rhs; rw [← List.map_id l]
  apply List.map_congr_left
  intro x _
  simp

theorem equal_any (A C : Option Addr) (c d : Nat) (l m : List UInt8) (w : World) (hr : Rd w w.heap.size A l) (hm : Rd w w.heap.size C m) :
    Calls Tryd.prog 29 #[.slice A l.length c, .slice C m.length d] w fun e w' => e = .returned (.bool (decide (l = m))) ∧ w = w' := by
  have h1 := conv_any (c := c) hr
  have h2 := conv_any (c := d) hm
  go_enter Tryd.func29, Tryd.ntmps29
  go_wp2
  go_ret
  exact ⟨by
    show Ending.returned (.bool _) = _
    congr 2
    rw [Bool.eq_iff_iff]
    simp, rfl⟩

end Go.Proofs.YtiibpjahmhemmaaDoor
