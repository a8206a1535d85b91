/-
  Words for bytes in memory: a slice value that reads as a list of bytes; a row of bytes that the call itself has made; append onto such a row.
  chancerylow.CopyBytes, LentBytes, SameBytes, KeptBytes: what each call does.
-/
import Derived.Test.YtdmnkhcddbjglaaGreatProg
import Derived.WalkKit
import Derived.Maps.AppendAt
import Derived.Deep.AppendLies
import Derived.RegionTactic
import Derived.OwnWalk
import Derived.Lib.Hide
import Derived.KernelRfl
import Derived.Outline
import Derived.BigQuiet
import Derived.Deep.QuietTactic
import Derived.Shelf.Bytes.SlEqualAll
set_option linter.unusedVariables false
set_option linter.unusedSimpArgs false
namespace Go.Proofs.YtdmnkhcddbjglaaGreat
open Go Go.RowKit

abbrev u8V (x : UInt8) : Value := .int .u8 (x.toNat : Int)

/-- the slice 'A' of these bytes lies below block B -/
def Rd (w : World) (B : Nat) (A : Option Addr) (l : List UInt8) : Prop :=
  l ≠ [] → ∃ b o, A = some ⟨b, o, none⟩ ∧ b < B ∧ ∀ k (h : k < l.length), w.cell? ⟨b, o + k, none⟩ = some (u8V l[k])

/-- a row of bytes of the call's own, from block 'base' on -/
def Own (w : World) (base : Nat) (v : Value) (l : List UInt8) : Prop := w.ownsRow base 5 1 v l.length (l.map u8V)

theorem Tryz.info5 : (Tryz.prog.info? 5).map (fun i => (i.zero, i.size, i.bytes)) = some (some (.int .u8 0), 1, 1) := by kernel_rfl

section
variable {w w' : World} {B B' : Nat} {A : Option Addr} {l : List UInt8} {v : Value}

theorem Rd.nil (w : World) (B : Nat) (A : Option Addr) : Rd w B A [] := fun h => absurd rfl h
theorem Rd.keep (h : Rd w B A l) (hk : ∀ p : Addr, p.block < B → w'.cell? p = w.cell? p) : Rd w' B A l := fun hl => by
  obtain ⟨b, o, e, hb, hc⟩ := h hl
  exact ⟨b, o, e, hb, fun k hk' => (hk _ hb).trans (hc k hk')⟩
theorem Rd.more (h : Rd w B A l) (hB : B ≤ B') : Rd w B' A l := fun hl => by
  obtain ⟨b, o, e, hb, hc⟩ := h hl
  exact ⟨b, o, e, by omega, hc⟩
theorem Rd.below (h : Rd w B A l) (hb : Below B w w') : Rd w' B A l := h.keep fun _ hp => hb.cell hp
theorem Rd.belowS (h : Rd w w.heap.size A l) (hb : Below w.heap.size w w') : Rd w' w'.heap.size A l := (h.below hb).more hb.size
theorem Rd.at_ (h : Rd w B A l) {k : Nat} (hk : k < l.length) : ∃ b o, A = some ⟨b, o, none⟩ ∧ b < B ∧ w.cell? ⟨b, o + k, none⟩ = some (u8V l[k]) := by
  obtain ⟨b, o, e, hb, hc⟩ := h (by rintro rfl; simp at hk)
  exact ⟨b, o, e, hb, hc k hk⟩
theorem Rd.alloc (h : Rd w B A l) (hB : B ≤ w.heap.size) (o : Obj) : Rd (w.alloc o) B A l := h.keep fun p hp => World.cell?_alloc_lt w o p (by omega)
theorem Rd.setCell (h : Rd w B A l) {p : Addr} (hB : B ≤ p.block) (u : Value) : Rd (w.setCell p u) B A l :=
  h.keep fun q hq => World.cell?_setCell_other w p q u (fun e => by subst e; omega)
theorem Rd.one (w : World) (x : UInt8) : Rd (w.alloc (.cells #[u8V x] 5)) (w.heap.size + 1) (some ⟨w.heap.size, 0, none⟩) [x] := fun _ =>
  ⟨_, 0, rfl, by omega, fun k hk => by
    obtain rfl : k = 0 := by simpa using hk
    rw [World.cell?_alloc_at _ _ _ _ rfl]; rfl⟩
theorem Own.nil (w : World) (base : Nat) : Own w base (.slice none 0 0) [] := World.ownsRow_nil _ _ _ _
theorem Own.form (h : Own w B v l) : (v = .slice none 0 0 ∧ l = []) ∨ ∃ g cap, v = .slice (some ⟨g, 0, none⟩) l.length cap ∧ B ≤ g ∧ g < w.heap.size ∧ l.length ≤ cap ∧ cap ≤ maxLen ∧ ∀ k (hk : k < l.length), w.cell? ⟨g, k, none⟩ = some (u8V l[k]) := by
  rcases h.2 with ⟨h1, h2⟩ | ⟨g, cap, cur, h1, h2, h3, h4, h5, h6, h7⟩
  · exact .inl ⟨h1, List.eq_nil_of_length_eq_zero h2⟩
  · refine .inr ⟨g, cap, h1, h2, ?_, h4, h5, fun k hk => ?_⟩
    · rcases Nat.lt_or_ge g w.heap.size with hlt | hge
      · exact hlt
      · rw [Array.getElem?_eq_none hge] at h3; cases h3
    · have e : (cur.toList.take (l.length * 1))[k]? = (l.map u8V)[k]? := by rw [h7]
      rw [List.getElem?_take, if_pos (by omega), List.getElem?_map, List.getElem?_eq_getElem hk] at e
      simp only [World.cell?, h3]
      simpa using e
theorem Own.slice (h : Own w B v l) : ∃ A cap, v = .slice A l.length cap ∧ l.length ≤ cap ∧ cap ≤ maxLen ∧ Rd w w.heap.size A l := by
  rcases h.form with ⟨rfl, rfl⟩ | ⟨g, cap, rfl, _, hlt, h4, h5, hc⟩
  · exact ⟨none, 0, rfl, Nat.le_refl _, Nat.zero_le _, .nil _ _ _⟩
  · exact ⟨_, cap, rfl, h4, h5, fun _ => ⟨g, 0, rfl, hlt, fun k hk => by rw [Nat.zero_add]; exact hc k hk⟩⟩
theorem Own.sl {n : Nat} (h : Own w B v l) (hn : l.length = n) : ∃ A cap, v = .slice A n cap ∧ n ≤ cap ∧ cap ≤ maxLen ∧ Rd w w.heap.size A l := by subst hn; exact h.slice
theorem Own.cast {m : List UInt8} (h : Own w B v l) (e : l = m) : Own w B v m := by subst e; exact h
theorem Own.blk (h : Own w B v l) : ∀ k, v.ownBlock = some k → B ≤ k := by
  intro k hk
  rcases h.form with ⟨rfl, rfl⟩ | ⟨g, cap, rfl, h2, _⟩
  · simp [Value.ownBlock] at hk
  · simp [Value.ownBlock] at hk; omega
theorem Own.down (h : Own w B v l) (hB : B' ≤ B) : Own w B' v l := by
  refine ⟨h.1, ?_⟩
  rcases h.2 with e | ⟨g, cap, cur, h1, h2, h3⟩
  · exact .inl e
  · exact .inr ⟨g, cap, cur, h1, by omega, h3⟩
theorem Own.blocks (h : Own w B v l) (hb : ∀ k, v.ownBlock = some k → w'.heap[k]? = w.heap[k]?) : Own w' B v l := by
  refine ⟨h.1, ?_⟩
  rcases h.2 with e | ⟨g, cap, cur, h1, h2, h3, h4⟩
  · exact .inl e
  · exact .inr ⟨g, cap, cur, h1, h2, (hb g (by rw [h1]; rfl)).trans h3, h4⟩
theorem Own.lt (h : Own w B v l) : ∀ k, v.ownBlock = some k → k < w.heap.size := by
  intro k hk
  rcases h.form with ⟨rfl, rfl⟩ | ⟨g, cap, rfl, h2, h3, _⟩
  · simp [Value.ownBlock] at hk
  · simp [Value.ownBlock] at hk; omega
theorem Own.alloc (h : Own w B v l) (o : Obj) : Own (w.alloc o) B v l := h.blocks fun k hk => Below.heap_alloc w o k (h.lt k hk)
theorem Own.belowS (h : Own w B v l) (hb : Below w.heap.size w w') : Own w' B v l := h.blocks fun k hk => hb.block k (h.lt k hk)
theorem Own.setCell (h : Own w B v l) {p : Addr} (hp : v.ownBlock ≠ some p.block) (u : Value) : Own (w.setCell p u) B v l :=
  h.blocks fun k hk => Below.heap_setCell w p u k (fun e => hp (by rw [hk, e]))
end

/-- append onto a row of the call's own, from whatever source -/
theorem apB {w : World} {ops : Array Oper} {rest : List Oper} {o : Oper} {a : Act} {Q : Exit → Act → World → Prop} (hgd : o.guard = none) (s x : Operand)
    (ho : o.op = .call { callee := .builtin .append, args := #[s, x], argTypes := #[25, 25] })
    (base : Nat) (v : Value) (l : List UInt8) (hs : a.eval s = v) (hown : Own w base v l) (B : Nat) (A : Option Addr) (m c : Nat) (news : List UInt8) (hx : a.eval x = .slice A m c) (hm : m = news.length) (hr : Rd w B A news)
    (hlen : l.length + news.length ≤ 140737488355328) (hbase : base ≤ w.heap.size)
    (h : ∀ v' w', Own w' base v' (l ++ news) → Below base w w' → (v'.ownBlock = v.ownBlock ∨ v'.ownBlock = some w.heap.size) → w.grownBy w' v.ownBlock → wpList Tryz.prog ops Q rest (a.put o.dst v') w') : wpList Tryz.prog ops Q (o :: rest) a w := by
  obtain ⟨i0, hi, hz0, hz1, hz2⟩ := info_parts Tryz.info5
  subst hm
  have hb := hown.blk
  rcases Nat.eq_zero_or_pos news.length with h0 | h0
  · have hn : news = [] := List.eq_nil_of_length_eq_zero h0
    subst hn
    have hx' : a.eval x = .slice A 0 c := hx
    refine wpList_plain hgd fun _ hK => ?_
    cases A with
    | none =>
      have hrun : (Builtin.append_ #[25, 25] o.type #[v, .slice none 0 c]).run Tryz.prog w = .ok v w := by
        rcases hown.2 with ⟨rfl, _⟩ | ⟨g, cap, cur, rfl, _, _, hnc, _⟩
        · simp [Builtin.append_, run_underlying Tryz.underlying25, sizeOf, typeInfo, hi, Builtin.lenOf, Builtin.firstCells]
        · simp [Builtin.append_, run_underlying Tryz.underlying25, sizeOf, typeInfo, hi, Builtin.lenOf, Builtin.firstCells, hnc, storeCells]
      unfold Oper.wp execOp
      simp only [ho, resolve, invoke, builtin, Sem.run_bind, Sem.run_pure, Result.andThen_ok, List.map_toArray, List.map_cons, List.map_nil, hs, hx', hrun]
      exact hK _ _ (h v w (by simpa using hown) (Below.refl _ _) (.inl rfl) (World.grownBy.refl w _))
    | some ad =>
      obtain ⟨v', w', hrun, h2, h3, _, h5⟩ := run_append_own_at (P := Tryz.prog) w base 25 o.type 5 i0 (.int .u8 0) 1 1 Tryz.underlying25 hi hz0 hz1 hz2 rfl (by decide) v l.length (l.map u8V) hown ad 0 c []
        (by simp) (by intro j u hu; simp at hu) (by simp) (by unfold maxLen; omega) (by omega) hbase
      unfold Oper.wp execOp
      simp only [ho, resolve, invoke, builtin, Sem.run_bind, Sem.run_pure, Result.andThen_ok, List.map_toArray, List.map_cons, List.map_nil, hs, hx', hrun]
      exact hK _ _ (h v' w' (by simpa [Own] using h2) ⟨h3.os, h3.tape, h3.output, h3.size, fun k hk => h3.block k (by omega) (fun e => by have := hb k e.symm; omega)⟩ h5 h3)
  · obtain ⟨b, off, rfl, hbB, hc⟩ := hr (by rintro rfl; simp at h0)
    refine wpList_plain hgd fun _ hK => ?_
    have hcells : ∀ j u, (news.map u8V)[j]? = some u → w.cell? ((⟨b, off, none⟩ : Addr).add j) = some u := by
      intro j u hu
      rw [List.getElem?_map] at hu
      rcases Nat.lt_or_ge j news.length with hj | hj
      · rw [List.getElem?_eq_getElem hj] at hu
        simp only [Option.map_some, Option.some.injEq] at hu
        subst hu
        have : (⟨b, off, none⟩ : Addr).add j = ⟨b, off + j, none⟩ := by unfold Addr.add; split <;> simp_all
        rw [this]; exact hc j hj
      · rw [List.getElem?_eq_none hj] at hu; cases hu
    obtain ⟨v', w', hrun, h2, h3, _, h5⟩ := run_append_own_at (P := Tryz.prog) w base 25 o.type 5 i0 (.int .u8 0) 1 1 Tryz.underlying25 hi hz0 hz1 hz2 rfl (by decide) v l.length (l.map u8V) hown ⟨b, off, none⟩ news.length c (news.map u8V)
      (by simp) hcells (by intro u hu; simp at hu; obtain ⟨_, _, rfl⟩ := hu; rfl) (by unfold maxLen; omega) (by omega) hbase
    unfold Oper.wp execOp
    simp only [ho, resolve, invoke, builtin, Sem.run_bind, Sem.run_pure, Result.andThen_ok, List.map_toArray, List.map_cons, List.map_nil, hs, hx, hrun]
    exact hK _ _ (h v' w' (by unfold Own; rw [List.length_append, List.map_append]; exact h2) ⟨h3.os, h3.tape, h3.output, h3.size, fun k hk => h3.block k (by omega) (fun e => by have := hb k e.symm; omega)⟩ h5 h3)

end Go.Proofs.YtdmnkhcddbjglaaGreat

namespace Go.Proofs.YtdmnkhcddbjglaaGreat
open Go Go.RowKit
set_option maxRecDepth 100000
set_option maxHeartbeats 1600000

theorem copy_any (A : Option Addr) (c n : Nat) (l : List UInt8) (w : World) (hr : Rd w w.heap.size A l) (hn : n = l.length) (hl : l.length ≤ 140737488355328) :
    Calls Tryz.prog 42 #[.slice A n c] w fun e w' => ∃ v, e = .returned v ∧ Own w' w.heap.size v l ∧ Below w.heap.size w w' := by
  have HN := Lib.hid hn
  clear hn
  go_enter Tryz.func42, Tryz.ntmps42
  go_wp2_with (at_builtin; refine apB rfl (.tmp 4) (.tmp 5) rfl w.heap.size _ [] rfl (.nil _ _) _ _ n c l rfl HN.out hr ?c1 ?c2 ?_)
  case c1 => simp; omega
  case c2 => omega
  intro v w1 hown hb _ _
  go_wp2
  go_ret
  exact ⟨_, rfl, by simpa using hown, hb⟩

theorem Rd.three (w : World) : Rd (w.alloc (.cells #[.int .u8 77, .int .u8 78, .int .u8 79] 5)) (w.heap.size + 1) (some ⟨w.heap.size, 0, none⟩) [77, 78, 79] := fun _ =>
  ⟨_, 0, rfl, by omega, fun k hk => by
    have hk2 : k < 3 := hk
    have : k = 0 ∨ k = 1 ∨ k = 2 := by omega
    rcases this with rfl | rfl | rfl <;> (rw [World.cell?_alloc_at _ _ _ _ rfl]; rfl)⟩

theorem lent_any (A : Option Addr) (c n : Nat) (l : List UInt8) (w : World) (hr : Rd w w.heap.size A l) (hn : n = l.length) (hl : l.length ≤ 140737488355300) :
    Calls Tryz.prog 6 #[.slice A n c] w fun e w' => (∃ g cap, e = .returned (.slice (some ⟨g, 0, none⟩) n cap) ∧ n + 3 ≤ cap ∧ cap ≤ 9223372036854775807 ∧ Rd w' w'.heap.size (some ⟨g, 0, none⟩) (l ++ [77, 78, 79])) ∧ Below w.heap.size w w' := by
  have HN := Lib.hid hn
  clear hn
  go_enter Tryz.func6, Tryz.ntmps6
  go_wp2_with (first
    | (go_at_call 42; refine (copy_any _ _ _ _ _ hr HN.out (by omega)).mono ?_; rintro e w1 ⟨v, rfl, hown, hb⟩)
    | (at_builtin; refine apB rfl (.tmp 5) (.tmp 6) rfl w.heap.size _ _ rfl (hown.alloc _) _ _ 3 3 [77, 78, 79] rfl rfl (Rd.three _) ?c1 ?c2 ?_))
  case c1 => simp; omega
  case c2 => have := hb.size; simp; omega
  intro v' w2 hown2 hb2 _ _
  have hbb := (hb.alloc hb.size _).trans hb2
  have hn := HN.out
  rcases hown2.form with ⟨_, h0⟩ | ⟨g, cap, rfl, hg, hlt, h4, h5, hc⟩
  · simp at h0
  · have hcap : n + 3 ≤ cap := by rw [hn]; simpa using h4
    have hrd : Rd w2 w2.heap.size (some ⟨g, 0, none⟩) (l ++ [77, 78, 79]) := fun _ => ⟨g, 0, rfl, hlt, fun k hk => by rw [Nat.zero_add]; exact hc k hk⟩
    have h5' : cap ≤ 9223372036854775807 := h5
    have hle : n ≤ cap := by omega
    clear hown2 hown h4 h5 hc hb2 hb hn
    go_wp2
    go_ret
    exact ⟨⟨g, cap, rfl, hcap, h5', hrd⟩, hbb⟩

theorem conv_any {A : Option Addr} {c n : Nat} {l : List UInt8} {w : World} {B : Nat} (hr : Rd w B A l) (hn : n = l.length) : (convert 25 9 (.slice A n c)).run Tryz.prog w = .ok (.string ⟨l.toArray⟩) w := by
  subst hn
  have hb : Lib.BytesIn w A l.length (l.map fun x => (x.toNat : Int)) := fun hn => by
    obtain ⟨b, o, e, _, hc⟩ := hr (by rintro rfl; simp at hn)
    exact ⟨b, o, e, fun i hi => by rw [hc i hi]; simp [u8V, hi]⟩
  have h := hb.convert (P := Tryz.prog) (by simp) c 25 5 9 Tryz.underlying25 Tryz.underlying5 Tryz.underlying9
  rw [h]
  congr 2
  apply ByteArray.ext
  apply Array.ext'
  rw [strOfNums_data, List.map_map]
  show l.map _ = l
  conv => rhs; rw [← List.map_id l]
  apply List.map_congr_left
  intro x _
  simp

theorem same_any (A C : Option Addr) (c d n m : Nat) (l k : List UInt8) (w : World) (hr : Rd w w.heap.size A l) (hm : Rd w w.heap.size C k) (hn : n = l.length) (hn2 : m = k.length) :
    Calls Tryz.prog 11 #[.slice A n c, .slice C m d] w fun e w' => e = .returned (.bool (decide (l = k))) ∧ w = w' := by
  have h1 := conv_any (c := c) hr hn
  have h2 := conv_any (c := d) hm hn2
  have HN := Lib.hid hn
  have HM := Lib.hid hn2
  clear hn hn2
  go_enter Tryz.func11, Tryz.ntmps11
  go_wp2
  go_ret
  exact ⟨by
    show Ending.returned (.bool _) = _
    congr 2
    rw [Bool.eq_iff_iff]
    simp, rfl⟩

theorem kept_any (g cap n m : Nat) (C : Option Addr) (d : Nat) (l : List UInt8) (w : World) (hr : Rd w w.heap.size (some ⟨g, 0, none⟩) (l ++ [77, 78, 79])) (hcap : n + 3 ≤ cap) (hcap2 : cap ≤ 9223372036854775807)
    (hm : Rd w w.heap.size C l) (hn : n = l.length) (hn2 : m = n) (hl : l.length ≤ 140737488355300) :
    Calls Tryz.prog 13 #[.slice (some ⟨g, 0, none⟩) n cap, .slice C m d] w fun e w' => e = .returned (.bool true) ∧ w = w' := by
  subst hn2
  have hrl : Rd w w.heap.size (some ⟨g, 0, none⟩) l := fun _ => by
    obtain ⟨b, o, e, hb, hc⟩ := hr (by simp)
    exact ⟨b, o, e, hb, fun k hk => by have := hc k (by simp; omega); rwa [List.getElem_append_left hk] at this⟩
  have hat : ∀ j (hj : j < 3), w.cell? ⟨g, m + j, none⟩ = some (u8V ([77, 78, 79][j]'hj)) := by
    intro j hj
    obtain ⟨b, o, e, hb, hc⟩ := hr (by simp)
    cases e
    have := hc (m + j) (by simp; omega)
    rw [List.getElem_append_right (by omega)] at this
    simp only [hn, Nat.add_sub_cancel_left, Nat.zero_add] at this ⊢
    exact this
  have h77 : w.cell? ⟨g, m, none⟩ = some (.int .u8 77) := hat 0 (by omega)
  have h78 : w.cell? ⟨g, m + 1, none⟩ = some (.int .u8 78) := hat 1 (by omega)
  have h79 : w.cell? ⟨g, m + 2, none⟩ = some (.int .u8 79) := hat 2 (by omega)
  have hml : m ≤ 140737488355300 := by omega
  have HN := Lib.hid hn
  clear hr hat hl hn
  go_enter Tryz.func13, Tryz.ntmps13
  go_wp2_with (go_at_call 11; refine (same_any _ _ _ _ _ _ l l _ hrl hm HN.out HN.out).mono ?_; rintro e w1 ⟨rfl, rfl⟩)
  go_ret
  exact ⟨rfl, rfl⟩

end Go.Proofs.YtdmnkhcddbjglaaGreat
