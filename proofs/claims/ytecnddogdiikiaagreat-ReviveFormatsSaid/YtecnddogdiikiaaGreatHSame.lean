/-
  Words for bytes in memory: a slice value that reads as a list of bytes; a row of bytes that the call itself has made; append onto such a row.
  chancerylow.CopyBytes, LentBytes, SameBytes, KeptBytes: what each call does.
  Rows of numbers: store.below, chanceryref15.numbers, chancerylow.SameInts: what each call does.
  bytes.Compare, octets.Cmp, octets.Same, chancerylow.SameInts: what each call does.
-/
import Derived.Test.YtecnddogdiikiaaGreatProg
import Derived.WalkKit
import Derived.Maps.AppendAt
import Derived.Deep.AppendLies
import Derived.RegionTactic
import Derived.OwnWalk
import Derived.Lib.Hide
import Derived.KernelRfl
import Derived.Outline
import Derived.BigQuiet
import Derived.Deep.QuietTactic
import Derived.Shelf.Bytes.SlEqualAll
import Derived.Lib.Bytealg
import Derived.Laws.Externs
set_option linter.unusedVariables false
set_option linter.unusedSimpArgs false
namespace Go.Proofs.YtecnddogdiikiaaGreat
open Go Go.RowKit

abbrev u8V (x : UInt8) : Value := .int .u8 (x.toNat : Int)

/-- the slice 'A' of these bytes lies below block B -/
def Rd (w : World) (B : Nat) (A : Option Addr) (l : List UInt8) : Prop :=
  l ≠ [] → ∃ b o, A = some ⟨b, o, none⟩ ∧ b < B ∧ ∀ k (h : k < l.length), w.cell? ⟨b, o + k, none⟩ = some (u8V l[k])

/-- a row of bytes of the call's own, from block 'base' on -/
def Own (w : World) (base : Nat) (v : Value) (l : List UInt8) : Prop := w.ownsRow base 5 1 v l.length (l.map u8V)

theorem Tryz.info5 : (Tryz.prog.info? 5).map (fun i => (i.zero, i.size, i.bytes)) = some (some (.int .u8 0), 1, 1) := by kernel_rfl

section
variable {w w' : World} {B B' : Nat} {A : Option Addr} {l : List UInt8} {v : Value}

theorem Rd.nil (w : World) (B : Nat) (A : Option Addr) : Rd w B A [] := fun h => absurd rfl h
theorem Rd.keep (h : Rd w B A l) (hk : ∀ p : Addr, p.block < B → w'.cell? p = w.cell? p) : Rd w' B A l := fun hl => by
  obtain ⟨b, o, e, hb, hc⟩ := h hl
  exact ⟨b, o, e, hb, fun k hk' => (hk _ hb).trans (hc k hk')⟩
theorem Rd.more (h : Rd w B A l) (hB : B ≤ B') : Rd w B' A l := fun hl => by
  obtain ⟨b, o, e, hb, hc⟩ := h hl
  exact ⟨b, o, e, by omega, hc⟩
theorem Rd.below (h : Rd w B A l) (hb : Below B w w') : Rd w' B A l := h.keep fun _ hp => hb.cell hp
theorem Rd.belowS (h : Rd w w.heap.size A l) (hb : Below w.heap.size w w') : Rd w' w'.heap.size A l := (h.below hb).more hb.size
theorem Rd.at_ (h : Rd w B A l) {k : Nat} (hk : k < l.length) : ∃ b o, A = some ⟨b, o, none⟩ ∧ b < B ∧ w.cell? ⟨b, o + k, none⟩ = some (u8V l[k]) := by
  obtain ⟨b, o, e, hb, hc⟩ := h (by rintro rfl; simp at hk)
  exact ⟨b, o, e, hb, hc k hk⟩
theorem Rd.alloc (h : Rd w B A l) (hB : B ≤ w.heap.size) (o : Obj) : Rd (w.alloc o) B A l := h.keep fun p hp => World.cell?_alloc_lt w o p (by omega)
theorem Rd.setCell (h : Rd w B A l) {p : Addr} (hB : B ≤ p.block) (u : Value) : Rd (w.setCell p u) B A l :=
  h.keep fun q hq => World.cell?_setCell_other w p q u (fun e => by subst e; omega)
theorem Rd.one (w : World) (x : UInt8) : Rd (w.alloc (.cells #[u8V x] 5)) (w.heap.size + 1) (some ⟨w.heap.size, 0, none⟩) [x] := fun _ =>
  ⟨_, 0, rfl, by omega, fun k hk => by
    obtain rfl : k = 0 := by simpa using hk
    rw [World.cell?_alloc_at _ _ _ _ rfl]; rfl⟩
theorem Own.nil (w : World) (base : Nat) : Own w base (.slice none 0 0) [] := World.ownsRow_nil _ _ _ _
theorem Own.form (h : Own w B v l) : (v = .slice none 0 0 ∧ l = []) ∨ ∃ g cap, v = .slice (some ⟨g, 0, none⟩) l.length cap ∧ B ≤ g ∧ g < w.heap.size ∧ l.length ≤ cap ∧ cap ≤ maxLen ∧ ∀ k (hk : k < l.length), w.cell? ⟨g, k, none⟩ = some (u8V l[k]) := by
  rcases h.2 with ⟨h1, h2⟩ | ⟨g, cap, cur, h1, h2, h3, h4, h5, h6, h7⟩
  · exact .inl ⟨h1, List.eq_nil_of_length_eq_zero h2⟩
  · refine .inr ⟨g, cap, h1, h2, ?_, h4, h5, fun k hk => ?_⟩
    · rcases Nat.lt_or_ge g w.heap.size with hlt | hge
      · exact hlt
      · rw [Array.getElem?_eq_none hge] at h3; cases h3
    · have e : (cur.toList.take (l.length * 1))[k]? = (l.map u8V)[k]? := by rw [h7]
      rw [List.getElem?_take, if_pos (by omega), List.getElem?_map, List.getElem?_eq_getElem hk] at e
      simp only [World.cell?, h3]
      simpa using e
theorem Own.slice (h : Own w B v l) : ∃ A cap, v = .slice A l.length cap ∧ l.length ≤ cap ∧ cap ≤ maxLen ∧ Rd w w.heap.size A l := by
  rcases h.form with ⟨rfl, rfl⟩ | ⟨g, cap, rfl, _, hlt, h4, h5, hc⟩
  · exact ⟨none, 0, rfl, Nat.le_refl _, Nat.zero_le _, .nil _ _ _⟩
  · exact ⟨_, cap, rfl, h4, h5, fun _ => ⟨g, 0, rfl, hlt, fun k hk => by rw [Nat.zero_add]; exact hc k hk⟩⟩
theorem Own.sl {n : Nat} (h : Own w B v l) (hn : l.length = n) : ∃ A cap, v = .slice A n cap ∧ n ≤ cap ∧ cap ≤ maxLen ∧ Rd w w.heap.size A l := by subst hn; exact h.slice
theorem Own.cast {m : List UInt8} (h : Own w B v l) (e : l = m) : Own w B v m := by subst e; exact h
theorem Own.blk (h : Own w B v l) : ∀ k, v.ownBlock = some k → B ≤ k := by
  intro k hk
  rcases h.form with ⟨rfl, rfl⟩ | ⟨g, cap, rfl, h2, _⟩
  · simp [Value.ownBlock] at hk
  · simp [Value.ownBlock] at hk; omega
theorem Own.down (h : Own w B v l) (hB : B' ≤ B) : Own w B' v l := by
  refine ⟨h.1, ?_⟩
  rcases h.2 with e | ⟨g, cap, cur, h1, h2, h3⟩
  · exact .inl e
  · exact .inr ⟨g, cap, cur, h1, by omega, h3⟩
theorem Own.blocks (h : Own w B v l) (hb : ∀ k, v.ownBlock = some k → w'.heap[k]? = w.heap[k]?) : Own w' B v l := by
  refine ⟨h.1, ?_⟩
  rcases h.2 with e | ⟨g, cap, cur, h1, h2, h3, h4⟩
  · exact .inl e
  · exact .inr ⟨g, cap, cur, h1, h2, (hb g (by rw [h1]; rfl)).trans h3, h4⟩
theorem Own.lt (h : Own w B v l) : ∀ k, v.ownBlock = some k → k < w.heap.size := by
  intro k hk
  rcases h.form with ⟨rfl, rfl⟩ | ⟨g, cap, rfl, h2, h3, _⟩
  · simp [Value.ownBlock] at hk
  · simp [Value.ownBlock] at hk; omega
theorem Own.alloc (h : Own w B v l) (o : Obj) : Own (w.alloc o) B v l := h.blocks fun k hk => Below.heap_alloc w o k (h.lt k hk)
theorem Own.belowS (h : Own w B v l) (hb : Below w.heap.size w w') : Own w' B v l := h.blocks fun k hk => hb.block k (h.lt k hk)
theorem Own.setCell (h : Own w B v l) {p : Addr} (hp : v.ownBlock ≠ some p.block) (u : Value) : Own (w.setCell p u) B v l :=
  h.blocks fun k hk => Below.heap_setCell w p u k (fun e => hp (by rw [hk, e]))
end

/-- append onto a row of the call's own, from whatever source -/
theorem apB {w : World} {ops : Array Oper} {rest : List Oper} {o : Oper} {a : Act} {Q : Exit → Act → World → Prop} (hgd : o.guard = none) (s x : Operand)
    (ho : o.op = .call { callee := .builtin .append, args := #[s, x], argTypes := #[37, 37] })
    (base : Nat) (v : Value) (l : List UInt8) (hs : a.eval s = v) (hown : Own w base v l) (B : Nat) (A : Option Addr) (m c : Nat) (news : List UInt8) (hx : a.eval x = .slice A m c) (hm : m = news.length) (hr : Rd w B A news)
    (hlen : l.length + news.length ≤ 140737488355328) (hbase : base ≤ w.heap.size)
    (h : ∀ v' w', Own w' base v' (l ++ news) → Below base w w' → (v'.ownBlock = v.ownBlock ∨ v'.ownBlock = some w.heap.size) → w.grownBy w' v.ownBlock → wpList Tryz.prog ops Q rest (a.put o.dst v') w') : wpList Tryz.prog ops Q (o :: rest) a w := by
  obtain ⟨i0, hi, hz0, hz1, hz2⟩ := info_parts Tryz.info5
  subst hm
  have hb := hown.blk
  rcases Nat.eq_zero_or_pos news.length with h0 | h0
  · have hn : news = [] := List.eq_nil_of_length_eq_zero h0
    subst hn
    have hx' : a.eval x = .slice A 0 c := hx
    refine wpList_plain hgd fun _ hK => ?_
    cases A with
    | none =>
      have hrun : (Builtin.append_ #[37, 37] o.type #[v, .slice none 0 c]).run Tryz.prog w = .ok v w := by
        rcases hown.2 with ⟨rfl, _⟩ | ⟨g, cap, cur, rfl, _, _, hnc, _⟩
        · simp [Builtin.append_, run_underlying Tryz.underlying37, sizeOf, typeInfo, hi, Builtin.lenOf, Builtin.firstCells]
        · simp [Builtin.append_, run_underlying Tryz.underlying37, sizeOf, typeInfo, hi, Builtin.lenOf, Builtin.firstCells, hnc, storeCells]
      unfold Oper.wp execOp
      simp only [ho, resolve, invoke, builtin, Sem.run_bind, Sem.run_pure, Result.andThen_ok, List.map_toArray, List.map_cons, List.map_nil, hs, hx', hrun]
      exact hK _ _ (h v w (by simpa using hown) (Below.refl _ _) (.inl rfl) (World.grownBy.refl w _))
    | some ad =>
      obtain ⟨v', w', hrun, h2, h3, _, h5⟩ := run_append_own_at (P := Tryz.prog) w base 37 o.type 5 i0 (.int .u8 0) 1 1 Tryz.underlying37 hi hz0 hz1 hz2 rfl (by decide) v l.length (l.map u8V) hown ad 0 c []
        (by simp) (by intro j u hu; simp at hu) (by simp) (by unfold maxLen; omega) (by omega) hbase
      unfold Oper.wp execOp
      simp only [ho, resolve, invoke, builtin, Sem.run_bind, Sem.run_pure, Result.andThen_ok, List.map_toArray, List.map_cons, List.map_nil, hs, hx', hrun]
      exact hK _ _ (h v' w' (by simpa [Own] using h2) ⟨h3.os, h3.tape, h3.output, h3.size, fun k hk => h3.block k (by omega) (fun e => by have := hb k e.symm; omega)⟩ h5 h3)
  · obtain ⟨b, off, rfl, hbB, hc⟩ := hr (by rintro rfl; simp at h0)
    refine wpList_plain hgd fun _ hK => ?_
    have hcells : ∀ j u, (news.map u8V)[j]? = some u → w.cell? ((⟨b, off, none⟩ : Addr).add j) = some u := by
      intro j u hu
      rw [List.getElem?_map] at hu
      rcases Nat.lt_or_ge j news.length with hj | hj
      · rw [List.getElem?_eq_getElem hj] at hu
        simp only [Option.map_some, Option.some.injEq] at hu
        subst hu
        have : (⟨b, off, none⟩ : Addr).add j = ⟨b, off + j, none⟩ := by unfold Addr.add; split <;> simp_all
        rw [this]; exact hc j hj
      · rw [List.getElem?_eq_none hj] at hu; cases hu
    obtain ⟨v', w', hrun, h2, h3, _, h5⟩ := run_append_own_at (P := Tryz.prog) w base 37 o.type 5 i0 (.int .u8 0) 1 1 Tryz.underlying37 hi hz0 hz1 hz2 rfl (by decide) v l.length (l.map u8V) hown ⟨b, off, none⟩ news.length c (news.map u8V)
      (by simp) hcells (by intro u hu; simp at hu; obtain ⟨_, _, rfl⟩ := hu; rfl) (by unfold maxLen; omega) (by omega) hbase
    unfold Oper.wp execOp
    simp only [ho, resolve, invoke, builtin, Sem.run_bind, Sem.run_pure, Result.andThen_ok, List.map_toArray, List.map_cons, List.map_nil, hs, hx, hrun]
    exact hK _ _ (h v' w' (by unfold Own; rw [List.length_append, List.map_append]; exact h2) ⟨h3.os, h3.tape, h3.output, h3.size, fun k hk => h3.block k (by omega) (fun e => by have := hb k e.symm; omega)⟩ h5 h3)

end Go.Proofs.YtecnddogdiikiaaGreat

namespace Go.Proofs.YtecnddogdiikiaaGreat
open Go Go.RowKit
set_option maxRecDepth 100000
set_option maxHeartbeats 1600000

theorem copy_any (A : Option Addr) (c n : Nat) (l : List UInt8) (w : World) (hr : Rd w w.heap.size A l) (hn : n = l.length) (hl : l.length ≤ 140737488355328) :
    Calls Tryz.prog 16 #[.slice A n c] w fun e w' => ∃ v, e = .returned v ∧ Own w' w.heap.size v l ∧ Below w.heap.size w w' := by
  have HN := Lib.hid hn
  clear hn
  go_enter Tryz.func16, Tryz.ntmps16
  go_wp2_with (at_builtin; refine apB rfl (.tmp 4) (.tmp 5) rfl w.heap.size _ [] rfl (.nil _ _) _ _ n c l rfl HN.out hr ?c1 ?c2 ?_)
  case c1 => simp; omega
  case c2 => omega
  intro v w1 hown hb _ _
  go_wp2
  go_ret
  exact ⟨_, rfl, by simpa using hown, hb⟩

theorem Rd.three (w : World) : Rd (w.alloc (.cells #[.int .u8 77, .int .u8 78, .int .u8 79] 5)) (w.heap.size + 1) (some ⟨w.heap.size, 0, none⟩) [77, 78, 79] := fun _ =>
  ⟨_, 0, rfl, by omega, fun k hk => by
    have hk2 : k < 3 := hk
    have : k = 0 ∨ k = 1 ∨ k = 2 := by omega
    rcases this with rfl | rfl | rfl <;> (rw [World.cell?_alloc_at _ _ _ _ rfl]; rfl)⟩

theorem conv_any {A : Option Addr} {c n : Nat} {l : List UInt8} {w : World} {B : Nat} (hr : Rd w B A l) (hn : n = l.length) : (convert 37 9 (.slice A n c)).run Tryz.prog w = .ok (.string ⟨l.toArray⟩) w := by
  subst hn
  have hb : Lib.BytesIn w A l.length (l.map fun x => (x.toNat : Int)) := fun hn => by
    obtain ⟨b, o, e, _, hc⟩ := hr (by rintro rfl; simp at hn)
    exact ⟨b, o, e, fun i hi => by rw [hc i hi]; simp [u8V, hi]⟩
  have h := hb.convert (P := Tryz.prog) (by simp) c 37 5 9 Tryz.underlying37 Tryz.underlying5 Tryz.underlying9
  rw [h]
  congr 2
  apply ByteArray.ext
  apply Array.ext'
  rw [strOfNums_data, List.map_map]
  show l.map _ = l
  conv => rhs; rw [← List.map_id l]
  apply List.map_congr_left
  intro x _
  simp

theorem same_any (A C : Option Addr) (c d n m : Nat) (l k : List UInt8) (w : World) (hr : Rd w w.heap.size A l) (hm : Rd w w.heap.size C k) (hn : n = l.length) (hn2 : m = k.length) :
    Calls Tryz.prog 56 #[.slice A n c, .slice C m d] w fun e w' => e = .returned (.bool (decide (l = k))) ∧ w = w' := by
  have h1 := conv_any (c := c) hr hn
  have h2 := conv_any (c := d) hm hn2
  have HN := Lib.hid hn
  have HM := Lib.hid hn2
  clear hn hn2
  go_enter Tryz.func56, Tryz.ntmps56
  go_wp2
  go_ret
  exact ⟨by
    show Ending.returned (.bool _) = _
    congr 2
    rw [Bool.eq_iff_iff]
    simp, rfl⟩


end Go.Proofs.YtecnddogdiikiaaGreat

namespace Go.Proofs.YtecnddogdiikiaaGreat
open Go Go.RowKit
set_option maxRecDepth 100000
set_option maxHeartbeats 1600000

/-- the slice 'A' of these numbers lies below block B -/
def RdI (w : World) (B : Nat) (A : Option Addr) (l : List Int) : Prop :=
  l ≠ [] → ∃ b o, A = some ⟨b, o, none⟩ ∧ b < B ∧ ∀ k (h : k < l.length), w.cell? ⟨b, o + k, none⟩ = some (.int .i64 l[k])

section
variable {w w' : World} {B B' : Nat} {A : Option Addr} {l : List Int} {v : Value}
theorem RdI.nil (w : World) (B : Nat) (A : Option Addr) : RdI w B A [] := fun h => absurd rfl h
theorem RdI.keep (h : RdI w B A l) (hk : ∀ p : Addr, p.block < B → w'.cell? p = w.cell? p) : RdI w' B A l := fun hl => by
  obtain ⟨b, o, e, hb, hc⟩ := h hl
  exact ⟨b, o, e, hb, fun k hk' => (hk _ hb).trans (hc k hk')⟩
theorem RdI.more (h : RdI w B A l) (hB : B ≤ B') : RdI w B' A l := fun hl => by
  obtain ⟨b, o, e, hb, hc⟩ := h hl
  exact ⟨b, o, e, by omega, hc⟩
theorem RdI.below (h : RdI w B A l) (hb : Below B w w') : RdI w' B A l := h.keep fun _ hp => hb.cell hp
theorem RdI.belowS (h : RdI w w.heap.size A l) (hb : Below w.heap.size w w') : RdI w' w'.heap.size A l := (h.below hb).more hb.size
theorem RdI.at_ (h : RdI w B A l) {k : Nat} (hk : k < l.length) : ∃ b o, A = some ⟨b, o, none⟩ ∧ b < B ∧ w.cell? ⟨b, o + k, none⟩ = some (.int .i64 l[k]) := by
  obtain ⟨b, o, e, hb, hc⟩ := h (by rintro rfl; simp at hk)
  exact ⟨b, o, e, hb, hc k hk⟩
theorem RdI.alloc (h : RdI w B A l) (hB : B ≤ w.heap.size) (o : Obj) : RdI (w.alloc o) B A l := h.keep fun p hp => World.cell?_alloc_lt w o p (by omega)
theorem RdI.drew (h : RdI w B A l) : RdI w.drew B A l := h.keep fun _ _ => rfl
end

/-- do numbers rise, from above a on, below lim? -/
def rise (lim : Int) : Int → List Int → Bool
  | _, [] => true
  | a, n :: l => decide (a < n) && (decide (n < lim) && rise lim n l)

theorem rise_at {lim a : Int} {l : List Int} {k : Nat} (hk : k < l.length) : rise lim a (l.drop k) = (decide (a < l[k]) && (decide (l[k] < lim) && rise lim l[k] (l.drop (k + 1)))) := by
  rw [List.drop_eq_getElem_cons hk, rise]

theorem below_any (A : Option Addr) (c n : Nat) (lim : Int) (l : List Int) (w : World) (hr : RdI w w.heap.size A l) (hn : n = l.length) (hl : l.length ≤ 140737488355328) :
    Calls Tryz.prog 186 #[.slice A n c, .int .i64 lim] w fun e w' => e = .returned (.bool (rise lim 0 l)) ∧ w' = w := by
  have HN := Lib.hid hn
  have hnl : n ≤ 140737488355328 := by omega
  clear hn hl
  go_enter Tryz.func186, Tryz.ntmps186
  go_wp2
  go_loopw [5, 10] (fun x i wr => ∃ (k : Nat) (a : Int), k ≤ n ∧ i = .int .i64 k ∧ x = .int .i64 a ∧ rise lim 0 l = rise lim a (l.drop k) ∧ wr = w) (fun _ i _ => n - (intOf i).toNat)
  case atStart => exact ⟨0, 0, by omega, rfl, rfl, by simp, rfl⟩
  case round =>
    obtain ⟨k, a, hk, rfl, rfl, hrise, rfl⟩ := hrel
    have HR := Lib.hid hrise
    clear hrise
    by_cases hlt : k < n
    · have hkl : k < l.length := by have := HN.out; omega
      have hat := rise_at (lim := lim) (a := a) hkl
      obtain ⟨b, o, rfl, hbB, hc⟩ := hr.at_ hkl
      by_cases h1 : a < l[k]
      · by_cases h2 : l[k] < lim
        · have HT := Lib.hid hat
          clear hat
          go_wp2
          go_roundw
          case rel => exact ⟨k + 1, l[k], by omega, by go_num, rfl, by rw [HR.out, HT.out]; simp [h1, h2], trivial⟩
          case measure => simp [intOf] <;> omega
        · have HT := Lib.hid hat
          clear hat
          go_wp2
          go_ret
          exact ⟨by rw [HR.out, HT.out]; simp; intros; omega, rfl⟩
      · have HT := Lib.hid hat
        clear hat
        go_wp2
        go_ret
        exact ⟨by rw [HR.out, HT.out]; simp; intros; omega, rfl⟩
    · obtain rfl : k = n := by omega
      go_wp2
      go_ret
      exact ⟨by rw [HR.out, List.drop_of_length_le (by have := HN.out; omega)]; rfl, rfl⟩

/-- the number ahead of place k -/
def prev (l : List Int) (k : Nat) : Int := if h : 0 < k ∧ k ≤ l.length then l[k - 1]'(by omega) else 0

theorem prev_succ {l : List Int} {k : Nat} (h : k < l.length) : prev l (k + 1) = l[k] := by
  unfold prev
  rw [dif_pos ⟨by omega, by omega⟩]
  rfl

theorem drewN_below (w : World) (B n : Nat) : Below B w (w.drewN n) := ⟨rfl, rfl, rfl, Nat.le_refl _, fun _ _ => rfl⟩

theorem numbers_any (A : Option Addr) (c n : Nat) (lim : Int) (l : List Int) (w : World) (hr : RdI w w.heap.size A l) (hn : n = l.length) (hl : l.length ≤ 140737488355328) :
    Calls Tryz.prog 213 #[.slice A n c, .int .i64 lim] w fun e w' => e = .returned (.bool (rise lim 0 l)) ∧ ∃ q, w' = w.drewN q := by
  have HN := Lib.hid hn
  have hnl : n ≤ 140737488355328 := by omega
  clear hn hl
  go_enter Tryz.func213, Tryz.ntmps213
  go_wp2
  go_loopw [5] (fun i wr => ∃ (k : Nat), k ≤ n ∧ i = .int .i64 k ∧ rise lim 0 l = rise lim (prev l k) (l.drop k) ∧ 0 ≤ prev l k ∧ ∃ q, wr = w.drewN q) (fun i _ => n - (intOf i).toNat)
  case atStart => exact ⟨0, by omega, rfl, by simp [prev], by simp [prev], 0, rfl⟩
  case round =>
    obtain ⟨k, hk, rfl, hrise, hp0, q0, rfl⟩ := hrel
    have HR := Lib.hid hrise
    clear hrise
    by_cases hlt : k < n
    · have hkl : k < l.length := by have := HN.out; omega
      have HT := Lib.hid (rise_at (lim := lim) (a := prev l k) hkl)
      obtain ⟨b, o, rfl, hbB, hc⟩ := hr.at_ hkl
      have hpn : prev l (k + 1) = l[k] := prev_succ hkl
      have fin : ∀ n1, ∃ q, (w.drewN q0).drewN n1 = w.drewN q := fun n1 => ⟨q0 + n1, by rw [World.drewN_drewN]⟩
      by_cases h1 : l[k] < 1
      · have hd1 : decide (l[k] < 1) = true := by simp [h1]
        go_wp2
        go_quiet (fail)
        go_wp2
        go_ret
        exact ⟨by show Ending.returned (.bool false) = _; rw [HR.out, HT.out]; simp; intros; omega, fin _⟩
      have hd1 : decide (l[k] < 1) = false := by simp; omega
      by_cases h2 : lim ≤ l[k]
      · have hd2 : decide (lim ≤ l[k]) = true := by simp [h2]
        go_wp2
        go_quiet (fail)
        go_wp2
        go_ret
        exact ⟨by show Ending.returned (.bool false) = _; rw [HR.out, HT.out]; simp; intros; omega, fin _⟩
      have hd2 : decide (lim ≤ l[k]) = false := by simp; omega
      by_cases hk0 : 0 < k
      · obtain ⟨b', o', e, hbB', hc'⟩ := hr.at_ (show k - 1 < l.length by omega)
        cases e
        have htn : ((k : Int) - 1).toNat = k - 1 := by omega
        have hge : (0 : Int) ≤ (k : Int) - 1 := by omega
        have hpv : prev l k = l[k - 1] := by unfold prev; rw [dif_pos ⟨hk0, by omega⟩]
        rw [hpv] at HT HR hp0
        have hd3 : decide (0 < k) = true := by simp [hk0]
        clear hpv
        by_cases h3 : l[k] ≤ l[k - 1]
        · have hd4 : decide (l[k] ≤ l[k - 1]) = true := by simp [h3]
          go_wp2
          go_quiet (fail)
          go_wp2
          go_ret
          exact ⟨by show Ending.returned (.bool false) = _; rw [HR.out, HT.out]; simp; intros; omega, fin _⟩
        · have hd4 : decide (l[k] ≤ l[k - 1]) = false := by simp; omega
          go_wp2
          go_quiet (fail)
          go_wp2
          go_roundw
          case rel => exact ⟨k + 1, by omega, by go_num, by rw [HR.out, HT.out, hpn, decide_eq_true (show l[k - 1] < l[k] by omega), decide_eq_true (show l[k] < lim by omega)]; rfl, by rw [hpn]; omega, _, rfl⟩
          case measure => simp [intOf] <;> omega
      · have hz : prev l k = 0 := by unfold prev; rw [dif_neg (by omega)]
        rw [hz] at HT HR hp0
        have hd3 : decide (0 < k) = false := by simp; omega
        clear hz
        go_wp2
        go_quiet (fail)
        go_wp2
        go_roundw
        case rel => exact ⟨k + 1, by omega, by go_num, by rw [HR.out, HT.out, hpn, decide_eq_true (show 0 < l[k] by omega), decide_eq_true (show l[k] < lim by omega)]; rfl, by rw [hpn]; omega, _, rfl⟩
        case measure => simp [intOf] <;> omega
    · obtain rfl : k = n := by omega
      go_wp2
      go_ret
      exact ⟨by rw [HR.out, List.drop_of_length_le (by have := HN.out; omega)]; rfl, q0, rfl⟩
end Go.Proofs.YtecnddogdiikiaaGreat

namespace Go.Proofs.YtecnddogdiikiaaGreat
open Go Go.RowKit
set_option maxRecDepth 100000
set_option maxHeartbeats 1600000

theorem loadBytes_any {w : World} : ∀ (l : List UInt8) (a : Addr) (acc : ByteArray), (∀ j v, (l.map u8V)[j]? = some v → w.cell? (a.add j) = some v) →
    (Extern.Bytes.loadBytes a l.length acc).run Tryz.prog w = .ok ⟨(acc.data.toList ++ l).toArray⟩ w
  | [], a, acc, _ => by simp [Extern.Bytes.loadBytes]
  | x :: l, a, acc, h => by
    have h0 := h 0 (u8V x) rfl
    rw [show a.add 0 = a from rfl] at h0
    have ih := loadBytes_any l (a.add 1) (acc.push x) (by
      intro j v hj
      have : (a.add 1).add j = a.add (j + 1) := by
        unfold Addr.add
        by_cases hj0 : j = 0
        · subst hj0; simp
        · simp [hj0]; omega
      rw [this]
      exact h (j + 1) v (by simpa using hj))
    simp only [List.length_cons, Extern.Bytes.loadBytes, Sem.run_bind]
    have hl : (load a : Sem Value).run Tryz.prog w = .ok (u8V x) w := by simp [h0]
    rw [hl]
    simp only [Result.andThen_ok, u8V]
    have hx : ((x.toNat : Int)).toNat.toUInt8 = x := by simp
    rw [hx, ih]
    simp
theorem bytesOf_any {w : World} {B n c : Nat} {A : Option Addr} {l : List UInt8} (hr : Rd w B A l) (hn : n = l.length) : (Extern.Bytes.bytesOf (.slice A n c)).run Tryz.prog w = .ok ⟨l.toArray⟩ w := by
  subst hn
  cases l with
  | nil => cases A <;> rfl
  | cons x l =>
    obtain ⟨b, o, rfl, _, hc⟩ := hr (by simp)
    have h := loadBytes_any (x :: l) ⟨b, o, none⟩ .empty (w := w) (by
      intro j v hj
      rw [List.getElem?_map] at hj
      rcases Nat.lt_or_ge j (x :: l).length with hlt | hge
      · rw [List.getElem?_eq_getElem hlt] at hj
        simp only [Option.map_some, Option.some.injEq] at hj
        subst hj
        have : (⟨b, o, none⟩ : Addr).add j = ⟨b, o + j, none⟩ := by unfold Addr.add; split <;> simp_all
        rw [this]; exact hc j hlt
      · rw [List.getElem?_eq_none hge] at hj; cases hj)
    exact h
theorem compareBytes_zero : ∀ l k : List UInt8, Lib.compareBytes l k = 0 ↔ l = k
  | [], [] => by simp [Lib.compareBytes]
  | [], y :: k => by simp [Lib.compareBytes]
  | x :: l, [] => by simp [Lib.compareBytes]
  | x :: l, y :: k => by
    have := compareBytes_zero l k
    simp only [Lib.compareBytes]
    by_cases h1 : x < y
    · rw [if_pos h1]
      constructor
      · intro h; omega
      · intro h; injection h with h _; subst h; exact absurd h1 (by simp)
    · rw [if_neg h1]
      by_cases h2 : y < x
      · rw [if_pos h2]
        constructor
        · intro h; omega
        · intro h; injection h with h _; subst h; exact absurd h2 (by simp)
      · rw [if_neg h2, this]
        have : x = y := by
          rw [UInt8.lt_iff_toNat_lt] at h1 h2
          exact UInt8.toNat_inj.1 (by omega)
        simp [this]
theorem compare_any (A C : Option Addr) (c d n m : Nat) (l k : List UInt8) (w : World) (hr : Rd w w.heap.size A l) (hm : Rd w w.heap.size C k) (hn : n = l.length) (hn2 : m = k.length) :
    (callFunc 234 #[.slice A n c, .slice C m d]).run Tryz.prog w = .ok (.value (.int .i64 (Lib.compareBytes l k))) w := by
  rw [run_callFunc_extern Tryz.func234 (by kernel_rfl) (by kernel_rfl) (by kernel_rfl) (e := Extern.BytealgCompare.compare) (by kernel_rfl)]
  have h : (Extern.BytealgCompare.compare #[.slice A n c, .slice C m d]) = (do pure (goInt (Extern.BytealgCompare.cmp (← Extern.Bytes.bytesOf (.slice A n c)) (← Extern.Bytes.bytesOf (.slice C m d)))) : Sem Value) := rfl
  rw [h]
  simp only [Sem.run_bind, bytesOf_any hr hn, bytesOf_any hm hn2, Result.andThen_ok, Sem.run_pure, Lib.cmp_eq]
  rfl

theorem bcompare_any (A C : Option Addr) (c d n m : Nat) (l k : List UInt8) (w : World) (hr : Rd w w.heap.size A l) (hm : Rd w w.heap.size C k) (hn : n = l.length) (hn2 : m = k.length) :
    Calls Tryz.prog 201 #[.slice A n c, .slice C m d] w fun e w' => e = .returned (.int .i64 (Lib.compareBytes l k)) ∧ w' = w := by
  have h := compare_any A C c d n m l k w hr hm hn hn2
  clear hn hn2
  go_enter Tryz.func201, Tryz.ntmps201
  go_wp2
  go_ret
  exact ⟨rfl, rfl⟩
theorem cmp_any (A C : Option Addr) (c d n m : Nat) (l k : List UInt8) (w : World) (hr : Rd w w.heap.size A l) (hm : Rd w w.heap.size C k) (hn : n = l.length) (hn2 : m = k.length) :
    Calls Tryz.prog 140 #[.slice A n c, .slice C m d] w fun e w' => e = .returned (.int .i64 (Lib.compareBytes l k)) ∧ w' = w := by
  have HN := Lib.hid hn
  have HM := Lib.hid hn2
  clear hn hn2
  go_enter Tryz.func140, Tryz.ntmps140
  go_wp2_with (go_at_call 201; refine (bcompare_any _ _ _ _ _ _ l k _ hr hm HN.out HM.out).mono ?_; rintro e w1 ⟨rfl, rfl⟩)
  go_ret
  exact ⟨rfl, rfl⟩
theorem osame_any (A C : Option Addr) (c d n m : Nat) (l k : List UInt8) (w : World) (hr : Rd w w.heap.size A l) (hm : Rd w w.heap.size C k) (hn : n = l.length) (hn2 : m = k.length) :
    Calls Tryz.prog 114 #[.slice A n c, .slice C m d] w fun e w' => e = .returned (.bool (decide (l = k))) ∧ w' = w := by
  have HN := Lib.hid hn
  have HM := Lib.hid hn2
  have hz : (Lib.compareBytes l k == 0) = decide (l = k) := by
    have := compareBytes_zero l k
    rw [Bool.eq_iff_iff]; simp [this]
  have HZ := Lib.hid hz
  clear hn hn2 hz
  go_enter Tryz.func114, Tryz.ntmps114
  go_wp2_with (go_at_call 140; refine (cmp_any _ _ _ _ _ _ l k _ hr hm HN.out HM.out).mono ?_; rintro e w1 ⟨rfl, rfl⟩)
  go_ret
  exact ⟨by rw [← HZ.out]; rfl, rfl⟩

theorem sints_any (A C : Option Addr) (c d n m : Nat) (l k : List Int) (w : World) (hr : RdI w w.heap.size A l) (hm : RdI w w.heap.size C k) (hn : n = l.length) (hn2 : m = k.length) (hl : l = k) (hle : n ≤ 1000000) :
    Calls Tryz.prog 48 #[.slice A n c, .slice C m d] w fun e w' => e = .returned (.bool true) ∧ ∃ q, w' = w.drewN q := by
  subst hl
  obtain rfl : n = m := by omega
  have HN := Lib.hid hn
  clear hn hn2
  go_enter Tryz.func48, Tryz.ntmps48
  go_wp2
  go_loopw [5] (fun i wr => ∃ j : Nat, j ≤ n ∧ i = .int .i64 j ∧ ∃ q, wr = w.drewN q) (fun i _ => n - (intOf i).toNat)
  case atStart => exact ⟨0, by omega, rfl, 0, rfl⟩
  case round =>
    obtain ⟨j, hj, rfl, q, rfl⟩ := hrel
    by_cases hlt : j < n
    · have hjl : j < l.length := by have := HN.out; omega
      obtain ⟨b, o, rfl, hbB, hc⟩ := hr.at_ hjl
      obtain ⟨b', o', rfl, hbB', hc'⟩ := hm.at_ hjl
      go_wp2
      go_quiet (fail)
      go_wp2
      go_roundw
      case rel => exact ⟨j + 1, by omega, by go_num, _, rfl⟩
      case measure => simp [intOf] <;> omega
    · obtain rfl : j = n := by omega
      go_wp2
      go_ret
      exact ⟨rfl, _, rfl⟩
end Go.Proofs.YtecnddogdiikiaaGreat

