/-
  octets.Add16, Add32, Add64, U16, U32, U64, page.Below, tree.size as known functions of the evaluator, given what the calls do.
  page.Unpack: the walk, over the bytes of a page that is right.
  page.Below, tree.weight, tree.size: the walks; what the calls of octets do, as the evaluator wants it.
-/
import Derived.Test.YtdmnkhcddbjglaaGreatPk2
import Derived.Test.YtdmnkhcddbjglaaGreatPk6
import Derived.Test.YtdmnkhcddbjglaaGreatPk5
import Derived.Test.YtdmnkhcddbjglaaGreatHNum
set_option linter.unusedVariables false
set_option linter.unusedSimpArgs false
namespace Go.Ev
open Go Go.RowKit Go.Proofs Go.Proofs.YtdmnkhcddbjglaaGreat
set_option maxRecDepth 100000
noncomputable section

/-- bytes, and behind them a number's lowest ones -/
structure AddAt (P : Program) (f : FuncId) (k : IntKind) (s m : Nat) : Prop where
  enter : enters P f = true
  call : ∀ (A : Option Addr) (c n v : Nat) (l : List UInt8) (w : World), Rd w w.heap.size A l → n = l.length → l.length ≤ 1000000 → v ≤ m →
    Calls P f #[.slice A n c, .int k v] w fun e w' => ∃ u, e = .returned u ∧ Proofs.YtdmnkhcddbjglaaGreat.Own w' w.heap.size u (l ++ le s v) ∧ Below w.heap.size w w'
def addE (F : Nat) (k : IntKind) (s m : Nat) : ExtF := fun f args st => bif Nat.beq f F then
    match args with
    | [a, .int q (.ofNat v)] => match rowN st a with
      | some (n, N) => bif (Nat.beq q.ctorIdx k.ctorIdx && (Nat.ble n 1000000 && Nat.ble v m)) && (Nat.ble 1 s && st.room) then some (.slice st.next 0 (n + s) (n + s) 1, st.alloc (.bytes true (n + s) (N ||| (v % 2 ^ (8 * s)) <<< (8 * n)))) else none
      | none => none
    | _ => none
  else none

theorem ctor_eq {a b : IntKind} (h : Nat.beq a.ctorIdx b.ctorIdx = true) : a = b := by
  have := Nat.eq_of_beq_eq_true h
  cases a <;> cases b <;> first | rfl | cases this
theorem le_mod (s v : Nat) : Rep s (v % 2 ^ (8 * s)) (le s v) := by
  refine ⟨Nat.mod_lt _ (Nat.two_pow_pos _), ?_⟩
  rw [bl_le]
  unfold bl
  refine List.map_congr_left fun k hk => ?_
  rw [byte_mod, if_pos (List.mem_range.1 hk)]

theorem addE_ok {P : Program} {G F s m : Nat} {k : IntKind} (K : AddAt P F k s m) : ExtOk P G (addE F k s m) := by
  intro f args st v st' h ρ w cargs hR hG hA
  unfold addE at h
  obtain ⟨hf, h'⟩ := bif_some h
  clear h; have h := h'; clear h'
  have := Nat.eq_of_beq_eq_true hf
  subst this
  refine .inl ⟨enters_spec K.enter cargs, ?_⟩
  obtain ⟨cl⟩ := cargs
  split at h
  · rename_i a q v
    cases hA with | cons h1 hA =>
    cases hA with | cons h2 hA =>
    cases hA
    cases h2
    split at h
    · rename_i n N hrow
      obtain ⟨hc, h'⟩ := bif_some h
      clear h; have h := h'; clear h'
      simp only [Bool.and_eq_true, Nat.ble_eq] at hc
      obtain ⟨⟨hq, hn, hv⟩, hs, hroom⟩ := hc
      have := ctor_eq hq
      subst this
      simp only [Option.some.injEq, Prod.mk.injEq] at h
      obtain ⟨rfl, rfl⟩ := h
      obtain ⟨A, c, rfl, hN, hr⟩ := rowN_ok hR hrow h1
      refine (K.call A c n v (bl n N) w hr (bl_length _ _).symm (by rw [bl_length]; exact hn) hv).mono ?_
      rintro e w' ⟨u, rfl, hown, hbl⟩
      have hrep := (Rep.self hN).cat (le_mod s v)
      rw [← hrep.eq] at hown
      obtain ⟨ρ', hv, hg⟩ := own_name hR hroom hbl hown (by omega)
      exact ⟨_, rfl, ρ', hv, hg⟩
    · cases h
  · cases h

/-- the number that s bytes say -/
structure NumAt (P : Program) (f : FuncId) (k : IntKind) (s : Nat) : Prop where
  enter : enters P f = true
  call : ∀ (A : Option Addr) (c n p : Nat) (l : List UInt8) (w : World), Rd w w.heap.size A l → n = l.length → l.length ≤ 1000000 → p + s ≤ l.length →
    Calls P f #[.slice A n c, .int .i64 p] w fun e w' => e = .returned (.tuple #[.int k (leN (sub l p s) : Nat), .bool true]) ∧ w' = w
def numE (F s : Nat) (k : IntKind) : ExtF := fun f args st => bif Nat.beq f F then
    match args with
    | [a, .int q (.ofNat p)] => match rowN st a with
      | some (n, N) => bif Nat.beq q.ctorIdx IntKind.i64.ctorIdx && (Nat.ble n 1000000 && Nat.ble (p + s) n) then some (.tup [.int k (.ofNat (cutB N p s)), .bool true], st) else none
      | none => none
    | _ => none
  else none

theorem leN_bl : ∀ (s N : Nat), leN (bl s N) = N % 2 ^ (8 * s)
  | 0, N => by simp [bl, leN, Nat.mod_one]
  | s + 1, N => by
    rw [bl_succ, leN, leN_bl s, show (UInt8.ofNat (N % 256)).toNat = N % 256 by simp, Nat.shiftRight_eq_div_pow, show 8 * (s + 1) = 8 + 8 * s by omega, Nat.pow_add, show (2 : Nat) ^ 8 = 256 from rfl, Nat.mod_mul]
theorem sub_bl {n N p s : Nat} (h : p + s ≤ n) : sub (bl n N) p s = bl s (cutB N p s) := by
  apply List.ext_getElem
  · rw [sub_len (by rw [bl_length]; exact h), bl_length]
  · intro k h1 h2
    rw [bl_length] at h2
    rw [sub_get (by rw [bl_length]; exact h) h2]
    apply UInt8.toNat_inj.1
    rw [bl_get, bl_get, byte_cutB, if_pos h2]
theorem numE_ok {P : Program} {G F s : Nat} {k : IntKind} (K : NumAt P F k s) : ExtOk P G (numE F s k) := by
  intro f args st v st' h ρ w cargs hR hG hA
  unfold numE at h
  obtain ⟨hf, h'⟩ := bif_some h
  clear h; have h := h'; clear h'
  have := Nat.eq_of_beq_eq_true hf
  subst this
  refine .inl ⟨enters_spec K.enter cargs, ?_⟩
  obtain ⟨cl⟩ := cargs
  split at h
  · rename_i a q p
    cases hA with | cons h1 hA =>
    cases hA with | cons h2 hA =>
    cases hA
    cases h2
    split at h
    · rename_i n N hrow
      obtain ⟨hc, h'⟩ := bif_some h
      clear h; have h := h'; clear h'
      simp only [Bool.and_eq_true, Nat.ble_eq] at hc
      obtain ⟨hq, hn, hp⟩ := hc
      have := ctor_eq hq
      subst this
      simp only [Option.some.injEq, Prod.mk.injEq] at h
      obtain ⟨rfl, rfl⟩ := h
      obtain ⟨A, c, rfl, hN, hr⟩ := rowN_ok hR hrow h1
      refine (K.call A c n p (bl n N) w hr (bl_length _ _).symm (by rw [bl_length]; exact hn) (by rw [bl_length]; exact hp)).mono ?_
      rintro e w' ⟨rfl, rfl⟩
      have e1 : leN (sub (bl n N) p s) = cutB N p s := by
        rw [sub_bl hp, leN_bl]
        unfold cutB
        exact Nat.mod_mod _ _
      rw [e1]
      exact ⟨_, rfl, ρ, .tup _ _ (.cons (.int _ _) (.cons (.bool _) .nil)), Good.refl hR⟩
    · cases h
  · cases h

/-- two rows of bytes: does the first one stand behind? 0 no, 1 yes, 2 not told -/
def gtK : Nat → Nat → Nat → Nat → Nat → Nat
  | 0, _, _, _, _ => 2
  | f + 1, n, N, m, M => bif Nat.beq n 0 then 0 else bif Nat.beq m 0 then 1 else
    bif Nat.beq (N % 256) (M % 256) then gtK f (n - 1) (N >>> 8) (m - 1) (M >>> 8) else bif Nat.blt (M % 256) (N % 256) then 1 else 0
theorem gtK_cmp : ∀ {f n N m M : Nat}, (gtK f n N m M = 1 → 0 < Lib.compareBytes (bl n N) (bl m M)) ∧ (gtK f n N m M = 0 → Lib.compareBytes (bl n N) (bl m M) ≤ 0)
  | 0, _, _, _, _ => by simp [gtK]
  | f + 1, n, N, m, M => by
    unfold gtK
    by_cases hn : n = 0
    · subst hn
      cases m with
      | zero => exact ⟨by simp, fun _ => by simp [bl, Lib.compareBytes]⟩
      | succ m => refine ⟨by simp, fun _ => ?_⟩; rw [bl_succ]; simp [bl, Lib.compareBytes]
    · have hn' : Nat.beq n 0 = false := Bool.eq_false_iff.2 fun e => hn (Nat.eq_of_beq_eq_true e)
      rw [hn', cond_false]
      obtain ⟨n, rfl⟩ : ∃ k, n = k + 1 := ⟨n - 1, by omega⟩
      by_cases hm : m = 0
      · subst hm
        refine ⟨fun _ => ?_, by simp⟩
        rw [bl_succ]
        simp [bl, Lib.compareBytes]
      · have hm' : Nat.beq m 0 = false := Bool.eq_false_iff.2 fun e => hm (Nat.eq_of_beq_eq_true e)
        rw [hm', cond_false]
        obtain ⟨m, rfl⟩ : ∃ k, m = k + 1 := ⟨m - 1, by omega⟩
        rw [bl_succ, bl_succ]
        have e1 : (UInt8.ofNat (N % 256)).toNat = N % 256 := by simp
        have e2 : (UInt8.ofNat (M % 256)).toNat = M % 256 := by simp
        have l1 : (UInt8.ofNat (N % 256) < UInt8.ofNat (M % 256)) ↔ N % 256 < M % 256 := by rw [UInt8.lt_iff_toNat_lt, e1, e2]
        have l2 : (UInt8.ofNat (M % 256) < UInt8.ofNat (N % 256)) ↔ M % 256 < N % 256 := by rw [UInt8.lt_iff_toNat_lt, e1, e2]
        unfold Lib.compareBytes
        by_cases hx : N % 256 = M % 256
        · have n1 : ¬ (UInt8.ofNat (N % 256) < UInt8.ofNat (M % 256)) := by rw [l1]; omega
          have n2 : ¬ (UInt8.ofNat (M % 256) < UInt8.ofNat (N % 256)) := by rw [l2]; omega
          have hbq : Nat.beq (N % 256) (M % 256) = true := by rw [hx]; exact Nat.beq_refl _
          rw [if_neg n1, if_neg n2, hbq, cond_true]
          simpa using gtK_cmp (f := f) (n := n) (N := N >>> 8) (m := m) (M := M >>> 8)
        · have hx' : Nat.beq (N % 256) (M % 256) = false := Bool.eq_false_iff.2 fun e => hx (Nat.eq_of_beq_eq_true e)
          rw [hx', cond_false]
          cases hb : Nat.blt (M % 256) (N % 256) with
          | true =>
            have := blt_iff.1 hb
            rw [if_neg (by rw [l1]; omega), if_pos (l2.2 this)]
            simp
          | false =>
            have : ¬ M % 256 < N % 256 := fun h => by rw [blt_iff.2 h] at hb; cases hb
            rw [if_pos (l1.2 (by omega))]
            simp
/-- how many cells, from the first on, have a key that is not above -/
def belowK : List NC → Nat → Nat → Nat → Option Nat
  | [], _, _, i => some i
  | ⟨kn, K, _, _⟩ :: cs, n, N, i => match gtK 700 kn K n N with
    | 0 => belowK cs n N (Nat.succ i)
    | 1 => some i
    | _ => none
/-- the first j cells have keys that are not above l; the next one's is -/
def BelowIs (cs : List NC) (l : List UInt8) (j : Nat) : Prop := j ≤ cs.length ∧ (∀ i (h : i < cs.length), i < j → Lib.compareBytes cs[i].key l ≤ 0) ∧ ∀ h : j < cs.length, 0 < Lib.compareBytes cs[j].key l
theorem belowK_is : ∀ {cs : List NC} {n N i r : Nat}, belowK cs n N i = some r → ∃ j, r = i + j ∧ BelowIs cs (bl n N) j
  | [], n, N, i, r, h => by
    simp only [belowK, Option.some.injEq] at h
    exact ⟨0, by omega, by simp, fun i h => by simp at h, fun h => by simp at h⟩
  | ⟨kn, K, vn, V⟩ :: cs, n, N, i, r, h => by
    unfold belowK at h
    split at h
    · rename_i hg
      obtain ⟨j, e, h1, h2, h3⟩ := belowK_is h
      refine ⟨j + 1, by omega, by simpa using h1, fun i hi hij => ?_, fun hj => ?_⟩
      · cases i with
        | zero => exact gtK_cmp.2 hg
        | succ i => exact h2 i (by simpa using hi) (by omega)
      · exact h3 (by simpa using hj)
    · rename_i hg
      simp only [Option.some.injEq] at h
      exact ⟨0, by omega, by simp, fun i _ h => by omega, fun _ => gtK_cmp.1 hg⟩
    · cases h
structure BelowAt (P : Program) (f : FuncId) : Prop where
  enter : enters P f = true
  call : ∀ (x y : Value) (cs : List NC) (A B : Option Addr) (n c m d j : Nat) (l : List UInt8) (w : World), x.oneCell' = true → y.oneCell' = true → n = cs.length → n ≤ 100000 → PgM w w.heap.size A cs → Rd w w.heap.size B l → m = l.length → BelowIs cs l j →
    Calls P f #[.agg #[x, y, .slice A n c], .slice B m d] w fun e w' => e = .returned (.int .i64 (j : Nat)) ∧ Below w.heap.size w w'
def belowE (F : Nat) : ExtF := fun f args st => bif Nat.beq f F then
    match args with
    | [.agg [.int _ _, .int _ _, a], b] => match cellsOf st a, rowN st b with
      | some (n, cs), some (m, M) => match belowK cs m M 0 with
        | some j => bif Nat.ble n 100000 then some (.int .i64 (.ofNat j), st) else none
        | none => none
      | _, _ => none
    | _ => none
  else none
theorem belowE_ok {P : Program} {G F : Nat} (K : BelowAt P F) : ExtOk P G (belowE F) := by
  intro f args st v st' h ρ w cargs hR hG hA
  unfold belowE at h
  obtain ⟨hf, h'⟩ := bif_some h
  clear h; have h := h'; clear h'
  have := Nat.eq_of_beq_eq_true hf
  subst this
  refine .inl ⟨enters_spec K.enter cargs, ?_⟩
  obtain ⟨cl⟩ := cargs
  split at h
  · rename_i q1 z1 q2 z2 a b
    cases hA with | cons h1 hA =>
    cases hA with | cons h2 hA =>
    cases hA
    cases h1 with | agg _ arr h1 =>
    obtain ⟨al⟩ := arr
    cases h1 with | cons hk h1 =>
    cases h1 with | cons hn h1 =>
    cases h1 with | cons ha h1 =>
    cases h1
    cases hk
    cases hn
    split at h
    · rename_i n cs m M hcs hrow
      split at h
      · rename_i j hj
        obtain ⟨hc, h'⟩ := bif_some h
        simp only [Option.some.injEq, Prod.mk.injEq] at h'
        obtain ⟨rfl, rfl⟩ := h'
        obtain ⟨hn, ⟨A, c, rfl, hpg⟩, hlt⟩ := cellsOf_ok hR hcs ha
        obtain ⟨B, d, rfl, hM, hr⟩ := rowN_ok hR hrow h2
        obtain ⟨j', e, hb⟩ := belowK_is hj
        obtain rfl : j = j' := by omega
        refine (K.call _ _ cs A B n c m d j (bl m M) w rfl rfl hn (Nat.ble_eq.mp hc) hpg hr (bl_length _ _).symm hb).mono ?_
        rintro e w' ⟨rfl, hbl⟩
        exact ⟨_, rfl, ρ, .int _ _, Good.below hR hbl⟩
      · cases h
    · cases h
  · cases h

structure SizeAt (P : Program) (f : FuncId) : Prop where
  enter : enters P f = true
  call : ∀ (x y : Value) (cs : List NC) (A : Option Addr) (n c : Nat) (w : World), x.oneCell' = true → y.oneCell' = true → n = cs.length → n ≤ 10000 → (∀ c ∈ cs, c.Ok) → PgM w w.heap.size A cs →
    Calls P f #[.agg #[x, y, .slice A n c]] w fun e w' => e = .returned (.int .i64 ((2 * n + bodyS cs : Nat) : Int)) ∧ Below w.heap.size w w'
def sizeE (F : Nat) : ExtF := fun f args st => bif Nat.beq f F then
    match args with
    | [.agg [.int _ _, .int _ _, a]] => match cellsOf st a with
      | some (n, cs) => bif okN cs && Nat.ble n 10000 then some (.int .i64 (.ofNat (cellsC cs 0)), st) else none
      | _ => none
    | _ => none
  else none
theorem sizeE_ok {P : Program} {G F : Nat} (K : SizeAt P F) : ExtOk P G (sizeE F) := by
  intro f args st v st' h ρ w cargs hR hG hA
  unfold sizeE at h
  obtain ⟨hf, h'⟩ := bif_some h
  clear h; have h := h'; clear h'
  have := Nat.eq_of_beq_eq_true hf
  subst this
  refine .inl ⟨enters_spec K.enter cargs, ?_⟩
  obtain ⟨cl⟩ := cargs
  split at h
  · rename_i q1 z1 q2 z2 a
    cases hA with | cons h1 hA =>
    cases hA
    cases h1 with | agg _ arr h1 =>
    obtain ⟨al⟩ := arr
    cases h1 with | cons hk h1 =>
    cases h1 with | cons hn h1 =>
    cases h1 with | cons ha h1 =>
    cases h1
    cases hk
    cases hn
    split at h
    · rename_i n cs hcs
      obtain ⟨hc, h'⟩ := bif_some h
      simp only [Option.some.injEq, Prod.mk.injEq] at h'
      obtain ⟨rfl, rfl⟩ := h'
      simp only [Bool.and_eq_true] at hc
      obtain ⟨hn, ⟨A, c, rfl, hpg⟩, hlt⟩ := cellsOf_ok hR hcs ha
      refine (K.call _ _ cs A n c w rfl rfl hn (Nat.ble_eq.mp hc.2) (okN_ok hc.1 hlt) hpg).mono ?_
      rintro e w' ⟨rfl, hbl⟩
      rw [cellsC_eq, hn, Nat.zero_add]
      exact ⟨_, rfl, ρ, .int _ _, Good.below hR hbl⟩
    · cases h
  · cases h
end
end Go.Ev

namespace Go.Proofs.YtdmnkhcddbjglaaGreat
open Go Go.RowKit Go.Shelf
open Go.Ev (PgM PageOk CellsOut rowsOf rowsV rowV rowsOf_len UnpAt)
set_option maxRecDepth 100000
set_option maxHeartbeats 4000000

theorem out_down {et n₀ n₁ : Nat} {W : World} {v : Value} {cs : List NC} (h : CellsOut et n₁ W v cs) (hn : n₀ ≤ n₁) : CellsOut et n₀ W v cs := by
  obtain ⟨gs, e1, e2, e3, e4, e5⟩ := h
  refine ⟨gs, e1, ⟨e2.1, ?_⟩, e3, e4, fun k p g h1 h2 => ?_⟩
  · rcases e2.2 with h | ⟨b, cap, cur, rfl, h1, h2⟩
    · exact .inl h
    · exact .inr ⟨b, cap, cur, rfl, by omega, h2⟩
  · obtain ⟨h3, h4⟩ := e5 k p g h1 h2
    exact ⟨by omega, h4.down hn⟩
theorem out_blocks {n₀ Z k1 k2 : Nat} {W W' : World} {v u : Value} {cs : List NC} (h : CellsOut 161 n₀ W v cs) (hz : Bx W Z k1 k2 u) (hb : ∀ j, j < W.heap.size → j ≠ Z → W'.heap[j]? = W.heap[j]?) : CellsOut 161 n₀ W' v cs := by
  obtain ⟨gs, e1, e2, e3, e4, e5⟩ := h
  refine ⟨gs, e1, ⟨e2.1, ?_⟩, e3, e4, fun k p g h1 h2 => ?_⟩
  · rcases e2.2 with h | ⟨b, cap, cur, rfl, h1, h2, h3⟩
    · exact .inl h
    · exact .inr ⟨b, cap, cur, rfl, h1, (hb b (Array.getElem?_eq_some_iff.1 h2).1 (fun e => hz.not_row (by decide) e2 (by simp [Value.ownBlock, e]))).trans h2, h3⟩
  · obtain ⟨h3, h4⟩ := e5 k p g h1 h2
    exact ⟨h3, h4.blocks fun j hj => hb j (h4.lt j hj) (fun e => hz.not_row (by decide) h4 (by rw [hj, e]))⟩
theorem out_belowS {n₀ Z k1 k2 : Nat} {W W' : World} {v u : Value} {cs : List NC} (h : CellsOut 161 n₀ W v cs) (hz : Bx W Z k1 k2 u) (hb : Below W.heap.size W W') : CellsOut 161 n₀ W' v cs := out_blocks h hz fun j hj _ => hb.block j hj
theorem out_one {n₀ : Nat} {W : World} {v : Value} {cs : List NC} (h : CellsOut 161 n₀ W v cs) : v.oneCell' = true := by
  obtain ⟨gs, _, e2, _⟩ := h
  rcases e2.2 with ⟨rfl, _⟩ | ⟨_, _, _, rfl, _⟩ <;> rfl
theorem rowsOf_get : ∀ (cs : List NC) (i : Nat) (h : i < cs.length), (rowsOf cs)[2 * i]? = some (cs[i].kn, cs[i].K) ∧ (rowsOf cs)[2 * i + 1]? = some (cs[i].vn, cs[i].V)
  | [], i, h => by simp at h
  | ⟨_, _, _, _⟩ :: cs, 0, h => ⟨rfl, rfl⟩
  | ⟨_, _, _, _⟩ :: cs, i + 1, h => by
    have := rowsOf_get cs i (by simpa using h)
    rw [show 2 * (i + 1) = 2 * i + 1 + 1 by omega, show 2 * i + 1 + 1 + 1 = (2 * i + 1) + 1 + 1 by omega]
    simpa [rowsOf] using this
theorem out_pgm {n₀ : Nat} {W : World} {v : Value} {cs : List NC} (h : CellsOut 161 n₀ W v cs) : ∃ A c, v = .slice A cs.length c ∧ PgM W W.heap.size A cs := by
  obtain ⟨gs, e1, e2, e3, e4, e5⟩ := h
  have hl := rowsOf_len cs
  rcases e2.2 with ⟨rfl, h0⟩ | ⟨b, cap, cur, rfl, h1, h2, h3, h4, h5, h6⟩
  · have := List.eq_nil_of_length_eq_zero h0
    subst this
    exact ⟨none, 0, rfl, [], rfl, fun h => absurd rfl h, fun i h => by simp at h⟩
  · refine ⟨_, cap, rfl, (List.range cs.length).map fun i => ⟨some ⟨(gs.getD (2 * i) (0, 0)).1, 0, none⟩, (cs.getD i ⟨0, 0, 0, 0⟩).kn, (gs.getD (2 * i) (0, 0)).2, some ⟨(gs.getD (2 * i + 1) (0, 0)).1, 0, none⟩, (cs.getD i ⟨0, 0, 0, 0⟩).vn, (gs.getD (2 * i + 1) (0, 0)).2⟩, by simp, ?_, ?_⟩
    · intro _
      refine ⟨b, 0, rfl, (Array.getElem?_eq_some_iff.1 h2).1, fun i hi => ?_⟩
      have hi : i < cs.length := by simpa using hi
      obtain ⟨r1, r2⟩ := rowsOf_get cs i hi
      have hg1 : gs[2 * i]? = some (gs.getD (2 * i) (0, 0)) := by rw [List.getD_eq_getElem?_getD, List.getElem?_eq_getElem (by omega)]; rfl
      have hg2 : gs[2 * i + 1]? = some (gs.getD (2 * i + 1) (0, 0)) := by rw [List.getD_eq_getElem?_getD, List.getElem?_eq_getElem (by omega)]; rfl
      have hc : (cs.getD i ⟨0, 0, 0, 0⟩) = cs[i] := by simp [hi]
      have q1 : (rowsV (rowsOf cs) gs)[2 * i]? = some (.slice (some ⟨(gs.getD (2 * i) (0, 0)).1, 0, none⟩) cs[i].kn (gs.getD (2 * i) (0, 0)).2) := by
        unfold rowsV
        have hz : ((rowsOf cs).zip gs)[2 * i]? = some ((cs[i].kn, cs[i].K), gs.getD (2 * i) (0, 0)) := List.getElem?_zip_eq_some.2 ⟨r1, hg1⟩
        rw [List.getElem?_map, hz]
        rfl
      have q2 : (rowsV (rowsOf cs) gs)[2 * i + 1]? = some (.slice (some ⟨(gs.getD (2 * i + 1) (0, 0)).1, 0, none⟩) cs[i].vn (gs.getD (2 * i + 1) (0, 0)).2) := by
        unfold rowsV
        have hz : ((rowsOf cs).zip gs)[2 * i + 1]? = some ((cs[i].vn, cs[i].V), gs.getD (2 * i + 1) (0, 0)) := List.getElem?_zip_eq_some.2 ⟨r2, hg2⟩
        rw [List.getElem?_map, hz]
        rfl
      rw [← h6] at q1 q2
      rw [List.getElem?_take, if_pos (by omega)] at q1 q2
      simp only [World.cell?, h2, List.getElem_map, List.getElem_range, CV.k, CV.v, hc, Nat.zero_add]
      rw [show i * 2 = 2 * i by omega]
      exact ⟨by simpa using q1, by simpa using q2⟩
    · intro i hi g
      obtain ⟨r1, r2⟩ := rowsOf_get cs i g
      have hg1 : gs[2 * i]? = some (gs.getD (2 * i) (0, 0)) := by rw [List.getD_eq_getElem?_getD, List.getElem?_eq_getElem (by omega)]; rfl
      have hg2 : gs[2 * i + 1]? = some (gs.getD (2 * i + 1) (0, 0)) := by rw [List.getD_eq_getElem?_getD, List.getElem?_eq_getElem (by omega)]; rfl
      have hc : (cs.getD i ⟨0, 0, 0, 0⟩) = cs[i] := by simp [g]
      obtain ⟨_, o1⟩ := e5 _ _ _ r1 hg1
      obtain ⟨_, o2⟩ := e5 _ _ _ r2 hg2
      obtain ⟨A1, c1, e6, _, _, d1⟩ := o1.slice
      obtain ⟨A2, c2, e7, _, _, d2⟩ := o2.slice
      simp only [Value.slice.injEq] at e6 e7
      obtain ⟨rfl, _, _⟩ := e6
      obtain ⟨rfl, _, _⟩ := e7
      simp only [List.getElem_map, List.getElem_range, hc]
      exact ⟨trivial, trivial, d1, d2⟩

theorem osame_true {A C : Option Addr} {c d n m : Nat} {l : List UInt8} {w : World} (hr : Rd w w.heap.size A l) (hm : Rd w w.heap.size C l) (hn : n = l.length) (hn2 : m = l.length) :
    Calls Tryz.prog 55 #[.slice A n c, .slice C m d] w fun e w' => e = .returned (.bool true) ∧ w' = w := by
  refine (osame_any A C c d n m l l w hr hm hn hn2).mono ?_
  rintro e w' ⟨rfl, rfl⟩
  simp

theorem unp_call (kind next : Nat) (cs : List NC) (b o c : Nat) (w : World) (hok : PageOk kind next cs) (hv1 : ∀ c ∈ cs, 1 ≤ c.vn) (hbw : b < w.heap.size) (hc : 4080 ≤ c) (hcell : ∀ k (h : k < (pgL kind next cs).length), w.cell? ⟨b, o + k, none⟩ = some (u8V (pgL kind next cs)[k])) :
    Calls Tryz.prog 197 #[.slice (some ⟨b, o, none⟩) 4080 c] w fun e w' => (∃ v, e = .returned (.tuple #[.agg #[.int .u8 kind, .int .i64 next, v], .int .i64 0]) ∧ CellsOut 161 w.heap.size w' v cs) ∧ Below w.heap.size w w' := by
  have hlen := pg_len hok
  have hrd : Rd w w.heap.size (some ⟨b, o, none⟩) (pgL kind next cs) := fun _ => ⟨b, o, rfl, hbw, hcell⟩
  have hkd := hok.kind
  obtain ⟨W1, hW1⟩ : ∃ W1, W1 = w.alloc (.cells #[.int .u8 0, .int .i64 0, .slice none 0 0] 98) := ⟨_, rfl⟩
  have hz1 : W1.heap.size = w.heap.size + 1 := by rw [hW1]; simp
  have hbl0 : Below w.heap.size w W1 := by rw [hW1]; exact (Below.refl _ _).alloc (Nat.le_refl _) _
  have hZ : Bx W1 w.heap.size 0 0 (.slice none 0 0) := by rw [hW1]; exact heap_alloc_new _ _
  have CR := read_any kind next cs b o c W1 hok hv1 (by omega) hc (fun k h => (hbl0.cell (p := ⟨b, o + k, none⟩) hbw).trans (hcell k h))
  have HOK := Lib.hid hok
  have HLN := Lib.hid hlen
  have HZ := Lib.hid hz1
  have HZ1 := Lib.hid hZ
  have HB0 := Lib.hid hbl0
  have HRD := Lib.hid hrd
  clear hok hv1 hcell hlen hrd hkd hz1 hZ hbl0
  go_enter Tryz.func197, Tryz.ntmps197
  go_upto_region 1 with fail
  rw [← hW1]
  clear hW1
  have HP : ∀ (v : Value) (w2 : World), CellsOut 161 W1.heap.size w2 v cs → ∃ A n d, v = .slice A n d ∧ n = cs.length ∧ PgM w2 w2.heap.size A cs := fun v w2 h => by
    obtain ⟨A, d, e, h⟩ := out_pgm h
    exact ⟨A, cs.length, d, e, rfl, h⟩
  have HP := Lib.hid HP
  go_upto_region 4 with (go_at_call 227; with_reducible refine CR.mono ?_; clear CR; rintro e w2 ⟨⟨v, rfl, hout⟩, hb2⟩; obtain ⟨A, n, d, rfl, hn, hpg⟩ := HP.out v w2 hout; have HN := Lib.hid hn; clear hn)
  have hs2 := hb2.size
  have hZ2 : Bx w2 w.heap.size 0 0 (.slice none 0 0) := (hb2.block _ (by have := HZ.out; omega)).trans HZ1.out
  obtain ⟨W3, hW3⟩ : ∃ W3, W3 = w2.alloc (.cells #[.int .u8 kind, .int .i64 next, .slice A n d] 98) := ⟨_, rfl⟩
  have hb3 : Below w2.heap.size w2 W3 := by rw [hW3]; exact (Below.refl _ _).alloc (Nat.le_refl _) _
  have hG : Bx W3 w2.heap.size kind next (.slice A n d) := by rw [hW3]; exact heap_alloc_new _ _
  have hout3 := out_belowS hout hZ2 hb3
  have hZ3 : Bx W3 w.heap.size 0 0 (.slice none 0 0) := (hb3.block _ hZ2.lt).trans hZ2
  have CP := pack_call kind next cs A n d W3 HOK.out HN.out ((hpg.below hb3).more hb3.size)
  have hbl3 := HB0.out.trans ((hb2.mono (show w.heap.size ≤ W1.heap.size by have := HZ.out; omega)).trans (hb3.mono (show w.heap.size ≤ w2.heap.size by have := HZ.out; omega)))
  have hWs : w.heap.size < W1.heap.size := by have := HZ.out; omega
  have hs3 := hb3.size
  rw [← hW3]
  clear hW3
  have hRP : ∀ (v : Value) (w4 : World), Own w4 W3.heap.size v (pgL kind next cs) → ∃ A c, v = .slice A 4080 c ∧ Rd w4 w4.heap.size A (pgL kind next cs) := fun v w4 h => by
    obtain ⟨A, c, e, _, _, h⟩ := h.sl (n := 4080) HLN.out
    exact ⟨A, c, e, h⟩
  have HRP := Lib.hid hRP
  have HRW := Lib.hid ((HRD.out.below hbl3).more (show w.heap.size ≤ W3.heap.size by omega))
  have HB3 := Lib.hid hbl3
  have HO3 := Lib.hid hout3
  have HZ3 := Lib.hid hZ3
  have HGG := Lib.hid hG
  have y0 : W3.cell? ⟨w2.heap.size, 0, none⟩ = some (.int .u8 kind) := by unfold Bx at hG; simp [World.cell?, hG]
  have y1 : W3.cell? ⟨w2.heap.size, 1, none⟩ = some (.int .i64 next) := by unfold Bx at hG; simp [World.cell?, hG]
  have y2 : W3.cell? ⟨w2.heap.size, 2, none⟩ = some (.slice A n d) := hG.cell
  clear hRP hbl3 hout3 hZ3 hG hb3 hZ2 hb2 hpg hout
  go_upto_region 7 with (first
    | (go_at_call 61; with_reducible refine CP.mono ?_; clear CP; rintro e w4 ⟨⟨u, rfl, own⟩, hb4⟩; obtain ⟨A4, c4, rfl, r4⟩ := HRP.out u w4 own)
    | (go_at_call 55; with_reducible refine (osame_true (l := pgL kind next cs) r4 ((HRW.out.below hb4).more hb4.size) HLN.out.symm HLN.out.symm).mono ?_; rintro e w5 ⟨rfl, hw5⟩; rw [hw5]; clear hw5 w5))
  have hG4 : Bx w4 w2.heap.size kind next (.slice A n d) := (hb4.block _ HGG.out.lt).trans HGG.out
  have hZ4 : Bx w4 w.heap.size 0 0 (.slice none 0 0) := (hb4.block _ HZ3.out.lt).trans HZ3.out
  have hout4 := out_belowS HO3.out HZ3.out hb4
  have hbl4 := HB3.out.trans (hb4.mono (show w.heap.size ≤ W3.heap.size by omega))
  have x0 : w4.cell? ⟨w2.heap.size, 0, none⟩ = some (.int .u8 kind) := by unfold Bx at hG4; simp [World.cell?, hG4]
  have x1 : w4.cell? ⟨w2.heap.size, 1, none⟩ = some (.int .i64 next) := by unfold Bx at hG4; simp [World.cell?, hG4]
  have x2 : w4.cell? ⟨w2.heap.size, 2, none⟩ = some (.slice A n d) := hG4.cell
  have HZ4 := Lib.hid hZ4
  have HO4 := Lib.hid hout4
  clear hG4 hZ4 hout4
  go_wp2_with (refine stP rfl 98 (.tmp 2) (.tmp 30) rfl rfl w.heap.size 0 rfl 3 sz98 _ (.agg #[.int .u8 kind, .int .i64 next, .slice A n d]) 98 HZ4.out rfl (by simp) rfl (by intro u hu; simp only [Value.cells, List.mem_cons, List.not_mem_nil, or_false] at hu; rcases hu with rfl | rfl | rfl; exact rfl; exact rfl; exact rfl) ?_; intro w5 g5 o5 b5 z5)
  have g6 : w5.heap[w.heap.size]? = some (.cells #[.int .u8 kind, .int .i64 next, .slice A n d] 98 (0, 0)) := by rw [g5]; congr 2
  refine bodyPost_ret (ret_page rfl rfl g6 rfl) rfl ?_
  exact ⟨⟨_, rfl, out_down (out_blocks HO4.out HZ4.out fun j _ hj => o5 j hj) (by omega)⟩, hbl4.trans (b5 _ (Nat.le_refl _))⟩

theorem unpAt : UnpAt Tryz.prog 197 161 := ⟨by kernel_rfl, by decide, unp_call⟩
end Go.Proofs.YtdmnkhcddbjglaaGreat

namespace Go.Proofs.YtdmnkhcddbjglaaGreat
open Go Go.RowKit Go.Shelf
open Go.Ev (PgM PageOk BelowIs BelowAt SizeAt AddAt NumAt)
set_option maxRecDepth 100000
set_option maxHeartbeats 4000000

theorem weight_any (A B : Option Addr) (n c m d : Nat) (hn : n ≤ 1000000) (hm : m ≤ 1000000) (w : World) :
    Calls Tryz.prog 245 #[.agg #[.slice A n c, .slice B m d]] w fun e w' => e = .returned (.int .i64 ((6 + n + m : Nat) : Int)) ∧ Below w.heap.size w w' := by
  have n1 : IntKind.i64.wrap (6 + (n : Int)) = ((6 + n : Nat) : Int) := by rw [IntKind.wrap_i64]; omega
  have n2 : IntKind.i64.wrap (((6 + n : Nat) : Int) + (m : Int)) = ((6 + n + m : Nat) : Int) := by rw [IntKind.wrap_i64]; omega
  go_enter Tryz.func245, Tryz.ntmps245
  go_wp2
  go_ret
  exact ⟨by simp, (Below.refl _ _).alloc (Nat.le_refl _) _⟩

theorem cmp_sign {A C : Option Addr} {c d n m : Nat} {l k : List UInt8} {w : World} (hr : Rd w w.heap.size A l) (hm : Rd w w.heap.size C k) (hn : n = l.length) (hn2 : m = k.length) :
    Calls Tryz.prog 122 #[.slice A n c, .slice C m d] w fun e w' => ∃ z : Int, e = .returned (.int .i64 z) ∧ z = Lib.compareBytes l k ∧ w' = w := by
  refine (cmp_any A C c d n m l k w hr hm hn hn2).mono ?_
  rintro e w' ⟨rfl, rfl⟩
  exact ⟨_, rfl, rfl, rfl⟩

theorem below_call (x y : Value) (cs : List NC) (A B : Option Addr) (n c m d j : Nat) (l : List UInt8) (w : World) (hx : x.oneCell' = true) (hy : y.oneCell' = true) (hn : n = cs.length) (hn1 : n ≤ 100000) (hp : PgM w w.heap.size A cs) (hr : Rd w w.heap.size B l) (hm : m = l.length) (hj : BelowIs cs l j) :
    Calls Tryz.prog 212 #[.agg #[x, y, .slice A n c], .slice B m d] w fun e w' => e = .returned (.int .i64 (j : Nat)) ∧ Below w.heap.size w w' := by
  obtain ⟨j1, j2, j3⟩ := hj
  rw [← hn] at j1
  have HN := Lib.hid hn
  have HM := Lib.hid hm
  obtain ⟨wb, hwb⟩ : ∃ wb, wb = w.alloc (.cells #[x, y, .slice A n c] 98) := ⟨_, rfl⟩
  have hb1 : Below w.heap.size w wb := by rw [hwb]; exact (Below.refl _ _).alloc (Nat.le_refl _) _
  have hz0 : wb.heap.size = w.heap.size + 1 := by rw [hwb]; simp
  have hz1 : w.heap.size < wb.heap.size := by omega
  have c2 : wb.cell? ⟨w.heap.size, 2, none⟩ = some (.slice A n c) := by rw [hwb, World.cell?_alloc_at _ _ _ _ rfl]; rfl
  have HP := Lib.hid (hp.below hb1)
  have HR := Lib.hid (hr.below hb1)
  have HJ2 := Lib.hid j2
  have HJ3 := Lib.hid j3
  clear hn hm hp hr j2 j3 hz0
  go_enter Tryz.func212, Tryz.ntmps212
  go_upto_region 1 with fail
  rw [← hwb]
  clear hwb
  go_wp2
  go_loopw [10] (fun i wr => ∃ k : Nat, k ≤ j ∧ i = .int .i64 k ∧ Below wb.heap.size wb wr) (fun i _ => n - natOf i)
  case atStart => exact ⟨0, by omega, rfl, Below.refl _ _⟩
  case round =>
    obtain ⟨k, hk, rfl, hb⟩ := hrel
    have hbz := hb.size
    by_cases hlt : k < n
    · have hkl : k < cs.length := by have := HN.out; omega
      have hpw := (HP.out.below (hb.mono (by omega)))
      obtain ⟨b, o, ka, kc, va, vc, rfl, hbb, e1, e2, hk1, hv1⟩ := hpw.at_ hkl
      have hrk := Lib.hid ((hk1.alloc (by omega) (.cells #[.slice ka cs[k].kn kc, .slice va cs[k].vn vc] 161)).more (B' := (wr.alloc (.cells #[.slice ka cs[k].kn kc, .slice va cs[k].vn vc] 161)).heap.size) (by simp; omega))
      have hrl := Lib.hid (((HR.out.below (hb.mono (by omega))).alloc (by omega) (.cells #[.slice ka cs[k].kn kc, .slice va cs[k].vn vc] 161)).more (B' := (wr.alloc (.cells #[.slice ka cs[k].kn kc, .slice va cs[k].vn vc] 161)).heap.size) (by simp; omega))
      have hb' := hb.alloc (by omega) (.cells #[.slice ka cs[k].kn kc, .slice va cs[k].vn vc] 161)
      clear hk1 hv1 hpw
      by_cases hkj : k < j
      · have hs := HJ2.out k hkl hkj
        go_wp2_with (go_at_call 122; with_reducible refine (cmp_sign (l := cs[k].key) (k := l) hrk.out hrl.out (by simp [NC.key, bl_length]) HM.out).mono ?_; rintro e w5 ⟨z, rfl, hz, hw5⟩; rw [hw5]; clear hw5 w5; rw [← hz] at hs; have hs2 : ¬ (0 < z) := by omega)
        go_roundw
        case rel => exact ⟨k + 1, by omega, by go_num, hb'⟩
        case measure => simp [natOf] <;> omega
      · obtain rfl : k = j := by omega
        have hs := HJ3.out hkl
        go_wp2_with (go_at_call 122; with_reducible refine (cmp_sign (l := cs[k].key) (k := l) hrk.out hrl.out (by simp [NC.key, bl_length]) HM.out).mono ?_; rintro e w5 ⟨z, rfl, hz, hw5⟩; rw [hw5]; clear hw5 w5; rw [← hz] at hs)
        go_ret
        exact ⟨rfl, hb1.trans (hb'.mono (by omega))⟩
    · obtain rfl : k = n := by omega
      obtain rfl : j = k := by omega
      have f2 : wr.cell? ⟨w.heap.size, 2, none⟩ = some (.slice A j c) := (hb.cell (p := ⟨w.heap.size, 2, none⟩) (by show w.heap.size < _; omega)).trans c2
      go_wp2
      go_ret
      exact ⟨rfl, hb1.trans (hb.mono (by omega))⟩

theorem size_call (x y : Value) (cs : List NC) (A : Option Addr) (n c : Nat) (w : World) (hx : x.oneCell' = true) (hy : y.oneCell' = true) (hn : n = cs.length) (hn1 : n ≤ 10000) (hok : ∀ c ∈ cs, c.Ok) (hp : PgM w w.heap.size A cs) :
    Calls Tryz.prog 215 #[.agg #[x, y, .slice A n c]] w fun e w' => e = .returned (.int .i64 ((2 * n + bodyS cs : Nat) : Int)) ∧ Below w.heap.size w w' := by
  have HN := Lib.hid hn
  have HOK := Lib.hid hok
  obtain ⟨wb, hwb⟩ : ∃ wb, wb = w.alloc (.cells #[x, y, .slice A n c] 98) := ⟨_, rfl⟩
  have hb1 : Below w.heap.size w wb := by rw [hwb]; exact (Below.refl _ _).alloc (Nat.le_refl _) _
  have hz0 : wb.heap.size = w.heap.size + 1 := by rw [hwb]; simp
  have hz1 : w.heap.size < wb.heap.size := by omega
  have c2 : wb.cell? ⟨w.heap.size, 2, none⟩ = some (.slice A n c) := by rw [hwb, World.cell?_alloc_at _ _ _ _ rfl]; rfl
  have HP := Lib.hid (hp.below hb1)
  have hS : ∀ k, k ≤ n → bodyS (cs.take k) ≤ 1000 * k := by
    intro k
    induction k with
    | zero => intro _; simp [bodyS]
    | succ k ih =>
      intro hk
      have hkl : k < cs.length := by omega
      have h1 := bodyS_snoc cs k hkl
      have h2 := ih (by omega)
      have h3 := (hok _ (List.getElem_mem hkl)).k1
      have h4 := (hok _ (List.getElem_mem hkl)).v1
      omega
  have HS := Lib.hid hS
  clear hn hok hp hz0 hS
  go_enter Tryz.func215, Tryz.ntmps215
  go_upto_region 1 with fail
  rw [← hwb]
  clear hwb
  go_wp2
  go_loopw [3, 9] (fun s i wr => ∃ k : Nat, k ≤ n ∧ i = .int .i64 k ∧ s = .int .i64 ((2 * k + bodyS (cs.take k) : Nat) : Int) ∧ Below wb.heap.size wb wr) (fun _ i _ => n - natOf i)
  case atStart => exact ⟨0, by omega, rfl, by simp [bodyS], Below.refl _ _⟩
  case round =>
    obtain ⟨k, hk, rfl, rfl, hb⟩ := hrel
    have hbz := hb.size
    by_cases hlt : k < n
    · have hkl : k < cs.length := by have := HN.out; omega
      have hpw := (HP.out.below (hb.mono (by omega)))
      obtain ⟨b, o, ka, kc, va, vc, rfl, hbb, e1, e2, _, _⟩ := hpw.at_ hkl
      have hk1 := (HOK.out _ (List.getElem_mem hkl)).k1
      have hv1 := (HOK.out _ (List.getElem_mem hkl)).v1
      have hsn := bodyS_snoc cs k hkl
      have hsb := HS.out k hk
      obtain ⟨p, hp⟩ : ∃ p, p = 2 * k + bodyS (cs.take k) := ⟨_, rfl⟩
      have HSN := Lib.hid (show 2 * (k + 1) + bodyS (cs.take (k + 1)) = p + (6 + cs[k].kn + cs[k].vn) by omega)
      have hpb : p ≤ 100000000 := by omega
      rw [← hp]
      clear hp hsn hsb hpw
      go_wp2_with (go_at_call 245; with_reducible refine (weight_any _ _ _ _ _ _ (by omega) (by omega) _).mono ?_; rintro e w4 ⟨rfl, hb4⟩)
      refine ⟨⟨k + 1, by omega, by go_num, ?_, (hb.alloc (by omega) _).trans (hb4.mono (by simp; omega))⟩, by simp [natOf]; omega⟩
      rw [HSN.out]
      refine congrArg (Value.int .i64) ?_
      push_cast
      omega
    · obtain rfl : k = n := by omega
      rw [show cs.take k = cs from by rw [HN.out]; exact List.take_length]
      go_wp2
      go_ret
      exact ⟨rfl, hb1.trans (hb.mono (by omega))⟩

theorem belowAt : BelowAt Tryz.prog 212 := ⟨by kernel_rfl, below_call⟩
theorem sizeAt : SizeAt Tryz.prog 215 := ⟨by kernel_rfl, size_call⟩
theorem add16At : AddAt Tryz.prog 46 .u16 2 65535 := ⟨by kernel_rfl, fun A c n v l w hr hn hl hv => add16_any A c n v l w hr hn hl hv⟩
theorem add32At : AddAt Tryz.prog 44 .u32 4 4294967295 := ⟨by kernel_rfl, fun A c n v l w hr hn hl hv => add32_any A c n v l w hr hn hl hv⟩
theorem add64At : AddAt Tryz.prog 45 .u64 8 18446744073709551615 := ⟨by kernel_rfl, fun A c n v l w hr hn hl hv => add64_any A c n v l w hr hn hl hv⟩
theorem u16At : NumAt Tryz.prog 54 .u16 2 := ⟨by kernel_rfl, fun A c n p l w hr hn hl hp => u16_any A c n p l w hr hn hl hp⟩
theorem u32At : NumAt Tryz.prog 50 .u32 4 := ⟨by kernel_rfl, fun A c n p l w hr hn hl hp => u32_any A c n p l w hr hn hl hp⟩
theorem u64At : NumAt Tryz.prog 52 .u64 8 := ⟨by kernel_rfl, fun A c n p l w hr hn hl hp => u64_any A c n p l w hr hn hl hp⟩
end Go.Proofs.YtdmnkhcddbjglaaGreat
