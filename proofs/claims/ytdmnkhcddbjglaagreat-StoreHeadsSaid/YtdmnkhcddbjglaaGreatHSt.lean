/-
  Stores into a row of cells, whole and one cell; what a result in a cell reads; what HeadOf tells.
-/
import Derived.Test.YtdmnkhcddbjglaaGreatHSome
import Derived.Test.YtdmnkhcddbjglaaGreatHBytes2
import Derived.Test.YtdmnkhcddbjglaaGreatEvK
import Derived.Laws.ResultCell
namespace Go.Proofs.YtdmnkhcddbjglaaGreat
open Go Go.RowKit
open Go.Ev (szOf run_storeCells_block putL run_loadVar_agg aggN)
set_option maxRecDepth 100000
set_option maxHeartbeats 1600000

theorem putL_toList (C : Array Value) (o : Nat) (vs : List Value) (h : o + vs.length ≤ C.size) : (putL C o vs).toList = C.toList.take o ++ vs ++ C.toList.drop (o + vs.length) := by
  apply List.ext_getElem?
  intro k
  rw [Array.getElem?_toList, Go.Ev.putL_get _ _ _ _ h]
  by_cases h1 : o ≤ k ∧ k < o + vs.length
  · rw [if_pos h1, List.append_assoc, List.getElem?_append_right (by simp; omega), List.getElem?_append_left (by simp; omega)]
    congr 1
    simp; omega
  · rw [if_neg h1, List.append_assoc]
    by_cases h2 : k < o
    · rw [List.getElem?_append_left (by simp; omega), List.getElem?_take_of_lt h2, Array.getElem?_toList]
    · rw [List.getElem?_append_right (by simp; omega), List.getElem?_append_right (by simp; omega), List.getElem?_drop, Array.getElem?_toList]
      congr 1
      simp; omega

/-- values are stored into a row from a place on -/
theorem stV {w : World} {ops : Array Oper} {rest : List Oper} {o : Oper} {a : Act} {Q : Exit → Act → World → Prop} (hgd : o.guard = none) (ty : TypeId) (p x : Operand) (ho : o.op = .store ty p x) (hdst : o.dst = none)
    (g k : Nat) (hp : a.eval p = .pointer (some ⟨g, k, none⟩)) (n : Nat) (hsz : szOf Tryz.prog ty = some n) (cs : Array Value) (v : Value) (t : TypeId) (hg : w.heap[g]? = some (.cells cs t (0, 0))) (hx : a.eval x = v)
    (h1 : k + n ≤ cs.size) (h2 : v.cells.size = n) (hone : ∀ u ∈ v.cells.toList, u.oneCell' = true)
    (h : ∀ w', w'.heap[g]? = some (.cells (putL cs (k + 0) v.cells.toList) t (0, 0)) → (∀ j, j ≠ g → w'.heap[j]? = w.heap[j]?) → (∀ B, B ≤ g → Below B w w') → w'.heap.size = w.heap.size → wpList Tryz.prog ops Q rest a w') : wpList Tryz.prog ops Q (o :: rest) a w := by
  refine wpList_plain hgd fun _ hK => ?_
  have hlt := (Array.getElem?_eq_some_iff.1 hg).1
  have hrun := run_storeCells_block (P := Tryz.prog) g k t (0, 0) v.cells.toList 0 cs w hg (by simp; omega) hone (by intro k _ _; simp)
  have hst : (Instr.storeAt ty (a.eval p) (a.eval x)).run Tryz.prog w = .ok () { w with heap := w.heap.setIfInBounds g (.cells (putL cs (k + 0) v.cells.toList) t (0, 0)) } := by
    rw [hp, hx]
    simp only [Instr.storeAt, Instr.sureAddr, Sem.run_bind, Sem.run_pure, Result.andThen_ok, storeVar, Go.Ev.run_szOf hsz, h2, ne_eq, not_true, if_false]
    exact hrun
  unfold Oper.wp execOp
  simp only [ho, Sem.run_bind, hst, Result.andThen_ok, Sem.run_pure]
  have hk := hK a { w with heap := w.heap.setIfInBounds g (.cells (putL cs (k + 0) v.cells.toList) t (0, 0)) } (h _ (by simp [hlt]) (fun k hk => by simp [Array.getElem?_setIfInBounds, Ne.symm hk]) (fun B hB => ⟨rfl, rfl, rfl, by simp, fun k hk => by simp [Array.getElem?_setIfInBounds, show g ≠ k by omega]⟩) (by simp))
  simpa [Oper.upon, Act.put, hdst] using hk

theorem sz24 : szOf Tryz.prog 24 = some 7 := by kernel_rfl
theorem sz22 : szOf Tryz.prog 22 = some 1 := by kernel_rfl
theorem sz3 : szOf Tryz.prog 3 = some 1 := by kernel_rfl
theorem agg24 : aggN Tryz.prog 24 = some (some 7) := by kernel_rfl

/-- a result that lies in a box of a head, and a number -/
theorem ret_head {fn : Func} {p u : Tmp} (h : fn.results = #[.cell p 24, .tmp u]) {tmps : Array Value} {w : World} {g : Nat} {V : Array Value} (hp : tmps.getD p undef = .pointer (some ⟨g, 0, none⟩)) (hV : w.heap[g]? = some (.cells V 24 (0, 0))) (hz : V.size = 7) :
    (results fn tmps).run Tryz.prog w = .ok (.tuple #[.agg V, tmps.getD u undef]) w := by
  rw [results_cell_tmp h, hp]
  have hl := run_loadVar_agg (P := Tryz.prog) (w := w) agg24 (a := ⟨g, 0, none⟩) (cs := V.toList) (by simp [hz]) (by
    intro j v hj
    have : (⟨g, 0, none⟩ : Addr).add j = ⟨g, j, none⟩ := by unfold Addr.add; split <;> simp_all
    rw [this]
    simp only [World.cell?, hV]
    simpa using hj)
  have ha : asAddr (.pointer (some ⟨g, 0, none⟩)) = pure ⟨g, 0, none⟩ := rfl
  rw [ha]
  simp only [Sem.run_pure, Result.andThen_ok]
  rw [hl]
  rfl

/-- the head that bytes say, at most so many open and dead ones being read -/
def decH (l : List UInt8) (m1 m2 : Nat) : Hd :=
  let k1 := min (leN (sub l 28 2)) m1
  let k2 := min (leN (sub l (30 + 8 * k1) 2)) m2
  ⟨(leN (sub l 4 4) : Nat), (leN (sub l 8 4) : Nat), (leN (sub l 12 4) : Nat), (leN (sub l 16 4) : Nat), sI (leN (sub l 20 8)), dec l 30 k1, dec l (32 + 8 * k1) k2⟩
def zeroH : Hd := ⟨0, 0, 0, 0, 0, [], []⟩
open Classical in
/-- what HeadOf tells -/
noncomputable def told (l : List UInt8) (m1 m2 : Nat) : Hd × Int := if OkH (decH l m1 m2) ∧ headB (decH l m1 m2) = l then (decH l m1 m2, 0) else (zeroH, 260)

/-- a head as a value -/
def HV (w : World) (h : Hd) (v : Value) : Prop := ∃ A B n c m d, v = .agg (hdV h A B n c m d) ∧ RdI w w.heap.size A h.op ∧ RdI w w.heap.size B h.dd ∧ n = h.op.length ∧ m = h.dd.length
theorem HV.zero (w : World) : HV w zeroH (.agg (hdV zeroH none none 0 0 0 0)) := ⟨none, none, 0, 0, 0, 0, rfl, .nil _ _ _, .nil _ _ _, rfl, rfl⟩

theorem refnum4' (A : Option Addr) (c n : Nat) (P : Int) (p : Nat) (hP : P = p) (l : List UInt8) (w : World) (hr : Rd w w.heap.size A l) (hn : n = l.length) (hl : l.length ≤ 1000000) (hp : p + 4 ≤ l.length) :
    Calls Tryz.prog 56 #[.slice A n c, .int .i64 P, .int .i64 4] w fun e w' => e = .returned (.tuple #[.int .u64 (leN (sub l p 4) : Nat), .bool true]) ∧ w' = w := by subst hP; exact refnum4 A c n p l w hr hn hl hp
theorem refnum8' (A : Option Addr) (c n : Nat) (P : Int) (p : Nat) (hP : P = p) (l : List UInt8) (w : World) (hr : Rd w w.heap.size A l) (hn : n = l.length) (hl : l.length ≤ 1000000) (hp : p + 8 ≤ l.length) :
    Calls Tryz.prog 56 #[.slice A n c, .int .i64 P, .int .i64 8] w fun e w' => e = .returned (.tuple #[.int .u64 (leN (sub l p 8) : Nat), .bool true]) ∧ w' = w := by subst hP; exact refnum8 A c n p l w hr hn hl hp
theorem some' (A : Option Addr) (c n : Nat) (P M : Int) (p most : Nat) (hP : P = p) (hM : M = most) (l : List UInt8) (w : World) (hr : Rd w w.heap.size A l) (hn : n = l.length) (hl : l.length ≤ 1000000) (hp : p + 2 + 8 * (most + 1) ≤ l.length) (k : Nat) (hk : k = min (leN (sub l p 2)) (most + 1)) :
    Calls Tryz.prog 57 #[.slice A n c, .int .i64 P, .int .i64 M] w fun e w' => (∃ v, e = .returned (.tuple #[v, .int .i64 ((p + 2 + 8 * k : Nat) : Int)]) ∧ OwnI w' w.heap.size v (dec l (p + 2) k)) ∧ Below w.heap.size w w' := by
  subst hP; subst hM; subst hk; exact some_any A c n p most l w hr hn hl hp
end Go.Proofs.YtdmnkhcddbjglaaGreat
