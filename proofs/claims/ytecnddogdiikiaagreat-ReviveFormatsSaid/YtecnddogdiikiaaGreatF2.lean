/-
  Stores into a row of cells, whole and one cell; what a result in a cell reads; what HeadOf tells.
  A disk in plain words: blocks, unsynced writes, what fails; what Format makes of it.
  chancery/disk: what all of memory but some blocks keeps; the small functions of a disk.
  A disk in memory: its own cells, its blocks, its unsynced writes; and what all that is not the disk's keeps.
-/
import Derived.Test.YtecnddogdiikiaaGreatHSome
import Derived.Test.YtecnddogdiikiaaGreatHBytes2
import Derived.Test.YtecnddogdiikiaaGreatEvK
import Derived.Laws.ResultCell
import Derived.Laws.LoneSync
import Derived.LaidEqlPtr
import Derived.StillTailTactics
set_option linter.unusedVariables false
set_option linter.unusedSimpArgs false
namespace Go.Proofs.YtecnddogdiikiaaGreat
open Go Go.RowKit
open Go.Ev (szOf run_storeCells_block putL run_loadVar_agg aggN)
set_option maxRecDepth 100000
set_option maxHeartbeats 1600000

theorem putL_toList (C : Array Value) (o : Nat) (vs : List Value) (h : o + vs.length ≤ C.size) : (putL C o vs).toList = C.toList.take o ++ vs ++ C.toList.drop (o + vs.length) := by
  apply List.ext_getElem?
  intro k
  rw [Array.getElem?_toList, Go.Ev.putL_get _ _ _ _ h]
  by_cases h1 : o ≤ k ∧ k < o + vs.length
  · rw [if_pos h1, List.append_assoc, List.getElem?_append_right (by simp; omega), List.getElem?_append_left (by simp; omega)]
    congr 1
    simp; omega
  · rw [if_neg h1, List.append_assoc]
    by_cases h2 : k < o
    · rw [List.getElem?_append_left (by simp; omega), List.getElem?_take_of_lt h2, Array.getElem?_toList]
    · rw [List.getElem?_append_right (by simp; omega), List.getElem?_append_right (by simp; omega), List.getElem?_drop, Array.getElem?_toList]
      congr 1
      simp; omega

/-- values are stored into a row from a place on -/
theorem stV {w : World} {ops : Array Oper} {rest : List Oper} {o : Oper} {a : Act} {Q : Exit → Act → World → Prop} (hgd : o.guard = none) (ty : TypeId) (p x : Operand) (ho : o.op = .store ty p x) (hdst : o.dst = none)
    (g k : Nat) (hp : a.eval p = .pointer (some ⟨g, k, none⟩)) (n : Nat) (hsz : szOf Tryz.prog ty = some n) (cs : Array Value) (v : Value) (t : TypeId) (hg : w.heap[g]? = some (.cells cs t (0, 0))) (hx : a.eval x = v)
    (h1 : k + n ≤ cs.size) (h2 : v.cells.size = n) (hone : ∀ u ∈ v.cells.toList, u.oneCell' = true)
    (h : ∀ w', w'.heap[g]? = some (.cells (putL cs (k + 0) v.cells.toList) t (0, 0)) → (∀ j, j ≠ g → w'.heap[j]? = w.heap[j]?) → (∀ B, B ≤ g → Below B w w') → w'.heap.size = w.heap.size → wpList Tryz.prog ops Q rest a w') : wpList Tryz.prog ops Q (o :: rest) a w := by
  refine wpList_plain hgd fun _ hK => ?_
  have hlt := (Array.getElem?_eq_some_iff.1 hg).1
  have hrun := run_storeCells_block (P := Tryz.prog) g k t (0, 0) v.cells.toList 0 cs w hg (by simp; omega) hone (by intro k _ _; simp)
  have hst : (Instr.storeAt ty (a.eval p) (a.eval x)).run Tryz.prog w = .ok () { w with heap := w.heap.setIfInBounds g (.cells (putL cs (k + 0) v.cells.toList) t (0, 0)) } := by
    rw [hp, hx]
    simp only [Instr.storeAt, Instr.sureAddr, Sem.run_bind, Sem.run_pure, Result.andThen_ok, storeVar, Go.Ev.run_szOf hsz, h2, ne_eq, not_true, if_false]
    exact hrun
  unfold Oper.wp execOp
  simp only [ho, Sem.run_bind, hst, Result.andThen_ok, Sem.run_pure]
  have hk := hK a { w with heap := w.heap.setIfInBounds g (.cells (putL cs (k + 0) v.cells.toList) t (0, 0)) } (h _ (by simp [hlt]) (fun k hk => by simp [Array.getElem?_setIfInBounds, Ne.symm hk]) (fun B hB => ⟨rfl, rfl, rfl, by simp, fun k hk => by simp [Array.getElem?_setIfInBounds, show g ≠ k by omega]⟩) (by simp))
  simpa [Oper.upon, Act.put, hdst] using hk

theorem sz24 : szOf Tryz.prog 28 = some 7 := by kernel_rfl
theorem sz22 : szOf Tryz.prog 26 = some 1 := by kernel_rfl
theorem sz3 : szOf Tryz.prog 3 = some 1 := by kernel_rfl
theorem agg24 : aggN Tryz.prog 28 = some (some 7) := by kernel_rfl

/-- a result that lies in a box of a head, and a number -/
theorem ret_head {fn : Func} {p u : Tmp} (h : fn.results = #[.cell p 28, .tmp u]) {tmps : Array Value} {w : World} {g : Nat} {V : Array Value} (hp : tmps.getD p undef = .pointer (some ⟨g, 0, none⟩)) (hV : w.heap[g]? = some (.cells V 28 (0, 0))) (hz : V.size = 7) :
    (results fn tmps).run Tryz.prog w = .ok (.tuple #[.agg V, tmps.getD u undef]) w := by
  rw [results_cell_tmp h, hp]
  have hl := run_loadVar_agg (P := Tryz.prog) (w := w) agg24 (a := ⟨g, 0, none⟩) (cs := V.toList) (by simp [hz]) (by
    intro j v hj
    have : (⟨g, 0, none⟩ : Addr).add j = ⟨g, j, none⟩ := by unfold Addr.add; split <;> simp_all
    rw [this]
    simp only [World.cell?, hV]
    simpa using hj)
  have ha : asAddr (.pointer (some ⟨g, 0, none⟩)) = pure ⟨g, 0, none⟩ := rfl
  rw [ha]
  simp only [Sem.run_pure, Result.andThen_ok]
  rw [hl]
  rfl

/-- the head that bytes say, at most so many open and dead ones being read -/
def decH (l : List UInt8) (m1 m2 : Nat) : Hd :=
  let k1 := min (leN (sub l 28 2)) m1
  let k2 := min (leN (sub l (30 + 8 * k1) 2)) m2
  ⟨(leN (sub l 4 4) : Nat), (leN (sub l 8 4) : Nat), (leN (sub l 12 4) : Nat), (leN (sub l 16 4) : Nat), sI (leN (sub l 20 8)), dec l 30 k1, dec l (32 + 8 * k1) k2⟩
def zeroH : Hd := ⟨0, 0, 0, 0, 0, [], []⟩
open Classical in
/-- what HeadOf tells -/
noncomputable def told (l : List UInt8) (m1 m2 : Nat) : Hd × Int := if OkH (decH l m1 m2) ∧ headB (decH l m1 m2) = l then (decH l m1 m2, 0) else (zeroH, 260)

/-- a head as a value -/
def HV (w : World) (h : Hd) (v : Value) : Prop := ∃ A B n c m d, v = .agg (hdV h A B n c m d) ∧ RdI w w.heap.size A h.op ∧ RdI w w.heap.size B h.dd ∧ n = h.op.length ∧ m = h.dd.length
theorem HV.zero (w : World) : HV w zeroH (.agg (hdV zeroH none none 0 0 0 0)) := ⟨none, none, 0, 0, 0, 0, rfl, .nil _ _ _, .nil _ _ _, rfl, rfl⟩

theorem refnum4' (A : Option Addr) (c n : Nat) (P : Int) (p : Nat) (hP : P = p) (l : List UInt8) (w : World) (hr : Rd w w.heap.size A l) (hn : n = l.length) (hl : l.length ≤ 1000000) (hp : p + 4 ≤ l.length) :
    Calls Tryz.prog 165 #[.slice A n c, .int .i64 P, .int .i64 4] w fun e w' => e = .returned (.tuple #[.int .u64 (leN (sub l p 4) : Nat), .bool true]) ∧ w' = w := by subst hP; exact refnum4 A c n p l w hr hn hl hp
theorem refnum8' (A : Option Addr) (c n : Nat) (P : Int) (p : Nat) (hP : P = p) (l : List UInt8) (w : World) (hr : Rd w w.heap.size A l) (hn : n = l.length) (hl : l.length ≤ 1000000) (hp : p + 8 ≤ l.length) :
    Calls Tryz.prog 165 #[.slice A n c, .int .i64 P, .int .i64 8] w fun e w' => e = .returned (.tuple #[.int .u64 (leN (sub l p 8) : Nat), .bool true]) ∧ w' = w := by subst hP; exact refnum8 A c n p l w hr hn hl hp
theorem some' (A : Option Addr) (c n : Nat) (P M : Int) (p most : Nat) (hP : P = p) (hM : M = most) (l : List UInt8) (w : World) (hr : Rd w w.heap.size A l) (hn : n = l.length) (hl : l.length ≤ 1000000) (hp : p + 2 + 8 * (most + 1) ≤ l.length) (k : Nat) (hk : k = min (leN (sub l p 2)) (most + 1)) :
    Calls Tryz.prog 166 #[.slice A n c, .int .i64 P, .int .i64 M] w fun e w' => (∃ v, e = .returned (.tuple #[v, .int .i64 ((p + 2 + 8 * k : Nat) : Int)]) ∧ OwnI w' w.heap.size v (dec l (p + 2) k)) ∧ Below w.heap.size w w' := by
  subst hP; subst hM; subst hk; exact some_any A c n p most l w hr hn hl hp
end Go.Proofs.YtecnddogdiikiaaGreat

namespace Go.Proofs.YtecnddogdiikiaaGreat
open Go Go.RowKit
set_option maxRecDepth 100000

/-- 4096 bytes: these, and noughts behind them -/
def pad (l : List UInt8) : List UInt8 := l ++ List.replicate (4096 - l.length) 0
theorem pad_len {l : List UInt8} (h : l.length ≤ 4096) : (pad l).length = 4096 := by simp [pad]; omega
theorem pad_full {l : List UInt8} (h : l.length = 4096) : pad l = l := by simp [pad, h]
def zs : List UInt8 := List.replicate 4096 0
theorem zs_len : zs.length = 4096 := by simp [zs]
theorem pad_nil : pad [] = zs := rfl

/-- what an operation is answered; what is let through then -/
def opE (ft wh : Int) : Int := if ft = 0 then wh else 0
def opF (ft : Int) : Int := if ft = -1 then -1 else ft - 1
theorem opF_lo {ft : Int} (h : -1 ≤ ft) : -1 ≤ opF ft := by unfold opF; split <;> omega
theorem opF_hi {ft : Int} (h : ft ≤ 1000) : opF ft ≤ 1000 := by unfold opF; split <;> omega

structure PD where
  bs : List (List UInt8)
  ws : List (Nat × List UInt8)
  ft : Int
  wh : Int

/-- a disk that may be -/
structure PD.Ok (P : PD) : Prop where
  lens : ∀ l ∈ P.bs, l.length = 4096
  wlens : ∀ x ∈ P.ws, x.1 < P.bs.length ∧ x.2.length = 4096
  lo : -1 ≤ P.ft
  hi : P.ft ≤ 1000

def carry (bs : List (List UInt8)) (ws : List (Nat × List UInt8)) : List (List UInt8) := ws.foldl (fun bs x => bs.set x.1 x.2) bs
theorem carry_len (ws : List (Nat × List UInt8)) : ∀ bs : List (List UInt8), (carry bs ws).length = bs.length := by
  induction ws with
  | nil => intro bs; rfl
  | cons x ws ih => intro bs; show (carry (bs.set x.1 x.2) ws).length = _; rw [ih]; simp
theorem carry_snoc (bs : List (List UInt8)) (ws : List (Nat × List UInt8)) (x : Nat × List UInt8) : carry bs (ws ++ [x]) = (carry bs ws).set x.1 x.2 := by
  simp [carry, List.foldl_append]
theorem carry_lens (ws : List (Nat × List UInt8)) : ∀ bs : List (List UInt8), (∀ l ∈ bs, l.length = 4096) → (∀ x ∈ ws, x.2.length = 4096) → ∀ l ∈ carry bs ws, l.length = 4096 := by
  induction ws with
  | nil => intro bs h _; exact h
  | cons x ws ih =>
    intro bs h hx
    refine ih _ ?_ fun y hy => hx y (List.mem_cons_of_mem _ hy)
    intro l hl
    rcases List.mem_or_eq_of_mem_set hl with hl | rfl
    · exact h l hl
    · exact hx x List.mem_cons_self
theorem carry_take {bs : List (List UInt8)} {ws : List (Nat × List UInt8)} {k : Nat} (h : k < ws.length) : carry bs (ws.take (k + 1)) = (carry bs (ws.take k)).set ws[k].1 ws[k].2 := by
  rw [List.take_succ_eq_append_getElem h, carry_snoc]

def PD.stop (P : PD) : PD := { P with ft := opF P.ft }
def PD.put (P : PD) (b : Nat) (l : List UInt8) : PD × Int :=
  if opE P.ft P.wh = 0 then ({ P with ft := opF P.ft, ws := P.ws ++ [(b, l)] }, 0) else (P.stop, opE P.ft P.wh)
def PD.sync (P : PD) : PD × Int :=
  if opE P.ft P.wh = 0 then ({ P with ft := opF P.ft, bs := carry P.bs P.ws, ws := [] }, 0) else (P.stop, opE P.ft P.wh)

theorem PD.Ok.stop {P : PD} (h : P.Ok) : P.stop.Ok := ⟨h.lens, h.wlens, opF_lo h.lo, opF_hi h.hi⟩
theorem PD.put_len (P : PD) (b : Nat) (l : List UInt8) : (P.put b l).1.bs.length = P.bs.length := by unfold PD.put; split <;> rfl
theorem PD.sync_len (P : PD) : P.sync.1.bs.length = P.bs.length := by
  unfold PD.sync; split
  · exact carry_len _ _
  · rfl
theorem PD.Ok.put {P : PD} (h : P.Ok) {b : Nat} {l : List UInt8} (hb : b < P.bs.length) (hl : l.length = 4096) : (P.put b l).1.Ok := by
  unfold PD.put; split
  · refine ⟨h.lens, fun x hx => ?_, opF_lo h.lo, opF_hi h.hi⟩
    rcases List.mem_append.1 hx with hx | hx
    · exact h.wlens x hx
    · rw [List.mem_singleton.1 hx]; exact ⟨hb, hl⟩
  · exact h.stop
theorem PD.Ok.sync {P : PD} (h : P.Ok) : P.sync.1.Ok := by
  unfold PD.sync; split
  · exact ⟨carry_lens _ _ h.lens fun x hx => (h.wlens x hx).2, fun x hx => (by cases hx), opF_lo h.lo, opF_hi h.hi⟩
  · exact h.stop

def bindP (x : PD × Int) (f : PD → PD × Int) : PD × Int := if x.2 = 0 then f x.1 else x
theorem bindP_ok {x : PD × Int} {f : PD → PD × Int} (h : x.2 = 0) : bindP x f = f x.1 := if_pos h
theorem bindP_no {x : PD × Int} {f : PD → PD × Int} (h : x.2 ≠ 0) : bindP x f = x := if_neg h

/-- a stamp's bytes, the payload, the stamp's bytes -/
def sealed (p : List UInt8) (s : Nat) : List UInt8 := le 8 s ++ p ++ le 8 s
theorem sealed_len {p : List UInt8} {s : Nat} (h : p.length = 4080) : (sealed p s).length = 4096 := by simp [sealed, le_len, h]

open Classical in
/-- the stamp of the head in a block of number n on a disk of B blocks; 0 if there is none -/
noncomputable def hat (B n : Nat) (l : List UInt8) : Nat :=
  if sub l 0 8 = sub l 4088 8 ∧ 1 ≤ leN (sub l 0 8) ∧ leN (sub l 0 8) ≤ 4611686018427387904 ∧ leN (sub l 0 8) % 2 = n ∧ (told (sub l 8 4080) 16 64).2 = 0 ∧ 10 + (told (sub l 8 4080) 16 64).1.lg ≤ B then leN (sub l 0 8) else 0
/-- is there a head? -/
def headed (bs : List (List UInt8)) : Prop := hat bs.length 0 (bs.getD 0 []) ≠ 0 ∨ hat bs.length 1 (bs.getD 1 []) ≠ 0

def taken : List UInt8 := 3 :: List.replicate 4079 0
theorem taken_len : taken.length = 4080 := by simp [taken]
/-- an empty leaf -/
def leafB : List UInt8 := 1 :: List.replicate 4079 0
theorem leafB_len : leafB.length = 4080 := by simp [leafB]
def firstH (log : Nat) : Hd := ⟨log, 1, 0, 1, 1, [], []⟩
theorem firstH_ok {log : Nat} (h1 : 24 ≤ log) (h2 : log ≤ 1024) : OkH (firstH log) := by
  refine ⟨?_, ?_, ?_, ?_, ?_, ?_, ?_, ?_, ?_, ?_, ?_, ?_, rfl, rfl, ?_⟩ <;> simp [firstH] <;> omega

open Classical in
/-- what Format answers, and leaves -/
noncomputable def formatP (P : PD) (log : Int) : PD × Int :=
  if log < 24 ∨ 1024 < log ∨ (P.bs.length : Int) < 10 + log then (P, 2)
  else if headed P.bs then (P, 260)
  else bindP (P.put (2 + log.toNat) (sealed taken 4294967296)) fun P1 => bindP (P1.put (3 + log.toNat) (sealed leafB 4294967297)) fun P2 => bindP P2.sync fun P3 => bindP (P3.put 1 (sealed (headB (firstH log.toNat)) 1)) fun P4 => P4.sync

end Go.Proofs.YtecnddogdiikiaaGreat

namespace Go.Proofs.YtecnddogdiikiaaGreat
open Go Go.RowKit
set_option maxRecDepth 100000
set_option maxHeartbeats 1600000

theorem copyN {w w5 : World} {base g B L c : Nat} {A : Option Addr} {l : List UInt8} (hf : w5.heap[g]? = some (.cells (zs.map u8V).toArray 5 (0, 0))) (hr : Rd w5 B A l) (hne : l ≠ []) (hL : L = l.length) (hle : L ≤ 4096)
    (hb : Below base w w5) (hg : base ≤ g) : ∃ w6, (Builtin.copy_ #[37, 37] 3 #[.slice (some ⟨g, 0, none⟩) 4096 4096, .slice A L c]).run Tryz.prog w5 = .ok (goInt (l.map u8V).length) w6 ∧ Own w6 base (.slice (some ⟨g, 0, none⟩) 4096 4096) (pad l) ∧ Below base w w6 := by
  obtain ⟨ad, rfl, hsrc⟩ := hr.addr hne
  have hcp := run_copy_row (P := Tryz.prog) w5 37 37 3 5 g 0 4096 4096 ad L c _ 5 (l.map u8V) Tryz.underlying37 size5 hf (by rw [List.length_map, ← hL]; exact (Nat.min_eq_left hle).symm) hsrc (by simp [zs]; omega) (by intro v hv; simp at hv; obtain ⟨_, _, rfl⟩ := hv; rfl)
  refine ⟨_, hcp, Own.of_full ((setRow_heap _ _ _ _ _ _ hf).trans ?_) hg (by simp [pad]; omega) (by simp [maxLen]), below_setRow hb hg _⟩
  congr 3
  simp only [List.take_zero, List.nil_append, zs, pad, List.map_replicate, List.drop_replicate, Nat.zero_add, List.length_map, List.map_append]

theorem copy0 (w5 : World) (g : Nat) : (Builtin.copy_ #[37, 37] 3 #[.slice (some ⟨g, 0, none⟩) 4096 4096, .slice none 0 0]).run Tryz.prog w5 = .ok (goInt 0) w5 :=
  run_copy_nil (P := Tryz.prog) w5 37 37 3 5 ⟨g, 0, none⟩ 4096 4096 Tryz.underlying37 (by kernel_rfl)

/-- whole: a copy, filled up with noughts -/
theorem whole_any (A : Option Addr) (c n : Nat) (l : List UInt8) (w : World) (hr : Rd w w.heap.size A l) (hn : n = l.length) (hl : l.length ≤ 4096) (h0 : l = [] → A = none ∧ n = 0 ∧ c = 0) :
    Calls Tryz.prog 37 #[.slice A n c] w fun e w' => (∃ g, e = .returned (.slice (some ⟨g, 0, none⟩) 4096 4096) ∧ Own w' w.heap.size (.slice (some ⟨g, 0, none⟩) 4096 4096) (pad l)) ∧ Below w.heap.size w w' := by
  have HN := Lib.hid hn
  obtain ⟨w5, hmk0, hown5, hb5⟩ := mkn w 4096 (by omega)
  have hmk : (Instr.makeSlice 37 (.int .i64 4096) (.int .i64 4096)).run Tryz.prog w = .ok (.slice (some ⟨w.heap.size, 0, none⟩) 4096 4096) w5 := hmk0
  have hfull := hown5.full (by simp) (by omega)
  by_cases hne : l = []
  · obtain ⟨rfl, rfl, rfl⟩ := h0 hne
    subst hne
    have hcp := copy0 w5 w.heap.size
    clear hfull hmk0 HN hr hl hn h0
    go_enter Tryz.func37, Tryz.ntmps37
    go_wp2
    go_ret
    exact ⟨⟨_, rfl, by rw [pad_nil]; exact hown5⟩, hb5⟩
  · obtain ⟨w6, hcp, hown6, hb6⟩ := copyN (c := c) hfull (hr.below hb5) hne HN.out (by omega) hb5 (Nat.le_refl _)
    clear hmk0 hn h0 hr hfull hown5 hb5
    go_enter Tryz.func37, Tryz.ntmps37
    go_wp2
    go_ret
    exact ⟨⟨_, rfl, hown6⟩, hb6⟩

/-- all memory but these blocks is as it was -/
structure Kp (S : Nat → Prop) (w w' : World) : Prop where
  os : w'.os = w.os
  tape : w'.tape = w.tape
  output : w'.output = w.output
  size : w.heap.size ≤ w'.heap.size
  block : ∀ k, k < w.heap.size → ¬ S k → w'.heap[k]? = w.heap[k]?
theorem Kp.refl (S : Nat → Prop) (w : World) : Kp S w w := ⟨rfl, rfl, rfl, Nat.le_refl _, fun _ _ _ => rfl⟩
theorem Kp.trans {S T : Nat → Prop} {a b c : World} (h : Kp S a b) (g : Kp T b c) (hT : ∀ k, k < a.heap.size → T k → S k) : Kp S a c :=
  ⟨g.os.trans h.os, g.tape.trans h.tape, g.output.trans h.output, Nat.le_trans h.size g.size, fun k hk hs => (g.block k (Nat.lt_of_lt_of_le hk h.size) (fun ht => hs (hT k hk ht))).trans (h.block k hk hs)⟩
theorem Kp.then {S : Nat → Prop} {a b c : World} (h : Kp S a b) (g : Kp S b c) : Kp S a c := h.trans g fun _ _ h => h
theorem Kp.weaken {S T : Nat → Prop} {a b : World} (h : Kp S a b) (hT : ∀ k, S k → T k) : Kp T a b := ⟨h.os, h.tape, h.output, h.size, fun k hk hs => h.block k hk fun x => hs (hT k x)⟩
theorem Kp.of {S : Nat → Prop} {a b : World} (h : Below a.heap.size a b) : Kp S a b := ⟨h.os, h.tape, h.output, h.size, fun k hk _ => h.block k hk⟩
theorem Kp.setCell {S : Nat → Prop} (w : World) {p : Addr} (hp : S p.block) (u : Value) : Kp S w (w.setCell p u) :=
  ⟨rfl, rfl, rfl, by simp, fun k _ hs => Below.heap_setCell w p u k (fun e => hs (e ▸ hp))⟩
theorem Kp.below {S : Nat → Prop} {a b : World} {n : Nat} (h : Kp S a b) (hn : n ≤ a.heap.size) (hS : ∀ k, k < n → ¬ S k) : Below n a b := ⟨h.os, h.tape, h.output, h.size, fun k hk => h.block k (by omega) (hS k hk)⟩

theorem load202 {w : World} {a : Addr} {x : Int} (hc : w.cell? a = some (.int .i64 x)) : (callFunc 202 #[.pointer (some a)]).run Tryz.prog w = .ok (.value (.int .i64 x)) w :=
  run_call_load Tryz.func202 (by kernel_rfl) (by kernel_rfl) (by kernel_rfl) .i64 (by kernel_rfl) hc
theorem store82 {w : World} {a : Addr} {y : Int} {u : Value} (hc : w.cell? a = some u) (hz : w.frozen? a = false) : (callFunc 82 #[.pointer (some a), .int .i64 y]).run Tryz.prog w = .ok (.value (.tuple #[])) (w.setCell a (.int .i64 y)) :=
  run_call_store Tryz.func82 (by kernel_rfl) (by kernel_rfl) (by kernel_rfl) (by kernel_rfl) hc hz

theorem Load_any {w : World} {d i : Nat} {x : Int} (hc : w.cell? ⟨d, i, none⟩ = some (.int .i64 x)) :
    Calls Tryz.prog 142 #[.pointer (some ⟨d, i, none⟩)] w fun e w' => e = .returned (.int .i64 x) ∧ w' = w := by
  have h := load202 hc
  go_enter Tryz.func142, Tryz.ntmps142
  go_wp2
  go_ret
  exact ⟨rfl, rfl⟩
theorem Store_any {w : World} {d i : Nat} {u : Value} (y : Int) (hc : w.cell? ⟨d, i, none⟩ = some u) (hz : w.frozen? ⟨d, i, none⟩ = false) :
    Calls Tryz.prog 40 #[.pointer (some ⟨d, i, none⟩), .int .i64 y] w fun e w' => e = .returned (.tuple #[]) ∧ w' = w.setCell ⟨d, i, none⟩ (.int .i64 y) := by
  have h := store82 (y := y) hc hz
  go_enter Tryz.func40, Tryz.ntmps40
  go_wp2
  go_end0
  exact ⟨rfl, rfl⟩

/-- 'go_still_tail' for a world with a name of its own -/
theorem stillW {P : Program} {id : Nat} {Q : Exit → Act → World → Prop} {a : Act} {w : World} {l : List Oper} (n : Nat) (hm : P.follows .mixedOrders = true) (hB : Region.lexTailB .any l.toArray n = true) (w1 : World) (hw : w.drew = w1)
    (h : wpStill P l.toArray w1 (fun a' => wpList P l.toArray Q (l.drop n) a' w1) (l.take n) a) : (Code.region id l.toArray true).wp P Q a w := by
  subst hw
  exact wp_region_still_tail n hm hB h

/-! ### A disk's own cells -/
def dV (d db B : Nat) (pv : Value) (ft wh : Int) : Array Value := #[.pointer (some ⟨d, 0, none⟩), .slice (some ⟨db, 0, none⟩) B B, pv, .bool false, .int .i64 (-1), .int .i64 ft, .int .i64 wh]
def DB (w : World) (d db B : Nat) (pv : Value) (ft wh : Int) : Prop := w.heap[d]? = some (.cells (dV d db B pv ft wh) 93 (0, 0))
theorem DB.cell {w : World} {d db B : Nat} {pv : Value} {ft wh : Int} (h : DB w d db B pv ft wh) (k : Nat) : w.cell? ⟨d, k, none⟩ = (dV d db B pv ft wh)[k]? := by
  unfold DB at h; simp [World.cell?, h]
theorem DB.cells {w : World} {d db B : Nat} {pv : Value} {ft wh : Int} (h : DB w d db B pv ft wh) : w.cell? ⟨d, 0, none⟩ = some (.pointer (some ⟨d, 0, none⟩)) ∧ w.cell? ⟨d, 1, none⟩ = some (.slice (some ⟨db, 0, none⟩) B B) ∧ w.cell? ⟨d, 2, none⟩ = some pv ∧
    w.cell? ⟨d, 3, none⟩ = some (.bool false) ∧ w.cell? ⟨d, 4, none⟩ = some (.int .i64 (-1)) ∧ w.cell? ⟨d, 5, none⟩ = some (.int .i64 ft) ∧ w.cell? ⟨d, 6, none⟩ = some (.int .i64 wh) :=
  ⟨h.cell 0, h.cell 1, h.cell 2, h.cell 3, h.cell 4, h.cell 5, h.cell 6⟩
theorem DB.lt {w : World} {d db B : Nat} {pv : Value} {ft wh : Int} (h : DB w d db B pv ft wh) : d < w.heap.size := (Array.getElem?_eq_some_iff.1 h).1
theorem DB.frozen {w : World} {d db B : Nat} {pv : Value} {ft wh : Int} (h : DB w d db B pv ft wh) (k : Nat) : w.frozen? ⟨d, k, none⟩ = false := by
  unfold DB at h; simp [World.frozen?, h]
theorem DB.setF {w : World} {d db B : Nat} {pv : Value} {ft wh : Int} (h : DB w d db B pv ft wh) (n : Int) : DB (w.setCell ⟨d, 5, none⟩ (.int .i64 n)) d db B pv n wh := by
  unfold DB at *
  rw [heap_setCell_same w d 5 _ _ _ h]
  rfl

theorem info93 : (Tryz.prog.info? 93).isSome = true := by kernel_rfl
theorem eqlD (w : World) (a : Addr) : (binOp .eql 22 (.pointer (some a)) (.pointer (some a))).run Tryz.prog w = .ok (.bool true) w := by
  obtain ⟨j, hj⟩ := Option.isSome_iff_exists.1 info93
  exact run_eql_ptr_same w a Tryz.underlying22 hj
theorem made_any {w : World} {d db B : Nat} {pv : Value} {ft wh : Int} (h : DB w d db B pv ft wh) :
    Calls Tryz.prog 39 #[.pointer (some ⟨d, 0, none⟩)] w fun e w' => e = .returned (.bool true) ∧ w' = w := by
  obtain ⟨c0, -⟩ := h.cells
  have he := fun w => eqlD w ⟨d, 0, none⟩
  go_enter Tryz.func39, Tryz.ntmps39
  go_wp2
  go_ret
  exact ⟨rfl, rfl⟩

theorem stops_any {w : World} {d i : Nat} {n : Int} (hc : w.cell? ⟨d, i, none⟩ = some (.int .i64 n)) (hz : w.frozen? ⟨d, i, none⟩ = false) (h1 : -1 ≤ n) (h2 : n ≤ 1000) :
    Calls Tryz.prog 81 #[.pointer (some ⟨d, i, none⟩)] w fun e w' => e = .returned (.bool (decide (n = 0))) ∧ w' = if n = -1 then w else w.setCell ⟨d, i, none⟩ (.int .i64 (n - 1)) := by
  by_cases hm : n = -1
  · subst hm
    go_enter Tryz.func81, Tryz.ntmps81
    go_wp2_with (go_at_call 142; refine (Load_any hc).mono ?_; rintro e w1 ⟨rfl, rfl⟩)
    go_ret
    exact ⟨rfl, rfl⟩
  · go_enter Tryz.func81, Tryz.ntmps81
    go_wp2_with (first
      | (go_at_call 142; refine (Load_any hc).mono ?_; rintro e w1 ⟨rfl, rfl⟩)
      | (go_at_call 40; refine (Store_any _ hc hz).mono ?_; rintro e w1 ⟨rfl, rfl⟩))
    go_ret
    exact ⟨rfl, rfl⟩

theorem blocks_any {w : World} {d db B : Nat} {pv : Value} {ft wh : Int} (h : DB w d db B pv ft wh) :
    Calls Tryz.prog 15 #[.pointer (some ⟨d, 0, none⟩)] w fun e w' => e = .returned (.int .i64 (B : Int)) ∧ w' = w := by
  obtain ⟨c0, c1, -⟩ := h.cells
  go_enter Tryz.func15, Tryz.ntmps15
  go_wp2_with (go_at_call 39; refine (made_any h).mono ?_; rintro e w1 ⟨rfl, rfl⟩)
  go_ret
  exact ⟨rfl, rfl⟩

theorem pending_any {w : World} {d db B n c : Nat} {A : Option Addr} {ft wh : Int} (h : DB w d db B (.slice A n c) ft wh) :
    Calls Tryz.prog 51 #[.pointer (some ⟨d, 0, none⟩)] w fun e w' => e = .returned (.int .i64 (n : Int)) ∧ w' = w := by
  obtain ⟨c0, c1, c2, -⟩ := h.cells
  go_enter Tryz.func51, Tryz.ntmps51
  go_wp2_with (go_at_call 39; refine (made_any h).mono ?_; rintro e w1 ⟨rfl, rfl⟩)
  go_ret
  exact ⟨rfl, rfl⟩

theorem asked_any {w : World} {d db B : Nat} {pv : Value} {ft wh : Int} (h : DB w d db B pv ft wh) (b : Nat) (hb : b < B) :
    Calls Tryz.prog 35 #[.pointer (some ⟨d, 0, none⟩), .int .i64 (b : Int)] w fun e w' => e = .returned (.int .i64 0) ∧ w' = w := by
  obtain ⟨c0, c1, -⟩ := h.cells
  go_enter Tryz.func35, Tryz.ntmps35
  go_wp2_with (go_at_call 39; refine (made_any h).mono ?_; rintro e w1 ⟨rfl, rfl⟩)
  all_goals first | omega | skip
  go_ret
  exact ⟨rfl, rfl⟩

theorem operation_any {w : World} {d db B : Nat} {pv : Value} {ft wh : Int} (h : DB w d db B pv ft wh) (h1 : -1 ≤ ft) (h2 : ft ≤ 1000) :
    Calls Tryz.prog 38 #[.pointer (some ⟨d, 0, none⟩)] w fun e w' => e = .returned (.int .i64 (opE ft wh)) ∧ DB w' d db B pv (opF ft) wh ∧ Kp (· = d) w w' := by
  obtain ⟨c0, c1, c2, c3, c4, c5, c6⟩ := h.cells
  have hz4 := h.frozen 4
  have hz5 := h.frozen 5
  have s4 : Calls Tryz.prog 81 #[.pointer (some ⟨d, 4, none⟩)] w.drew fun e w' => e = .returned (.bool false) ∧ w' = w.drew :=
    (stops_any (w := w.drew) c4 hz4 (by omega) (by omega)).mono fun e w' hh => ⟨hh.1, by rw [hh.2, if_pos rfl]⟩
  have k1 : Kp (· = d) w w.drew := ⟨rfl, rfl, rfl, Nat.le_refl _, fun _ _ _ => rfl⟩
  have h' : DB w.drew d db B pv ft wh := h
  have H1 : DB (if ft = -1 then w.drew else w.drew.setCell ⟨d, 5, none⟩ (.int .i64 (ft - 1))) d db B pv (opF ft) wh ∧ Kp (· = d) w (if ft = -1 then w.drew else w.drew.setCell ⟨d, 5, none⟩ (.int .i64 (ft - 1))) := by
    unfold opF
    by_cases hf : ft = -1
    · rw [if_pos hf, if_pos hf]
      subst hf
      exact ⟨h', k1⟩
    · rw [if_neg hf, if_neg hf]
      exact ⟨h'.setF _, k1.then (Kp.setCell (S := (· = d)) w.drew (p := ⟨d, 5, none⟩) rfl _)⟩
  have s5 : Calls Tryz.prog 81 #[.pointer (some ⟨d, 5, none⟩)] w.drew fun e w' => e = .returned (.bool (decide (ft = 0))) ∧ DB w' d db B pv (opF ft) wh ∧ Kp (· = d) w w' :=
    (stops_any (w := w.drew) c5 hz5 h1 h2).mono fun e w' hh => ⟨hh.1, by rw [hh.2]; exact H1⟩
  clear H1 h' k1 c0 c1 c2 c4 c5 c6 hz4 hz5
  go_enter Tryz.func38, Tryz.ntmps38
  go_wp2
  go_still_tail 7, (by kernel_rfl)
  still_call s4
  repeat still_step
  refine wpStill_nil ?_
  change wpList _ _ _ _ _ w.drew
  generalize w.drew = wd at s5 ⊢
  by_cases hf : ft = 0
  · subst hf
    go_wp2_with (go_at_call 81; refine s5.mono ?_; rintro e w1 ⟨rfl, hD, hK⟩; have c6 := hD.cells.2.2.2.2.2.2)
    go_ret
    exact ⟨rfl, hD, hK⟩
  · go_wp2_with (go_at_call 81; refine s5.mono ?_; rintro e w1 ⟨rfl, hD, hK⟩; have c6 := hD.cells.2.2.2.2.2.2)
    go_ret
    exact ⟨by rw [opE, if_neg hf]; rfl, hD, hK⟩

end Go.Proofs.YtecnddogdiikiaaGreat

namespace Go.Proofs.YtecnddogdiikiaaGreat
open Go Go.RowKit
set_option maxRecDepth 100000
set_option maxHeartbeats 1600000

/-- 4096 bytes in a block of their own -/
def Bk (w : World) (v : Value) (l : List UInt8) : Prop := ∃ g, v = .slice (some ⟨g, 0, none⟩) 4096 4096 ∧ w.heap[g]? = some (.cells (l.map u8V).toArray 5 (0, 0)) ∧ l.length = 4096
/-- a disk's block: nil is noughts -/
def Db (w : World) (v : Value) (l : List UInt8) : Prop := Bk w v l ∨ (v = .slice none 0 0 ∧ l = zs)

theorem tag_ne {w : World} {a b : Nat} {x y : Array Value} {t u : TypeId} {z z' : Nat × Nat} (h : w.heap[a]? = some (.cells x t z)) (g : w.heap[b]? = some (.cells y u z')) (htu : t ≠ u) : a ≠ b := by
  rintro rfl
  rw [h] at g
  cases g
  exact htu rfl
theorem hlt {w : World} {a : Nat} {o : Obj} (h : w.heap[a]? = some o) : a < w.heap.size := (Array.getElem?_eq_some_iff.1 h).1

theorem Bk.rd {w : World} {v : Value} {l : List UInt8} (h : Bk w v l) : ∃ A, v = .slice A 4096 4096 ∧ Rd w w.heap.size A l := by
  obtain ⟨g, rfl, hg, hl⟩ := h
  exact ⟨_, rfl, fun _ => ⟨g, 0, rfl, hlt hg, fun k hk => by simp [World.cell?, hg, hk]⟩⟩
theorem Bk.of_own {w : World} {base g : Nat} {l : List UInt8} (h : Own w base (.slice (some ⟨g, 0, none⟩) 4096 4096) l) (hl : l.length = 4096) : Bk w (.slice (some ⟨g, 0, none⟩) 4096 4096) l :=
  ⟨g, rfl, h.full hl (by omega), hl⟩
theorem Bk.same {w w' : World} {v : Value} {l : List UInt8} (h : Bk w v l) (hb : ∀ (g : Nat) (x : Array Value), w.heap[g]? = some (.cells x 5 (0, 0)) → w'.heap[g]? = w.heap[g]?) : Bk w' v l := by
  obtain ⟨g, rfl, hg, hl⟩ := h
  exact ⟨g, rfl, (hb g _ hg).trans hg, hl⟩
theorem Db.same {w w' : World} {v : Value} {l : List UInt8} (h : Db w v l) (hb : ∀ (g : Nat) (x : Array Value), w.heap[g]? = some (.cells x 5 (0, 0)) → w'.heap[g]? = w.heap[g]?) : Db w' v l :=
  h.imp (fun h => h.same hb) id
theorem Db.rd {w : World} {v : Value} {l : List UInt8} (h : Db w v l) : (∃ A, v = .slice A 4096 4096 ∧ Rd w w.heap.size A l ∧ l.length = 4096) ∨ (v = .slice none 0 0 ∧ l = zs) := by
  rcases h with h | h
  · obtain ⟨A, e, r⟩ := h.rd
    obtain ⟨_, _, _, hl⟩ := h
    exact .inl ⟨A, e, r, hl⟩
  · exact .inr h
theorem Db.one {w : World} {v : Value} {l : List UInt8} (h : Db w v l) : v.cells = #[v] ∧ v.oneCell' = true := by
  rcases h with ⟨g, rfl, _⟩ | ⟨rfl, _⟩ <;> exact ⟨rfl, rfl⟩

/-- the cells of unsynced writes -/
def wc : List (Nat × List UInt8) → List Value → List Value
  | x :: ws, u :: us => .int .i64 (x.1 : Int) :: u :: wc ws us
  | _, _ => []
theorem wc_len : ∀ (ws : List (Nat × List UInt8)) (us : List Value), us.length = ws.length → (wc ws us).length = ws.length * 2
  | [], [], _ => rfl
  | x :: ws, u :: us, h => by simp [wc, wc_len ws us (by simpa using h)]; omega
theorem wc_snoc : ∀ (ws : List (Nat × List UInt8)) (us : List Value) (x : Nat × List UInt8) (u : Value), us.length = ws.length → wc (ws ++ [x]) (us ++ [u]) = wc ws us ++ [.int .i64 (x.1 : Int), u]
  | [], [], x, u, _ => rfl
  | y :: ws, z :: us, x, u, h => by simp [wc, wc_snoc ws us x u (by simpa using h)]
theorem wc_at : ∀ (ws : List (Nat × List UInt8)) (us : List Value) (k : Nat) (h : k < ws.length) (h' : k < us.length), (wc ws us)[k * 2]? = some (.int .i64 (ws[k].1 : Int)) ∧ (wc ws us)[k * 2 + 1]? = some us[k]
  | x :: ws, u :: us, 0, _, _ => ⟨rfl, rfl⟩
  | x :: ws, u :: us, k + 1, h, h' => by
    have := wc_at ws us k (by simpa using h) (by simpa using h')
    rw [show (k + 1) * 2 = k * 2 + 1 + 1 by omega]
    simpa [wc] using this

/-- the unsynced writes, in a row of their own from block n0 on -/
def Pn (w : World) (n0 : Nat) (pv : Value) (ws : List (Nat × List UInt8)) : Prop :=
  ∃ us : List Value, us.length = ws.length ∧ w.ownsRow n0 98 2 pv ws.length (wc ws us) ∧ ∀ k (h : k < us.length) (h' : k < ws.length), Bk w us[k] ws[k].2

structure Dk (w : World) (n0 d db : Nat) (pv : Value) (P : PD) : Prop where
  box : DB w d db P.bs.length pv P.ft P.wh
  row : ∃ cs : Array Value, w.heap[db]? = some (.cells cs 37 (0, 0)) ∧ cs.size = P.bs.length ∧ ∀ k (h : k < P.bs.length), ∃ u, cs[k]? = some u ∧ Db w u P.bs[k]
  pend : Pn w n0 pv P.ws
  ok : P.Ok
  base : n0 ≤ w.heap.size

/-- what is not the disk's is kept -/
abbrev Fr (n0 d db : Nat) (w w' : World) : Prop := Kp (fun k => k = d ∨ k = db ∨ n0 ≤ k) w w'

theorem ownsRow_same {w w' : World} {base : Nat} {e : TypeId} {size : Nat} {v : Value} {n : Nat} {xs : List Value} (h : w.ownsRow base e size v n xs) (hb : ∀ (g : Nat) (x : Array Value), w.heap[g]? = some (.cells x e (0, 0)) → w'.heap[g]? = w.heap[g]?) : w'.ownsRow base e size v n xs := by
  refine ⟨h.1, ?_⟩
  rcases h.2 with e | ⟨g, cap, cur, h1, h2, h3, h4⟩
  · exact .inl e
  · exact .inr ⟨g, cap, cur, h1, h2, (hb g _ h3).trans h3, h4⟩
theorem Pn.same {w w' : World} {n0 : Nat} {pv : Value} {ws : List (Nat × List UInt8)} (h : Pn w n0 pv ws) (h8 : ∀ (g : Nat) (x : Array Value), w.heap[g]? = some (.cells x 98 (0, 0)) → w'.heap[g]? = w.heap[g]?) (h5 : ∀ (g : Nat) (x : Array Value), w.heap[g]? = some (.cells x 5 (0, 0)) → w'.heap[g]? = w.heap[g]?) : Pn w' n0 pv ws := by
  obtain ⟨us, h1, h2, h3⟩ := h
  exact ⟨us, h1, ownsRow_same h2 h8, fun k a b => (h3 k a b).same h5⟩
theorem Pn.nil (w : World) (n0 : Nat) : Pn w n0 (.slice none 0 0) [] := ⟨[], rfl, World.ownsRow_nil _ _ _ _, fun k h => by simp at h⟩
theorem Pn.none0 {w : World} {n0 : Nat} {ws : List (Nat × List UInt8)} (h : Pn w n0 (.slice none 0 0) ws) : ws = [] := by
  obtain ⟨us, h1, h2, h3⟩ := h
  rcases h2.2 with ⟨_, e⟩ | ⟨g, _, _, e, _⟩
  · exact List.eq_nil_of_length_eq_zero e
  · cases e
theorem Pn.empty {w : World} {n0 : Nat} {pv : Value} (h : Pn w n0 pv []) : ∃ A c, pv = .slice A 0 c := by
  obtain ⟨us, h1, h2, h3⟩ := h
  rcases h2.2 with ⟨rfl, _⟩ | ⟨g, c, _, rfl, _⟩ <;> exact ⟨_, _, rfl⟩
theorem Pn.form {w : World} {n0 : Nat} {pv : Value} {ws : List (Nat × List UInt8)} (h : Pn w n0 pv ws) : ∃ A c, pv = .slice A ws.length c := by
  obtain ⟨us, h1, h2, h3⟩ := h
  rcases h2.2 with ⟨rfl, e⟩ | ⟨g, c, _, rfl, _⟩
  · rw [e]; exact ⟨_, _, rfl⟩
  · exact ⟨_, _, rfl⟩
theorem Pn.at_ {w : World} {n0 : Nat} {pv : Value} {ws : List (Nat × List UInt8)} (h : Pn w n0 pv ws) {k : Nat} (hk : k < ws.length) : ∃ g c u, pv = .slice (some ⟨g, 0, none⟩) ws.length c ∧ w.cell? ⟨g, k * 2, none⟩ = some (.int .i64 (ws[k].1 : Int)) ∧ w.cell? ⟨g, k * 2 + 1, none⟩ = some u ∧ Bk w u ws[k].2 := by
  obtain ⟨us, h1, h2, h3⟩ := h
  rcases h2.2 with ⟨_, e⟩ | ⟨g, c, cur, rfl, _, hg, _, _, _, ht⟩
  · omega
  · obtain ⟨a, b⟩ := wc_at ws us k hk (by omega)
    rw [← ht, List.getElem?_take, if_pos (by omega)] at a b
    exact ⟨g, c, us[k], rfl, by simpa [World.cell?, hg] using a, by simpa [World.cell?, hg] using b, h3 k (by omega) hk⟩
theorem Pn.blk {w : World} {n0 : Nat} {pv : Value} {ws : List (Nat × List UInt8)} (h : Pn w n0 pv ws) {k : Nat} (hk : pv.ownBlock = some k) : n0 ≤ k ∧ ∃ x, w.heap[k]? = some (.cells x 98 (0, 0)) := by
  obtain ⟨us, h1, h2, h3⟩ := h
  rcases h2.2 with ⟨rfl, e⟩ | ⟨g, c, cur, rfl, hn, hg, _⟩
  · simp [Value.ownBlock] at hk
  · simp only [Value.ownBlock, Option.some.injEq] at hk
    subst hk
    exact ⟨hn, _, hg⟩

section
variable {w w' : World} {n0 d db : Nat} {pv : Value} {P : PD}
theorem Dk.below (h : Dk w n0 d db pv P) (hb : Below w.heap.size w w') : Dk w' n0 d db pv P := by
  have hs : ∀ (g : Nat) (o : Obj), w.heap[g]? = some o → w'.heap[g]? = w.heap[g]? := fun g o hg => hb.block g (hlt hg)
  obtain ⟨cs, h1, h2, h3⟩ := h.row
  exact ⟨(hs _ _ h.box).trans h.box, ⟨cs, (hs _ _ h1).trans h1, h2, fun k hk => by obtain ⟨u, a, b⟩ := h3 k hk; exact ⟨u, a, b.same fun g x hg => hs g _ hg⟩⟩,
    h.pend.same (fun g x hg => hs g _ hg) fun g x hg => hs g _ hg, h.ok, Nat.le_trans h.base hb.size⟩
theorem Dk.rebase (h : Dk w n0 d db (.slice none 0 0) P) : Dk w w.heap.size d db (.slice none 0 0) P :=
  ⟨h.box, h.row, by have := h.pend.none0; rw [this]; exact Pn.nil _ _, h.ok, Nat.le_refl _⟩
theorem Fr.below (h : Below w.heap.size w w') : Fr n0 d db w w' := Kp.of h

/-- the disk's own cells are turned -/
theorem Dk.turnW (h : Dk w n0 d db pv P) {ft wh : Int} (hD : DB w' d db P.bs.length pv ft wh) (hK : Kp (· = d) w w') (h1 : -1 ≤ ft) (h2 : ft ≤ 1000) : Dk w' n0 d db pv { P with ft := ft, wh := wh } := by
  have hs : ∀ (g : Nat) (x : Array Value) (t : TypeId), w.heap[g]? = some (.cells x t (0, 0)) → t ≠ 93 → w'.heap[g]? = w.heap[g]? := fun g x t hg ht => hK.block g (hlt hg) (tag_ne hg h.box ht)
  obtain ⟨cs, h3, h4, h5⟩ := h.row
  exact ⟨hD, ⟨cs, (hs _ _ _ h3 (by decide)).trans h3, h4, fun k hk => by obtain ⟨u, a, b⟩ := h5 k hk; exact ⟨u, a, b.same fun g x hg => hs g _ _ hg (by decide)⟩⟩,
    h.pend.same (fun g x hg => hs g _ _ hg (by decide)) fun g x hg => hs g _ _ hg (by decide), ⟨h.ok.lens, h.ok.wlens, h1, h2⟩, Nat.le_trans h.base hK.size⟩
theorem Dk.turn (h : Dk w n0 d db pv P) {ft : Int} (hD : DB w' d db P.bs.length pv ft P.wh) (hK : Kp (· = d) w w') (h1 : -1 ≤ ft) (h2 : ft ≤ 1000) : Dk w' n0 d db pv { P with ft := ft } := h.turnW hD hK h1 h2
theorem Fr.of_d (hK : Kp (· = d) w w') : Fr n0 d db w w' := hK.weaken fun _ h => .inl h

theorem whole_db {v : Value} {l : List UInt8} (h : Db w v l) :
    Calls Tryz.prog 37 #[v] w fun e w' => (∃ u, e = .returned u ∧ Bk w' u l ∧ ∃ g, u = .slice (some ⟨g, 0, none⟩) 4096 4096 ∧ w.heap.size ≤ g) ∧ Below w.heap.size w w' := by
  rcases h.rd with ⟨A, rfl, hr, hl⟩ | ⟨rfl, rfl⟩
  · refine (whole_any A 4096 4096 l w hr hl.symm (by omega) (fun e => by simp [e] at hl)).mono ?_
    rintro e w' ⟨⟨g, rfl, ho⟩, hb⟩
    exact ⟨⟨_, rfl, by have := Bk.of_own ho (pad_len (by omega)); rwa [pad_full hl] at this, g, rfl, ho.blk g rfl⟩, hb⟩
  · refine (whole_any none 0 0 [] w (.nil _ _ _) rfl (by simp) (fun _ => ⟨rfl, rfl, rfl⟩)).mono ?_
    rintro e w' ⟨⟨g, rfl, ho⟩, hb⟩
    exact ⟨⟨_, rfl, Bk.of_own ho zs_len, g, rfl, ho.blk g rfl⟩, hb⟩
end

/-- append onto a row of the call's own -/
theorem apG {w : World} {ops : Array Oper} {rest : List Oper} {o : Oper} {a : Act} {Q : Exit → Act → World → Prop} (hgd : o.guard = none) (s x : Operand) (t e : TypeId) (z : Value) (size bytes : Nat)
    (ht : Tryz.prog.underlying t = some (.slice e)) (hi : (Tryz.prog.info? e).map (fun i => (i.zero, i.size, i.bytes)) = some (some z, size, bytes)) (hzs : z.cells.size = size) (hsz : 0 < size)
    (ho : o.op = .call { callee := .builtin .append, args := #[s, x], argTypes := #[t, t] })
    (base : Nat) (v : Value) (n : Nat) (xs : List Value) (hs : a.eval s = v) (hown : w.ownsRow base e size v n xs) (ad : Addr) (m c : Nat) (news : List Value) (hx : a.eval x = .slice (some ad) m c) (hl : news.length = m * size)
    (hnews : ∀ j u, news[j]? = some u → w.cell? (ad.add j) = some u) (h1 : ∀ u ∈ news, u.oneCell' = true) (h63 : n + m ≤ maxLen) (hbytes : (n + m) * bytes ≤ 140737488355328) (hbase : base ≤ w.heap.size)
    (h : ∀ v' w', w'.ownsRow base e size v' (n + m) (xs ++ news) → w.grownBy w' v.ownBlock → (v'.ownBlock = v.ownBlock ∨ v'.ownBlock = some w.heap.size) → wpList Tryz.prog ops Q rest (a.put o.dst v') w') : wpList Tryz.prog ops Q (o :: rest) a w := by
  obtain ⟨i0, hi, hz0, hz1, hz2⟩ := info_parts hi
  obtain ⟨v', w', hrun, h2, h3, _, h5⟩ := run_append_own_at (P := Tryz.prog) w base t o.type e i0 z size bytes ht hi hz0 hz1 hz2 hzs hsz v n xs hown ad m c news hl hnews h1 h63 hbytes hbase
  refine wpList_plain hgd fun _ hK => ?_
  unfold Oper.wp execOp
  simp only [ho, resolve, invoke, builtin, Sem.run_bind, Sem.run_pure, Result.andThen_ok, List.map_toArray, List.map_cons, List.map_nil, hs, hx, hrun]
  exact hK _ _ (h v' w' h2 h3 h5)

end Go.Proofs.YtecnddogdiikiaaGreat

