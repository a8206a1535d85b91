/-
  proof.Mac: what the call does.
-/
import Derived.Test.YtiibpjahmhemmaaDoorKsum
import Derived.Laws.CopyOwn
import Derived.Laws.MakeOwn
namespace Go.Proofs.YtiibpjahmhemmaaDoor
open Go Go.RowKit
open Go.Ev (mixS packB Tab Tab.belowB Tab.below Tab.pos outN out32V szOf run_storeCells_block putL)

noncomputable def shaH (K : Nat → Nat) (l : List UInt8) : Nat → Nat := hashN K hIni (padL l) ((padL l).length / 64)
/-- the digest -/
noncomputable def shaB (K : Nat → Nat) (l : List UInt8) : List UInt8 := (List.range 32).map fun i => UInt8.ofNat (outN (shaH K l) i)
noncomputable def shaV (K : Nat → Nat) (l : List UInt8) : Array Value := ((shaB K l).map u8V).toArray
theorem shaB_len (K : Nat → Nat) (l : List UInt8) : (shaB K l).length = 32 := by simp [shaB]
theorem shaV_size (K : Nat → Nat) (l : List UInt8) : (shaV K l).size = 32 := by simp [shaV, shaB_len]
theorem outN_lt (h : Nat → Nat) (i : Nat) : outN h i < 256 := Nat.mod_lt _ (by decide)
theorem shaV_eq (K : Nat → Nat) (l : List UInt8) : out32V (shaH K l) = shaV K l := by
  unfold out32V shaV shaB
  rw [List.map_map]
  congr 1
  apply List.map_congr_left
  intro i _
  simp only [Function.comp, u8V]
  rw [UInt8.toNat_ofNat', Nat.mod_eq_of_lt (outN_lt _ _)]
theorem shaV_one (K : Nat → Nat) (l : List UInt8) : ∀ v ∈ (shaV K l).toList, v.oneCell' = true := by
  intro v hv
  simp only [shaV, List.mem_map] at hv
  obtain ⟨_, _, rfl⟩ := hv
  rfl
theorem sum_sha (K : Nat → Nat) (A : Option Addr) (c : Nat) (l : List UInt8) (w : World) (hT : Tab w K) (hr : Rd w w.heap.size A l) (hl : l.length ≤ 1000000) (hlc : l.length ≤ c) :
    Calls Tryd.prog 8 #[.slice A l.length c] w fun e w' => e = .returned (.agg (shaV K l)) ∧ Below w.heap.size w w' := by
  refine (sum_any K A c l w hT hr hl hlc).mono ?_
  rintro e w' ⟨rfl, hb⟩
  exact ⟨by rw [← shaV_eq]; rfl, hb⟩
theorem sum_shaN (K : Nat → Nat) (A : Option Addr) (n c : Nat) (l : List UInt8) (w : World) (hn : l.length = n) (hT : Tab w K) (hr : Rd w w.heap.size A l) (hl : l.length ≤ 1000000) (hlc : l.length ≤ c) :
    Calls Tryd.prog 8 #[.slice A n c] w fun e w' => e = .returned (.agg (shaV K l)) ∧ Below w.heap.size w w' := by
  subst hn; exact sum_sha K A c l w hT hr hl hlc
/-- a block that reads as bytes -/
theorem Rd.row {w : World} {g : Nat} {l : List UInt8} {t : TypeId} {fz : Nat × Nat} (h : w.heap[g]? = some (.cells (l.map u8V).toArray t fz)) : Rd w w.heap.size (some ⟨g, 0, none⟩) l := fun _ =>
  ⟨g, 0, rfl, (Array.getElem?_eq_some_iff.1 h).1, fun k hk => by rw [Nat.zero_add, cell_of_row w g k _ t fz h]; simp [hk]⟩

/-- a whole array is stored into a block -/
theorem stR {w : World} {ops : Array Oper} {rest : List Oper} {o : Oper} {a : Act} {Q : Exit → Act → World → Prop} (hgd : o.guard = none) (ty : TypeId) (p x : Operand) (ho : o.op = .store ty p x) (hdst : o.dst = none)
    (g : Nat) (hp : a.eval p = .pointer (some ⟨g, 0, none⟩)) (n : Nat) (hsz : szOf Tryd.prog ty = some n) (cs cs' : Array Value) (t : TypeId) (hg : w.heap[g]? = some (.cells cs t (0, 0))) (hx : a.eval x = .agg cs')
    (h1 : cs.size = n) (h2 : cs'.size = n) (hone : ∀ v ∈ cs'.toList, v.oneCell' = true)
    (h : ∀ w', w'.heap[g]? = some (.cells cs' t (0, 0)) → (∀ k, k ≠ g → w'.heap[k]? = w.heap[k]?) → (∀ B, B ≤ g → Below B w w') → wpList Tryd.prog ops Q rest a w') : wpList Tryd.prog ops Q (o :: rest) a w := by
  refine wpList_plain hgd fun _ hK => ?_
  have hlt := (Array.getElem?_eq_some_iff.1 hg).1
  have hrun := run_storeCells_block (P := Tryd.prog) g 0 t (0, 0) cs'.toList 0 cs w hg (by simp; omega) hone (by intro k _ _; simp)
  have hput : putL cs (0 + 0) cs'.toList = cs' := by
    apply Array.ext'
    rw [Go.Ev.putL_toList cs (0 + 0) cs'.toList (by simp; omega)]
    simp
    omega
  rw [hput] at hrun
  have hst : (Instr.storeAt ty (a.eval p) (a.eval x)).run Tryd.prog w = .ok () { w with heap := w.heap.setIfInBounds g (.cells cs' t (0, 0)) } := by
    rw [hp, hx]
    simp only [Instr.storeAt, Instr.sureAddr, Sem.run_bind, Sem.run_pure, Result.andThen_ok, storeVar, Go.Ev.run_szOf hsz, Value.cells, h2, ne_eq, not_true, if_false]
    exact hrun
  unfold Oper.wp execOp
  simp only [ho, Sem.run_bind, hst, Result.andThen_ok, Sem.run_pure]
  have hk := hK a { w with heap := w.heap.setIfInBounds g (.cells cs' t (0, 0)) } (h _ (by simp [hlt]) (fun k hk => by simp [Array.getElem?_setIfInBounds, Ne.symm hk]) (fun B hB => ⟨rfl, rfl, rfl, by simp, fun k hk => by simp [Array.getElem?_setIfInBounds, show g ≠ k by omega]⟩))
  simpa [Oper.upon, Act.put, hdst] using hk

/-- the 64 bytes of a key -/
def key64 (k : List UInt8) : List UInt8 := (List.range 64).map fun i => k.getD i 0
noncomputable def keyB (K : Nat → Nat) (key : List UInt8) : List UInt8 := if 64 < key.length then shaB K key else key
noncomputable def macB (K : Nat → Nat) (key l : List UInt8) : List UInt8 := xorL (keyB K key) 92 ++ shaB K (xorL (keyB K key) 54 ++ l)
noncomputable def macV (K : Nat → Nat) (key l : List UInt8) : Array Value := shaV K (macB K key l)
theorem splice_gen (k : List UInt8) (n : Nat) (h : k.length ≤ n) : splice (List.replicate n (Value.int .u8 0)) 0 (k.map u8V) = ((List.range n).map fun i => k.getD i 0).map u8V := by
  unfold splice
  apply List.ext_getElem
  · simp; omega
  · intro i h1 h2
    simp at h2
    by_cases hi : i < k.length
    · simp [hi, List.getElem_append]
    · have hi' : k.length ≤ i := by omega
      simp [hi, hi', List.getElem_append, u8V]
theorem splice_key (k : List UInt8) (h : k.length ≤ 64) : splice (List.replicate 64 (Value.int .u8 0)) 0 (k.map u8V) = (key64 k).map u8V := splice_gen k 64 h

theorem hbW (w : World) (o o' : Obj) : Below w.heap.size w ((w.alloc o).alloc o') := ((Below.refl _ _).alloc (Nat.le_refl _) _).alloc (by simp) _
theorem szOf24 : szOf Tryd.prog 24 = some 32 := by kernel_rfl
theorem size5 : (Tryd.prog.info? 5).map (·.size) = some 1 := by kernel_rfl

theorem mk_any (n : Nat) (hn : n ≤ 1000000) : ∀ W : World, (Instr.makeSlice 22 (.int .i64 0) (.int .i64 (n : Int))).run Tryd.prog W = .ok (.slice (some ⟨W.heap.size, 0, none⟩) 0 n) (W.alloc (.cells (madeCells #[.int .u8 0] n) 5)) := by
  intro W
  obtain ⟨i0, hi, hz0, hz1, hz2⟩ := info_parts Tryd.info5
  have h := run_make (P := Tryd.prog) W 22 5 i0 (.int .u8 0) Tryd.underlying22 hi hz0 .i64 .i64 0 (n : Int) (Int.le_refl _) (by omega) (by rw [hz2]; omega) (by omega)
  rw [hz1] at h
  simp at h
  exact h
theorem ownM (W : World) (n base : Nat) (hb : base ≤ W.heap.size) (hn : n ≤ 1000000) : Own (W.alloc (.cells (madeCells #[.int .u8 0] n) 5)) base (.slice (some ⟨W.heap.size, 0, none⟩) 0 n) [] := by
  have h := World.ownsRow_made (e := 5) (size := 1) W (madeCells #[.int .u8 0] (n * 1)) n hb (by unfold maxLen; omega) (by simp [size_madeCells])
  simp at h
  exact h
theorem size24a : (Tryd.prog.info? 24).map (·.size) = some 32 := by kernel_rfl
theorem size24 (K : Nat → Nat) (l : List UInt8) : (Tryd.prog.info? 24).map (·.size) = some (shaV K l).size := by rw [size24a, shaV_size]
theorem size48a : (Tryd.prog.info? 48).map (·.size) = some 64 := by kernel_rfl
theorem size48 (k : List UInt8) : (Tryd.prog.info? 48).map (·.size) = some ((key64 k).map u8V).toArray.size := by rw [size48a]; simp [key64]
theorem sz5 : szOf Tryd.prog 5 = some 1 := by kernel_rfl
theorem agg5 : Go.Ev.aggN Tryd.prog 5 = some none := by kernel_rfl
theorem idx64 (k : List UInt8) (n : Nat) (h : n < 64) : ∀ W : World, (Instr.index 48 (.agg ((key64 k).map u8V).toArray) (.int .i64 (n : Int))).run Tryd.prog W = .ok (u8V (k.getD n 0)) W := by
  intro W
  have hi : Go.Ev.indexA Tryd.prog 48 (.agg ((key64 k).map fun x => Go.Ev.AV.int .u8 (.ofNat x.toNat))) (.int .i64 (.ofNat n)) = some (.int .u8 (.ofNat (k.getD n 0).toNat)) := by
    simp only [Go.Ev.indexA, Tryd.underlying48, sz5]
    have hb : Nat.blt n 64 = true := Go.Ev.blt_iff.2 h
    simp only [hb, cond_true]
    simp [Go.Ev.partA, agg5, key64, h]
  obtain ⟨u, h1, h2⟩ := Go.Ev.index_sound (ρ := fun _ => none) hi (.agg _ ((key64 k).map u8V).toArray (by simpa using Go.Ev.VRs_ofInts UInt8.toNat .u8 (key64 k))) (.int .i64 (n : Int)) W
  rw [h1]
  cases h2
  rfl

theorem Own.other {w w' : World} {B : Nat} {v : Value} {l : List UInt8} {row : Option Nat} (h : Own w B v l) (hg : w.grownBy w' row) (hne : v.ownBlock ≠ row) : Own w' B v l :=
  h.blocks fun k hk => hg.block k (h.lt k hk) (fun e => hne (by rw [hk, e]))
theorem ob_ne {w : World} {B n : Nat} {u v v' : Value} {l : List UInt8} (h : Own w B u l) (hne : u.ownBlock ≠ v.ownBlock) (hat : v'.ownBlock = v.ownBlock ∨ v'.ownBlock = some n) (hn : w.heap.size ≤ n) : u.ownBlock ≠ v'.ownBlock := by
  rcases hat with e | e
  · rw [e]; exact hne
  · rw [e]; intro e2; have := h.lt _ e2; omega
theorem ob_some {n : Nat} {v v' : Value} (h : v.ownBlock ≠ none) (hat : v'.ownBlock = v.ownBlock ∨ v'.ownBlock = some n) : v'.ownBlock ≠ none := by
  rcases hat with e | e
  · rw [e]; exact h
  · rw [e]; simp

set_option maxHeartbeats 1000000 in
set_option maxRecDepth 100000 in
theorem mac_any (K : Nat → Nat) (A C : Option Addr) (c d : Nat) (key l : List UInt8) (w : World) (hT : Tab w K) (hk : Rd w w.heap.size A key) (hr : Rd w w.heap.size C l) (hkl : key.length ≤ 100000) (hkc : key.length ≤ c) (hl : l.length ≤ 100000) :
    Calls Tryd.prog 10 #[.slice A key.length c, .slice C l.length d] w fun e w' => e = .returned (.agg (macV K key l)) ∧ Below w.heap.size w w' := by
  go_enter Tryd.func10, Tryd.ntmps10
  go_upto_if 14 with fail
  go_cut [5] (fun v wx => v = .pointer (some ⟨w.heap.size + 1, 0, none⟩) ∧ wx.heap[w.heap.size + 1]? = some (.cells ((key64 (keyB K key)).map u8V).toArray 48 (0, 0)) ∧ wx.heap[w.heap.size]? = some (.cells (Array.replicate 32 (.int .u8 0)) 24 (0, 0)) ∧ Below w.heap.size w wx)
  case first =>
    by_cases h64 : 64 < key.length
    · have hkB : keyB K key = shaB K key := by unfold keyB; rw [if_pos h64]
      have HK := Lib.hid hkB
      clear hkB
      go_wp2_with (first
        | (go_at_call 8; refine (sum_sha K A c key _ (hT.below (hbW w _ _)) (hk.belowS (hbW w _ _)) (by omega) hkc).mono ?_; rintro e w1 ⟨rfl, hb1⟩)
        | (refine stR rfl 24 (.tmp 6) (.tmp 16) rfl rfl w1.heap.size rfl 32 szOf24 _ (shaV K key) 24 (heap_alloc_new _ _) rfl rfl (shaV_size _ _) (shaV_one _ _) ?_; intro w2 hs2 hf2 hbl2))
      have hsz1 : w.heap.size + 2 ≤ w1.heap.size := by have := hb1.size; simp at this; omega
      have hbk2 : w2.heap[w.heap.size + 1]? = some (.cells (List.replicate 64 (Value.int .u8 0)).toArray 48 (0, 0)) := by
        rw [hf2 _ (by omega), Below.heap_alloc _ _ _ (by omega), hb1.block _ (by simp)]
        rw [show w.heap.size + 1 = (w.alloc (.cells (Array.replicate 32 (.int .u8 0)) 24)).heap.size by simp]
        exact heap_alloc_new _ _
      have hrb2 : w2.heap[w.heap.size]? = some (.cells (Array.replicate 32 (.int .u8 0)) 24 (0, 0)) := by
        rw [hf2 _ (by omega), Below.heap_alloc _ _ _ (by omega), hb1.block _ (by simp; omega), Below.heap_alloc _ _ _ (by simp)]
        exact heap_alloc_new _ _
      have hbb : Below w.heap.size w w2 := (((hbW w _ _).trans (hb1.mono (by simp; omega))).alloc (by omega) _).trans (hbl2 _ (by omega))
      have hgs : w2.heap[w1.heap.size]? = some (.cells ((shaB K key).map u8V).toArray 24 (0, 0)) := hs2
      clear hs2 hf2 hbl2 hb1
      go_wp2
      go_still_tail 2, (by kernel_rfl)
      change wpList _ _ _ _ _ w2.drew
      have hbk3 : w2.drew.heap[w.heap.size + 1]? = _ := hbk2
      have hrb3 : w2.drew.heap[w.heap.size]? = _ := hrb2
      have hbb3 := hbb.drew
      have hgs3 : w2.drew.heap[w1.heap.size]? = _ := hgs
      clear hbk2 hrb2 hbb hgs
      generalize w2.drew = w3 at *
      go_wp2_with (refine wpList_copy_splice rfl (.tmp 17) (.tmp 18) 22 22 rfl 5 Tryd.underlying22 size5 _ _ 64 64 32 32 rfl rfl (w.heap.size + 1) 0 (List.replicate 64 (Value.int .u8 0)) 48 hbk3 ((shaB K key).map u8V) ?p1 ?p2 ?p3 ?p4 (w.heap.size + 1) w3 (Below.refl _ _) (Nat.le_refl _) ?_)
      case p1 => rw [List.length_map, shaB_len]; rfl
      case p2 =>
        intro _ i x hx
        rw [cell_of_row w3 _ i _ 24 (0, 0) hgs3]
        simp [hx]
      case p3 => rw [List.length_map, shaB_len]; simp
      case p4 => exact fun v hv => shaV_one K key v (by simpa [shaV] using hv)
      intro w4 hw4 hb4
      have hf4 := hb4.block w.heap.size (by omega)
      have hbb4 := hbb3.trans (hb4.mono (Nat.le_succ _))
      have hw4' : w4.heap[w.heap.size + 1]? = some (.cells ((key64 (shaB K key)).map u8V).toArray 48 (0, 0)) := by
        rw [← splice_key _ (by rw [shaB_len]; omega)]; exact hw4.out
      go_wp2
      go_meet
      exact ⟨rfl, by rw [HK.out]; exact hw4', hf4.trans hrb3, hbb4⟩
    · have hkB : keyB K key = key := by unfold keyB; rw [if_neg h64]
      have HK := Lib.hid hkB
      have hk2 := hk.belowS (hbW w (.cells (Array.replicate 32 (.int .u8 0)) 24) (.cells (Array.replicate 64 (.int .u8 0)) 48))
      clear hkB
      go_wp2_with (refine wpList_copy_splice rfl (.tmp 20) (.tmp 21) 22 22 rfl 5 Tryd.underlying22 size5 _ _ 64 64 key.length c rfl rfl (w.heap.size + 1) 0 (List.replicate 64 (Value.int .u8 0)) 48 ?q0 (key.map u8V) ?q1 ?q2 ?q3 ?q4 (w.heap.size + 1) _ (Below.refl _ _) (Nat.le_refl _) ?_)
      case q0 =>
        rw [show w.heap.size + 1 = (w.alloc (.cells (Array.replicate 32 (.int .u8 0)) 24)).heap.size by simp]
        exact heap_alloc_new _ _
      case q1 => rw [List.length_map]; exact (Nat.min_eq_left (by omega)).symm
      case q2 =>
        intro hpos
        obtain ⟨b, o, rfl, hbB, hc⟩ := hk2 (by rintro rfl; simp at hpos)
        refine ⟨⟨b, o, none⟩, rfl, fun i x hx => ?_⟩
        have hlt := (List.getElem?_eq_some_iff.1 hx).1
        have e : (⟨b, o, none⟩ : Addr).add i = ⟨b, o + i, none⟩ := by unfold Addr.add; split <;> simp_all
        rw [e]
        refine (hc i hlt).trans ?_
        rw [(List.getElem?_eq_some_iff.1 hx).2]
      case q3 => simp; omega
      case q4 => intro v hv; simp only [List.mem_map] at hv; obtain ⟨_, _, rfl⟩ := hv; rfl
      intro w4 hw4 hb4
      have hf4 := hb4.block w.heap.size (by omega)
      rw [Below.heap_alloc _ _ _ (by simp), heap_alloc_new] at hf4
      have hbb4 := (hbW w _ _).trans (hb4.mono (Nat.le_succ _))
      have hw4' : w4.heap[w.heap.size + 1]? = some (.cells ((key64 key).map u8V).toArray 48 (0, 0)) := by
        rw [← splice_key _ (by omega)]; exact hw4.out
      go_wp2
      go_meet
      exact ⟨rfl, by rw [HK.out]; exact hw4', hf4, hbb4⟩
  case rest =>
    obtain ⟨rfl, hbk, hrb, hb⟩ := hcut
    have hmk1 := mk_any (64 + l.length) (by omega)
    have hmk2 : ∀ W : World, (Instr.makeSlice 22 (.int .i64 0) (.int .i64 96)).run Tryd.prog W = .ok (.slice (some ⟨W.heap.size, 0, none⟩) 0 96) (W.alloc (.cells (madeCells #[.int .u8 0] 96) 5)) := mk_any 96 (by omega)
    rw [show ((64 + l.length : Nat) : Int) = 64 + (l.length : Int) by omega] at hmk1
    have hsz : w.heap.size + 2 ≤ wc.heap.size := (Array.getElem?_eq_some_iff.1 hbk).1
    have hbk' : ((wc.alloc (.cells (madeCells #[.int .u8 0] (64 + l.length)) 5)).alloc (.cells (madeCells #[.int .u8 0] 96) 5)).heap[w.heap.size + 1]? = some (.cells ((key64 (keyB K key)).map u8V).toArray 48 (0, 0)) := by
      rw [Below.heap_alloc _ _ _ (by simp; omega), Below.heap_alloc _ _ _ (by omega)]; exact hbk
    have hrb' : ((wc.alloc (.cells (madeCells #[.int .u8 0] (64 + l.length)) 5)).alloc (.cells (madeCells #[.int .u8 0] 96) 5)).heap[w.heap.size]? = some (.cells (Array.replicate 32 (.int .u8 0)) 24 (0, 0)) := by
      rw [Below.heap_alloc _ _ _ (by simp; omega), Below.heap_alloc _ _ _ (by omega)]; exact hrb
    have hb' : Below w.heap.size w ((wc.alloc (.cells (madeCells #[.int .u8 0] (64 + l.length)) 5)).alloc (.cells (madeCells #[.int .u8 0] 96) 5)) := hb.trans ((hbW wc _ _).mono (by omega))
    have ho1 : Own ((wc.alloc (.cells (madeCells #[.int .u8 0] (64 + l.length)) 5)).alloc (.cells (madeCells #[.int .u8 0] 96) 5)) (w.heap.size + 2) (.slice (some ⟨wc.heap.size, 0, none⟩) 0 (64 + l.length)) [] := (ownM wc _ _ hsz (by omega)).alloc _
    have ho2 : Own ((wc.alloc (.cells (madeCells #[.int .u8 0] (64 + l.length)) 5)).alloc (.cells (madeCells #[.int .u8 0] 96) 5)) (w.heap.size + 2) (.slice (some ⟨wc.heap.size + 1, 0, none⟩) 0 96) [] := by
      have := ownM (wc.alloc (.cells (madeCells #[.int .u8 0] (64 + l.length)) 5)) 96 (w.heap.size + 2) (by simp; omega) (by omega)
      simpa using this
    have HBK := Lib.hid hbk'
    have HRB := Lib.hid hrb'
    clear hbk hrb hb hbk' hrb'
    go_wp2_with (with_reducible refine wpList_load_row rfl 48 (.tmp 5) rfl (w.heap.size + 1) rfl 48 _ (0, 0) (.array 64 5) HBK.out Tryd.underlying48 rfl (size48 _) ?_)
    go_loopw [7, 8, 29] (fun v u i wr => ∃ n : Nat, n ≤ 64 ∧ i = .int .i64 n ∧ Own wr (w.heap.size + 2) v ((xorL (keyB K key) 54).take n) ∧ Own wr (w.heap.size + 2) u ((xorL (keyB K key) 92).take n) ∧ u.ownBlock ≠ v.ownBlock ∧ v.ownBlock ≠ none ∧
      wr.heap[w.heap.size]? = some (.cells (Array.replicate 32 (.int .u8 0)) 24 (0, 0)) ∧ Below w.heap.size w wr) (fun _ _ i _ => 64 - (intOf i).toNat)
    case atStart => exact ⟨0, by omega, rfl, ho1, ho2, by simp [Value.ownBlock], by simp [Value.ownBlock], HRB.out, hb'⟩
    case round =>
      clear hmk1 hmk2 ho1 ho2 HBK HRB hb'
      obtain ⟨n, hn, rfl, hv, hu, hne, hnn, hrb, hb⟩ := hrel
      have hszr : w.heap.size + 2 ≤ wr.heap.size := by
        cases hvo : Value.ownBlock u7 with
        | none => exact absurd hvo hnn
        | some k => have h1 := hv.blk k hvo; have h2 := hv.lt k hvo; omega
      by_cases hlt : n < 64
      · have hidx := idx64 (keyB K key) n hlt
        have hX1 : bits .xor .u8 (((keyB K key).getD n 0).toNat : Int) 54 = ((((keyB K key).getD n 0) ^^^ 54).toNat : Int) := bits_xor8 _ 54
        have hX2 : bits .xor .u8 (((keyB K key).getD n 0).toNat : Int) 92 = ((((keyB K key).getD n 0) ^^^ 92).toNat : Int) := bits_xor8 _ 92
        obtain ⟨x, hx⟩ : ∃ x, x = (keyB K key).getD n 0 := ⟨_, rfl⟩
        rw [← hx] at hidx hX1 hX2
        have HX := Lib.hid hx
        clear hx
        go_wp2_with (at_builtin; refine apB rfl (.tmp 32) (.tmp 35) rfl (w.heap.size + 2) _ _ rfl (hv.alloc _) _ _ 1 1 [x ^^^ 54] rfl rfl (Rd.one _ _) ?r1 ?r2 ?_)
        case r1 => simp [xorL]; omega
        case r2 => simp; omega
        intro v1 w1 hv1 hb1 hat1 hg1
        have hu1 : Own w1 (w.heap.size + 2) u8 ((xorL (keyB K key) 92).take n) := (hu.alloc _).other hg1 hne
        have hne1 : Value.ownBlock u8 ≠ v1.ownBlock := ob_ne hu hne hat1 (by omega)
        have hnn1 : v1.ownBlock ≠ none := ob_some hnn hat1
        have hrb1 := (hb1.block w.heap.size (by omega)).trans ((Below.heap_alloc _ _ _ (by omega)).trans hrb)
        have hbb1 := (hb.alloc (by omega) _).trans (hb1.mono (by omega))
        have hsz1 : w.heap.size + 2 ≤ w1.heap.size := by have := hb1.size; simp at this; omega
        have hv1' := hv1.cast (m := (xorL (keyB K key) 54).take (n + 1)) (by rw [xorL_take _ _ _ hlt, ← HX.out])
        clear hv hu hne hnn hrb hb hb1 hat1 hg1 hv1 hX1
        go_wp2_with (at_builtin; refine apB rfl (.tmp 37) (.tmp 40) rfl (w.heap.size + 2) _ _ rfl (hu1.alloc _) _ _ 1 1 [x ^^^ 92] rfl rfl (Rd.one _ _) ?s1 ?s2 ?_)
        case s1 => simp [xorL]; omega
        case s2 => simp; omega
        intro v2 w2 hu2 hb2 hat2 hg2
        have hv2 : Own w2 (w.heap.size + 2) v1 ((xorL (keyB K key) 54).take (n + 1)) := (hv1'.alloc _).other hg2 (Ne.symm hne1)
        have hne2 : v1.ownBlock ≠ v2.ownBlock := ob_ne hv1' (Ne.symm hne1) hat2 (by omega)
        have hrb2 := (hb2.block w.heap.size (by omega)).trans ((Below.heap_alloc _ _ _ (by omega)).trans hrb1)
        have hbb2 := (hbb1.alloc (by omega) _).trans (hb2.mono (by omega))
        have hu2' := hu2.cast (m := (xorL (keyB K key) 92).take (n + 1)) (by rw [xorL_take _ _ _ hlt, ← HX.out])
        clear hv1' hu1 hne1 hrb1 hbb1 hb2 hat2 hg2 hu2 hX2 hidx
        go_wp2
        go_roundw
        case rel => exact ⟨n + 1, by omega, by go_num, hv2, hu2', Ne.symm hne2, hnn1, hrb2, hbb2⟩
        case measure => simp [intOf]; omega
      · obtain rfl : n = 64 := by omega
        rw [xorL_all] at hv hu
        have hxl : ∀ x, (xorL (keyB K key) x).length = 64 := fun x => by simp [xorL]
        have HXL := Lib.hid hxl
        clear hxl
        have hrr : Rd wr w.heap.size C l := hr.below hb
        go_wp2_with (at_builtin; refine apB rfl (.tmp 43) (.tmp 44) rfl (w.heap.size + 2) _ _ rfl hv _ _ _ d l rfl rfl hrr ?t1 ?t2 ?_)
        case t1 => have := HXL.out 54; omega
        case t2 => omega
        intro v1 w1 hv1 hb1 hat1 hg1
        have hu1 := hu.other hg1 hne
        have hrb1 := (hb1.block w.heap.size (by omega)).trans hrb
        have hbb1 := hb.trans (hb1.mono (by omega))
        have hsz1 : w.heap.size + 2 ≤ w1.heap.size := by have := hb1.size; omega
        obtain ⟨A1, c1, rfl, hc1, _, hrd1⟩ := hv1.sl (n := 64 + l.length) (by have := HXL.out 54; simp; omega)
        clear hv hu hne hnn hrb hb hb1 hat1 hg1 hrr
        have HL1 := Lib.hid (show (xorL (keyB K key) 54 ++ l).length ≤ 1000000 by have := HXL.out 54; simp; omega)
        have HN1 := Lib.hid (show (xorL (keyB K key) 54 ++ l).length = 64 + l.length by have := HXL.out 54; simp; omega)
        have HC1 := Lib.hid (show (xorL (keyB K key) 54 ++ l).length ≤ c1 by rw [HN1.out]; exact hc1)
        have HR1 := Lib.hid hrd1
        have HT1 := Lib.hid (hT.belowB hT.pos hbb1)
        clear hc1 hrd1 hv1
        go_upto_region 15 with (first
          | (go_at_call 8; (with_reducible refine (sum_shaN K A1 (64 + l.length) c1 (xorL (keyB K key) 54 ++ l) w1 HN1.out HT1.out HR1.out HL1.out HC1.out).mono ?_); rintro e w2 ⟨rfl, hb2⟩)
          | (refine stR rfl 24 (.tmp 11) (.tmp 46) rfl rfl w2.heap.size rfl 32 szOf24 _ (shaV K (xorL (keyB K key) 54 ++ l)) 24 (heap_alloc_new _ _) rfl rfl (shaV_size _ _) (shaV_one _ _) ?_; intro w3 hs3 hf3 hbl3))
        have hsz2 : w1.heap.size ≤ w2.heap.size := hb2.size
        have hu3 : Own w3 (w.heap.size + 2) u8 (xorL (keyB K key) 92) := ((hu1.belowS hb2).alloc _).blocks fun k hk => hf3 k (by have := (hu1.belowS hb2).lt k hk; omega)
        have hsz3 : w2.heap.size + 1 ≤ w3.heap.size := by
          have h := (hbl3 0 (by omega)).size; simpa using h
        have hrb3 : w3.heap[w.heap.size]? = some (.cells (Array.replicate 32 (.int .u8 0)) 24 (0, 0)) := by
          rw [hf3 _ (by omega), Below.heap_alloc _ _ _ (by omega), hb2.block _ (by omega)]; exact hrb1
        have hbb3 : Below w.heap.size w w3 := ((hbb1.trans (hb2.mono (by omega))).alloc (by omega) _).trans (hbl3 _ (by omega))
        have hrd3 : Rd w3 w3.heap.size (some ⟨w2.heap.size, 0, none⟩) (shaB K (xorL (keyB K key) 54 ++ l)) := Rd.row hs3
        have HS32 := Lib.hid (shaB_len K (xorL (keyB K key) 54 ++ l))
        clear hu1 hb2 hs3 hf3 hbl3 hrb1 hbb1 HR1 HC1 HL1 HN1 HT1
        go_wp2_with (at_builtin; refine apB rfl (.tmp 47) (.tmp 48) rfl (w.heap.size + 2) _ _ rfl hu3 _ _ 32 32 (shaB K (xorL (keyB K key) 54 ++ l)) rfl ?x0 hrd3 ?x1 ?x2 ?_)
        case x0 => exact HS32.out.symm
        case x1 => have := HXL.out 92; have := HS32.out; omega
        case x2 => omega
        intro v4 w4 hu4 hb4 _ _
        have hrb4 := (hb4.block w.heap.size (by omega)).trans hrb3
        have hbb4 := hbb3.trans (hb4.mono (by omega))
        have hsz4 : w.heap.size + 2 ≤ w4.heap.size := by have := hb4.size; omega
        obtain ⟨A4, c4, rfl, hc4, _, hrd4⟩ := hu4.sl (n := 96) (by have := HXL.out 92; have := HS32.out; simp; omega)
        have HN4 := Lib.hid (show (macB K key l).length = 96 by unfold macB; have := HXL.out 92; have := HS32.out; simp; omega)
        have HR4 : Hid (Rd w4 w4.heap.size A4 (macB K key l)) := hrd4
        have HT4 := Lib.hid (hT.belowB hT.pos hbb4)
        have HC4 := Lib.hid (show (macB K key l).length ≤ c4 by rw [HN4.out]; exact hc4)
        have HL4 := Lib.hid (show (macB K key l).length ≤ 1000000 by rw [HN4.out]; omega)
        clear hu4 hc4 hrd4 hb4 hrd3 hu3 hrb3 hbb3
        go_wp2_with (first
          | (go_at_call 8; (with_reducible refine (sum_shaN K A4 96 c4 (macB K key l) w4 HN4.out HT4.out HR4.out HL4.out HC4.out).mono ?_); rintro e w5 ⟨rfl, hb5⟩; have hrb5 := (hb5.block w.heap.size (by omega)).trans hrb4)
          | (refine stR rfl 24 (.tmp 4) (.tmp 50) rfl rfl w.heap.size rfl 32 szOf24 (Array.replicate 32 (.int .u8 0)) (shaV K (macB K key l)) 24 hrb5 rfl (by simp) (shaV_size _ _) (shaV_one _ _) ?_; intro w6 hs6 hf6 hbl6))
        refine bodyPost_ret (results_cell_row Tryd.results10 _ _ w.heap.size 24 (shaV K (macB K key l)) (0, 0) (.array 32 5) rfl hs6 Tryd.underlying24 rfl (size24 _ _)) rfl ⟨rfl, ?_⟩
        exact (hbb4.trans (hb5.mono (by omega))).trans (hbl6 _ (Nat.le_refl _))

end Go.Proofs.YtiibpjahmhemmaaDoor
