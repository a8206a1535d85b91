/-
  proof.Sum: what the call does.
-/
import Derived.Test.YtiibpjahmhemmaaDoorZout
import Derived.Test.YtiibpjahmhemmaaDoorKmsg
import Derived.StillTailTactics
import Derived.Laws.Rows
import Derived.Deep.DeepCutAuto
namespace Go.Proofs.YtiibpjahmhemmaaDoor
open Go Go.RowKit
open Go.Ev (mixS packB mix_calls Tab Tab.belowB Tab.pos aggV)

def hIni : Nat → Nat := fun i => [1779033703, 3144134277, 1013904242, 2773480762, 1359893119, 2600822924, 528734635, 1541459225].getD i 0
/-- the sum behind these bytes, 64 at a time -/
noncomputable def hashN (K : Nat → Nat) (h : Nat → Nat) (l : List UInt8) : Nat → (Nat → Nat)
  | 0 => h
  | j + 1 => mixS K (hashN K h l j) (packB ((l.drop (64 * j)).take 64))

theorem hashN_add (K h : Nat → Nat) (l : List UInt8) (j i : Nat) : hashN K h l (j + i) = hashN K (hashN K h l j) (l.drop (64 * j)) i := by
  induction i with
  | zero => rfl
  | succ i ih =>
    show mixS K (hashN K h l (j + i)) (packB ((l.drop (64 * (j + i))).take 64)) = mixS K (hashN K (hashN K h l j) (l.drop (64 * j)) i) (packB (((l.drop (64 * j)).drop (64 * i)).take 64))
    rw [ih, List.drop_drop, show 64 * (j + i) = 64 * j + 64 * i by omega]
theorem hashN_app (K h : Nat → Nat) (l r : List UInt8) : ∀ j, 64 * j ≤ l.length → hashN K h (l ++ r) j = hashN K h l j := by
  intro j
  induction j with
  | zero => intro _; rfl
  | succ j ih =>
    intro hj
    show mixS K (hashN K h (l ++ r) j) _ = mixS K (hashN K h l j) _
    rw [ih (by omega)]
    congr 2
    rw [List.drop_append_of_le_length (by omega), List.take_append_of_le_length (by simp; omega)]
theorem sum_law (K : Nat → Nat) (l m E : List UInt8) (j i : Nat) (hj : 64 * j ≤ l.length) (hm : m = l.drop (64 * j)) (hE : m ++ [128] ++ List.replicate (padZ m.length) 0 ++ (be64 (8 * l.length)).take 8 = E) (hi : E.length = 64 * i) :
    hashN K (hashN K hIni l j) E i = hashN K hIni (padL l) ((padL l).length / 64) := by
  have hz : padZ m.length = padZ l.length := by rw [hm, List.length_drop]; unfold padZ; omega
  have hd : (padL l).drop (64 * j) = E := by
    rw [← hE, be64_all, hz, hm]
    unfold padL
    rw [List.append_assoc, List.append_assoc, List.append_assoc, List.append_assoc, List.drop_append_of_le_length hj]
  have hl : (padL l).length = 64 * j + E.length := by
    rw [← hd, List.length_drop]
    have : l.length ≤ (padL l).length := by simp [padL]
    omega
  rw [show (padL l).length / 64 = j + i by omega, hashN_add, hd]
  congr 1
  unfold padL
  rw [List.append_assoc, List.append_assoc, hashN_app K hIni l _ j hj]

abbrev arr8 (h : Nat → Nat) : Array Value := #[.int .u32 (h 0 : Int), .int .u32 (h 1 : Int), .int .u32 (h 2 : Int), .int .u32 (h 3 : Int), .int .u32 (h 4 : Int), .int .u32 (h 5 : Int), .int .u32 (h 6 : Int), .int .u32 (h 7 : Int)]

/-- the sum lies in block g -/
def HB (w : World) (g : Nat) (h : Nat → Nat) : Prop := w.heap[g]? = some (.cells (arr8 h) 39 (0, 0))
theorem HB.cell {w : World} {g : Nat} {h : Nat → Nat} (hb : HB w g h) (i : Nat) : w.cell? ⟨g, i, none⟩ = (arr8 h)[i]? := cell_of_row w g i _ 39 (0, 0) hb
theorem HB.frozen {w : World} {g : Nat} {h : Nat → Nat} (hb : HB w g h) (i : Nat) : w.frozen? ⟨g, i, none⟩ = false := by unfold HB at hb; simp [World.frozen?, hb]
theorem HB.cells {w : World} {g : Nat} {h : Nat → Nat} (hb : HB w g h) : w.cell? ⟨g, 0, none⟩ = some (.int .u32 (h 0 : Int)) ∧ w.cell? ⟨g, 1, none⟩ = some (.int .u32 (h 1 : Int)) ∧ w.cell? ⟨g, 2, none⟩ = some (.int .u32 (h 2 : Int)) ∧ w.cell? ⟨g, 3, none⟩ = some (.int .u32 (h 3 : Int)) ∧
    w.cell? ⟨g, 4, none⟩ = some (.int .u32 (h 4 : Int)) ∧ w.cell? ⟨g, 5, none⟩ = some (.int .u32 (h 5 : Int)) ∧ w.cell? ⟨g, 6, none⟩ = some (.int .u32 (h 6 : Int)) ∧ w.cell? ⟨g, 7, none⟩ = some (.int .u32 (h 7 : Int)) :=
  ⟨hb.cell 0, hb.cell 1, hb.cell 2, hb.cell 3, hb.cell 4, hb.cell 5, hb.cell 6, hb.cell 7⟩
theorem HB.frozens {w : World} {g : Nat} {h : Nat → Nat} (hb : HB w g h) : w.frozen? ⟨g, 0, none⟩ = false ∧ w.frozen? ⟨g, 1, none⟩ = false ∧ w.frozen? ⟨g, 2, none⟩ = false ∧ w.frozen? ⟨g, 3, none⟩ = false ∧
    w.frozen? ⟨g, 4, none⟩ = false ∧ w.frozen? ⟨g, 5, none⟩ = false ∧ w.frozen? ⟨g, 6, none⟩ = false ∧ w.frozen? ⟨g, 7, none⟩ = false :=
  ⟨hb.frozen 0, hb.frozen 1, hb.frozen 2, hb.frozen 3, hb.frozen 4, hb.frozen 5, hb.frozen 6, hb.frozen 7⟩
theorem HB.lt {w : World} {g : Nat} {h : Nat → Nat} (hb : HB w g h) : g < w.heap.size := (Array.getElem?_eq_some_iff.1 hb).1
theorem HB.below {w w' : World} {g : Nat} {h : Nat → Nat} (hb : HB w g h) (hB : Below w.heap.size w w') : HB w' g h := (hB.block g hb.lt).trans hb

theorem HB.start (w : World) (o : Obj) : HB ((w.alloc o).alloc (.cells (arr8 hIni) 39)) (w.heap.size + 1) hIni := by
  unfold HB
  rw [show w.heap.size + 1 = (w.alloc o).heap.size by simp]
  exact heap_alloc_new _ _
theorem set_blk {w : World} {g : Nat} {cs : Array Value} {t : TypeId} (h : w.heap[g]? = some (.cells cs t (0, 0))) (i : Nat) (u : Value) : (w.setCell ⟨g, i, none⟩ u).heap[g]? = some (.cells (cs.setIfInBounds i u) t (0, 0)) := by
  simp [World.setCell, Array.getElem?_modify, h]
abbrev set8 (w : World) (g : Nat) (a b c d e f p q : Value) : World :=
  (((((((w.setCell ⟨g, 0, none⟩ a).setCell ⟨g, 1, none⟩ b).setCell ⟨g, 2, none⟩ c).setCell ⟨g, 3, none⟩ d).setCell ⟨g, 4, none⟩ e).setCell ⟨g, 5, none⟩ f).setCell ⟨g, 6, none⟩ p).setCell ⟨g, 7, none⟩ q
theorem HB.store {w : World} {g : Nat} {h : Nat → Nat} (hb : HB w g h) (h' : Nat → Nat) : HB (set8 w g (.int .u32 (h' 0 : Int)) (.int .u32 (h' 1 : Int)) (.int .u32 (h' 2 : Int)) (.int .u32 (h' 3 : Int)) (.int .u32 (h' 4 : Int)) (.int .u32 (h' 5 : Int)) (.int .u32 (h' 6 : Int)) (.int .u32 (h' 7 : Int))) g h' := by
  refine (set_blk (set_blk (set_blk (set_blk (set_blk (set_blk (set_blk (set_blk hb 0 _) 1 _) 2 _) 3 _) 4 _) 5 _) 6 _) 7 _).trans ?_
  simp [arr8]
theorem far8 {w : World} {g k : Nat} (hk : k ≠ g) (a b c d e f p q : Value) : (set8 w g a b c d e f p q).heap[k]? = w.heap[k]? := by
  unfold set8
  rw [Below.heap_setCell _ _ _ _ hk, Below.heap_setCell _ _ _ _ hk, Below.heap_setCell _ _ _ _ hk, Below.heap_setCell _ _ _ _ hk, Below.heap_setCell _ _ _ _ hk, Below.heap_setCell _ _ _ _ hk, Below.heap_setCell _ _ _ _ hk, Below.heap_setCell _ _ _ _ hk]
theorem below8 {B g : Nat} {w w' : World} (h : Below B w w') (hg : B ≤ g) (a b c d e f p q : Value) : Below B w (set8 w' g a b c d e f p q) :=
  (((((((h.setCell hg a).setCell hg b).setCell hg c).setCell hg d).setCell hg e).setCell hg f).setCell hg p).setCell hg q
theorem mix_ex (w : World) (K h : Nat → Nat) (A : Option Addr) (c : Nat) (l : List UInt8) (hl : l.length = 64) (hc : 64 ≤ c) (hT : Tab w K) (hr : Rd w w.heap.size A l) :
    Calls Tryd.prog 22 #[.agg (arr8 h), .slice A 64 c] w fun e w' => e = .returned (.agg (arr8 (mixS K h (packB l)))) ∧ Below w.heap.size w w' :=
  mix_calls w K h A c l hl hc hT hr

theorem Rd.sub {w : World} {B : Nat} {b o : Nat} {l : List UInt8} (h : Rd w B (some ⟨b, o, none⟩) l) (i n : Nat) : Rd w B (some ⟨b, o + i, none⟩) ((l.drop i).take n) := fun hne => by
  obtain ⟨b', o', e, hb, hc⟩ := h (by rintro rfl; simp at hne)
  cases e
  refine ⟨b, o + i, rfl, hb, fun k hk => ?_⟩
  have hk' : i + k < l.length := by simp at hk; omega
  rw [List.getElem_take, List.getElem_drop, Nat.add_assoc]
  exact hc (i + k) hk'

theorem Rd.tail {w : World} {B : Nat} {A : Option Addr} {l : List UInt8} (h : Rd w B A l) (k : Nat) : Rd w B (A.map fun x => x.add k) (l.drop k) := fun hne => by
  obtain ⟨b, o, rfl, hb, hc⟩ := h (by rintro rfl; simp at hne)
  have e : (⟨b, o, none⟩ : Addr).add k = ⟨b, o + k, none⟩ := by unfold Addr.add; split <;> simp_all
  refine ⟨b, o + k, by simp [e], hb, fun i hi => ?_⟩
  have hi' : k + i < l.length := by simp at hi; omega
  rw [List.getElem_drop, Nat.add_assoc]
  exact hc (k + i) hi'
theorem Own.empty (w : World) (base : Nat) (hb : base ≤ w.heap.size) : Own (w.alloc (.cells #[] 5)) base (.slice (some ⟨w.heap.size, 0, none⟩) 0 0) [] :=
  ⟨rfl, .inr ⟨w.heap.size, 0, #[], rfl, hb, heap_alloc_new w _, Nat.le_refl _, Nat.zero_le _, rfl, rfl⟩⟩

/-- the two blocks of the call's own, and all that was there -/
structure S8 (w wr : World) (h : Nat → Nat) : Prop where
  hb : HB wr (w.heap.size + 1) h
  rb : wr.heap[w.heap.size]? = some (.cells (Array.replicate 32 (.int .u8 0)) 24 (0, 0))
  below : Below w.heap.size w wr
theorem S8.size {w wr : World} {h : Nat → Nat} (s : S8 w wr h) : w.heap.size + 2 ≤ wr.heap.size := s.hb.lt
theorem S8.up {w wr w' : World} {h : Nat → Nat} (s : S8 w wr h) (hb : Below (w.heap.size + 2) wr w') : S8 w w' h :=
  ⟨(hb.block _ (by omega)).trans s.hb, (hb.block _ (by omega)).trans s.rb, s.below.trans (hb.mono (by omega))⟩
theorem S8.alloc {w wr : World} {h : Nat → Nat} (s : S8 w wr h) (o : Obj) : S8 w (wr.alloc o) h := s.up ((Below.refl _ _).alloc s.size o)

set_option maxHeartbeats 1000000 in
set_option maxRecDepth 100000 in
theorem sum_any (K : Nat → Nat) (A : Option Addr) (c : Nat) (l : List UInt8) (w : World) (hT : Tab w K) (hr : Rd w w.heap.size A l) (hl : l.length ≤ 1000000) (hlc : l.length ≤ c) :
    Calls Tryd.prog 8 #[.slice A l.length c] w fun e w' => e = .returned (.agg (Go.Ev.out32V (hashN K hIni (padL l) ((padL l).length / 64)))) ∧ Below w.heap.size w w' := by
  go_enter Tryd.func8, Tryd.ntmps8
  go_wp2
  go_loopw [5] (fun i wr => ∃ j : Nat, 64 * j ≤ l.length ∧ i = .int .i64 (64 * (j : Int)) ∧ HB wr (w.heap.size + 1) (hashN K hIni l j) ∧ wr.heap[w.heap.size]? = some (.cells (Array.replicate 32 (.int .u8 0)) 24 (0, 0)) ∧ Below w.heap.size w wr) (fun i _ => l.length - (intOf i).toNat)
  case atStart => exact ⟨0, by omega, rfl, HB.start _ _, (Below.heap_alloc _ _ _ (by simp)).trans (heap_alloc_new _ _), ((Below.refl _ _).alloc (Nat.le_refl _) _).alloc (by simp) _⟩
  case round =>
    obtain ⟨j, hj, rfl, hHB, hRB, hb⟩ := hrel
    have hz := hb.size
    have hTr : Tab wr K := hT.belowB hT.pos hb
    by_cases hlt : j < l.length / 64
    · obtain ⟨b, o, rfl, hbB, _⟩ := (hr.below hb).at_ (k := 64 * j) (by omega)
      have hsub := ((hr.below hb).more hz).sub (64 * j) 64
      have hlt1 : 64 * (j : Int) < (l.length : Int) / 64 * 64 := by omega
      have hlc1 : 64 * (j : Int) + 64 ≤ (c : Int) := by omega
      have hw64 : IntKind.i64.wrap (64 * (j : Int) + 64) = 64 * (j : Int) + 64 := IntWalk.i64_in _ (by omega)
      have hn0 : 0 ≤ 64 * (j : Int) := by omega
      have hn1 : 0 ≤ 64 * (j : Int) + 64 := by omega
      have ht1 : (64 * (j : Int)).toNat = 64 * j := by omega
      have ht2 : (64 * (j : Int) + 64).toNat = 64 * j + 64 := by omega
      have hle : 64 * (j : Int) ≤ 64 * (j : Int) + 64 := by omega
      have hle2 : 64 * j + 64 ≤ c := by omega
      have c0 := hHB.cell 0
      have c1 := hHB.cell 1
      have c2 := hHB.cell 2
      have c3 := hHB.cell 3
      have c4 := hHB.cell 4
      have c5 := hHB.cell 5
      have c6 := hHB.cell 6
      have c7 := hHB.cell 7
      go_wp2
      go_still_tail 6, (by kernel_rfl)
      change wpList _ _ _ _ _ wr.drew
      have hsub' : Rd wr.drew wr.drew.heap.size _ _ := hsub
      have hHB' : HB wr.drew _ _ := hHB
      have hRB' : wr.drew.heap[w.heap.size]? = _ := hRB
      have hTr' : Tab wr.drew K := hTr
      have hb' := hb.drew
      have hz' : w.heap.size ≤ wr.drew.heap.size := hz
      clear hsub hHB hRB hTr hb hz hw64 ht1 ht2 hn1 hle hle2 c0 c1 c2 c3 c4 c5 c6 c7
      generalize wr.drew = w2 at *
      have H64 := Lib.hid (show ((l.drop (64 * j)).take 64).length = 64 by simp; omega)
      have HC := Lib.hid (show 64 ≤ c - 64 * j by omega)
      go_wp2_with (go_at_call 22; refine (mix_ex _ K _ _ _ _ H64.out HC.out hTr' hsub').mono ?_; rintro e w3 ⟨rfl, hb3⟩; obtain ⟨c0, c1, c2, c3, c4, c5, c6, c7⟩ := (hHB'.below hb3).cells; obtain ⟨f0, f1, f2, f3, f4, f5, f6, f7⟩ := (hHB'.below hb3).frozens)
      go_roundw
      case rel => exact ⟨j + 1, by omega, by go_num, HB.store (hHB'.below hb3) (hashN K hIni l (j + 1)), (far8 (by omega) _ _ _ _ _ _ _ _).trans ((hb3.block _ (by have := hHB'.lt; omega)).trans hRB'), below8 (hb'.trans (hb3.mono hz')) (by omega) _ _ _ _ _ _ _ _⟩
      case measure => simp [intOf]; omega
    · have hj64 : l.length < 64 * j + 64 := by omega
      have hq : ¬ 64 * (j : Int) < (l.length : Int) / 64 * 64 := by omega
      have hq1 : (l.length : Int) / 64 * 64 ≤ (l.length : Int) := by omega
      have hq2 : ((l.length : Int) / 64 * 64).toNat = 64 * j := by omega
      have hlt2 := hHB.lt
      go_upto_region 7 with fail
      go_cut [6] (fun v wx => Own wx (w.heap.size + 2) v (l.drop (64 * j)) ∧ HB wx (w.heap.size + 1) (hashN K hIni l j) ∧ wx.heap[w.heap.size]? = some (.cells (Array.replicate 32 (.int .u8 0)) 24 (0, 0)) ∧ Below w.heap.size w wx)
      case first =>
        by_cases hcq0 : c = 64 * j
        · have hcq : (c = 64 * j) = True := eq_true hcq0
          have hd : l.drop (64 * j) = [] := List.drop_of_length_le (by omega)
          have HD := Lib.hid hd
          have HC := Lib.hid hcq0
          clear hd hcq0
          go_wp2_with (at_builtin; go_loud (refine apB rfl (.tmp 31) (.tmp 34) rfl (w.heap.size + 2) _ [] rfl (Own.empty _ _ (by omega)) 0 _ (l.length - 64 * j) (c - 64 * j) [] rfl ?c3 (Rd.nil _ _ _) ?c1 ?c2 ?_))
          case c3 => have := HC.out; first | omega | (simp; omega)
          case c2 => first | omega | (simp; omega)
          intro v1 w1 hown1 hb1 _ _
          clear hq hq1 hq2 hcq
          go_wp2
          go_meet
          exact ⟨by rw [HD.out]; exact hown1, (hb1.block _ (by omega)).trans ((Below.heap_alloc _ _ _ (by omega)).trans hHB), (hb1.block _ (by omega)).trans ((Below.heap_alloc _ _ _ (by omega)).trans hRB), (hb.alloc hz _).trans (hb1.mono (by omega))⟩
        · have htl := ((hr.below hb).more hz).tail (64 * j)
          go_wp2_with (at_builtin; go_loud (refine apB rfl (.tmp 31) (.tmp 34) rfl (w.heap.size + 2) _ [] rfl (Own.empty _ _ (by omega)) wr.heap.size _ (l.length - 64 * j) (c - 64 * j) (l.drop (64 * j)) rfl ?e3 ?e4 ?e1 ?e2 ?_))
          case e4 => exact htl.alloc (Nat.le_refl _) _
          case e1 => first | omega | (simp; omega)
          case e2 => first | omega | (simp; omega)
          intro v1 w1 hown1 hb1 _ _
          clear hq hq1 hq2 htl
          go_wp2
          go_meet
          exact ⟨by simpa using hown1, (hb1.block _ (by omega)).trans ((Below.heap_alloc _ _ _ (by omega)).trans hHB), (hb1.block _ (by omega)).trans ((Below.heap_alloc _ _ _ (by omega)).trans hRB), (hb.alloc hz _).trans (hb1.mono (by omega))⟩
      case rest =>
        obtain ⟨hown, hHBc, hRBc, hbc⟩ := hcut
        have hS : S8 w wc (hashN K hIni l j) := ⟨hHBc, hRBc, hbc⟩
        obtain ⟨m, hm⟩ : ∃ m, m = l.drop (64 * j) := ⟨_, rfl⟩
        have hml : m.length = l.length - 64 * j := by rw [hm]; simp
        rw [← hm] at hown
        have HM := Lib.hid hm
        have hml2 : m.length < 64 := by omega
        have HML := Lib.hid hml
        clear hm hml hHBc hRBc hbc hHB hRB hb hz hTr hlt hq hq1 hq2 hlt2 hlc
        go_wp2_with (at_builtin; refine apB rfl (.tmp 36) (.tmp 37) rfl (w.heap.size + 2) _ _ rfl (hown.alloc _) _ _ 1 1 [128] rfl rfl (Rd.one _ _) ?f1 ?f2 ?_)
        case f1 => first | omega | (simp; omega)
        case f2 => have := hS.size; first | omega | (simp; omega)
        intro v2 w2 hown2 hb2 _ _
        have hS2 := (hS.alloc _).up hb2
        clear hown hb2 hS
        obtain ⟨A2, c2, rfl, hc2, hm2, _⟩ := hown2.sl (n := m.length + 1) (by simp)
        have hown2' := hown2.cast (m := m ++ [128] ++ List.replicate 0 0) (by simp)
        clear hown2 hc2 hm2
        go_wp2
        go_loopw [6] (fun v wr => ∃ (k : Nat) (A' : Option Addr) (c' : Nat), k ≤ padZ m.length ∧ v = .slice A' (m.length + 1 + k) c' ∧ Own wr (w.heap.size + 2) v (m ++ [128] ++ List.replicate k 0) ∧ S8 w wr (hashN K hIni l j)) (fun v _ => m.length + 64 - lenV v)
        case atStart => exact ⟨0, A2, c2, Nat.zero_le _, rfl, hown2', hS2⟩
        case round =>
          obtain ⟨k, A', c', hk, rfl, hownz, hSz⟩ := hrel
          have hzz := hSz.size
          have hzl := padZ_lt m.length
          have hkk : k < 64 := by omega
          by_cases hd : (m.length + 1 + k) % 64 = 56
          · have hd' : (((m.length : Int) + 1 + k) % 64 != 56) = false := by simp; omega
            obtain rfl : k = padZ m.length := by
              have h2 := padZ_fits m.length
              omega
            clear hd hkk hk
            go_wp2
            go_loopw [6, 50] (fun v i wr => ∃ (i' : Nat) (A' : Option Addr) (c' : Nat), i' ≤ 8 ∧ i = .int .i64 i' ∧ v = .slice A' (m.length + 1 + padZ m.length + i') c' ∧ Own wr (w.heap.size + 2) v (m ++ [128] ++ List.replicate (padZ m.length) 0 ++ (be64 (8 * l.length)).take i') ∧ S8 w wr (hashN K hIni l j)) (fun _ i _ => 8 - (intOf i).toNat)
            case atStart => exact ⟨0, A', c', by omega, rfl, rfl, hownz.cast (by simp), hSz⟩
            case round =>
              obtain ⟨i', A5, c5, hi8, rfl, rfl, hown5, hS5⟩ := hrel
              have hz5 := hS5.size
              by_cases hlt : i' < 8
              · have hB : (l.length : Int) * 8 / 2 ^ (56 - 8 * i') % 256 = ((be8 (8 * l.length) i').toNat : Int) := by
                  rw [← be8_int]; congr 2; omega
                go_wp2_with (at_builtin; go_loud (refine apB rfl (.tmp 53) (.tmp 60) rfl (w.heap.size + 2) _ _ rfl (hown5.alloc _) _ _ 1 1 [be8 (8 * l.length) i'] rfl rfl (Rd.one _ _) ?h1 ?h2 ?_))
                case h1 => simp [be64]; omega
                case h2 => simp; omega
                intro v' w6 hown6 hb6 _ _
                have hown6' := hown6.cast (m := m ++ [128] ++ List.replicate (padZ m.length) 0 ++ (be64 (8 * l.length)).take (i' + 1)) (by rw [be64_take _ _ hlt]; simp)
                obtain ⟨A6, c6, rfl, hx6, hy6, _⟩ := hown6'.sl (n := m.length + 1 + padZ m.length + (i' + 1)) (by simp [be64]; omega)
                have hS6 := (hS5.alloc _).up hb6
                clear hown6 hb6 hown5 hx6 hy6 hB hS5
                go_wp2
                go_roundw
                case rel => exact ⟨i' + 1, A6, c6, by omega, by go_num, rfl, hown6', hS6⟩
                case measure => simp [intOf]; omega
              · obtain rfl : i' = 8 := by omega
                have hEl : (m ++ [128] ++ List.replicate (padZ m.length) 0 ++ (be64 (8 * l.length)).take 8).length = m.length + 1 + padZ m.length + 8 := by simp [be64]; omega
                have hN64 : (m.length + 1 + padZ m.length + 8) % 64 = 0 := by have := padZ_fits m.length; omega
                have hNpos : 0 < m.length + 1 + padZ m.length + 8 := by omega
                have hN200 : m.length + 1 + padZ m.length + 8 ≤ 200 := by omega
                generalize hE : m ++ [128] ++ List.replicate (padZ m.length) 0 ++ (be64 (8 * l.length)).take 8 = E at *
                have HE := Lib.hid hE
                clear hE
                generalize hN : m.length + 1 + padZ m.length + 8 = N at *
                have HEL := Lib.hid hEl
                clear hEl hN
                rcases hown5.form with ⟨_, h0⟩ | ⟨ge, cap5, hveq, hge, hgelt, h4, h5, _⟩
                · exfalso; have := HEL.out; rw [h0] at this; simp at this; omega
                injection hveq with hA5 hNE hc5
                clear hNE
                subst hA5
                subst hc5
                have hcap : N ≤ c5 := by have := HEL.out; omega
                have hcap2 : c5 ≤ 9223372036854775807 := h5
                clear h4 h5 hgelt
                generalize hh1 : hashN K hIni l j = h1 at *
                have HH1 := Lib.hid hh1
                clear hh1
                go_wp2
                go_loopw [9] (fun i wr => ∃ i2 : Nat, 64 * i2 ≤ N ∧ i = .int .i64 (64 * (i2 : Int)) ∧ Own wr (w.heap.size + 2) (.slice (some ⟨ge, 0, none⟩) N c5) E ∧ S8 w wr (hashN K h1 E i2)) (fun i _ => N - (intOf i).toNat)
                case atStart => exact ⟨0, by omega, rfl, hown5, hS5⟩
                case round =>
                  obtain ⟨i2, hi2, rfl, hownE, hSE⟩ := hrel
                  have hzE := hSE.size
                  have hTr : Tab wr K := hT.belowB hT.pos hSE.below
                  by_cases hlt2 : 64 * i2 < N
                  · have hge2 : 64 * i2 + 64 ≤ N := by omega
                    have hrdE : Rd wr wr.heap.size (some ⟨ge, 0, none⟩) E := by
                      obtain ⟨A', c', e, _, _, hrd⟩ := hownE.slice
                      injection e with e1 _ _
                      rw [e1]; exact hrd
                    have hsub := hrdE.sub (64 * i2) 64
                    rw [Nat.zero_add] at hsub
                    have hlt1 : 64 * (i2 : Int) < (N : Int) := by omega
                    have hlc1 : 64 * (i2 : Int) + 64 ≤ (c5 : Int) := by omega
                    have hw64 : IntKind.i64.wrap (64 * (i2 : Int) + 64) = 64 * (i2 : Int) + 64 := IntWalk.i64_in _ (by omega)
                    have hn0 : 0 ≤ 64 * (i2 : Int) := by omega
                    have hn1 : 0 ≤ 64 * (i2 : Int) + 64 := by omega
                    have ht1 : (64 * (i2 : Int)).toNat = 64 * i2 := by omega
                    have ht2 : (64 * (i2 : Int) + 64).toNat = 64 * i2 + 64 := by omega
                    have hle : 64 * (i2 : Int) ≤ 64 * (i2 : Int) + 64 := by omega
                    have hle2 : 64 * i2 + 64 ≤ c5 := by omega
                    obtain ⟨c0, c1, c2, c3, c4, c5', c6, c7⟩ := hSE.hb.cells
                    go_wp2
                    go_still_tail 6, (by kernel_rfl)
                    change wpList _ _ _ _ _ wr.drew
                    have hsub' : Rd wr.drew wr.drew.heap.size _ _ := hsub
                    have hSE' : S8 w wr.drew (hashN K h1 E i2) := ⟨hSE.hb, hSE.rb, hSE.below.drew⟩
                    have hownE' : Own wr.drew (w.heap.size + 2) (.slice (some ⟨ge, 0, none⟩) N c5) E := hownE
                    have hTr' : Tab wr.drew K := hTr
                    clear hsub hSE hownE hTr hzE hrdE hw64 ht1 ht2 hn1 hle hle2 c0 c1 c2 c3 c4 c5' c6 c7
                    generalize wr.drew = w2 at *
                    have H64 := Lib.hid (show ((E.drop (64 * i2)).take 64).length = 64 by have := HEL.out; simp; omega)
                    have HC := Lib.hid (show 64 ≤ c5 - 64 * i2 by omega)
                    go_wp2_with (go_at_call 22; go_loud ((with_reducible refine (mix_ex _ K (hashN K h1 E i2) (some ⟨ge, 64 * i2, none⟩) (c5 - 64 * i2) ((E.drop (64 * i2)).take 64) H64.out HC.out hTr' hsub').mono ?_)); rintro e w3 ⟨rfl, hb3⟩; obtain ⟨c0, c1, c2, c3, c4, c5', c6, c7⟩ := (hSE'.hb.below hb3).cells; obtain ⟨f0, f1, f2, f3, f4, f5, f6, f7⟩ := (hSE'.hb.below hb3).frozens)
                    have hS3 := hSE'.up (hb3.mono hSE'.size)
                    have hown3 := hownE'.belowS hb3
                    clear c0 c1 c2 c3 c4 c5' c6 c7 f0 f1 f2 f3 f4 f5 f6 f7
                    generalize hh : mixS K (hashN K h1 E i2) (packB ((E.drop (64 * i2)).take 64)) = h' at *
                    have HH : hashN K h1 E (i2 + 1) = h' := hh
                    clear hh
                    go_roundw
                    case rel =>
                      refine ⟨i2 + 1, by omega, by go_num, ?_, ?_⟩
                      · exact hown3.blocks (fun k hk => far8 (w := w3) (g := w.heap.size + 1) (k := k) (by have := hown3.blk k hk; omega) _ _ _ _ _ _ _ _)
                      · rw [HH]
                        exact ⟨HB.store hS3.hb h', (far8 (w := w3) (g := w.heap.size + 1) (k := w.heap.size) (by omega) _ _ _ _ _ _ _ _).trans hS3.rb, below8 (g := w.heap.size + 1) hS3.below (by omega) _ _ _ _ _ _ _ _⟩
                    case measure => simp [intOf]; omega
                  · obtain rfl : 64 * i2 = N := by omega
                    have hzE2 := hSE.size
                    have HOE := Lib.hid hownE
                    clear hownE
                    go_upto_region 21 with fail
                    go_cut [10] (fun v wx => ∃ g3, v = .pointer (some ⟨g3, 0, none⟩) ∧ w.heap.size + 2 ≤ g3 ∧ wx.heap[g3]? = some (.cells (Array.replicate 32 (.int .u8 0)) 24 (0, 0)) ∧ S8 w wx (hashN K h1 E i2))
                    case first =>
                      go_wp2
                      go_meet
                      exact ⟨_, rfl, hzE2, heap_alloc_new _ _, hSE.alloc _⟩
                    case rest =>
                      obtain ⟨g3, rfl, hg3, hbl3, hS3⟩ := hcut
                      apply ‹∀ (a : Act) (w : World), Code.wp Tryd.prog _ _ a w → _›
                      refine Go.Ev.wp_code_eq (c' := Go.Ev.d8 11) ?_ (by kernel_rfl)
                      refine Go.Ev.out8_wp (hashN K h1 E i2) rfl rfl rfl rfl hS3.rb hS3.hb hbl3 (by omega) (by omega) (by omega) ?_
                      intro a' w' hd hrun hbw
                      refine bodyPost_ret hrun hd ⟨?_, hS3.below.trans (hbw _ (Nat.le_refl _) (by omega) (by omega) (by have := hS3.size; omega))⟩
                      rw [← HH1.out, sum_law K l m E j i2 hj HM.out HE.out HEL.out]
          · have hd' : (((m.length : Int) + 1 + k) % 64 != 56) = true := by simp; omega
            have hfit : k < padZ m.length := by
              have := padZ_fits m.length
              rcases Nat.lt_or_ge k (padZ m.length) with h | h
              · exact h
              · have : k = padZ m.length := by omega
                exact absurd (by rw [this]; exact padZ_fits _) hd
            clear hd
            go_wp2_with (at_builtin; refine apB rfl (.tmp 43) (.tmp 44) rfl (w.heap.size + 2) _ _ rfl (hownz.alloc _) _ _ 1 1 [0] rfl rfl (Rd.one _ _) ?g1 ?g2 ?_)
            case g1 => simp; omega
            case g2 => simp; omega
            intro v' w3 hown3 hb3 _ _
            have hown3' := hown3.cast (m := m ++ [128] ++ List.replicate (k + 1) 0) (by simp [List.replicate_succ'])
            obtain ⟨A3, c3, rfl, hx3, hy3, _⟩ := hown3'.sl (n := m.length + 1 + (k + 1)) (by simp; omega)
            have hS3 := (hSz.alloc _).up hb3
            clear hown3 hb3 hownz hx3 hy3
            go_wp2
            go_roundw
            case rel => exact ⟨k + 1, A3, c3, by omega, rfl, hown3', hS3⟩
            case measure => simp [lenV]; omega

end Go.Proofs.YtiibpjahmhemmaaDoor
