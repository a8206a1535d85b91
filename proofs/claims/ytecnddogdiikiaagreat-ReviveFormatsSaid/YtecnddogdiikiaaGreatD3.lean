/-
  chancery/disk: Write, Sync: what each call does.
  chancery/disk: Read, where nothing is pending: what the call does.
-/
import Derived.Test.YtecnddogdiikiaaGreatD1
import Derived.Deep.AppendLies
import Derived.RangeFuncRecord
import Derived.RangeFuncLeaves
import Derived.TacticsIn
import Derived.BigFrameIn
import Derived.BigRegionIn
import Derived.Stop.RegionWithIn
set_option linter.unusedVariables false
set_option linter.unusedSimpArgs false
namespace Go.Proofs.YtecnddogdiikiaaGreat
open Go Go.RowKit
set_option maxRecDepth 100000
set_option maxHeartbeats 1600000

theorem Rd.kd {w w' : World} {B d db n : Nat} {A0 A : Option Addr} {n1 c1 : Nat} {ft wh : Int} {l : List UInt8} (h : Rd w B A l) (hB : B ≤ w.heap.size) (hD : DB w d db n (.slice A0 n1 c1) ft wh) (hK : Kp (· = d) w w') : Rd w' B A l := fun hl => by
  obtain ⟨b, o, e, hb, hc⟩ := h hl
  have hne : b ≠ d := by
    rintro rfl
    have h0 : 0 < l.length := by cases l with | nil => exact absurd rfl hl | cons => simp
    have hc0 := hc 0 h0
    rw [hD.cell] at hc0
    have : ∀ (i : Nat) (x : UInt8), (dV b db n (.slice A0 n1 c1) ft wh)[i]? = (some (u8V x) : Option Value) → False := by
      intro i x hx
      unfold dV at hx
      match i, hx with
      | 0, hx => simp at hx
      | 1, hx => simp at hx
      | 2, hx => simp at hx
      | 3, hx => simp at hx
      | 4, hx => simp at hx
      | 5, hx => simp at hx
      | 6, hx => simp at hx
      | k + 7, hx => simp at hx
    exact this _ _ hc0
  exact ⟨b, o, e, hb, fun k hk => by rw [← hc k hk]; simp [World.cell?, hK.block b (by omega) hne]⟩

theorem info98 : (Tryz.prog.info? 98).map (fun i => (i.zero, i.size, i.bytes)) = some (some (.agg #[.int .i64 0, .slice none 0 0]), 2, 32) := by kernel_rfl

theorem Dk.push {w w1 w2 : World} {n0 d db b : Nat} {pv pv' u : Value} {P : PD} {l : List UInt8} {us : List Value} (h : Dk w n0 d db pv P) (hus : us.length = P.ws.length) (hbk : ∀ k (h : k < us.length) (h' : k < P.ws.length), Bk w us[k] P.ws[k].2)
    (hb1 : Below w.heap.size w w1) (hu : Bk w1 u l) (own2 : w2.ownsRow n0 98 2 pv' (P.ws.length + 1) (wc P.ws us ++ [.int .i64 (b : Int), u])) (hg : w1.grownBy w2 pv.ownBlock) (hb : b < P.bs.length) (hl : l.length = 4096) :
    Dk (w2.setCell ⟨d, 2, none⟩ pv') n0 d db pv' { P with ws := P.ws ++ [(b, l)] } ∧ Fr n0 d db w (w2.setCell ⟨d, 2, none⟩ pv') := by
  have h1 := h.below hb1
  have hs2 : ∀ (g : Nat) (x : Array Value) (t : TypeId), w1.heap[g]? = some (.cells x t (0, 0)) → t ≠ 98 → w2.heap[g]? = w1.heap[g]? := by
    intro g x t hx ht
    refine hg.block g (hlt hx) fun e => ?_
    obtain ⟨_, y, hy⟩ := h1.pend.blk e.symm
    exact tag_ne hx hy ht rfl
  have hd2 : w2.heap[d]? = some (.cells (dV d db P.bs.length pv P.ft P.wh) 93 (0, 0)) := (hs2 _ _ _ h1.box (by decide)).trans h1.box
  have hs3 : ∀ (g : Nat) (x : Array Value) (t : TypeId), w2.heap[g]? = some (.cells x t (0, 0)) → t ≠ 93 → (w2.setCell ⟨d, 2, none⟩ pv').heap[g]? = w2.heap[g]? := fun g x t hx ht => Below.heap_setCell w2 _ _ g (tag_ne hx hd2 ht)
  have hs : ∀ (g : Nat) (x : Array Value) (t : TypeId), w1.heap[g]? = some (.cells x t (0, 0)) → t ≠ 98 → t ≠ 93 → (w2.setCell ⟨d, 2, none⟩ pv').heap[g]? = w1.heap[g]? := fun g x t hx h98 h93 => by
    have := hs2 g x t hx h98
    exact (hs3 g x t (this.trans hx) h93).trans this
  obtain ⟨cs, r1, r2, r3⟩ := h1.row
  refine ⟨⟨?_, ⟨cs, (hs _ _ _ r1 (by decide) (by decide)).trans r1, r2, fun k hk => by obtain ⟨v, a, b⟩ := r3 k hk; exact ⟨v, a, b.same fun g x hg => hs g _ _ hg (by decide) (by decide)⟩⟩, ⟨us ++ [u], ?_, ?_, ?_⟩, ?_, ?_⟩, ?_⟩
  · unfold DB
    rw [heap_setCell_same w2 d 2 _ _ _ hd2]
    rfl
  · simp [hus]
  · have e1 : (P.ws ++ [(b, l)]).length = P.ws.length + 1 := by simp
    simp only [e1]
    rw [wc_snoc _ _ _ _ hus]
    exact ownsRow_same own2 fun g x hx => hs3 g x _ hx (by decide)
  · intro k hk hk'
    by_cases hlt' : k < us.length
    · rw [List.getElem_append_left hlt']
      have e2 : (P.ws ++ [(b, l)])[k] = P.ws[k] := List.getElem_append_left (by omega)
      simp only [e2]
      exact ((hbk k hlt' (by omega)).same fun g x hx => hb1.block g (hlt hx)).same fun g x hx => hs g x _ hx (by decide) (by decide)
    · have hk2 : k = us.length := by simp at hk; omega
      subst hk2
      have e3 : (us ++ [u])[us.length] = u := by simp
      have e4 : (P.ws ++ [(b, l)])[us.length]'hk' = (b, l) := by simp [hus]
      rw [e3]
      simp only [e4]
      exact hu.same fun g x hx => hs g x _ hx (by decide) (by decide)
  · refine ⟨h.ok.lens, fun x hx => ?_, h.ok.lo, h.ok.hi⟩
    rcases List.mem_append.1 hx with hx | hx
    · exact h.ok.wlens x hx
    · rw [List.mem_singleton.1 hx]; exact ⟨hb, hl⟩
  · have := h.base; have := hb1.size; have := hg.size; simp; omega
  · refine (Fr.below hb1).then (Kp.trans (b := w2) (S := fun k => k = d ∨ k = db ∨ n0 ≤ k) (T := fun k => k = d) ⟨hg.os, hg.tape, hg.output, hg.size, fun k hk hn => hg.block k hk fun e => ?_⟩ (Kp.setCell (S := (· = d)) w2 (p := ⟨d, 2, none⟩) rfl _) fun k _ hk => .inl hk)
    obtain ⟨hn0, _⟩ := h1.pend.blk e.symm
    exact hn (.inr (.inr hn0))

theorem push_own {w w2 : World} {n0 n : Nat} {v : Value} {xs : List Value} (h : w.ownsRow n0 98 2 v n xs) (hb : Below w.heap.size w w2) (o : Obj) : (w2.alloc o).ownsRow n0 98 2 v n xs :=
  ownsRow_same (ownsRow_same h fun g x hx => hb.block g (hlt hx)) fun g x hx => Below.heap_alloc w2 o g (hlt hx)
theorem news2 (w : World) (x y : Value) : ∀ (j : Nat) (u : Value), [x, y][j]? = some u → (w.alloc (.cells #[x, y] 98)).cell? ((⟨w.heap.size, 0, none⟩ : Addr).add j) = some u := fun j u hj => by
  have : ((⟨w.heap.size, 0, none⟩ : Addr).add j) = ⟨w.heap.size, j, none⟩ := by unfold Addr.add; split <;> simp_all
  rw [this, World.cell?_alloc_at _ _ _ _ rfl]
  simpa using hj
theorem cell_d {w w2 w4 : World} {n0 d db : Nat} {pv : Value} {P : PD} {o : Obj} (hg : (w2.alloc o).grownBy w4 pv.ownBlock) (h : Dk w n0 d db pv P) (hb : Below w.heap.size w w2) : w4.cell? ⟨d, 2, none⟩ = w2.cell? ⟨d, 2, none⟩ := by
  have h1 := h.below hb
  have e1 : (w2.alloc o).heap[d]? = w2.heap[d]? := Below.heap_alloc w2 o d h1.box.lt
  have e2 : w4.heap[d]? = (w2.alloc o).heap[d]? := hg.block d (by have := h1.box.lt; simp; omega) fun e => by
    obtain ⟨_, y, hy⟩ := h1.pend.blk e.symm
    exact tag_ne h1.box hy (by decide) rfl
  simp [World.cell?, e2, e1]
theorem frozen_d {w w2 w4 : World} {n0 d db : Nat} {pv : Value} {P : PD} {o : Obj} (hg : (w2.alloc o).grownBy w4 pv.ownBlock) (h : Dk w n0 d db pv P) (hb : Below w.heap.size w w2) : w4.frozen? ⟨d, 2, none⟩ = false := by
  have h1 := h.below hb
  have e1 : (w2.alloc o).heap[d]? = w2.heap[d]? := Below.heap_alloc w2 o d h1.box.lt
  have e2 : w4.heap[d]? = (w2.alloc o).heap[d]? := hg.block d (by have := h1.box.lt; simp; omega) fun e => by
    obtain ⟨_, y, hy⟩ := h1.pend.blk e.symm
    exact tag_ne h1.box hy (by decide) rfl
  exact frozenD ((e2.trans e1).trans h1.box) 2
theorem one2 (b : Int) (g n c : Nat) : ∀ u ∈ [Value.int .i64 b, .slice (some ⟨g, 0, none⟩) n c], u.oneCell' = true := by
  intro u hu
  simp at hu
  rcases hu with rfl | rfl <;> rfl

theorem put_ok {P : PD} {b : Nat} {l : List UInt8} (h : opE P.ft P.wh = 0) : P.put b l = ({ P with ft := opF P.ft, ws := P.ws ++ [(b, l)] }, 0) := if_pos h
theorem put_no {P : PD} {b : Nat} {l : List UInt8} (h : opE P.ft P.wh ≠ 0) : P.put b l = (P.stop, opE P.ft P.wh) := if_neg h

theorem write_any {w : World} {n0 d db : Nat} {pv : Value} {P : PD} (h : Dk w n0 d db pv P) (b : Nat) (hb : b < P.bs.length) (A : Option Addr) (c : Nat) (l : List UInt8) (hr : Rd w w.heap.size A l) (hl : l.length = 4096) (hw : P.ws.length ≤ 100) :
    Calls Tryz.prog 10 #[.pointer (some ⟨d, 0, none⟩), .int .i64 (b : Int), .slice A 4096 c] w fun e w' => e = .returned (.int .i64 (P.put b l).2) ∧ (∃ pv', Dk w' n0 d db pv' (P.put b l).1) ∧ Fr n0 d db w w' := by
  obtain ⟨A0, c0, rfl⟩ := h.pend.form
  have hA := asked_any h.box b hb
  have hO := operation_any h.box h.ok.lo h.ok.hi
  by_cases he : opE P.ft P.wh = 0
  · rw [put_ok he]
    rw [he] at hO
    have HL := Lib.hid hl
    clear hl
    go_enter Tryz.func10, Tryz.ntmps10
    go_wp2_with (first
      | (go_at_call 35; refine hA.mono ?_; rintro e w ⟨rfl, rfl⟩)
      | (go_at_call 38; refine hO.mono ?_; rintro e w1 ⟨rfl, hD, hK⟩))
    have hr1 := (hr.kd (Nat.le_refl _) h.box hK).more hK.size
    have h1 := h.turn hD hK (opF_lo h.ok.lo) (opF_hi h.ok.hi)
    obtain ⟨us, hus, hown, hbk⟩ := h1.pend
    obtain ⟨W0, hW0⟩ : ∃ W0, W0 = w1.drew := ⟨_, rfl⟩
    have h2 : Dk W0 n0 d db (.slice A0 P.ws.length c0) { P with ft := opF P.ft } := by rw [hW0]; exact h1.below ⟨rfl, rfl, rfl, Nat.le_refl _, fun _ _ => rfl⟩
    have hown2 : W0.ownsRow n0 98 2 (.slice A0 P.ws.length c0) P.ws.length (wc P.ws us) := by rw [hW0]; exact hown
    have hbk2 : ∀ k (h : k < us.length) (h' : k < P.ws.length), Bk W0 us[k] P.ws[k].2 := by rw [hW0]; exact hbk
    have W := whole_any A c 4096 l W0 (by rw [hW0]; exact hr1) HL.out.symm (by have := HL.out; omega) (fun e => by have := HL.out; simp [e] at this)
    have HF : Fr n0 d db w W0 := by rw [hW0]; exact (Fr.of_d hK).then (Kp.of ⟨rfl, rfl, rfl, Nat.le_refl _, fun _ _ => rfl⟩)
    have c2 := h2.box.cells.2.2.1
    have z2 := h2.box.lt
    have hbase := h2.base
    clear hr hr1 hA hO h1 hown hbk hD hK
    rw [hW0] at W c2
    obtain ⟨i98, hi98, hz98, hs98, hb98⟩ := info_parts info98
    go_region_law
      (first
        | (go_simp; go_at_call 37; refine W.mono ?_; rintro e w2 ⟨⟨g, rfl, hO2⟩, hb2⟩; rw [← hW0] at hb2; have c3 := (hb2.cell (p := ⟨d, 2, none⟩) z2).trans (hW0 ▸ c2); have z3 := Nat.lt_of_lt_of_le z2 hb2.size; have c3' := fun o => (World.cell?_alloc_lt w2 o ⟨d, 2, none⟩ z3).trans c3)
        | (refine step_append_lies _ rfl (.tmp 27) (.tmp 32) 86 rfl n0 98 i98 _ 2 32 Tryz.underlying86 hi98 hz98 hs98 hb98 rfl (by decide) (.slice A0 P.ws.length c0) P.ws.length (wc P.ws us) rfl ?_ ⟨w2.heap.size, 0, none⟩ 1 1 [.int .i64 (b : Int), .slice (some ⟨g, 0, none⟩) 4096 4096] rfl rfl ?_ ?_ (by decide) ?_ ?_ ?_ _ rfl ?_
           · exact push_own hown2 hb2 _
           · exact news2 _ _ _
           · exact one2 _ _ _ _
           · exact Nat.le_trans (show P.ws.length + 1 ≤ 1000 by omega) (by decide)
           · omega
           · exact Nat.le_trans hbase (Nat.le_trans hb2.size (by rw [World.size_alloc]; exact Nat.le_succ _))
           intro g2 cap2 w4 hown4 hgrow hat hlt4
           have c4 := (cell_d hgrow h2 hb2).trans c3
           have f4 := frozen_d hgrow h2 hb2))
    all_goals
      have hsz : W0.heap.size ≤ w2.heap.size := hb2.size
      have hbk3 : Bk w2 (.slice (some ⟨g, 0, none⟩) 4096 4096) l := by
        have := Bk.of_own hO2 (pad_len (Nat.le_of_eq HL.out))
        rwa [pad_full HL.out] at this
      have X := h2.push (b := b) (l := l) hus hbk2 (hb2.alloc hsz _) (hbk3.same fun g' x hx => Below.heap_alloc w2 _ g' (hlt hx)) hown4 hgrow hb HL.out
      go_wp2
      go_ret
      exact ⟨rfl, ⟨_, X.1⟩, HF.then X.2⟩
  · rw [put_no he]
    go_enter Tryz.func10, Tryz.ntmps10
    go_wp2_with (first
      | (go_at_call 35; refine hA.mono ?_; rintro e w ⟨rfl, rfl⟩)
      | (go_at_call 38; refine hO.mono ?_; rintro e w1 ⟨rfl, hD, hK⟩))
    all_goals first | omega | skip
    go_ret
    exact ⟨rfl, ⟨_, h.turn hD hK (opF_lo h.ok.lo) (opF_hi h.ok.hi)⟩, Fr.of_d hK⟩

theorem Dk.setB {w : World} {n0 d db b : Nat} {pv u : Value} {P : PD} {l : List UInt8} (h : Dk w n0 d db pv P) (hu : Bk w u l) (hb : b < P.bs.length) :
    Dk (w.setCell ⟨db, b, none⟩ u) n0 d db pv { P with bs := P.bs.set b l } ∧ Fr n0 d db w (w.setCell ⟨db, b, none⟩ u) := by
  obtain ⟨cs, r1, r2, r3⟩ := h.row
  have hs : ∀ (g : Nat) (x : Array Value) (t : TypeId), w.heap[g]? = some (.cells x t (0, 0)) → t ≠ 37 → (w.setCell ⟨db, b, none⟩ u).heap[g]? = w.heap[g]? := fun g x t hx ht => Below.heap_setCell w _ _ g (tag_ne hx r1 ht)
  have hl : l.length = 4096 := by obtain ⟨_, _, _, hl⟩ := hu; exact hl
  refine ⟨⟨?_, ⟨cs.setIfInBounds b u, ?_, by simp [r2], ?_⟩, h.pend.same (fun g x hg => hs g _ _ hg (by decide)) fun g x hg => hs g _ _ hg (by decide), ?_, ?_⟩, Kp.setCell (S := fun k => k = d ∨ k = db ∨ n0 ≤ k) w (p := ⟨db, b, none⟩) (.inr (.inl rfl)) _⟩
  · show DB _ d db (P.bs.set b l).length pv P.ft P.wh
    rw [List.length_set]
    exact (hs _ _ _ h.box (by decide)).trans h.box
  · rw [heap_setCell_same w db b _ _ _ r1]
  · intro k hk
    have hk' : k < P.bs.length := by simpa using hk
    by_cases e : b = k
    · subst e
      refine ⟨u, by simp [r2, hb], ?_⟩
      have : (P.bs.set b l)[b] = l := by simp
      show Db _ u (P.bs.set b l)[b]
      rw [this]
      exact .inl (hu.same fun g x hg => hs g _ _ hg (by decide))
    · obtain ⟨v, a, c⟩ := r3 k hk'
      refine ⟨v, by rw [Array.getElem?_setIfInBounds_ne e]; exact a, ?_⟩
      have : (P.bs.set b l)[k]'hk = P.bs[k] := List.getElem_set_ne e _
      show Db _ v (P.bs.set b l)[k]
      rw [this]
      exact c.same fun g x hg => hs g _ _ hg (by decide)
  · refine ⟨fun x hx => ?_, fun x hx => ?_, h.ok.lo, h.ok.hi⟩
    · rcases List.mem_or_eq_of_mem_set hx with hx | rfl
      · exact h.ok.lens x hx
      · exact hl
    · have := h.ok.wlens x hx
      simpa using this
  · have := h.base; simpa using this

theorem sync_ok {P : PD} (h : opE P.ft P.wh = 0) : P.sync = ({ P with ft := opF P.ft, bs := carry P.bs P.ws, ws := [] }, 0) := if_pos h
theorem sync_no {P : PD} (h : opE P.ft P.wh ≠ 0) : P.sync = (P.stop, opE P.ft P.wh) := if_neg h

theorem Pn.atN {w : World} {n0 n c0 : Nat} {A0 : Option Addr} {ws : List (Nat × List UInt8)} (h : Pn w n0 (.slice A0 n c0) ws) {k : Nat} (hk : k < ws.length) : ∃ g u, A0 = some ⟨g, 0, none⟩ ∧ w.cell? ⟨g, k * 2, none⟩ = some (.int .i64 (ws[k].1 : Int)) ∧ w.cell? ⟨g, k * 2 + 1, none⟩ = some u ∧ Bk w u ws[k].2 := by
  obtain ⟨g, c, u, e, a, b, d⟩ := h.at_ hk
  cases e
  exact ⟨g, u, rfl, a, b, d⟩
/-- pending is set to nil -/
theorem Dk.drop {w : World} {n0 d db : Nat} {pv : Value} {P : PD} (h : Dk w n0 d db pv P) :
    Dk (w.setCell ⟨d, 2, none⟩ (.slice none 0 0)) n0 d db (.slice none 0 0) { P with ws := [] } ∧ Fr n0 d db w (w.setCell ⟨d, 2, none⟩ (.slice none 0 0)) := by
  obtain ⟨cs, r1, r2, r3⟩ := h.row
  have hs : ∀ (g : Nat) (x : Array Value) (t : TypeId), w.heap[g]? = some (.cells x t (0, 0)) → t ≠ 93 → (w.setCell ⟨d, 2, none⟩ (.slice none 0 0)).heap[g]? = w.heap[g]? := fun g x t hx ht => Below.heap_setCell w _ _ g (tag_ne hx h.box ht)
  refine ⟨⟨?_, ⟨cs, (hs _ _ _ r1 (by decide)).trans r1, r2, fun k hk => by obtain ⟨v, a, c⟩ := r3 k hk; exact ⟨v, a, c.same fun g x hg => hs g _ _ hg (by decide)⟩⟩, Pn.nil _ _, ⟨h.ok.lens, fun x hx => (by cases hx), h.ok.lo, h.ok.hi⟩, by have := h.base; simpa using this⟩, Kp.setCell (S := fun k => k = d ∨ k = db ∨ n0 ≤ k) w (p := ⟨d, 2, none⟩) (.inl rfl) _⟩
  have hb := h.box
  unfold DB at hb ⊢
  rw [heap_setCell_same w d 2 _ _ _ hb]
  rfl

theorem sync_any {w : World} {n0 d db : Nat} {pv : Value} {P : PD} (h : Dk w n0 d db pv P) (hw : P.ws.length ≤ 100) :
    Calls Tryz.prog 12 #[.pointer (some ⟨d, 0, none⟩)] w fun e w' => e = .returned (.int .i64 P.sync.2) ∧ (∃ pv', Dk w' n0 d db pv' P.sync.1 ∧ (P.sync.2 = 0 → pv' = .slice none 0 0)) ∧ Fr n0 d db w w' := by
  have hA := made_any h.box
  have hO := operation_any h.box h.ok.lo h.ok.hi
  by_cases he : opE P.ft P.wh = 0
  · rw [sync_ok he]
    rw [he] at hO
    obtain ⟨n, hn⟩ : ∃ n, n = P.ws.length := ⟨_, rfl⟩
    have HN := Lib.hid hn
    obtain ⟨A0, c0, hpv⟩ : ∃ A0 c0, pv = .slice A0 n c0 := by rw [hn]; exact h.pend.form
    subst hpv
    have hn2 : n ≤ 100 := by omega
    clear hn
    go_enter Tryz.func12, Tryz.ntmps12
    go_wp2_with (first
      | (go_at_call 39; refine hA.mono ?_; rintro e w ⟨rfl, rfl⟩)
      | (go_at_call 38; refine hO.mono ?_; rintro e w1 ⟨rfl, hD, hK⟩; have c2 := hD.cells.2.2.1))
    have h1 := h.turn hD hK (opF_lo h.ok.lo) (opF_hi h.ok.hi)
    have HF : Fr n0 d db w w1 := Fr.of_d hK
    clear hA hO hD hK h
    go_loopw [19] (fun i wr => ∃ k : Nat, k ≤ n ∧ i = .int .i64 k ∧ Dk wr n0 d db (.slice A0 n c0) { P with ft := opF P.ft, bs := carry P.bs (P.ws.take k) } ∧ Fr n0 d db w1 wr) (fun i _ => n - (intOf i).toNat)
    case atStart => exact ⟨0, by omega, rfl, h1, Kp.refl _ _⟩
    case round =>
      obtain ⟨k, hk, rfl, hk1, hF1⟩ := hrel
      by_cases hlt' : k < n
      · have hkl : k < P.ws.length := by have := HN.out; omega
        have hd1 : decide (k < n) = true := by simp [hlt']
        obtain ⟨g, u, rfl, q0, q1, qb⟩ := hk1.pend.atN hkl
        have qb0 := qb
        obtain ⟨gb, rfl, -, -⟩ := qb0
        have hbl : P.ws[k].1 < (carry P.bs (P.ws.take k)).length := by rw [carry_len]; exact (h1.ok.wlens _ (List.getElem_mem hkl)).1
        obtain ⟨b0, hb0⟩ : ∃ b0, b0 = P.ws[k].1 := ⟨_, rfl⟩
        rw [← hb0] at hbl
        obtain ⟨-, c1, -⟩ := hk1.box.cells
        simp only at c1 q0 q1
        rw [← hb0] at q0
        have HB := Lib.hid hb0
        clear hb0
        obtain ⟨m, hm⟩ : ∃ m, m = (carry P.bs (P.ws.take k)).length := ⟨_, rfl⟩
        rw [← hm] at c1 hbl
        have HM := Lib.hid hm
        clear hm
        go_wp2
        obtain ⟨W1, hW1⟩ : ∃ W1, (wr.alloc (.cells #[.int .i64 (b0 : Int), .slice (some ⟨gb, 0, none⟩) 4096 4096] 98)).drew = W1 := ⟨_, rfl⟩
        have hz1 : d < wr.heap.size := hk1.box.lt
        have c1' : W1.cell? ⟨d, 1, none⟩ = some (.slice (some ⟨db, 0, none⟩) m m) := by rw [← hW1]; exact (World.cell?_alloc_lt wr _ ⟨d, 1, none⟩ hz1).trans c1
        have t0 : W1.cell? ⟨wr.heap.size, 0, none⟩ = some (.int .i64 (b0 : Int)) := by rw [← hW1]; exact World.cell?_alloc_at _ _ _ _ rfl
        have t1 : W1.cell? ⟨wr.heap.size, 1, none⟩ = some (.slice (some ⟨gb, 0, none⟩) 4096 4096) := by rw [← hW1]; exact World.cell?_alloc_at _ _ _ _ rfl
        have hb3 : Below wr.heap.size wr W1 := by rw [← hW1]; exact ((Below.refl _ _).alloc (Nat.le_refl _) _).trans ⟨rfl, rfl, rfl, Nat.le_refl _, fun _ _ => rfl⟩
        have hk2 := hk1.below hb3
        obtain ⟨cs, q1, q2, q3⟩ := hk2.row
        have fz : W1.frozen? ⟨db, b0, none⟩ = false := frozenD q1 b0
        obtain ⟨v0, hv0, -⟩ := q3 b0 (by show b0 < (carry P.bs (P.ws.take k)).length; rw [← HM.out]; exact hbl)
        have cv : W1.cell? ⟨db, b0, none⟩ = some v0 := (cellD q1 b0).trans hv0
        have X := hk2.setB (b := b0) (qb.same fun g x hx => hb3.block g (hlt hx)) (by rw [← HM.out]; exact hbl)
        clear q1 q2 q3 c1 q0
        refine stillW 9 (by kernel_rfl) (by kernel_rfl) W1 hW1 ?_
        simp only [List.take_succ_cons, List.take_zero, List.drop_succ_cons, List.drop_zero]
        repeat still_step
        refine wpStill_nil ?_
        go_wp2
        refine ⟨⟨k + 1, by omega, by go_num, ?_, hF1.then ((Fr.below hb3).then X.2)⟩, by simp [intOf] <;> omega⟩
        have Y := X.1
        simp only at Y
        have e9 : (carry P.bs (P.ws.take k)).set b0 P.ws[k].2 = carry P.bs (P.ws.take (k + 1)) := by rw [HB.out, carry_take hkl]
        rw [e9] at Y
        exact Y
      · obtain rfl : k = n := by omega
        have HK := Lib.hid hk
        have X := hk1.drop
        have hz := hk1.box.frozen 2
        have c2' := hk1.box.cells.2.2.1
        go_wp2
        go_ret
        have Y := X.1
        rw [List.take_of_length_le (by have := HN.out; omega)] at Y
        refine ⟨rfl, ?_, HF.then (hF1.then X.2)⟩
        first | exact ⟨_, Y, fun _ => rfl⟩ | exact Y
  · rw [sync_no he]
    go_enter Tryz.func12, Tryz.ntmps12
    go_wp2_with (first
      | (go_at_call 39; refine hA.mono ?_; rintro e w ⟨rfl, rfl⟩)
      | (go_at_call 38; refine hO.mono ?_; rintro e w1 ⟨rfl, hD, hK⟩))
    all_goals first | omega | skip
    go_ret
    exact ⟨rfl, ⟨_, h.turn hD hK (opF_lo h.ok.lo) (opF_hi h.ok.hi), fun e => absurd e he⟩, Fr.of_d hK⟩

end Go.Proofs.YtecnddogdiikiaaGreat

namespace Go.Proofs.YtecnddogdiikiaaGreat
open Go Go.RowKit
set_option maxRecDepth 100000
set_option maxHeartbeats 1600000

theorem backward_any (A : Option Addr) (n c : Nat) (w : World) : Calls Tryz.prog 36 #[.slice A n c] w fun e w' => e = .returned (.func (.func 80) #[] #[.pointer (some ⟨w.heap.size, 0, none⟩)]) ∧ w' = w.alloc (.cells #[.slice A n c] 86) := by
  go_enter Tryz.func36, Tryz.ntmps36
  go_wp2
  go_ret
  exact ⟨rfl, rfl⟩

theorem none_back (y : Value) (B c : Nat) (A : Option Addr) (w : World) (h : w.cell? ⟨B, 0, none⟩ = some (.slice A 0 c)) : Calls Tryz.prog 80 #[y, .pointer (some ⟨B, 0, none⟩)] w fun e w' => e = .returned (.tuple #[]) ∧ w' = w := by
  go_enter Tryz.func80, Tryz.ntmps80
  go_wp2
  go_loopw [3] (fun i wr => i = .int .i64 (-1) ∧ wr = w) (fun _ _ => 0)
  case atStart => exact ⟨rfl, rfl⟩
  case round =>
    obtain ⟨rfl, rfl⟩ := hrel
    go_wp2
    go_end0
    exact ⟨rfl, rfl⟩

/-- a range over an iterator that hands out nothing -/
theorem range_none {P : Program} {g : Operand} {ps : Array Tmp} {assign body : Code} {Q : Exit → Act → World → Prop} {a : Act} {w : World} {gf : Nat} {lb : Array Value} (hg : a.eval g = .func (.func gf) #[] lb)
    (eg : ∀ args w, (callFunc gf args).run P w = .ok (.enter gf args) w)
    (hcall : ∀ (l : Nat) (W1 : World), Below w.heap.size w W1 → Calls P gf (#[.func (.yield l) #[] #[]] ++ lb) W1 fun e W2 => (∃ v, e = .returned v) ∧ W2 = W1)
    (h : ∀ (D : Nat) (W3 : World), Below w.heap.size w W3 → W3.heap[D]? = some (.deferred (some [])) → w.heap.size ≤ D → Q .normal { a with defers := { target := .collected D, args := #[] } :: a.defers } W3) :
    (Code.rangeFunc g ps assign body).wp P Q a w := by
  refine (wpIn_wide (n := 5)).1 ?_
  refine wpIn_rangeFunc fun fn hfn => ?_
  obtain ⟨rec, hrec⟩ : ∃ rec : LoopState → Option Code → Loop, rec = fun st pe => { state := st, pending := pe, fn, tmps := a.tmps, params := ps, assign, body, defers := w.heap.size } := ⟨_, rfl⟩
  obtain ⟨W1, hW1⟩ : ∃ W1, (w.alloc (.deferred (some []))).alloc (.loop (rec .ready none)) = W1 := ⟨_, rfl⟩
  have hL1 : W1.heap[w.heap.size + 1]? = some (.loop (rec .ready none)) := by
    have := World.alloc_heap_new (w.alloc (.deferred (some []))) (.loop (rec .ready none))
    rw [World.size_alloc, hW1] at this
    exact this
  have hK1 : W1.heap[w.heap.size]? = some (.deferred (some [])) := by
    have := (Below.heap_alloc (w.alloc (.deferred (some []))) (.loop (rec .ready none)) w.heap.size (by simp)).trans (World.alloc_heap_new w _)
    rw [hW1] at this
    exact this
  have hb1 : Below w.heap.size w W1 := by rw [← hW1]; exact ((Below.refl _ w).alloc (Nat.le_refl _) _).alloc (by simp) _
  refine ⟨w.heap.size + 1, [{ target := .collected w.heap.size, args := #[] }], W1, { target := .fn (.func gf) lb, args := #[.func (.yield (w.heap.size + 1)) #[] #[]] }, W1, gf,
    #[.func (.yield (w.heap.size + 1)) #[] #[]] ++ lb, W1, ?_, ?_, ?_, ?_, fun h => by simp [Fence.wide] at h, ?_⟩
  · rw [← hW1, hrec]; exact run_enterLoop_outer _ _ _ _ _
  · simp only [resolve, hg]; simp [go_sem]
  · intro f' hf'; trivial
  · simp [invoke, go_sem, eg]
  refine callsIn_wide.2 ((hcall _ W1 hb1).mono ?_)
  rintro e W2 ⟨⟨v, rfl⟩, rfl⟩
  have hend := run_endLoop (P := P) hL1 (by rw [hrec]; simp)
  refine ⟨none, _, by rw [hend, hrec], ?_⟩
  refine h _ _ ?_ ((World.putObj_heap_other (by omega)).trans hK1) (Nat.le_refl _)
  refine ⟨hb1.os, hb1.tape, hb1.output, by have := hb1.size; simpa [World.putObj] using this, fun k hk => (World.putObj_heap_other (by omega)).trans (hb1.block k hk)⟩

theorem agg37 : Go.Ev.aggN Tryz.prog 37 = some none := by kernel_rfl
theorem agg23 : Go.Ev.aggN Tryz.prog 23 = some none := by kernel_rfl
theorem ret_cc {fn : Func} (h : fn.results = #[.cell 4 37, .cell 5 23]) {tmps : Array Value} {w : World} {x y : Nat} {u v : Value} (h1 : tmps.getD 4 undef = .pointer (some ⟨x, 0, none⟩)) (h2 : tmps.getD 5 undef = .pointer (some ⟨y, 0, none⟩))
    (c1 : w.cell? ⟨x, 0, none⟩ = some u) (c2 : w.cell? ⟨y, 0, none⟩ = some v) : (results fn tmps).run Tryz.prog w = .ok (.tuple #[u, v]) w := by
  have l1 := Go.Ev.run_loadVar_one (P := Tryz.prog) agg37 c1
  have l2 := Go.Ev.run_loadVar_one (P := Tryz.prog) agg23 c2
  have ha : ∀ z, asAddr (.pointer (some ⟨z, 0, none⟩)) = pure ⟨z, 0, none⟩ := fun _ => rfl
  simp only [results, h]
  simp only [List.size_toArray, List.length_cons, List.length_nil, Sem.run_bind, Array.mapM_eq_mapM_toList]
  have h1' : tmps[4]?.getD undef = .pointer (some ⟨x, 0, none⟩) := by rw [← h1]; simp
  have h2' : tmps[5]?.getD undef = .pointer (some ⟨y, 0, none⟩) := by rw [← h2]; simp
  simp [Sem.run_bind, Result.andThen, h1', h2', ha, l1, l2]

theorem info93' : (Tryz.prog.info? 93).isSome = true := by kernel_rfl

theorem read_any {w : World} {n0 d db : Nat} {P : PD} (h : Dk w n0 d db (.slice none 0 0) P) (b : Nat) (hb : b < P.bs.length) :
    Calls Tryz.prog 9 #[.pointer (some ⟨d, 0, none⟩), .int .i64 (b : Int)] w fun e w' => (∃ g, e = .returned (.tuple #[.slice (some ⟨g, 0, none⟩) 4096 4096, .int .i64 0]) ∧ Bk w' (.slice (some ⟨g, 0, none⟩) 4096 4096) P.bs[b]) ∧ Below w.heap.size w w' := by
  obtain ⟨W0, hW0⟩ : ∃ W0, ((w.alloc (.cells #[.int .i64 (b : Int)] 3)).alloc (.cells #[.slice none 0 0] 37)).alloc (.cells #[.int .i64 0] 23) = W0 := ⟨_, rfl⟩
  have hb0 : Below w.heap.size w W0 := by rw [← hW0]; exact (((Below.refl _ _).alloc (Nat.le_refl _) _).alloc (by simp) _).alloc (by simp; omega) _
  have hs0 : W0.heap.size = w.heap.size + 3 := by rw [← hW0]; simp
  have g3 : W0.heap[w.heap.size]? = some (.cells #[.int .i64 (b : Int)] 3 (0, 0)) := by
    rw [← hW0]
    exact (Below.heap_alloc _ _ _ (by simp; omega)).trans ((Below.heap_alloc _ _ _ (by simp)).trans (heap_alloc_new w _))
  have g4 : W0.heap[w.heap.size + 1]? = some (.cells #[.slice none 0 0] 37 (0, 0)) := by
    rw [← hW0]
    refine (Below.heap_alloc _ _ _ (by simp)).trans ?_
    have := heap_alloc_new (w.alloc (.cells #[.int .i64 (b : Int)] 3)) (.cells #[.slice none 0 0] 37)
    simpa using this
  have g5 : W0.heap[w.heap.size + 1 + 1]? = some (.cells #[.int .i64 0] 23 (0, 0)) := by
    rw [← hW0]
    have := heap_alloc_new ((w.alloc (.cells #[.int .i64 (b : Int)] 3)).alloc (.cells #[.slice none 0 0] 37)) (.cells #[.int .i64 0] 23)
    simpa using this
  have h0 := h.below hb0
  have hA := asked_any h0.box b hb
  have cb : W0.cell? ⟨w.heap.size, 0, none⟩ = some (.int .i64 (b : Int)) := cellD g3 0
  obtain ⟨-, -, c2, c3, -⟩ := h0.box.cells
  have hB := fun w => backward_any none 0 0 w
  refine (callsIn_wide (n := 5)).1 ?_
  refine callsIn_of_wp_marks (F := Fence.wide) (n := 5) Tryz.func9 rfl trivial ?_ rfl
  refine wpIn_wide.2 ?_
  simp only [Tryz.ntmps9, List.size_toArray, List.length_cons, List.length_nil, Nat.reduceAdd, Nat.reduceSub, Array.replicate_succ, Array.replicate_zero, List.push_toArray, List.append_toArray, List.nil_append, List.cons_append]
  go_wp2_with (first
    | (go_at_call 35; refine hA.mono ?_; rintro e W0 ⟨rfl, rfl⟩)
    | (go_at_call 36; refine (hB _).mono ?_; rintro e W1 ⟨rfl, hW1⟩))
  have b01 : Below W0.heap.size W0 (W0.alloc (.cells #[.slice none 0 0] 86)) := (Below.refl _ _).alloc (Nat.le_refl _) _
  have cp : (W0.alloc (.cells #[.slice none 0 0] 86)).cell? ⟨w.heap.size + 3, 0, none⟩ = some (.slice none 0 0) := World.cell?_alloc_at _ _ _ _ (by simp [hs0])
  clear hW1
  generalize W0.alloc (.cells #[.slice none 0 0] 86) = W1 at b01 cp
  refine range_none (gf := 80) (lb := #[.pointer (some ⟨w.heap.size + 3, 0, none⟩)]) rfl (fun args w => by simp [go_sem, Tryz.func80]) (fun l W2 hb2 => ?_) fun D W3 hb3 hD hzD => ?_
  · refine (none_back _ _ 0 none W2 ((hb2.cell (p := ⟨w.heap.size + 3, 0, none⟩) ?_).trans cp)).mono ?_
    · have := b01.size
      have : w.heap.size + 3 < W1.heap.size := by
        simp only [World.cell?] at cp
        split at cp
        · rename_i hh; exact hlt hh
        all_goals cases cp
      exact this
    · rintro e w' ⟨rfl, rfl⟩; exact ⟨⟨_, rfl⟩, rfl⟩
  have b03 : Below W0.heap.size W0 W3 := b01.trans (hb3.mono b01.size)
  have h3 := h0.below b03
  have hz0 : ∀ k, k < W0.heap.size → W3.heap[k]? = W0.heap[k]? := fun k hk => b03.block k hk
  obtain ⟨W4, hW4⟩ : ∃ W4, W3.drew = W4 := ⟨_, rfl⟩
  have h4 : Dk W4 n0 d db (.slice none 0 0) P := by rw [← hW4]; exact h3.below ⟨rfl, rfl, rfl, Nat.le_refl _, fun _ _ => rfl⟩
  have e4 : W4.heap = W3.heap := by rw [← hW4]; rfl
  have b34 : Below W3.heap.size W3 W4 := by rw [← hW4]; exact ⟨rfl, rfl, rfl, Nat.le_refl _, fun _ _ => rfl⟩
  have b04 : Below w.heap.size w W4 := hb0.trans ((b03.trans (b34.mono b03.size)).mono (by omega))
  have c1' := h4.box.cells.2.1
  have cb' : W4.cell? ⟨w.heap.size, 0, none⟩ = some (.int .i64 (b : Int)) := by simp [World.cell?, e4, hz0 w.heap.size (by omega), g3]
  obtain ⟨cs, hr1, hr2, hr3⟩ := h4.row
  obtain ⟨u, hu, hd⟩ := hr3 b hb
  have cu : W4.cell? ⟨db, b, none⟩ = some u := (cellD hr1 b).trans hu
  have W := whole_db hd
  have g4' : W4.heap[w.heap.size + 1]? = some (.cells #[.slice none 0 0] 37 (0, 0)) := by rw [e4, hz0 _ (by omega)]; exact g4
  have g5' : W4.heap[w.heap.size + 1 + 1]? = some (.cells #[.int .i64 0] 23 (0, 0)) := by rw [e4, hz0 _ (by omega)]; exact g5
  have hD4 : W4.heap[D]? = some (.deferred (some [])) := by rw [e4]; exact hD
  have hDz : w.heap.size + 3 ≤ D := by have := b01.size; omega
  have hz4 : w.heap.size + 1 + 1 < W4.heap.size := hlt g5'
  go_wp2
  refine stillW 7 (by kernel_rfl) (by kernel_rfl) W4 hW4 ?_
  simp only [List.take_succ_cons, List.take_zero, List.drop_succ_cons, List.drop_zero]
  repeat still_step
  refine wpStill_nil ?_
  go_wp2_with (go_at_call 37; refine W.mono ?_; rintro e W5 ⟨⟨u1, rfl, hB, g, rfl, hg⟩, hb5⟩; have q4 := (hb5.block _ (by omega)).trans g4'; have q5 := (hb5.block _ hz4).trans g5'; have hD5 := (hb5.block _ (hlt hD4)).trans hD4; have z4 := frozenD q4 0; have z5 := frozenD q5 0; have k4 := cellD q4 0; have k5 := cellD q5 0)
  have q6 : (W5.setCell ⟨w.heap.size + 1, 0, none⟩ (.slice (some ⟨g, 0, none⟩) 4096 4096)).heap[w.heap.size + 1]? = some (.cells #[.slice (some ⟨g, 0, none⟩) 4096 4096] 37 (0, 0)) := by rw [heap_setCell_same W5 _ 0 _ _ _ q4]; rfl
  have b6 : ∀ k, k ≠ w.heap.size + 1 → (W5.setCell ⟨w.heap.size + 1, 0, none⟩ (.slice (some ⟨g, 0, none⟩) 4096 4096)).heap[k]? = W5.heap[k]? := fun k hk => Below.heap_setCell W5 _ _ k hk
  have s6 : (W5.setCell ⟨w.heap.size + 1, 0, none⟩ (.slice (some ⟨g, 0, none⟩) 4096 4096)).heap.size = W5.heap.size := by simp
  have B6 : Below w.heap.size w (W5.setCell ⟨w.heap.size + 1, 0, none⟩ (.slice (some ⟨g, 0, none⟩) 4096 4096)) := (b04.trans (hb5.mono (by omega))).setCell (by simp) _
  generalize W5.setCell ⟨w.heap.size + 1, 0, none⟩ (.slice (some ⟨g, 0, none⟩) 4096 4096) = W6 at *
  have q7 : (W6.setCell ⟨w.heap.size + 1 + 1, 0, none⟩ (.int .i64 0)).heap[w.heap.size + 1 + 1]? = some (.cells #[.int .i64 0] 23 (0, 0)) := by rw [heap_setCell_same W6 _ 0 _ _ _ ((b6 _ (by omega)).trans q5)]; rfl
  have b7 : ∀ k, k ≠ w.heap.size + 1 + 1 → (W6.setCell ⟨w.heap.size + 1 + 1, 0, none⟩ (.int .i64 0)).heap[k]? = W6.heap[k]? := fun k hk => Below.heap_setCell W6 _ _ k hk
  have B7 : Below w.heap.size w (W6.setCell ⟨w.heap.size + 1 + 1, 0, none⟩ (.int .i64 0)) := B6.setCell (by simp; omega) _
  generalize W6.setCell ⟨w.heap.size + 1 + 1, 0, none⟩ (.int .i64 0) = W7 at *
  have hD7 : W7.heap[D]? = some (.deferred (some [])) := by rw [b7 _ (by omega), b6 _ (by omega)]; exact hD5
  have k4' : W7.cell? ⟨w.heap.size + 1, 0, none⟩ = some (.slice (some ⟨g, 0, none⟩) 4096 4096) := by simp [World.cell?, b7 _ (show w.heap.size + 1 ≠ w.heap.size + 1 + 1 by omega), q6]
  have k5' : W7.cell? ⟨w.heap.size + 1 + 1, 0, none⟩ = some (.int .i64 0) := cellD q7 0
  have hgz : W4.heap.size ≤ g := hg
  have hBk : Bk W7 (.slice (some ⟨g, 0, none⟩) 4096 4096) P.bs[b] := by
    obtain ⟨g', e, hh, hl⟩ := hB
    cases e
    exact ⟨g, rfl, (b7 _ (by omega)).trans ((b6 _ (by omega)).trans hh), hl⟩
  have hDl := hlt hD7
  have kk : ∀ (k : Nat) (hk : k ≠ D), (W7.putObj D (.deferred none)).heap[k]? = W7.heap[k]? := fun k hk => World.putObj_heap_other hk
  refine ⟨by simp, .inl ⟨_, _, rfl, run_takeDeferred hD7, ?_⟩⟩
  refine ⟨_, ret_cc rfl rfl rfl (u := .slice (some ⟨g, 0, none⟩) 4096 4096) (v := .int .i64 0) ?_ ?_, ⟨⟨g, rfl, ?_⟩, ?_⟩⟩
  · simp only [World.cell?, kk _ (show w.heap.size + 1 ≠ D by omega)]; exact k4'
  · simp only [World.cell?, kk _ (show w.heap.size + 1 + 1 ≠ D by omega)]; exact k5'
  · obtain ⟨g', e, hh, hl⟩ := hBk
    cases e
    refine ⟨g, rfl, (kk _ ?_).trans hh, hl⟩
    rintro rfl
    rw [hD7] at hh; cases hh
  · exact ⟨B7.os, B7.tape, B7.output, by have := B7.size; simpa [World.putObj] using this, fun k hk => (kk _ (by omega)).trans (B7.block k hk)⟩

end Go.Proofs.YtecnddogdiikiaaGreat

