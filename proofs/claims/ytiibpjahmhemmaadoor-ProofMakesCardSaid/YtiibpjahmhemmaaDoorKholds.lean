/-
  chancerylaw28.ProofHolds: what the call does.
-/
import Derived.Test.YtiibpjahmhemmaaDoorKawake
import Derived.Deep.RegionHeld3
import Derived.BigRegion
namespace Go.Proofs.YtiibpjahmhemmaaDoor
open Go Go.RowKit
open Go.Ev (Tab Tab.belowB Tab.below Tab.pos)

abbrev clA (key : ByteArray) (t : Int) (role : ByteArray) (draw : Nat) : Array Value := #[.string key, .int .i64 t, .string role, .int .u64 (draw : Int)]
def CL (w : World) (g : Nat) (key : ByteArray) (t : Int) (role : ByteArray) (draw : Nat) : Prop := w.heap[g]? = some (.cells (clA key t role draw) 31 (0, 0))
section
variable {w w' : World} {g draw : Nat} {key role : ByteArray} {t : Int}
theorem CL.lt (h : CL w g key t role draw) : g < w.heap.size := (Array.getElem?_eq_some_iff.1 h).1
theorem CL.below (h : CL w g key t role draw) (hb : Below w.heap.size w w') : CL w' g key t role draw := (hb.block g h.lt).trans h
theorem CL.alloc (h : CL w g key t role draw) (o : Obj) : CL (w.alloc o) g key t role draw := (Below.heap_alloc w o g h.lt).trans h
theorem CL.cells (h : CL w g key t role draw) : w.cell? ⟨g, 0, none⟩ = some (.string key) ∧ w.cell? ⟨g, 1, none⟩ = some (.int .i64 t) ∧ w.cell? ⟨g, 2, none⟩ = some (.string role) ∧ w.cell? ⟨g, 3, none⟩ = some (.int .u64 (draw : Int)) :=
  ⟨cell_of_row w g 0 _ 31 (0, 0) h, cell_of_row w g 1 _ 31 (0, 0) h, cell_of_row w g 2 _ 31 (0, 0) h, cell_of_row w g 3 _ 31 (0, 0) h⟩
end

theorem holds_yes (K : Nat → Nat) (key role : ByteArray) (t : Int) (draw : Nat) (A : Option Addr) (c : Nat) (w : World) (hT : Tab w K) (hks : key.size ≤ 1000) (hrs : role.size ≤ 1000) (ht : -9223372036854775808 ≤ t) (ht2 : t ≤ 9223372036854775807) (hd : draw ≤ 18446744073709551615)
    (hr : Rd w w.heap.size A (proofB K key t role draw)) :
    Calls Tryd.prog 19 #[.string key, .int .i64 t, .string role, .int .u64 draw, .slice A 32 c] w fun e w' => e = .returned (.bool true) ∧ Below w.heap.size w w' := by
  refine (holds_any K key role t draw A 32 c _ w hT hks hrs ht ht2 hd hr (proofB_len _ _ _ _ _).symm).mono ?_
  rintro e w' ⟨rfl, hb⟩
  exact ⟨by simp, hb⟩
theorem holds_no (K : Nat → Nat) (key role : ByteArray) (t : Int) (draw : Nat) (A : Option Addr) (n c : Nat) (l : List UInt8) (w : World) (hT : Tab w K) (hks : key.size ≤ 1000) (hrs : role.size ≤ 1000) (ht : -9223372036854775808 ≤ t) (ht2 : t ≤ 9223372036854775807) (hd : draw ≤ 18446744073709551615)
    (hr : Rd w w.heap.size A l) (hn : n = l.length) (hne : l ≠ proofB K key t role draw) :
    Calls Tryd.prog 19 #[.string key, .int .i64 t, .string role, .int .u64 draw, .slice A n c] w fun e w' => e = .returned (.bool false) ∧ Below w.heap.size w w' := by
  refine (holds_any K key role t draw A n c _ w hT hks hrs ht ht2 hd hr hn).mono ?_
  rintro e w' ⟨rfl, hb⟩
  exact ⟨by simp [hne], hb⟩
theorem copy_n (A : Option Addr) (n c : Nat) (l : List UInt8) (w : World) (hr : Rd w w.heap.size A l) (hn : n = l.length) (hl : l.length ≤ 1099511627775) :
    Calls Tryd.prog 20 #[.slice A n c] w fun e w' => ∃ v, e = .returned v ∧ Own w' w.heap.size v l ∧ Below w.heap.size w w' := by
  subst hn; exact copy_any A c l w hr hl
theorem same_ne (A C : Option Addr) (c d : Nat) (l m : List UInt8) (w : World) (hl : l.length ≤ 9223372036854775807) (hl2 : m.length ≤ 9223372036854775807) (hne : l.length ≠ m.length) :
    Calls Tryd.prog 16 #[.slice A l.length c, .slice C m.length d] w fun e w' => e = .returned (.bool (decide (l = m))) ∧ Below w.heap.size w w' := by
  have hne' : ((l.length : Int) != (m.length : Int)) = true := by simp; omega
  have hlm : l ≠ m := fun h => hne (by rw [h])
  have HN := Lib.hid hne
  have HM := Lib.hid hlm
  clear hne hlm
  go_enter Tryd.func16, Tryd.ntmps16
  go_wp2
  go_ret
  exact ⟨by simp [HM.out], Below.refl _ _⟩
theorem same_wide (A C : Option Addr) (n c k d : Nat) (l m : List UInt8) (w : World) (hr : Rd w w.heap.size A l) (hm : Rd w w.heap.size C m) (hl : l.length ≤ 9223372036854775807) (hl2 : m.length ≤ 1099511627775) (hn : n = l.length) (hk : k = m.length) :
    Calls Tryd.prog 16 #[.slice A n c, .slice C k d] w fun e w' => e = .returned (.bool (decide (l = m))) ∧ Below w.heap.size w w' := by
  subst hn; subst hk
  by_cases h : l.length = m.length
  · exact same_any A C c d l m w hr hm (by omega) (by omega)
  · exact same_ne A C c d l m w hl (by omega) h

theorem own_frozen {w : World} {B g c : Nat} {v : Value} {l : List UInt8} (h : Own w B v l) {n : Nat} (e : v = .slice (some ⟨g, 0, none⟩) n c) (i : Nat) : w.frozen? ⟨g, i, none⟩ = false := by
  rcases h.2 with ⟨h1, _⟩ | ⟨g', cap, cur, h1, _, h3, _⟩
  · rw [e] at h1; cases h1
  · rw [e] at h1
    injection h1 with h1 _ _
    injection h1 with h1
    injection h1 with h1 _ _
    subst h1
    simp [World.frozen?, h3]

def flipB (r : Nat) : UInt8 := UInt8.ofNat (2 ^ r)
theorem flip_int (r : Nat) (h : r < 8) : IntKind.u8.wrap (1 * 2 ^ r) = ((flipB r).toNat : Int) := by
  have : r = 0 ∨ r = 1 ∨ r = 2 ∨ r = 3 ∨ r = 4 ∨ r = 5 ∨ r = 6 ∨ r = 7 := by omega
  rcases this with rfl | rfl | rfl | rfl | rfl | rfl | rfl | rfl <;> rfl
theorem flip_ne (x : UInt8) (r : Nat) (h : r < 8) : x ^^^ flipB r ≠ x := by
  intro e
  have h2 : x ^^^ (x ^^^ flipB r) = x ^^^ x := by rw [e]
  rw [← UInt8.xor_assoc, UInt8.xor_self, UInt8.zero_xor] at h2
  have : r = 0 ∨ r = 1 ∨ r = 2 ∨ r = 3 ∨ r = 4 ∨ r = 5 ∨ r = 6 ∨ r = 7 := by omega
  rcases this with rfl | rfl | rfl | rfl | rfl | rfl | rfl | rfl <;> exact absurd h2 (by decide)

/-- append onto a row of the call's own, in a region that draws -/
theorem stB {w : World} {ops : Array Oper} {o : Oper} {a : Act} {K : Act → World → Prop} {Q : Exit → Act → World → Prop} {E : Prop} (hw : Region.wanted o (yielded ops a.tmps) = true) (s x : Operand)
    (ho : o.op = .call { callee := .builtin .append, args := #[s, x], argTypes := #[22, 22] })
    (base : Nat) (v : Value) (l : List UInt8) (hs : a.eval s = v) (hown : Own w base v l) (B : Nat) (A : Option Addr) (m c : Nat) (news : List UInt8) (hx : a.eval x = .slice A m c) (hm : m = news.length) (hr : Rd w B A news)
    (hlen : l.length + news.length ≤ 1099511627776) (hbase : base ≤ w.heap.size)
    (h : ∀ v' w', Own w' base v' (l ++ news) → Below base w w' → (v'.ownBlock = v.ownBlock ∨ v'.ownBlock = some w.heap.size) → w.grownBy w' v.ownBlock → K (a.put o.dst v') w') : if Region.wanted o (yielded ops a.tmps) = true then Oper.wp Tryd.prog o a w K Q else E := by
  rw [if_pos hw]
  obtain ⟨i0, hi, hz0, hz1, hz2⟩ := info_parts Tryd.info5
  subst hm
  have hb := hown.blk
  rcases Nat.eq_zero_or_pos news.length with h0 | h0
  · have hn : news = [] := List.eq_nil_of_length_eq_zero h0
    subst hn
    have hx' : a.eval x = .slice A 0 c := hx
    cases A with
    | none =>
      have hrun : (Builtin.append_ #[22, 22] o.type #[v, .slice none 0 c]).run Tryd.prog w = .ok v w := by
        rcases hown.2 with ⟨rfl, _⟩ | ⟨g, cap, cur, rfl, _, _, hnc, _⟩
        · simp [Builtin.append_, run_underlying Tryd.underlying22, sizeOf, typeInfo, hi, Builtin.lenOf, Builtin.firstCells]
        · simp [Builtin.append_, run_underlying Tryd.underlying22, sizeOf, typeInfo, hi, Builtin.lenOf, Builtin.firstCells, hnc, storeCells]
      unfold Oper.wp execOp
      simp only [ho, resolve, invoke, builtin, Sem.run_bind, Sem.run_pure, Result.andThen_ok, List.map_toArray, List.map_cons, List.map_nil, hs, hx', hrun]
      exact (h v w (by simpa using hown) (Below.refl _ _) (.inl rfl) (World.grownBy.refl w _))
    | some ad =>
      obtain ⟨v', w', hrun, h2, h3, _, h5⟩ := run_append_own_at (P := Tryd.prog) w base 22 o.type 5 i0 (.int .u8 0) 1 1 Tryd.underlying22 hi hz0 hz1 hz2 rfl (by decide) v l.length (l.map u8V) hown ad 0 c []
        (by simp) (by intro j u hu; simp at hu) (by simp) (by unfold maxLen; omega) (by omega) hbase
      unfold Oper.wp execOp
      simp only [ho, resolve, invoke, builtin, Sem.run_bind, Sem.run_pure, Result.andThen_ok, List.map_toArray, List.map_cons, List.map_nil, hs, hx', hrun]
      exact (h v' w' (by simpa [Own] using h2) ⟨h3.os, h3.tape, h3.output, h3.size, fun k hk => h3.block k (by omega) (fun e => by have := hb k e.symm; omega)⟩ h5 h3)
  · obtain ⟨b, off, rfl, hbB, hc⟩ := hr (by rintro rfl; simp at h0)
    have hcells : ∀ j u, (news.map u8V)[j]? = some u → w.cell? ((⟨b, off, none⟩ : Addr).add j) = some u := by
      intro j u hu
      rw [List.getElem?_map] at hu
      rcases Nat.lt_or_ge j news.length with hj | hj
      · rw [List.getElem?_eq_getElem hj] at hu
        simp only [Option.map_some, Option.some.injEq] at hu
        subst hu
        have : (⟨b, off, none⟩ : Addr).add j = ⟨b, off + j, none⟩ := by unfold Addr.add; split <;> simp_all
        rw [this]; exact hc j hj
      · rw [List.getElem?_eq_none hj] at hu; cases hu
    obtain ⟨v', w', hrun, h2, h3, _, h5⟩ := run_append_own_at (P := Tryd.prog) w base 22 o.type 5 i0 (.int .u8 0) 1 1 Tryd.underlying22 hi hz0 hz1 hz2 rfl (by decide) v l.length (l.map u8V) hown ⟨b, off, none⟩ news.length c (news.map u8V)
      (by simp) hcells (by intro u hu; simp at hu; obtain ⟨_, _, rfl⟩ := hu; rfl) (by unfold maxLen; omega) (by omega) hbase
    unfold Oper.wp execOp
    simp only [ho, resolve, invoke, builtin, Sem.run_bind, Sem.run_pure, Result.andThen_ok, List.map_toArray, List.map_cons, List.map_nil, hs, hx, hrun]
    exact (h v' w' (by unfold Own; rw [List.length_append, List.map_append]; exact h2) ⟨h3.os, h3.tape, h3.output, h3.size, fun k hk => h3.block k (by omega) (fun e => by have := hb k e.symm; omega)⟩ h5 h3)

theorem own_rd {w : World} {B n c : Nat} {A : Option Addr} {l : List UInt8} (h : Own w B (.slice A n c) l) : Rd w w.heap.size A l := by
  obtain ⟨A', c', e, _, _, hrd⟩ := h.slice
  injection e with e _ _
  rw [e]; exact hrd
theorem Rd.take {w : World} {B : Nat} {A : Option Addr} {l : List UInt8} (h : Rd w B A l) (n : Nat) : Rd w B A (l.take n) := fun hne => by
  obtain ⟨b, o, e, hb, hc⟩ := h (by rintro rfl; simp at hne)
  exact ⟨b, o, e, hb, fun k hk => by rw [List.getElem_take]; exact hc k (by simp at hk; omega)⟩
theorem bad_rd {w : World} {B g c n q : Nat} {l : List UInt8} {x : UInt8} (h : Own w B (.slice (some ⟨g, 0, none⟩) n c) l) (hq : q < l.length) : Rd (w.setCell ⟨g, q, none⟩ (u8V x)) (w.setCell ⟨g, q, none⟩ (u8V x)).heap.size (some ⟨g, 0, none⟩) (l.set q x) := fun _ => by
  rcases h.form with ⟨h1, _⟩ | ⟨g', c', h1, h2, h3, h4, h5, h6⟩
  · cases h1
  · injection h1 with h1 _ _
    injection h1 with h1
    injection h1 with h1 _ _
    subst h1
    refine ⟨g, 0, rfl, by simpa [World.setCell] using h3, fun k hk => ?_⟩
    rw [Nat.zero_add]
    have hk' : k < l.length := by simpa using hk
    by_cases e : k = q
    · subst e
      obtain ⟨C, ty, fz, hb, hc⟩ := Go.Ev.block_of_cell (h6 k hk')
      have hlt := (Array.getElem?_eq_some_iff.1 hc).1
      simp [World.cell?, World.setCell, Array.getElem?_modify, hb, hlt]
    · rw [World.cell?_setCell_other w ⟨g, q, none⟩ ⟨g, k, none⟩ (u8V x) (by intro h; injection h with _ h2 _; exact e h2.symm), h6 k hk']
      simp [Ne.symm e]

set_option maxHeartbeats 1000000 in
set_option maxRecDepth 100000 in
theorem holdslaw_any (key role : ByteArray) (t : Int) (draw : Nat) (A : Option Addr) (c : Nat) (l : List UInt8) (bit : Int) (w : World) (hT : Tab w rootK) (ht : -9223372036854775808 ≤ t) (ht2 : t ≤ 9223372036854775807) (hd : draw ≤ 18446744073709551615)
    (hks : key.size ≤ 9223372036854775807) (hrs : role.size ≤ 9223372036854775807) (hr : Rd w w.heap.size A l) (hll : l.length ≤ 9223372036854775807) (hb1 : -9223372036854775808 ≤ bit) (hb2 : bit ≤ 9223372036854775807) :
    Calls Tryd.prog 5 #[.agg (clA key t role draw), .slice A l.length c, .int .i64 bit] w fun e w' => e = .returned (.bool true) ∧ Below w.heap.size w w' := by
  have hbA : ∀ o, Below w.heap.size w (w.alloc o) := fun o => (Below.refl _ _).alloc (Nat.le_refl _) o
  by_cases h1 : 300 < key.size
  · have h1' : (300 : Int) < (key.size : Int) := by omega
    go_enter Tryd.func5, Tryd.ntmps5
    go_wp2_with (go_at_call 13; refine (awake_any _ (hT.below (hbA _))).mono ?_; rintro e w1 ⟨rfl, hb⟩)
    go_ret
    exact ⟨rfl, (hbA _).trans (hb.mono (by simp))⟩
  by_cases h2 : 300 < role.size
  · have h1' : ¬ (300 : Int) < (key.size : Int) := by omega
    have h2' : (300 : Int) < (role.size : Int) := by omega
    go_enter Tryd.func5, Tryd.ntmps5
    go_wp2_with (go_at_call 13; refine (awake_any _ (hT.below (hbA _))).mono ?_; rintro e w1 ⟨rfl, hb⟩)
    go_ret
    exact ⟨rfl, (hbA _).trans (hb.mono (by simp))⟩
  have h1' : ¬ (300 : Int) < (key.size : Int) := by omega
  have h2' : ¬ (300 : Int) < (role.size : Int) := by omega
  have hcl0 : CL (w.alloc (.cells (clA key t role draw) 31)) w.heap.size key t role draw := heap_alloc_new _ _
  have hb0 := hbA (.cells (clA key t role draw) 31)
  have hT0 := hT.below hb0
  have hr0 := hr.belowS hb0
  have hz0 : w.heap.size + 1 = (w.alloc (.cells (clA key t role draw) 31)).heap.size := by simp
  clear hbA
  go_enter Tryd.func5, Tryd.ntmps5
  go_upto_region 4 with (first
    | (go_at_call 14; refine (proof_any rootK key role t draw _ hT0 (by omega) (by omega) ht ht2 hd).mono ?_; rintro e w1 ⟨v1, rfl, hown1, hb1⟩))
  obtain ⟨A1, c1, rfl, hc1, hcm1, hrd1⟩ := hown1.sl (n := 32) (proofB_len _ _ _ _ _)
  have hcl1 := hcl0.below hb1
  have hT1 := hT0.below hb1
  have hr1 := hr0.belowS hb1
  have hbb1 := hb0.trans (hb1.mono hb0.size)
  obtain ⟨x0, x1, x2, x3⟩ := hcl1.cells
  have hcm1' : c1 ≤ 9223372036854775807 := hcm1
  clear hcl0 hT0 hr0 hb0 hb1 hcm1
  go_upto_region 6 with (first
    | (go_at_call 19; refine (holds_yes rootK key role t draw _ _ _ hT1 (by omega) (by omega) ht ht2 hd hrd1).mono ?_; rintro e w2 ⟨rfl, hb2⟩))
  have hcl2 := hcl1.below hb2
  have hT2 := hT1.below hb2
  have hr2 := hr1.belowS hb2
  have hrd2 := hrd1.belowS hb2
  have hown2 := hown1.belowS hb2
  have hbb2 := hbb1.trans (hb2.mono hbb1.size)
  obtain ⟨y0, y1, y2, y3⟩ := hcl2.cells
  clear hcl1 hT1 hr1 hrd1 hown1 hbb1 hb2 x0 x1 x2 x3
  go_upto_region 8 with (first
    | (go_at_call 19; refine (holds_any rootK key role t draw _ _ _ l _ hT2 (by omega) (by omega) ht ht2 hd hr2 rfl).mono ?_; rintro e w3 ⟨rfl, hb3⟩)
    | (go_at_call 16; refine (same_wide _ _ _ _ _ _ l (proofB rootK key t role draw) _ (hr2.belowS hb3) (hrd2.belowS hb3) hll (by rw [proofB_len]; omega) rfl (proofB_len _ _ _ _ _).symm).mono ?_; rintro e w4 ⟨rfl, hb4⟩))
  have hb34 := hb3.trans (hb4.mono hb3.size)
  have hcl4 := hcl2.below hb34
  have hT4 := hT2.below hb34
  have hrd4 := hrd2.belowS hb34
  have hown4 := hown2.belowS hb34
  have hbb4 := hbb2.trans (hb34.mono hbb2.size)
  clear hcl2 hT2 hr2 hrd2 hown2 hbb2 hb3 hb4 hb34 y0 y1 y2 y3
  go_upto_region 10 with (first
    | (go_at_call 20; refine (copy_n _ _ _ (proofB rootK key t role draw) _ hrd4 (proofB_len _ _ _ _ _).symm (by rw [proofB_len]; omega)).mono ?_; rintro e w5 ⟨v5, rfl, hown5, hb5⟩)
    | (go_at_call 21; refine (pick_any bit _ (by omega) (by omega)).mono ?_; rintro e w6 ⟨⟨n, hn, rfl⟩, rfl⟩))
  obtain ⟨q, r, hq8, hr8, hqr⟩ : ∃ q r : Nat, q < 32 ∧ r < 8 ∧ n = 8 * q + r := ⟨n / 8, n % 8, by omega, by omega, by omega⟩
  have hq1 : (n : Int).tdiv 8 = (q : Int) := by rw [Int.tdiv_eq_ediv_of_nonneg (by omega)]; omega
  have hr1 : (n : Int).tmod 8 = (r : Int) := by rw [Int.tmod_eq_emod_of_nonneg (by omega)]; omega
  have hq1' : (n : Int) / 8 = (q : Int) := by omega
  have hr1' : (n : Int) % 8 = (r : Int) := by omega
  have hq2 : IntKind.i64.wrap (q : Int) = (q : Int) := IntWalk.i64_in _ (by omega)
  have hr2 : IntKind.i64.wrap (r : Int) = (r : Int) := IntWalk.i64_in _ (by omega)
  clear hqr
  rcases hown5.form with ⟨_, h0⟩ | ⟨gb, cb, rfl, hgb, hgbl, h4, h5, hcell⟩
  · exfalso; have := proofB_len rootK key t role draw; rw [h0] at this; simp at this
  have hqP : q < (proofB rootK key t role draw).length := by rw [proofB_len]; exact hq8
  have hcq := hcell q hqP
  have hfz : w5.frozen? ⟨gb, q, none⟩ = false := own_frozen hown5 rfl q
  have hPl := proofB_len rootK key t role draw
  rw [hPl] at hown5
  rw [hPl]
  clear h4
  have hqi : (q : Int) < 32 := by omega
  have hqi0 : (0 : Int) ≤ (q : Int) := by omega
  have hri : (r : Int) ≤ 8 := by omega
  have hri0 : (0 : Int) ≤ (r : Int) := by omega
  have hsh : IntKind.u8.wrap (1 * 2 ^ r) = ((flipB r).toNat : Int) := flip_int r hr8
  have hsh' : IntKind.u8.wrap (2 ^ r) = ((flipB r).toNat : Int) := by have := flip_int r hr8; rwa [Int.one_mul] at this
  have hX := bits_xor8 ((proofB rootK key t role draw)[q]'hqP) (flipB r)
  clear hcell hPl
  go_still_tail 10, (by kernel_rfl)
  change wpList _ _ _ _ _ w5.drew
  have hPl2 := Lib.hid (proofB_len rootK key t role draw)
  obtain ⟨x, hx⟩ : ∃ x, x = (proofB rootK key t role draw)[q]'hqP ^^^ flipB r := ⟨_, rfl⟩
  have hbadne : (proofB rootK key t role draw).set q x ≠ proofB rootK key t role draw := fun e => by
    have h := congrArg (fun z => z[q]?) e
    have hq' : q < (proofB rootK key t role draw).length := by have := hPl2.out; omega
    simp [hq'] at h
    exact flip_ne _ r hr8 (hx.symm.trans h)
  rw [← hx] at hX
  have hcq' : w5.drew.cell? ⟨gb, q, none⟩ = _ := hcq
  have hfz' : w5.drew.frozen? ⟨gb, q, none⟩ = false := hfz
  have hown5' : Own w5.drew w4.heap.size (.slice (some ⟨gb, 0, none⟩) 32 cb) (proofB rootK key t role draw) := hown5
  have hb5' := hb5.drew
  have hval : (Value.int .u8 (((proofB rootK key t role draw)[q]'hqP).toNat ^^^ (flipB r).toNat : Nat)) = u8V x := by rw [hx]; rfl
  have HVAL := Lib.hid hval
  clear hcq hfz hown5 hb5 hx hval
  generalize w5.drew = w6 at *
  have HBAD := Lib.hid hbadne
  clear hbadne
  go_upto_region 11 with fail
  rw [HVAL.out]
  have hgbw : w4.heap.size ≤ gb := hgb
  have hclW : CL (w6.setCell ⟨gb, q, none⟩ (u8V x)) w.heap.size key t role draw := (Below.heap_setCell _ _ _ _ (by have := hcl4.lt; simp only; omega)).trans (hcl4.below hb5')
  have hTW : Tab (w6.setCell ⟨gb, q, none⟩ (u8V x)) rootK := by
    obtain ⟨C, e, fz, k1, k2⟩ := hT4.below hb5'
    exact ⟨C, e, fz, (Below.heap_setCell _ _ _ _ (by have := hT4.pos; simp only; omega)).trans k1, k2⟩
  have hownW : Own (w6.setCell ⟨gb, q, none⟩ (u8V x)) (w.heap.size + 1) (.slice A1 32 c1) (proofB rootK key t role draw) := by
    have h1 := hown4.belowS hb5'
    have h2 : Own w6 (w.heap.size + 1) (.slice A1 32 c1) (proofB rootK key t role draw) := by simpa using h1
    refine h2.setCell (fun e => ?_) _
    have := hown4.lt _ e
    simp only at this
    omega
  have hbadW : Rd (w6.setCell ⟨gb, q, none⟩ (u8V x)) (w6.setCell ⟨gb, q, none⟩ (u8V x)).heap.size (some ⟨gb, 0, none⟩) ((proofB rootK key t role draw).set q x) := bad_rd hown5' (by have := hPl2.out; omega)
  have hbbW : Below w.heap.size w (w6.setCell ⟨gb, q, none⟩ (u8V x)) := (hbb4.trans (hb5'.mono hbb4.size)).setCell (by have := hbb4.size; simp only; omega) _
  generalize w6.setCell ⟨gb, q, none⟩ (u8V x) = W at *
  obtain ⟨_, _, _, _, _, hrdW⟩ := hownW.slice
  clear hX hsh hsh' hq1 hr1 hq1' hr1' hcq' hfz'
  obtain ⟨z0, z1, z2, z3⟩ := hclW.cells
  have H31 := Lib.hid (show ((proofB rootK key t role draw).take 31) ≠ proofB rootK key t role draw from fun e => by have h := congrArg List.length e; have := hPl2.out; simp at h; omega)
  have H33 := Lib.hid (show (proofB rootK key t role draw ++ [0]) ≠ proofB rootK key t role draw from fun e => by have h := congrArg List.length e; simp at h)
  have HL31 := Lib.hid (show 31 = ((proofB rootK key t role draw).take 31).length by have := hPl2.out; simp; omega)
  have HL32 := Lib.hid (show 32 = ((proofB rootK key t role draw).set q x).length by have := hPl2.out; simp; omega)
  have hGlt := hclW.lt
  have hTD : Tab W.drew rootK := hTW
  have hclD : CL W.drew w.heap.size key t role draw := hclW
  have hownD : Own W.drew (w.heap.size + 1) (.slice A1 32 c1) (proofB rootK key t role draw) := hownW
  have hbadD : Rd W.drew W.drew.heap.size (some ⟨gb, 0, none⟩) ((proofB rootK key t role draw).set q x) := hbadW
  have hbbD : Below w.heap.size w W.drew := hbbW.drew
  have hGD : w.heap.size < W.drew.heap.size := hGlt
  clear hTW hclW hownW hbadW hbbW hrdW
  have h31i : (31 : Int) ≤ (c1 : Int) := by omega
  have h31n : 31 ≤ c1 := by omega
  go_region_held3 (fun w' => w'.cell? ⟨w.heap.size, 0, none⟩ = some (.string key) ∧ w'.cell? ⟨w.heap.size, 1, none⟩ = some (.int .i64 t) ∧ w'.cell? ⟨w.heap.size, 2, none⟩ = some (.string role) ∧ w'.cell? ⟨w.heap.size, 3, none⟩ = some (.int .u64 (draw : Int)))
    (first | exact ⟨z0, z1, z2, z3⟩ | exact CL.cells (by assumption) | exact CL.cells (CL.alloc (by assumption) _) | go_keep)
    (first
      | (go_at_call 19; (refine (holds_no rootK key role t draw (some ⟨gb, 0, none⟩) 32 cb ((proofB rootK key t role draw).set q x) _ hTD (by omega) (by omega) ht ht2 hd hbadD HL32.out HBAD.out).mono ?_); rintro e V1 ⟨rfl, hbV1⟩; have hclV1 : CL V1 w.heap.size key t role draw := hclD.below hbV1; have hTV1 := hTD.below hbV1; have hownV1 := hownD.belowS hbV1; have hbbV1 := hbbD.trans (hbV1.mono hbbD.size); have hrdV1 := (own_rd hownV1).take 31; clear hbadD hTD hclD hownD hbbD hbV1)
      | (go_at_call 19; (refine (holds_no rootK key role t draw A1 31 c1 ((proofB rootK key t role draw).take 31) _ hTV1 (by omega) (by omega) ht ht2 hd hrdV1 HL31.out H31.out).mono ?_); rintro e V2 ⟨rfl, hbV2⟩; have hclV2 : CL V2 w.heap.size key t role draw := hclV1.below hbV2; have hTV2 := hTV1.below hbV2; have hownV2 := hownV1.belowS hbV2; have hbbV2 := hbbV1.trans (hbV2.mono hbbV1.size); have hzV2 := hclV2.lt; clear hclV1 hTV1 hownV1 hbbV1 hbV2 hrdV1)
      | (refine stB (by rfl) (.tmp 107) (.tmp 108) (by rfl) (w.heap.size + 1) _ (proofB rootK key t role draw) (by rfl) (hownV2.alloc _) _ _ 1 1 [0] (by rfl) (by rfl) (Rd.one _ _) (by have := hPl2.out; simp; omega) (by simp; omega) ?_; intro v3 V3 hownV3 hbV3 _ _; have hclV3 : CL V3 w.heap.size key t role draw := (hbV3.block _ (by omega)).trans (hclV2.alloc _); have hTV3 := hTV2.belowB (by omega) ((((Below.refl _ _).alloc (by omega) _).trans hbV3 : Below (w.heap.size + 1) V2 V3)); have hbbV3 := (hbbV2.alloc (by omega) _).trans (hbV3.mono (by omega)); obtain ⟨A3, c3, rfl, _, _, hrdV3⟩ := hownV3.sl (n := 33) (by have := hPl2.out; simp; omega); clear hclV2 hTV2 hownV2 hbbV2 hbV3)
      | (go_at_call 19; (refine (holds_no rootK key role t draw A3 33 c3 (proofB rootK key t role draw ++ [0]) _ hTV3 (by omega) (by omega) ht ht2 hd hrdV3 (by have := hPl2.out; simp; omega) H33.out).mono ?_); rintro e V4 ⟨rfl, hbV4⟩; have hclV4 : CL V4 w.heap.size key t role draw := hclV3.below hbV4; have hTV4 := hTV3.below hbV4; have hbbV4 := hbbV3.trans (hbV4.mono hbbV3.size); clear hclV3 hTV3 hbbV3 hbV4 hrdV3)
      | (go_at_call 13; (refine (awake_any _ hTV4).mono ?_); rintro e V5 ⟨rfl, hbV5⟩; have hclV5 : CL V5 w.heap.size key t role draw := hclV4.below hbV5; have hbbV5 := hbbV4.trans (hbV5.mono hbbV4.size); clear hclV4 hTV4 hbbV4 hbV5))
  go_wp2
  go_ret
  exact ⟨rfl, hbbV5⟩

end Go.Proofs.YtiibpjahmhemmaaDoor
