/-
  change.Diff as a known function of the evaluator: two pages of known bytes; the pieces' bytes and the row get names.
-/
import Derived.Test.YtdmnkhcddbjglaaGreatSdn
import Derived.Test.YtdmnkhcddbjglaaGreatSins
import Derived.Test.YtdmnkhcddbjglaaGreatEvKy
set_option linter.unusedVariables false
set_option linter.unusedSimpArgs false
namespace Go.Ev
open Go Go.RowKit Go.Proofs Go.Proofs.YtdmnkhcddbjglaaGreat
set_option maxRecDepth 100000
noncomputable section

/-- one name more, for a block laid since -/
theorem good_more {ρ ρ' : Ren} {st st' : St} {w w' : World} (g : Good ρ st w ρ' st' w') (hr : st'.room = true) {L : Loc} (hL : w.heap.size ≤ L.b) {o : AO} {ob : Obj} (hob : w'.heap[L.b]? = some ob)
    (hfr : ∀ i M, i < st'.next → (st'.heap.get i).live = true → ρ' i = some M → M.b ≠ L.b) (ho : ORel (ρ'.set st'.next L) L o ob) : Good ρ st w (ρ'.set st'.next L) (st'.alloc o) w' := by
  have h := g.rel
  have hn : st'.next < 2 ^ st'.dep := blt_iff.1 hr
  have hext : Ext ρ' (ρ'.set st'.next L) := Ren.ext_set (h.fresh _ (Nat.le_refl _))
  have hget : ∀ j, j < st'.next → (st'.alloc o).heap.get j = st'.heap.get j := fun j hj =>
    T.get_set_ne st'.dep st'.heap st'.next j o h.ok hn (Nat.lt_trans hj hn) (by omega)
  have hgn : (st'.alloc o).heap.get st'.next = o := T.get_set_same st'.heap st'.next o
  have hold : ∀ j, j < st'.next → ρ'.set st'.next L j = ρ' j := fun j hj => Ren.set_ne (by omega)
  have hnx := g.next
  refine ⟨g.ext.trans hext, ⟨h.ok.set _ _, by show st'.next + 1 ≤ 2 ^ st'.dep; omega, ?_, ?_, ?_⟩, g.dep, by show st.next ≤ st'.next + 1; omega, g.size, g.os, g.tape, g.output, g.kept, ?_, ?_, ?_⟩
  · intro i hi
    have hi' : st'.next + 1 ≤ i := hi
    rw [Ren.set_ne (by omega)]
    exact h.fresh i (by omega)
  · intro i hi hl
    have hi' : i < st'.next + 1 := hi
    by_cases e : i = st'.next
    · subst e
      exact ⟨L, ob, Ren.set_same _ _ _, hob, by rw [hgn]; exact ho⟩
    · rw [hget i (by omega)] at hl ⊢
      obtain ⟨M, om, hM, hom, hr⟩ := h.live i (by omega) hl
      exact ⟨M, om, hext _ _ hM, hom, hr.ext hext⟩
  · intro i j M N hi hj hne hl hjw hM hN
    have hi' : i < st'.next + 1 := hi
    have hj' : j < st'.next + 1 := hj
    by_cases e : i = st'.next
    · subst e
      rw [hget j (by omega)] at hjw
      rw [hold j (by omega)] at hN
      rw [Ren.set_same] at hM; cases hM
      exact (hfr j N (by omega) (AO.live_of_writable hjw) hN).symm
    · rw [hget i (by omega)] at hl
      rw [hold i (by omega)] at hM
      by_cases e' : j = st'.next
      · subst e'
        rw [Ren.set_same] at hN; cases hN
        exact hfr i M (by omega) hl hM
      · rw [hget j (by omega)] at hjw
        rw [hold j (by omega)] at hN
        exact h.inj i j M N (by omega) (by omega) hne hl hjw hM hN
  · intro i M hi hw hρ hLb
    have hi' : i < st'.next + 1 := hi
    by_cases e : i = st'.next
    · subst e; rw [Ren.set_same] at hρ; cases hρ; omega
    · rw [hget i (by omega)] at hw ⊢
      rw [hold i (by omega)] at hρ
      exact g.owns i M (by omega) hw hρ hLb
  · intro i hi hd
    rw [hget i (by omega)]; exact g.dead i hi hd
  · intro i hi
    rw [hold i (by omega)]; exact g.old i hi

/-- the pieces' bytes get names; the row's cells -/
def nameP (b : Nat) : List (Nat × Nat) → St → Option (List AV × St)
  | [], st => some ([], st)
  | p :: ps, st => bif st.room then
      match nameP b ps (st.alloc (.bytes true p.2 (cutB b p.1 p.2))) with
      | some (l, st') => some (.int .i64 (.ofNat p.1) :: .slice st.next 0 p.2 p.2 1 :: l, st')
      | none => none
    else none

theorem piece_get {b o n k : Nat} (hk : k < n) (h : o + n ≤ 4080) : ((((pageL b).drop o).take n).map u8V)[k]? = some (.int .u8 (byte b (o + k) : Int)) := by
  have hl : o + k < (pageL b).length := by rw [pageL_length]; omega
  rw [List.getElem?_map, List.getElem?_take, if_pos hk, List.getElem?_drop, List.getElem?_eq_getElem hl]
  simp only [Option.map_some, u8V, pageL_get]

theorem nameP_sound {b g0 : Nat} {ρ : Ren} {st : St} {w w' : World} : ∀ (ps gs : List (Nat × Nat)) {st1 st2 : St} {l : List AV} {ρ1 : Ren}, nameP b ps st1 = some (l, st2) → Good ρ st w ρ1 st1 w' → gs.length = ps.length → (gs.map (·.1)).Nodup →
    (∀ q ∈ gs, q.1 ≠ g0) → (∀ p ∈ ps, 0 < p.2 ∧ p.1 + p.2 ≤ 4080) →
    (∀ (k : Nat) (p q : Nat × Nat), ps[k]? = some p → gs[k]? = some q → w.heap.size ≤ q.1 ∧ Proofs.YtdmnkhcddbjglaaGreat.Own w' w.heap.size (.slice (some ⟨q.1, 0, none⟩) p.2 q.2) (((pageL b).drop p.1).take p.2)) →
    (∀ i M, i < st1.next → (st1.heap.get i).live = true → ρ1 i = some M → M.b ≠ g0 ∧ ∀ q ∈ gs, M.b ≠ q.1) →
    ∃ ρ2, Good ρ st w ρ2 st2 w' ∧ Ext ρ1 ρ2 ∧ VRs ρ2 l (pcells ps gs) ∧ ∀ i M, i < st2.next → (st2.heap.get i).live = true → ρ2 i = some M → M.b ≠ g0
  | [], gs, st1, st2, l, ρ1, h, g, hl, _, _, _, _, hav => by
    simp only [nameP, Option.some.injEq, Prod.mk.injEq] at h
    obtain ⟨rfl, rfl⟩ := h
    exact ⟨ρ1, g, Ext.refl _, by simpa [pcells] using VRs.nil, fun i M h1 h2 h3 => (hav i M h1 h2 h3).1⟩
  | p :: ps, [], st1, st2, l, ρ1, h, g, hl, _, _, _, _, _ => by simp at hl
  | p :: ps, q :: gs, st1, st2, l, ρ1, h, g, hl, hnd, hne, hin, hall, hav => by
    unfold nameP at h
    obtain ⟨hroom, h'⟩ := bif_some h
    clear h; have h := h'; clear h'
    split at h
    · rename_i l' st' hrec
      simp only [Option.some.injEq, Prod.mk.injEq] at h
      obtain ⟨rfl, rfl⟩ := h
      obtain ⟨hq, hown⟩ := hall 0 p q rfl rfl
      obtain ⟨hp0, hp1⟩ := hin p (by simp)
      rw [List.map_cons, List.nodup_cons] at hnd
      have hlen : (((pageL b).drop p.1).take p.2).length = p.2 := by simp [pageL_length]; omega
      obtain ⟨_, hrow⟩ := hown
      rw [hlen] at hrow
      rcases hrow with ⟨e, _⟩ | ⟨gg, cap, cur, e, _, hgb, r1, r2, r3, r4⟩
      · cases e
      · cases e
        have hn : st1.next < 2 ^ st1.dep := blt_iff.1 hroom
        have hcell : ∀ k, k < p.2 → cur[k]? = some (.int .u8 (byte b (p.1 + k) : Int)) := fun k hk => by
          have h1 := piece_get (b := b) hk hp1
          rw [← r4, List.getElem?_take, if_pos (by omega)] at h1
          simpa using h1
        have hg := good_more g hroom (L := ⟨q.1, 0, q.2⟩) (o := .bytes true p.2 (cutB b p.1 p.2)) hq hgb (fun i M h1 h2 h3 => (hav i M h1 h2 h3).2 q (by simp)) (by
          refine ⟨cur, 5, (0, 0), rfl, by simpa using r1, by simp at r3; simp; omega, fun k hk => ?_, fun _ => free_none _⟩
          simp only [Nat.zero_add]
          rw [hcell k hk]
          simp [byteV, byte_cutB, hk])
        obtain ⟨ρ2, h1, h2, h3, h4⟩ := nameP_sound ps gs hrec hg (by simpa using hl) hnd.2 (fun q' h => hne q' (by simp [h])) (fun p' h => hin p' (by simp [h])) (fun k p' q' h5 h6 => hall (k + 1) p' q' (by simpa using h5) (by simpa using h6)) (by
          intro i M hi hlv hM
          have hi' : i < st1.next + 1 := hi
          by_cases e : i = st1.next
          · subst e
            rw [Ren.set_same] at hM; cases hM
            exact ⟨hne q (by simp), fun q' hq' e' => hnd.1 (by rw [List.mem_map]; exact ⟨q', hq', e'.symm⟩)⟩
          · have hget : (st1.alloc (.bytes true p.2 (cutB b p.1 p.2))).heap.get i = st1.heap.get i := T.get_set_ne st1.dep st1.heap st1.next i _ g.rel.ok hn (by omega) (by omega)
            rw [hget] at hlv
            rw [Ren.set_ne (by omega)] at hM
            obtain ⟨h7, h8⟩ := hav i M (by omega) hlv hM
            exact ⟨h7, fun q' hq' => h8 q' (by simp [hq'])⟩)
        have hL : ρ2 st1.next = some ⟨q.1, 0, q.2⟩ := h2 _ _ (Ren.set_same _ _ _)
        refine ⟨ρ2, h1, (Ren.ext_set (g.rel.fresh _ (Nat.le_refl _))).trans h2, ?_, h4⟩
        have hpc : pcells (p :: ps) (q :: gs) = .int .i64 (p.1 : Int) :: .slice (some ⟨q.1, 0, none⟩) p.2 q.2 :: pcells ps gs := by simp [pcells, pcell]
        rw [hpc]
        exact .cons (.int _ _) (.cons (.slice st1.next 0 p.2 p.2 1 q.2 ⟨q.1, 0, q.2⟩ hL hp0 (Nat.le_refl _) (fun h => absurd h (by omega)) (fun _ => ⟨r1, by simp⟩)) h3)
    · cases h

theorem blk_lt {o : AO} {off n k m : Nat} (h : o.blk off n = some (.b k m)) : m < 2 ^ (8 * n) := by
  unfold AO.blk at h
  split at h
  · obtain ⟨_, h'⟩ := bif_some h; cases h'
  · obtain ⟨_, h'⟩ := bif_some h
    cases h'
    exact Nat.mod_lt _ (Nat.two_pow_pos _)
  · cases h

def diffE (F : FuncId) : ExtF := fun f args st => bif Nat.beq f F then
    match args with
    | [.slice j1 off1 n1 _ _, .slice j2 off2 n2 _ _] => bif Nat.beq n1 4080 && Nat.beq n2 4080 then
        match (st.obj j1).blk off1 4080, (st.obj j2).blk off2 4080 with
        | some (.b _ a), some (.b _ b) => match piecesN a b with
          | [] => some (.tup [.snil, .int .i64 0], st)
          | p :: ps => match nameP b (p :: ps) st with
            | some (l, st') => bif st'.room then
                match mkRow (.l l) with
                | some ob => some (.tup [.slice st'.next 0 (Nat.succ ps.length) (Nat.succ ps.length) 2, .int .i64 0], st'.alloc ob)
                | none => none
              else none
            | none => none
        | _, _ => none
      else none
    | _ => none
  else none

theorem page_cells {ρ : Ren} {st : St} {w : World} (hR : Rel ρ st w) {j off a n k : Nat} (hb : (st.obj j).blk off n = some (.b k a)) (hn : n = 4080) :
    ∃ L, ρ j = some L ∧ L.b < w.heap.size ∧ ∀ i (h : i < (pageL a).length), w.cell? ⟨L.b, L.sh + off + i, none⟩ = some (u8V (pageL a)[i]) := by
  obtain ⟨L, hL, vs, hvs, hvl, hcc, hk⟩ := hR.blk hb
  have hk : k = n := hk
  subst hk
  have hcell : ∀ i (h : i < (pageL a).length), w.cell? ⟨L.b, L.sh + off + i, none⟩ = some (u8V (pageL a)[i]) := fun i h => by
    have hi : i < k := by rw [pageL_length] at h; omega
    obtain ⟨v, hv, hr⟩ := hvs.get i (.int .u8 (byte a i : Int)) (by
      simp only [Blk.toL, bytesA]
      rw [List.getElem?_map, bytesL_get _ _ _ hi]
      rfl)
    cases hr
    have := hcc i _ hv
    rw [Loc.at] at this
    rw [Nat.add_assoc, this]
    simp only [u8V, pageL_get]
  refine ⟨L, hL, ?_, hcell⟩
  exact World.block_lt_of_cell? w _ (hcell 0 (by rw [pageL_length]; omega))

theorem slice_form {ρ : Ren} {j off n cp es : Nat} {v : Value} {L : Loc} (h : VR ρ (.slice j off n cp es) v) (hL : ρ j = some L) (hn : 0 < n) : ∃ c, v = .slice (some (L.at off)) n c ∧ n ≤ c := by
  cases h with
  | slice _ _ _ _ _ cap' L' hL' hp hl g0 g1 =>
    rw [hL] at hL'; cases hL'
    refine ⟨cap', rfl, ?_⟩
    by_cases he : es = 0
    · have := g0 he; omega
    · have := (g1 he).1; omega
  | slice0 => omega

theorem diffE_ok {G : Nat} : ExtOk Tryz.prog G (diffE 256) := by
  intro f args st v st' h ρ w cargs hR hG hA
  unfold diffE at h
  obtain ⟨hf, h'⟩ := bif_some h
  clear h; have h := h'; clear h'
  have := Nat.eq_of_beq_eq_true hf
  subst this
  refine .inl ⟨enters_spec (by kernel_rfl) cargs, ?_⟩
  obtain ⟨cl⟩ := cargs
  split at h
  · rename_i j1 off1 n1 cp1 es1 j2 off2 n2 cp2 es2
    obtain ⟨hn, h'⟩ := bif_some h
    clear h; have h := h'; clear h'
    simp only [Bool.and_eq_true] at hn
    obtain ⟨hn1, hn2⟩ := hn
    have hn1 := Nat.eq_of_beq_eq_true hn1
    have hn2 := Nat.eq_of_beq_eq_true hn2
    cases hA with | cons h1 hA =>
    cases hA with | cons h2 hA =>
    cases hA
    split at h
    · rename_i k1 a k2 b hb1 hb2
      obtain ⟨L1, hL1, hlt1, hc1⟩ := page_cells hR hb1 rfl
      obtain ⟨L2, hL2, hlt2, hc2⟩ := page_cells hR hb2 rfl
      have ha := blk_lt hb1
      have hb := blk_lt hb2
      subst hn1
      subst hn2
      obtain ⟨cap1, rfl, _⟩ := slice_form h1 hL1 (by omega)
      obtain ⟨cap2, rfl, hcap⟩ := slice_form h2 hL2 (by omega)
      refine (diff_any w L1.b (L1.sh + off1) cap1 L2.b (L2.sh + off2) cap2 (pageL a) (pageL b) (pageL_length a) (pageL_length b) hlt1 hlt2 hcap hc1 hc2).mono ?_
      rintro e w' ⟨v', rfl, hpc, hbl⟩
      have hps := piecesN_eq rfl ha hb
      have hin := pieces_in a b
      rw [← hps] at hpc hin
      obtain ⟨gs, hgl, hrow, hnil, hnd, hall⟩ := hpc
      split at h
      · rename_i hp0
        simp only [Option.some.injEq, Prod.mk.injEq] at h
        obtain ⟨rfl, rfl⟩ := h
        have : v' = .slice none 0 0 := hnil.2 hp0
        subst this
        exact ⟨_, rfl, ρ, .tup _ _ (.cons .snil (.cons (.int _ _) .nil)), Good.below hR hbl⟩
      · rename_i p ps hp
        rw [hp] at hgl hrow hnil hall hin
        split at h
        · rename_i l st2 hname
          obtain ⟨hroom, h'⟩ := bif_some h
          clear h; have h := h'; clear h'
          split at h
          · rename_i ob hob
            simp only [Option.some.injEq, Prod.mk.injEq] at h
            obtain ⟨rfl, rfl⟩ := h
            have hrow0 := hrow
            obtain ⟨_, hr⟩ := hrow
            rcases hr with ⟨_, h0⟩ | ⟨g, cap, cur, rfl, hbase, hgb, r1, r2, r3, r4⟩
            · simp at h0
            · have hlive : ∀ i M, i < st.next → (st.heap.get i).live = true → ρ i = some M → M.b < w.heap.size := fun i M h1 h2 h3 => hR.lt_size h1 h2 h3
              have hqg : ∀ q ∈ gs, w.heap.size ≤ q.1 ∧ q.1 ≠ g := by
                intro q hq
                obtain ⟨k, hk, rfl⟩ := List.getElem_of_mem hq
                obtain ⟨h5, h6⟩ := hall k ((p :: ps)[k]'(by omega)) gs[k] (List.getElem?_eq_getElem _) (List.getElem?_eq_getElem hk)
                exact ⟨h5, fun e => rows_ne h6 hrow0 (by decide) gs[k].1 rfl (by rw [← e]; rfl)⟩
              obtain ⟨ρ2, g1, g2, g3, g4⟩ := nameP_sound (g0 := g) (p :: ps) gs hname (Good.below hR hbl) hgl hnd (fun q hq => (hqg q hq).2) hin hall (fun i M h1 h2 h3 => by
                have := hlive i M h1 h2 h3
                exact ⟨by omega, fun q hq => by have := (hqg q hq).1; omega⟩)
              have hpl : (pcells (p :: ps) gs).length = (ps.length + 1) * 2 := by
                have : ∀ (x y : List (Nat × Nat)), y.length = x.length → (pcells x y).length = x.length * 2 := by
                  intro x
                  induction x with
                  | nil => intro y h; simp [pcells]
                  | cons c x ih =>
                    intro y h
                    cases y with
                    | nil => simp at h
                    | cons d y =>
                      have := ih y (by simpa using h)
                      simp [pcells, pcell] at this ⊢
                      omega
                simpa using this (p :: ps) gs hgl
              refine ⟨_, rfl, ρ2.set st2.next ⟨g, 0, cap * 2⟩, ?_, good_more g1 hroom (L := ⟨g, 0, cap * 2⟩) hbase hgb (fun i M h1 h2 h3 => g4 i M h1 h2 h3) ?_⟩
              · refine .tup _ _ (.cons ?_ (.cons (.int _ _) .nil))
                exact .slice st2.next 0 (Nat.succ ps.length) (Nat.succ ps.length) 2 cap ⟨g, 0, cap * 2⟩ (Ren.set_same _ _ _) (by omega) (Nat.le_refl _) (fun h => absurd h (by omega)) (fun _ => ⟨by simpa using r1, by simp⟩)
              · refine mkRow_rel_at hob (vs := pcells (p :: ps) gs) (g3.ext (Ren.ext_set (g1.rel.fresh _ (Nat.le_refl _)))) ?_ ?_ ?_ (free_none _) (fun _ _ => free_none _)
                · intro k v hk
                  have hkl := (List.getElem?_eq_some_iff.1 hk).1
                  rw [← r4] at hk
                  rw [List.getElem?_take] at hk
                  split at hk
                  · simpa using hk
                  · cases hk
                · rw [hpl]; simp at r1; omega
                · omega
          · cases h
        · cases h
    · cases h
  · cases h
end
end Go.Ev
