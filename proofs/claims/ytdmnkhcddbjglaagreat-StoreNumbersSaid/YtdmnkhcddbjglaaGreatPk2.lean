/-
  page.Pack and page.Unpack as known functions of the evaluator, given what the calls do.
-/
import Derived.Test.YtdmnkhcddbjglaaGreatPk1
import Derived.Test.YtdmnkhcddbjglaaGreatSdf
import Derived.Test.YtdmnkhcddbjglaaGreatSpt
set_option linter.unusedVariables false
set_option linter.unusedSimpArgs false
namespace Go.Ev
open Go Go.RowKit Go.Proofs Go.Proofs.YtdmnkhcddbjglaaGreat
set_option maxRecDepth 100000
noncomputable section

/-- the bytes of a slice, if they are known -/
def rowN (st : St) : AV → Option (Nat × Nat)
  | .snil => some (0, 0)
  | .slice j off n _ _ => match (st.obj j).blk off n with
    | some (.b _ m) => some (n, m)
    | _ => none
  | _ => none

theorem rowN_ok {ρ : Ren} {st : St} {w : World} (hR : Rel ρ st w) {a : AV} {v : Value} {n m : Nat} (h : rowN st a = some (n, m)) (hv : VR ρ a v) :
    ∃ A c, v = .slice A n c ∧ m < 2 ^ (8 * n) ∧ Rd w w.heap.size A (bl n m) := by
  unfold rowN at h
  split at h
  · simp only [Option.some.injEq, Prod.mk.injEq] at h
    obtain ⟨rfl, rfl⟩ := h
    cases hv
    exact ⟨none, 0, rfl, by decide, fun h => absurd rfl h⟩
  · rename_i j off n' cp es
    split at h
    · rename_i k M hb
      simp only [Option.some.injEq, Prod.mk.injEq] at h
      obtain ⟨rfl, rfl⟩ := h
      have hlt := blk_lt hb
      obtain ⟨L, hL, vs, hvs, hvl, hcc, hk⟩ := hR.blk hb
      have hk : k = n' := hk
      subst hk
      have hcell : ∀ i (h : i < (bl k M).length), w.cell? ⟨L.b, L.sh + off + i, none⟩ = some (u8V (bl k M)[i]) := fun i h => by
        have hi : i < k := by rw [bl_length] at h; omega
        obtain ⟨v, hv, hr⟩ := hvs.get i (.int .u8 (byte M i : Int)) (by
          simp only [Blk.toL, bytesA]
          rw [List.getElem?_map, bytesL_get _ _ _ hi]
          rfl)
        cases hr
        have := hcc i _ hv
        rw [Loc.at] at this
        rw [Nat.add_assoc, this]
        simp only [u8V, bl_get]
      by_cases hz : k = 0
      · subst hz
        have hnil : bl 0 M = [] := rfl
        rw [hnil]
        cases hv with
        | slice _ _ _ _ _ cap' L' hL' hp hl g0 g1 => exact ⟨_, _, rfl, hlt, fun h => absurd rfl h⟩
        | slice0 => exact ⟨_, _, rfl, hlt, fun h => absurd rfl h⟩
      · obtain ⟨c, rfl, _⟩ := slice_form hv hL (by omega)
        refine ⟨_, c, rfl, hlt, fun _ => ⟨L.b, L.sh + off, rfl, ?_, hcell⟩⟩
        exact World.block_lt_of_cell? w _ (hcell 0 (by rw [bl_length]; omega))
    · cases h
  · cases h

/-- the cells of a page: each two slices -/
def cellsN (st : St) : List AV → Option (List NC)
  | [] => some []
  | k :: v :: l => match rowN st k, rowN st v, cellsN st l with
    | some (kn, K), some (vn, V), some cs => some (⟨kn, K, vn, V⟩ :: cs)
    | _, _, _ => none
  | _ => none
def cellsOf (st : St) : AV → Option (Nat × List NC)
  | .snil => some (0, [])
  | .slice j off n _ es => bif Nat.beq es 2 then match (st.obj j).blk off (n * 2) with
      | some (.l l) => match cellsN st l with
        | some cs => some (n, cs)
        | none => none
      | _ => none
    else none
  | _ => none

/-- a page's cells in memory -/
def PgM (w : World) (B : Nat) (A : Option Addr) (cs : List NC) : Prop :=
  ∃ cv : List CV, cv.length = cs.length ∧ RdC w B A cv ∧ ∀ i (h : i < cv.length) (g : i < cs.length), cv[i].kn = cs[i].kn ∧ cv[i].vn = cs[i].vn ∧ Rd w B cv[i].ka cs[i].key ∧ Rd w B cv[i].va cs[i].val

theorem cellsN_ok {ρ : Ren} {st : St} {w : World} (hR : Rel ρ st w) : ∀ {l : List AV} {vs : List Value} {cs : List NC}, cellsN st l = some cs → VRs ρ l vs →
    ∃ cv : List CV, cv.length = cs.length ∧ vs.length = cs.length * 2 ∧ (∀ i (h : i < cv.length), vs[i * 2]? = some cv[i].k ∧ vs[i * 2 + 1]? = some cv[i].v) ∧
      ∀ i (h : i < cv.length) (g : i < cs.length), cv[i].kn = cs[i].kn ∧ cv[i].vn = cs[i].vn ∧ Rd w w.heap.size cv[i].ka cs[i].key ∧ Rd w w.heap.size cv[i].va cs[i].val ∧ cs[i].K < 2 ^ (8 * cs[i].kn) ∧ cs[i].V < 2 ^ (8 * cs[i].vn)
  | [], vs, cs, h, hv => by
    simp only [cellsN, Option.some.injEq] at h
    subst h
    cases hv
    exact ⟨[], rfl, rfl, fun i h => by simp at h, fun i h => by simp at h⟩
  | [_], vs, cs, h, hv => by simp [cellsN] at h
  | a :: b :: l, vs, cs, h, hv => by
    unfold cellsN at h
    split at h
    · rename_i kn K vn V cs' hk hv' hcs
      simp only [Option.some.injEq] at h
      subst h
      cases hv with | cons h1 hv =>
      cases hv with | cons h2 hv =>
      obtain ⟨A, c, rfl, hK, hA⟩ := rowN_ok hR hk h1
      obtain ⟨B, d, rfl, hV, hB⟩ := rowN_ok hR hv' h2
      obtain ⟨cv, e1, e2, e3, e4⟩ := cellsN_ok hR hcs hv
      refine ⟨⟨A, kn, c, B, vn, d⟩ :: cv, by simp [e1], by simp [e2]; omega, fun i h => ?_, fun i h g => ?_⟩
      · cases i with
        | zero => exact ⟨rfl, rfl⟩
        | succ i =>
          obtain ⟨g1, g2⟩ := e3 i (by simpa using h)
          rw [show (i + 1) * 2 = i * 2 + 1 + 1 by omega, show i * 2 + 1 + 1 + 1 = (i * 2 + 1) + 1 + 1 by omega]
          simp only [List.getElem?_cons_succ, List.getElem_cons_succ]
          exact ⟨g1, g2⟩
      · cases i with
        | zero => exact ⟨rfl, rfl, hA, hB, hK, hV⟩
        | succ i => exact e4 i (by simpa using h) (by simpa using g)
    · cases h

theorem cellsOf_ok {ρ : Ren} {st : St} {w : World} (hR : Rel ρ st w) {a : AV} {v : Value} {n : Nat} {cs : List NC} (h : cellsOf st a = some (n, cs)) (hv : VR ρ a v) :
    n = cs.length ∧ (∃ A c, v = .slice A n c ∧ PgM w w.heap.size A cs) ∧ ∀ c ∈ cs, c.K < 2 ^ (8 * c.kn) ∧ c.V < 2 ^ (8 * c.vn) := by
  unfold cellsOf at h
  split at h
  · simp only [Option.some.injEq, Prod.mk.injEq] at h
    obtain ⟨rfl, rfl⟩ := h
    cases hv
    exact ⟨rfl, ⟨none, 0, rfl, [], rfl, fun h => absurd rfl h, fun i h => by simp at h⟩, fun c h => by simp at h⟩
  · rename_i j off n' cp es
    obtain ⟨he, h'⟩ := bif_some h
    clear h; have h := h'; clear h'
    have he := Nat.eq_of_beq_eq_true he
    subst he
    split at h
    · rename_i l hb
      split at h
      · rename_i cs' hcs
        simp only [Option.some.injEq, Prod.mk.injEq] at h
        obtain ⟨rfl, rfl⟩ := h
        obtain ⟨L, hL, vs, hvs, hvl, hcc, hk⟩ := hR.blk hb
        simp only [Blk.toL] at hvs
        obtain ⟨cv, e1, e2, e3, e4⟩ := cellsN_ok hR hcs hvs
        have hn : n' = cs'.length := by omega
        refine ⟨hn, ?_, fun c hc => ?_⟩
        · by_cases hz : n' = 0
          · have hcv : cv = [] := List.eq_nil_of_length_eq_zero (by omega)
            subst hz
            subst hcv
            cases hv with
            | slice _ _ _ _ _ cap' L' hL' hp hl g0 g1 => exact ⟨_, _, rfl, [], e1, fun h => absurd rfl h, fun i h => by simp at h⟩
            | slice0 => exact ⟨_, _, rfl, [], e1, fun h => absurd rfl h, fun i h => by simp at h⟩
          · obtain ⟨c, rfl, _⟩ := slice_form hv hL (by omega)
            have hcell : ∀ i (h : i < cv.length), w.cell? ⟨L.b, L.sh + off + i * 2, none⟩ = some cv[i].k ∧ w.cell? ⟨L.b, L.sh + off + i * 2 + 1, none⟩ = some cv[i].v := fun i h => by
              obtain ⟨g1, g2⟩ := e3 i h
              have h1 := hcc _ _ g1
              have h2 := hcc _ _ g2
              rw [Loc.at] at h1 h2
              exact ⟨by rw [Nat.add_assoc]; exact h1, by rw [Nat.add_assoc, Nat.add_assoc]; exact h2⟩
            refine ⟨_, c, rfl, cv, e1, fun _ => ⟨L.b, L.sh + off, rfl, ?_, hcell⟩, fun i h g => ?_⟩
            · exact World.block_lt_of_cell? w _ (hcell 0 (by omega)).1
            · obtain ⟨a1, a2, a3, a4, _⟩ := e4 i h g
              exact ⟨a1, a2, a3, a4⟩
        · obtain ⟨i, hi, rfl⟩ := List.getElem_of_mem hc
          exact (e4 i (by omega) hi).2.2.2.2
      · cases h
    · cases h
  · cases h

/-- lengths that may be -/
def okN : List NC → Bool
  | [] => true
  | ⟨kn, _, vn, _⟩ :: cs => bif Nat.ble 1 kn && (Nat.ble kn 320 && Nat.ble vn 576) then okN cs else false
theorem okN_ok : ∀ {cs : List NC}, okN cs = true → (∀ c ∈ cs, c.K < 2 ^ (8 * c.kn) ∧ c.V < 2 ^ (8 * c.vn)) → ∀ c ∈ cs, c.Ok
  | [], _, _ => fun c h => by simp at h
  | ⟨kn, K, vn, V⟩ :: cs, h, hl => by
    unfold okN at h
    cases hb : (Nat.ble 1 kn && (Nat.ble kn 320 && Nat.ble vn 576)) with
    | false => rw [hb] at h; cases h
    | true =>
      rw [hb, cond_true] at h
      simp only [Bool.and_eq_true, Nat.ble_eq] at hb
      intro c hc
      rcases List.mem_cons.1 hc with rfl | hc
      · obtain ⟨g1, g2⟩ := hl _ List.mem_cons_self
        exact ⟨hb.1, hb.2.1, hb.2.2, g1, g2⟩
      · exact okN_ok h (fun c hc => hl c (List.mem_cons_of_mem _ hc)) c hc
def cellsC : List NC → Nat → Nat
  | [], a => a
  | ⟨kn, _, vn, _⟩ :: cs, a => cellsC cs (a + (6 + kn + vn))
theorem cellsC_eq : ∀ (cs : List NC) (a : Nat), cellsC cs a = a + 2 * cs.length + bodyS cs
  | [], a => by simp [cellsC, bodyS]
  | ⟨kn, K, vn, V⟩ :: cs, a => by
    have e : bodyS (⟨kn, K, vn, V⟩ :: cs) = (4 + kn + vn) + bodyS cs := by simp [bodyS, NC.sz]
    unfold cellsC
    rw [cellsC_eq cs, e, List.length_cons]
    omega
/-- a page that may be: a leaf or an inner one -/
def pageOk (kind next : Nat) (cs : List NC) : Bool := (Nat.beq kind 1 || Nat.beq kind 2) && (Nat.blt next 4096 && (okN cs && (risesN cs && Nat.ble (cellsC cs 8) 4080)))
structure PageOk (kind next : Nat) (cs : List NC) : Prop where
  kind : kind = 1 ∨ kind = 2
  next : next < 4096
  ok : ∀ c ∈ cs, c.Ok
  rise : Rises cs
  fits : 8 + 2 * cs.length + bodyS cs ≤ 4080
theorem pageOk_ok {kind next : Nat} {cs : List NC} (h : pageOk kind next cs = true) (hl : ∀ c ∈ cs, c.K < 2 ^ (8 * c.kn) ∧ c.V < 2 ^ (8 * c.vn)) : PageOk kind next cs := by
  unfold pageOk at h
  simp only [Bool.and_eq_true, Bool.or_eq_true, Nat.ble_eq] at h
  obtain ⟨h1, h2, h3, h4, h5⟩ := h
  rw [cellsC_eq] at h5
  exact ⟨h1.imp Nat.eq_of_beq_eq_true Nat.eq_of_beq_eq_true, blt_iff.1 h2, okN_ok h3 hl, rises_ok h4, h5⟩

/-- rows of bytes get names -/
def nameB : List (Nat × Nat) → St → Option (List AV × St)
  | [], st => some ([], st)
  | (n, N) :: ps, st => bif st.room then
      match nameB ps (st.alloc (.bytes true n N)) with
      | some (l, st') => some (.slice st.next 0 n n 1 :: l, st')
      | none => none
    else none
def rowV (p g : Nat × Nat) : Value := .slice (some ⟨g.1, 0, none⟩) p.1 g.2
def rowsV (ps gs : List (Nat × Nat)) : List Value := (ps.zip gs).map fun x => rowV x.1 x.2

theorem nameB_sound {g0 : Nat} {ρ : Ren} {st : St} {w w' : World} : ∀ (ps gs : List (Nat × Nat)) {st1 st2 : St} {l : List AV} {ρ1 : Ren}, nameB ps st1 = some (l, st2) → Good ρ st w ρ1 st1 w' → gs.length = ps.length → (gs.map (·.1)).Nodup →
    (∀ q ∈ gs, q.1 ≠ g0) → (∀ p ∈ ps, 0 < p.1) →
    (∀ (k : Nat) (p q : Nat × Nat), ps[k]? = some p → gs[k]? = some q → w.heap.size ≤ q.1 ∧ Proofs.YtdmnkhcddbjglaaGreat.Own w' w.heap.size (.slice (some ⟨q.1, 0, none⟩) p.1 q.2) (bl p.1 p.2)) →
    (∀ i M, i < st1.next → (st1.heap.get i).live = true → ρ1 i = some M → M.b ≠ g0 ∧ ∀ q ∈ gs, M.b ≠ q.1) →
    ∃ ρ2, Good ρ st w ρ2 st2 w' ∧ Ext ρ1 ρ2 ∧ VRs ρ2 l (rowsV ps gs) ∧ ∀ i M, i < st2.next → (st2.heap.get i).live = true → ρ2 i = some M → M.b ≠ g0
  | [], gs, st1, st2, l, ρ1, h, g, hl, _, _, _, _, hav => by
    simp only [nameB, Option.some.injEq, Prod.mk.injEq] at h
    obtain ⟨rfl, rfl⟩ := h
    exact ⟨ρ1, g, Ext.refl _, by simpa [rowsV] using VRs.nil, fun i M h1 h2 h3 => (hav i M h1 h2 h3).1⟩
  | p :: ps, [], st1, st2, l, ρ1, h, g, hl, _, _, _, _, _ => by simp at hl
  | (n, N) :: ps, q :: gs, st1, st2, l, ρ1, h, g, hl, hnd, hne, hin, hall, hav => by
    unfold nameB at h
    obtain ⟨hroom, h'⟩ := bif_some h
    clear h; have h := h'; clear h'
    split at h
    · rename_i l' st' hrec
      simp only [Option.some.injEq, Prod.mk.injEq] at h
      obtain ⟨rfl, rfl⟩ := h
      obtain ⟨hq, hown⟩ := hall 0 (n, N) q rfl rfl
      have hp0 : 0 < n := hin (n, N) (by simp)
      rw [List.map_cons, List.nodup_cons] at hnd
      obtain ⟨_, hrow⟩ := hown
      simp only [bl_length] at hrow
      rcases hrow with ⟨e, _⟩ | ⟨gg, cap, cur, e, _, hgb, r1, r2, r3, r4⟩
      · cases e
      · cases e
        have hn : st1.next < 2 ^ st1.dep := blt_iff.1 hroom
        have hcell : ∀ k, k < n → cur[k]? = some (.int .u8 (byte N k : Int)) := fun k hk => by
          have h1 : ((bl n N).map u8V)[k]? = some (.int .u8 (byte N k : Int)) := by
            have hkl : k < (bl n N).length := by rw [bl_length]; exact hk
            rw [List.getElem?_map, List.getElem?_eq_getElem hkl]
            simp only [Option.map_some, u8V, bl_get]
          rw [← r4, List.getElem?_take, if_pos (by omega)] at h1
          simpa using h1
        have hg := good_more g hroom (L := ⟨q.1, 0, q.2⟩) (o := .bytes true n N) hq hgb (fun i M h1 h2 h3 => (hav i M h1 h2 h3).2 q (by simp)) (by
          refine ⟨cur, 5, (0, 0), rfl, by simpa using r1, by simp at r3; simp; omega, fun k hk => ?_, fun _ => free_none _⟩
          simp only [Nat.zero_add]
          rw [hcell k hk]
          rfl)
        obtain ⟨ρ2, h1, h2, h3, h4⟩ := nameB_sound ps gs hrec hg (by simpa using hl) hnd.2 (fun q' h => hne q' (by simp [h])) (fun p' h => hin p' (by simp [h])) (fun k p' q' h5 h6 => hall (k + 1) p' q' (by simpa using h5) (by simpa using h6)) (by
          intro i M hi hlv hM
          have hi' : i < st1.next + 1 := hi
          by_cases e : i = st1.next
          · subst e
            rw [Ren.set_same] at hM; cases hM
            exact ⟨hne q (by simp), fun q' hq' e' => hnd.1 (by rw [List.mem_map]; exact ⟨q', hq', e'.symm⟩)⟩
          · have hget : (st1.alloc (.bytes true n N)).heap.get i = st1.heap.get i := T.get_set_ne st1.dep st1.heap st1.next i _ g.rel.ok hn (by omega) (by omega)
            rw [hget] at hlv
            rw [Ren.set_ne (by omega)] at hM
            obtain ⟨h7, h8⟩ := hav i M (by omega) hlv hM
            exact ⟨h7, fun q' hq' => h8 q' (by simp [hq'])⟩)
        have hL : ρ2 st1.next = some ⟨q.1, 0, q.2⟩ := h2 _ _ (Ren.set_same _ _ _)
        refine ⟨ρ2, h1, (Ren.ext_set (g.rel.fresh _ (Nat.le_refl _))).trans h2, ?_, h4⟩
        have hpc : rowsV ((n, N) :: ps) (q :: gs) = .slice (some ⟨q.1, 0, none⟩) n q.2 :: rowsV ps gs := by simp [rowsV, rowV]
        rw [hpc]
        exact .cons (.slice st1.next 0 n n 1 q.2 ⟨q.1, 0, q.2⟩ hL hp0 (Nat.le_refl _) (fun h => absurd h (by omega)) (fun _ => ⟨r1, by simp⟩)) h3
    · cases h

/-- a row of its own becomes a name -/
theorem own_name {ρ : Ren} {st : St} {w w' : World} {v : Value} {n N : Nat} (hR : Rel ρ st w) (hroom : st.room = true) (hbl : Below w.heap.size w w') (hown : Proofs.YtdmnkhcddbjglaaGreat.Own w' w.heap.size v (bl n N)) (hn : 0 < n) :
    ∃ ρ', VR ρ' (.slice st.next 0 n n 1) v ∧ Good ρ st w ρ' (st.alloc (.bytes true n N)) w' := by
  obtain ⟨hlen, hrow⟩ := hown
  simp only [bl_length] at hrow
  rcases hrow with ⟨_, e⟩ | ⟨g, cap, cur, rfl, hbase, hgb, r1, r2, r3, r4⟩
  · omega
  · have h1 : nameB [(n, N)] st = some ([.slice st.next 0 n n 1], st.alloc (.bytes true n N)) := by simp [nameB, hroom]
    have hlive : ∀ i M, i < st.next → (st.heap.get i).live = true → ρ i = some M → M.b < w.heap.size := fun i M h1 h2 h3 => hR.lt_size h1 h2 h3
    obtain ⟨ρ2, g1, g2, g3, _⟩ := nameB_sound (g0 := w'.heap.size) [(n, N)] [(g, cap)] h1 (Good.below hR hbl) rfl (by simp) (by
        intro q hq
        simp only [List.mem_cons, List.not_mem_nil, or_false] at hq
        subst hq
        have := (Array.getElem?_eq_some_iff.1 hgb).1
        show g ≠ _
        omega) (by simpa using hn) (by
        intro k p q hp hq
        cases k with
        | zero =>
          simp only [List.getElem?_cons_zero, Option.some.injEq] at hp hq
          subst hp; subst hq
          exact ⟨hbase, by simp [bl_length], .inr ⟨g, cap, cur, by simp [bl_length], hbase, hgb, by simpa [bl_length] using r1, r2, r3, by simpa [bl_length] using r4⟩⟩
        | succ k => simp at hp) (by
        intro i M h1 h2 h3
        have := hlive i M h1 h2 h3
        refine ⟨by have := hbl.size; omega, fun q hq => ?_⟩
        simp only [List.mem_cons, List.not_mem_nil, or_false] at hq
        subst hq
        show M.b ≠ g
        omega)
    cases g3 with | cons h _ => exact ⟨ρ2, h, g1⟩

structure PackAt (P : Program) (f : FuncId) : Prop where
  enter : enters P f = true
  call : ∀ (kind next : Nat) (cs : List NC) (A : Option Addr) (n c : Nat) (w : World), PageOk kind next cs → n = cs.length → PgM w w.heap.size A cs →
    Calls P f #[.agg #[.int .u8 kind, .int .i64 next, .slice A n c]] w fun e w' => (∃ v, e = .returned (.tuple #[v, .int .i64 0]) ∧ Proofs.YtdmnkhcddbjglaaGreat.Own w' w.heap.size v (pgL kind next cs)) ∧ Below w.heap.size w w'

def packE (F : FuncId) : ExtF := fun f args st => bif Nat.beq f F then
    match args with
    | [.agg [.int .u8 (.ofNat kind), .int .i64 (.ofNat next), a]] => match cellsOf st a with
      | some (n, cs) => bif pageOk kind next cs && st.room then some (.tup [.slice st.next 0 4080 4080 1, .int .i64 0], st.alloc (.bytes true 4080 (packN kind next n cs))) else none
      | none => none
    | _ => none
  else none

theorem packE_ok {P : Program} {G F : Nat} (K : PackAt P F) : ExtOk P G (packE F) := by
  intro f args st v st' h ρ w cargs hR hG hA
  unfold packE at h
  obtain ⟨hf, h'⟩ := bif_some h
  clear h; have h := h'; clear h'
  have := Nat.eq_of_beq_eq_true hf
  subst this
  refine .inl ⟨enters_spec K.enter cargs, ?_⟩
  obtain ⟨cl⟩ := cargs
  split at h
  · rename_i kind next a
    cases hA with | cons h1 hA =>
    cases hA
    cases h1 with | agg _ arr h1 =>
    obtain ⟨al⟩ := arr
    cases h1 with | cons hk h1 =>
    cases h1 with | cons hn h1 =>
    cases h1 with | cons ha h1 =>
    cases h1
    cases hk
    cases hn
    split at h
    · rename_i n cs hcs
      obtain ⟨hc, h'⟩ := bif_some h
      clear h; have h := h'; clear h'
      simp only [Bool.and_eq_true] at hc
      simp only [Option.some.injEq, Prod.mk.injEq] at h
      obtain ⟨rfl, rfl⟩ := h
      obtain ⟨hn, ⟨A, c, rfl, hpg⟩, hlt⟩ := cellsOf_ok hR hcs ha
      have hok := pageOk_ok hc.1 hlt
      refine (K.call kind next cs A n c w hok hn hpg).mono ?_
      rintro e w' ⟨⟨v, rfl, hown⟩, hbl⟩
      have e1 := packN_page (kind := kind) (next := next) (cs := cs) (by have := hok.kind; omega) (by have := hok.next; omega) hok.ok hok.fits
      rw [← e1, bl_page, ← hn] at hown
      obtain ⟨ρ', hv, hg⟩ := own_name hR hc.2 hbl hown (by decide)
      exact ⟨_, rfl, ρ', .tup _ _ (.cons hv (.cons (.int _ _) .nil)), hg⟩
    · cases h
  · cases h

/-- the rows of cells: a key, a value, by turns -/
def rowsOf : List NC → List (Nat × Nat)
  | [] => []
  | ⟨kn, K, vn, V⟩ :: cs => (kn, K) :: (vn, V) :: rowsOf cs
theorem rowsOf_len : ∀ cs : List NC, (rowsOf cs).length = cs.length * 2
  | [] => rfl
  | ⟨_, _, _, _⟩ :: cs => by simp [rowsOf, rowsOf_len cs]; omega
/-- the slice v has these cells, all in memory from n₀ on -/
def CellsOut (et n₀ : Nat) (W : World) (v : Value) (cs : List NC) : Prop :=
  ∃ gs : List (Nat × Nat), gs.length = (rowsOf cs).length ∧ W.ownsRow n₀ et 2 v cs.length (rowsV (rowsOf cs) gs) ∧ (v = .slice none 0 0 ↔ cs = []) ∧ (gs.map (·.1)).Nodup ∧
    ∀ (k : Nat) (p g : Nat × Nat), (rowsOf cs)[k]? = some p → gs[k]? = some g → n₀ ≤ g.1 ∧ Proofs.YtdmnkhcddbjglaaGreat.Own W n₀ (.slice (some ⟨g.1, 0, none⟩) p.1 g.2) (bl p.1 p.2)
structure UnpAt (P : Program) (f : FuncId) (et : TypeId) : Prop where
  enter : enters P f = true
  et5 : et ≠ 5
  call : ∀ (kind next : Nat) (cs : List NC) (b o c : Nat) (w : World), PageOk kind next cs → (∀ c ∈ cs, 1 ≤ c.vn) → b < w.heap.size → 4080 ≤ c →
    (∀ k (h : k < (pgL kind next cs).length), w.cell? ⟨b, o + k, none⟩ = some (u8V (pgL kind next cs)[k])) →
    Calls P f #[.slice (some ⟨b, o, none⟩) 4080 c] w fun e w' => (∃ v, e = .returned (.tuple #[.agg #[.int .u8 kind, .int .i64 next, v], .int .i64 0]) ∧ CellsOut et w.heap.size w' v cs) ∧ Below w.heap.size w w'

/-- n cells out of a number -/
def decN : Nat → Nat → List NC
  | 0, _ => []
  | n + 1, X => ⟨X % 65536, (X >>> 32) % 2 ^ (8 * (X % 65536)), (X >>> 16) % 65536, (X >>> (8 * (4 + X % 65536))) % 2 ^ (8 * ((X >>> 16) % 65536))⟩ :: decN n (X >>> (8 * (4 + X % 65536 + (X >>> 16) % 65536)))
theorem decN_len : ∀ (n X : Nat), (decN n X).length = n
  | 0, _ => rfl
  | n + 1, X => by simp [decN, decN_len n]
theorem decN_lt : ∀ (n X : Nat), ∀ c ∈ decN n X, c.K < 2 ^ (8 * c.kn) ∧ c.V < 2 ^ (8 * c.vn)
  | 0, _ => fun c h => by simp [decN] at h
  | n + 1, X => fun c h => by
    unfold decN at h
    rcases List.mem_cons.1 h with rfl | h
    · exact ⟨Nat.mod_lt _ (Nat.two_pow_pos _), Nat.mod_lt _ (Nat.two_pow_pos _)⟩
    · exact decN_lt n _ c h
def valsN : List NC → Bool
  | [] => true
  | ⟨_, _, vn, _⟩ :: cs => bif Nat.ble 1 vn then valsN cs else false
theorem valsN_ok : ∀ {cs : List NC}, valsN cs = true → ∀ c ∈ cs, 1 ≤ c.vn
  | [], _ => fun c h => by simp at h
  | ⟨kn, K, vn, V⟩ :: cs, h => by
    unfold valsN at h
    cases hb : Nat.ble 1 vn with
    | false => rw [hb] at h; cases h
    | true =>
      rw [hb, cond_true] at h
      intro c hc
      rcases List.mem_cons.1 hc with rfl | hc
      · exact Nat.ble_eq.mp hb
      · exact valsN_ok h c hc

def unpB (kind next n B : Nat) (cs : List NC) (st : St) : Option (AV × St) :=
  bif pageOk kind next cs && (valsN cs && Nat.beq B (packN kind next n cs)) then
    match nameB (rowsOf cs) st with
    | some ([], st') => some (.tup [.agg [.int .u8 (.ofNat kind), .int .i64 (.ofNat next), .snil], .int .i64 0], st')
    | some (a :: l, st') => bif st'.room then
        match mkRow (.l (a :: l)) with
        | some ob => some (.tup [.agg [.int .u8 (.ofNat kind), .int .i64 (.ofNat next), .slice st'.next 0 n n 2], .int .i64 0], st'.alloc ob)
        | none => none
      else none
    | none => none
  else none
def unpE (F : FuncId) : ExtF := fun f args st => bif Nat.beq f F then
    match args with
    | [.slice j off n _ _] => bif Nat.beq n 4080 then
        match (st.obj j).blk off 4080 with
        | some (.b _ B) => unpB (B % 65536) ((B >>> 32) % 4294967296) ((B >>> 16) % 65536) B (decN ((B >>> 16) % 65536) (B >>> (8 * (8 + 2 * ((B >>> 16) % 65536))))) st
        | _ => none
      else none
    | _ => none
  else none

theorem rowsOf_in : ∀ {cs : List NC}, (∀ c ∈ cs, c.Ok) → (∀ c ∈ cs, 1 ≤ c.vn) → ∀ p ∈ rowsOf cs, 0 < p.1
  | [], _, _ => fun p h => by simp [rowsOf] at h
  | ⟨kn, K, vn, V⟩ :: cs, h, g => fun p hp => by
    unfold rowsOf at hp
    rcases List.mem_cons.1 hp with rfl | hp
    · exact (h _ List.mem_cons_self).k0
    · rcases List.mem_cons.1 hp with rfl | hp
      · exact g _ List.mem_cons_self
      · exact rowsOf_in (fun c hc => h c (List.mem_cons_of_mem _ hc)) (fun c hc => g c (List.mem_cons_of_mem _ hc)) p hp

theorem unpE_ok {P : Program} {G F et : Nat} (K : UnpAt P F et) : ExtOk P G (unpE F) := by
  intro f args st v st' h ρ w cargs hR hG hA
  unfold unpE at h
  obtain ⟨hf, h'⟩ := bif_some h
  clear h; have h := h'; clear h'
  have := Nat.eq_of_beq_eq_true hf
  subst this
  refine .inl ⟨enters_spec K.enter cargs, ?_⟩
  obtain ⟨cl⟩ := cargs
  split at h
  · rename_i j off n' cp es
    cases hA with | cons h1 hA =>
    cases hA
    obtain ⟨hn, h'⟩ := bif_some h
    clear h; have h := h'; clear h'
    have hn := Nat.eq_of_beq_eq_true hn
    subst hn
    split at h
    · rename_i k B hb
      generalize hkind : B % 65536 = kind at h
      generalize hnext : (B >>> 32) % 4294967296 = next at h
      generalize hcnt : (B >>> 16) % 65536 = n at h
      generalize hX : B >>> (8 * (8 + 2 * n)) = X at h
      have hlt := decN_lt n X
      have hlen := decN_len n X
      generalize decN n X = cs at h hlt hlen
      clear hkind hnext hcnt hX
      unfold unpB at h
      obtain ⟨hc, h'⟩ := bif_some h
      clear h; have h := h'; clear h'
      simp only [Bool.and_eq_true] at hc
      obtain ⟨hp, hvs, hB⟩ := hc
      have hok := pageOk_ok hp hlt
      have hv1 := valsN_ok hvs
      have hB := Nat.eq_of_beq_eq_true hB
      have e1 := packN_page (kind := kind) (next := next) (cs := cs) (by have := hok.kind; omega) (by have := hok.next; omega) hok.ok hok.fits
      rw [hlen, ← hB] at e1
      obtain ⟨L, hL, hltb, hcell⟩ := page_cells hR hb rfl
      obtain ⟨c, rfl, hcap⟩ := slice_form h1 hL (by omega)
      rw [e1] at hcell
      refine (K.call kind next cs L.b (L.sh + off) c w hok hv1 hltb hcap hcell).mono ?_
      rintro e w' ⟨⟨v', rfl, gs, hgl, hrow, hnil, hnd, hall⟩, hbl⟩
      have hin := rowsOf_in hok.ok hv1
      have hrl := rowsOf_len cs
      have hlive : ∀ i M, i < st.next → (st.heap.get i).live = true → ρ i = some M → M.b < w.heap.size := fun i M h1 h2 h3 => hR.lt_size h1 h2 h3
      have hrow0 := hrow
      obtain ⟨_, hr⟩ := hrow
      rcases hr with ⟨rfl, h0⟩ | ⟨g, cap, cur, rfl, hbase, hgb, r1, r2, r3, r4⟩
      · have hcs : cs = [] := List.eq_nil_of_length_eq_zero h0
        subst hcs
        simp only [rowsOf, nameB, Option.some.injEq, Prod.mk.injEq] at h
        obtain ⟨rfl, rfl⟩ := h
        exact ⟨_, rfl, ρ, .tup _ _ (.cons (.agg _ _ (.cons (.int _ _) (.cons (.int _ _) (.cons .snil .nil)))) (.cons (.int _ _) .nil)), Good.below hR hbl⟩
      · have hqg : ∀ q ∈ gs, w.heap.size ≤ q.1 ∧ q.1 ≠ g := by
          intro q hq
          obtain ⟨k, hk, rfl⟩ := List.getElem_of_mem hq
          obtain ⟨h5, h6⟩ := hall k ((rowsOf cs)[k]'(by omega)) gs[k] (List.getElem?_eq_getElem _) (List.getElem?_eq_getElem hk)
          exact ⟨h5, fun e => rows_ne h6 hrow0 (Ne.symm K.et5) gs[k].1 rfl (by rw [← e]; rfl)⟩
        have hpl : (rowsV (rowsOf cs) gs).length = cs.length * 2 := by simp [rowsV, hgl, hrl]
        split at h
        · rename_i st2 hname
          obtain ⟨ρ2, g1, g2, g3, g4⟩ := nameB_sound (g0 := g) (rowsOf cs) gs hname (Good.below hR hbl) hgl hnd (fun q hq => (hqg q hq).2) hin hall (fun i M h1 h2 h3 => by
            have := hlive i M h1 h2 h3
            exact ⟨by omega, fun q hq => by have := (hqg q hq).1; omega⟩)
          have := g3.length
          rw [hpl] at this
          have hcs : cs = [] := List.eq_nil_of_length_eq_zero (by simp at this; omega)
          have := hnil.2 hcs
          cases this
        · rename_i a l st2 hname
          obtain ⟨ρ2, g1, g2, g3, g4⟩ := nameB_sound (g0 := g) (rowsOf cs) gs hname (Good.below hR hbl) hgl hnd (fun q hq => (hqg q hq).2) hin hall (fun i M h1 h2 h3 => by
            have := hlive i M h1 h2 h3
            exact ⟨by omega, fun q hq => by have := (hqg q hq).1; omega⟩)
          obtain ⟨hroom, h'⟩ := bif_some h
          clear h; have h := h'; clear h'
          split at h
          · rename_i ob hob
            simp only [Option.some.injEq, Prod.mk.injEq] at h
            obtain ⟨rfl, rfl⟩ := h
            have hn0 : 0 < n := by
              have := g3.length
              rw [hpl] at this
              simp at this
              omega
            refine ⟨_, rfl, ρ2.set st2.next ⟨g, 0, cap * 2⟩, ?_, good_more g1 hroom (L := ⟨g, 0, cap * 2⟩) hbase hgb (fun i M h1 h2 h3 => g4 i M h1 h2 h3) ?_⟩
            · refine .tup _ _ (.cons (.agg _ _ (.cons (.int _ _) (.cons (.int _ _) (.cons ?_ .nil)))) (.cons (.int _ _) .nil))
              rw [hlen]
              exact .slice st2.next 0 n n 2 cap ⟨g, 0, cap * 2⟩ (Ren.set_same _ _ _) hn0 (Nat.le_refl _) (fun h => absurd h (by omega)) (fun _ => ⟨by omega, by simp⟩)
            · refine mkRow_rel_at hob (vs := rowsV (rowsOf cs) gs) (g3.ext (Ren.ext_set (g1.rel.fresh _ (Nat.le_refl _)))) ?_ ?_ ?_ (free_none _) (fun _ _ => free_none _)
              · intro k v hk
                have hkl := (List.getElem?_eq_some_iff.1 hk).1
                rw [← r4] at hk
                rw [List.getElem?_take] at hk
                split at hk
                · simpa using hk
                · cases hk
              · rw [hpl]; simp; omega
              · omega
          · cases h
        · cases h
    · cases h
  · cases h
end
end Go.Ev
