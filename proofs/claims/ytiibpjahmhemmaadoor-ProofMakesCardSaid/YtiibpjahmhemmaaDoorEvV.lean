/-
  The evaluator: control flow and calls are sound.
-/
import Derived.Test.YtiibpjahmhemmaaDoorEvU
import Derived.Test.YtiibpjahmhemmaaDoorEvO
namespace Go.Ev
open Go
noncomputable section

def Ex.toExit : Ex → Exit
  | .normal => .normal
  | .ret => .ret
  | .exit id => .exit id

/-- as Code.wp; a loop stands behind its first step -/
def wpX (P : Program) (c : Code) (Q : Exit → Act → World → Prop) (a : Act) (w : World) : Prop :=
  match c with
  | .loop c => ∀ (b : Frame) (k : List Item) (cs : List Frame), ∃ e a' w', Q e a' w' ∧ Arrives P (lone (b.at a (.code c :: .inLoop c :: k)) cs w) b k cs e a' w'
  | c => c.wp P Q a w

theorem wp_of_wpX {P : Program} {c : Code} {Q : Exit → Act → World → Prop} {a : Act} {w : World} (h : wpX P c Q a w) : c.wp P Q a w := by
  cases c with
  | loop c => intro b k cs; obtain ⟨e, a', w', hq, harr⟩ := h b k cs; exact ⟨e, a', w', hq, .of_steps (.one step_loop) harr⟩
  | _ => exact h

def EvOk (P : Program) (G : Nat) (ev : Code → Fr → St → Option (Ex × Fr × St)) : Prop :=
  ∀ c fr st ex fr' st', ev c fr st = some (ex, fr', st') → ∀ ρ (a : Act) w, FR ρ fr a.tmps → Rel ρ st w → Glob ρ G →
    wpX P c (fun e a' w' => e = ex.toExit ∧ ∃ ρ', FR ρ' fr' a'.tmps ∧ Good ρ st w ρ' st' w' ∧ a'.defers = a.defers) a w

def resF (tmps : Array Value) : ResultVar → Sem Value
  | .tmp t => pure (tmps.getD t undef)
  | .cell a t => do loadVar t (← asAddr (tmps.getD a undef))

theorem results_eq (fn : Func) (tmps : Array Value) : results fn tmps = (do
  let vs ← fn.results.mapM (resF tmps)
  pure (if h : vs.size = 1 then vs[0] else .tuple vs)) := by
  unfold results
  congr

theorem resA_sound {P : Program} {ρ : Ren} {fr : Fr} {st : St} {tmps : Array Value} {w : World} (hF : FR ρ fr tmps) (hR : Rel ρ st w) :
    ∀ (rs : List ResultVar) (l : List AV), resA P fr st rs = some l → ∃ vs : List Value, VRs ρ l vs ∧
      (rs.mapM (resF tmps) : Sem (List Value)).run P w = .ok vs w := by
  intro rs
  induction rs with
  | nil => intro l h; simp only [resA, Option.some.injEq] at h; subst h; exact ⟨[], .nil, rfl⟩
  | cons r rs ih =>
    intro l h
    cases r with
    | tmp t =>
      simp only [resA] at h
      split at h
      · rename_i r hr
        simp only [Option.some.injEq] at h; subst h
        obtain ⟨vs, h1, h2⟩ := ih r hr
        exact ⟨_, .cons (hF.get t) h1, by simp only [List.mapM_cons, resF, Sem.run_bind, Sem.run_pure, Result.andThen_ok, h2]⟩
      · cases h
    | cell ad t =>
      simp only [resA] at h
      have hx' := hF.get ad
      split at h
      · rename_i i off hx
        rw [hx] at hx'
        obtain ⟨L, hea, hL⟩ : ∃ L : Loc, tmps.getD ad undef = .pointer (some (L.at off)) ∧ ρ i = some L := by
          generalize tmps.getD ad undef = ex at hx'
          cases hx' with | ptr _ _ L hL => exact ⟨L, rfl, hL⟩
        split at h
        · rename_i v hv
          split at h
          · rename_i r hr
            simp only [Option.some.injEq] at h; subst h
            obtain ⟨vs, h1, h2⟩ := ih r hr
            have : ∃ z, (loadVar t (L.at off)).run P w = .ok z w ∧ VR ρ v z := by
              split at hv
              · rename_i n hn
                simp only [Option.map_eq_some_iff] at hv
                obtain ⟨b, hb, rfl⟩ := hv
                obtain ⟨L', hL', us, g1, g2, g3, _⟩ := hR.blk hb
                rw [hL] at hL'; cases hL'
                exact ⟨.agg us.toArray, run_loadVar_agg hn g2 (fun j u hj => by rw [L.at_add]; exact g3 j u hj), .agg _ _ (by simpa using g1)⟩
              · rename_i hn
                obtain ⟨L', hL', u, g1, g2⟩ := hR.cell hv
                rw [hL] at hL'; cases hL'
                exact ⟨u, run_loadVar_one hn g1, g2⟩
              · cases hv
            obtain ⟨z, hz1, hz2⟩ := this
            refine ⟨_, .cons hz2 h1, ?_⟩
            have ha : asAddr (tmps.getD ad undef) = pure (L.at off) := by rw [hea]; rfl
            simp only [List.mapM_cons, resF, Sem.run_bind, Sem.run_pure, Result.andThen_ok, ha, hz1, h2]
          · cases h
        · cases h
      · cases h

theorem oneA_sound {ρ : Ren} : ∀ (l : List AV) (vs : List Value), VRs ρ l vs → VR ρ (oneA l) (if h : vs.toArray.size = 1 then vs.toArray[0] else .tuple vs.toArray)
  | [], [], h => .tup _ _ h
  | [x], [v], .cons h _ => by simpa [oneA] using h
  | x :: y :: l, u :: v :: m, h => by
    simp only [oneA, List.size_toArray, List.length_cons]
    rw [dif_neg (by omega)]
    exact .tup _ _ (by simpa using h)
  | [], _ :: _, h => by cases h
  | [_], [], h => by cases h
  | [_], _ :: _ :: _, .cons _ h => by cases h
  | _ :: _ :: _, [], h => by cases h
  | _ :: _ :: _, [_], .cons _ h => by cases h

theorem mkFr_FR {ρ : Ren} {n : Nat} {args : List AV} {cargs : Array Value} (h : VRs ρ args cargs.toList) (h1 : args.length ≤ n) (h2 : n ≤ 2 ^ depthOf 64 n) :
    FR ρ (mkFr n args) (cargs ++ Array.replicate (n - cargs.size) undef) := by
  have hl : args.length = cargs.size := by rw [← Array.length_toList]; exact VRs.length h
  refine ⟨(T.Ok_full _ _).setL, h2, ?_, ?_⟩
  · show n ≤ _
    simp only [Array.size_append, Array.size_replicate]; omega
  · intro i hi
    have hi : i < n := hi
    show VR ρ (((T.full (depthOf 64 n) undefA).setL 0 args).get i) _
    rw [T.get_setL args _ 0 i (T.Ok_full _ _) (by omega) (by omega)]
    rw [Array.getD_eq_getD_getElem?]
    split
    · rename_i hh
      obtain ⟨v, hv, hvr⟩ := h.get (i - 0) _ (List.getElem?_eq_getElem (by omega))
      have : i < cargs.size := by omega
      rw [Array.getElem?_append_left this]
      rw [Nat.sub_zero, Array.getElem?_toList] at hv
      rw [hv]; exact hvr
    · rename_i hh
      have : cargs.size ≤ i := by omega
      rw [Array.getElem?_append_right this, T.get_full, Array.getElem?_replicate, if_pos (by omega)]
      exact .tup _ _ .nil

theorem callA_sound {P : Program} {G : Nat} {ev : Code → Fr → St → Option (Ex × Fr × St)} (hev : EvOk P G ev) : CallOk P G (callA P ev) := by
  intro f args st v st' h ρ w cargs hR hG hA
  unfold callA at h
  split at h
  · rename_i fn hfn
    split at h
    · rename_i c hc
      obtain ⟨hb, h⟩ := bif_some h
      simp only [Bool.and_eq_true, ble_iff] at hb
      have hF : FR ρ (mkFr fn.ntmps args) (cargs ++ Array.replicate (fn.ntmps - cargs.size) undef) := mkFr_FR hA hb.1 hb.2
      have key : ∀ ex fr' st1, ev c (mkFr fn.ntmps args) st = some (ex, fr', st1) → (ex = .normal ∨ ex = .ret) → (match resA P fr' st1 fn.results.toList with | some l => some (oneA l, st1) | none => none) = some (v, st') →
          Calls P f cargs w fun e w' => ∃ vc ρ', e = .returned vc ∧ VR ρ' v vc ∧ Good ρ st w ρ' st' w' := by
        intro ex fr' st1 he hex hres
        refine calls_of_wp hfn hc ?_
        refine wp_mono (wp_of_wpX (hev c _ st ex fr' st1 he ρ { tmps := cargs ++ Array.replicate (fn.ntmps - cargs.size) undef, defers := [] } w hF hR hG)) ?_
        rintro e a' w' ⟨rfl, ρ', hF', hg, hd⟩
        split at hres
        · rename_i l hl
          simp only [Option.some.injEq, Prod.mk.injEq] at hres
          obtain ⟨rfl, rfl⟩ := hres
          obtain ⟨vs, g1, g2⟩ := resA_sound hF' hg.rel _ _ hl
          have hrun : (results fn a'.tmps).run P w' = .ok (if h : vs.toArray.size = 1 then vs.toArray[0] else .tuple vs.toArray) w' := by
            rw [results_eq, Array.mapM_eq_mapM_toList]
            simp only [Sem.run_bind, Sem.run_map, g2, Sem.run_pure, Result.andThen_ok]
          rcases hex with rfl | rfl
          · exact ⟨hd, _, hrun, _, ρ', rfl, oneA_sound _ _ g1, hg⟩
          · exact ⟨hd, _, hrun, _, ρ', rfl, oneA_sound _ _ g1, hg⟩
        · cases hres
      split at h
      · cases h
      · rename_i x ex fr' st1 hne he
        refine key ex fr' st1 he ?_ h
        cases ex with
        | normal => exact .inl rfl
        | ret => exact .inr rfl
        | exit id => exact (hne _ rfl).elim
      · cases h
    · cases h
  · cases h

theorem evCode_sound {P : Program} {G : Nat} (hmix : P.follows .mixedOrders = true) {ev : Code → Fr → St → Option (Ex × Fr × St)} (hev : EvOk P G ev) : EvOk P G (evCode P G ev) := by
  intro c fr st ex fr' st' h ρ a w hF hR hG
  have hcall := callA_sound hev
  cases c with
  | skip =>
    simp only [evCode, Option.some.injEq, Prod.mk.injEq] at h
    obtain ⟨rfl, rfl, rfl⟩ := h
    exact wp_skip ⟨rfl, ρ, hF, .refl hR, rfl⟩
  | region id ops draw =>
    simp only [evCode] at h
    split at h
    · rename_i f1 s1 h1
      simp only [Option.some.injEq, Prod.mk.injEq] at h
      obtain ⟨rfl, rfl, rfl⟩ := h
      cases draw with
      | true =>
        exact evDraw_sound hcall hmix h1 hF hR hG (fun ρ' a' w' g1 g2 g3 => ⟨rfl, ρ', g1, g2, g3⟩)
      | false =>
        exact wp_region_list (evList_sound hcall _ h1 hF hR hG (fun ρ' a' w' g1 g2 g3 => ⟨rfl, ρ', g1, g2, g3⟩))
    · cases h
  | seq x y =>
    simp only [evCode] at h
    cases h1 : ev x fr st with
    | none => rw [h1] at h; simp at h
    | some r =>
      obtain ⟨ex1, fr1, st1⟩ := r
      rw [h1] at h
      refine wp_seq (wp_mono (wp_of_wpX (hev _ _ _ _ _ _ h1 ρ a w hF hR hG)) ?_)
      rintro e a1 w1 ⟨rfl, ρ1, hF1, hg1, hd1⟩
      cases ex1 with
      | normal =>
        refine wp_mono (wp_of_wpX (hev _ _ _ _ _ _ h ρ1 a1 w1 hF1 hg1.rel (hG.ext hg1.ext))) ?_
        rintro e a2 w2 ⟨rfl, ρ2, hF2, hg2, hd2⟩
        exact ⟨rfl, ρ2, hF2, hg1.trans hg2, hd2.trans hd1⟩
      | ret => simp only [Option.some.injEq, Prod.mk.injEq] at h; obtain ⟨rfl, rfl, rfl⟩ := h; exact ⟨rfl, ρ1, hF1, hg1, hd1⟩
      | exit id => simp only [Option.some.injEq, Prod.mk.injEq] at h; obtain ⟨rfl, rfl, rfl⟩ := h; exact ⟨rfl, ρ1, hF1, hg1, hd1⟩
  | cond c x y =>
    simp only [evCode] at h
    have hv := valA_VR hF hG c
    split at h
    · rename_i hc
      rw [hc] at hv
      exact wp_cond_true (by generalize a.eval c = z at hv; cases hv; rfl) (wp_of_wpX (hev _ _ _ _ _ _ h ρ a w hF hR hG))
    · rename_i hc
      rw [hc] at hv
      exact wp_cond_false (by generalize a.eval c = z at hv; cases hv; rfl) (wp_of_wpX (hev _ _ _ _ _ _ h ρ a w hF hR hG))
    · cases h
  | block id c =>
    simp only [evCode] at h
    cases h1 : ev c fr st with
    | none => rw [h1] at h; simp at h
    | some r =>
      obtain ⟨ex1, fr1, st1⟩ := r
      rw [h1] at h
      refine wp_block (wp_mono (wp_of_wpX (hev _ _ _ _ _ _ h1 ρ a w hF hR hG)) ?_)
      rintro e a1 w1 ⟨rfl, ρ1, hF1, hg1, hd1⟩
      cases ex1 with
      | normal => simp only [Option.some.injEq, Prod.mk.injEq] at h; obtain ⟨rfl, rfl, rfl⟩ := h; exact ⟨rfl, ρ1, hF1, hg1, hd1⟩
      | ret => simp only [Option.some.injEq, Prod.mk.injEq] at h; obtain ⟨rfl, rfl, rfl⟩ := h; exact ⟨rfl, ρ1, hF1, hg1, hd1⟩
      | exit j =>
        simp only [] at h
        cases hj : Nat.beq j id with
        | true =>
          rw [hj] at h
          simp only [cond_true, Option.some.injEq, Prod.mk.injEq] at h
          obtain ⟨rfl, rfl, rfl⟩ := h
          simp only [Ex.toExit, Exit.inBlock, beq_iff.1 hj, if_true]
          exact ⟨trivial, ρ1, hF1, hg1, hd1⟩
        | false =>
          rw [hj] at h
          simp only [cond_false, Option.some.injEq, Prod.mk.injEq] at h
          obtain ⟨rfl, rfl, rfl⟩ := h
          have : j ≠ id := fun e => by rw [beq_iff.2 e] at hj; cases hj
          simp only [Ex.toExit, Exit.inBlock, this, if_false]
          exact ⟨trivial, ρ1, hF1, hg1, hd1⟩
  | loop c =>
    simp only [evCode] at h
    cases h1 : ev c fr st with
    | none => rw [h1] at h; simp at h
    | some r =>
      obtain ⟨ex1, fr1, st1⟩ := r
      rw [h1] at h
      intro b k cs
      obtain ⟨e, a1, w1, ⟨rfl, ρ1, hF1, hg1, hd1⟩, harr⟩ := wp_of_wpX (hev _ _ _ _ _ _ h1 ρ a w hF hR hG) b (.inLoop c :: k) cs
      cases ex1 with
      | normal =>
        obtain ⟨e, a2, w2, ⟨rfl, ρ2, hF2, hg2, hd2⟩, harr2⟩ := hev _ _ _ _ _ _ h ρ1 a1 w1 hF1 hg1.rel (hG.ext hg1.ext) b k cs
        exact ⟨_, a2, w2, ⟨rfl, ρ2, hF2, hg1.trans hg2, hd2.trans hd1⟩, .of_steps (Steps.trans harr (.one step_inLoop)) harr2⟩
      | ret => simp only [Option.some.injEq, Prod.mk.injEq] at h; obtain ⟨rfl, rfl, rfl⟩ := h; exact ⟨_, a1, w1, ⟨rfl, ρ1, hF1, hg1, hd1⟩, .pass (x := .inLoop c) rfl (fun _ _ => .inl (by simp [Ex.toExit])) harr⟩
      | exit id => simp only [Option.some.injEq, Prod.mk.injEq] at h; obtain ⟨rfl, rfl, rfl⟩ := h; exact ⟨_, a1, w1, ⟨rfl, ρ1, hF1, hg1, hd1⟩, .pass (x := .inLoop c) rfl (fun _ _ => .inl (by simp [Ex.toExit])) harr⟩
  | exit id =>
    simp only [evCode, Option.some.injEq, Prod.mk.injEq] at h
    obtain ⟨rfl, rfl, rfl⟩ := h
    exact wp_exit ⟨rfl, ρ, hF, .refl hR, rfl⟩
  | ret =>
    simp only [evCode, Option.some.injEq, Prod.mk.injEq] at h
    obtain ⟨rfl, rfl, rfl⟩ := h
    exact wp_ret ⟨rfl, ρ, hF, .refl hR, rfl⟩
  | _ => simp [evCode] at h

theorem evN_sound {P : Program} {G : Nat} (hmix : P.follows .mixedOrders = true) : ∀ n, EvOk P G (evN P G n)
  | 0 => fun _ _ _ _ _ _ h => by cases h
  | n + 1 => evCode_sound hmix (evN_sound hmix n)

theorem evCall_sound {P : Program} {G : Nat} (hmix : P.follows .mixedOrders = true) (n : Nat) : CallOk P G (evCall P G n) := callA_sound (evN_sound hmix n)

end
end Go.Ev
