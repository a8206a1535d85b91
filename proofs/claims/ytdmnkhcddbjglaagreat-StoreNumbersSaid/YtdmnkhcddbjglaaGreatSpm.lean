/-
  space.pageMap as a known function of the evaluator: Get and Pages are reckoned, the loop over the pages beyond is told by the map's number.
-/
import Derived.Test.YtdmnkhcddbjglaaGreatSmap
import Derived.Test.YtdmnkhcddbjglaaGreatSdf
set_option linter.unusedVariables false
set_option linter.unusedSimpArgs false
namespace Go.Ev
open Go Go.RowKit Go.Proofs Go.Proofs.YtdmnkhcddbjglaaGreat
set_option maxRecDepth 100000
noncomputable section

def pmB (call : CallF) (x : AV) (j off n c es : Nat) (st1 : St) : Option (AV × St) :=
  bif Nat.beq n 4080 then
    match (st1.obj j).blk off 4080 with
    | some (.b _ M) => bif Nat.testBit M 0 then
        match call (.func 199) [x] st1 with
        | some (.int .i64 (.ofNat np), st2) => bif Nat.beq (M >>> np) 0 then
            match (st2.obj j).blk off 4080 with
            | some (.b _ M2) => bif Nat.beq M2 M then some (.tup [.slice j off n c es, .int .i64 0], st2) else none
            | _ => none
          else none
        | _ => none
      else none
    | _ => none
  else none

def pmE (call : CallF) : ExtF := fun f args st => bif Nat.beq f 198 then
    match args with
    | [x] => match call (.func 196) [x, .int .i64 0] st with
      | some (.tup [.slice j off n c es, .int .i64 (.ofNat e)], st1) => bif Nat.beq e 0 then pmB call x j off n c es st1 else none
      | _ => none
    | _ => none
  else none

theorem calls_of {P : Program} {ρ : Ren} {w : World} {cargs : Array Value} {R : Value → World → Prop} {f : FuncId} (hent : enters P f = true) (h : FkOk P ρ w cargs R (.func f)) : Calls P f cargs w fun e w' => ∃ vc, e = .returned vc ∧ R vc w' := by
  rcases h with ⟨_, h⟩ | ⟨z, w', h1, _⟩
  · exact h
  · rw [enters_spec hent cargs w] at h1; cases h1

theorem good_drewN {ρ ρ' : Ren} {st st' : St} {w w' : World} (h : Good ρ st w ρ' st' w') (q : Nat) : Good ρ st w ρ' st' (w'.drewN q) := h.congr rfl ⟨rfl, rfl, rfl⟩

theorem pmE_ok {G : Nat} {call : CallF} (hc : CallOk Tryz.prog G call) : ExtOk Tryz.prog G (pmE call) := by
  intro f args st v st' h ρ w cargs hR hG hA
  unfold pmE at h
  obtain ⟨hf, h'⟩ := bif_some h
  clear h; have h := h'; clear h'
  have := Nat.eq_of_beq_eq_true hf
  subst this
  refine .inl ⟨enters_spec (by kernel_rfl) cargs, ?_⟩
  obtain ⟨cl⟩ := cargs
  split at h
  · rename_i x
    cases hA with | cons hx hA =>
    rename_i cx cl
    cases hA
    split at h
    · rename_i j off n c es e st1 hget
      obtain ⟨he, h'⟩ := bif_some h
      clear h; have h := h'; clear h'
      have he := Nat.eq_of_beq_eq_true he
      subst he
      unfold pmB at h
      obtain ⟨hn, h'⟩ := bif_some h
      clear h; have h := h'; clear h'
      have hn := Nat.eq_of_beq_eq_true hn
      split at h
      · rename_i k1 M hb1
        obtain ⟨h0, h'⟩ := bif_some h
        clear h; have h := h'; clear h'
        split at h
        · rename_i np st2 hpages
          obtain ⟨hsh, h'⟩ := bif_some h
          clear h; have h := h'; clear h'
          have hsh := Nat.eq_of_beq_eq_true hsh
          split at h
          · rename_i k2 M2 hb2
            obtain ⟨hM, h'⟩ := bif_some h
            have hM := Nat.eq_of_beq_eq_true hM
            simp only [Option.some.injEq, Prod.mk.injEq] at h'
            obtain ⟨rfl, rfl⟩ := h'
            clear h
            subst hM
            subst hn
            have c1 := calls_of (by kernel_rfl) (hc (.func 196) _ _ _ _ hget ρ w #[cx, .int .i64 0] hR hG (.cons hx (.cons (.int _ _) .nil)))
            refine (pageMap_any w cx M2 np (fun b o cc w2 => ∃ ρ2, VR ρ2 (.slice j off 4080 c es) (.slice (some ⟨b, o, none⟩) 4080 cc) ∧ Good ρ st w ρ2 st2 w2) h0 ?_ (c1.mono ?_)).mono ?_
            · intro p hp _
              have := Nat.testBit_shiftRight (i := np) (j := p - np) M2
              rw [hsh, Nat.zero_testBit, show np + (p - np) = p by omega] at this
              exact this.symm
            · rintro e w1 ⟨vc, rfl, ρ1, hv, hg1⟩
              cases hv with | tup _ a ha =>
              obtain ⟨al⟩ := a
              cases ha with | cons hs ha =>
              cases ha with | cons hi ha =>
              cases ha
              cases hi
              obtain ⟨L, hL, _, hp1⟩ := page_cells hg1.rel hb1 rfl
              obtain ⟨cc, rfl, _⟩ := slice_form hs hL (by omega)
              refine ⟨L.b, L.sh + off, cc, rfl, hp1, fun q => ?_⟩
              have hg1q := good_drewN hg1 q
              have c2 := calls_of (by kernel_rfl) (hc (.func 199) _ _ _ _ hpages ρ1 (w1.drewN q) #[cx] hg1q.rel (hG.ext hg1.ext) (.cons (hx.ext hg1.ext) .nil))
              refine c2.mono ?_
              rintro e w2 ⟨vc, rfl, ρ2, hv, hg2⟩
              cases hv
              obtain ⟨L2, hL2, _, hp2⟩ := page_cells hg2.rel hb2 rfl
              rw [hg2.ext _ _ hL] at hL2
              cases hL2
              exact ⟨rfl, hp2, ρ2, hs.ext hg2.ext, hg1q.trans hg2⟩
            · rintro e w3 ⟨b, o, cc, w2, q, rfl, ⟨ρ2, hs, hg⟩, rfl⟩
              exact ⟨_, rfl, ρ2, .tup _ _ (.cons hs (.cons (.int _ _) .nil)), good_drewN hg q⟩
          · cases h
        · cases h
      · cases h
    · cases h
  · cases h
end
end Go.Ev
