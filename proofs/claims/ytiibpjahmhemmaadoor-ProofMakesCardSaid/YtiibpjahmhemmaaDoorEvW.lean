/-
  The evaluator with data that is not known: the looks that compare data are not made but told, as pairs; whoever shows each pair to be alike has the run.
-/
import Derived.Test.YtiibpjahmhemmaaDoorEvV
namespace Go.Ev
open Go
noncomputable section

/-! ### What a piece of code does, as a relation of abstract states -/
def Tr (P : Program) (G : Nat) (c : Code) (fr : Fr) (st : St) (ex : Ex) (fr' : Fr) (st' : St) : Prop :=
  ∀ ρ (a : Act) w, FR ρ fr a.tmps → Rel ρ st w → Glob ρ G →
    wpX P c (fun e a' w' => e = ex.toExit ∧ ∃ ρ', FR ρ' fr' a'.tmps ∧ Good ρ st w ρ' st' w' ∧ a'.defers = a.defers) a w

section tr
variable {P : Program} {G : Nat}

theorem EvOk.tr {ev : Code → Fr → St → Option (Ex × Fr × St)} (h : EvOk P G ev) {c : Code} {fr fr' : Fr} {st st' : St} {ex : Ex} (he : ev c fr st = some (ex, fr', st')) :
    Tr P G c fr st ex fr' st' := h c fr st ex fr' st' he

theorem evOk_of_tr {ev : Code → Fr → St → Option (Ex × Fr × St)} (h : ∀ c fr st ex fr' st', ev c fr st = some (ex, fr', st') → Tr P G c fr st ex fr' st') : EvOk P G ev := h

theorem Tr.skip {fr : Fr} {st : St} : Tr P G .skip fr st .normal fr st :=
  fun ρ a w hF hR hG => wp_skip ⟨rfl, ρ, hF, .refl hR, rfl⟩
theorem Tr.exit {id : Nat} {fr : Fr} {st : St} : Tr P G (.exit id) fr st (.exit id) fr st :=
  fun ρ a w hF hR hG => wp_exit ⟨rfl, ρ, hF, .refl hR, rfl⟩
theorem Tr.ret {fr : Fr} {st : St} : Tr P G .ret fr st .ret fr st :=
  fun ρ a w hF hR hG => wp_ret ⟨rfl, ρ, hF, .refl hR, rfl⟩

theorem Tr.seq {x y : Code} {fr fr1 fr2 : Fr} {st st1 st2 : St} {ex : Ex} (h1 : Tr P G x fr st .normal fr1 st1) (h2 : Tr P G y fr1 st1 ex fr2 st2) : Tr P G (.seq x y) fr st ex fr2 st2 := by
  intro ρ a w hF hR hG
  refine wp_seq (wp_mono (wp_of_wpX (h1 ρ a w hF hR hG)) ?_)
  rintro e a1 w1 ⟨rfl, ρ1, hF1, hg1, hd1⟩
  refine wp_mono (wp_of_wpX (h2 ρ1 a1 w1 hF1 hg1.rel (hG.ext hg1.ext))) ?_
  rintro e a2 w2 ⟨rfl, ρ2, hF2, hg2, hd2⟩
  exact ⟨rfl, ρ2, hF2, hg1.trans hg2, hd2.trans hd1⟩

theorem Tr.seqX {x y : Code} {fr fr1 : Fr} {st st1 : St} {ex : Ex} (hex : ex ≠ .normal) (h1 : Tr P G x fr st ex fr1 st1) : Tr P G (.seq x y) fr st ex fr1 st1 := by
  intro ρ a w hF hR hG
  refine wp_seq (wp_mono (wp_of_wpX (h1 ρ a w hF hR hG)) ?_)
  rintro e a1 w1 ⟨rfl, ρ1, hF1, hg1, hd1⟩
  cases ex with
  | normal => exact (hex rfl).elim
  | ret => exact ⟨rfl, ρ1, hF1, hg1, hd1⟩
  | exit id => exact ⟨rfl, ρ1, hF1, hg1, hd1⟩

theorem Tr.cond {c : Operand} {x y : Code} {fr fr1 : Fr} {st st1 : St} {ex : Ex} {b : Bool} (hc : valA G fr c = .bool b) (h : Tr P G (if b then x else y) fr st ex fr1 st1) : Tr P G (.cond c x y) fr st ex fr1 st1 := by
  intro ρ a w hF hR hG
  have hv := valA_VR hF hG c
  rw [hc] at hv
  exact wp_cond (by generalize a.eval c = z at hv; cases hv; rfl) (wp_of_wpX (h ρ a w hF hR hG))

def Ex.out (id : Nat) : Ex → Ex
  | .exit j => bif Nat.beq j id then .normal else .exit j
  | e => e

theorem Tr.block {id : Nat} {c : Code} {fr fr1 : Fr} {st st1 : St} {ex : Ex} (h : Tr P G c fr st ex fr1 st1) : Tr P G (.block id c) fr st (ex.out id) fr1 st1 := by
  intro ρ a w hF hR hG
  refine wp_block (wp_mono (wp_of_wpX (h ρ a w hF hR hG)) ?_)
  rintro e a1 w1 ⟨rfl, ρ1, hF1, hg1, hd1⟩
  cases ex with
  | normal => exact ⟨rfl, ρ1, hF1, hg1, hd1⟩
  | ret => exact ⟨rfl, ρ1, hF1, hg1, hd1⟩
  | exit j =>
    cases hj : Nat.beq j id with
    | true =>
      simp only [Ex.toExit, Exit.inBlock, Ex.out, beq_iff.1 hj, if_true, beq_iff.2 rfl, cond_true]
      exact ⟨trivial, ρ1, hF1, hg1, hd1⟩
    | false =>
      have : j ≠ id := fun e => by rw [beq_iff.2 e] at hj; cases hj
      simp only [Ex.toExit, Exit.inBlock, Ex.out, this, if_false, hj, cond_false]
      exact ⟨trivial, ρ1, hF1, hg1, hd1⟩

theorem Tr.loop {c : Code} {fr fr1 fr2 : Fr} {st st1 st2 : St} {ex : Ex} (h1 : Tr P G c fr st .normal fr1 st1) (h2 : Tr P G (.loop c) fr1 st1 ex fr2 st2) : Tr P G (.loop c) fr st ex fr2 st2 := by
  intro ρ a w hF hR hG b k cs
  obtain ⟨e, a1, w1, ⟨rfl, ρ1, hF1, hg1, hd1⟩, harr⟩ := wp_of_wpX (h1 ρ a w hF hR hG) b (.inLoop c :: k) cs
  obtain ⟨e, a2, w2, ⟨rfl, ρ2, hF2, hg2, hd2⟩, harr2⟩ := h2 ρ1 a1 w1 hF1 hg1.rel (hG.ext hg1.ext) b k cs
  exact ⟨_, a2, w2, ⟨rfl, ρ2, hF2, hg1.trans hg2, hd2.trans hd1⟩, .of_steps (Steps.trans harr (.one step_inLoop)) harr2⟩

theorem Tr.loopX {c : Code} {fr fr1 : Fr} {st st1 : St} {ex : Ex} (hex : ex ≠ .normal) (h1 : Tr P G c fr st ex fr1 st1) : Tr P G (.loop c) fr st ex fr1 st1 := by
  intro ρ a w hF hR hG b k cs
  obtain ⟨e, a1, w1, ⟨rfl, ρ1, hF1, hg1, hd1⟩, harr⟩ := wp_of_wpX (h1 ρ a w hF hR hG) b (.inLoop c :: k) cs
  cases ex with
  | normal => exact (hex rfl).elim
  | ret => exact ⟨_, a1, w1, ⟨rfl, ρ1, hF1, hg1, hd1⟩, .pass (x := .inLoop c) rfl (fun _ _ => .inl (by simp [Ex.toExit])) harr⟩
  | exit id => exact ⟨_, a1, w1, ⟨rfl, ρ1, hF1, hg1, hd1⟩, .pass (x := .inLoop c) rfl (fun _ _ => .inl (by simp [Ex.toExit])) harr⟩

theorem Tr.region {call : CallF} (hcall : CallOk P G call) {id : Nat} {ops : Array Oper} {fr fr1 : Fr} {st st1 : St} (h : evList P G call ops ops.toList fr st = some (fr1, st1)) :
    Tr P G (.region id ops false) fr st .normal fr1 st1 :=
  fun _ _ _ hF hR hG => wp_region_list (evList_sound hcall _ h hF hR hG (fun ρ' _ _ g1 g2 g3 => ⟨rfl, ρ', g1, g2, g3⟩))

theorem Tr.draw {call : CallF} (hcall : CallOk P G call) (hmix : P.follows .mixedOrders = true) {id : Nat} {ops : Array Oper} {fr fr1 : Fr} {st st1 : St} (h : evDraw P G call ops fr st = some (fr1, st1)) :
    Tr P G (.region id ops true) fr st .normal fr1 st1 :=
  fun _ _ _ hF hR hG => evDraw_sound hcall hmix h hF hR hG (fun ρ' _ _ g1 g2 g3 => ⟨rfl, ρ', g1, g2, g3⟩)

end tr

/-! ### Slots that are forgotten -/
def setP (t : T AV) : List (Nat × AV) → T AV
  | [] => t
  | (i, v) :: l => setP (t.set i v) l

def frOf (lim d : Nat) (l : List (Nat × AV)) : Fr := ⟨lim, d, setP (T.full d .top) l⟩

def pick (fr : Fr) : List Nat → List (Nat × AV)
  | [] => []
  | i :: l => (i, fr.get i) :: pick fr l

/-- only these slots are kept -/
def Fr.keep (fr : Fr) (ids : List Nat) : Fr := match fr with | ⟨lim, d, t⟩ => frOf lim d (pick ⟨lim, d, t⟩ ids)

theorem FR.keep {ρ : Ren} {fr : Fr} {tmps : Array Value} (h : FR ρ fr tmps) (ids : List Nat) : FR ρ (fr.keep ids) tmps := by
  obtain ⟨lim, d, t⟩ := fr
  have key : ∀ (l : List Nat) (acc : T AV), T.Ok d acc → (∀ j, j < lim → VR ρ (acc.get j) (tmps.getD j undef)) →
      T.Ok d (setP acc (pick ⟨lim, d, t⟩ l)) ∧ ∀ j, j < lim → VR ρ ((setP acc (pick ⟨lim, d, t⟩ l)).get j) (tmps.getD j undef) := by
    intro l
    induction l with
    | nil => intro acc h1 h2; exact ⟨h1, h2⟩
    | cons i l ih =>
      intro acc h1 h2
      refine ih _ (h1.set i _) (fun j hj => ?_)
      have hlim : lim ≤ 2 ^ d := h.lim
      by_cases hi : i < 2 ^ d
      · by_cases e : i = j
        · subst e; rw [T.get_set_same]; exact h.get i
        · rw [T.get_set_ne d acc i j _ h1 hi (by omega) e]; exact h2 j hj
      · have : (⟨lim, d, t⟩ : Fr).get i = .top := by
          rw [Fr.get_eq]
          have : Nat.blt i lim = false := by cases hb : Nat.blt i lim with | false => rfl | true => have := blt_iff.1 hb; omega
          simp only [this, cond_false]
        rw [this]
        have aux : ∀ (t : T AV) (i j : Nat), (t.set i .top).get j = .top ∨ (t.set i .top).get j = t.get j := by
          intro t
          induction t with
          | leaf v => intro i j; exact .inl rfl
          | node l r ihl ihr =>
            intro i j
            rw [T.set_node]
            cases Nat.beq (i % 2) 0 <;> simp only [cond_true, cond_false, T.get_node] <;> cases Nat.beq (j % 2) 0 <;> simp only [cond_true, cond_false]
            · exact ihr _ _
            · exact .inr trivial
            · exact .inr trivial
            · exact ihl _ _
        rcases aux acc i j with e | e <;> rw [e]
        · exact .top _
        · exact h2 j hj
  obtain ⟨k1, k2⟩ := key ids (T.full d .top) (T.Ok_full _ _) (fun j _ => by rw [T.get_full]; exact .top _)
  exact ⟨k1, h.lim, h.size, k2⟩

theorem Tr.keep {P : Program} {G : Nat} {c : Code} {fr fr1 : Fr} {st st1 : St} {ex : Ex} (h : Tr P G c fr st ex fr1 st1) (ids : List Nat) : Tr P G c fr st ex (fr1.keep ids) st1 := by
  intro ρ a w hF hR hG
  have := h ρ a w hF hR hG
  cases c with
  | loop c => intro b k cs; obtain ⟨e, a', w', ⟨h1, ρ', h2, h3⟩, harr⟩ := this b k cs; exact ⟨e, a', w', ⟨h1, ρ', h2.keep ids, h3⟩, harr⟩
  | _ => exact wp_mono (c := _) this (fun e a' w' ⟨h1, ρ', h2, h3⟩ => ⟨h1, ρ', h2.keep ids, h3⟩)

theorem Tr.of_keep {P : Program} {G : Nat} {c : Code} {fr fr1 : Fr} {st st1 : St} {ex : Ex} (ids : List Nat) (h : Tr P G c (fr.keep ids) st ex fr1 st1) : Tr P G c fr st ex fr1 st1 :=
  fun ρ a w hF hR hG => h ρ a w (hF.keep ids) hR hG

/-! ### Looks that are told, not made -/
abbrev PL := List (AV × AV)

def AllEq : PL → Prop
  | [] => True
  | (a, b) :: l => a = b ∧ AllEq l

theorem AllEq.app : ∀ {l m : PL}, AllEq (l ++ m) → AllEq l ∧ AllEq m
  | [], _, h => ⟨trivial, h⟩
  | (_, _) :: _, _, h => ⟨⟨h.1, (AllEq.app h.2).1⟩, (AllEq.app h.2).2⟩

mutual
theorem AV.same_refl : ∀ a : AV, AV.same a a = true
  | .bool a => by cases a <;> rfl
  | .int k a => by simp [AV.same, kindEq, eqI_eq]
  | .str n b => by simp [AV.same]
  | .pnil => rfl
  | .ptr i o => by simp [AV.same]
  | .snil => rfl
  | .slice a b c d e => by simp [AV.same]
  | .mnil => rfl
  | .map i => by simp [AV.same]
  | .fnil => rfl
  | .inil => rfl
  | .func f a b => by simp [AV.same, AV.sames_refl a, AV.sames_refl b]
  | .iface t v => by simp [AV.same, AV.same_refl v]
  | .agg l => by simp [AV.same, AV.sames_refl l]
  | .tup l => by simp [AV.same, AV.sames_refl l]
  | .top => rfl
theorem AV.sames_refl : ∀ l : List AV, AV.sames l l = true
  | [] => rfl
  | a :: l => by simp [AV.sames, AV.same_refl a, AV.sames_refl l]
end

def histP (P : Program) (G : Nat) (ops : Array Oper) (o : Oper) (fr : Fr) (r : AV) (mask : Nat) : List (Nat × St) → Option PL
  | [] => some []
  | (h, S) :: l => bif Nat.testBit mask h then some [] else match opRead P o.op (valR G (o.looksAt ops) fr) S with
    | some r' => match histP P G ops o fr r mask l with
      | some ps => some ((r, r') :: ps)
      | none => none
    | none => none

theorem histP_ok {P : Program} {G : Nat} {ops : Array Oper} {o : Oper} {fr : Fr} {r : AV} {mask : Nat} : ∀ {l : List (Nat × St)} {ps : PL}, histP P G ops o fr r mask l = some ps → AllEq ps → histOk P G ops o fr r mask l = true := by
  intro l
  induction l with
  | nil => intro ps _ _; rfl
  | cons x l ih =>
    intro ps h ha
    obtain ⟨q, S⟩ := x
    simp only [histP] at h
    simp only [histOk]
    cases hb : Nat.testBit mask q with
    | true => rfl
    | false =>
      rw [hb] at h
      simp only [cond_false] at h ⊢
      split at h
      · rename_i r' hr
        split at h
        · rename_i ps' hps
          simp only [Option.some.injEq] at h; subst h
          obtain ⟨h1, h2⟩ := ha
          simp only [readSame, hr, Bool.and_eq_true]
          exact ⟨by rw [h1]; exact AV.same_refl _, ih hps h2⟩
        · cases h
      · cases h

def rdsP (P : Program) (G : Nat) (ops : Array Oper) (mask : Nat) (st : St) : List (Nat × Oper × Fr × AV) → Option PL
  | [] => some []
  | (q, o, fr, r) :: l => match rdsP P G ops mask st l with
    | some ps => bif Nat.testBit mask q then some ps else match opRead P o.op (valR G (o.looksAt ops) fr) st with
      | some r' => some ((r, r') :: ps)
      | none => none
    | none => none

theorem rdsP_ok {P : Program} {G : Nat} {ops : Array Oper} {mask : Nat} {st : St} : ∀ {l : List (Nat × Oper × Fr × AV)} {ps : PL}, rdsP P G ops mask st l = some ps → AllEq ps → rdsOk P G ops mask st l = true := by
  intro l
  induction l with
  | nil => intro ps _ _; rfl
  | cons x l ih =>
    intro ps h ha
    obtain ⟨q, o, fr, r⟩ := x
    simp only [rdsP] at h
    simp only [rdsOk]
    split at h
    · rename_i ps' hps
      cases hb : Nat.testBit mask q with
      | true =>
        rw [hb] at h
        simp only [cond_true, Option.some.injEq] at h; subst h
        simp [ih hps ha]
      | false =>
        rw [hb] at h
        simp only [cond_false] at h
        split at h
        · rename_i r' hr
          simp only [Option.some.injEq] at h; subst h
          obtain ⟨h1, h2⟩ := ha
          simp only [cond_false, readSame, hr, Bool.and_eq_true]
          exact ⟨by rw [h1]; exact AV.same_refl _, ih hps h2⟩
        · cases h
    · cases h

def dPlus (ps : PL) (r : Option (AV × DS)) : Option (DS × PL) :=
  match r with
  | some (_, s) => some (s, ps)
  | none => none

def dReadP (D : DIn) (p mask : Nat) (o : Oper) (s : DS) : Option (DS × PL) :=
  match s with
  | ⟨fr, st, pend, hist, rds, softs, nid⟩ => match opRead D.P o.op (valR D.G (o.looksAt D.ops) fr) st with
    | some r => match histP D.P D.G D.ops o fr r mask hist with
      | some ps => dPlus ps (dFin o fr r st pend hist ((p, o, fr, r) :: rds) softs nid)
      | none => none
    | none => none

def dHeavyP (D : DIn) (p mask : Nat) (o : Oper) (s : DS) : Option (DS × PL) :=
  match s with
  | ⟨fr, st, pend, hist, rds, softs, nid⟩ => bif softsOk mask softs pend then
      match opHeavy D.P D.call o.op (valR D.G (o.looksAt D.ops) fr) (matSt mask st pend) with
      | some (r, st') => match rdsP D.P D.G D.ops mask st' rds with
        | some ps => dPlus ps (dFin o fr r st' (restP mask pend) ((p, st) :: hist) rds softs nid)
        | none => none
      | none => none
    else none

def dClsP (c : Cls) (D : DIn) (p mask : Nat) (o : Oper) (s : DS) : Option (DS × PL) :=
  match c with
  | .pure => dPlus [] (dPure D p mask o s)
  | .read => dReadP D p mask o s
  | .alloc => dPlus [] (dAlloc D p mask o s)
  | .soft => dPlus [] (dSoft D p mask o s)
  | .heavy => dHeavyP D p mask o s

def dStepP (D : DIn) (p mask : Nat) (o : Oper) (s : DS) : Option (DS × PL) :=
  match wantedA D.ops s.frA o with
  | none => none
  | some false => dPlus [] (dSkip o s)
  | some true => dClsP (clsOf D.P o.op) D p mask o s

theorem dPlus_some {ps qs : PL} {r : Option (AV × DS)} {s : DS} (h : dPlus ps r = some (s, qs)) : qs = ps ∧ ∃ v, r = some (v, s) := by
  cases r with
  | none => cases h
  | some x => obtain ⟨v, t⟩ := x; simp only [dPlus, Option.some.injEq, Prod.mk.injEq] at h; obtain ⟨rfl, rfl⟩ := h; exact ⟨rfl, v, rfl⟩

theorem dStepP_ok {D : DIn} {p mask : Nat} {o : Oper} {s s' : DS} {ps : PL} (h : dStepP D p mask o s = some (s', ps)) (ha : AllEq ps) : ∃ v, dStep D p mask o s = some (v, s') := by
  unfold dStepP at h
  unfold dStep
  split at h
  · cases h
  · rename_i hw; rw [hw]; exact (dPlus_some h).2
  · rename_i hw
    rw [hw]
    simp only []
    generalize clsOf D.P o.op = c at h
    cases c with
    | pure => exact (dPlus_some h).2
    | alloc => exact (dPlus_some h).2
    | soft => exact (dPlus_some h).2
    | read =>
      obtain ⟨fr, st, pend, hist, rds, softs, nid⟩ := s
      simp only [dClsP, dReadP] at h
      simp only [dCls, dRead]
      split at h
      · rename_i r hr
        split at h
        · rename_i ps' hps
          obtain ⟨rfl, v, hv⟩ := dPlus_some h
          rw [hr]
          simp only [histP_ok hps ha, cond_true]
          exact ⟨v, hv⟩
        · cases h
      · cases h
    | heavy =>
      obtain ⟨fr, st, pend, hist, rds, softs, nid⟩ := s
      simp only [dClsP, dHeavyP] at h
      simp only [dCls, dHeavy]
      obtain ⟨hs, h⟩ := bif_some h
      rw [hs]
      simp only [cond_true]
      split at h
      · rename_i r st' hr
        split at h
        · rename_i ps' hps
          obtain ⟨rfl, v, hv⟩ := dPlus_some h
          rw [hr]
          simp only [rdsP_ok hps ha, cond_true]
          exact ⟨v, hv⟩
        · cases h
      · cases h

def thenDP (k : DS → Option (DS × PL)) (r : Option (DS × PL)) : Option (DS × PL) :=
  match r with
  | some (s, ps) => match k s with
    | some (s', qs) => some (s', ps ++ qs)
    | none => none
  | none => none

def dGoP (D : DIn) (l : List Oper) : List Nat → Nat → DS → Option (DS × PL) :=
  List.rec (motive := fun _ => List Nat → Nat → DS → Option (DS × PL)) (fun _ _ s => some (s, []))
    (fun o _ ih ms p s => match ms with
      | m :: ms => thenDP (ih ms (p + 1)) (dStepP D p m o s)
      | [] => none) l

theorem dGoP_ok {D : DIn} : ∀ (l : List Oper) (ms : List Nat) (p : Nat) (s s' : DS) (ps : PL), dGoP D l ms p s = some (s', ps) → AllEq ps → dGo D l ms p s = some s' := by
  intro l
  induction l with
  | nil => intro ms p s s' ps h _; simp only [dGoP, Option.some.injEq, Prod.mk.injEq] at h; rw [← h.1]; rfl
  | cons o l ih =>
    intro ms p s s' ps h ha
    cases ms with
    | nil => cases h
    | cons m ms =>
      have h : thenDP (dGoP D l ms (p + 1)) (dStepP D p m o s) = some (s', ps) := h
      show thenD (dGo D l ms (p + 1)) (dStep D p m o s) = some s'
      unfold thenDP at h
      split at h
      · rename_i s1 ps1 h1
        split at h
        · rename_i s2 qs h2
          simp only [Option.some.injEq, Prod.mk.injEq] at h
          obtain ⟨rfl, rfl⟩ := h
          obtain ⟨a1, a2⟩ := ha.app
          obtain ⟨v, hv⟩ := dStepP_ok h1 a1
          rw [hv]
          exact ih ms (p + 1) s1 s2 qs h2 a2
        · cases h
      · cases h

def drawEndP (r : Option (DS × PL)) : Option (Fr × St × PL) :=
  match r with
  | some (⟨fr, st, pend, _, _, _, _⟩, ps) => some (fr, allPend st pend, ps)
  | none => none

def evDrawP (P : Program) (G : Nat) (call : CallF) (ops : Array Oper) (fr : Fr) (st : St) : Option (Fr × St × PL) :=
  match drawT P ops with
  | some (n, ms) => match st with
    | ⟨h, d, nx⟩ => bif Nat.ble (nx + n) (2 ^ d) && deadFrom h nx n then
        drawEndP (dGoP ⟨P, G, call, ops, nx + n⟩ ops.toList ms 0 ⟨fr, ⟨h, d, nx + n⟩, [], [], [], [], nx⟩)
      else none
  | none => none

theorem evDrawP_ok {P : Program} {G : Nat} {call : CallF} {ops : Array Oper} {fr fr' : Fr} {st st' : St} {ps : PL} (h : evDrawP P G call ops fr st = some (fr', st', ps)) (ha : AllEq ps) :
    evDraw P G call ops fr st = some (fr', st') := by
  unfold evDrawP at h
  unfold evDraw
  split at h
  · rename_i n ms hT
    obtain ⟨hp, d, nx⟩ := st
    simp only [] at h ⊢
    obtain ⟨hc, h⟩ := bif_some h
    rw [hT]
    simp only [hc, cond_true]
    unfold drawEndP at h
    split at h
    · rename_i fr1 st1 pend a b c e ps1 h1
      simp only [Option.some.injEq, Prod.mk.injEq] at h
      obtain ⟨rfl, rfl, rfl⟩ := h
      rw [dGoP_ok _ _ _ _ _ _ h1 ha]
      rfl
    · cases h
  · cases h

/-! ### Code, with calls that are handed in -/
def evCodeP (P : Program) (G : Nat) (call : CallF) (ih : Code → Fr → St → Option (Ex × Fr × St × PL)) : Code → Fr → St → Option (Ex × Fr × St × PL)
  | .skip, fr, st => some (.normal, fr, st, [])
  | .region _ ops true, fr, st => match evDrawP P G call ops fr st with
    | some (fr', st', ps) => some (.normal, fr', st', ps)
    | none => none
  | .region _ ops false, fr, st => match evList P G call ops ops.toList fr st with
    | some (fr', st') => some (.normal, fr', st', [])
    | none => none
  | .seq a b, fr, st => match ih a fr st with
    | some (.normal, fr', st', ps) => match ih b fr' st' with
      | some (ex, fr'', st'', qs) => some (ex, fr'', st'', ps ++ qs)
      | none => none
    | some (.ret, fr', st', ps) => some (.ret, fr', st', ps)
    | some (.exit j, fr', st', ps) => some (.exit j, fr', st', ps)
    | none => none
  | .cond c a b, fr, st => match valA G fr c with
    | .bool true => ih a fr st
    | .bool false => ih b fr st
    | _ => none
  | .block id c, fr, st => match ih c fr st with
    | some (ex, fr', st', ps) => some (ex.out id, fr', st', ps)
    | none => none
  | .loop c, fr, st => match ih c fr st with
    | some (.normal, fr', st', ps) => match ih (.loop c) fr' st' with
      | some (ex, fr'', st'', qs) => some (ex, fr'', st'', ps ++ qs)
      | none => none
    | some (.ret, fr', st', ps) => some (.ret, fr', st', ps)
    | some (.exit j, fr', st', ps) => some (.exit j, fr', st', ps)
    | none => none
  | .exit id, fr, st => some (.exit id, fr, st, [])
  | .ret, fr, st => some (.ret, fr, st, [])
  | _, _, _ => none

def evNP (P : Program) (G : Nat) (call : CallF) : Nat → Code → Fr → St → Option (Ex × Fr × St × PL)
  | 0 => fun _ _ _ => none
  | n + 1 => evCodeP P G call (evNP P G call n)

theorem evNP_ok {P : Program} {G : Nat} {call : CallF} (hcall : CallOk P G call) (hmix : P.follows .mixedOrders = true) : ∀ (n : Nat) (c : Code) (fr : Fr) (st : St) (ex : Ex) (fr' : Fr) (st' : St) (ps : PL),
    evNP P G call n c fr st = some (ex, fr', st', ps) → AllEq ps → Tr P G c fr st ex fr' st' := by
  intro n
  induction n with
  | zero => intro c fr st ex fr' st' ps h; cases h
  | succ n ih =>
    intro c fr st ex fr' st' ps h ha
    have h : evCodeP P G call (evNP P G call n) c fr st = some (ex, fr', st', ps) := h
    cases c with
    | skip => simp only [evCodeP, Option.some.injEq, Prod.mk.injEq] at h; obtain ⟨rfl, rfl, rfl, rfl⟩ := h; exact .skip
    | exit id => simp only [evCodeP, Option.some.injEq, Prod.mk.injEq] at h; obtain ⟨rfl, rfl, rfl, rfl⟩ := h; exact .exit
    | ret => simp only [evCodeP, Option.some.injEq, Prod.mk.injEq] at h; obtain ⟨rfl, rfl, rfl, rfl⟩ := h; exact .ret
    | region id ops draw =>
      cases draw with
      | true =>
        simp only [evCodeP] at h
        split at h
        · rename_i f1 s1 p1 h1
          simp only [Option.some.injEq, Prod.mk.injEq] at h; obtain ⟨rfl, rfl, rfl, rfl⟩ := h
          exact .draw hcall hmix (evDrawP_ok h1 ha)
        · cases h
      | false =>
        simp only [evCodeP] at h
        split at h
        · rename_i f1 s1 h1
          simp only [Option.some.injEq, Prod.mk.injEq] at h; obtain ⟨rfl, rfl, rfl, rfl⟩ := h
          exact .region hcall h1
        · cases h
    | seq x y =>
      simp only [evCodeP] at h
      split at h
      · rename_i f1 s1 p1 h1
        split at h
        · rename_i ex2 f2 s2 p2 h2
          simp only [Option.some.injEq, Prod.mk.injEq] at h; obtain ⟨rfl, rfl, rfl, rfl⟩ := h
          exact .seq (ih _ _ _ _ _ _ _ h1 ha.app.1) (ih _ _ _ _ _ _ _ h2 ha.app.2)
        · cases h
      · rename_i f1 s1 p1 h1
        simp only [Option.some.injEq, Prod.mk.injEq] at h; obtain ⟨rfl, rfl, rfl, rfl⟩ := h
        exact .seqX (by simp) (ih _ _ _ _ _ _ _ h1 ha)
      · rename_i j f1 s1 p1 h1
        simp only [Option.some.injEq, Prod.mk.injEq] at h; obtain ⟨rfl, rfl, rfl, rfl⟩ := h
        exact .seqX (by simp) (ih _ _ _ _ _ _ _ h1 ha)
      · cases h
    | cond c x y =>
      simp only [evCodeP] at h
      split at h
      · rename_i hc; exact .cond hc (ih _ _ _ _ _ _ _ h ha)
      · rename_i hc; exact .cond hc (ih _ _ _ _ _ _ _ h ha)
      · cases h
    | block id c =>
      simp only [evCodeP] at h
      split at h
      · rename_i ex1 f1 s1 p1 h1
        simp only [Option.some.injEq, Prod.mk.injEq] at h; obtain ⟨rfl, rfl, rfl, rfl⟩ := h
        exact .block (ih _ _ _ _ _ _ _ h1 ha)
      · cases h
    | loop c =>
      simp only [evCodeP] at h
      split at h
      · rename_i f1 s1 p1 h1
        split at h
        · rename_i ex2 f2 s2 p2 h2
          simp only [Option.some.injEq, Prod.mk.injEq] at h; obtain ⟨rfl, rfl, rfl, rfl⟩ := h
          exact .loop (ih _ _ _ _ _ _ _ h1 ha.app.1) (ih _ _ _ _ _ _ _ h2 ha.app.2)
        · cases h
      · rename_i f1 s1 p1 h1
        simp only [Option.some.injEq, Prod.mk.injEq] at h; obtain ⟨rfl, rfl, rfl, rfl⟩ := h
        exact .loopX (by simp) (ih _ _ _ _ _ _ _ h1 ha)
      · rename_i j f1 s1 p1 h1
        simp only [Option.some.injEq, Prod.mk.injEq] at h; obtain ⟨rfl, rfl, rfl, rfl⟩ := h
        exact .loopX (by simp) (ih _ _ _ _ _ _ _ h1 ha)
      · cases h
    | _ => simp [evCodeP] at h

end
end Go.Ev
