/-
  A quicker evaluator: plain regions, compiled: one operation behind another.
-/
import Derived.Test.YtecnddogdiikiaaGreatQc
namespace Go.Ev
open Go
noncomputable section

/-- An operation that is wanted, and what follows it. -/
structure BodyC (P : Program) (S : Sta) (ops : Array Oper) (o : Oper) (l : List Oper) (E : En) where
  run : Rn
  ok : ∀ call, CallOk P S.G call → ∀ f L st f' st', run call f L st = .ok f' st' → ∀ ρ (a : Act) w, QF S.lim S.X ρ f a.tmps → LR S.lim ρ E L a.tmps → Rel ρ st w → Glob ρ S.G →
    ∀ (ro : Option Nat) (Q : Exit → Act → World → Prop), (∀ ρ' a' w', QF S.lim S.X ρ' f' a'.tmps → Good ρ st w ρ' st' w' → a'.defers = a.defers → Q .normal a' w') → o.wpIn (fence ro) 0 P a w (wpListIn (fence ro) 0 P ops Q l) Q

def bodyP (p : F2 → LS → (AV → RR) → RR) (r : AV → Rn) (call : CallF) (f : F2) (L : LS) (st : St) : RR := p f L (fun v => r v call f L st)

def readQ (P : Program) (S : Sta) (E : En) (o : Op) (r : AV → Rn) (call : CallF) (f : F2) (L : LS) (st : St) : RR := someR (opRead P o (valQ S E f L) st) (fun v => r v call f L st)

def pairR {α β : Type} (r : Option (α × β)) (k : α → β → RR) : RR := Option.rec (motive := fun _ => RR) .no (fun p => Prod.rec (motive := fun _ => RR) k p) r
theorem pairR_ok {α β : Type} {r : Option (α × β)} {k : α → β → RR} (h : (pairR r k).isOk) : ∃ x y, r = some (x, y) ∧ pairR r k = k x y := by
  cases r with
  | none => exact h.elim
  | some p => obtain ⟨x, y⟩ := p; exact ⟨x, y, rfl, rfl⟩

def allocQ (P : Program) (S : Sta) (E : En) (o : Op) (r : AV → Rn) (call : CallF) (f : F2) (L : LS) (st : St) : RR :=
  pairR (opAlloc P o (valQ S E f L)) (fun ao g => Bool.rec (motive := fun _ => RR) .no (r (g st.top) call f L (st.alloc ao)) st.room)

def softK (st : St) (v : AV) (k : RR) : RR := match v with
  | .slice i _ _ _ _ => Bool.rec (motive := fun _ => RR) .no k (st.obj i).row
  | _ => .no
def softQ (P : Program) (S : Sta) (E : En) (o : Op) (r : AV → Rn) (call : CallF) (f : F2) (L : LS) (st : St) : RR :=
  someR (softA P o (valQ S E f L)) (fun v => softK st v (r v call f L st))

def heavyQ (P : Program) (S : Sta) (E : En) (o : Op) (r : AV → Rn) (call : CallF) (f : F2) (L : LS) (st : St) : RR :=
  pairR (opHeavy P call o (valQ S E f L) st) (fun v st' => r v call f L st')

theorem isOk_of {r : RR} {f : F2} {st : St} (h : r = .ok f st) : r.isOk := by rw [h]; trivial

section
variable {P : Program} {S : Sta} {ops : Array Oper} {o : Oper} {l : List Oper} {E : En}

theorem defers_put (a : Act) (d : Option Tmp) (z : Value) : (a.put d z).defers = a.defers := by cases d <;> rfl

theorem nd_of (h : clsOf P o.op ≠ .heavy) : ∀ c, o.op ≠ .defer c := fun c hc => h (by rw [hc]; rfl)

def pureB (h : clsOf P o.op = .pure) (C : ContC P S ops l E o.dst) : BodyC P S ops o l E :=
  match pureC P S E o, C with
  | ⟨p, hp⟩, ⟨r, hr⟩ => ⟨bodyP p r, fun call hc f L st f' st' hrun ρ a w hF hL hR hG ro Q hQ => by
    obtain ⟨v, h1, h2⟩ := hp f L (fun v => r v call f L st) (isOk_of hrun)
    have hrun : p f L (fun v => r v call f L st) = .ok f' st' := hrun
    rw [h1] at hrun
    obtain ⟨z, h3, h4⟩ := opPure_sound h2 (valQ_VR hF hL hG) w
    refine wpIn_of_upon (nd_of (by rw [h]; simp)) ?_
    rw [h3]
    exact hr call hc v f L st f' st' hrun ρ a w z h4 hF hL hR hG ro Q hQ⟩

def readB (h : clsOf P o.op = .read) (C : ContC P S ops l E o.dst) : BodyC P S ops o l E :=
  match C with
  | ⟨r, hr⟩ => ⟨readQ P S E o.op r, fun call hc f L st f' st' hrun ρ a w hF hL hR hG ro Q hQ => by
    obtain ⟨v, h2, h1⟩ := someR_ok (isOk_of hrun)
    have hrun : someR (opRead P o.op (valQ S E f L) st) (fun v => r v call f L st) = .ok f' st' := hrun
    rw [h1] at hrun
    obtain ⟨z, h3, h4⟩ := opRead_sound h2 (valQ_VR hF hL hG) hR
    refine wpIn_of_upon (nd_of (by rw [h]; simp)) ?_
    rw [h3]
    exact hr call hc v f L st f' st' hrun ρ a w z h4 hF hL hR hG ro Q hQ⟩

def allocB (h : clsOf P o.op = .alloc) (C : ContC P S ops l E o.dst) : BodyC P S ops o l E :=
  match C with
  | ⟨r, hr⟩ => ⟨allocQ P S E o.op r, fun call hc f L st f' st' hrun ρ a w hF hL hR hG ro Q hQ => by
    obtain ⟨ao, g, h2, h1⟩ := pairR_ok (isOk_of hrun)
    have hrun : pairR (opAlloc P o.op (valQ S E f L)) (fun ao g => Bool.rec (motive := fun _ => RR) .no (r (g st.top) call f L (st.alloc ao)) st.room) = .ok f' st' := hrun
    rw [h1] at hrun
    cases hroom : st.room with
    | false => rw [hroom] at hrun; cases hrun
    | true =>
      rw [hroom] at hrun
      obtain ⟨z, ob, sh, top, w', h3, h4, h5, h6⟩ := opAlloc_sound h2 (valQ_VR hF hL hG) w
      have hext := Ren.ext_set (ρ := ρ) (i := st.next) (L := ⟨w.heap.size, sh, top⟩) (hR.fresh _ (Nat.le_refl _))
      obtain ⟨h7, h8⟩ := h6 st.next (ρ.set st.next ⟨w.heap.size, sh, top⟩) hext (Ren.set_same _ _ _)
      have hg := Good.alloc' hR hroom h4 h5 h7
      refine wpIn_of_upon (nd_of (by rw [h]; simp)) ?_
      rw [h3]
      exact hr call hc (g st.top) f L (st.alloc ao) f' st' hrun _ a w' z h8 (hF.ext hext) (hL.ext hext) hg.rel (hG.ext hext) ro Q (fun ρ' a' w'' q1 q2 q3 => hQ ρ' a' w'' q1 (hg.trans q2) q3)⟩

def softB (h : clsOf P o.op = .soft) (C : ContC P S ops l E o.dst) : BodyC P S ops o l E :=
  match C with
  | ⟨r, hr⟩ => ⟨softQ P S E o.op r, fun call hc f L st f' st' hrun ρ a w hF hL hR hG ro Q hQ => by
    obtain ⟨v, h2, h1⟩ := someR_ok (isOk_of hrun)
    have hrun : someR (softA P o.op (valQ S E f L)) (fun v => softK st v (r v call f L st)) = .ok f' st' := hrun
    rw [h1] at hrun
    unfold softK at hrun
    split at hrun
    · rename_i i off len cap es
      cases hrow : (st.obj i).row with
      | false => rw [hrow] at hrun; cases hrun
      | true =>
        rw [hrow] at hrun
        obtain ⟨z, i', off', len', cap', es', M, w', he, hM, h3, h4, h5, h6, h7⟩ := soft_run h2 (valQ_VR hF hL hG) w
        cases he
        obtain ⟨hi, hobj⟩ := St.obj_live (AO.live_of_writable (row_writable hrow))
        have hg := soft_good (P := P) (a := ⟨M.b, 0, none⟩) hR h5 h6 h7 ⟨i, M, hi, by rw [← hobj]; exact row_writable hrow, hM, rfl⟩
        refine wpIn_of_upon (nd_of (by rw [h]; simp)) ?_
        rw [h3]
        exact hr call hc _ f L st f' st' hrun ρ a w' z h4 hF hL hg.rel hG ro Q (fun ρ' a' w'' q1 q2 q3 => hQ ρ' a' w'' q1 (hg.trans q2) q3)
    · cases hrun⟩

def heavyB (C : ContC P S ops l E o.dst) : BodyC P S ops o l E :=
  match C with
  | ⟨r, hr⟩ => ⟨heavyQ P S E o.op r, fun call hc f L st f' st' hrun ρ a w hF hL hR hG ro Q hQ => by
    obtain ⟨v, st1, h2, h1⟩ := pairR_ok (isOk_of hrun)
    have hrun : pairR (opHeavy P call o.op (valQ S E f L) st) (fun v st' => r v call f L st') = .ok f' st' := hrun
    rw [h1] at hrun
    refine opHeavy_sound hc h2 (valQ_VR hF hL hG) hR hG ?_
    intro ρ1 z w1 h3 hg
    exact hr call hc v f L st1 f' st' hrun ρ1 a w1 z h3 (hF.ext hg.ext) (hL.ext hg.ext) hg.rel (hG.ext hg.ext) ro Q (fun ρ' a' w'' q1 q2 q3 => hQ ρ' a' w'' q1 (hg.trans q2) q3)⟩

/-! ### Quick: a call of a function that is known, the load of one cell -/
structure ArgsC (S : Sta) (E : En) (xs : List Operand) where
  run : F2 → LS → List AV
  ok : ∀ f L, run f L = xs.map (valQ S E f L)
def argsZ (_ : F2) (_ : LS) : List AV := []
def argsS (g : F2 → LS → AV) (r : F2 → LS → List AV) (f : F2) (L : LS) : List AV := g f L :: r f L
def argsC (S : Sta) (E : En) : (xs : List Operand) → ArgsC S E xs
  | [] => ⟨argsZ, fun _ _ => rfl⟩
  | x :: xs => match getC S E x, argsC S E xs with
    | ⟨g, hg⟩, ⟨r, hr⟩ => ⟨argsS g r, fun f L => by unfold argsS; rw [hg, hr]; rfl⟩

def callR (g : FuncId) (as : F2 → LS → List AV) (r : AV → Rn) (call : CallF) (f : F2) (L : LS) (st : St) : RR := pairR (call (.func g) (as f L) st) (fun v st' => r v call f L st')

def callB {g : FuncId} {args : Array Operand} {ts : Array TypeId} (ho : o.op = .call ⟨.value (.func g), args, ts⟩) (C : ContC P S ops l E o.dst) : BodyC P S ops o l E :=
  match C, argsC S E args.toList with
  | ⟨r, hr⟩, ⟨as, has⟩ => ⟨callR g as r, fun call hc f L st f' st' hrun ρ a w hF hL hR hG ro Q hQ => by
    obtain ⟨v, st1, h2, h1⟩ := pairR_ok (isOk_of hrun)
    have hrun : pairR (call (.func g) (as f L) st) (fun v st' => r v call f L st') = .ok f' st' := hrun
    rw [h1] at hrun
    have hh : opHeavy P call o.op (valQ S E f L) st = some (v, st1) := by
      rw [ho]
      simp only [opHeavy, valQ, List.nil_append, List.append_nil]
      rw [← h2, has]
    refine opHeavy_sound hc hh (valQ_VR hF hL hG) hR hG ?_
    intro ρ1 z w1 h3 hg
    exact hr call hc v f L st1 f' st' hrun ρ1 a w1 z h3 (hF.ext hg.ext) (hL.ext hg.ext) hg.rel (hG.ext hg.ext) ro Q (fun ρ' a' w'' q1 q2 q3 => hQ ρ' a' w'' q1 (hg.trans q2) q3)⟩

def objO (st : St) (i : Nat) : AO := St.rec (motive := fun _ => AO) (fun h _ n => Bool.rec (motive := fun _ => AO) .dead (h.get i) (Nat.blt i n)) st
theorem objO_eq (st : St) (i : Nat) : objO st i = st.obj i := by
  obtain ⟨h, d, n⟩ := st
  show Bool.rec (motive := fun _ => AO) .dead (h.get i) (Nat.blt i n) = (bif Nat.blt i n then h.get i else .dead)
  generalize Nat.blt i n = b
  cases b <;> rfl
def cellO (o : AO) (k : Nat) (c : AV → RR) : RR :=
  AO.rec (motive := fun _ => Nat → (AV → RR) → RR) (fun _ _ => .no) (fun _ sz _ t k c => ifR (Nat.blt k sz) (c (t.get k))) (fun _ sz n k c => ifR (Nat.blt k sz) (c (.int .u8 (.ofNat (Nat.mod (Nat.shiftRight n (Nat.mul 8 k)) 256)))))
    (fun _ _ _ => .no) (fun v k c => ifR (Nat.beq k 0) (c v)) (fun _ _ _ _ _ _ _ _ => .no) o k c
theorem cellO_ok {o : AO} {k : Nat} {c : AV → RR} (h : (cellO o k c).isOk) : ∃ v, o.cell? k = some v ∧ cellO o k c = c v := by
  cases o with
  | dead => exact h.elim
  | map _ => exact h.elim
  | loop _ _ _ _ _ _ => exact h.elim
  | cells rw sz d t =>
    obtain ⟨h1, h2⟩ := ifR_ok h
    exact ⟨t.get k, by simp only [AO.cell?, h1, cond_true], h2⟩
  | bytes rw sz n =>
    obtain ⟨h1, h2⟩ := ifR_ok h
    exact ⟨_, by simp only [AO.cell?, h1, cond_true]; rfl, h2⟩
  | box v =>
    obtain ⟨h1, h2⟩ := ifR_ok h
    exact ⟨v, by simp only [AO.cell?, h1, cond_true], h2⟩

def loadR (g : F2 → LS → AV) (r : AV → Rn) (call : CallF) (f : F2) (L : LS) (st : St) : RR := ptrV (g f L) (fun i o => cellO (objO st i) o (fun v => r v call f L st))

def loadB {t : TypeId} {x : Operand} (ho : o.op = .load t x) (ht : aggN P t = some none) (C : ContC P S ops l E o.dst) : BodyC P S ops o l E :=
  match C, getC S E x with
  | ⟨r, hr⟩, ⟨g, hg⟩ => ⟨loadR g r, fun call hc f L st f' st' hrun ρ a w hF hL hR hG ro Q hQ => by
    obtain ⟨i, off, h1, h2⟩ := ptrV_ok (isOk_of hrun)
    have hrun : ptrV (g f L) (fun i o => cellO (objO st i) o (fun v => r v call f L st)) = .ok f' st' := hrun
    rw [h2] at hrun
    obtain ⟨v, h3, h4⟩ := cellO_ok (isOk_of hrun)
    rw [h4] at hrun
    rw [objO_eq] at h3
    have hread : opRead P o.op (valQ S E f L) st = some v := by
      rw [ho]
      simp only [opRead]
      rw [← hg, h1]
      simp only [ht]
      exact h3
    obtain ⟨z, h5, h6⟩ := opRead_sound hread (valQ_VR hF hL hG) hR
    refine wpIn_of_upon (fun c hc => by rw [ho] at hc; cases hc) ?_
    rw [h5]
    exact hr call hc v f L st f' st' hrun ρ a w z h6 hF hL hR hG ro Q hQ⟩

def readC (h : clsOf P o.op = .read) (C : ContC P S ops l E o.dst) : BodyC P S ops o l E :=
  match ho : o.op with
  | .load t x => match ht : aggN P t with
    | some none => loadB ho ht C
    | _ => readB h C
  | _ => readB h C

def heavyC (C : ContC P S ops l E o.dst) : BodyC P S ops o l E :=
  match ho : o.op with
  | .call ⟨.value (.func _), _, _⟩ => callB ho C
  | _ => heavyB C

def bodyC (P : Program) (S : Sta) (ops : Array Oper) (o : Oper) (l : List Oper) (E : En) (C : ContC P S ops l E o.dst) : BodyC P S ops o l E :=
  match h : clsOf P o.op with
  | .pure => pureB h C
  | .read => readC h C
  | .alloc => allocB h C
  | .soft => softB h C
  | .heavy => heavyC C

/-! ### Guards -/
theorem wanted_get {j : Nat} {want : Bool} {t : Tmp} {tmps : Array Value} (hg : o.guard = some (j, want)) (hd : (ops[j]?).bind (·.dst) = some t) (ht : t < tmps.size) :
    Region.wanted o (yielded ops tmps) = (match tmps.getD t undef with | .bool b => b == want | _ => false) := by
  unfold Region.wanted
  rw [hg]
  simp only []
  unfold yielded
  rw [hd]
  simp only [Option.bind_some]
  have hget : tmps.getD t undef = tmps[t] := by simp [Array.getD, ht]
  rw [hget, Array.getElem?_eq_getElem ht]
  generalize tmps[t] = x
  cases x <;> simp

def guardK (want : Bool) (v : AV) (body skip : RR) : RR := match v with
  | .bool b => Bool.rec (motive := fun _ => RR) skip body (b == want)
  | .tup _ => skip
  | _ => .no
def guardQ (want : Bool) (g : F2 → LS → AV) (b : Rn) (r : AV → Rn) (call : CallF) (f : F2) (L : LS) (st : St) : RR := guardK want (g f L) (b call f L st) (r undefA call f L st)

def noRn : Rn := fun _ _ _ _ => .no

def stepC (P : Program) (S : Sta) (ops : Array Oper) (o : Oper) (l : List Oper) (E : En) (C : ContC P S ops l E o.dst) : OpsC P S ops (o :: l) E :=
  match hgd : o.guard with
  | none => match bodyC P S ops o l E C with
    | ⟨b, hb⟩ => ⟨b, fun call hc f L st f' st' hrun ρ a w hF hL hR hG ro Q hQ => by
      unfold wpListIn
      have : Region.wanted o (yielded ops a.tmps) = true := by simp only [Region.wanted, hgd]
      rw [this]
      simp only [if_true]
      exact hb call hc f L st f' st' hrun ρ a w hF hL hR hG ro Q hQ⟩
  | some (j, want) => match hd : (ops[j]?).bind (·.dst) with
    | none => ⟨noRn, fun call hc f L st f' st' hrun => by cases hrun⟩
    | some t => match ht : Nat.blt t S.lim with
      | false => ⟨noRn, fun call hc f L st f' st' hrun => by cases hrun⟩
      | true => match getC S E (.tmp t), bodyC P S ops o l E C, C with
        | ⟨g, hgt⟩, ⟨b, hb⟩, ⟨r, hr⟩ => ⟨guardQ want g b r, fun call hc f L st f' st' hrun ρ a w hF hL hR hG ro Q hQ => by
          have hlt := blt_iff.1 ht
          have hsz := hF.size
          have hv := valQ_VR hF hL hG (.tmp t)
          rw [← hgt] at hv
          have hw := wanted_get (o := o) (ops := ops) (tmps := a.tmps) hgd hd (Nat.lt_of_lt_of_le hlt hsz)
          have hev : a.eval (.tmp t) = a.tmps.getD t undef := rfl
          rw [hev] at hv
          have hrun : guardK want (g f L) (b call f L st) (r undefA call f L st) = .ok f' st' := hrun
          unfold guardK at hrun
          unfold wpListIn
          split at hrun
          · rename_i bb hgv
            rw [hgv] at hv
            generalize a.tmps.getD t undef = x at hv hw
            cases hv
            simp only [] at hw
            rw [hw]
            cases hbw : (bb == want) with
            | true =>
              rw [hbw] at hrun
              simp only [if_true]
              exact hb call hc f L st f' st' hrun ρ a w hF hL hR hG ro Q hQ
            | false =>
              rw [hbw] at hrun
              simp only [Bool.false_eq_true, if_false]
              exact ⟨fun _ _ => trivial, hr call hc undefA f L st f' st' hrun ρ a w undef (.tup _ _ .nil) hF hL hR hG ro Q hQ⟩
          · rename_i ll hgv
            rw [hgv] at hv
            generalize a.tmps.getD t undef = x at hv hw
            cases hv
            simp only [] at hw
            rw [hw]
            simp only [Bool.false_eq_true, if_false]
            exact ⟨fun _ _ => trivial, hr call hc undefA f L st f' st' hrun ρ a w undef (.tup _ _ .nil) hF hL hR hG ro Q hQ⟩
          · cases hrun⟩

def endRn : Rn := fun _ f _ st => .ok f st

def listC (P : Program) (S : Sta) (ops : Array Oper) : (l : List Oper) → (E : En) → OpsC P S ops l E
  | [], E => ⟨endRn, fun call hc f L st f' st' hrun ρ a w hF hL hR hG ro Q hQ => by
      cases hrun
      exact hQ ρ a w hF (.refl hR) rfl⟩
  | o :: l, E => stepC P S ops o l E (contC P S ops l E o.dst (listC P S ops l))

end
end
end Go.Ev
