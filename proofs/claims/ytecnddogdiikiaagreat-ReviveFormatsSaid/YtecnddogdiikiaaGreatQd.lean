/-
  A quicker evaluator: plain operations, compiled: values reckoned with no look at memory.
  A quicker evaluator: plain regions, compiled: one operation behind another.
-/
import Derived.Test.YtecnddogdiikiaaGreatQb
set_option linter.unusedVariables false
set_option linter.unusedSimpArgs false
namespace Go.Ev
open Go
noncomputable section

def RR.isOk : RR → Prop
  | .no => False
  | .ok _ _ => True

/-- A value that is reckoned: 'run' hands it to what follows, or gives up. -/
structure PureC (P : Program) (S : Sta) (E : En) (o : Oper) where
  run : F2 → LS → (AV → RR) → RR
  ok : ∀ f L k, (run f L k).isOk → ∃ v, run f L k = k v ∧ opPure P o.op (valQ S E f L) = some v

def someR (r : Option AV) (k : AV → RR) : RR := Option.rec (motive := fun _ => RR) .no k r

theorem someR_ok {r : Option AV} {k : AV → RR} (h : (someR r k).isOk) : ∃ v, r = some v ∧ someR r k = k v := by
  cases r with
  | none => exact h.elim
  | some v => exact ⟨v, rfl, rfl⟩

/-- any operation, by the elder evaluator's word -/
def slowP (P : Program) (S : Sta) (E : En) (o : Op) (f : F2) (L : LS) (k : AV → RR) : RR := someR (opPureF o P (valQ S E f L)) k
def slowPC (P : Program) (S : Sta) (E : En) (o : Oper) : PureC P S E o :=
  ⟨slowP P S E o.op, fun f L k h => by
    obtain ⟨v, h1, h2⟩ := someR_ok h
    exact ⟨v, h2, by rw [← opPureF_eq]; exact h1⟩⟩

def moveP (g : F2 → LS → AV) (f : F2) (L : LS) (k : AV → RR) : RR := k (g f L)
def constP (v : AV) (_ : F2) (_ : LS) (k : AV → RR) : RR := k v

/-! ### Two integers -/
/-- what is reckoned of two integers of kinds k, k' -/
structure IntC (P : Program) (op : BinOp) (t : TypeId) (x y : Operand) where
  run : IntKind → Int → IntKind → Int → (AV → RR) → RR
  ok : ∀ k m k' n c, (run k m k' n c).isOk → ∃ v, run k m k' n c = c v ∧ binA P op t x y (.int k m) (.int k' n) = some v

def intV (v : AV) (f : IntKind → Int → RR) : RR :=
  AV.rec (motive_1 := fun _ => (IntKind → Int → RR) → RR) (motive_2 := fun _ => Unit)
    (fun _ => .no) (fun _ _ => .no) (fun k n f => f k n) (fun _ _ _ => .no) (fun _ => .no) (fun _ _ _ => .no) (fun _ => .no)
    (fun _ _ _ _ _ _ => .no) (fun _ => .no) (fun _ _ => .no) (fun _ _ _ _ _ _ => .no) (fun _ => .no) (fun _ _ => .no) (fun _ _ _ _ => .no)
    (fun _ => .no) (fun _ _ _ => .no) (fun _ _ _ => .no) () (fun _ _ _ _ => ()) v f

theorem intV_ok {v : AV} {f : IntKind → Int → RR} (h : (intV v f).isOk) : ∃ k n, v = .int k n ∧ intV v f = f k n := by
  cases v <;> first | exact h.elim | exact ⟨_, _, rfl, rfl⟩

def int2P (B : IntKind → Int → IntKind → Int → (AV → RR) → RR) (gx gy : F2 → LS → AV) (f : F2) (L : LS) (c : AV → RR) : RR :=
  intV (gx f L) (fun k m => intV (gy f L) (fun k' n => B k m k' n c))

def slowI (op : BinOp) (k : IntKind) (m : Int) (k' : IntKind) (n : Int) (c : AV → RR) : RR := someR (binIntF op k m k' n) c

theorem binIntF_eq (P : Program) (op : BinOp) (t : TypeId) (x y : Operand) (k : IntKind) (m : Int) (k' : IntKind) (n : Int) : binIntF op k m k' n = binA P op t x y (.int k m) (.int k' n) :=
  binF_eq P op t x y (.int k m) (.int k' n)

def slowIC (P : Program) (op : BinOp) (t : TypeId) (x y : Operand) : IntC P op t x y :=
  ⟨slowI op, fun k m k' n c h => by
    obtain ⟨v, h1, h2⟩ := someR_ok h
    exact ⟨v, h2, by rw [← binIntF_eq]; exact h1⟩⟩

def isI64 (k : IntKind) : Bool := IntKind.rec (motive := fun _ => Bool) false false false true false false false false k
theorem isI64_iff {k : IntKind} (h : isI64 k = true) : k = .i64 := by cases k <;> first | rfl | cases h

/-- two numbers that are not negative, both of kind int64 -/
def nat2 (z : RR) (F : Nat → Nat → (AV → RR) → RR → RR) (m n : Int) (c : AV → RR) : RR :=
  Int.rec (motive := fun _ => RR) (fun a => Int.rec (motive := fun _ => RR) (fun b => F a b c z) (fun _ => z) n) (fun _ => z) m
def i64C (op : BinOp) (F : Nat → Nat → (AV → RR) → RR → RR) (k : IntKind) (m : Int) (k' : IntKind) (n : Int) (c : AV → RR) : RR :=
  Bool.rec (motive := fun _ => RR) (slowI op k m k' n c) (Bool.rec (motive := fun _ => RR) (slowI op k m k' n c) (nat2 (slowI op k m k' n c) F m n c) (isI64 k')) (isI64 k)

theorem i64C_ok {P : Program} {op : BinOp} {t : TypeId} {x y : Operand} {F : Nat → Nat → (AV → RR) → RR → RR}
    (hF : ∀ a b c z, F a b c z = z ∨ ∃ v, F a b c z = c v ∧ binA P op t x y (.int .i64 (.ofNat a)) (.int .i64 (.ofNat b)) = some v) :
    ∀ k m k' n c, (i64C op F k m k' n c).isOk → ∃ v, i64C op F k m k' n c = c v ∧ binA P op t x y (.int k m) (.int k' n) = some v := by
  intro k m k' n c h
  have slow : (slowI op k m k' n c).isOk → ∃ v, slowI op k m k' n c = c v ∧ binA P op t x y (.int k m) (.int k' n) = some v := (slowIC P op t x y).ok k m k' n c
  unfold i64C at h ⊢
  cases h1 : isI64 k with
  | false => rw [h1] at h; exact slow h
  | true =>
    rw [h1] at h
    cases h2 : isI64 k' with
    | false => rw [h2] at h; exact slow h
    | true =>
      rw [h2] at h
      have e1 := isI64_iff h1
      have e2 := isI64_iff h2
      subst e1; subst e2
      cases m with
      | negSucc a => exact slow h
      | ofNat a =>
        cases n with
        | negSucc b => exact slow h
        | ofNat b =>
          have h : (F a b c (slowI op .i64 (.ofNat a) .i64 (.ofNat b) c)).isOk := h
          show ∃ v, F a b c (slowI op .i64 (.ofNat a) .i64 (.ofNat b) c) = c v ∧ _
          rcases hF a b c (slowI op .i64 (.ofNat a) .i64 (.ofNat b) c) with e | ⟨v, e1, e2⟩
          · rw [e] at h ⊢; exact slow h
          · exact ⟨v, e1, e2⟩

/-- two integers of one kind? -/
def sameK (k k' : IntKind) : Bool :=
  IntKind.rec (motive := fun _ => Bool)
    (IntKind.rec (motive := fun _ => Bool) true false false false false false false false k')
    (IntKind.rec (motive := fun _ => Bool) false true false false false false false false k')
    (IntKind.rec (motive := fun _ => Bool) false false true false false false false false k')
    (IntKind.rec (motive := fun _ => Bool) false false false true false false false false k')
    (IntKind.rec (motive := fun _ => Bool) false false false false true false false false k')
    (IntKind.rec (motive := fun _ => Bool) false false false false false true false false k')
    (IntKind.rec (motive := fun _ => Bool) false false false false false false true false k')
    (IntKind.rec (motive := fun _ => Bool) false false false false false false false true k') k
theorem sameK_eq {k k' : IntKind} (h : sameK k k' = true) : k = k' := by cases k <;> cases k' <;> first | rfl | cases h
def cmpC (op : BinOp) (F : Nat → Nat → (AV → RR) → RR → RR) (k : IntKind) (m : Int) (k' : IntKind) (n : Int) (c : AV → RR) : RR :=
  Bool.rec (motive := fun _ => RR) (slowI op k m k' n c) (nat2 (slowI op k m k' n c) F m n c) (sameK k k')

theorem cmpC_ok {P : Program} {op : BinOp} {t : TypeId} {x y : Operand} {F : Nat → Nat → (AV → RR) → RR → RR}
    (hF : ∀ k a b c z, F a b c z = z ∨ ∃ v, F a b c z = c v ∧ binA P op t x y (.int k (.ofNat a)) (.int k (.ofNat b)) = some v) :
    ∀ k m k' n c, (cmpC op F k m k' n c).isOk → ∃ v, cmpC op F k m k' n c = c v ∧ binA P op t x y (.int k m) (.int k' n) = some v := by
  intro k m k' n c h
  have slow : (slowI op k m k' n c).isOk → ∃ v, slowI op k m k' n c = c v ∧ binA P op t x y (.int k m) (.int k' n) = some v := (slowIC P op t x y).ok k m k' n c
  unfold cmpC at h ⊢
  cases h1 : sameK k k' with
  | false => rw [h1] at h; exact slow h
  | true =>
    rw [h1] at h
    have e1 := sameK_eq h1
    subst e1
    cases m with
    | negSucc a => exact slow h
    | ofNat a =>
      cases n with
      | negSucc b => exact slow h
      | ofNat b =>
        have h : (F a b c (slowI op k (.ofNat a) k (.ofNat b) c)).isOk := h
        show ∃ v, F a b c (slowI op k (.ofNat a) k (.ofNat b) c) = c v ∧ _
        rcases hF k a b c (slowI op k (.ofNat a) k (.ofNat b) c) with e | ⟨v, e1, e2⟩
        · rw [e] at h ⊢; exact slow h
        · exact ⟨v, e1, e2⟩

def addF (a b : Nat) (c : AV → RR) (z : RR) : RR := Bool.rec (motive := fun _ => RR) z (c (.int .i64 (.ofNat (Nat.add a b)))) (Nat.ble (Nat.add a b) 9223372036854775807)
def mulF (a b : Nat) (c : AV → RR) (z : RR) : RR := Bool.rec (motive := fun _ => RR) z (c (.int .i64 (.ofNat (Nat.mul a b)))) (Nat.ble (Nat.mul a b) 9223372036854775807)
def subF (a b : Nat) (c : AV → RR) (z : RR) : RR := Bool.rec (motive := fun _ => RR) z (Bool.rec (motive := fun _ => RR) z (c (.int .i64 (.ofNat (Nat.sub a b)))) (Nat.ble a 9223372036854775807)) (Nat.ble b a)
def ltF (a b : Nat) (c : AV → RR) (_ : RR) : RR := c (.bool (Nat.blt a b))
def leF (a b : Nat) (c : AV → RR) (_ : RR) : RR := c (.bool (Nat.ble a b))
def gtF (a b : Nat) (c : AV → RR) (_ : RR) : RR := c (.bool (Nat.blt b a))
def geF (a b : Nat) (c : AV → RR) (_ : RR) : RR := c (.bool (Nat.ble b a))
def eqF (a b : Nat) (c : AV → RR) (_ : RR) : RR := c (.bool (Nat.beq a b))
def neF (a b : Nat) (c : AV → RR) (_ : RR) : RR := c (.bool (Bool.rec (motive := fun _ => Bool) true false (Nat.beq a b)))


theorem wrap64 {m : Nat} (h : m ≤ 9223372036854775807) : wrapA .i64 (.ofNat m) = .ofNat m := by
  have h2 : Nat.blt m 9223372036854775808 = true := blt_iff.2 (by omega)
  simp only [wrapA, h2, cond_true]

section
variable {P : Program} {t : TypeId} {x y : Operand}

theorem bin64 (op : BinOp) (h : isShift op = false) (a b : Int) : binA P op t x y (.int .i64 a) (.int .i64 b) = intA op .i64 a b := by
  cases op <;> first | (cases h; done) | rfl

theorem addF_ok (a b : Nat) (c : AV → RR) (z : RR) : addF a b c z = z ∨ ∃ v, addF a b c z = c v ∧ binA P .add t x y (.int .i64 (.ofNat a)) (.int .i64 (.ofNat b)) = some v := by
  unfold addF
  cases h : Nat.ble (Nat.add a b) 9223372036854775807 with
  | false => exact .inl rfl
  | true =>
    refine .inr ⟨_, rfl, ?_⟩
    rw [bin64 _ rfl]
    show some (AV.int .i64 (wrapA .i64 (.ofNat (Nat.add a b)))) = _
    rw [wrap64 (ble_iff.1 h)]

theorem mulF_ok (a b : Nat) (c : AV → RR) (z : RR) : mulF a b c z = z ∨ ∃ v, mulF a b c z = c v ∧ binA P .mul t x y (.int .i64 (.ofNat a)) (.int .i64 (.ofNat b)) = some v := by
  unfold mulF
  cases h : Nat.ble (Nat.mul a b) 9223372036854775807 with
  | false => exact .inl rfl
  | true =>
    refine .inr ⟨_, rfl, ?_⟩
    rw [bin64 _ rfl]
    show some (AV.int .i64 (wrapA .i64 (.ofNat (Nat.mul a b)))) = _
    rw [wrap64 (ble_iff.1 h)]

theorem subF_ok (a b : Nat) (c : AV → RR) (z : RR) : subF a b c z = z ∨ ∃ v, subF a b c z = c v ∧ binA P .sub t x y (.int .i64 (.ofNat a)) (.int .i64 (.ofNat b)) = some v := by
  unfold subF
  cases h : Nat.ble b a with
  | false => exact .inl rfl
  | true =>
    cases h2 : Nat.ble a 9223372036854775807 with
    | false => exact .inl rfl
    | true =>
      refine .inr ⟨_, rfl, ?_⟩
      rw [bin64 _ rfl]
      have hle := ble_iff.1 h
      have hm := ble_iff.1 h2
      have e : (Int.ofNat a - Int.ofNat b) = Int.ofNat (a - b) := by simp only [Int.ofNat_eq_natCast]; omega
      simp only [intA]
      rw [e, wrap64 (by omega)]; rfl

theorem binK (op : BinOp) (h : isShift op = false) (k : IntKind) (a b : Int) : binA P op t x y (.int k a) (.int k b) = intA op k a b := by
  cases op <;> first | (cases h; done) | (cases k <;> rfl)

theorem ltF_ok (k : IntKind) (a b : Nat) (c : AV → RR) (z : RR) : ltF a b c z = z ∨ ∃ v, ltF a b c z = c v ∧ binA P .lss t x y (.int k (.ofNat a)) (.int k (.ofNat b)) = some v :=
  .inr ⟨_, rfl, by rw [binK _ rfl]; rfl⟩
theorem not_blt (a b : Nat) : (!Nat.blt b a) = Nat.ble a b := by
  rw [Bool.eq_iff_iff, Bool.not_eq_true', ble_iff]
  constructor
  · intro h
    rcases Nat.lt_or_ge b a with g | g
    · rw [blt_iff.2 g] at h; cases h
    · exact g
  · intro h
    cases hb : Nat.blt b a with
    | false => rfl
    | true => have := blt_iff.1 hb; omega
theorem leF_ok (k : IntKind) (a b : Nat) (c : AV → RR) (z : RR) : leF a b c z = z ∨ ∃ v, leF a b c z = c v ∧ binA P .leq t x y (.int k (.ofNat a)) (.int k (.ofNat b)) = some v :=
  .inr ⟨_, rfl, by rw [binK _ rfl]; show some (AV.bool (!Nat.blt b a)) = _; rw [not_blt]⟩
theorem gtF_ok (k : IntKind) (a b : Nat) (c : AV → RR) (z : RR) : gtF a b c z = z ∨ ∃ v, gtF a b c z = c v ∧ binA P .gtr t x y (.int k (.ofNat a)) (.int k (.ofNat b)) = some v :=
  .inr ⟨_, rfl, by rw [binK _ rfl]; rfl⟩
theorem geF_ok (k : IntKind) (a b : Nat) (c : AV → RR) (z : RR) : geF a b c z = z ∨ ∃ v, geF a b c z = c v ∧ binA P .geq t x y (.int k (.ofNat a)) (.int k (.ofNat b)) = some v :=
  .inr ⟨_, rfl, by rw [binK _ rfl]; show some (AV.bool (!Nat.blt a b)) = _; rw [not_blt]⟩
theorem eqF_ok (k : IntKind) (a b : Nat) (c : AV → RR) (z : RR) : eqF a b c z = z ∨ ∃ v, eqF a b c z = c v ∧ binA P .eql t x y (.int k (.ofNat a)) (.int k (.ofNat b)) = some v :=
  .inr ⟨_, rfl, by rw [binK _ rfl]; rfl⟩
theorem neF_ok (k : IntKind) (a b : Nat) (c : AV → RR) (z : RR) : neF a b c z = z ∨ ∃ v, neF a b c z = c v ∧ binA P .neq t x y (.int k (.ofNat a)) (.int k (.ofNat b)) = some v :=
  .inr ⟨_, rfl, by rw [binK _ rfl]; show some (AV.bool (!Nat.beq a b)) = _; cases Nat.beq a b <;> rfl⟩
end

/-! ### Bits, shifts, quotients -/
def small2 (a b : Nat) : Bool := and (Nat.ble a 9223372036854775807) (Nat.ble b 9223372036854775807)
def andF (a b : Nat) (c : AV → RR) (z : RR) : RR := Bool.rec (motive := fun _ => RR) z (c (.int .i64 (.ofNat (Nat.land a b)))) (small2 a b)
def orF (a b : Nat) (c : AV → RR) (z : RR) : RR := Bool.rec (motive := fun _ => RR) z (c (.int .i64 (.ofNat (Nat.lor a b)))) (small2 a b)
def xorF (a b : Nat) (c : AV → RR) (z : RR) : RR := Bool.rec (motive := fun _ => RR) z (c (.int .i64 (.ofNat (Nat.xor a b)))) (small2 a b)
def quoF (a b : Nat) (c : AV → RR) (z : RR) : RR := Bool.rec (motive := fun _ => RR) z (Bool.rec (motive := fun _ => RR) (c (.int .i64 (.ofNat (Nat.div a b)))) z (Nat.beq b 0)) (Nat.ble a 9223372036854775807)
def remF (a b : Nat) (c : AV → RR) (z : RR) : RR := Bool.rec (motive := fun _ => RR) (c (.int .i64 (.ofNat (Nat.mod a b)))) z (Nat.beq b 0)
def shlF (a b : Nat) (c : AV → RR) (z : RR) : RR := Bool.rec (motive := fun _ => RR) z (Bool.rec (motive := fun _ => RR) z (c (.int .i64 (.ofNat (Nat.mul a (Nat.pow 2 b))))) (Nat.ble (Nat.mul a (Nat.pow 2 b)) 9223372036854775807)) (Nat.ble b 63)
def shrQ (a b : Nat) (c : AV → RR) (z : RR) : RR := Bool.rec (motive := fun _ => RR) z (c (.int .i64 (.ofNat (Nat.div a (Nat.pow 2 b))))) (Nat.ble b 63)

section
variable {P : Program} {t : TypeId} {x y : Operand}
theorem bits_ok (op : BinOp) (f : Nat → Nat → Nat) (hf : bitNat op = some f) (a b : Nat) (h : small2 a b = true) : binA P op t x y (.int .i64 (.ofNat a)) (.int .i64 (.ofNat b)) = some (.int .i64 (.ofNat (f a b))) := by
  rw [← binIntF_eq]
  have e : binIntF op .i64 (.ofNat a) .i64 (.ofNat b) = bitsF op .i64 (.ofNat a) (.ofNat b) := by
    cases op <;> first | rfl | (simp [bitNat] at hf)
  rw [e]
  unfold bitsF
  simp only [hf, unsM]
  have h : (and (Nat.ble a (limF .i64)) (Nat.ble b (limF .i64))) = true := h
  rw [h]
theorem andF_ok (a b : Nat) (c : AV → RR) (z : RR) : andF a b c z = z ∨ ∃ v, andF a b c z = c v ∧ binA P .and t x y (.int .i64 (.ofNat a)) (.int .i64 (.ofNat b)) = some v := by
  unfold andF
  cases h : small2 a b with
  | false => exact .inl rfl
  | true => exact .inr ⟨_, rfl, bits_ok .and _ rfl a b h⟩
theorem orF_ok (a b : Nat) (c : AV → RR) (z : RR) : orF a b c z = z ∨ ∃ v, orF a b c z = c v ∧ binA P .or t x y (.int .i64 (.ofNat a)) (.int .i64 (.ofNat b)) = some v := by
  unfold orF
  cases h : small2 a b with
  | false => exact .inl rfl
  | true => exact .inr ⟨_, rfl, bits_ok .or _ rfl a b h⟩
theorem xorF_ok (a b : Nat) (c : AV → RR) (z : RR) : xorF a b c z = z ∨ ∃ v, xorF a b c z = c v ∧ binA P .xor t x y (.int .i64 (.ofNat a)) (.int .i64 (.ofNat b)) = some v := by
  unfold xorF
  cases h : small2 a b with
  | false => exact .inl rfl
  | true => exact .inr ⟨_, rfl, bits_ok .xor _ rfl a b h⟩
theorem quoF_ok (a b : Nat) (c : AV → RR) (z : RR) : quoF a b c z = z ∨ ∃ v, quoF a b c z = c v ∧ binA P .quo t x y (.int .i64 (.ofNat a)) (.int .i64 (.ofNat b)) = some v := by
  unfold quoF
  cases h : Nat.ble a 9223372036854775807 with
  | false => exact .inl rfl
  | true =>
    cases h2 : Nat.beq b 0 with
    | true => exact .inl rfl
    | false =>
      refine .inr ⟨_, rfl, ?_⟩
      rw [bin64 _ rfl]
      have he : eqI (.ofNat b) 0 = false := by
        rw [← h2]; rfl
      have hw : wrapA .i64 (.ofNat (Nat.div a b)) = .ofNat (Nat.div a b) := wrap64 (Nat.le_trans (Nat.div_le_self a b) (ble_iff.1 h))
      simp only [intA, he, cond_false]
      have e : (Int.ofNat a).tdiv (Int.ofNat b) = Int.ofNat (Nat.div a b) := rfl
      rw [e, hw]
theorem remF_ok (a b : Nat) (c : AV → RR) (z : RR) : remF a b c z = z ∨ ∃ v, remF a b c z = c v ∧ binA P .rem t x y (.int .i64 (.ofNat a)) (.int .i64 (.ofNat b)) = some v := by
  unfold remF
  cases h2 : Nat.beq b 0 with
  | true => exact .inl rfl
  | false =>
    refine .inr ⟨_, rfl, ?_⟩
    rw [bin64 _ rfl]
    have he : eqI (.ofNat b) 0 = false := by
      rw [← h2]; rfl
    simp only [intA, he, cond_false]
    rfl
theorem shlF_ok (a b : Nat) (c : AV → RR) (z : RR) : shlF a b c z = z ∨ ∃ v, shlF a b c z = c v ∧ binA P .shl t x y (.int .i64 (.ofNat a)) (.int .i64 (.ofNat b)) = some v := by
  unfold shlF
  cases h : Nat.ble b 63 with
  | false => exact .inl rfl
  | true =>
    cases h2 : Nat.ble (Nat.mul a (Nat.pow 2 b)) 9223372036854775807 with
    | false => exact .inl rfl
    | true =>
      refine .inr ⟨_, rfl, ?_⟩
      rw [← binIntF_eq]
      have hm : min b 64 = b := by have := ble_iff.1 h; omega
      show some (AV.int .i64 (wrapA .i64 (Int.ofNat a * ((2 ^ min b 64 : Nat) : Int)))) = _
      rw [hm]
      have e : Int.ofNat a * ((2 ^ b : Nat) : Int) = Int.ofNat (Nat.mul a (Nat.pow 2 b)) := rfl
      rw [e, wrap64 (ble_iff.1 h2)]
theorem shrQ_ok (a b : Nat) (c : AV → RR) (z : RR) : shrQ a b c z = z ∨ ∃ v, shrQ a b c z = c v ∧ binA P .shr t x y (.int .i64 (.ofNat a)) (.int .i64 (.ofNat b)) = some v := by
  unfold shrQ
  cases h : Nat.ble b 63 with
  | false => exact .inl rfl
  | true =>
    refine .inr ⟨_, rfl, ?_⟩
    rw [← binIntF_eq]
    have hm : min b 64 = b := by have := ble_iff.1 h; omega
    show some (AV.int .i64 (.ofNat (Nat.div a (Nat.pow 2 (min b 64))))) = _
    rw [hm]
end

/-! ### Bits of bytes -/
def isU8K (k : IntKind) : Bool := IntKind.rec (motive := fun _ => Bool) false false false false true false false false k
theorem isU8K_eq {k : IntKind} (h : isU8K k = true) : k = .u8 := by cases k <;> first | rfl | cases h
def u8C (F : Nat → Nat → Nat) (s : IntKind → Int → IntKind → Int → (AV → RR) → RR) (k : IntKind) (m : Int) (k' : IntKind) (n : Int) (c : AV → RR) : RR :=
  Bool.rec (motive := fun _ => RR) (s k m k' n c) (Bool.rec (motive := fun _ => RR) (s k m k' n c) (nat2 (s k m k' n c) (fun a b c _ => c (.int .u8 (.ofNat (Nat.mod (F a b) 256)))) m n c) (isU8K k')) (isU8K k)
theorem u8C_ok {P : Program} {op : BinOp} {t : TypeId} {x y : Operand} {F : Nat → Nat → Nat} (hF : bitNat op = some F) {s : IntKind → Int → IntKind → Int → (AV → RR) → RR}
    (hs : ∀ k m k' n c, (s k m k' n c).isOk → ∃ v, s k m k' n c = c v ∧ binA P op t x y (.int k m) (.int k' n) = some v) :
    ∀ k m k' n c, (u8C F s k m k' n c).isOk → ∃ v, u8C F s k m k' n c = c v ∧ binA P op t x y (.int k m) (.int k' n) = some v := by
  intro k m k' n c h
  unfold u8C at h ⊢
  cases h1 : isU8K k with
  | false => rw [h1] at h; exact hs k m k' n c h
  | true =>
    rw [h1] at h
    cases h2 : isU8K k' with
    | false => rw [h2] at h; exact hs k m k' n c h
    | true =>
      rw [h2] at h
      have e1 := isU8K_eq h1
      have e2 := isU8K_eq h2
      subst e1; subst e2
      cases m with
      | negSucc a => exact hs _ _ _ _ c h
      | ofNat a =>
        cases n with
        | negSucc b => exact hs _ _ _ _ c h
        | ofNat b =>
          refine ⟨.int .u8 (.ofNat (Nat.mod (F a b) 256)), rfl, ?_⟩
          rw [← binIntF_eq]
          have e : binIntF op .u8 (.ofNat a) .u8 (.ofNat b) = bitsF op .u8 (.ofNat a) (.ofNat b) := by
            cases op <;> first | rfl | (simp [bitNat] at hF)
          rw [e]
          unfold bitsF
          simp only [hF, unsM]

/-- a byte moved to the left -/
def shlB (s : IntKind → Int → IntKind → Int → (AV → RR) → RR) (k : IntKind) (m : Int) (k' : IntKind) (n : Int) (c : AV → RR) : RR :=
  Bool.rec (motive := fun _ => RR) (s k m k' n c) (nat2 (s k m k' n c) (fun a b c z => Bool.rec (motive := fun _ => RR) z (c (.int .u8 (.ofNat (Nat.mod (Nat.mul a (Nat.pow 2 b)) 256)))) (Nat.ble b 7)) m n c) (isU8K k)
theorem shlB_ok {P : Program} {t : TypeId} {x y : Operand} {s : IntKind → Int → IntKind → Int → (AV → RR) → RR}
    (hs : ∀ k m k' n c, (s k m k' n c).isOk → ∃ v, s k m k' n c = c v ∧ binA P .shl t x y (.int k m) (.int k' n) = some v) :
    ∀ k m k' n c, (shlB s k m k' n c).isOk → ∃ v, shlB s k m k' n c = c v ∧ binA P .shl t x y (.int k m) (.int k' n) = some v := by
  intro k m k' n c h
  unfold shlB at h ⊢
  cases h1 : isU8K k with
  | false => rw [h1] at h; exact hs k m k' n c h
  | true =>
    rw [h1] at h
    have e1 := isU8K_eq h1
    subst e1
    cases m with
    | negSucc a => exact hs _ _ _ _ c h
    | ofNat a =>
      cases n with
      | negSucc b => exact hs _ _ _ _ c h
      | ofNat b =>
        have h : (Bool.rec (motive := fun _ => RR) (s .u8 (.ofNat a) k' (.ofNat b) c) (c (.int .u8 (.ofNat (Nat.mod (Nat.mul a (Nat.pow 2 b)) 256)))) (Nat.ble b 7) : RR).isOk := h
        show ∃ v, (Bool.rec (motive := fun _ => RR) (s .u8 (.ofNat a) k' (.ofNat b) c) (c (.int .u8 (.ofNat (Nat.mod (Nat.mul a (Nat.pow 2 b)) 256)))) (Nat.ble b 7) : RR) = c v ∧ _
        cases hb : Nat.ble b 7 with
        | false => rw [hb] at h; exact hs _ _ _ _ c h
        | true =>
          refine ⟨_, rfl, ?_⟩
          rw [← binIntF_eq]
          have hm : min b 8 = b := by have := ble_iff.1 hb; omega
          show some (AV.int .u8 (wrapA .u8 (Int.ofNat a * ((2 ^ min b 8 : Nat) : Int)))) = _
          rw [hm]
          rfl

def intC (P : Program) (op : BinOp) (t : TypeId) (x y : Operand) : IntC P op t x y :=
  match op with
  | .add => ⟨i64C .add addF, i64C_ok addF_ok⟩
  | .sub => ⟨i64C .sub subF, i64C_ok subF_ok⟩
  | .mul => ⟨i64C .mul mulF, i64C_ok mulF_ok⟩
  | .lss => ⟨cmpC .lss ltF, cmpC_ok ltF_ok⟩
  | .leq => ⟨cmpC .leq leF, cmpC_ok leF_ok⟩
  | .gtr => ⟨cmpC .gtr gtF, cmpC_ok gtF_ok⟩
  | .geq => ⟨cmpC .geq geF, cmpC_ok geF_ok⟩
  | .eql => ⟨cmpC .eql eqF, cmpC_ok eqF_ok⟩
  | .neq => ⟨cmpC .neq neF, cmpC_ok neF_ok⟩
  | .and => ⟨u8C Nat.land (i64C .and andF), u8C_ok rfl (i64C_ok andF_ok)⟩
  | .or => ⟨u8C Nat.lor (i64C .or orF), u8C_ok rfl (i64C_ok orF_ok)⟩
  | .xor => ⟨u8C Nat.xor (i64C .xor xorF), u8C_ok rfl (i64C_ok xorF_ok)⟩
  | .quo => ⟨i64C .quo quoF, i64C_ok quoF_ok⟩
  | .rem => ⟨i64C .rem remF, i64C_ok remF_ok⟩
  | .shl => ⟨shlB (i64C .shl shlF), shlB_ok (i64C_ok shlF_ok)⟩
  | .shr => ⟨i64C .shr shrQ, i64C_ok shrQ_ok⟩
  | op => slowIC P op t x y

/-! ### Pure operations, compiled -/
def isIntT (P : Program) (t : TypeId) : Bool := match P.underlying t with | some (.int _) => true | _ => false

theorem int2P_ok {P : Program} {S : Sta} {E : En} {op : BinOp} {t : TypeId} {x y : Operand} {ty : TypeId} {o : Oper} (ho : o.op = .binOp op t x y ty) (gx : GetC S E x) (gy : GetC S E y) (B : IntC P op t x y) (f : F2) (L : LS) (c : AV → RR)
    (h : (int2P B.run gx.run gy.run f L c).isOk) : ∃ v, int2P B.run gx.run gy.run f L c = c v ∧ opPure P o.op (valQ S E f L) = some v := by
  unfold int2P at h ⊢
  obtain ⟨k, m, e1, e2⟩ := intV_ok h
  rw [e2] at h ⊢
  obtain ⟨k', n, e3, e4⟩ := intV_ok h
  rw [e4] at h ⊢
  obtain ⟨v, e5, e6⟩ := B.ok k m k' n c h
  refine ⟨v, e5, ?_⟩
  rw [ho]
  simp only [opPure]
  rw [← gx.ok, ← gy.ok, e1, e3]
  exact e6

/-! ### Looks at a value -/
def ptrV (v : AV) (f : Nat → Nat → RR) : RR :=
  AV.rec (motive_1 := fun _ => (Nat → Nat → RR) → RR) (motive_2 := fun _ => Unit)
    (fun _ => .no) (fun _ _ => .no) (fun _ _ _ => .no) (fun _ _ _ => .no) (fun _ => .no) (fun i o f => f i o) (fun _ => .no)
    (fun _ _ _ _ _ _ => .no) (fun _ => .no) (fun _ _ => .no) (fun _ _ _ _ _ _ => .no) (fun _ => .no) (fun _ _ => .no) (fun _ _ _ _ => .no)
    (fun _ => .no) (fun _ _ _ => .no) (fun _ _ _ => .no) () (fun _ _ _ _ => ()) v f
theorem ptrV_ok {v : AV} {f : Nat → Nat → RR} (h : (ptrV v f).isOk) : ∃ i o, v = .ptr i o ∧ ptrV v f = f i o := by
  cases v <;> first | exact h.elim | exact ⟨_, _, rfl, rfl⟩

def slV (v : AV) (z : RR) (f : Nat → Nat → Nat → Nat → Nat → RR) : RR :=
  AV.rec (motive_1 := fun _ => RR → (Nat → Nat → Nat → Nat → Nat → RR) → RR) (motive_2 := fun _ => Unit)
    (fun _ _ => .no) (fun _ _ _ => .no) (fun _ _ _ _ => .no) (fun _ _ _ _ => .no) (fun _ _ => .no) (fun _ _ _ _ => .no) (fun z _ => z)
    (fun i o n c e _ f => f i o n c e) (fun _ _ => .no) (fun _ _ _ => .no) (fun _ _ _ _ _ _ _ => .no) (fun _ _ => .no) (fun _ _ _ => .no) (fun _ _ _ _ _ => .no)
    (fun _ _ => .no) (fun _ _ _ _ => .no) (fun _ _ _ _ => .no) () (fun _ _ _ _ => ()) v z f
theorem slV_ok {v : AV} {z : RR} {f : Nat → Nat → Nat → Nat → Nat → RR} (h : (slV v z f).isOk) : (v = .snil ∧ slV v z f = z) ∨ ∃ i o n c e, v = .slice i o n c e ∧ slV v z f = f i o n c e := by
  cases v <;> first | exact h.elim | exact .inl ⟨rfl, rfl⟩ | exact .inr ⟨_, _, _, _, _, rfl, rfl⟩

def tupV (v : AV) (f : List AV → RR) : RR :=
  AV.rec (motive_1 := fun _ => (List AV → RR) → RR) (motive_2 := fun _ => Unit)
    (fun _ => .no) (fun _ _ => .no) (fun _ _ _ => .no) (fun _ _ _ => .no) (fun _ => .no) (fun _ _ _ => .no) (fun _ => .no)
    (fun _ _ _ _ _ _ => .no) (fun _ => .no) (fun _ _ => .no) (fun _ _ _ _ _ _ => .no) (fun _ => .no) (fun _ _ => .no) (fun _ _ _ _ => .no)
    (fun _ => .no) (fun _ _ _ => .no) (fun l _ f => f l) () (fun _ _ _ _ => ()) v f
theorem tupV_ok {v : AV} {f : List AV → RR} (h : (tupV v f).isOk) : ∃ l, v = .tup l ∧ tupV v f = f l := by
  cases v <;> first | exact h.elim | exact ⟨_, rfl, rfl⟩

def boolV (v : AV) (f : Bool → RR) : RR :=
  AV.rec (motive_1 := fun _ => (Bool → RR) → RR) (motive_2 := fun _ => Unit)
    (fun _ => .no) (fun b f => f b) (fun _ _ _ => .no) (fun _ _ _ => .no) (fun _ => .no) (fun _ _ _ => .no) (fun _ => .no)
    (fun _ _ _ _ _ _ => .no) (fun _ => .no) (fun _ _ => .no) (fun _ _ _ _ _ _ => .no) (fun _ => .no) (fun _ _ => .no) (fun _ _ _ _ => .no)
    (fun _ => .no) (fun _ _ _ => .no) (fun _ _ _ => .no) () (fun _ _ _ _ => ()) v f
theorem boolV_ok {v : AV} {f : Bool → RR} (h : (boolV v f).isOk) : ∃ b, v = .bool b ∧ boolV v f = f b := by
  cases v <;> first | exact h.elim | exact ⟨_, rfl, rfl⟩

def natV (n : Int) (f : Nat → RR) : RR := Int.rec (motive := fun _ => RR) f (fun _ => .no) n
theorem natV_ok {n : Int} {f : Nat → RR} (h : (natV n f).isOk) : ∃ a, n = .ofNat a ∧ natV n f = f a := by
  cases n <;> first | exact h.elim | exact ⟨_, rfl, rfl⟩

def ifR (b : Bool) (x : RR) : RR := Bool.rec (motive := fun _ => RR) .no x b
theorem ifR_ok {b : Bool} {x : RR} (h : (ifR b x).isOk) : b = true ∧ ifR b x = x := by
  cases b
  · exact h.elim
  · exact ⟨rfl, rfl⟩

/-! ### fieldAddr, indexAddr, len, extract, nilCheck, not, convert -/
def faR (off : Nat) (g : F2 → LS → AV) (f : F2) (L : LS) (k : AV → RR) : RR := ptrV (g f L) (fun i o => k (.ptr i (Nat.add o off)))
def iaR (es : Nat) (g h : F2 → LS → AV) (f : F2) (L : LS) (k : AV → RR) : RR :=
  slV (g f L) .no (fun i o n _ _ => intV (h f L) (fun _ m => natV m (fun a => ifR (Nat.blt a n) (k (.ptr i (Nat.add o (Nat.mul a es)))))))
def iaA (len es : Nat) (g h : F2 → LS → AV) (f : F2) (L : LS) (k : AV → RR) : RR :=
  ptrV (g f L) (fun i o => intV (h f L) (fun _ m => natV m (fun a => ifR (Nat.blt a len) (k (.ptr i (Nat.add o (Nat.mul a es)))))))
def lenR (g : F2 → LS → AV) (f : F2) (L : LS) (k : AV → RR) : RR := slV (g f L) (k (.int .i64 (.ofNat 0))) (fun _ _ n _ _ => k (.int .i64 (.ofNat n)))
def hdR (l : List AV) (f : AV → RR) : RR := List.rec (motive := fun _ => RR) .no (fun v _ _ => f v) l
def tlL (l : List AV) : List AV := List.rec (motive := fun _ => List AV) [] (fun _ t _ => t) l
def nthR : Nat → List AV → (AV → RR) → RR
  | 0, l, f => hdR l f
  | n + 1, l, f => nthR n (tlL l) f
theorem nthR_ok : ∀ (n : Nat) (l : List AV) (f : AV → RR), (nthR n l f).isOk → ∃ v, l[n]? = some v ∧ nthR n l f = f v
  | 0, [], _, h => h.elim
  | 0, v :: l, f, _ => ⟨v, rfl, rfl⟩
  | n + 1, [], f, h => by
    obtain ⟨v, h1, _⟩ := nthR_ok n [] f h
    simp at h1
  | n + 1, v :: l, f, h => by
    obtain ⟨u, h1, h2⟩ := nthR_ok n l f h
    exact ⟨u, by simpa using h1, h2⟩
/-- the place known ahead -/
structure NthC (n : Nat) where
  run : List AV → (AV → RR) → RR
  ok : ∀ l f, run l f = nthR n l f
def nthS (r : List AV → (AV → RR) → RR) (l : List AV) (f : AV → RR) : RR := r (tlL l) f
def nthC : (n : Nat) → NthC n
  | 0 => ⟨hdR, fun _ _ => rfl⟩
  | n + 1 => match nthC n with
    | ⟨r, hr⟩ => ⟨nthS r, fun l f => by unfold nthS; rw [hr]; rfl⟩
def exR (r : List AV → (AV → RR) → RR) (g : F2 → LS → AV) (f : F2) (L : LS) (k : AV → RR) : RR := tupV (g f L) (fun l => r l k)
def ncR (g : F2 → LS → AV) (f : F2) (L : LS) (k : AV → RR) : RR := ptrV (g f L) (fun i o => k (.ptr i o))
def pkR (c a b : F2 → LS → AV) (f : F2) (L : LS) (k : AV → RR) : RR := boolV (c f L) (fun t => Bool.rec (motive := fun _ => RR) (k (b f L)) (k (a f L)) t)
/-- a pointer, or the slow way -/
def ptrZ (v : AV) (z : RR) (f : Nat → Nat → RR) : RR :=
  AV.rec (motive_1 := fun _ => RR → (Nat → Nat → RR) → RR) (motive_2 := fun _ => Unit)
    (fun z _ => z) (fun _ z _ => z) (fun _ _ z _ => z) (fun _ _ z _ => z) (fun z _ => z) (fun i o _ f => f i o) (fun z _ => z)
    (fun _ _ _ _ _ z _ => z) (fun z _ => z) (fun _ z _ => z) (fun _ _ _ _ _ z _ => z) (fun z _ => z) (fun _ z _ => z) (fun _ _ _ z _ => z)
    (fun z _ => z) (fun _ _ z _ => z) (fun _ _ z _ => z) () (fun _ _ _ _ => ()) v z f
theorem ptrZ_ok {v : AV} {z : RR} {f : Nat → Nat → RR} : (∃ i o, v = .ptr i o ∧ ptrZ v z f = f i o) ∨ ptrZ v z f = z := by
  cases v <;> first | exact .inr rfl | exact .inl ⟨_, _, rfl, rfl⟩
def ncZ (s : F2 → LS → (AV → RR) → RR) (g : F2 → LS → AV) (f : F2) (L : LS) (k : AV → RR) : RR := ptrZ (g f L) (s f L k) (fun i o => k (.ptr i o))
def notR (g : F2 → LS → AV) (f : F2) (L : LS) (k : AV → RR) : RR := boolV (g f L) (fun b => k (.bool (Bool.rec (motive := fun _ => Bool) true false b)))

structure WrapC (q : IntKind) where
  run : Int → Int
  ok : ∀ n, run n = wrapA q n
def wrapU (M : Nat) (q : IntKind) (n : Int) : Int := Int.rec (motive := fun _ => Int) (fun m => .ofNat (Nat.mod m M)) (fun m => wrapA q (.negSucc m)) n
def wrapS (n : Int) : Int := Int.rec (motive := fun _ => Int) (fun m => Bool.rec (motive := fun _ => Int) (wrapA .i64 (.ofNat m)) (.ofNat m) (Nat.ble m 9223372036854775807)) (fun m => wrapA .i64 (.negSucc m)) n
def wrapC (q : IntKind) : WrapC q :=
  match q with
  | .u8 => ⟨wrapU 256 .u8, fun n => by cases n <;> rfl⟩
  | .u16 => ⟨wrapU 65536 .u16, fun n => by cases n <;> rfl⟩
  | .u32 => ⟨wrapU 4294967296 .u32, fun n => by cases n <;> rfl⟩
  | .u64 => ⟨wrapU 18446744073709551616 .u64, fun n => by cases n <;> rfl⟩
  | .i64 => ⟨wrapS, fun n => by
      cases n with
      | negSucc m => rfl
      | ofNat m =>
        show Bool.rec (motive := fun _ => Int) (wrapA .i64 (.ofNat m)) (.ofNat m) (Nat.ble m 9223372036854775807) = _
        cases hb : Nat.ble m 9223372036854775807 with
        | false => rfl
        | true => rw [wrap64 (ble_iff.1 hb)]⟩
  | q => ⟨wrapA q, fun _ => rfl⟩
def cvR (q : IntKind) (W : Int → Int) (g : F2 → LS → AV) (f : F2) (L : LS) (k : AV → RR) : RR := intV (g f L) (fun _ n => k (.int q (W n)))

def strV (v : AV) (f : Nat → Nat → RR) : RR :=
  AV.rec (motive_1 := fun _ => (Nat → Nat → RR) → RR) (motive_2 := fun _ => Unit)
    (fun _ => .no) (fun _ _ => .no) (fun _ _ _ => .no) (fun n b f => f n b) (fun _ => .no) (fun _ _ _ => .no) (fun _ => .no)
    (fun _ _ _ _ _ _ => .no) (fun _ => .no) (fun _ _ => .no) (fun _ _ _ _ _ _ => .no) (fun _ => .no) (fun _ _ => .no) (fun _ _ _ _ => .no)
    (fun _ => .no) (fun _ _ _ => .no) (fun _ _ _ => .no) () (fun _ _ _ _ => ()) v f
theorem strV_ok {v : AV} {f : Nat → Nat → RR} (h : (strV v f).isOk) : ∃ n b, v = .str n b ∧ strV v f = f n b := by
  cases v <;> first | exact h.elim | exact ⟨_, _, rfl, rfl⟩
def lenS (g : F2 → LS → AV) (f : F2) (L : LS) (k : AV → RR) : RR := strV (g f L) (fun n _ => k (.int .i64 (.ofNat n)))

/-! ### The cases, each by itself -/
abbrev PureOk (P : Program) (S : Sta) (E : En) (o : Oper) (run : F2 → LS → (AV → RR) → RR) : Prop := ∀ f L k, (run f L k).isOk → ∃ v, run f L k = k v ∧ opPure P o.op (valQ S E f L) = some v

section
variable {P : Program} {S : Sta} {E : En} {o : Oper}
theorem move_pok {x : Operand} (ho : o.op = .move x ∨ o.op = .assign x) {g : F2 → LS → AV} (hg : ∀ f L, g f L = valQ S E f L x) : PureOk P S E o (moveP g) :=
  fun f L k _ => ⟨g f L, rfl, by rcases ho with ho | ho <;> rw [ho, hg] <;> rfl⟩
def moveC {x : Operand} (ho : o.op = .move x ∨ o.op = .assign x) : PureC P S E o := GetC.rec (motive := fun _ => PureC P S E o) (fun g hg => ⟨moveP g, move_pok ho hg⟩) (getC S E x)

theorem fa_pok {s : TypeId} {x : Operand} {fd off : Nat} (ho : o.op = .fieldAddr s x fd) (hf : fieldOff P s fd = some off) {g : F2 → LS → AV} (hg : ∀ f L, g f L = valQ S E f L x) : PureOk P S E o (faR off g) :=
  fun f L k h => by
    obtain ⟨i, o', h1, h2⟩ := ptrV_ok h
    exact ⟨_, h2, by rw [ho]; simp only [opPure]; rw [← hg, h1, hf]; rfl⟩
def faC {s : TypeId} {x : Operand} {fd : Nat} (ho : o.op = .fieldAddr s x fd) : PureC P S E o :=
  match hf : fieldOff P s fd with
  | some off => GetC.rec (motive := fun _ => PureC P S E o) (fun g hg => ⟨faR off g, fa_pok ho hf hg⟩) (getC S E x)
  | none => slowPC P S E o

theorem ia_pok {t e : TypeId} {x ix : Operand} {es : Nat} (ho : o.op = .indexAddr t x ix) (ht : P.underlying t = some (.slice e)) (hs : szOf P e = some es) {g q : F2 → LS → AV} (hg : ∀ f L, g f L = valQ S E f L x) (hq : ∀ f L, q f L = valQ S E f L ix) : PureOk P S E o (iaR es g q) :=
  fun f L k h => by
          rcases slV_ok h with ⟨h1, h2⟩ | ⟨i, o', n, c, e', h1, h2⟩
          · rw [show iaR es g q f L k = RR.no from h2] at h; exact h.elim
          · have h : (intV (q f L) (fun _ m => natV m (fun a => ifR (Nat.blt a n) (k (.ptr i (Nat.add o' (Nat.mul a es))))))).isOk := by rw [← h2]; exact h
            obtain ⟨kk, m, h3, h4⟩ := intV_ok h
            rw [h4] at h
            obtain ⟨a, rfl, h6⟩ := natV_ok h
            rw [h6] at h
            obtain ⟨h7, h8⟩ := ifR_ok h
            refine ⟨.ptr i (Nat.add o' (Nat.mul a es)), ?_, ?_⟩
            · show iaR es g q f L k = _
              rw [show iaR es g q f L k = _ from h2, h4, h6, h8]
            · rw [ho]
              simp only [opPure]
              rw [← hg, ← hq, h1, h3]
              simp only [indexAtA, ht, hs, h7, cond_true]
              rfl
def iaC {t : TypeId} {x ix : Operand} (ho : o.op = .indexAddr t x ix) : PureC P S E o :=
  match ht : P.underlying t with
  | some (.slice e) => match hs : szOf P e with
    | some es => GetC.rec (motive := fun _ => PureC P S E o) (fun g hg => GetC.rec (motive := fun _ => PureC P S E o) (fun q hq => ⟨iaR es g q, ia_pok ho ht hs hg hq⟩) (getC S E ix)) (getC S E x)
    | none => slowPC P S E o
  | _ => slowPC P S E o

theorem ex_pok {x : Operand} {i : Nat} (ho : o.op = .extract x i) {g : F2 → LS → AV} (hg : ∀ f L, g f L = valQ S E f L x) {r : List AV → (AV → RR) → RR} (hr : ∀ l f, r l f = nthR i l f) : PureOk P S E o (exR r g) :=
  fun f L k h => by
      obtain ⟨l, h1, h2⟩ := tupV_ok h
      have h : (r l k).isOk := by rw [← h2]; exact h
      rw [hr] at h
      obtain ⟨v, h3, h4⟩ := nthR_ok i l k h
      refine ⟨v, ?_, ?_⟩
      · show exR r g f L k = _
        rw [show exR r g f L k = _ from h2, hr, h4]
      · rw [ho]
        simp only [opPure]
        rw [← hg, h1]
        exact h3
def exC {x : Operand} {i : Nat} (ho : o.op = .extract x i) : PureC P S E o :=
  GetC.rec (motive := fun _ => PureC P S E o) (fun g hg => NthC.rec (motive := fun _ => PureC P S E o) (fun r hr => ⟨exR r g, ex_pok ho hg hr⟩) (nthC i)) (getC S E x)

theorem cv_pok {s d : TypeId} {x : Operand} {q0 q : IntKind} (ho : o.op = .convert s d x) (hs : P.underlying s = some (.int q0)) (hd : P.underlying d = some (.int q)) {g : F2 → LS → AV} (hg : ∀ f L, g f L = valQ S E f L x) {W : Int → Int} (hW : ∀ n, W n = wrapA q n) : PureOk P S E o (cvR q W g) :=
  fun f L k h => by
        obtain ⟨kk, n, h1, h2⟩ := intV_ok h
        refine ⟨_, h2, ?_⟩
        rw [ho]
        simp only [opPure]
        rw [← hg, h1]
        simp only [convA, hs, hd]
        rw [hW]
def cvC {s d : TypeId} {x : Operand} (ho : o.op = .convert s d x) : PureC P S E o :=
  match hs : P.underlying s, hd : P.underlying d with
  | some (.int q0), some (.int q) => GetC.rec (motive := fun _ => PureC P S E o) (fun g hg => WrapC.rec (motive := fun _ => PureC P S E o) (fun W hW => ⟨cvR q W g, cv_pok ho hs hd hg hW⟩) (wrapC q)) (getC S E x)
  | _, _ => slowPC P S E o

theorem len_pok {args : Array Operand} {ts : Array TypeId} {t e : TypeId} {x : Operand} (ho : o.op = .call ⟨.builtin .len, args, ts⟩) (h1 : ts[0]? = some t) (h2 : args[0]? = some x) (ht : P.underlying t = some (.slice e)) {g : F2 → LS → AV} (hg : ∀ f L, g f L = valQ S E f L x) : PureOk P S E o (lenR g) :=
  fun f L k h => by
          rcases slV_ok h with ⟨h3, h4⟩ | ⟨i, o', n, c, e', h3, h4⟩
          · refine ⟨_, h4, ?_⟩
            rw [ho]
            simp only [opPure, h1, h2]
            rw [← hg, h3]
            simp only [lenA, ht]
          · refine ⟨_, h4, ?_⟩
            rw [ho]
            simp only [opPure, h1, h2]
            rw [← hg, h3]
            simp only [lenA, ht]
theorem lenS_pok {args : Array Operand} {ts : Array TypeId} {t : TypeId} {x : Operand} (ho : o.op = .call ⟨.builtin .len, args, ts⟩) (h1 : ts[0]? = some t) (h2 : args[0]? = some x) (ht : P.underlying t = some .string) {g : F2 → LS → AV} (hg : ∀ f L, g f L = valQ S E f L x) : PureOk P S E o (lenS g) :=
  fun f L k h => by
          obtain ⟨n, b, h3, h4⟩ := strV_ok h
          refine ⟨_, h4, ?_⟩
          rw [ho]
          simp only [opPure, h1, h2]
          rw [← hg, h3]
          simp only [lenA, ht]
def lenC {args : Array Operand} {ts : Array TypeId} (ho : o.op = .call ⟨.builtin .len, args, ts⟩) : PureC P S E o :=
  match h1 : ts[0]?, h2 : args[0]? with
  | some t, some x => match ht : P.underlying t with
    | some (.slice e) => GetC.rec (motive := fun _ => PureC P S E o) (fun g hg => ⟨lenR g, len_pok ho h1 h2 ht hg⟩) (getC S E x)
    | some .string => GetC.rec (motive := fun _ => PureC P S E o) (fun g hg => ⟨lenS g, lenS_pok ho h1 h2 ht hg⟩) (getC S E x)
    | _ => slowPC P S E o
  | _, _ => slowPC P S E o

theorem pk_pok {c a b : Operand} (ho : o.op = .pick c a b) {gc ga gb : F2 → LS → AV} (hc : ∀ f L, gc f L = valQ S E f L c) (ha : ∀ f L, ga f L = valQ S E f L a) (hb : ∀ f L, gb f L = valQ S E f L b) : PureOk P S E o (pkR gc ga gb) :=
  fun f L k h => by
      obtain ⟨t, h1, h2⟩ := boolV_ok h
      have h2 : pkR gc ga gb f L k = Bool.rec (motive := fun _ => RR) (k (gb f L)) (k (ga f L)) t := h2
      cases t with
      | true => exact ⟨ga f L, h2, by rw [ho]; simp only [opPure]; rw [← hc, h1, ← ha]⟩
      | false => exact ⟨gb f L, h2, by rw [ho]; simp only [opPure]; rw [← hc, h1, ← hb]⟩
def pkC {c a b : Operand} (ho : o.op = .pick c a b) : PureC P S E o :=
  GetC.rec (motive := fun _ => PureC P S E o) (fun gc hc => GetC.rec (motive := fun _ => PureC P S E o) (fun ga ha => GetC.rec (motive := fun _ => PureC P S E o) (fun gb hb => ⟨pkR gc ga gb, pk_pok ho hc ha hb⟩) (getC S E b)) (getC S E a)) (getC S E c)

theorem nc_pok {x : Operand} (ho : o.op = .nilCheck x) {g : F2 → LS → AV} (hg : ∀ f L, g f L = valQ S E f L x) {s : F2 → LS → (AV → RR) → RR} (hs : PureOk P S E o s) : PureOk P S E o (ncZ s g) :=
  fun f L k h => by
      rcases ptrZ_ok (v := g f L) (z := s f L k) (f := fun i o => k (.ptr i o)) with ⟨i, off, h1, h2⟩ | h1
      · exact ⟨_, h2, by rw [ho]; simp only [opPure]; rw [← hg, h1]⟩
      · have h : (s f L k).isOk := by rw [← h1]; exact h
        obtain ⟨v, h2, h3⟩ := hs f L k h
        exact ⟨v, by rw [← h2]; exact h1, h3⟩
def ncC {x : Operand} (ho : o.op = .nilCheck x) : PureC P S E o :=
  GetC.rec (motive := fun _ => PureC P S E o) (fun g hg => PureC.rec (motive := fun _ => PureC P S E o) (fun s hs => ⟨ncZ s g, nc_pok ho hg hs⟩) (slowPC P S E o)) (getC S E x)

theorem not_pok {t : TypeId} {x : Operand} (ho : o.op = .unOp .not t x) {g : F2 → LS → AV} (hg : ∀ f L, g f L = valQ S E f L x) : PureOk P S E o (notR g) :=
  fun f L k h => by
      obtain ⟨b, h1, h2⟩ := boolV_ok h
      refine ⟨_, h2, ?_⟩
      rw [ho]
      simp only [opPure]
      rw [← hg, h1]
      cases b <;> rfl
def notC {t : TypeId} {x : Operand} (ho : o.op = .unOp .not t x) : PureC P S E o := GetC.rec (motive := fun _ => PureC P S E o) (fun g hg => ⟨notR g, not_pok ho hg⟩) (getC S E x)

def binC {op : BinOp} {t : TypeId} {x y : Operand} {ty : TypeId} (ho : o.op = .binOp op t x y ty) : PureC P S E o :=
  match isIntT P t with
  | true => ⟨int2P (intC P op t x y).run (getC S E x).run (getC S E y).run, int2P_ok ho (getC S E x) (getC S E y) (intC P op t x y)⟩
  | false => slowPC P S E o
end

def pureC (P : Program) (S : Sta) (E : En) (o : Oper) : PureC P S E o :=
  match ho : o.op with
  | .move _ => moveC (.inl ho)
  | .assign _ => moveC (.inr ho)
  | .binOp _ _ _ _ _ => binC ho
  | .fieldAddr _ _ _ => faC ho
  | .indexAddr _ _ _ => iaC ho
  | .extract _ _ => exC ho
  | .convert _ _ _ => cvC ho
  | .call ⟨.builtin .len, _, _⟩ => lenC ho
  | .pick _ _ _ => pkC ho
  | .nilCheck _ => ncC ho
  | .unOp .not _ _ => notC ho
  | _ => slowPC P S E o

end
end Go.Ev

namespace Go.Ev
open Go
noncomputable section

/-- An operation that is wanted, and what follows it. -/
structure BodyC (P : Program) (S : Sta) (ops : Array Oper) (o : Oper) (l : List Oper) (E : En) where
  run : Rn
  ok : ∀ call, CallOk P S.G call → ∀ f L st f' st', run call f L st = .ok f' st' → ∀ ρ (a : Act) w, QF S.lim S.X ρ f a.tmps → LR S.lim ρ E L a.tmps → Rel ρ st w → Glob ρ S.G →
    ∀ (ro : Option Nat) (Q : Exit → Act → World → Prop), (∀ ρ' a' w', QF S.lim S.X ρ' f' a'.tmps → Good ρ st w ρ' st' w' → a'.defers = a.defers → Q .normal a' w') → o.wpIn (fence ro) 0 P a w (wpListIn (fence ro) 0 P ops Q l) Q

def bodyP (p : F2 → LS → (AV → RR) → RR) (r : AV → Rn) (call : CallF) (f : F2) (L : LS) (st : St) : RR := p f L (fun v => r v call f L st)

/-! ### The elder evaluator's words, the operation looked at first -/
def opReadF (o : Op) : Program → (Operand → AV) → St → Option AV :=
  match o with
  | .load t x => fun P v st => match v x with
    | .ptr i off => match aggN P t with
      | some (some n) => ((st.obj i).blk off n).map fun b => .agg b.toL
      | some none => (st.obj i).cell? off
      | none => none
    | _ => none
  | .lookup t x k ok => fun P v st => lookupA P t (v x) (v k) ok st
  | o => fun P v st => opRead P o v st
theorem opReadF_eq (o : Op) (P : Program) (v : Operand → AV) (st : St) : opReadF o P v st = opRead P o v st := by cases o <;> rfl

def opAllocF (o : Op) : Program → (Operand → AV) → Option (AO × (Nat → AV)) :=
  match o with
  | .alloc t => fun P _ => match zeroL P t with
    | some l => (mkRow (rowOf l)).map fun o => (o, fun i => .ptr i 0)
    | none => none
  | .box t x => fun P v => match (v x).cellsA with
    | some l => (mkRow (rowOf l)).map fun o => (o, fun i => .ptr i 0)
    | none => none
  | .buildSlice t len parts => fun P v => match P.underlying t with
    | some (.slice e) => match zeroL P e with
      | some zl => bif Nat.ble (len * zl.length) 16777216 then
          match fillA (fun i => some (i * zl.length, zl.length)) (zerosA zl len) (parts.toList.map fun x => (x.1, v x.2)) with
          | some l => (mkRow (rowOf l)).map fun o => (o, fun i => .slice i 0 len len 0)
          | none => none
        else none
      | none => none
    | _ => none
  | .makeSlice t l c => fun P v => match P.underlying t, v l, v c with
    | some (.slice e), .int _ (.ofNat l), .int _ (.ofNat c) => match zeroL P e, P.info? e with
      | some zl, some i => bif Nat.ble l c && Nat.ble (i.bytes * c) 281474976710656 && Nat.ble c 9223372036854775807 then
          (mkRow (zeroRow zl c)).map fun o => (o, fun i => .slice i 0 l c 0)
        else none
      | _, _ => none
    | _, _, _ => none
  | o => fun P v => opAlloc P o v
theorem opAllocF_eq (o : Op) (P : Program) (v : Operand → AV) : opAllocF o P v = opAlloc P o v := by cases o <;> rfl

def opHeavyF (o : Op) : Program → CallF → (Operand → AV) → St → Option (AV × St) :=
  match o with
  | .store t a x => fun P _ v st => (storeA P t (v a) (v x) st).map fun st' => (undefA, st')
  | .mapUpdate t m k x => fun P _ v st => (mapUpdateA P t (v m) (v k) (v x) st).map fun st' => (.tup [], st')
  | .insert t m k x => fun P _ v st => (mapUpdateA P t (v m) (v k) (v x) st).map fun st' => (.tup [], st')
  | o => fun P call v st => opHeavy P call o v st
theorem opHeavyF_eq (o : Op) (P : Program) (call : CallF) (v : Operand → AV) (st : St) : opHeavyF o P call v st = opHeavy P call o v st := by cases o <;> rfl

def readQ (P : Program) (S : Sta) (E : En) (o : Op) (r : AV → Rn) (call : CallF) (f : F2) (L : LS) (st : St) : RR := someR (opReadF o P (valQ S E f L) st) (fun v => r v call f L st)

def pairR {α β : Type} (r : Option (α × β)) (k : α → β → RR) : RR := Option.rec (motive := fun _ => RR) .no (fun p => Prod.rec (motive := fun _ => RR) k p) r
theorem pairR_ok {α β : Type} {r : Option (α × β)} {k : α → β → RR} (h : (pairR r k).isOk) : ∃ x y, r = some (x, y) ∧ pairR r k = k x y := by
  cases r with
  | none => exact h.elim
  | some p => obtain ⟨x, y⟩ := p; exact ⟨x, y, rfl, rfl⟩

def allocQ (P : Program) (S : Sta) (E : En) (o : Op) (r : AV → Rn) (call : CallF) (f : F2) (L : LS) (st : St) : RR :=
  pairR (opAllocF o P (valQ S E f L)) (fun ao g => Bool.rec (motive := fun _ => RR) .no (r (g st.top) call f L (st.alloc ao)) st.room)

def softK (st : St) (v : AV) (k : RR) : RR := match v with
  | .slice i _ _ _ _ => Bool.rec (motive := fun _ => RR) .no k (st.obj i).brow
  | _ => .no
def softQ (P : Program) (S : Sta) (E : En) (o : Op) (r : AV → Rn) (call : CallF) (f : F2) (L : LS) (st : St) : RR :=
  someR (softA P o (valQ S E f L)) (fun v => softK st v (r v call f L st))

def heavyQ (P : Program) (S : Sta) (E : En) (o : Op) (r : AV → Rn) (call : CallF) (f : F2) (L : LS) (st : St) : RR :=
  pairR (opHeavyF o P call (valQ S E f L) st) (fun v st' => r v call f L st')

theorem isOk_of {r : RR} {f : F2} {st : St} (h : r = .ok f st) : r.isOk := by rw [h]; trivial

section
variable {P : Program} {S : Sta} {ops : Array Oper} {o : Oper} {l : List Oper} {E : En}

theorem defers_put (a : Act) (d : Option Tmp) (z : Value) : (a.put d z).defers = a.defers := by cases d <;> rfl

theorem nd_of (h : clsOf P o.op ≠ .heavy) : ∀ c, o.op ≠ .defer c := fun c hc => h (by rw [hc]; rfl)

def pureB (h : clsOf P o.op = .pure) (C : ContC P S ops l E o.dst) : BodyC P S ops o l E :=
  match pureC P S E o, C with
  | ⟨p, hp⟩, ⟨r, hr⟩ => ⟨bodyP p r, fun call hc f L st f' st' hrun ρ a w hF hL hR hG ro Q hQ => by
    obtain ⟨v, h1, h2⟩ := hp f L (fun v => r v call f L st) (isOk_of hrun)
    have hrun : p f L (fun v => r v call f L st) = .ok f' st' := hrun
    rw [h1] at hrun
    obtain ⟨z, h3, h4⟩ := opPure_sound h2 (valQ_VR hF hL hG) w
    refine wpIn_of_upon (nd_of (by rw [h]; simp)) ?_
    rw [h3]
    exact hr call hc v f L st f' st' hrun ρ a w z h4 hF hL hR hG ro Q hQ⟩

def readB (h : clsOf P o.op = .read) (C : ContC P S ops l E o.dst) : BodyC P S ops o l E :=
  match C with
  | ⟨r, hr⟩ => ⟨readQ P S E o.op r, fun call hc f L st f' st' hrun ρ a w hF hL hR hG ro Q hQ => by
    obtain ⟨v, h2, h1⟩ := someR_ok (isOk_of hrun)
    have hrun : someR (opReadF o.op P (valQ S E f L) st) (fun v => r v call f L st) = .ok f' st' := hrun
    rw [h1] at hrun
    rw [opReadF_eq] at h2
    obtain ⟨z, h3, h4⟩ := opRead_sound h2 (valQ_VR hF hL hG) hR
    refine wpIn_of_upon (nd_of (by rw [h]; simp)) ?_
    rw [h3]
    exact hr call hc v f L st f' st' hrun ρ a w z h4 hF hL hR hG ro Q hQ⟩

def allocB (h : clsOf P o.op = .alloc) (C : ContC P S ops l E o.dst) : BodyC P S ops o l E :=
  match C with
  | ⟨r, hr⟩ => ⟨allocQ P S E o.op r, fun call hc f L st f' st' hrun ρ a w hF hL hR hG ro Q hQ => by
    obtain ⟨ao, g, h2, h1⟩ := pairR_ok (isOk_of hrun)
    rw [opAllocF_eq] at h2
    have hrun : pairR (opAllocF o.op P (valQ S E f L)) (fun ao g => Bool.rec (motive := fun _ => RR) .no (r (g st.top) call f L (st.alloc ao)) st.room) = .ok f' st' := hrun
    rw [h1] at hrun
    cases hroom : st.room with
    | false => rw [hroom] at hrun; cases hrun
    | true =>
      rw [hroom] at hrun
      obtain ⟨z, ob, sh, top, w', h3, h4, h5, h6⟩ := opAlloc_sound h2 (valQ_VR hF hL hG) w
      have hext := Ren.ext_set (ρ := ρ) (i := st.next) (L := ⟨w.heap.size, sh, top⟩) (hR.fresh _ (Nat.le_refl _))
      obtain ⟨h7, h8⟩ := h6 st.next (ρ.set st.next ⟨w.heap.size, sh, top⟩) hext (Ren.set_same _ _ _)
      have hg := Good.alloc' hR hroom h4 h5 h7
      refine wpIn_of_upon (nd_of (by rw [h]; simp)) ?_
      rw [h3]
      exact hr call hc (g st.top) f L (st.alloc ao) f' st' hrun _ a w' z h8 (hF.ext hext) (hL.ext hext) hg.rel (hG.ext hext) ro Q (fun ρ' a' w'' q1 q2 q3 => hQ ρ' a' w'' q1 (hg.trans q2) q3)⟩

def softB (h : clsOf P o.op = .soft) (C : ContC P S ops l E o.dst) : BodyC P S ops o l E :=
  match C with
  | ⟨r, hr⟩ => ⟨softQ P S E o.op r, fun call hc f L st f' st' hrun ρ a w hF hL hR hG ro Q hQ => by
    obtain ⟨v, h2, h1⟩ := someR_ok (isOk_of hrun)
    have hrun : someR (softA P o.op (valQ S E f L)) (fun v => softK st v (r v call f L st)) = .ok f' st' := hrun
    rw [h1] at hrun
    unfold softK at hrun
    split at hrun
    · rename_i i off len cap es
      cases hrow : (st.obj i).brow with
      | false => rw [hrow] at hrun; cases hrun
      | true =>
        rw [hrow] at hrun
        obtain ⟨z, i', off', len', cap', es', M, w', he, hM, h3, h4, h5, h6, h7⟩ := soft_run h2 (valQ_VR hF hL hG) w
        cases he
        obtain ⟨hi, hobj⟩ := St.obj_live (AO.live_of_writable (row_writable (AO.row_of_brow hrow)))
        have hg := soft_good (P := P) (a := ⟨M.b, 0, none⟩) hR h5 h6 h7 ⟨i, M, hi, by rw [← hobj]; exact hrow, hM, rfl⟩
        refine wpIn_of_upon (nd_of (by rw [h]; simp)) ?_
        rw [h3]
        exact hr call hc _ f L st f' st' hrun ρ a w' z h4 hF hL hg.rel hG ro Q (fun ρ' a' w'' q1 q2 q3 => hQ ρ' a' w'' q1 (hg.trans q2) q3)
    · cases hrun⟩

def heavyB (C : ContC P S ops l E o.dst) : BodyC P S ops o l E :=
  match C with
  | ⟨r, hr⟩ => ⟨heavyQ P S E o.op r, fun call hc f L st f' st' hrun ρ a w hF hL hR hG ro Q hQ => by
    obtain ⟨v, st1, h2, h1⟩ := pairR_ok (isOk_of hrun)
    rw [opHeavyF_eq] at h2
    have hrun : pairR (opHeavyF o.op P call (valQ S E f L) st) (fun v st' => r v call f L st') = .ok f' st' := hrun
    rw [h1] at hrun
    refine opHeavy_sound hc h2 (valQ_VR hF hL hG) hR hG ?_
    intro ρ1 z w1 h3 hg
    exact hr call hc v f L st1 f' st' hrun ρ1 a w1 z h3 (hF.ext hg.ext) (hL.ext hg.ext) hg.rel (hG.ext hg.ext) ro Q (fun ρ' a' w'' q1 q2 q3 => hQ ρ' a' w'' q1 (hg.trans q2) q3)⟩

/-! ### Quick: a call of a function that is known, the load of one cell -/
structure ArgsC (S : Sta) (E : En) (xs : List Operand) where
  run : F2 → LS → List AV
  ok : ∀ f L, run f L = xs.map (valQ S E f L)
def argsZ (_ : F2) (_ : LS) : List AV := []
def argsS (g : F2 → LS → AV) (r : F2 → LS → List AV) (f : F2) (L : LS) : List AV := g f L :: r f L
def argsC (S : Sta) (E : En) : (xs : List Operand) → ArgsC S E xs
  | [] => ⟨argsZ, fun _ _ => rfl⟩
  | x :: xs => match getC S E x, argsC S E xs with
    | ⟨g, hg⟩, ⟨r, hr⟩ => ⟨argsS g r, fun f L => by unfold argsS; rw [hg, hr]; rfl⟩

def callR (g : FuncId) (as : F2 → LS → List AV) (r : AV → Rn) (call : CallF) (f : F2) (L : LS) (st : St) : RR := pairR (call (.func g) (as f L) st) (fun v st' => r v call f L st')

def callB {g : FuncId} {args : Array Operand} {ts : Array TypeId} (ho : o.op = .call ⟨.value (.func g), args, ts⟩) (C : ContC P S ops l E o.dst) : BodyC P S ops o l E :=
  match C, argsC S E args.toList with
  | ⟨r, hr⟩, ⟨as, has⟩ => ⟨callR g as r, fun call hc f L st f' st' hrun ρ a w hF hL hR hG ro Q hQ => by
    obtain ⟨v, st1, h2, h1⟩ := pairR_ok (isOk_of hrun)
    have hrun : pairR (call (.func g) (as f L) st) (fun v st' => r v call f L st') = .ok f' st' := hrun
    rw [h1] at hrun
    have hh : opHeavy P call o.op (valQ S E f L) st = some (v, st1) := by
      rw [ho]
      simp only [opHeavy, valQ, List.nil_append, List.append_nil]
      rw [← h2, has]
    refine opHeavy_sound hc hh (valQ_VR hF hL hG) hR hG ?_
    intro ρ1 z w1 h3 hg
    exact hr call hc v f L st1 f' st' hrun ρ1 a w1 z h3 (hF.ext hg.ext) (hL.ext hg.ext) hg.rel (hG.ext hg.ext) ro Q (fun ρ' a' w'' q1 q2 q3 => hQ ρ' a' w'' q1 (hg.trans q2) q3)⟩

def objO (st : St) (i : Nat) : AO := St.rec (motive := fun _ => AO) (fun h _ n => Bool.rec (motive := fun _ => AO) .dead (h.get i) (Nat.blt i n)) st
theorem objO_eq (st : St) (i : Nat) : objO st i = st.obj i := by
  obtain ⟨h, d, n⟩ := st
  show Bool.rec (motive := fun _ => AO) .dead (h.get i) (Nat.blt i n) = (bif Nat.blt i n then h.get i else .dead)
  generalize Nat.blt i n = b
  cases b <;> rfl
def cellO (o : AO) (k : Nat) (c : AV → RR) : RR :=
  AO.rec (motive := fun _ => Nat → (AV → RR) → RR) (fun _ _ => .no) (fun _ sz _ t k c => ifR (Nat.blt k sz) (c (t.get k))) (fun _ sz n k c => ifR (Nat.blt k sz) (c (.int .u8 (.ofNat (Nat.mod (Nat.shiftRight n (Nat.mul 8 k)) 256)))))
    (fun _ _ _ => .no) (fun v k c => ifR (Nat.beq k 0) (c v)) (fun _ _ _ _ _ _ _ _ => .no) o k c
theorem cellO_ok {o : AO} {k : Nat} {c : AV → RR} (h : (cellO o k c).isOk) : ∃ v, o.cell? k = some v ∧ cellO o k c = c v := by
  cases o with
  | dead => exact h.elim
  | map _ => exact h.elim
  | loop _ _ _ _ _ _ => exact h.elim
  | cells rw sz d t =>
    obtain ⟨h1, h2⟩ := ifR_ok h
    exact ⟨t.get k, by simp only [AO.cell?, h1, cond_true], h2⟩
  | bytes rw sz n =>
    obtain ⟨h1, h2⟩ := ifR_ok h
    exact ⟨_, by simp only [AO.cell?, h1, cond_true]; rfl, h2⟩
  | box v =>
    obtain ⟨h1, h2⟩ := ifR_ok h
    exact ⟨v, by simp only [AO.cell?, h1, cond_true], h2⟩

def loadR (g : F2 → LS → AV) (r : AV → Rn) (call : CallF) (f : F2) (L : LS) (st : St) : RR := ptrV (g f L) (fun i o => cellO (objO st i) o (fun v => r v call f L st))

def loadB {t : TypeId} {x : Operand} (ho : o.op = .load t x) (ht : aggN P t = some none) (C : ContC P S ops l E o.dst) : BodyC P S ops o l E :=
  match C, getC S E x with
  | ⟨r, hr⟩, ⟨g, hg⟩ => ⟨loadR g r, fun call hc f L st f' st' hrun ρ a w hF hL hR hG ro Q hQ => by
    obtain ⟨i, off, h1, h2⟩ := ptrV_ok (isOk_of hrun)
    have hrun : ptrV (g f L) (fun i o => cellO (objO st i) o (fun v => r v call f L st)) = .ok f' st' := hrun
    rw [h2] at hrun
    obtain ⟨v, h3, h4⟩ := cellO_ok (isOk_of hrun)
    rw [h4] at hrun
    rw [objO_eq] at h3
    have hread : opRead P o.op (valQ S E f L) st = some v := by
      rw [ho]
      simp only [opRead]
      rw [← hg, h1]
      simp only [ht]
      exact h3
    obtain ⟨z, h5, h6⟩ := opRead_sound hread (valQ_VR hF hL hG) hR
    refine wpIn_of_upon (fun c hc => by rw [ho] at hc; cases hc) ?_
    rw [h5]
    exact hr call hc v f L st f' st' hrun ρ a w z h6 hF hL hR hG ro Q hQ⟩

/-! ### Quick: stores of one cell, appends, copies, calls of what a value tells -/
def heavyK (h : CallF → F2 → LS → St → Option (AV × St)) (r : AV → Rn) (call : CallF) (f : F2) (L : LS) (st : St) : RR := pairR (h call f L st) (fun v st' => r v call f L st')
def heavyE (h : CallF → F2 → LS → St → Option (AV × St)) (hh : ∀ call f L st, h call f L st = opHeavy P call o.op (valQ S E f L) st) (C : ContC P S ops l E o.dst) : BodyC P S ops o l E :=
  match C with
  | ⟨r, hr⟩ => ⟨heavyK h r, fun call hc f L st f' st' hrun ρ a w hF hL hR hG ro Q hQ => by
    obtain ⟨v, st1, h2, h1⟩ := pairR_ok (isOk_of hrun)
    have hrun : pairR (h call f L st) (fun v st' => r v call f L st') = .ok f' st' := hrun
    rw [h1] at hrun
    rw [hh] at h2
    refine opHeavy_sound hc h2 (valQ_VR hF hL hG) hR hG ?_
    intro ρ1 z w1 h3 hg
    exact hr call hc v f L st1 f' st' hrun ρ1 a w1 z h3 (hF.ext hg.ext) (hL.ext hg.ext) hg.rel (hG.ext hg.ext) ro Q (fun ρ' a' w'' q1 q2 q3 => hQ ρ' a' w'' q1 (hg.trans q2) q3)⟩

abbrev OV := Option (AV × St)
def ptrO (v : AV) (z : OV) (f : Nat → Nat → OV) : OV :=
  AV.rec (motive_1 := fun _ => OV → (Nat → Nat → OV) → OV) (motive_2 := fun _ => Unit)
    (fun z _ => z) (fun _ z _ => z) (fun _ _ z _ => z) (fun _ _ z _ => z) (fun z _ => z) (fun i o _ f => f i o) (fun z _ => z)
    (fun _ _ _ _ _ z _ => z) (fun z _ => z) (fun _ z _ => z) (fun _ _ _ _ _ z _ => z) (fun z _ => z) (fun _ z _ => z) (fun _ _ _ z _ => z)
    (fun z _ => z) (fun _ _ z _ => z) (fun _ _ z _ => z) () (fun _ _ _ _ => ()) v z f
/-- a value of one cell, or the slow way -/
def oneO (v : AV) (z f : OV) : OV :=
  AV.rec (motive_1 := fun _ => OV → OV → OV) (motive_2 := fun _ => Unit)
    (fun z _ => z) (fun _ _ f => f) (fun _ _ _ f => f) (fun _ _ _ f => f) (fun _ f => f) (fun _ _ _ f => f) (fun _ f => f)
    (fun _ _ _ _ _ _ f => f) (fun _ f => f) (fun _ _ f => f) (fun _ _ _ _ _ _ f => f) (fun _ f => f) (fun _ _ f => f) (fun _ _ _ _ f => f)
    (fun _ f => f) (fun _ _ z _ => z) (fun _ _ z _ => z) () (fun _ _ _ _ => ()) v z f
def cellsO (o : AO) (z : OV) (f : Bool → Nat → Nat → T AV → OV) : OV :=
  AO.rec (motive := fun _ => OV → (Bool → Nat → Nat → T AV → OV) → OV) (fun z _ => z) (fun rw sz d t _ f => f rw sz d t) (fun _ _ _ z _ => z) (fun _ z _ => z) (fun _ z _ => z) (fun _ _ _ _ _ _ z _ => z) o z f
def stPut (st : St) (i : Nat) (o : AO) : St := St.rec (motive := fun _ => St) (fun h d n => ⟨h.set i o, d, n⟩) st
def store1 (P : Program) (t : TypeId) (a x : AV) (st : St) : OV :=
  ptrO a ((storeA P t a x st).map fun st' => (undefA, st')) (fun i off => oneO x ((storeA P t a x st).map fun st' => (undefA, st'))
    (cellsO (objO st i) ((storeA P t a x st).map fun st' => (undefA, st')) (fun rw sz d c => Bool.rec (motive := fun _ => OV) none (Bool.rec (motive := fun _ => OV) none (some (undefA, stPut st i (.cells true sz d (c.set off x)))) (Nat.ble (Nat.succ off) sz)) rw)))

theorem store1_eq {P : Program} {t : TypeId} (ht : szOf P t = some 1) (a x : AV) (st : St) : store1 P t a x st = (storeA P t a x st).map fun st' => (undefA, st') := by
  cases a <;> first | rfl | skip
  rename_i i off
  have hone : ∀ (h1 : x.cellsA = some [x]) (h2 : x.one = true), (cellsO (objO st i) ((storeA P t (.ptr i off) x st).map fun st' => (undefA, st')) (fun rw sz d c => Bool.rec (motive := fun _ => OV) none (Bool.rec (motive := fun _ => OV) none (some (undefA, stPut st i (.cells true sz d (c.set off x)))) (Nat.ble (Nat.succ off) sz)) rw))
      = (storeA P t (.ptr i off) x st).map fun st' => (undefA, st') := by
    intro h1 h2
    rw [objO_eq]
    cases ho : st.obj i with
    | cells rw sz d c =>
      have hs : storeA P t (.ptr i off) x st = match AO.store (.cells rw sz d c) off (.l [x]) with
          | some o => some (st.put i o)
          | none => none := by
        simp only [storeA, h1, ht, ho]
        have : Nat.beq [x].length 1 = true := rfl
        rw [this, cond_true]
        cases AO.store (.cells rw sz d c) off (.l [x]) <;> rfl
      rw [hs]
      cases rw with
      | false => rfl
      | true =>
        have hl : (Blk.l [x]).len = 1 := rfl
        have hall : (Blk.l [x]).toL.all AV.one = true := by simp [Blk.toL, h2]
        simp only [AO.store, hl, hall, Bool.and_true]
        show Bool.rec (motive := fun _ => OV) none (some (undefA, stPut st i (.cells true sz d (c.set off x)))) (Nat.ble (off + 1) sz) = _
        cases Nat.ble (off + 1) sz <;> rfl
    | dead => rfl
    | bytes => rfl
    | map => rfl
    | box => rfl
    | loop => rfl
  cases x <;> first | rfl | exact hone rfl rfl

def storeH (P : Program) (t : TypeId) (ga gx : F2 → LS → AV) (_ : CallF) (f : F2) (L : LS) (st : St) : OV := store1 P t (ga f L) (gx f L) st
def appH (P : Program) (ts : Array TypeId) (gs gx : F2 → LS → AV) (_ : CallF) (f : F2) (L : LS) (st : St) : OV := appendOpA P ts (gs f L) (gx f L) st
def copyH (P : Program) (ts : Array TypeId) (gs gx : F2 → LS → AV) (_ : CallF) (f : F2) (L : LS) (st : St) : OV := copyA P ts (gs f L) (gx f L) st
/-- a slice, or the slow way -/
def sliceO (v : AV) (z : OV) (f : Nat → Nat → Nat → Nat → Nat → OV) : OV :=
  AV.rec (motive_1 := fun _ => OV → (Nat → Nat → Nat → Nat → Nat → OV) → OV) (motive_2 := fun _ => Unit)
    (fun z _ => z) (fun _ z _ => z) (fun _ _ z _ => z) (fun _ _ z _ => z) (fun z _ => z) (fun _ _ z _ => z) (fun z _ => z)
    (fun i o n c e _ f => f i o n c e) (fun z _ => z) (fun _ z _ => z) (fun _ _ _ _ _ z _ => z) (fun z _ => z) (fun _ z _ => z) (fun _ _ _ z _ => z)
    (fun z _ => z) (fun _ _ z _ => z) (fun _ _ z _ => z) () (fun _ _ _ _ => ()) v z f
def bytesO (o : AO) (z : OV) (f : Bool → Nat → Nat → OV) : OV :=
  AO.rec (motive := fun _ => OV → (Bool → Nat → Nat → OV) → OV) (fun z _ => z) (fun _ _ _ _ z _ => z) (fun rw sz m _ f => f rw sz m) (fun _ z _ => z) (fun _ z _ => z) (fun _ _ _ _ _ _ z _ => z) o z f
def ifO (b : Bool) (x y : OV) : OV := Bool.rec (motive := fun _ => OV) y x b
/-- the old block goes, a new one comes -/
def stGrow (st : St) (i : Nat) (o : AO) : St := St.rec (motive := fun _ => St) (fun h d n => ⟨(h.set i .dead).set n o, d, Nat.succ n⟩) st
def stNext (st : St) : Nat := St.rec (motive := fun _ => Nat) (fun _ _ n => n) st
def growOk (rw : Bool) (sz off len n offx szx bytes : Nat) : Bool := rw && (Nat.blt 0 len && (Nat.blt 0 n && (Nat.ble (off + len) sz && (Nat.ble (offx + n) szx && fitsA (len + n) bytes))))
def putOk (rw : Bool) (sz off len n offx szx : Nat) : Bool := rw && (Nat.blt 0 n && (Nat.ble (offx + n) szx && Nat.ble (off + len + n) sz))
def app1 (bytes : Nat) (z : OV) (s x : AV) (st : St) : OV :=
  sliceO s z fun i off len cap o => sliceO x z fun j offx n _ _ => bytesO (objO st i) z fun rw sz m => bytesO (objO st j) z fun _ szx mx =>
    ifO (Nat.ble (len + n) cap)
      (ifO (Nat.ble o 1) (ifO (putOk rw sz off len n offx szx) (some (.slice i off (len + n) cap o, stPut st i (.bytes true sz (splice m (off + len) n (cutB mx offx n))))) z) z)
      (ifO (Nat.beq o 1) (ifO (growOk rw sz off len n offx szx bytes && st.room) (some (.slice (stNext st) 0 (len + n) (len + n) 1, stGrow st i (.bytes true (len + n) (strJoin len (cutB m off len) n (cutB mx offx n))))) z) z)

theorem app1_eq {P : Program} {ts : Array TypeId} {bytes : Nat} {zl : List AV} (ht : appT P ts = some (1, bytes, zl, false)) (s x : AV) (st : St) :
    app1 bytes (appendOpA P ts s x st) s x st = appendOpA P ts s x st := by
  unfold app1
  cases s <;> first | rfl | skip
  rename_i i off len cap o
  cases x <;> first | rfl | skip
  rename_i j offx n capx ox
  show bytesO (objO st i) _ _ = _
  rw [objO_eq]
  cases hi : st.obj i <;> first | rfl | skip
  rename_i rw sz m
  show bytesO (objO st j) _ _ = _
  rw [objO_eq]
  cases hj : st.obj j <;> first | rfl | skip
  rename_i rwx szx mx
  show ifO (Nat.ble (len + n) cap) _ _ = _
  cases hc : Nat.ble (len + n) cap with
  | true =>
    show ifO (Nat.ble o 1) _ _ = _
    cases ho : Nat.ble o 1 with
    | false => rfl
    | true =>
      show ifO (putOk rw sz off len n offx szx) _ _ = _
      cases hp : putOk rw sz off len n offx szx with
      | false => rfl
      | true =>
        simp only [putOk, Bool.and_eq_true, blt_iff] at hp
        obtain ⟨h1, h2, h3, h4⟩ := hp
        subst h1
        have hn : Nat.beq n 0 = false := by
          cases hb : Nat.beq n 0 with
          | false => rfl
          | true => have := beq_iff.1 hb; omega
        have hnn : Nat.ble n n = true := ble_iff.2 (Nat.le_refl _)
        have hor : (Nat.beq o 0 || Nat.beq o 1) = true := by
          have := ble_iff.1 ho
          rcases (show o = 0 ∨ o = 1 by omega) with e | e <;> subst e <;> rfl
        have hst : (AO.bytes true sz m).store (off + len) (.b n (cutB mx offx n)) = some (.bytes true sz (splice m (off + len) n (cutB mx offx n))) := by
          simp only [AO.store, Blk.pack, Blk.len, h4, cond_true]
        show some (AV.slice i off (len + n) cap o, stPut st i (.bytes true sz (splice m (off + len) n (cutB mx offx n)))) = _
        simp only [appendOpA, ht, lenOfA, srcA, hn, cond_false, hnn, cond_true, Nat.mul_one, hj, AO.blk, h3, appendA, hor, hc, hi, hst]
        rfl
  | false =>
    show ifO (Nat.beq o 1) _ _ = _
    cases ho : Nat.beq o 1 with
    | false => rfl
    | true =>
      have ho := beq_iff.1 ho
      subst ho
      show ifO (growOk rw sz off len n offx szx bytes && st.room) _ _ = _
      cases hp : (growOk rw sz off len n offx szx bytes && st.room) with
      | false => rfl
      | true =>
        simp only [growOk, Bool.and_eq_true, blt_iff] at hp
        obtain ⟨⟨h1, h2, h3, h4, h5, h6⟩, h7⟩ := hp
        subst h1
        have hn : Nat.beq n 0 = false := by
          cases hb : Nat.beq n 0 with
          | false => rfl
          | true => have := beq_iff.1 hb; omega
        have hlz : Nat.beq len 0 = false := by
          cases hb : Nat.beq len 0 with
          | false => rfl
          | true => have := beq_iff.1 hb; omega
        have hnn : Nat.ble n n = true := ble_iff.2 (Nat.le_refl _)
        have hll : Nat.ble len len = true := ble_iff.2 (Nat.le_refl _)
        have hor : (Nat.beq 1 0 || Nat.beq 1 1) = true := rfl
        have h10 : Nat.beq 1 0 = false := rfl
        have hfr : (fitsA (len + n) bytes && st.room) = true := by rw [h6, h7]; rfl
        show some (AV.slice (stNext st) 0 (len + n) (len + n) 1, stGrow st i (.bytes true (len + n) (strJoin len (cutB m off len) n (cutB mx offx n)))) = _
        simp only [appendOpA, ht, lenOfA, srcA, hn, cond_false, hnn, cond_true, Nat.mul_one, hj, AO.blk, h5, appendA, hor, hc, hfr, hlz, hll, hi, h4, Blk.norm, Blk.join, mkRow, h10, AO.row, Blk.one, Bool.and_self]
        rfl

def app1H (P : Program) (ts : Array TypeId) (bytes : Nat) (gs gx : F2 → LS → AV) (_ : CallF) (f : F2) (L : LS) (st : St) : OV := app1 bytes (appendOpA P ts (gs f L) (gx f L) st) (gs f L) (gx f L) st
def funO (v : AV) (f : Fn → List AV → List AV → OV) (g : Nat → OV) : OV :=
  AV.rec (motive_1 := fun _ => (Fn → List AV → List AV → OV) → (Nat → OV) → OV) (motive_2 := fun _ => Unit)
    (fun _ _ => none) (fun _ _ _ => none) (fun _ _ _ _ => none) (fun _ _ _ _ => none) (fun _ _ => none) (fun _ _ _ _ => none) (fun _ _ => none)
    (fun _ _ _ _ _ _ _ => none) (fun _ _ => none) (fun _ _ _ => none) (fun fn a c _ _ f _ => f fn a c) (fun _ _ => none) (fun i _ g => g i) (fun _ _ _ _ _ => none)
    (fun _ _ => none) (fun _ _ _ _ => none) (fun _ _ _ _ => none) () (fun _ _ _ _ => ()) v f g
def fnO (fn : Fn) (k : FuncId → OV) : OV := match fn with
  | .func g => k g
  | _ => none
def callH (g : F2 → LS → AV) (as : F2 → LS → List AV) (call : CallF) (f : F2) (L : LS) (st : St) : OV :=
  funO (g f L) (fun fn a c => fnO fn (fun q => call (.func q) ((a ++ as f L) ++ c) st)) (fun i => call (.yield i) (as f L) st)

def readC (h : clsOf P o.op = .read) (C : ContC P S ops l E o.dst) : BodyC P S ops o l E :=
  match ho : o.op with
  | .load t x => match ht : aggN P t with
    | some none => loadB ho ht C
    | _ => readB h C
  | _ => readB h C

def heavyC (C : ContC P S ops l E o.dst) : BodyC P S ops o l E :=
  match ho : o.op with
  | .call ⟨.value (.func _), _, _⟩ => callB ho C
  | .call ⟨.value x, args, _⟩ => match getC S E x, argsC S E args.toList with
    | ⟨g, hg⟩, ⟨as, has⟩ => heavyE (callH g as) (fun call f L st => by
      rw [ho]
      simp only [opHeavy, callH]
      rw [← hg, ← has]
      generalize g f L = v
      cases v <;> first | rfl | skip
      rename_i fn a c
      cases fn <;> rfl) C
  | .call ⟨.builtin .append, args, ts⟩ => match h0 : args[0]?, h1 : args[1]? with
    | some s, some x => match getC S E s, getC S E x with
      | ⟨gs, hs⟩, ⟨gx, hx⟩ => match ht : appT P ts with
        | some (1, bytes, zl, false) => heavyE (app1H P ts bytes gs gx) (fun call f L st => by
          rw [ho]
          simp only [opHeavy, h0, h1, app1H]
          rw [app1_eq ht, hs, hx]) C
        | _ => heavyE (appH P ts gs gx) (fun call f L st => by
          rw [ho]
          simp only [opHeavy, h0, h1, appH]
          rw [hs, hx]) C
    | _, _ => heavyB C
  | .call ⟨.builtin .copy, args, ts⟩ => match h0 : args[0]?, h1 : args[1]? with
    | some s, some x => match getC S E s, getC S E x with
      | ⟨gs, hs⟩, ⟨gx, hx⟩ => heavyE (copyH P ts gs gx) (fun call f L st => by
        rw [ho]
        simp only [opHeavy, h0, h1, copyH]
        rw [hs, hx]) C
    | _, _ => heavyB C
  | .store t a x => match ht : szOf P t with
    | some 1 => match getC S E a, getC S E x with
      | ⟨ga, ha⟩, ⟨gx, hx⟩ => heavyE (storeH P t ga gx) (fun call f L st => by
        rw [ho]
        simp only [opHeavy, storeH]
        rw [store1_eq ht, ha, hx]) C
    | _ => heavyB C
  | _ => heavyB C

/-! ### Quick: one byte in a block of its own; bytes appended to bytes -/
abbrev OA := Option (AO × (Nat → AV))
/-- a byte, or the slow way -/
def u8A (v : AV) (z : OA) (f : Nat → OA) : OA :=
  AV.rec (motive_1 := fun _ => OA → (Nat → OA) → OA) (motive_2 := fun _ => Unit)
    (fun z _ => z) (fun _ z _ => z)
    (fun k n z f => IntKind.rec (motive := fun _ => OA) z z z z (Int.rec (motive := fun _ => OA) f (fun _ => z) n) z z z k)
    (fun _ _ z _ => z) (fun z _ => z) (fun _ _ z _ => z) (fun z _ => z)
    (fun _ _ _ _ _ z _ => z) (fun z _ => z) (fun _ z _ => z) (fun _ _ _ _ _ z _ => z) (fun z _ => z) (fun _ z _ => z) (fun _ _ _ z _ => z)
    (fun z _ => z) (fun _ _ z _ => z) (fun _ _ z _ => z) () (fun _ _ _ _ => ()) v z f
theorem u8A_ok (v : AV) (z : OA) (f : Nat → OA) : u8A v z f = z ∨ ∃ b, v = .int .u8 (.ofNat b) ∧ u8A v z f = f b := by
  cases v <;> first | exact .inl rfl | skip
  rename_i k n
  cases k <;> first | exact .inl rfl | skip
  cases n <;> first | exact .inl rfl | exact .inr ⟨_, rfl, rfl⟩

def one1 (b : Nat) : AO × (Nat → AV) := (.bytes true 1 b, fun i => .slice i 0 1 1 0)
def bs1 (z : OA) (v : AV) : OA := u8A v z (fun b => Bool.rec (motive := fun _ => OA) z (some (one1 b)) (Nat.blt b 256))

theorem bs1_eq {P : Program} {t e : TypeId} {parts : Array (Nat × Operand)} {z : AV} {x : Operand} {v : Operand → AV} (ht : P.underlying t = some (.slice e)) (hz : zeroL P e = some [z]) (hp : parts.toList = [(0, x)]) :
    bs1 (opAlloc P (.buildSlice t 1 parts) v) (v x) = opAlloc P (.buildSlice t 1 parts) v := by
  unfold bs1
  rcases u8A_ok (v x) (opAlloc P (.buildSlice t 1 parts) v) (fun b => Bool.rec (motive := fun _ => OA) (opAlloc P (.buildSlice t 1 parts) v) (some (one1 b)) (Nat.blt b 256)) with h | ⟨b, h1, h2⟩
  · exact h
  · rw [h2]
    cases hb : Nat.blt b 256 with
    | false => rfl
    | true =>
      show some (one1 b) = _
      have hl : ([z] : List AV).length = 1 := rfl
      simp only [opAlloc, ht, hz, hp, List.map_cons, List.map_nil, h1, hl]
      have e1 : Nat.ble (1 * 1) 16777216 = true := rfl
      rw [e1, cond_true]
      have e2 : fillA (fun i => some (i * 1, 1)) (zerosA [z] 1) [(0, AV.int .u8 (.ofNat b))] = some [AV.int .u8 (.ofNat b)] := rfl
      rw [e2]
      have e3 : packA [AV.int .u8 (.ofNat b)] = some b := by
        show (bif Nat.blt b 256 then (packA []).map fun m => b ||| (m <<< 8) else none) = some b
        rw [hb]
        show some (b ||| (0 <<< 8)) = some b
        simp
      simp only [rowOf, e3, mkRow, Option.map_some]
      rfl

def allocK (h : F2 → LS → OA) (r : AV → Rn) (call : CallF) (f : F2) (L : LS) (st : St) : RR :=
  pairR (h f L) (fun ao g => Bool.rec (motive := fun _ => RR) .no (r (g st.top) call f L (st.alloc ao)) st.room)

theorem allocK_ok {h : F2 → LS → OA} (hcls : clsOf P o.op = .alloc) (hh : ∀ f L, h f L = opAlloc P o.op (valQ S E f L)) (C : ContC P S ops l E o.dst) :
    ∀ call, CallOk P S.G call → ∀ f L st f' st', allocK h C.run call f L st = .ok f' st' → ∀ ρ (a : Act) w, QF S.lim S.X ρ f a.tmps → LR S.lim ρ E L a.tmps → Rel ρ st w → Glob ρ S.G →
      ∀ (ro : Option Nat) (Q : Exit → Act → World → Prop), (∀ ρ' a' w', QF S.lim S.X ρ' f' a'.tmps → Good ρ st w ρ' st' w' → a'.defers = a.defers → Q .normal a' w') → o.wpIn (fence ro) 0 P a w (wpListIn (fence ro) 0 P ops Q l) Q := by
  intro call hc f L st f' st' hrun
  have e : allocK h C.run call f L st = allocQ P S E o.op C.run call f L st := by
    unfold allocK allocQ
    rw [hh, opAllocF_eq]
  rw [e] at hrun
  obtain ⟨r, hr⟩ := C
  exact (allocB hcls ⟨r, hr⟩).ok call hc f L st f' st' hrun

def allocE (hcls : clsOf P o.op = .alloc) (h : F2 → LS → OA) (hh : ∀ f L, h f L = opAlloc P o.op (valQ S E f L)) (C : ContC P S ops l E o.dst) : BodyC P S ops o l E :=
  ⟨allocK h C.run, allocK_ok hcls hh C⟩

def bs1H (P : Program) (S : Sta) (E : En) (o : Op) (g : F2 → LS → AV) (f : F2) (L : LS) : OA := bs1 (opAllocF o P (valQ S E f L)) (g f L)

def allocC (hcls : clsOf P o.op = .alloc) (C : ContC P S ops l E o.dst) : BodyC P S ops o l E :=
  match ho : o.op with
  | .buildSlice t 1 parts => match ht : P.underlying t with
    | some (.slice e) => match hz : zeroL P e, hp : parts.toList with
      | some [z], [(0, x)] => match getC S E x with
        | ⟨g, hg⟩ => allocE hcls (bs1H P S E (.buildSlice t 1 parts) g) (fun f L => by
          unfold bs1H
          rw [ho, opAllocF_eq, hg]
          exact bs1_eq ht hz hp) C
      | _, _ => allocB hcls C
    | _ => allocB hcls C
  | _ => allocB hcls C

def bodyC (P : Program) (S : Sta) (ops : Array Oper) (o : Oper) (l : List Oper) (E : En) (C : ContC P S ops l E o.dst) : BodyC P S ops o l E :=
  match h : clsOf P o.op with
  | .pure => pureB h C
  | .read => readC h C
  | .alloc => allocC h C
  | .soft => softB h C
  | .heavy => heavyC C

/-! ### Guards -/
theorem wanted_get {j : Nat} {want : Bool} {t : Tmp} {tmps : Array Value} (hg : o.guard = some (j, want)) (hd : (ops[j]?).bind (·.dst) = some t) (ht : t < tmps.size) :
    Region.wanted o (yielded ops tmps) = (match tmps.getD t undef with | .bool b => b == want | _ => false) := by
  unfold Region.wanted
  rw [hg]
  simp only []
  unfold yielded
  rw [hd]
  simp only [Option.bind_some]
  have hget : tmps.getD t undef = tmps[t] := by simp [Array.getD, ht]
  rw [hget, Array.getElem?_eq_getElem ht]
  generalize tmps[t] = x
  cases x <;> simp

def guardK (want : Bool) (v : AV) (body skip : RR) : RR := match v with
  | .bool b => Bool.rec (motive := fun _ => RR) skip body (b == want)
  | .tup _ => skip
  | _ => .no
def gV (v : AV) (x y z : RR) : RR :=
  AV.rec (motive_1 := fun _ => RR → RR → RR → RR) (motive_2 := fun _ => Unit)
    (fun _ _ _ => .no) (fun b x y _ => Bool.rec (motive := fun _ => RR) y x b) (fun _ _ _ _ _ => .no) (fun _ _ _ _ _ => .no) (fun _ _ _ => .no) (fun _ _ _ _ _ => .no) (fun _ _ _ => .no)
    (fun _ _ _ _ _ _ _ _ => .no) (fun _ _ _ => .no) (fun _ _ _ _ => .no) (fun _ _ _ _ _ _ _ _ => .no) (fun _ _ _ => .no) (fun _ _ _ _ => .no) (fun _ _ _ _ _ _ => .no)
    (fun _ _ _ => .no) (fun _ _ _ _ _ => .no) (fun _ _ _ _ z => z) () (fun _ _ _ _ => ()) v x y z
def guardT (v : AV) (body skip : RR) : RR := gV v body skip skip
def guardF (v : AV) (body skip : RR) : RR := gV v skip body skip
structure GuardC (want : Bool) where
  run : AV → RR → RR → RR
  ok : ∀ v x y, run v x y = guardK want v x y
def guardC (want : Bool) : GuardC want :=
  match want with
  | true => ⟨guardT, fun v x y => by cases v <;> first | rfl | skip
                                     rename_i b; cases b <;> rfl⟩
  | false => ⟨guardF, fun v x y => by cases v <;> first | rfl | skip
                                      rename_i b; cases b <;> rfl⟩
def guardG (q : AV → RR → RR → RR) (g : F2 → LS → AV) (b : Rn) (r : AV → Rn) (call : CallF) (f : F2) (L : LS) (st : St) : RR := q (g f L) (b call f L st) (r undefA call f L st)
def guardQ (want : Bool) (g : F2 → LS → AV) (b : Rn) (r : AV → Rn) (call : CallF) (f : F2) (L : LS) (st : St) : RR := guardK want (g f L) (b call f L st) (r undefA call f L st)

def noRn : Rn := fun _ _ _ _ => .no

def stepC (P : Program) (S : Sta) (ops : Array Oper) (o : Oper) (l : List Oper) (E : En) (C : ContC P S ops l E o.dst) : OpsC P S ops (o :: l) E :=
  match hgd : o.guard with
  | none => match bodyC P S ops o l E C with
    | ⟨b, hb⟩ => ⟨b, fun call hc f L st f' st' hrun ρ a w hF hL hR hG ro Q hQ => by
      unfold wpListIn
      have : Region.wanted o (yielded ops a.tmps) = true := by simp only [Region.wanted, hgd]
      rw [this]
      simp only [if_true]
      exact hb call hc f L st f' st' hrun ρ a w hF hL hR hG ro Q hQ⟩
  | some (j, want) => match hd : (ops[j]?).bind (·.dst) with
    | none => ⟨noRn, fun call hc f L st f' st' hrun => by cases hrun⟩
    | some t => match ht : Nat.blt t S.lim with
      | false => ⟨noRn, fun call hc f L st f' st' hrun => by cases hrun⟩
      | true => match getC S E (.tmp t), bodyC P S ops o l E C, C, guardC want with
        | ⟨g, hgt⟩, ⟨b, hb⟩, ⟨r, hr⟩, ⟨q, hq⟩ => ⟨guardG q g b r, fun call hc f L st f' st' hrun ρ a w hF hL hR hG ro Q hQ => by
          have hlt := blt_iff.1 ht
          have hsz := hF.size
          have hv := valQ_VR hF hL hG (.tmp t)
          rw [← hgt] at hv
          have hw := wanted_get (o := o) (ops := ops) (tmps := a.tmps) hgd hd (Nat.lt_of_lt_of_le hlt hsz)
          have hev : a.eval (.tmp t) = a.tmps.getD t undef := rfl
          rw [hev] at hv
          have hrun : guardK want (g f L) (b call f L st) (r undefA call f L st) = .ok f' st' := by rw [← hq]; exact hrun
          unfold guardK at hrun
          unfold wpListIn
          split at hrun
          · rename_i bb hgv
            rw [hgv] at hv
            generalize a.tmps.getD t undef = x at hv hw
            cases hv
            simp only [] at hw
            rw [hw]
            cases hbw : (bb == want) with
            | true =>
              rw [hbw] at hrun
              simp only [if_true]
              exact hb call hc f L st f' st' hrun ρ a w hF hL hR hG ro Q hQ
            | false =>
              rw [hbw] at hrun
              simp only [Bool.false_eq_true, if_false]
              exact ⟨fun _ _ => trivial, hr call hc undefA f L st f' st' hrun ρ a w undef (.tup _ _ .nil) hF hL hR hG ro Q hQ⟩
          · rename_i ll hgv
            rw [hgv] at hv
            generalize a.tmps.getD t undef = x at hv hw
            cases hv
            simp only [] at hw
            rw [hw]
            simp only [Bool.false_eq_true, if_false]
            exact ⟨fun _ _ => trivial, hr call hc undefA f L st f' st' hrun ρ a w undef (.tup _ _ .nil) hF hL hR hG ro Q hQ⟩
          · cases hrun⟩

def endRn : Rn := fun _ f _ st => .ok f st

def listC (P : Program) (S : Sta) (ops : Array Oper) : (l : List Oper) → (E : En) → OpsC P S ops l E
  | [], E => ⟨endRn, fun call hc f L st f' st' hrun ρ a w hF hL hR hG ro Q hQ => by
      cases hrun
      exact hQ ρ a w hF (.refl hR) rfl⟩
  | o :: l, E => stepC P S ops o l E (contC P S ops l E o.dst (listC P S ops l))

end
end
end Go.Ev

