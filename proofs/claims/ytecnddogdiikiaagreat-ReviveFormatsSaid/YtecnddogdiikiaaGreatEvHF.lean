/-
  The pure operations once more, in a form that is quick to reckon: the same answers.
-/
import Derived.Test.YtecnddogdiikiaaGreatEvI
set_option linter.unusedVariables false
set_option linter.unusedSimpArgs false
namespace Go.Ev
open Go
noncomputable section

def wrapF (k : IntKind) : Int → Int :=
  match k with
  | .i8 => fun n => wrapA .i8 n
  | .i16 => fun n => wrapA .i16 n
  | .i32 => fun n => wrapA .i32 n
  | .i64 => fun n => match n with
    | .ofNat m => Bool.rec (motive := fun _ => Int) (wrapA .i64 (.ofNat m)) (.ofNat m) (Nat.ble m (nat_lit 9223372036854775807))
    | .negSucc m => wrapA .i64 (.negSucc m)
  | .u8 => fun n => match n with
    | .ofNat m => .ofNat (Nat.mod m (nat_lit 256))
    | .negSucc m => wrapA .u8 (.negSucc m)
  | .u16 => fun n => match n with
    | .ofNat m => .ofNat (Nat.mod m (nat_lit 65536))
    | .negSucc m => wrapA .u16 (.negSucc m)
  | .u32 => fun n => match n with
    | .ofNat m => .ofNat (Nat.mod m (nat_lit 4294967296))
    | .negSucc m => wrapA .u32 (.negSucc m)
  | .u64 => fun n => match n with
    | .ofNat m => .ofNat (Nat.mod m (nat_lit 18446744073709551616))
    | .negSucc m => wrapA .u64 (.negSucc m)

theorem wrapF_eq (k : IntKind) (n : Int) : wrapF k n = wrapA k n := by
  cases k <;> cases n <;> try rfl
  rename_i m
  show Bool.rec (motive := fun _ => Int) (wrapA .i64 (.ofNat m)) (.ofNat m) (Nat.ble m 9223372036854775807) = _
  cases hb : Nat.ble m 9223372036854775807 with
  | false => rfl
  | true =>
    have := ble_iff.1 hb
    have h2 : Nat.blt m 9223372036854775808 = true := blt_iff.2 (by omega)
    simp only [wrapA, h2, cond_true]

def limF (k : IntKind) : Nat :=
  match k with
  | .i8 => nat_lit 127 | .i16 => nat_lit 32767 | .i32 => nat_lit 2147483647 | .i64 => nat_lit 9223372036854775807
  | .u8 => nat_lit 255 | .u16 => nat_lit 65535 | .u32 => nat_lit 4294967295 | .u64 => nat_lit 18446744073709551615

def bitNat (op : BinOp) : Option (Nat → Nat → Nat) :=
  match op with
  | .and => some Nat.land
  | .or => some Nat.lor
  | .xor => some Nat.xor
  | _ => none

/-- the kinds without a sign: how many numbers they have -/
def unsM (k : IntKind) : Option Nat :=
  match k with
  | .u8 => some (nat_lit 256) | .u16 => some (nat_lit 65536) | .u32 => some (nat_lit 4294967296) | .u64 => some (nat_lit 18446744073709551616)
  | .i8 => none | .i16 => none | .i32 => none | .i64 => none

theorem unsM_eq {k : IntKind} {M : Nat} (h : unsM k = some M) : M = 2 ^ k.bits ∧ ∀ n : Nat, k.wrap (n : Int) = ((n % M : Nat) : Int) := by
  cases k <;> simp only [unsM, Option.some.injEq, reduceCtorEq] at h <;> subst h <;> refine ⟨rfl, fun n => ?_⟩ <;> simp only [IntKind.wrap, IntKind.bits, IntKind.signed] <;> simp

theorem bits_ofNat (k : IntKind) (x : Nat) : (BitVec.ofInt k.bits (Int.ofNat x)).toNat = x % 2 ^ k.bits := by
  simp only [Int.ofNat_eq_natCast]
  rw [BitVec.ofInt_natCast, BitVec.toNat_ofNat]

/-- of two numbers that are not below 0, and fit -/
def bitsF (op : BinOp) (k : IntKind) (a b : Int) : Option AV :=
  match a with
  | .ofNat x => match b with
    | .ofNat y => match bitNat op with
      | some f => match unsM k with
        | some M => some (.int k (.ofNat (Nat.mod (f x y) M)))
        | none => Bool.rec (motive := fun _ => Option AV) ((bitsA op k (.ofNat x) (.ofNat y)).map (.int k)) (some (.int k (.ofNat (f x y)))) (and (Nat.ble x (limF k)) (Nat.ble y (limF k)))
      | none => (bitsA op k (.ofNat x) (.ofNat y)).map (.int k)
    | .negSucc y => (bitsA op k (.ofNat x) (.negSucc y)).map (.int k)
  | .negSucc x => (bitsA op k (.negSucc x) b).map (.int k)

theorem bitsF_eq (op : BinOp) (k : IntKind) (a b : Int) : bitsF op k a b = (bitsA op k a b).map (.int k) := by
  unfold bitsF
  split
  · rename_i x
    split
    · rename_i y
      split
      · rename_i f hf
        split
        · rename_i M hM
          obtain ⟨rfl, hw⟩ := unsM_eq hM
          cases op <;> simp only [bitNat, Option.some.injEq, reduceCtorEq] at hf <;> subst hf <;> simp only [bitsA, Option.map_some, BitVec.toNat_and, BitVec.toNat_or, BitVec.toNat_xor, bits_ofNat, hw]
          · rw [← Nat.and_mod_two_pow, Nat.mod_mod]; rfl
          · rw [← Nat.or_mod_two_pow, Nat.mod_mod]; rfl
          · rw [← Nat.xor_mod_two_pow, Nat.mod_mod]; rfl
        cases hb : (and (Nat.ble x (limF k)) (Nat.ble y (limF k))) with
        | false => rfl
        | true =>
          simp only [Bool.and_eq_true, ble_iff] at hb
          obtain ⟨hx, hy⟩ := hb
          have hbits : limF k < 2 ^ k.bits := by cases k <;> decide
          have ex : (BitVec.ofInt k.bits (Int.ofNat x)).toNat = x := by
            simp only [Int.ofNat_eq_natCast]
            rw [BitVec.ofInt_natCast, BitVec.toNat_ofNat, Nat.mod_eq_of_lt (by omega)]
          have ey : (BitVec.ofInt k.bits (Int.ofNat y)).toNat = y := by
            simp only [Int.ofNat_eq_natCast]
            rw [BitVec.ofInt_natCast, BitVec.toNat_ofNat, Nat.mod_eq_of_lt (by omega)]
          have hfit : ∀ z : Nat, z ≤ limF k → k.wrap (z : Int) = z := by
            intro z hz
            rw [← wrapA_eq]
            cases k <;> simp only [limF] at hz <;> first
              | (simp only [wrapA]; simp; omega)
              | (rw [wrapA_eq]; simp only [IntKind.wrap, IntKind.bits, IntKind.signed]; simp; omega)
              | (have : Nat.blt z 9223372036854775808 = true := blt_iff.2 (by omega)
                 show (bif Nat.blt z 9223372036854775808 then Int.ofNat z else _) = _
                 rw [this]; rfl)
          have hlim : ∃ j, limF k + 1 = 2 ^ j := by cases k <;> first | exact ⟨7, rfl⟩ | exact ⟨15, rfl⟩ | exact ⟨31, rfl⟩ | exact ⟨63, rfl⟩ | exact ⟨8, rfl⟩ | exact ⟨16, rfl⟩ | exact ⟨32, rfl⟩ | exact ⟨64, rfl⟩
          obtain ⟨j, hj⟩ := hlim
          have hx' : x < 2 ^ j := by omega
          have hy' : y < 2 ^ j := by omega
          cases op <;> simp only [bitNat, Option.some.injEq, reduceCtorEq] at hf <;> subst hf <;> simp only [bitsA, Option.map_some]
          · rw [BitVec.toNat_and, ex, ey, hfit]
            · rfl
            · have := Nat.and_lt_two_pow x hy'; omega
          · rw [BitVec.toNat_or, ex, ey, hfit]
            · rfl
            · have := Nat.or_lt_two_pow hx' hy'; omega
          · rw [BitVec.toNat_xor, ex, ey, hfit]
            · rfl
            · have := Nat.xor_lt_two_pow hx' hy'; omega
      · rfl
    · rfl
  · rfl

def intF (op : BinOp) : IntKind → Int → Int → Option AV :=
  match op with
  | .add => fun k a b => some (.int k (wrapF k (Int.add a b)))
  | .sub => fun k a b => some (.int k (wrapF k (Int.sub a b)))
  | .mul => fun k a b => some (.int k (wrapF k (Int.mul a b)))
  | .eql => fun _ a b => some (.bool (eqI a b))
  | .neq => fun _ a b => some (.bool (not (eqI a b)))
  | .lss => fun _ a b => some (.bool (ltA a b))
  | .leq => fun _ a b => some (.bool (not (ltA b a)))
  | .gtr => fun _ a b => some (.bool (ltA b a))
  | .geq => fun _ a b => some (.bool (not (ltA a b)))
  | .and => fun k a b => bitsF .and k a b
  | .or => fun k a b => bitsF .or k a b
  | .xor => fun k a b => bitsF .xor k a b
  | .quo => fun k a b => intA .quo k a b
  | .rem => fun k a b => intA .rem k a b
  | .andNot => fun k a b => intA .andNot k a b
  | .shl => fun k a b => intA .shl k a b
  | .shr => fun k a b => intA .shr k a b

theorem intF_eq (op : BinOp) (k : IntKind) (a b : Int) : intF op k a b = intA op k a b := by
  cases op <;> simp only [intF, intA, wrapF_eq, bitsF_eq] <;> rfl

def shrF (k : IntKind) (x y : Int) : Option AV :=
  match x with
  | .ofNat m => match y with
    | .ofNat n => some (.int k (.ofNat (Nat.div m (Nat.pow (nat_lit 2) (min n k.bits)))))
    | .negSucc _ => none
  | .negSucc m => shiftA .shr k (.negSucc m) y

def shiftF (op : BinOp) : IntKind → Int → Int → Option AV :=
  match op with
  | .shr => fun k x y => shrF k x y
  | op => fun k x y => shiftA op k x y

theorem shiftF_eq (op : BinOp) (k : IntKind) (x y : Int) : shiftF op k x y = shiftA op k x y := by
  cases op <;> simp only [shiftF, shrF]
  split
  · rename_i m
    split
    · rename_i n
      simp only [shiftA]
      have : (Int.ofNat m).fdiv ((2 ^ min n k.bits : Nat) : Int) = Int.ofNat (m / 2 ^ min n k.bits) := by
        simp only [Int.ofNat_eq_natCast]; rw [← Int.ofNat_fdiv]
      rw [this]; rfl
    · rfl
  · rfl

def notF (k : IntKind) (x : Int) : Option AV :=
  match x with
  | .ofNat m => match unsM k with
    | some M => some (.int k (.ofNat (Nat.sub (Nat.sub M (nat_lit 1)) (Nat.mod m M))))
    | none => unA .xor (.int k (.ofNat m))
  | .negSucc m => unA .xor (.int k (.negSucc m))

theorem notF_eq (k : IntKind) (x : Int) : notF k x = unA .xor (.int k x) := by
  unfold notF
  split
  · rename_i m
    split
    · rename_i M hM
      obtain ⟨rfl, hw⟩ := unsM_eq hM
      have hs : (if k.signed = true then (-1 : Int) else k.max) = Int.ofNat (2 ^ k.bits - 1) := by
        cases k <;> simp only [unsM, reduceCtorEq] at hM <;> rfl
      simp only [unA, bitsA, Option.map_some, hs]
      have h1 : BitVec.ofInt k.bits (Int.ofNat (2 ^ k.bits - 1)) = BitVec.allOnes k.bits := by
        apply BitVec.eq_of_toNat_eq
        rw [bits_ofNat, BitVec.toNat_allOnes, Nat.mod_eq_of_lt]
        have := Nat.two_pow_pos k.bits; omega
      rw [h1, BitVec.allOnes_xor, BitVec.toNat_not, bits_ofNat, hw, Nat.mod_eq_of_lt]
      · rfl
      · have := Nat.two_pow_pos k.bits; omega
    · rfl
  · rfl

def unF (op : UnOp) (x : AV) : Option AV :=
  match op with
  | .xor => match x with
    | .int k n => notF k n
    | x => unA .xor x
  | op => unA op x

theorem unF_eq (op : UnOp) (x : AV) : unF op x = unA op x := by
  cases op <;> first | rfl | skip
  cases x <;> first | rfl | exact notF_eq _ _

/-- is it a shift? -/
def isShift (op : BinOp) : Bool := match op with | .shl => true | .shr => true | _ => false

def binIntF (op : BinOp) (k : IntKind) (m : Int) (k' : IntKind) (n : Int) : Option AV :=
  match isShift op with
  | true => shiftF op k m n
  | false => match kindEq k k' with
    | true => intF op k m n
    | false => none

def binF (P : Program) (op : BinOp) (t : TypeId) (x y : Operand) (a b : AV) : Option AV :=
  match a with
  | .int k m => match b with
    | .int k' n => binIntF op k m k' n
    | b => binA P op t x y (.int k m) b
  | a => binA P op t x y a b

theorem binF_eq (P : Program) (op : BinOp) (t : TypeId) (x y : Operand) (a b : AV) : binF P op t x y a b = binA P op t x y a b := by
  unfold binF
  split
  · split
    · unfold binIntF
      cases op <;> simp only [isShift, binA, shiftF_eq] <;> first | rfl | skip
      all_goals (generalize kindEq _ _ = q; cases q <;> simp only [cond_true, cond_false, intF_eq])
    · rfl
  · rfl

def opPureF (o : Op) : Program → (Operand → AV) → Option AV :=
  match o with
  | .move x => fun _ v => some (v x)
  | .assign x => fun _ v => some (v x)
  | .pick c a b => fun _ v => match v c with
    | .bool true => some (v a)
    | .bool false => some (v b)
    | _ => none
  | .build t parts => fun P v => opPure P (.build t parts) v
  | .binOp op t x y ty => fun P v => binF P op t x y (v x) (v y)
  | .unOp op t x => fun _ v => unF op (v x)
  | .convert s d x => fun P v => convA P s d (v x)
  | .slice t x lo hi mx => fun P v => opPure P (.slice t x lo hi mx) v
  | .fieldAddr s x f => fun P v => match v x with
    | .ptr i o => match fieldOff P s f with
      | some off => some (.ptr i (Nat.add o off))
      | none => none
    | _ => none
  | .field t x f => fun P v => fieldA P t (v x) f
  | .indexAddr t x i => fun P v => indexAtA P t (v x) (v i)
  | .index t x i => fun P v => indexA P t (v x) (v i)
  | .extract x i => fun _ v => match v x with
    | .tup l => l[i]?
    | _ => none
  | .makeFunc fn first captured => fun P v => opPure P (.makeFunc fn first captured) v
  | .makeInterface t x => fun P v => opPure P (.makeInterface t x) v
  | .nilCheck x => fun P v => opPure P (.nilCheck x) v
  | .call c => fun P v => opPure P (.call c) v
  | o => fun P v => opPure P o v

theorem opPureF_eq (o : Op) (P : Program) (v : Operand → AV) : opPureF o P v = opPure P o v := by
  cases o <;> first | rfl | skip
  · simp only [opPureF, opPure, binF_eq]
  · simp only [opPureF, opPure, unF_eq]
  · rename_i s x f
    simp only [opPureF, opPure]
    generalize v x = y
    cases y <;> first | rfl | (cases fieldOff P s f <;> rfl)

end
end Go.Ev

