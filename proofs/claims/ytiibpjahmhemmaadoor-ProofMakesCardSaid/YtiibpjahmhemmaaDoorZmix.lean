/-
  proof.mix, with data that is not known: each turn of each loop is one reckoning.
-/
import Derived.Test.YtiibpjahmhemmaaDoorProg
import Derived.Test.YtiibpjahmhemmaaDoorEvW
import Derived.KernelRfl
namespace Go.Ev
open Go Go.Proofs
set_option maxRecDepth 100000
noncomputable section

/-! ### Parts of code -/
noncomputable def cA : Code → Code
  | .seq a _ => a
  | .cond _ a _ => a
  | .block _ c => c
  | .loop c => c
  | c => c
noncomputable def cB : Code → Code
  | .seq _ b => b
  | .cond _ _ b => b
  | c => c
noncomputable def bodyOf (P : Program) (f : Nat) : Code := match P.funcs[f]? with
  | some fn => match fn.body with
    | some c => c
    | none => .skip
  | none => .skip
def isSeq : Code → Bool
  | .seq _ _ => true
  | _ => false
def isLoop : Code → Bool
  | .loop _ => true
  | _ => false
def isBlock (id : Nat) : Code → Bool
  | .block j _ => Nat.beq j id
  | _ => false

section parts
variable {P : Program} {G : Nat} {c : Code} {fr fr1 fr2 : Fr} {st st1 st2 : St} {ex : Ex}
theorem Tr.seqC (hc : isSeq c = true) (h1 : Tr P G (cA c) fr st .normal fr1 st1) (h2 : Tr P G (cB c) fr1 st1 ex fr2 st2) : Tr P G c fr st ex fr2 st2 := by
  cases c <;> simp [isSeq] at hc
  exact .seq h1 h2
theorem Tr.loopC (hc : isLoop c = true) (h1 : Tr P G (cA c) fr st .normal fr1 st1) (h2 : Tr P G c fr1 st1 ex fr2 st2) : Tr P G c fr st ex fr2 st2 := by
  cases c <;> simp [isLoop] at hc
  exact .loop h1 h2
theorem Tr.loopCX (hc : isLoop c = true) (hex : ex ≠ .normal) (h1 : Tr P G (cA c) fr st ex fr1 st1) : Tr P G c fr st ex fr1 st1 := by
  cases c <;> simp [isLoop] at hc
  exact .loopX hex h1
theorem Tr.blockC {id : Nat} (hc : isBlock id c = true) (h1 : Tr P G (cA c) fr st (.exit id) fr1 st1) : Tr P G c fr st .normal fr1 st1 := by
  cases c <;> simp [isBlock] at hc
  subst hc
  rename_i j b
  have := Tr.block (id := j) h1
  simpa [Ex.out, cA] using this
end parts

/-- a run, and what is kept of the slots -/
def evK (P : Program) (call : CallF) (n : Nat) (ids : List Nat) (c : Code) (fr : Fr) (st : St) : Option (Ex × Fr × St × PL) :=
  match evNP P 1 call n c fr st with
  | some (ex, fr', st', ps) => some (ex, fr'.keep ids, st', ps)
  | none => none

theorem Tr.of_evK {P : Program} {call : CallF} (hcall : CallOk P 1 call) (hmix : P.follows .mixedOrders = true) {n : Nat} {ids : List Nat} {c : Code} {fr fr1 : Fr} {st st1 : St} {ex : Ex} {ps : PL}
    (h : evK P call n ids c fr st = some (ex, fr1, st1, ps)) (ha : AllEq ps) : Tr P 1 c fr st ex fr1 st1 := by
  unfold evK at h
  split at h
  · rename_i ex' fr' st' ps' h'
    simp only [Option.some.injEq, Prod.mk.injEq] at h
    obtain ⟨rfl, rfl, rfl, rfl⟩ := h
    exact (evNP_ok hcall hmix _ _ _ _ _ _ _ _ h' ha).keep ids
  · cases h

/-! ### Words of 32 bits -/
abbrev u32A (n : Nat) : AV := .int .u32 (.ofNat n)
abbrev i64A (n : Nat) : AV := .int .i64 (.ofNat n)
def row32 (n : Nat) (W : Nat → Nat) : List AV := (List.range n).map fun i => u32A (W i)
def updN (W : Nat → Nat) (t v : Nat) : Nat → Nat := fun i => Bool.rec (motive := fun _ => Nat) (W i) v (Nat.beq i t)

def A32 (x y : Nat) : Nat := Nat.mod (Nat.add x y) 4294967296
def X32 (x y : Nat) : Nat := Nat.mod (Nat.xor x y) 4294967296
def N32 (x y : Nat) : Nat := Nat.mod (Nat.land x y) 4294967296
def O32 (x y : Nat) : Nat := Nat.mod (Nat.lor x y) 4294967296
def C32 (x : Nat) : Nat := Nat.sub (Nat.sub 4294967296 1) (Nat.mod x 4294967296)
def V32 (x : Nat) : Nat := Nat.mod x 4294967296
def L8 (x : Nat) : Nat := Nat.mod (Nat.mul x 256) 4294967296
def R32 (x n : Nat) : Nat := Nat.div x (Nat.pow 2 n)
/-- turned right by n bits -/
def rorS (x n : Nat) : Nat := O32 (Nat.mod (Nat.mul x (2 ^ (32 - n))) 4294967296) (R32 x n)

/-- the calls of proof.mix: proof.ror -/
def callS : CallF := fun f args st => match f, args with
  | 30, [.int .u32 (.ofNat x), .int .i64 (.ofNat n)] => bif Nat.blt 0 n && Nat.blt n 32 then some (.int .u32 (.ofNat (rorS x n)), st) else none
  | _, _ => none

def ldw (W : Nat → Nat) (m t : Nat) : Nat := O32 (L8 (O32 (L8 (O32 (L8 (O32 (L8 (W t)) (V32 (byte m (4 * t))))) (V32 (byte m (4 * t + 1))))) (V32 (byte m (4 * t + 2))))) (V32 (byte m (4 * t + 3)))
def sg0 (x : Nat) : Nat := X32 (X32 (rorS x 7) (rorS x 18)) (R32 x 3)
def sg1 (y : Nat) : Nat := X32 (X32 (rorS y 17) (rorS y 19)) (R32 y 10)
def exw (W : Nat → Nat) (t : Nat) : Nat := A32 (A32 (A32 (sg1 (W (t - 2))) (W (t - 7))) (sg0 (W (t - 15)))) (W (t - 16))
def one8 (k w e f g h : Nat) : Nat := A32 (A32 (A32 (A32 h (X32 (X32 (rorS e 6) (rorS e 11)) (rorS e 25))) (X32 (N32 e f) (N32 (C32 e) g))) k) w
def two8 (a b c : Nat) : Nat := A32 (X32 (X32 (rorS a 2) (rorS a 13)) (rorS a 22)) (X32 (X32 (N32 a b) (N32 a c)) (N32 b c))

structure S8 where
  (a b c d e f g h : Nat)
def S8.get (s : S8) (i : Nat) : Nat := match s with
  | ⟨a, b, c, d, e, f, g, h⟩ => [a, b, c, d, e, f, g, h].getD i 0
def rnd (K W : Nat → Nat) (t : Nat) (s : S8) : S8 := match s with
  | ⟨a, b, c, d, e, f, g, h⟩ => ⟨A32 (one8 (K t) (W t) e f g h) (two8 a b c), a, b, c, A32 d (one8 (K t) (W t) e f g h), e, f, g⟩

def ldAll (m : Nat) : Nat → Nat → Nat
  | 0 => fun _ => 0
  | t + 1 => updN (ldAll m t) t (ldw (ldAll m t) m t)
def exAll (W : Nat → Nat) : Nat → Nat → Nat
  | 0 => W
  | k + 1 => updN (exAll W k) (16 + k) (exw (exAll W k) (16 + k))
def rnds (K W : Nat → Nat) (s : S8) : Nat → S8
  | 0 => s
  | t + 1 => rnd K W t (rnds K W s t)
def finAll (h x : Nat → Nat) : Nat → Nat → Nat
  | 0 => h
  | i + 1 => updN (finAll h x i) i (A32 (finAll h x i i) (x i))
def wAll (m : Nat) : Nat → Nat := exAll (ldAll m 16) 48
def toS8 (h : Nat → Nat) : S8 := ⟨h 0, h 1, h 2, h 3, h 4, h 5, h 6, h 7⟩
/-- what proof.mix answers -/
def mixS (K : Nat → Nat) (h : Nat → Nat) (m : Nat) : Nat → Nat := finAll h (rnds K (wAll m) (toS8 h) 64).get 8

/-! ### The states -/
/-- cells that are only read -/
def roCells (l : List AV) : AO := .cells false l.length (depthOf 64 l.length) ((T.full (depthOf 64 l.length) .top).setL 0 l)
def mixSt (K W : Nat → Nat) (m : Nat) (h r : Nat → Nat) : St :=
  ⟨(((((T.full 3 .dead).set 0 (roCells (row32 64 K))).set 1 (.bytes false 64 m)).set 2 (mkCells (row32 8 h))).set 3 (mkCells (row32 8 r))).set 4 (mkCells (row32 64 W)), 3, 5⟩
def mixSt0 (K : Nat → Nat) (m : Nat) : St :=
  ⟨(((T.full 3 .dead).set 0 (roCells (row32 64 K))).set 1 (.bytes false 64 m)), 3, 2⟩

noncomputable def b22 : Code := bodyOf Tryd.prog 22
noncomputable def d22 (n : Nat) : Code := Nat.rec (motive := fun _ => Code) b22 (fun _ c => cB c) n
noncomputable def loop0 : Code := cA (cB (cA (d22 2)))
noncomputable def loop4 : Code := cA (cB (cA (d22 3)))
noncomputable def loop6 : Code := cA (cB (cA (d22 5)))
noncomputable def loop8 : Code := cA (cB (cA (d22 6)))

def ids0 : List Nat := [1, 2, 4, 5, 26]
def fr0 (cap t : Nat) : Fr := frOf 192 8 [(1, .slice 1 0 64 cap 0), (2, .ptr 2 0), (4, .ptr 3 0), (5, .ptr 4 0), (26, i64A t)]
def ids4 : List Nat := [2, 4, 5, 8]
def fr4 (t : Nat) : Fr := frOf 192 8 [(2, .ptr 2 0), (4, .ptr 3 0), (5, .ptr 4 0), (8, i64A t)]
def ids6 : List Nat := [2, 4, 5, 13, 14, 15, 16, 17, 18, 19, 20, 108]
def fr6 (t : Nat) (s : S8) : Fr := match s with
  | ⟨a, b, c, d, e, f, g, h⟩ => frOf 192 8 [(2, .ptr 2 0), (4, .ptr 3 0), (5, .ptr 4 0), (13, u32A a), (14, u32A b), (15, u32A c), (16, u32A d), (17, u32A e), (18, u32A f), (19, u32A g), (20, u32A h), (108, i64A t)]
def ids8 : List Nat := [2, 4, 179, 180]
def fr8 (t : Nat) (x : Nat → Nat) : Fr := frOf 192 8 [(2, .ptr 2 0), (4, .ptr 3 0), (179, .agg (row32 8 x)), (180, i64A t)]

def ev22 (ids : List Nat) (c : Code) (fr : Fr) (st : St) : Option (Ex × Fr × St × PL) := evK Tryd.prog callS 30 ids c fr st

/-! ### The turns -/
def Q0 (t : Nat) : Prop := ∀ (K W h r : Nat → Nat) (m cap : Nat), ev22 ids0 (cA loop0) (fr0 cap t) (mixSt K W m h r) = some (.normal, fr0 cap (t + 1), mixSt K (updN W t (ldw W m t)) m h r, [])
noncomputable def blk5 : Code := cA (cB (cA loop4))
noncomputable def in5 : Code := cA blk5
def F4 (t : Nat) (l : List (Nat × AV)) : Fr := frOf 192 8 ([(2, .ptr 2 0), (4, .ptr 3 0), (5, .ptr 4 0), (8, i64A t)] ++ l)
def Q4a (t : Nat) : Prop := ∀ (K W h r : Nat → Nat) (m : Nat), ev22 ids4 (cA (cA loop4)) (fr4 t) (mixSt K W m h r) = some (.normal, fr4 t, mixSt K W m h r, [])
def Q4b (t : Nat) : Prop := ∀ (K W h r : Nat → Nat) (m : Nat), ev22 (ids4 ++ [9, 10]) (cA in5) (fr4 t) (mixSt K W m h r) = some (.normal, F4 t [(9, u32A (W (t - 15))), (10, u32A (W (t - 2)))], mixSt K W m h r, [])
def Q4c (t : Nat) : Prop := ∀ (K W h r : Nat → Nat) (m x y : Nat), ev22 (ids4 ++ [10, 11]) (cA (cB in5)) (F4 t [(9, u32A x), (10, u32A y)]) (mixSt K W m h r) = some (.normal, F4 t [(10, u32A y), (11, u32A (sg0 x))], mixSt K W m h r, [])
def Q4d (t : Nat) : Prop := ∀ (K W h r : Nat → Nat) (m y s0 : Nat), ev22 (ids4 ++ [11, 12]) (cA (cB (cB in5))) (F4 t [(10, u32A y), (11, u32A s0)]) (mixSt K W m h r) = some (.normal, F4 t [(11, u32A s0), (12, u32A (sg1 y))], mixSt K W m h r, [])
def Q4e (t p q : Nat) : Prop := ∀ (K W h r : Nat → Nat) (m s0 s1 : Nat), ev22 ids4 (cB (cB (cB in5))) (F4 t [(11, u32A s0), (12, u32A s1)]) (mixSt K W m h r) = some (.normal, fr4 t, mixSt K (updN W t (A32 (A32 (A32 s1 (W p)) s0) (W q))) m h r, [])
def Q4f (t : Nat) : Prop := ∀ (K W h r : Nat → Nat) (m : Nat), ev22 ids4 (cB (cB (cA loop4))) (fr4 t) (mixSt K W m h r) = some (.normal, fr4 (t + 1), mixSt K W m h r, [])
def Q6 (t : Nat) : Prop := ∀ (K W h r : Nat → Nat) (m a b c d e f g hh : Nat), ev22 ids6 (cA loop6) (fr6 t ⟨a, b, c, d, e, f, g, hh⟩) (mixSt K W m h r) = some (.normal, fr6 (t + 1) (rnd K W t ⟨a, b, c, d, e, f, g, hh⟩), mixSt K W m h r,
  [(u32A (K t), u32A (K t)), (u32A (K t), u32A (K t)), (u32A (K t), u32A (K t)), (u32A (W t), u32A (W t)), (u32A (W t), u32A (W t)), (u32A (W t), u32A (W t))])
def Q8 (t : Nat) : Prop := ∀ (K W h r x : Nat → Nat) (m : Nat), ev22 ids8 (cA loop8) (fr8 t x) (mixSt K W m h r) = some (.normal, fr8 (t + 1) x, mixSt K W m (updN h t (A32 (h t) (x t))) r, [])

theorem Q0_0 : Q0 0 := by unfold Q0; intros; kernel_rfl
theorem Q0_1 : Q0 1 := by unfold Q0; intros; kernel_rfl
theorem Q0_2 : Q0 2 := by unfold Q0; intros; kernel_rfl
theorem Q0_3 : Q0 3 := by unfold Q0; intros; kernel_rfl
theorem Q0_4 : Q0 4 := by unfold Q0; intros; kernel_rfl
theorem Q0_5 : Q0 5 := by unfold Q0; intros; kernel_rfl
theorem Q0_6 : Q0 6 := by unfold Q0; intros; kernel_rfl
theorem Q0_7 : Q0 7 := by unfold Q0; intros; kernel_rfl
theorem Q0_8 : Q0 8 := by unfold Q0; intros; kernel_rfl
theorem Q0_9 : Q0 9 := by unfold Q0; intros; kernel_rfl
theorem Q0_10 : Q0 10 := by unfold Q0; intros; kernel_rfl
theorem Q0_11 : Q0 11 := by unfold Q0; intros; kernel_rfl
theorem Q0_12 : Q0 12 := by unfold Q0; intros; kernel_rfl
theorem Q0_13 : Q0 13 := by unfold Q0; intros; kernel_rfl
theorem Q0_14 : Q0 14 := by unfold Q0; intros; kernel_rfl
theorem Q0_15 : Q0 15 := by unfold Q0; intros; kernel_rfl
theorem Q0_all : ∀ t, 0 ≤ t → t < 16 → Q0 t := by
  intro t h1 h2
  have : t = 0 ∨ t = 1 ∨ t = 2 ∨ t = 3 ∨ t = 4 ∨ t = 5 ∨ t = 6 ∨ t = 7 ∨ t = 8 ∨ t = 9 ∨ t = 10 ∨ t = 11 ∨ t = 12 ∨ t = 13 ∨ t = 14 ∨ t = 15 := by omega
  rcases this with rfl | rfl | rfl | rfl | rfl | rfl | rfl | rfl | rfl | rfl | rfl | rfl | rfl | rfl | rfl | rfl
  · exact Q0_0
  · exact Q0_1
  · exact Q0_2
  · exact Q0_3
  · exact Q0_4
  · exact Q0_5
  · exact Q0_6
  · exact Q0_7
  · exact Q0_8
  · exact Q0_9
  · exact Q0_10
  · exact Q0_11
  · exact Q0_12
  · exact Q0_13
  · exact Q0_14
  · exact Q0_15
theorem Q4a_16 : Q4a 16 := by unfold Q4a; intros; kernel_rfl
theorem Q4a_17 : Q4a 17 := by unfold Q4a; intros; kernel_rfl
theorem Q4a_18 : Q4a 18 := by unfold Q4a; intros; kernel_rfl
theorem Q4a_19 : Q4a 19 := by unfold Q4a; intros; kernel_rfl
theorem Q4a_20 : Q4a 20 := by unfold Q4a; intros; kernel_rfl
theorem Q4a_21 : Q4a 21 := by unfold Q4a; intros; kernel_rfl
theorem Q4a_22 : Q4a 22 := by unfold Q4a; intros; kernel_rfl
theorem Q4a_23 : Q4a 23 := by unfold Q4a; intros; kernel_rfl
theorem Q4a_24 : Q4a 24 := by unfold Q4a; intros; kernel_rfl
theorem Q4a_25 : Q4a 25 := by unfold Q4a; intros; kernel_rfl
theorem Q4a_26 : Q4a 26 := by unfold Q4a; intros; kernel_rfl
theorem Q4a_27 : Q4a 27 := by unfold Q4a; intros; kernel_rfl
theorem Q4a_28 : Q4a 28 := by unfold Q4a; intros; kernel_rfl
theorem Q4a_29 : Q4a 29 := by unfold Q4a; intros; kernel_rfl
theorem Q4a_30 : Q4a 30 := by unfold Q4a; intros; kernel_rfl
theorem Q4a_31 : Q4a 31 := by unfold Q4a; intros; kernel_rfl
theorem Q4a_32 : Q4a 32 := by unfold Q4a; intros; kernel_rfl
theorem Q4a_33 : Q4a 33 := by unfold Q4a; intros; kernel_rfl
theorem Q4a_34 : Q4a 34 := by unfold Q4a; intros; kernel_rfl
theorem Q4a_35 : Q4a 35 := by unfold Q4a; intros; kernel_rfl
theorem Q4a_36 : Q4a 36 := by unfold Q4a; intros; kernel_rfl
theorem Q4a_37 : Q4a 37 := by unfold Q4a; intros; kernel_rfl
theorem Q4a_38 : Q4a 38 := by unfold Q4a; intros; kernel_rfl
theorem Q4a_39 : Q4a 39 := by unfold Q4a; intros; kernel_rfl
theorem Q4a_40 : Q4a 40 := by unfold Q4a; intros; kernel_rfl
theorem Q4a_41 : Q4a 41 := by unfold Q4a; intros; kernel_rfl
theorem Q4a_42 : Q4a 42 := by unfold Q4a; intros; kernel_rfl
theorem Q4a_43 : Q4a 43 := by unfold Q4a; intros; kernel_rfl
theorem Q4a_44 : Q4a 44 := by unfold Q4a; intros; kernel_rfl
theorem Q4a_45 : Q4a 45 := by unfold Q4a; intros; kernel_rfl
theorem Q4a_46 : Q4a 46 := by unfold Q4a; intros; kernel_rfl
theorem Q4a_47 : Q4a 47 := by unfold Q4a; intros; kernel_rfl
theorem Q4a_48 : Q4a 48 := by unfold Q4a; intros; kernel_rfl
theorem Q4a_49 : Q4a 49 := by unfold Q4a; intros; kernel_rfl
theorem Q4a_50 : Q4a 50 := by unfold Q4a; intros; kernel_rfl
theorem Q4a_51 : Q4a 51 := by unfold Q4a; intros; kernel_rfl
theorem Q4a_52 : Q4a 52 := by unfold Q4a; intros; kernel_rfl
theorem Q4a_53 : Q4a 53 := by unfold Q4a; intros; kernel_rfl
theorem Q4a_54 : Q4a 54 := by unfold Q4a; intros; kernel_rfl
theorem Q4a_55 : Q4a 55 := by unfold Q4a; intros; kernel_rfl
theorem Q4a_56 : Q4a 56 := by unfold Q4a; intros; kernel_rfl
theorem Q4a_57 : Q4a 57 := by unfold Q4a; intros; kernel_rfl
theorem Q4a_58 : Q4a 58 := by unfold Q4a; intros; kernel_rfl
theorem Q4a_59 : Q4a 59 := by unfold Q4a; intros; kernel_rfl
theorem Q4a_60 : Q4a 60 := by unfold Q4a; intros; kernel_rfl
theorem Q4a_61 : Q4a 61 := by unfold Q4a; intros; kernel_rfl
theorem Q4a_62 : Q4a 62 := by unfold Q4a; intros; kernel_rfl
theorem Q4a_63 : Q4a 63 := by unfold Q4a; intros; kernel_rfl
theorem Q4a_all : ∀ t, 16 ≤ t → t < 64 → Q4a t := by
  intro t h1 h2
  have : t = 16 ∨ t = 17 ∨ t = 18 ∨ t = 19 ∨ t = 20 ∨ t = 21 ∨ t = 22 ∨ t = 23 ∨ t = 24 ∨ t = 25 ∨ t = 26 ∨ t = 27 ∨ t = 28 ∨ t = 29 ∨ t = 30 ∨ t = 31 ∨ t = 32 ∨ t = 33 ∨ t = 34 ∨ t = 35 ∨ t = 36 ∨ t = 37 ∨ t = 38 ∨ t = 39 ∨ t = 40 ∨ t = 41 ∨ t = 42 ∨ t = 43 ∨ t = 44 ∨ t = 45 ∨ t = 46 ∨ t = 47 ∨ t = 48 ∨ t = 49 ∨ t = 50 ∨ t = 51 ∨ t = 52 ∨ t = 53 ∨ t = 54 ∨ t = 55 ∨ t = 56 ∨ t = 57 ∨ t = 58 ∨ t = 59 ∨ t = 60 ∨ t = 61 ∨ t = 62 ∨ t = 63 := by omega
  rcases this with rfl | rfl | rfl | rfl | rfl | rfl | rfl | rfl | rfl | rfl | rfl | rfl | rfl | rfl | rfl | rfl | rfl | rfl | rfl | rfl | rfl | rfl | rfl | rfl | rfl | rfl | rfl | rfl | rfl | rfl | rfl | rfl | rfl | rfl | rfl | rfl | rfl | rfl | rfl | rfl | rfl | rfl | rfl | rfl | rfl | rfl | rfl | rfl
  · exact Q4a_16
  · exact Q4a_17
  · exact Q4a_18
  · exact Q4a_19
  · exact Q4a_20
  · exact Q4a_21
  · exact Q4a_22
  · exact Q4a_23
  · exact Q4a_24
  · exact Q4a_25
  · exact Q4a_26
  · exact Q4a_27
  · exact Q4a_28
  · exact Q4a_29
  · exact Q4a_30
  · exact Q4a_31
  · exact Q4a_32
  · exact Q4a_33
  · exact Q4a_34
  · exact Q4a_35
  · exact Q4a_36
  · exact Q4a_37
  · exact Q4a_38
  · exact Q4a_39
  · exact Q4a_40
  · exact Q4a_41
  · exact Q4a_42
  · exact Q4a_43
  · exact Q4a_44
  · exact Q4a_45
  · exact Q4a_46
  · exact Q4a_47
  · exact Q4a_48
  · exact Q4a_49
  · exact Q4a_50
  · exact Q4a_51
  · exact Q4a_52
  · exact Q4a_53
  · exact Q4a_54
  · exact Q4a_55
  · exact Q4a_56
  · exact Q4a_57
  · exact Q4a_58
  · exact Q4a_59
  · exact Q4a_60
  · exact Q4a_61
  · exact Q4a_62
  · exact Q4a_63
theorem Q4b_16 : Q4b 16 := by unfold Q4b; intros; kernel_rfl
theorem Q4b_17 : Q4b 17 := by unfold Q4b; intros; kernel_rfl
theorem Q4b_18 : Q4b 18 := by unfold Q4b; intros; kernel_rfl
theorem Q4b_19 : Q4b 19 := by unfold Q4b; intros; kernel_rfl
theorem Q4b_20 : Q4b 20 := by unfold Q4b; intros; kernel_rfl
theorem Q4b_21 : Q4b 21 := by unfold Q4b; intros; kernel_rfl
theorem Q4b_22 : Q4b 22 := by unfold Q4b; intros; kernel_rfl
theorem Q4b_23 : Q4b 23 := by unfold Q4b; intros; kernel_rfl
theorem Q4b_24 : Q4b 24 := by unfold Q4b; intros; kernel_rfl
theorem Q4b_25 : Q4b 25 := by unfold Q4b; intros; kernel_rfl
theorem Q4b_26 : Q4b 26 := by unfold Q4b; intros; kernel_rfl
theorem Q4b_27 : Q4b 27 := by unfold Q4b; intros; kernel_rfl
theorem Q4b_28 : Q4b 28 := by unfold Q4b; intros; kernel_rfl
theorem Q4b_29 : Q4b 29 := by unfold Q4b; intros; kernel_rfl
theorem Q4b_30 : Q4b 30 := by unfold Q4b; intros; kernel_rfl
theorem Q4b_31 : Q4b 31 := by unfold Q4b; intros; kernel_rfl
theorem Q4b_32 : Q4b 32 := by unfold Q4b; intros; kernel_rfl
theorem Q4b_33 : Q4b 33 := by unfold Q4b; intros; kernel_rfl
theorem Q4b_34 : Q4b 34 := by unfold Q4b; intros; kernel_rfl
theorem Q4b_35 : Q4b 35 := by unfold Q4b; intros; kernel_rfl
theorem Q4b_36 : Q4b 36 := by unfold Q4b; intros; kernel_rfl
theorem Q4b_37 : Q4b 37 := by unfold Q4b; intros; kernel_rfl
theorem Q4b_38 : Q4b 38 := by unfold Q4b; intros; kernel_rfl
theorem Q4b_39 : Q4b 39 := by unfold Q4b; intros; kernel_rfl
theorem Q4b_40 : Q4b 40 := by unfold Q4b; intros; kernel_rfl
theorem Q4b_41 : Q4b 41 := by unfold Q4b; intros; kernel_rfl
theorem Q4b_42 : Q4b 42 := by unfold Q4b; intros; kernel_rfl
theorem Q4b_43 : Q4b 43 := by unfold Q4b; intros; kernel_rfl
theorem Q4b_44 : Q4b 44 := by unfold Q4b; intros; kernel_rfl
theorem Q4b_45 : Q4b 45 := by unfold Q4b; intros; kernel_rfl
theorem Q4b_46 : Q4b 46 := by unfold Q4b; intros; kernel_rfl
theorem Q4b_47 : Q4b 47 := by unfold Q4b; intros; kernel_rfl
theorem Q4b_48 : Q4b 48 := by unfold Q4b; intros; kernel_rfl
theorem Q4b_49 : Q4b 49 := by unfold Q4b; intros; kernel_rfl
theorem Q4b_50 : Q4b 50 := by unfold Q4b; intros; kernel_rfl
theorem Q4b_51 : Q4b 51 := by unfold Q4b; intros; kernel_rfl
theorem Q4b_52 : Q4b 52 := by unfold Q4b; intros; kernel_rfl
theorem Q4b_53 : Q4b 53 := by unfold Q4b; intros; kernel_rfl
theorem Q4b_54 : Q4b 54 := by unfold Q4b; intros; kernel_rfl
theorem Q4b_55 : Q4b 55 := by unfold Q4b; intros; kernel_rfl
theorem Q4b_56 : Q4b 56 := by unfold Q4b; intros; kernel_rfl
theorem Q4b_57 : Q4b 57 := by unfold Q4b; intros; kernel_rfl
theorem Q4b_58 : Q4b 58 := by unfold Q4b; intros; kernel_rfl
theorem Q4b_59 : Q4b 59 := by unfold Q4b; intros; kernel_rfl
theorem Q4b_60 : Q4b 60 := by unfold Q4b; intros; kernel_rfl
theorem Q4b_61 : Q4b 61 := by unfold Q4b; intros; kernel_rfl
theorem Q4b_62 : Q4b 62 := by unfold Q4b; intros; kernel_rfl
theorem Q4b_63 : Q4b 63 := by unfold Q4b; intros; kernel_rfl
theorem Q4b_all : ∀ t, 16 ≤ t → t < 64 → Q4b t := by
  intro t h1 h2
  have : t = 16 ∨ t = 17 ∨ t = 18 ∨ t = 19 ∨ t = 20 ∨ t = 21 ∨ t = 22 ∨ t = 23 ∨ t = 24 ∨ t = 25 ∨ t = 26 ∨ t = 27 ∨ t = 28 ∨ t = 29 ∨ t = 30 ∨ t = 31 ∨ t = 32 ∨ t = 33 ∨ t = 34 ∨ t = 35 ∨ t = 36 ∨ t = 37 ∨ t = 38 ∨ t = 39 ∨ t = 40 ∨ t = 41 ∨ t = 42 ∨ t = 43 ∨ t = 44 ∨ t = 45 ∨ t = 46 ∨ t = 47 ∨ t = 48 ∨ t = 49 ∨ t = 50 ∨ t = 51 ∨ t = 52 ∨ t = 53 ∨ t = 54 ∨ t = 55 ∨ t = 56 ∨ t = 57 ∨ t = 58 ∨ t = 59 ∨ t = 60 ∨ t = 61 ∨ t = 62 ∨ t = 63 := by omega
  rcases this with rfl | rfl | rfl | rfl | rfl | rfl | rfl | rfl | rfl | rfl | rfl | rfl | rfl | rfl | rfl | rfl | rfl | rfl | rfl | rfl | rfl | rfl | rfl | rfl | rfl | rfl | rfl | rfl | rfl | rfl | rfl | rfl | rfl | rfl | rfl | rfl | rfl | rfl | rfl | rfl | rfl | rfl | rfl | rfl | rfl | rfl | rfl | rfl
  · exact Q4b_16
  · exact Q4b_17
  · exact Q4b_18
  · exact Q4b_19
  · exact Q4b_20
  · exact Q4b_21
  · exact Q4b_22
  · exact Q4b_23
  · exact Q4b_24
  · exact Q4b_25
  · exact Q4b_26
  · exact Q4b_27
  · exact Q4b_28
  · exact Q4b_29
  · exact Q4b_30
  · exact Q4b_31
  · exact Q4b_32
  · exact Q4b_33
  · exact Q4b_34
  · exact Q4b_35
  · exact Q4b_36
  · exact Q4b_37
  · exact Q4b_38
  · exact Q4b_39
  · exact Q4b_40
  · exact Q4b_41
  · exact Q4b_42
  · exact Q4b_43
  · exact Q4b_44
  · exact Q4b_45
  · exact Q4b_46
  · exact Q4b_47
  · exact Q4b_48
  · exact Q4b_49
  · exact Q4b_50
  · exact Q4b_51
  · exact Q4b_52
  · exact Q4b_53
  · exact Q4b_54
  · exact Q4b_55
  · exact Q4b_56
  · exact Q4b_57
  · exact Q4b_58
  · exact Q4b_59
  · exact Q4b_60
  · exact Q4b_61
  · exact Q4b_62
  · exact Q4b_63
theorem Q4f_16 : Q4f 16 := by unfold Q4f; intros; kernel_rfl
theorem Q4f_17 : Q4f 17 := by unfold Q4f; intros; kernel_rfl
theorem Q4f_18 : Q4f 18 := by unfold Q4f; intros; kernel_rfl
theorem Q4f_19 : Q4f 19 := by unfold Q4f; intros; kernel_rfl
theorem Q4f_20 : Q4f 20 := by unfold Q4f; intros; kernel_rfl
theorem Q4f_21 : Q4f 21 := by unfold Q4f; intros; kernel_rfl
theorem Q4f_22 : Q4f 22 := by unfold Q4f; intros; kernel_rfl
theorem Q4f_23 : Q4f 23 := by unfold Q4f; intros; kernel_rfl
theorem Q4f_24 : Q4f 24 := by unfold Q4f; intros; kernel_rfl
theorem Q4f_25 : Q4f 25 := by unfold Q4f; intros; kernel_rfl
theorem Q4f_26 : Q4f 26 := by unfold Q4f; intros; kernel_rfl
theorem Q4f_27 : Q4f 27 := by unfold Q4f; intros; kernel_rfl
theorem Q4f_28 : Q4f 28 := by unfold Q4f; intros; kernel_rfl
theorem Q4f_29 : Q4f 29 := by unfold Q4f; intros; kernel_rfl
theorem Q4f_30 : Q4f 30 := by unfold Q4f; intros; kernel_rfl
theorem Q4f_31 : Q4f 31 := by unfold Q4f; intros; kernel_rfl
theorem Q4f_32 : Q4f 32 := by unfold Q4f; intros; kernel_rfl
theorem Q4f_33 : Q4f 33 := by unfold Q4f; intros; kernel_rfl
theorem Q4f_34 : Q4f 34 := by unfold Q4f; intros; kernel_rfl
theorem Q4f_35 : Q4f 35 := by unfold Q4f; intros; kernel_rfl
theorem Q4f_36 : Q4f 36 := by unfold Q4f; intros; kernel_rfl
theorem Q4f_37 : Q4f 37 := by unfold Q4f; intros; kernel_rfl
theorem Q4f_38 : Q4f 38 := by unfold Q4f; intros; kernel_rfl
theorem Q4f_39 : Q4f 39 := by unfold Q4f; intros; kernel_rfl
theorem Q4f_40 : Q4f 40 := by unfold Q4f; intros; kernel_rfl
theorem Q4f_41 : Q4f 41 := by unfold Q4f; intros; kernel_rfl
theorem Q4f_42 : Q4f 42 := by unfold Q4f; intros; kernel_rfl
theorem Q4f_43 : Q4f 43 := by unfold Q4f; intros; kernel_rfl
theorem Q4f_44 : Q4f 44 := by unfold Q4f; intros; kernel_rfl
theorem Q4f_45 : Q4f 45 := by unfold Q4f; intros; kernel_rfl
theorem Q4f_46 : Q4f 46 := by unfold Q4f; intros; kernel_rfl
theorem Q4f_47 : Q4f 47 := by unfold Q4f; intros; kernel_rfl
theorem Q4f_48 : Q4f 48 := by unfold Q4f; intros; kernel_rfl
theorem Q4f_49 : Q4f 49 := by unfold Q4f; intros; kernel_rfl
theorem Q4f_50 : Q4f 50 := by unfold Q4f; intros; kernel_rfl
theorem Q4f_51 : Q4f 51 := by unfold Q4f; intros; kernel_rfl
theorem Q4f_52 : Q4f 52 := by unfold Q4f; intros; kernel_rfl
theorem Q4f_53 : Q4f 53 := by unfold Q4f; intros; kernel_rfl
theorem Q4f_54 : Q4f 54 := by unfold Q4f; intros; kernel_rfl
theorem Q4f_55 : Q4f 55 := by unfold Q4f; intros; kernel_rfl
theorem Q4f_56 : Q4f 56 := by unfold Q4f; intros; kernel_rfl
theorem Q4f_57 : Q4f 57 := by unfold Q4f; intros; kernel_rfl
theorem Q4f_58 : Q4f 58 := by unfold Q4f; intros; kernel_rfl
theorem Q4f_59 : Q4f 59 := by unfold Q4f; intros; kernel_rfl
theorem Q4f_60 : Q4f 60 := by unfold Q4f; intros; kernel_rfl
theorem Q4f_61 : Q4f 61 := by unfold Q4f; intros; kernel_rfl
theorem Q4f_62 : Q4f 62 := by unfold Q4f; intros; kernel_rfl
theorem Q4f_63 : Q4f 63 := by unfold Q4f; intros; kernel_rfl
theorem Q4f_all : ∀ t, 16 ≤ t → t < 64 → Q4f t := by
  intro t h1 h2
  have : t = 16 ∨ t = 17 ∨ t = 18 ∨ t = 19 ∨ t = 20 ∨ t = 21 ∨ t = 22 ∨ t = 23 ∨ t = 24 ∨ t = 25 ∨ t = 26 ∨ t = 27 ∨ t = 28 ∨ t = 29 ∨ t = 30 ∨ t = 31 ∨ t = 32 ∨ t = 33 ∨ t = 34 ∨ t = 35 ∨ t = 36 ∨ t = 37 ∨ t = 38 ∨ t = 39 ∨ t = 40 ∨ t = 41 ∨ t = 42 ∨ t = 43 ∨ t = 44 ∨ t = 45 ∨ t = 46 ∨ t = 47 ∨ t = 48 ∨ t = 49 ∨ t = 50 ∨ t = 51 ∨ t = 52 ∨ t = 53 ∨ t = 54 ∨ t = 55 ∨ t = 56 ∨ t = 57 ∨ t = 58 ∨ t = 59 ∨ t = 60 ∨ t = 61 ∨ t = 62 ∨ t = 63 := by omega
  rcases this with rfl | rfl | rfl | rfl | rfl | rfl | rfl | rfl | rfl | rfl | rfl | rfl | rfl | rfl | rfl | rfl | rfl | rfl | rfl | rfl | rfl | rfl | rfl | rfl | rfl | rfl | rfl | rfl | rfl | rfl | rfl | rfl | rfl | rfl | rfl | rfl | rfl | rfl | rfl | rfl | rfl | rfl | rfl | rfl | rfl | rfl | rfl | rfl
  · exact Q4f_16
  · exact Q4f_17
  · exact Q4f_18
  · exact Q4f_19
  · exact Q4f_20
  · exact Q4f_21
  · exact Q4f_22
  · exact Q4f_23
  · exact Q4f_24
  · exact Q4f_25
  · exact Q4f_26
  · exact Q4f_27
  · exact Q4f_28
  · exact Q4f_29
  · exact Q4f_30
  · exact Q4f_31
  · exact Q4f_32
  · exact Q4f_33
  · exact Q4f_34
  · exact Q4f_35
  · exact Q4f_36
  · exact Q4f_37
  · exact Q4f_38
  · exact Q4f_39
  · exact Q4f_40
  · exact Q4f_41
  · exact Q4f_42
  · exact Q4f_43
  · exact Q4f_44
  · exact Q4f_45
  · exact Q4f_46
  · exact Q4f_47
  · exact Q4f_48
  · exact Q4f_49
  · exact Q4f_50
  · exact Q4f_51
  · exact Q4f_52
  · exact Q4f_53
  · exact Q4f_54
  · exact Q4f_55
  · exact Q4f_56
  · exact Q4f_57
  · exact Q4f_58
  · exact Q4f_59
  · exact Q4f_60
  · exact Q4f_61
  · exact Q4f_62
  · exact Q4f_63
theorem Q4e_16 : Q4e 16 9 0 := by unfold Q4e; intros; kernel_rfl
theorem Q4e_17 : Q4e 17 10 1 := by unfold Q4e; intros; kernel_rfl
theorem Q4e_18 : Q4e 18 11 2 := by unfold Q4e; intros; kernel_rfl
theorem Q4e_19 : Q4e 19 12 3 := by unfold Q4e; intros; kernel_rfl
theorem Q4e_20 : Q4e 20 13 4 := by unfold Q4e; intros; kernel_rfl
theorem Q4e_21 : Q4e 21 14 5 := by unfold Q4e; intros; kernel_rfl
theorem Q4e_22 : Q4e 22 15 6 := by unfold Q4e; intros; kernel_rfl
theorem Q4e_23 : Q4e 23 16 7 := by unfold Q4e; intros; kernel_rfl
theorem Q4e_24 : Q4e 24 17 8 := by unfold Q4e; intros; kernel_rfl
theorem Q4e_25 : Q4e 25 18 9 := by unfold Q4e; intros; kernel_rfl
theorem Q4e_26 : Q4e 26 19 10 := by unfold Q4e; intros; kernel_rfl
theorem Q4e_27 : Q4e 27 20 11 := by unfold Q4e; intros; kernel_rfl
theorem Q4e_28 : Q4e 28 21 12 := by unfold Q4e; intros; kernel_rfl
theorem Q4e_29 : Q4e 29 22 13 := by unfold Q4e; intros; kernel_rfl
theorem Q4e_30 : Q4e 30 23 14 := by unfold Q4e; intros; kernel_rfl
theorem Q4e_31 : Q4e 31 24 15 := by unfold Q4e; intros; kernel_rfl
theorem Q4e_32 : Q4e 32 25 16 := by unfold Q4e; intros; kernel_rfl
theorem Q4e_33 : Q4e 33 26 17 := by unfold Q4e; intros; kernel_rfl
theorem Q4e_34 : Q4e 34 27 18 := by unfold Q4e; intros; kernel_rfl
theorem Q4e_35 : Q4e 35 28 19 := by unfold Q4e; intros; kernel_rfl
theorem Q4e_36 : Q4e 36 29 20 := by unfold Q4e; intros; kernel_rfl
theorem Q4e_37 : Q4e 37 30 21 := by unfold Q4e; intros; kernel_rfl
theorem Q4e_38 : Q4e 38 31 22 := by unfold Q4e; intros; kernel_rfl
theorem Q4e_39 : Q4e 39 32 23 := by unfold Q4e; intros; kernel_rfl
theorem Q4e_40 : Q4e 40 33 24 := by unfold Q4e; intros; kernel_rfl
theorem Q4e_41 : Q4e 41 34 25 := by unfold Q4e; intros; kernel_rfl
theorem Q4e_42 : Q4e 42 35 26 := by unfold Q4e; intros; kernel_rfl
theorem Q4e_43 : Q4e 43 36 27 := by unfold Q4e; intros; kernel_rfl
theorem Q4e_44 : Q4e 44 37 28 := by unfold Q4e; intros; kernel_rfl
theorem Q4e_45 : Q4e 45 38 29 := by unfold Q4e; intros; kernel_rfl
theorem Q4e_46 : Q4e 46 39 30 := by unfold Q4e; intros; kernel_rfl
theorem Q4e_47 : Q4e 47 40 31 := by unfold Q4e; intros; kernel_rfl
theorem Q4e_48 : Q4e 48 41 32 := by unfold Q4e; intros; kernel_rfl
theorem Q4e_49 : Q4e 49 42 33 := by unfold Q4e; intros; kernel_rfl
theorem Q4e_50 : Q4e 50 43 34 := by unfold Q4e; intros; kernel_rfl
theorem Q4e_51 : Q4e 51 44 35 := by unfold Q4e; intros; kernel_rfl
theorem Q4e_52 : Q4e 52 45 36 := by unfold Q4e; intros; kernel_rfl
theorem Q4e_53 : Q4e 53 46 37 := by unfold Q4e; intros; kernel_rfl
theorem Q4e_54 : Q4e 54 47 38 := by unfold Q4e; intros; kernel_rfl
theorem Q4e_55 : Q4e 55 48 39 := by unfold Q4e; intros; kernel_rfl
theorem Q4e_56 : Q4e 56 49 40 := by unfold Q4e; intros; kernel_rfl
theorem Q4e_57 : Q4e 57 50 41 := by unfold Q4e; intros; kernel_rfl
theorem Q4e_58 : Q4e 58 51 42 := by unfold Q4e; intros; kernel_rfl
theorem Q4e_59 : Q4e 59 52 43 := by unfold Q4e; intros; kernel_rfl
theorem Q4e_60 : Q4e 60 53 44 := by unfold Q4e; intros; kernel_rfl
theorem Q4e_61 : Q4e 61 54 45 := by unfold Q4e; intros; kernel_rfl
theorem Q4e_62 : Q4e 62 55 46 := by unfold Q4e; intros; kernel_rfl
theorem Q4e_63 : Q4e 63 56 47 := by unfold Q4e; intros; kernel_rfl
theorem Q4e_all : ∀ t, 16 ≤ t → t < 64 → Q4e t (t - 7) (t - 16) := by
  intro t h1 h2
  have : t = 16 ∨ t = 17 ∨ t = 18 ∨ t = 19 ∨ t = 20 ∨ t = 21 ∨ t = 22 ∨ t = 23 ∨ t = 24 ∨ t = 25 ∨ t = 26 ∨ t = 27 ∨ t = 28 ∨ t = 29 ∨ t = 30 ∨ t = 31 ∨ t = 32 ∨ t = 33 ∨ t = 34 ∨ t = 35 ∨ t = 36 ∨ t = 37 ∨ t = 38 ∨ t = 39 ∨ t = 40 ∨ t = 41 ∨ t = 42 ∨ t = 43 ∨ t = 44 ∨ t = 45 ∨ t = 46 ∨ t = 47 ∨ t = 48 ∨ t = 49 ∨ t = 50 ∨ t = 51 ∨ t = 52 ∨ t = 53 ∨ t = 54 ∨ t = 55 ∨ t = 56 ∨ t = 57 ∨ t = 58 ∨ t = 59 ∨ t = 60 ∨ t = 61 ∨ t = 62 ∨ t = 63 := by omega
  rcases this with rfl | rfl | rfl | rfl | rfl | rfl | rfl | rfl | rfl | rfl | rfl | rfl | rfl | rfl | rfl | rfl | rfl | rfl | rfl | rfl | rfl | rfl | rfl | rfl | rfl | rfl | rfl | rfl | rfl | rfl | rfl | rfl | rfl | rfl | rfl | rfl | rfl | rfl | rfl | rfl | rfl | rfl | rfl | rfl | rfl | rfl | rfl | rfl
  · exact Q4e_16
  · exact Q4e_17
  · exact Q4e_18
  · exact Q4e_19
  · exact Q4e_20
  · exact Q4e_21
  · exact Q4e_22
  · exact Q4e_23
  · exact Q4e_24
  · exact Q4e_25
  · exact Q4e_26
  · exact Q4e_27
  · exact Q4e_28
  · exact Q4e_29
  · exact Q4e_30
  · exact Q4e_31
  · exact Q4e_32
  · exact Q4e_33
  · exact Q4e_34
  · exact Q4e_35
  · exact Q4e_36
  · exact Q4e_37
  · exact Q4e_38
  · exact Q4e_39
  · exact Q4e_40
  · exact Q4e_41
  · exact Q4e_42
  · exact Q4e_43
  · exact Q4e_44
  · exact Q4e_45
  · exact Q4e_46
  · exact Q4e_47
  · exact Q4e_48
  · exact Q4e_49
  · exact Q4e_50
  · exact Q4e_51
  · exact Q4e_52
  · exact Q4e_53
  · exact Q4e_54
  · exact Q4e_55
  · exact Q4e_56
  · exact Q4e_57
  · exact Q4e_58
  · exact Q4e_59
  · exact Q4e_60
  · exact Q4e_61
  · exact Q4e_62
  · exact Q4e_63
theorem Q4c_any (t : Nat) : Q4c t := by unfold Q4c; intros; kernel_rfl
theorem Q4d_any (t : Nat) : Q4d t := by unfold Q4d; intros; kernel_rfl
theorem Q6_0 : Q6 0 := by unfold Q6; intros; kernel_rfl
theorem Q6_1 : Q6 1 := by unfold Q6; intros; kernel_rfl
theorem Q6_2 : Q6 2 := by unfold Q6; intros; kernel_rfl
theorem Q6_3 : Q6 3 := by unfold Q6; intros; kernel_rfl
theorem Q6_4 : Q6 4 := by unfold Q6; intros; kernel_rfl
theorem Q6_5 : Q6 5 := by unfold Q6; intros; kernel_rfl
theorem Q6_6 : Q6 6 := by unfold Q6; intros; kernel_rfl
theorem Q6_7 : Q6 7 := by unfold Q6; intros; kernel_rfl
theorem Q6_8 : Q6 8 := by unfold Q6; intros; kernel_rfl
theorem Q6_9 : Q6 9 := by unfold Q6; intros; kernel_rfl
theorem Q6_10 : Q6 10 := by unfold Q6; intros; kernel_rfl
theorem Q6_11 : Q6 11 := by unfold Q6; intros; kernel_rfl
theorem Q6_12 : Q6 12 := by unfold Q6; intros; kernel_rfl
theorem Q6_13 : Q6 13 := by unfold Q6; intros; kernel_rfl
theorem Q6_14 : Q6 14 := by unfold Q6; intros; kernel_rfl
theorem Q6_15 : Q6 15 := by unfold Q6; intros; kernel_rfl
theorem Q6_16 : Q6 16 := by unfold Q6; intros; kernel_rfl
theorem Q6_17 : Q6 17 := by unfold Q6; intros; kernel_rfl
theorem Q6_18 : Q6 18 := by unfold Q6; intros; kernel_rfl
theorem Q6_19 : Q6 19 := by unfold Q6; intros; kernel_rfl
theorem Q6_20 : Q6 20 := by unfold Q6; intros; kernel_rfl
theorem Q6_21 : Q6 21 := by unfold Q6; intros; kernel_rfl
theorem Q6_22 : Q6 22 := by unfold Q6; intros; kernel_rfl
theorem Q6_23 : Q6 23 := by unfold Q6; intros; kernel_rfl
theorem Q6_24 : Q6 24 := by unfold Q6; intros; kernel_rfl
theorem Q6_25 : Q6 25 := by unfold Q6; intros; kernel_rfl
theorem Q6_26 : Q6 26 := by unfold Q6; intros; kernel_rfl
theorem Q6_27 : Q6 27 := by unfold Q6; intros; kernel_rfl
theorem Q6_28 : Q6 28 := by unfold Q6; intros; kernel_rfl
theorem Q6_29 : Q6 29 := by unfold Q6; intros; kernel_rfl
theorem Q6_30 : Q6 30 := by unfold Q6; intros; kernel_rfl
theorem Q6_31 : Q6 31 := by unfold Q6; intros; kernel_rfl
theorem Q6_32 : Q6 32 := by unfold Q6; intros; kernel_rfl
theorem Q6_33 : Q6 33 := by unfold Q6; intros; kernel_rfl
theorem Q6_34 : Q6 34 := by unfold Q6; intros; kernel_rfl
theorem Q6_35 : Q6 35 := by unfold Q6; intros; kernel_rfl
theorem Q6_36 : Q6 36 := by unfold Q6; intros; kernel_rfl
theorem Q6_37 : Q6 37 := by unfold Q6; intros; kernel_rfl
theorem Q6_38 : Q6 38 := by unfold Q6; intros; kernel_rfl
theorem Q6_39 : Q6 39 := by unfold Q6; intros; kernel_rfl
theorem Q6_40 : Q6 40 := by unfold Q6; intros; kernel_rfl
theorem Q6_41 : Q6 41 := by unfold Q6; intros; kernel_rfl
theorem Q6_42 : Q6 42 := by unfold Q6; intros; kernel_rfl
theorem Q6_43 : Q6 43 := by unfold Q6; intros; kernel_rfl
theorem Q6_44 : Q6 44 := by unfold Q6; intros; kernel_rfl
theorem Q6_45 : Q6 45 := by unfold Q6; intros; kernel_rfl
theorem Q6_46 : Q6 46 := by unfold Q6; intros; kernel_rfl
theorem Q6_47 : Q6 47 := by unfold Q6; intros; kernel_rfl
theorem Q6_48 : Q6 48 := by unfold Q6; intros; kernel_rfl
theorem Q6_49 : Q6 49 := by unfold Q6; intros; kernel_rfl
theorem Q6_50 : Q6 50 := by unfold Q6; intros; kernel_rfl
theorem Q6_51 : Q6 51 := by unfold Q6; intros; kernel_rfl
theorem Q6_52 : Q6 52 := by unfold Q6; intros; kernel_rfl
theorem Q6_53 : Q6 53 := by unfold Q6; intros; kernel_rfl
theorem Q6_54 : Q6 54 := by unfold Q6; intros; kernel_rfl
theorem Q6_55 : Q6 55 := by unfold Q6; intros; kernel_rfl
theorem Q6_56 : Q6 56 := by unfold Q6; intros; kernel_rfl
theorem Q6_57 : Q6 57 := by unfold Q6; intros; kernel_rfl
theorem Q6_58 : Q6 58 := by unfold Q6; intros; kernel_rfl
theorem Q6_59 : Q6 59 := by unfold Q6; intros; kernel_rfl
theorem Q6_60 : Q6 60 := by unfold Q6; intros; kernel_rfl
theorem Q6_61 : Q6 61 := by unfold Q6; intros; kernel_rfl
theorem Q6_62 : Q6 62 := by unfold Q6; intros; kernel_rfl
theorem Q6_63 : Q6 63 := by unfold Q6; intros; kernel_rfl
theorem Q6_all : ∀ t, 0 ≤ t → t < 64 → Q6 t := by
  intro t h1 h2
  have : t = 0 ∨ t = 1 ∨ t = 2 ∨ t = 3 ∨ t = 4 ∨ t = 5 ∨ t = 6 ∨ t = 7 ∨ t = 8 ∨ t = 9 ∨ t = 10 ∨ t = 11 ∨ t = 12 ∨ t = 13 ∨ t = 14 ∨ t = 15 ∨ t = 16 ∨ t = 17 ∨ t = 18 ∨ t = 19 ∨ t = 20 ∨ t = 21 ∨ t = 22 ∨ t = 23 ∨ t = 24 ∨ t = 25 ∨ t = 26 ∨ t = 27 ∨ t = 28 ∨ t = 29 ∨ t = 30 ∨ t = 31 ∨ t = 32 ∨ t = 33 ∨ t = 34 ∨ t = 35 ∨ t = 36 ∨ t = 37 ∨ t = 38 ∨ t = 39 ∨ t = 40 ∨ t = 41 ∨ t = 42 ∨ t = 43 ∨ t = 44 ∨ t = 45 ∨ t = 46 ∨ t = 47 ∨ t = 48 ∨ t = 49 ∨ t = 50 ∨ t = 51 ∨ t = 52 ∨ t = 53 ∨ t = 54 ∨ t = 55 ∨ t = 56 ∨ t = 57 ∨ t = 58 ∨ t = 59 ∨ t = 60 ∨ t = 61 ∨ t = 62 ∨ t = 63 := by omega
  rcases this with rfl | rfl | rfl | rfl | rfl | rfl | rfl | rfl | rfl | rfl | rfl | rfl | rfl | rfl | rfl | rfl | rfl | rfl | rfl | rfl | rfl | rfl | rfl | rfl | rfl | rfl | rfl | rfl | rfl | rfl | rfl | rfl | rfl | rfl | rfl | rfl | rfl | rfl | rfl | rfl | rfl | rfl | rfl | rfl | rfl | rfl | rfl | rfl | rfl | rfl | rfl | rfl | rfl | rfl | rfl | rfl | rfl | rfl | rfl | rfl | rfl | rfl | rfl | rfl
  · exact Q6_0
  · exact Q6_1
  · exact Q6_2
  · exact Q6_3
  · exact Q6_4
  · exact Q6_5
  · exact Q6_6
  · exact Q6_7
  · exact Q6_8
  · exact Q6_9
  · exact Q6_10
  · exact Q6_11
  · exact Q6_12
  · exact Q6_13
  · exact Q6_14
  · exact Q6_15
  · exact Q6_16
  · exact Q6_17
  · exact Q6_18
  · exact Q6_19
  · exact Q6_20
  · exact Q6_21
  · exact Q6_22
  · exact Q6_23
  · exact Q6_24
  · exact Q6_25
  · exact Q6_26
  · exact Q6_27
  · exact Q6_28
  · exact Q6_29
  · exact Q6_30
  · exact Q6_31
  · exact Q6_32
  · exact Q6_33
  · exact Q6_34
  · exact Q6_35
  · exact Q6_36
  · exact Q6_37
  · exact Q6_38
  · exact Q6_39
  · exact Q6_40
  · exact Q6_41
  · exact Q6_42
  · exact Q6_43
  · exact Q6_44
  · exact Q6_45
  · exact Q6_46
  · exact Q6_47
  · exact Q6_48
  · exact Q6_49
  · exact Q6_50
  · exact Q6_51
  · exact Q6_52
  · exact Q6_53
  · exact Q6_54
  · exact Q6_55
  · exact Q6_56
  · exact Q6_57
  · exact Q6_58
  · exact Q6_59
  · exact Q6_60
  · exact Q6_61
  · exact Q6_62
  · exact Q6_63
theorem Q8_0 : Q8 0 := by unfold Q8; intros; kernel_rfl
theorem Q8_1 : Q8 1 := by unfold Q8; intros; kernel_rfl
theorem Q8_2 : Q8 2 := by unfold Q8; intros; kernel_rfl
theorem Q8_3 : Q8 3 := by unfold Q8; intros; kernel_rfl
theorem Q8_4 : Q8 4 := by unfold Q8; intros; kernel_rfl
theorem Q8_5 : Q8 5 := by unfold Q8; intros; kernel_rfl
theorem Q8_6 : Q8 6 := by unfold Q8; intros; kernel_rfl
theorem Q8_7 : Q8 7 := by unfold Q8; intros; kernel_rfl
theorem Q8_all : ∀ t, 0 ≤ t → t < 8 → Q8 t := by
  intro t h1 h2
  have : t = 0 ∨ t = 1 ∨ t = 2 ∨ t = 3 ∨ t = 4 ∨ t = 5 ∨ t = 6 ∨ t = 7 := by omega
  rcases this with rfl | rfl | rfl | rfl | rfl | rfl | rfl | rfl
  · exact Q8_0
  · exact Q8_1
  · exact Q8_2
  · exact Q8_3
  · exact Q8_4
  · exact Q8_5
  · exact Q8_6
  · exact Q8_7

end
end Go.Ev
