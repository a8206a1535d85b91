/-
  A quicker evaluator, its data: frames of 512 places as nested rows of eight, and a stack of values that live within one region.
-/
import Derived.Test.YtdmnkhcddbjglaaGreatEvV
namespace Go.Ev
open Go
noncomputable section

structure F0 where
  a0 : AV
  a1 : AV
  a2 : AV
  a3 : AV
  a4 : AV
  a5 : AV
  a6 : AV
  a7 : AV

def F0.get (f : F0) (i : Nat) : AV :=
  match i with
  | 0 => f.a0
  | 1 => f.a1
  | 2 => f.a2
  | 3 => f.a3
  | 4 => f.a4
  | 5 => f.a5
  | 6 => f.a6
  | _ => f.a7
def F0.set (f : F0) (i : Nat) (v : AV) : F0 :=
  match i with
  | 0 => ⟨v, f.a1, f.a2, f.a3, f.a4, f.a5, f.a6, f.a7⟩
  | 1 => ⟨f.a0, v, f.a2, f.a3, f.a4, f.a5, f.a6, f.a7⟩
  | 2 => ⟨f.a0, f.a1, v, f.a3, f.a4, f.a5, f.a6, f.a7⟩
  | 3 => ⟨f.a0, f.a1, f.a2, v, f.a4, f.a5, f.a6, f.a7⟩
  | 4 => ⟨f.a0, f.a1, f.a2, f.a3, v, f.a5, f.a6, f.a7⟩
  | 5 => ⟨f.a0, f.a1, f.a2, f.a3, f.a4, v, f.a6, f.a7⟩
  | 6 => ⟨f.a0, f.a1, f.a2, f.a3, f.a4, f.a5, v, f.a7⟩
  | _ => ⟨f.a0, f.a1, f.a2, f.a3, f.a4, f.a5, f.a6, v⟩
def F0.s0 (f : F0) (v : AV) : F0 := F0.rec (motive := fun _ => AV → F0) (fun x0 x1 x2 x3 x4 x5 x6 x7 v => F0.mk v x1 x2 x3 x4 x5 x6 x7) f v
def F0.s1 (f : F0) (v : AV) : F0 := F0.rec (motive := fun _ => AV → F0) (fun x0 x1 x2 x3 x4 x5 x6 x7 v => F0.mk x0 v x2 x3 x4 x5 x6 x7) f v
def F0.s2 (f : F0) (v : AV) : F0 := F0.rec (motive := fun _ => AV → F0) (fun x0 x1 x2 x3 x4 x5 x6 x7 v => F0.mk x0 x1 v x3 x4 x5 x6 x7) f v
def F0.s3 (f : F0) (v : AV) : F0 := F0.rec (motive := fun _ => AV → F0) (fun x0 x1 x2 x3 x4 x5 x6 x7 v => F0.mk x0 x1 x2 v x4 x5 x6 x7) f v
def F0.s4 (f : F0) (v : AV) : F0 := F0.rec (motive := fun _ => AV → F0) (fun x0 x1 x2 x3 x4 x5 x6 x7 v => F0.mk x0 x1 x2 x3 v x5 x6 x7) f v
def F0.s5 (f : F0) (v : AV) : F0 := F0.rec (motive := fun _ => AV → F0) (fun x0 x1 x2 x3 x4 x5 x6 x7 v => F0.mk x0 x1 x2 x3 x4 v x6 x7) f v
def F0.s6 (f : F0) (v : AV) : F0 := F0.rec (motive := fun _ => AV → F0) (fun x0 x1 x2 x3 x4 x5 x6 x7 v => F0.mk x0 x1 x2 x3 x4 x5 v x7) f v
def F0.s7 (f : F0) (v : AV) : F0 := F0.rec (motive := fun _ => AV → F0) (fun x0 x1 x2 x3 x4 x5 x6 x7 v => F0.mk x0 x1 x2 x3 x4 x5 x6 v) f v

structure F1 where
  a0 : F0
  a1 : F0
  a2 : F0
  a3 : F0
  a4 : F0
  a5 : F0
  a6 : F0
  a7 : F0

def F1.get (f : F1) (i : Nat) : F0 :=
  match i with
  | 0 => f.a0
  | 1 => f.a1
  | 2 => f.a2
  | 3 => f.a3
  | 4 => f.a4
  | 5 => f.a5
  | 6 => f.a6
  | _ => f.a7
def F1.set (f : F1) (i : Nat) (v : F0) : F1 :=
  match i with
  | 0 => ⟨v, f.a1, f.a2, f.a3, f.a4, f.a5, f.a6, f.a7⟩
  | 1 => ⟨f.a0, v, f.a2, f.a3, f.a4, f.a5, f.a6, f.a7⟩
  | 2 => ⟨f.a0, f.a1, v, f.a3, f.a4, f.a5, f.a6, f.a7⟩
  | 3 => ⟨f.a0, f.a1, f.a2, v, f.a4, f.a5, f.a6, f.a7⟩
  | 4 => ⟨f.a0, f.a1, f.a2, f.a3, v, f.a5, f.a6, f.a7⟩
  | 5 => ⟨f.a0, f.a1, f.a2, f.a3, f.a4, v, f.a6, f.a7⟩
  | 6 => ⟨f.a0, f.a1, f.a2, f.a3, f.a4, f.a5, v, f.a7⟩
  | _ => ⟨f.a0, f.a1, f.a2, f.a3, f.a4, f.a5, f.a6, v⟩
def F1.s0 (f : F1) (v : F0) : F1 := F1.rec (motive := fun _ => F0 → F1) (fun x0 x1 x2 x3 x4 x5 x6 x7 v => F1.mk v x1 x2 x3 x4 x5 x6 x7) f v
def F1.s1 (f : F1) (v : F0) : F1 := F1.rec (motive := fun _ => F0 → F1) (fun x0 x1 x2 x3 x4 x5 x6 x7 v => F1.mk x0 v x2 x3 x4 x5 x6 x7) f v
def F1.s2 (f : F1) (v : F0) : F1 := F1.rec (motive := fun _ => F0 → F1) (fun x0 x1 x2 x3 x4 x5 x6 x7 v => F1.mk x0 x1 v x3 x4 x5 x6 x7) f v
def F1.s3 (f : F1) (v : F0) : F1 := F1.rec (motive := fun _ => F0 → F1) (fun x0 x1 x2 x3 x4 x5 x6 x7 v => F1.mk x0 x1 x2 v x4 x5 x6 x7) f v
def F1.s4 (f : F1) (v : F0) : F1 := F1.rec (motive := fun _ => F0 → F1) (fun x0 x1 x2 x3 x4 x5 x6 x7 v => F1.mk x0 x1 x2 x3 v x5 x6 x7) f v
def F1.s5 (f : F1) (v : F0) : F1 := F1.rec (motive := fun _ => F0 → F1) (fun x0 x1 x2 x3 x4 x5 x6 x7 v => F1.mk x0 x1 x2 x3 x4 v x6 x7) f v
def F1.s6 (f : F1) (v : F0) : F1 := F1.rec (motive := fun _ => F0 → F1) (fun x0 x1 x2 x3 x4 x5 x6 x7 v => F1.mk x0 x1 x2 x3 x4 x5 v x7) f v
def F1.s7 (f : F1) (v : F0) : F1 := F1.rec (motive := fun _ => F0 → F1) (fun x0 x1 x2 x3 x4 x5 x6 x7 v => F1.mk x0 x1 x2 x3 x4 x5 x6 v) f v

structure F2 where
  a0 : F1
  a1 : F1
  a2 : F1
  a3 : F1
  a4 : F1
  a5 : F1
  a6 : F1
  a7 : F1

def F2.get (f : F2) (i : Nat) : F1 :=
  match i with
  | 0 => f.a0
  | 1 => f.a1
  | 2 => f.a2
  | 3 => f.a3
  | 4 => f.a4
  | 5 => f.a5
  | 6 => f.a6
  | _ => f.a7
def F2.set (f : F2) (i : Nat) (v : F1) : F2 :=
  match i with
  | 0 => ⟨v, f.a1, f.a2, f.a3, f.a4, f.a5, f.a6, f.a7⟩
  | 1 => ⟨f.a0, v, f.a2, f.a3, f.a4, f.a5, f.a6, f.a7⟩
  | 2 => ⟨f.a0, f.a1, v, f.a3, f.a4, f.a5, f.a6, f.a7⟩
  | 3 => ⟨f.a0, f.a1, f.a2, v, f.a4, f.a5, f.a6, f.a7⟩
  | 4 => ⟨f.a0, f.a1, f.a2, f.a3, v, f.a5, f.a6, f.a7⟩
  | 5 => ⟨f.a0, f.a1, f.a2, f.a3, f.a4, v, f.a6, f.a7⟩
  | 6 => ⟨f.a0, f.a1, f.a2, f.a3, f.a4, f.a5, v, f.a7⟩
  | _ => ⟨f.a0, f.a1, f.a2, f.a3, f.a4, f.a5, f.a6, v⟩
def F2.s0 (f : F2) (v : F1) : F2 := F2.rec (motive := fun _ => F1 → F2) (fun x0 x1 x2 x3 x4 x5 x6 x7 v => F2.mk v x1 x2 x3 x4 x5 x6 x7) f v
def F2.s1 (f : F2) (v : F1) : F2 := F2.rec (motive := fun _ => F1 → F2) (fun x0 x1 x2 x3 x4 x5 x6 x7 v => F2.mk x0 v x2 x3 x4 x5 x6 x7) f v
def F2.s2 (f : F2) (v : F1) : F2 := F2.rec (motive := fun _ => F1 → F2) (fun x0 x1 x2 x3 x4 x5 x6 x7 v => F2.mk x0 x1 v x3 x4 x5 x6 x7) f v
def F2.s3 (f : F2) (v : F1) : F2 := F2.rec (motive := fun _ => F1 → F2) (fun x0 x1 x2 x3 x4 x5 x6 x7 v => F2.mk x0 x1 x2 v x4 x5 x6 x7) f v
def F2.s4 (f : F2) (v : F1) : F2 := F2.rec (motive := fun _ => F1 → F2) (fun x0 x1 x2 x3 x4 x5 x6 x7 v => F2.mk x0 x1 x2 x3 v x5 x6 x7) f v
def F2.s5 (f : F2) (v : F1) : F2 := F2.rec (motive := fun _ => F1 → F2) (fun x0 x1 x2 x3 x4 x5 x6 x7 v => F2.mk x0 x1 x2 x3 x4 v x6 x7) f v
def F2.s6 (f : F2) (v : F1) : F2 := F2.rec (motive := fun _ => F1 → F2) (fun x0 x1 x2 x3 x4 x5 x6 x7 v => F2.mk x0 x1 x2 x3 x4 x5 v x7) f v
def F2.s7 (f : F2) (v : F1) : F2 := F2.rec (motive := fun _ => F1 → F2) (fun x0 x1 x2 x3 x4 x5 x6 x7 v => F2.mk x0 x1 x2 x3 x4 x5 x6 v) f v

theorem F0.get_set_same (f : F0) (i : Nat) (h : i < 8) (v) : (f.set i v).get i = v := by
  have : i = 0 ∨ i = 1 ∨ i = 2 ∨ i = 3 ∨ i = 4 ∨ i = 5 ∨ i = 6 ∨ i = 7 := by omega
  rcases this with rfl | rfl | rfl | rfl | rfl | rfl | rfl | rfl <;> rfl
theorem F0.get_set_ne (f : F0) (i j : Nat) (hi : i < 8) (hj : j < 8) (h : i ≠ j) (v) : (f.set i v).get j = f.get j := by
  have hi : i = 0 ∨ i = 1 ∨ i = 2 ∨ i = 3 ∨ i = 4 ∨ i = 5 ∨ i = 6 ∨ i = 7 := by omega
  have hj : j = 0 ∨ j = 1 ∨ j = 2 ∨ j = 3 ∨ j = 4 ∨ j = 5 ∨ j = 6 ∨ j = 7 := by omega
  rcases hi with rfl | rfl | rfl | rfl | rfl | rfl | rfl | rfl <;> rcases hj with rfl | rfl | rfl | rfl | rfl | rfl | rfl | rfl <;> first | rfl | exact absurd rfl h

theorem F1.get_set_same (f : F1) (i : Nat) (h : i < 8) (v) : (f.set i v).get i = v := by
  have : i = 0 ∨ i = 1 ∨ i = 2 ∨ i = 3 ∨ i = 4 ∨ i = 5 ∨ i = 6 ∨ i = 7 := by omega
  rcases this with rfl | rfl | rfl | rfl | rfl | rfl | rfl | rfl <;> rfl
theorem F1.get_set_ne (f : F1) (i j : Nat) (hi : i < 8) (hj : j < 8) (h : i ≠ j) (v) : (f.set i v).get j = f.get j := by
  have hi : i = 0 ∨ i = 1 ∨ i = 2 ∨ i = 3 ∨ i = 4 ∨ i = 5 ∨ i = 6 ∨ i = 7 := by omega
  have hj : j = 0 ∨ j = 1 ∨ j = 2 ∨ j = 3 ∨ j = 4 ∨ j = 5 ∨ j = 6 ∨ j = 7 := by omega
  rcases hi with rfl | rfl | rfl | rfl | rfl | rfl | rfl | rfl <;> rcases hj with rfl | rfl | rfl | rfl | rfl | rfl | rfl | rfl <;> first | rfl | exact absurd rfl h

theorem F2.get_set_same (f : F2) (i : Nat) (h : i < 8) (v) : (f.set i v).get i = v := by
  have : i = 0 ∨ i = 1 ∨ i = 2 ∨ i = 3 ∨ i = 4 ∨ i = 5 ∨ i = 6 ∨ i = 7 := by omega
  rcases this with rfl | rfl | rfl | rfl | rfl | rfl | rfl | rfl <;> rfl
theorem F2.get_set_ne (f : F2) (i j : Nat) (hi : i < 8) (hj : j < 8) (h : i ≠ j) (v) : (f.set i v).get j = f.get j := by
  have hi : i = 0 ∨ i = 1 ∨ i = 2 ∨ i = 3 ∨ i = 4 ∨ i = 5 ∨ i = 6 ∨ i = 7 := by omega
  have hj : j = 0 ∨ j = 1 ∨ j = 2 ∨ j = 3 ∨ j = 4 ∨ j = 5 ∨ j = 6 ∨ j = 7 := by omega
  rcases hi with rfl | rfl | rfl | rfl | rfl | rfl | rfl | rfl <;> rcases hj with rfl | rfl | rfl | rfl | rfl | rfl | rfl | rfl <;> first | rfl | exact absurd rfl h

/-- place i of 512 -/
def F2.at (f : F2) (i : Nat) : AV := ((f.get (i / 64 % 8)).get (i / 8 % 8)).get (i % 8)
def F2.put (f : F2) (i : Nat) (v : AV) : F2 := f.set (i / 64 % 8) ((f.get (i / 64 % 8)).set (i / 8 % 8) (((f.get (i / 64 % 8)).get (i / 8 % 8)).set (i % 8) v))

theorem F2.at_put_same (f : F2) (i : Nat) (v : AV) : (f.put i v).at i = v := by
  unfold F2.at F2.put
  rw [F2.get_set_same _ _ (Nat.mod_lt _ (by omega)), F1.get_set_same _ _ (Nat.mod_lt _ (by omega)), F0.get_set_same _ _ (Nat.mod_lt _ (by omega))]

theorem F2.at_put_ne (f : F2) (i j : Nat) (hi : i < 512) (hj : j < 512) (h : i ≠ j) (v : AV) : (f.put i v).at j = f.at j := by
  unfold F2.at F2.put
  by_cases h2 : i / 64 % 8 = j / 64 % 8
  · rw [h2, F2.get_set_same _ _ (Nat.mod_lt _ (by omega))]
    by_cases h1 : i / 8 % 8 = j / 8 % 8
    · rw [h1, F1.get_set_same _ _ (Nat.mod_lt _ (by omega))]
      rw [F0.get_set_ne _ _ _ (Nat.mod_lt _ (by omega)) (Nat.mod_lt _ (by omega)) (by omega)]
    · rw [F1.get_set_ne _ _ _ (Nat.mod_lt _ (by omega)) (Nat.mod_lt _ (by omega)) h1]
  · rw [F2.get_set_ne _ _ _ (Nat.mod_lt _ (by omega)) (Nat.mod_lt _ (by omega)) h2]

/-! ### Places known ahead -/
/-- a look at a place that is known ahead -/
structure F0.G (i : Nat) where
  run : F0 → AV
  ok : ∀ f, run f = f.get i
def F0.g (i : Nat) : F0.G i :=
  match i with
  | 0 => ⟨F0.a0, fun _ => rfl⟩
  | 1 => ⟨F0.a1, fun _ => rfl⟩
  | 2 => ⟨F0.a2, fun _ => rfl⟩
  | 3 => ⟨F0.a3, fun _ => rfl⟩
  | 4 => ⟨F0.a4, fun _ => rfl⟩
  | 5 => ⟨F0.a5, fun _ => rfl⟩
  | 6 => ⟨F0.a6, fun _ => rfl⟩
  | _ + 7 => ⟨F0.a7, fun _ => rfl⟩
structure F0.S (i : Nat) where
  run : F0 → AV → F0
  ok : ∀ f v, run f v = f.set i v
def F0.s (i : Nat) : F0.S i :=
  match i with
  | 0 => ⟨F0.s0, fun _ _ => rfl⟩
  | 1 => ⟨F0.s1, fun _ _ => rfl⟩
  | 2 => ⟨F0.s2, fun _ _ => rfl⟩
  | 3 => ⟨F0.s3, fun _ _ => rfl⟩
  | 4 => ⟨F0.s4, fun _ _ => rfl⟩
  | 5 => ⟨F0.s5, fun _ _ => rfl⟩
  | 6 => ⟨F0.s6, fun _ _ => rfl⟩
  | _ + 7 => ⟨F0.s7, fun _ _ => rfl⟩
/-- a look at a place that is known ahead -/
structure F1.G (i : Nat) where
  run : F1 → F0
  ok : ∀ f, run f = f.get i
def F1.g (i : Nat) : F1.G i :=
  match i with
  | 0 => ⟨F1.a0, fun _ => rfl⟩
  | 1 => ⟨F1.a1, fun _ => rfl⟩
  | 2 => ⟨F1.a2, fun _ => rfl⟩
  | 3 => ⟨F1.a3, fun _ => rfl⟩
  | 4 => ⟨F1.a4, fun _ => rfl⟩
  | 5 => ⟨F1.a5, fun _ => rfl⟩
  | 6 => ⟨F1.a6, fun _ => rfl⟩
  | _ + 7 => ⟨F1.a7, fun _ => rfl⟩
structure F1.S (i : Nat) where
  run : F1 → F0 → F1
  ok : ∀ f v, run f v = f.set i v
def F1.s (i : Nat) : F1.S i :=
  match i with
  | 0 => ⟨F1.s0, fun _ _ => rfl⟩
  | 1 => ⟨F1.s1, fun _ _ => rfl⟩
  | 2 => ⟨F1.s2, fun _ _ => rfl⟩
  | 3 => ⟨F1.s3, fun _ _ => rfl⟩
  | 4 => ⟨F1.s4, fun _ _ => rfl⟩
  | 5 => ⟨F1.s5, fun _ _ => rfl⟩
  | 6 => ⟨F1.s6, fun _ _ => rfl⟩
  | _ + 7 => ⟨F1.s7, fun _ _ => rfl⟩
/-- a look at a place that is known ahead -/
structure F2.G (i : Nat) where
  run : F2 → F1
  ok : ∀ f, run f = f.get i
def F2.g (i : Nat) : F2.G i :=
  match i with
  | 0 => ⟨F2.a0, fun _ => rfl⟩
  | 1 => ⟨F2.a1, fun _ => rfl⟩
  | 2 => ⟨F2.a2, fun _ => rfl⟩
  | 3 => ⟨F2.a3, fun _ => rfl⟩
  | 4 => ⟨F2.a4, fun _ => rfl⟩
  | 5 => ⟨F2.a5, fun _ => rfl⟩
  | 6 => ⟨F2.a6, fun _ => rfl⟩
  | _ + 7 => ⟨F2.a7, fun _ => rfl⟩
structure F2.S (i : Nat) where
  run : F2 → F1 → F2
  ok : ∀ f v, run f v = f.set i v
def F2.s (i : Nat) : F2.S i :=
  match i with
  | 0 => ⟨F2.s0, fun _ _ => rfl⟩
  | 1 => ⟨F2.s1, fun _ _ => rfl⟩
  | 2 => ⟨F2.s2, fun _ _ => rfl⟩
  | 3 => ⟨F2.s3, fun _ _ => rfl⟩
  | 4 => ⟨F2.s4, fun _ _ => rfl⟩
  | 5 => ⟨F2.s5, fun _ _ => rfl⟩
  | 6 => ⟨F2.s6, fun _ _ => rfl⟩
  | _ + 7 => ⟨F2.s7, fun _ _ => rfl⟩

structure AtC (i : Nat) where
  run : F2 → AV
  ok : ∀ f, run f = f.at i
def atR (p : F2 → F1) (q : F1 → F0) (r : F0 → AV) (f : F2) : AV := r (q (p f))
def atC (i : Nat) : AtC i :=
  match F2.g (i / 64 % 8), F1.g (i / 8 % 8), F0.g (i % 8) with
  | ⟨p, hp⟩, ⟨q, hq⟩, ⟨r, hr⟩ => ⟨atR p q r, fun f => by unfold atR F2.at; rw [hr, hq, hp]⟩

structure PutC (i : Nat) where
  run : F2 → AV → F2
  ok : ∀ f v, run f v = f.put i v
def putR (p : F2 → F1) (q : F1 → F0) (p' : F2 → F1 → F2) (q' : F1 → F0 → F1) (r' : F0 → AV → F0) (f : F2) (v : AV) : F2 := p' f (q' (p f) (r' (q (p f)) v))
def putC (i : Nat) : PutC i :=
  match F2.g (i / 64 % 8), F1.g (i / 8 % 8), F2.s (i / 64 % 8), F1.s (i / 8 % 8), F0.s (i % 8) with
  | ⟨p, hp⟩, ⟨q, hq⟩, ⟨p', hp'⟩, ⟨q', hq'⟩, ⟨r', hr'⟩ => ⟨putR p q p' q' r', fun f v => by unfold putR F2.put; rw [hp', hq', hr', hq, hp]⟩

/-! ### The stack -/
inductive LS where
  | nil
  | cons (v : AV) (l : LS)

def LS.hd (l : LS) : AV := LS.rec (motive := fun _ => AV) .top (fun v _ _ => v) l
def LS.tl (l : LS) : LS := LS.rec (motive := fun _ => LS) .nil (fun _ t _ => t) l
def LS.at (l : LS) : Nat → AV
  | 0 => l.hd
  | k + 1 => l.tl.at k
structure LatC (k : Nat) where
  run : LS → AV
  ok : ∀ l, run l = l.at k
def tlR (g : LS → AV) (l : LS) : AV := g l.tl
def latC : (k : Nat) → LatC k
  | 0 => ⟨LS.hd, fun _ => rfl⟩
  | k + 1 => match latC k with
    | ⟨g, hg⟩ => ⟨tlR g, fun l => by unfold tlR; rw [hg]; rfl⟩

end
end Go.Ev
