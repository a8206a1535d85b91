/-
  chanceryref28.words: what the call does, with data that is not known.
-/
import Derived.Test.YtiibpjahmhemmaaDoorZtimes
namespace Go.Ev
open Go Go.Proofs Go.RowKit Go.Proofs.YtiibpjahmhemmaaDoor
set_option maxRecDepth 100000
noncomputable section

def M32 (x y : Nat) : Nat := Nat.mod (Nat.mul x y) 4294967296
def ldq (m i j k l : Nat) : Nat := A32 (A32 (A32 (Nat.mod (Nat.mul (V32 (byte m i)) 16777216) 4294967296) (Nat.mod (Nat.mul (V32 (byte m j)) 65536) 4294967296)) (Nat.mod (Nat.mul (V32 (byte m k)) 256) 4294967296)) (V32 (byte m l))
def ldr (m t : Nat) : Nat := ldq m (4 * t) (4 * t + 1) (4 * t + 2) (4 * t + 3)
def ldR (m : Nat) : Nat → Nat → Nat
  | 0 => fun _ => 0
  | t + 1 => updN (ldR m t) t (ldr m t)
noncomputable def b26 : Code := bodyOf Tryd.prog 26
noncomputable def d26 (n : Nat) : Code := Nat.rec (motive := fun _ => Code) b26 (fun _ c => cB c) n
noncomputable def wl0 : Code := cA (cB (cA (d26 2)))
noncomputable def wl2 : Code := cA (cB (cA (d26 3)))
noncomputable def wb2 : Code := cA wl2
noncomputable def wk3 : Code := cA (cB wb2)
noncomputable def win : Code := cA wk3
def wSt (W : Nat → Nat) (m : Nat) (r : Nat → Nat) : St := ⟨((((T.full 3 .dead).set 1 (.bytes false 64 m)).set 2 (mkCells (row32 64 r))).set 3 (mkCells (row32 64 W))), 3, 4⟩
def wStS (W : Nat → Nat) (t v m : Nat) (r : Nat → Nat) : St := (wSt W m r).put 3 (.cells true 64 6 (((T.full 6 .top).setL 0 (row32 64 W)).setL t [u32A v]))
def wSt0 (m : Nat) : St := ⟨(T.full 3 .dead).set 1 (.bytes false 64 m), 3, 2⟩
def wSt1 (m : Nat) : St := ⟨((T.full 3 .dead).set 1 (.bytes false 64 m)).set 2 (mkCells (row32 64 fun _ => 0)), 3, 3⟩
def ev26 (ids : List Nat) (c : Code) (fr : Fr) (st : St) : Option (Ex × Fr × St × PL) := evK Tryd.prog callR 40 ids c fr st
def fw0 (cap t : Nat) : Fr := frOf 94 7 [(0, .slice 1 0 64 cap 0), (2, .ptr 2 0), (3, .ptr 3 0), (4, i64A t)]
def fw2 (t : Nat) (l : List (Nat × AV)) : Fr := frOf 94 7 ([(2, .ptr 2 0), (3, .ptr 3 0), (5, i64A t)] ++ l)
def fwE : Fr := frOf 94 7 [(2, .ptr 2 0), (3, .ptr 3 0)]
def W0 (t i j k l : Nat) : Prop := ∀ (W r : Nat → Nat) (m cap : Nat), ev26 [0, 2, 3, 4] (cA wl0) (fw0 cap t) (wSt W m r) = some (.normal, fw0 cap (t + 1), wStS W t (ldq m i j k l) m r, [])
def W2a (t : Nat) : Prop := ∀ (W r : Nat → Nat) (m : Nat), ev26 [2, 3, 5] (cA wb2) (fw2 t []) (wSt W m r) = some (.normal, fw2 t [], wSt W m r, [])
def W2b (t a b : Nat) : Prop := ∀ (W r : Nat → Nat) (m : Nat), ev26 [2, 3, 5, 6, 7] (cA win) (fw2 t []) (wSt W m r) = some (.normal, fw2 t [(6, u32A (W a)), (7, u32A (W b))], wSt W m r, [])
def W2c (t : Nat) : Prop := ∀ (W r : Nat → Nat) (m x y : Nat), ev26 [2, 3, 5, 6] (cA (cB win)) (fw2 t [(6, u32A x), (7, u32A y)]) (wSt W m r) = some (.normal, fw2 t [(6, u32A x)], wStS W t (sg1 y) m r, [])
def W2d (t a b : Nat) (ps : (Nat → Nat) → PL) : Prop := ∀ (W r : Nat → Nat) (m x : Nat), ev26 [2, 3, 5] (cB (cB win)) (fw2 t [(6, u32A x)]) (wSt W m r) = some (.normal, fw2 t [], wStS W t (A32 (A32 (A32 (W t) (W a)) (sg0 x)) (W b)) m r, ps W)
def wSP (t : Nat) : Prop := ∀ (W : Nat → Nat) (v m : Nat) (r : Nat → Nat), wStS W t v m r = wSt (updN W t v) m r
def psD (t a b : Nat) (W : Nat → Nat) : PL := [(u32A (W a), u32A (W a)), (u32A (W t), u32A (W t)), (u32A (W a), u32A (W a)), (u32A (W t), u32A (W t)), (u32A (W b), u32A (W b)), (u32A (W b), u32A (W b))]
def W2e (t : Nat) : Prop := ∀ (W r : Nat → Nat) (m : Nat), ev26 [2, 3, 5] (cB (cB wb2)) (fw2 t []) (wSt W m r) = some (.normal, fw2 (t + 1) [], wSt W m r, [])
theorem wshape : isLoop wl0 = true ∧ isLoop wl2 = true ∧ isSeq wb2 = true ∧ isSeq (cB wb2) = true ∧ isBlock 3 wk3 = true ∧ isSeq win = true ∧ isSeq (cB win) = true := by
  refine ⟨?_, ?_, ?_, ?_, ?_, ?_, ?_⟩ <;> kernel_rfl
theorem wshapeD : isSeq (d26 0) = true ∧ isSeq (d26 1) = true ∧ isSeq (d26 2) = true ∧ isSeq (d26 3) = true ∧ isSeq (cA (d26 2)) = true ∧ isBlock 0 (cB (cA (d26 2))) = true ∧ isSeq (cA (d26 3)) = true ∧ isBlock 2 (cB (cA (d26 3))) = true := by
  refine ⟨?_, ?_, ?_, ?_, ?_, ?_, ?_, ?_⟩ <;> kernel_rfl
theorem w_a (m cap : Nat) : ev26 [0, 2] (cA (d26 0)) (mkFr 94 [.slice 1 0 64 cap 0]) (wSt0 m) = some (.normal, frOf 94 7 [(0, .slice 1 0 64 cap 0), (2, .ptr 2 0)], wSt1 m, []) := by kernel_rfl
theorem w_b (m cap : Nat) : ev26 [0, 2, 3] (cA (d26 1)) (frOf 94 7 [(0, .slice 1 0 64 cap 0), (2, .ptr 2 0)]) (wSt1 m) = some (.normal, frOf 94 7 [(0, .slice 1 0 64 cap 0), (2, .ptr 2 0), (3, .ptr 3 0)], wSt (ldR m 0) m (fun _ => 0), []) := by kernel_rfl
theorem w_c (m cap : Nat) (W r : Nat → Nat) : ev26 [0, 2, 3, 4] (cA (cA (d26 2))) (frOf 94 7 [(0, .slice 1 0 64 cap 0), (2, .ptr 2 0), (3, .ptr 3 0)]) (wSt W m r) = some (.normal, fw0 cap 0, wSt W m r, []) := by kernel_rfl
theorem w_d (m cap : Nat) (W r : Nat → Nat) : ev26 [2, 3] (cA wl0) (fw0 cap 16) (wSt W m r) = some (.exit 0, fwE, wSt W m r, []) := by kernel_rfl
theorem w_e (m : Nat) (W r : Nat → Nat) : ev26 [2, 3, 5] (cA (cA (d26 3))) fwE (wSt W m r) = some (.normal, fw2 16 [], wSt W m r, []) := by kernel_rfl
theorem w_f (m : Nat) (W r : Nat → Nat) : ev26 [2, 3] (cA wl2) (fw2 64 []) (wSt W m r) = some (.exit 2, fwE, wSt W m r, []) := by kernel_rfl
theorem w_g (m : Nat) (W r : Nat → Nat) : ev26 [2] (d26 4) fwE (wSt W m r) = some (.ret, frOf 94 7 [(2, .ptr 2 0)], wSt W m W, []) := by kernel_rfl
theorem w_res (m : Nat) (W r : Nat → Nat) : resA Tryd.prog (frOf 94 7 [(2, .ptr 2 0)]) (wSt W m r) Tryd.f26.results.toList = some [.agg (row32 64 r)] := by kernel_rfl
theorem W0x0 : W0 0 0 1 2 3 := by unfold W0; intros; kernel_rfl
theorem W0x1 : W0 1 4 5 6 7 := by unfold W0; intros; kernel_rfl
theorem W0x2 : W0 2 8 9 10 11 := by unfold W0; intros; kernel_rfl
theorem W0x3 : W0 3 12 13 14 15 := by unfold W0; intros; kernel_rfl
theorem W0x4 : W0 4 16 17 18 19 := by unfold W0; intros; kernel_rfl
theorem W0x5 : W0 5 20 21 22 23 := by unfold W0; intros; kernel_rfl
theorem W0x6 : W0 6 24 25 26 27 := by unfold W0; intros; kernel_rfl
theorem W0x7 : W0 7 28 29 30 31 := by unfold W0; intros; kernel_rfl
theorem W0x8 : W0 8 32 33 34 35 := by unfold W0; intros; kernel_rfl
theorem W0x9 : W0 9 36 37 38 39 := by unfold W0; intros; kernel_rfl
theorem W0x10 : W0 10 40 41 42 43 := by unfold W0; intros; kernel_rfl
theorem W0x11 : W0 11 44 45 46 47 := by unfold W0; intros; kernel_rfl
theorem W0x12 : W0 12 48 49 50 51 := by unfold W0; intros; kernel_rfl
theorem W0x13 : W0 13 52 53 54 55 := by unfold W0; intros; kernel_rfl
theorem W0x14 : W0 14 56 57 58 59 := by unfold W0; intros; kernel_rfl
theorem W0x15 : W0 15 60 61 62 63 := by unfold W0; intros; kernel_rfl
theorem W2ax16 : W2a 16 := by unfold W2a; intros; kernel_rfl
theorem W2bx16 : W2b 16 1 14 := by unfold W2b; intros; kernel_rfl
theorem W2cx16 : W2c 16 := by unfold W2c; intros; kernel_rfl
theorem W2ex16 : W2e 16 := by unfold W2e; intros; kernel_rfl
theorem W2dx16 : W2d 16 9 0 (psD 16 9 0) := by unfold W2d; intros; kernel_rfl
theorem W2ax17 : W2a 17 := by unfold W2a; intros; kernel_rfl
theorem W2bx17 : W2b 17 2 15 := by unfold W2b; intros; kernel_rfl
theorem W2cx17 : W2c 17 := by unfold W2c; intros; kernel_rfl
theorem W2ex17 : W2e 17 := by unfold W2e; intros; kernel_rfl
theorem W2dx17 : W2d 17 10 1 (psD 17 10 1) := by unfold W2d; intros; kernel_rfl
theorem W2ax18 : W2a 18 := by unfold W2a; intros; kernel_rfl
theorem W2bx18 : W2b 18 3 16 := by unfold W2b; intros; kernel_rfl
theorem W2cx18 : W2c 18 := by unfold W2c; intros; kernel_rfl
theorem W2ex18 : W2e 18 := by unfold W2e; intros; kernel_rfl
theorem W2dx18 : W2d 18 11 2 (psD 18 11 2) := by unfold W2d; intros; kernel_rfl
theorem W2ax19 : W2a 19 := by unfold W2a; intros; kernel_rfl
theorem W2bx19 : W2b 19 4 17 := by unfold W2b; intros; kernel_rfl
theorem W2cx19 : W2c 19 := by unfold W2c; intros; kernel_rfl
theorem W2ex19 : W2e 19 := by unfold W2e; intros; kernel_rfl
theorem W2dx19 : W2d 19 12 3 (psD 19 12 3) := by unfold W2d; intros; kernel_rfl
theorem W2ax20 : W2a 20 := by unfold W2a; intros; kernel_rfl
theorem W2bx20 : W2b 20 5 18 := by unfold W2b; intros; kernel_rfl
theorem W2cx20 : W2c 20 := by unfold W2c; intros; kernel_rfl
theorem W2ex20 : W2e 20 := by unfold W2e; intros; kernel_rfl
theorem W2dx20 : W2d 20 13 4 (psD 20 13 4) := by unfold W2d; intros; kernel_rfl
theorem W2ax21 : W2a 21 := by unfold W2a; intros; kernel_rfl
theorem W2bx21 : W2b 21 6 19 := by unfold W2b; intros; kernel_rfl
theorem W2cx21 : W2c 21 := by unfold W2c; intros; kernel_rfl
theorem W2ex21 : W2e 21 := by unfold W2e; intros; kernel_rfl
theorem W2dx21 : W2d 21 14 5 (psD 21 14 5) := by unfold W2d; intros; kernel_rfl
theorem W2ax22 : W2a 22 := by unfold W2a; intros; kernel_rfl
theorem W2bx22 : W2b 22 7 20 := by unfold W2b; intros; kernel_rfl
theorem W2cx22 : W2c 22 := by unfold W2c; intros; kernel_rfl
theorem W2ex22 : W2e 22 := by unfold W2e; intros; kernel_rfl
theorem W2dx22 : W2d 22 15 6 (psD 22 15 6) := by unfold W2d; intros; kernel_rfl
theorem W2ax23 : W2a 23 := by unfold W2a; intros; kernel_rfl
theorem W2bx23 : W2b 23 8 21 := by unfold W2b; intros; kernel_rfl
theorem W2cx23 : W2c 23 := by unfold W2c; intros; kernel_rfl
theorem W2ex23 : W2e 23 := by unfold W2e; intros; kernel_rfl
theorem W2dx23 : W2d 23 16 7 (psD 23 16 7) := by unfold W2d; intros; kernel_rfl
theorem W2ax24 : W2a 24 := by unfold W2a; intros; kernel_rfl
theorem W2bx24 : W2b 24 9 22 := by unfold W2b; intros; kernel_rfl
theorem W2cx24 : W2c 24 := by unfold W2c; intros; kernel_rfl
theorem W2ex24 : W2e 24 := by unfold W2e; intros; kernel_rfl
theorem W2dx24 : W2d 24 17 8 (psD 24 17 8) := by unfold W2d; intros; kernel_rfl
theorem W2ax25 : W2a 25 := by unfold W2a; intros; kernel_rfl
theorem W2bx25 : W2b 25 10 23 := by unfold W2b; intros; kernel_rfl
theorem W2cx25 : W2c 25 := by unfold W2c; intros; kernel_rfl
theorem W2ex25 : W2e 25 := by unfold W2e; intros; kernel_rfl
theorem W2dx25 : W2d 25 18 9 (psD 25 18 9) := by unfold W2d; intros; kernel_rfl
theorem W2ax26 : W2a 26 := by unfold W2a; intros; kernel_rfl
theorem W2bx26 : W2b 26 11 24 := by unfold W2b; intros; kernel_rfl
theorem W2cx26 : W2c 26 := by unfold W2c; intros; kernel_rfl
theorem W2ex26 : W2e 26 := by unfold W2e; intros; kernel_rfl
theorem W2dx26 : W2d 26 19 10 (psD 26 19 10) := by unfold W2d; intros; kernel_rfl
theorem W2ax27 : W2a 27 := by unfold W2a; intros; kernel_rfl
theorem W2bx27 : W2b 27 12 25 := by unfold W2b; intros; kernel_rfl
theorem W2cx27 : W2c 27 := by unfold W2c; intros; kernel_rfl
theorem W2ex27 : W2e 27 := by unfold W2e; intros; kernel_rfl
theorem W2dx27 : W2d 27 20 11 (psD 27 20 11) := by unfold W2d; intros; kernel_rfl
theorem W2ax28 : W2a 28 := by unfold W2a; intros; kernel_rfl
theorem W2bx28 : W2b 28 13 26 := by unfold W2b; intros; kernel_rfl
theorem W2cx28 : W2c 28 := by unfold W2c; intros; kernel_rfl
theorem W2ex28 : W2e 28 := by unfold W2e; intros; kernel_rfl
theorem W2dx28 : W2d 28 21 12 (psD 28 21 12) := by unfold W2d; intros; kernel_rfl
theorem W2ax29 : W2a 29 := by unfold W2a; intros; kernel_rfl
theorem W2bx29 : W2b 29 14 27 := by unfold W2b; intros; kernel_rfl
theorem W2cx29 : W2c 29 := by unfold W2c; intros; kernel_rfl
theorem W2ex29 : W2e 29 := by unfold W2e; intros; kernel_rfl
theorem W2dx29 : W2d 29 22 13 (psD 29 22 13) := by unfold W2d; intros; kernel_rfl
theorem W2ax30 : W2a 30 := by unfold W2a; intros; kernel_rfl
theorem W2bx30 : W2b 30 15 28 := by unfold W2b; intros; kernel_rfl
theorem W2cx30 : W2c 30 := by unfold W2c; intros; kernel_rfl
theorem W2ex30 : W2e 30 := by unfold W2e; intros; kernel_rfl
theorem W2dx30 : W2d 30 23 14 (psD 30 23 14) := by unfold W2d; intros; kernel_rfl
theorem W2ax31 : W2a 31 := by unfold W2a; intros; kernel_rfl
theorem W2bx31 : W2b 31 16 29 := by unfold W2b; intros; kernel_rfl
theorem W2cx31 : W2c 31 := by unfold W2c; intros; kernel_rfl
theorem W2ex31 : W2e 31 := by unfold W2e; intros; kernel_rfl
theorem W2dx31 : W2d 31 24 15 (psD 31 24 15) := by unfold W2d; intros; kernel_rfl
theorem W2ax32 : W2a 32 := by unfold W2a; intros; kernel_rfl
theorem W2bx32 : W2b 32 17 30 := by unfold W2b; intros; kernel_rfl
theorem W2cx32 : W2c 32 := by unfold W2c; intros; kernel_rfl
theorem W2ex32 : W2e 32 := by unfold W2e; intros; kernel_rfl
theorem W2dx32 : W2d 32 25 16 (psD 32 25 16) := by unfold W2d; intros; kernel_rfl
theorem W2ax33 : W2a 33 := by unfold W2a; intros; kernel_rfl
theorem W2bx33 : W2b 33 18 31 := by unfold W2b; intros; kernel_rfl
theorem W2cx33 : W2c 33 := by unfold W2c; intros; kernel_rfl
theorem W2ex33 : W2e 33 := by unfold W2e; intros; kernel_rfl
theorem W2dx33 : W2d 33 26 17 (psD 33 26 17) := by unfold W2d; intros; kernel_rfl
theorem W2ax34 : W2a 34 := by unfold W2a; intros; kernel_rfl
theorem W2bx34 : W2b 34 19 32 := by unfold W2b; intros; kernel_rfl
theorem W2cx34 : W2c 34 := by unfold W2c; intros; kernel_rfl
theorem W2ex34 : W2e 34 := by unfold W2e; intros; kernel_rfl
theorem W2dx34 : W2d 34 27 18 (psD 34 27 18) := by unfold W2d; intros; kernel_rfl
theorem W2ax35 : W2a 35 := by unfold W2a; intros; kernel_rfl
theorem W2bx35 : W2b 35 20 33 := by unfold W2b; intros; kernel_rfl
theorem W2cx35 : W2c 35 := by unfold W2c; intros; kernel_rfl
theorem W2ex35 : W2e 35 := by unfold W2e; intros; kernel_rfl
theorem W2dx35 : W2d 35 28 19 (psD 35 28 19) := by unfold W2d; intros; kernel_rfl
theorem W2ax36 : W2a 36 := by unfold W2a; intros; kernel_rfl
theorem W2bx36 : W2b 36 21 34 := by unfold W2b; intros; kernel_rfl
theorem W2cx36 : W2c 36 := by unfold W2c; intros; kernel_rfl
theorem W2ex36 : W2e 36 := by unfold W2e; intros; kernel_rfl
theorem W2dx36 : W2d 36 29 20 (psD 36 29 20) := by unfold W2d; intros; kernel_rfl
theorem W2ax37 : W2a 37 := by unfold W2a; intros; kernel_rfl
theorem W2bx37 : W2b 37 22 35 := by unfold W2b; intros; kernel_rfl
theorem W2cx37 : W2c 37 := by unfold W2c; intros; kernel_rfl
theorem W2ex37 : W2e 37 := by unfold W2e; intros; kernel_rfl
theorem W2dx37 : W2d 37 30 21 (psD 37 30 21) := by unfold W2d; intros; kernel_rfl
theorem W2ax38 : W2a 38 := by unfold W2a; intros; kernel_rfl
theorem W2bx38 : W2b 38 23 36 := by unfold W2b; intros; kernel_rfl
theorem W2cx38 : W2c 38 := by unfold W2c; intros; kernel_rfl
theorem W2ex38 : W2e 38 := by unfold W2e; intros; kernel_rfl
theorem W2dx38 : W2d 38 31 22 (psD 38 31 22) := by unfold W2d; intros; kernel_rfl
theorem W2ax39 : W2a 39 := by unfold W2a; intros; kernel_rfl
theorem W2bx39 : W2b 39 24 37 := by unfold W2b; intros; kernel_rfl
theorem W2cx39 : W2c 39 := by unfold W2c; intros; kernel_rfl
theorem W2ex39 : W2e 39 := by unfold W2e; intros; kernel_rfl
theorem W2dx39 : W2d 39 32 23 (psD 39 32 23) := by unfold W2d; intros; kernel_rfl
theorem W2ax40 : W2a 40 := by unfold W2a; intros; kernel_rfl
theorem W2bx40 : W2b 40 25 38 := by unfold W2b; intros; kernel_rfl
theorem W2cx40 : W2c 40 := by unfold W2c; intros; kernel_rfl
theorem W2ex40 : W2e 40 := by unfold W2e; intros; kernel_rfl
theorem W2dx40 : W2d 40 33 24 (psD 40 33 24) := by unfold W2d; intros; kernel_rfl
theorem W2ax41 : W2a 41 := by unfold W2a; intros; kernel_rfl
theorem W2bx41 : W2b 41 26 39 := by unfold W2b; intros; kernel_rfl
theorem W2cx41 : W2c 41 := by unfold W2c; intros; kernel_rfl
theorem W2ex41 : W2e 41 := by unfold W2e; intros; kernel_rfl
theorem W2dx41 : W2d 41 34 25 (psD 41 34 25) := by unfold W2d; intros; kernel_rfl
theorem W2ax42 : W2a 42 := by unfold W2a; intros; kernel_rfl
theorem W2bx42 : W2b 42 27 40 := by unfold W2b; intros; kernel_rfl
theorem W2cx42 : W2c 42 := by unfold W2c; intros; kernel_rfl
theorem W2ex42 : W2e 42 := by unfold W2e; intros; kernel_rfl
theorem W2dx42 : W2d 42 35 26 (psD 42 35 26) := by unfold W2d; intros; kernel_rfl
theorem W2ax43 : W2a 43 := by unfold W2a; intros; kernel_rfl
theorem W2bx43 : W2b 43 28 41 := by unfold W2b; intros; kernel_rfl
theorem W2cx43 : W2c 43 := by unfold W2c; intros; kernel_rfl
theorem W2ex43 : W2e 43 := by unfold W2e; intros; kernel_rfl
theorem W2dx43 : W2d 43 36 27 (psD 43 36 27) := by unfold W2d; intros; kernel_rfl
theorem W2ax44 : W2a 44 := by unfold W2a; intros; kernel_rfl
theorem W2bx44 : W2b 44 29 42 := by unfold W2b; intros; kernel_rfl
theorem W2cx44 : W2c 44 := by unfold W2c; intros; kernel_rfl
theorem W2ex44 : W2e 44 := by unfold W2e; intros; kernel_rfl
theorem W2dx44 : W2d 44 37 28 (psD 44 37 28) := by unfold W2d; intros; kernel_rfl
theorem W2ax45 : W2a 45 := by unfold W2a; intros; kernel_rfl
theorem W2bx45 : W2b 45 30 43 := by unfold W2b; intros; kernel_rfl
theorem W2cx45 : W2c 45 := by unfold W2c; intros; kernel_rfl
theorem W2ex45 : W2e 45 := by unfold W2e; intros; kernel_rfl
theorem W2dx45 : W2d 45 38 29 (psD 45 38 29) := by unfold W2d; intros; kernel_rfl
theorem W2ax46 : W2a 46 := by unfold W2a; intros; kernel_rfl
theorem W2bx46 : W2b 46 31 44 := by unfold W2b; intros; kernel_rfl
theorem W2cx46 : W2c 46 := by unfold W2c; intros; kernel_rfl
theorem W2ex46 : W2e 46 := by unfold W2e; intros; kernel_rfl
theorem W2dx46 : W2d 46 39 30 (psD 46 39 30) := by unfold W2d; intros; kernel_rfl
theorem W2ax47 : W2a 47 := by unfold W2a; intros; kernel_rfl
theorem W2bx47 : W2b 47 32 45 := by unfold W2b; intros; kernel_rfl
theorem W2cx47 : W2c 47 := by unfold W2c; intros; kernel_rfl
theorem W2ex47 : W2e 47 := by unfold W2e; intros; kernel_rfl
theorem W2dx47 : W2d 47 40 31 (psD 47 40 31) := by unfold W2d; intros; kernel_rfl
theorem W2ax48 : W2a 48 := by unfold W2a; intros; kernel_rfl
theorem W2bx48 : W2b 48 33 46 := by unfold W2b; intros; kernel_rfl
theorem W2cx48 : W2c 48 := by unfold W2c; intros; kernel_rfl
theorem W2ex48 : W2e 48 := by unfold W2e; intros; kernel_rfl
theorem W2dx48 : W2d 48 41 32 (psD 48 41 32) := by unfold W2d; intros; kernel_rfl
theorem W2ax49 : W2a 49 := by unfold W2a; intros; kernel_rfl
theorem W2bx49 : W2b 49 34 47 := by unfold W2b; intros; kernel_rfl
theorem W2cx49 : W2c 49 := by unfold W2c; intros; kernel_rfl
theorem W2ex49 : W2e 49 := by unfold W2e; intros; kernel_rfl
theorem W2dx49 : W2d 49 42 33 (psD 49 42 33) := by unfold W2d; intros; kernel_rfl
theorem W2ax50 : W2a 50 := by unfold W2a; intros; kernel_rfl
theorem W2bx50 : W2b 50 35 48 := by unfold W2b; intros; kernel_rfl
theorem W2cx50 : W2c 50 := by unfold W2c; intros; kernel_rfl
theorem W2ex50 : W2e 50 := by unfold W2e; intros; kernel_rfl
theorem W2dx50 : W2d 50 43 34 (psD 50 43 34) := by unfold W2d; intros; kernel_rfl
theorem W2ax51 : W2a 51 := by unfold W2a; intros; kernel_rfl
theorem W2bx51 : W2b 51 36 49 := by unfold W2b; intros; kernel_rfl
theorem W2cx51 : W2c 51 := by unfold W2c; intros; kernel_rfl
theorem W2ex51 : W2e 51 := by unfold W2e; intros; kernel_rfl
theorem W2dx51 : W2d 51 44 35 (psD 51 44 35) := by unfold W2d; intros; kernel_rfl
theorem W2ax52 : W2a 52 := by unfold W2a; intros; kernel_rfl
theorem W2bx52 : W2b 52 37 50 := by unfold W2b; intros; kernel_rfl
theorem W2cx52 : W2c 52 := by unfold W2c; intros; kernel_rfl
theorem W2ex52 : W2e 52 := by unfold W2e; intros; kernel_rfl
theorem W2dx52 : W2d 52 45 36 (psD 52 45 36) := by unfold W2d; intros; kernel_rfl
theorem W2ax53 : W2a 53 := by unfold W2a; intros; kernel_rfl
theorem W2bx53 : W2b 53 38 51 := by unfold W2b; intros; kernel_rfl
theorem W2cx53 : W2c 53 := by unfold W2c; intros; kernel_rfl
theorem W2ex53 : W2e 53 := by unfold W2e; intros; kernel_rfl
theorem W2dx53 : W2d 53 46 37 (psD 53 46 37) := by unfold W2d; intros; kernel_rfl
theorem W2ax54 : W2a 54 := by unfold W2a; intros; kernel_rfl
theorem W2bx54 : W2b 54 39 52 := by unfold W2b; intros; kernel_rfl
theorem W2cx54 : W2c 54 := by unfold W2c; intros; kernel_rfl
theorem W2ex54 : W2e 54 := by unfold W2e; intros; kernel_rfl
theorem W2dx54 : W2d 54 47 38 (psD 54 47 38) := by unfold W2d; intros; kernel_rfl
theorem W2ax55 : W2a 55 := by unfold W2a; intros; kernel_rfl
theorem W2bx55 : W2b 55 40 53 := by unfold W2b; intros; kernel_rfl
theorem W2cx55 : W2c 55 := by unfold W2c; intros; kernel_rfl
theorem W2ex55 : W2e 55 := by unfold W2e; intros; kernel_rfl
theorem W2dx55 : W2d 55 48 39 (psD 55 48 39) := by unfold W2d; intros; kernel_rfl
theorem W2ax56 : W2a 56 := by unfold W2a; intros; kernel_rfl
theorem W2bx56 : W2b 56 41 54 := by unfold W2b; intros; kernel_rfl
theorem W2cx56 : W2c 56 := by unfold W2c; intros; kernel_rfl
theorem W2ex56 : W2e 56 := by unfold W2e; intros; kernel_rfl
theorem W2dx56 : W2d 56 49 40 (psD 56 49 40) := by unfold W2d; intros; kernel_rfl
theorem W2ax57 : W2a 57 := by unfold W2a; intros; kernel_rfl
theorem W2bx57 : W2b 57 42 55 := by unfold W2b; intros; kernel_rfl
theorem W2cx57 : W2c 57 := by unfold W2c; intros; kernel_rfl
theorem W2ex57 : W2e 57 := by unfold W2e; intros; kernel_rfl
theorem W2dx57 : W2d 57 50 41 (psD 57 50 41) := by unfold W2d; intros; kernel_rfl
theorem W2ax58 : W2a 58 := by unfold W2a; intros; kernel_rfl
theorem W2bx58 : W2b 58 43 56 := by unfold W2b; intros; kernel_rfl
theorem W2cx58 : W2c 58 := by unfold W2c; intros; kernel_rfl
theorem W2ex58 : W2e 58 := by unfold W2e; intros; kernel_rfl
theorem W2dx58 : W2d 58 51 42 (psD 58 51 42) := by unfold W2d; intros; kernel_rfl
theorem W2ax59 : W2a 59 := by unfold W2a; intros; kernel_rfl
theorem W2bx59 : W2b 59 44 57 := by unfold W2b; intros; kernel_rfl
theorem W2cx59 : W2c 59 := by unfold W2c; intros; kernel_rfl
theorem W2ex59 : W2e 59 := by unfold W2e; intros; kernel_rfl
theorem W2dx59 : W2d 59 52 43 (psD 59 52 43) := by unfold W2d; intros; kernel_rfl
theorem W2ax60 : W2a 60 := by unfold W2a; intros; kernel_rfl
theorem W2bx60 : W2b 60 45 58 := by unfold W2b; intros; kernel_rfl
theorem W2cx60 : W2c 60 := by unfold W2c; intros; kernel_rfl
theorem W2ex60 : W2e 60 := by unfold W2e; intros; kernel_rfl
theorem W2dx60 : W2d 60 53 44 (psD 60 53 44) := by unfold W2d; intros; kernel_rfl
theorem W2ax61 : W2a 61 := by unfold W2a; intros; kernel_rfl
theorem W2bx61 : W2b 61 46 59 := by unfold W2b; intros; kernel_rfl
theorem W2cx61 : W2c 61 := by unfold W2c; intros; kernel_rfl
theorem W2ex61 : W2e 61 := by unfold W2e; intros; kernel_rfl
theorem W2dx61 : W2d 61 54 45 (psD 61 54 45) := by unfold W2d; intros; kernel_rfl
theorem W2ax62 : W2a 62 := by unfold W2a; intros; kernel_rfl
theorem W2bx62 : W2b 62 47 60 := by unfold W2b; intros; kernel_rfl
theorem W2cx62 : W2c 62 := by unfold W2c; intros; kernel_rfl
theorem W2ex62 : W2e 62 := by unfold W2e; intros; kernel_rfl
theorem W2dx62 : W2d 62 55 46 (psD 62 55 46) := by unfold W2d; intros; kernel_rfl
theorem W2ax63 : W2a 63 := by unfold W2a; intros; kernel_rfl
theorem W2bx63 : W2b 63 48 61 := by unfold W2b; intros; kernel_rfl
theorem W2cx63 : W2c 63 := by unfold W2c; intros; kernel_rfl
theorem W2ex63 : W2e 63 := by unfold W2e; intros; kernel_rfl
theorem W2dx63 : W2d 63 56 47 (psD 63 56 47) := by unfold W2d; intros; kernel_rfl
theorem wSx0 : wSP 0 := by unfold wSP; intros; kernel_rfl
theorem wSx1 : wSP 1 := by unfold wSP; intros; kernel_rfl
theorem wSx2 : wSP 2 := by unfold wSP; intros; kernel_rfl
theorem wSx3 : wSP 3 := by unfold wSP; intros; kernel_rfl
theorem wSx4 : wSP 4 := by unfold wSP; intros; kernel_rfl
theorem wSx5 : wSP 5 := by unfold wSP; intros; kernel_rfl
theorem wSx6 : wSP 6 := by unfold wSP; intros; kernel_rfl
theorem wSx7 : wSP 7 := by unfold wSP; intros; kernel_rfl
theorem wSx8 : wSP 8 := by unfold wSP; intros; kernel_rfl
theorem wSx9 : wSP 9 := by unfold wSP; intros; kernel_rfl
theorem wSx10 : wSP 10 := by unfold wSP; intros; kernel_rfl
theorem wSx11 : wSP 11 := by unfold wSP; intros; kernel_rfl
theorem wSx12 : wSP 12 := by unfold wSP; intros; kernel_rfl
theorem wSx13 : wSP 13 := by unfold wSP; intros; kernel_rfl
theorem wSx14 : wSP 14 := by unfold wSP; intros; kernel_rfl
theorem wSx15 : wSP 15 := by unfold wSP; intros; kernel_rfl
theorem wSx16 : wSP 16 := by unfold wSP; intros; kernel_rfl
theorem wSx17 : wSP 17 := by unfold wSP; intros; kernel_rfl
theorem wSx18 : wSP 18 := by unfold wSP; intros; kernel_rfl
theorem wSx19 : wSP 19 := by unfold wSP; intros; kernel_rfl
theorem wSx20 : wSP 20 := by unfold wSP; intros; kernel_rfl
theorem wSx21 : wSP 21 := by unfold wSP; intros; kernel_rfl
theorem wSx22 : wSP 22 := by unfold wSP; intros; kernel_rfl
theorem wSx23 : wSP 23 := by unfold wSP; intros; kernel_rfl
theorem wSx24 : wSP 24 := by unfold wSP; intros; kernel_rfl
theorem wSx25 : wSP 25 := by unfold wSP; intros; kernel_rfl
theorem wSx26 : wSP 26 := by unfold wSP; intros; kernel_rfl
theorem wSx27 : wSP 27 := by unfold wSP; intros; kernel_rfl
theorem wSx28 : wSP 28 := by unfold wSP; intros; kernel_rfl
theorem wSx29 : wSP 29 := by unfold wSP; intros; kernel_rfl
theorem wSx30 : wSP 30 := by unfold wSP; intros; kernel_rfl
theorem wSx31 : wSP 31 := by unfold wSP; intros; kernel_rfl
theorem wSx32 : wSP 32 := by unfold wSP; intros; kernel_rfl
theorem wSx33 : wSP 33 := by unfold wSP; intros; kernel_rfl
theorem wSx34 : wSP 34 := by unfold wSP; intros; kernel_rfl
theorem wSx35 : wSP 35 := by unfold wSP; intros; kernel_rfl
theorem wSx36 : wSP 36 := by unfold wSP; intros; kernel_rfl
theorem wSx37 : wSP 37 := by unfold wSP; intros; kernel_rfl
theorem wSx38 : wSP 38 := by unfold wSP; intros; kernel_rfl
theorem wSx39 : wSP 39 := by unfold wSP; intros; kernel_rfl
theorem wSx40 : wSP 40 := by unfold wSP; intros; kernel_rfl
theorem wSx41 : wSP 41 := by unfold wSP; intros; kernel_rfl
theorem wSx42 : wSP 42 := by unfold wSP; intros; kernel_rfl
theorem wSx43 : wSP 43 := by unfold wSP; intros; kernel_rfl
theorem wSx44 : wSP 44 := by unfold wSP; intros; kernel_rfl
theorem wSx45 : wSP 45 := by unfold wSP; intros; kernel_rfl
theorem wSx46 : wSP 46 := by unfold wSP; intros; kernel_rfl
theorem wSx47 : wSP 47 := by unfold wSP; intros; kernel_rfl
theorem wSx48 : wSP 48 := by unfold wSP; intros; kernel_rfl
theorem wSx49 : wSP 49 := by unfold wSP; intros; kernel_rfl
theorem wSx50 : wSP 50 := by unfold wSP; intros; kernel_rfl
theorem wSx51 : wSP 51 := by unfold wSP; intros; kernel_rfl
theorem wSx52 : wSP 52 := by unfold wSP; intros; kernel_rfl
theorem wSx53 : wSP 53 := by unfold wSP; intros; kernel_rfl
theorem wSx54 : wSP 54 := by unfold wSP; intros; kernel_rfl
theorem wSx55 : wSP 55 := by unfold wSP; intros; kernel_rfl
theorem wSx56 : wSP 56 := by unfold wSP; intros; kernel_rfl
theorem wSx57 : wSP 57 := by unfold wSP; intros; kernel_rfl
theorem wSx58 : wSP 58 := by unfold wSP; intros; kernel_rfl
theorem wSx59 : wSP 59 := by unfold wSP; intros; kernel_rfl
theorem wSx60 : wSP 60 := by unfold wSP; intros; kernel_rfl
theorem wSx61 : wSP 61 := by unfold wSP; intros; kernel_rfl
theorem wSx62 : wSP 62 := by unfold wSP; intros; kernel_rfl
theorem wSx63 : wSP 63 := by unfold wSP; intros; kernel_rfl
theorem wSall (t : Nat) (h1 : 0 ≤ t) (h2 : t < 64) : wSP t := by
  have : t = 0 ∨ t = 1 ∨ t = 2 ∨ t = 3 ∨ t = 4 ∨ t = 5 ∨ t = 6 ∨ t = 7 ∨ t = 8 ∨ t = 9 ∨ t = 10 ∨ t = 11 ∨ t = 12 ∨ t = 13 ∨ t = 14 ∨ t = 15 ∨ t = 16 ∨ t = 17 ∨ t = 18 ∨ t = 19 ∨ t = 20 ∨ t = 21 ∨ t = 22 ∨ t = 23 ∨ t = 24 ∨ t = 25 ∨ t = 26 ∨ t = 27 ∨ t = 28 ∨ t = 29 ∨ t = 30 ∨ t = 31 ∨ t = 32 ∨ t = 33 ∨ t = 34 ∨ t = 35 ∨ t = 36 ∨ t = 37 ∨ t = 38 ∨ t = 39 ∨ t = 40 ∨ t = 41 ∨ t = 42 ∨ t = 43 ∨ t = 44 ∨ t = 45 ∨ t = 46 ∨ t = 47 ∨ t = 48 ∨ t = 49 ∨ t = 50 ∨ t = 51 ∨ t = 52 ∨ t = 53 ∨ t = 54 ∨ t = 55 ∨ t = 56 ∨ t = 57 ∨ t = 58 ∨ t = 59 ∨ t = 60 ∨ t = 61 ∨ t = 62 ∨ t = 63 := by omega
  rcases this with rfl | rfl | rfl | rfl | rfl | rfl | rfl | rfl | rfl | rfl | rfl | rfl | rfl | rfl | rfl | rfl | rfl | rfl | rfl | rfl | rfl | rfl | rfl | rfl | rfl | rfl | rfl | rfl | rfl | rfl | rfl | rfl | rfl | rfl | rfl | rfl | rfl | rfl | rfl | rfl | rfl | rfl | rfl | rfl | rfl | rfl | rfl | rfl | rfl | rfl | rfl | rfl | rfl | rfl | rfl | rfl | rfl | rfl | rfl | rfl | rfl | rfl | rfl | rfl
  · exact wSx0
  · exact wSx1
  · exact wSx2
  · exact wSx3
  · exact wSx4
  · exact wSx5
  · exact wSx6
  · exact wSx7
  · exact wSx8
  · exact wSx9
  · exact wSx10
  · exact wSx11
  · exact wSx12
  · exact wSx13
  · exact wSx14
  · exact wSx15
  · exact wSx16
  · exact wSx17
  · exact wSx18
  · exact wSx19
  · exact wSx20
  · exact wSx21
  · exact wSx22
  · exact wSx23
  · exact wSx24
  · exact wSx25
  · exact wSx26
  · exact wSx27
  · exact wSx28
  · exact wSx29
  · exact wSx30
  · exact wSx31
  · exact wSx32
  · exact wSx33
  · exact wSx34
  · exact wSx35
  · exact wSx36
  · exact wSx37
  · exact wSx38
  · exact wSx39
  · exact wSx40
  · exact wSx41
  · exact wSx42
  · exact wSx43
  · exact wSx44
  · exact wSx45
  · exact wSx46
  · exact wSx47
  · exact wSx48
  · exact wSx49
  · exact wSx50
  · exact wSx51
  · exact wSx52
  · exact wSx53
  · exact wSx54
  · exact wSx55
  · exact wSx56
  · exact wSx57
  · exact wSx58
  · exact wSx59
  · exact wSx60
  · exact wSx61
  · exact wSx62
  · exact wSx63
theorem W0all (t : Nat) (h1 : 0 ≤ t) (h2 : t < 16) : W0 t (4 * t) (4 * t + 1) (4 * t + 2) (4 * t + 3) := by
  have : t = 0 ∨ t = 1 ∨ t = 2 ∨ t = 3 ∨ t = 4 ∨ t = 5 ∨ t = 6 ∨ t = 7 ∨ t = 8 ∨ t = 9 ∨ t = 10 ∨ t = 11 ∨ t = 12 ∨ t = 13 ∨ t = 14 ∨ t = 15 := by omega
  rcases this with rfl | rfl | rfl | rfl | rfl | rfl | rfl | rfl | rfl | rfl | rfl | rfl | rfl | rfl | rfl | rfl
  · exact W0x0
  · exact W0x1
  · exact W0x2
  · exact W0x3
  · exact W0x4
  · exact W0x5
  · exact W0x6
  · exact W0x7
  · exact W0x8
  · exact W0x9
  · exact W0x10
  · exact W0x11
  · exact W0x12
  · exact W0x13
  · exact W0x14
  · exact W0x15
theorem W2aall (t : Nat) (h1 : 16 ≤ t) (h2 : t < 64) : W2a t := by
  have : t = 16 ∨ t = 17 ∨ t = 18 ∨ t = 19 ∨ t = 20 ∨ t = 21 ∨ t = 22 ∨ t = 23 ∨ t = 24 ∨ t = 25 ∨ t = 26 ∨ t = 27 ∨ t = 28 ∨ t = 29 ∨ t = 30 ∨ t = 31 ∨ t = 32 ∨ t = 33 ∨ t = 34 ∨ t = 35 ∨ t = 36 ∨ t = 37 ∨ t = 38 ∨ t = 39 ∨ t = 40 ∨ t = 41 ∨ t = 42 ∨ t = 43 ∨ t = 44 ∨ t = 45 ∨ t = 46 ∨ t = 47 ∨ t = 48 ∨ t = 49 ∨ t = 50 ∨ t = 51 ∨ t = 52 ∨ t = 53 ∨ t = 54 ∨ t = 55 ∨ t = 56 ∨ t = 57 ∨ t = 58 ∨ t = 59 ∨ t = 60 ∨ t = 61 ∨ t = 62 ∨ t = 63 := by omega
  rcases this with rfl | rfl | rfl | rfl | rfl | rfl | rfl | rfl | rfl | rfl | rfl | rfl | rfl | rfl | rfl | rfl | rfl | rfl | rfl | rfl | rfl | rfl | rfl | rfl | rfl | rfl | rfl | rfl | rfl | rfl | rfl | rfl | rfl | rfl | rfl | rfl | rfl | rfl | rfl | rfl | rfl | rfl | rfl | rfl | rfl | rfl | rfl | rfl
  · exact W2ax16
  · exact W2ax17
  · exact W2ax18
  · exact W2ax19
  · exact W2ax20
  · exact W2ax21
  · exact W2ax22
  · exact W2ax23
  · exact W2ax24
  · exact W2ax25
  · exact W2ax26
  · exact W2ax27
  · exact W2ax28
  · exact W2ax29
  · exact W2ax30
  · exact W2ax31
  · exact W2ax32
  · exact W2ax33
  · exact W2ax34
  · exact W2ax35
  · exact W2ax36
  · exact W2ax37
  · exact W2ax38
  · exact W2ax39
  · exact W2ax40
  · exact W2ax41
  · exact W2ax42
  · exact W2ax43
  · exact W2ax44
  · exact W2ax45
  · exact W2ax46
  · exact W2ax47
  · exact W2ax48
  · exact W2ax49
  · exact W2ax50
  · exact W2ax51
  · exact W2ax52
  · exact W2ax53
  · exact W2ax54
  · exact W2ax55
  · exact W2ax56
  · exact W2ax57
  · exact W2ax58
  · exact W2ax59
  · exact W2ax60
  · exact W2ax61
  · exact W2ax62
  · exact W2ax63
theorem W2ball (t : Nat) (h1 : 16 ≤ t) (h2 : t < 64) : W2b t (t - 15) (t - 2) := by
  have : t = 16 ∨ t = 17 ∨ t = 18 ∨ t = 19 ∨ t = 20 ∨ t = 21 ∨ t = 22 ∨ t = 23 ∨ t = 24 ∨ t = 25 ∨ t = 26 ∨ t = 27 ∨ t = 28 ∨ t = 29 ∨ t = 30 ∨ t = 31 ∨ t = 32 ∨ t = 33 ∨ t = 34 ∨ t = 35 ∨ t = 36 ∨ t = 37 ∨ t = 38 ∨ t = 39 ∨ t = 40 ∨ t = 41 ∨ t = 42 ∨ t = 43 ∨ t = 44 ∨ t = 45 ∨ t = 46 ∨ t = 47 ∨ t = 48 ∨ t = 49 ∨ t = 50 ∨ t = 51 ∨ t = 52 ∨ t = 53 ∨ t = 54 ∨ t = 55 ∨ t = 56 ∨ t = 57 ∨ t = 58 ∨ t = 59 ∨ t = 60 ∨ t = 61 ∨ t = 62 ∨ t = 63 := by omega
  rcases this with rfl | rfl | rfl | rfl | rfl | rfl | rfl | rfl | rfl | rfl | rfl | rfl | rfl | rfl | rfl | rfl | rfl | rfl | rfl | rfl | rfl | rfl | rfl | rfl | rfl | rfl | rfl | rfl | rfl | rfl | rfl | rfl | rfl | rfl | rfl | rfl | rfl | rfl | rfl | rfl | rfl | rfl | rfl | rfl | rfl | rfl | rfl | rfl
  · exact W2bx16
  · exact W2bx17
  · exact W2bx18
  · exact W2bx19
  · exact W2bx20
  · exact W2bx21
  · exact W2bx22
  · exact W2bx23
  · exact W2bx24
  · exact W2bx25
  · exact W2bx26
  · exact W2bx27
  · exact W2bx28
  · exact W2bx29
  · exact W2bx30
  · exact W2bx31
  · exact W2bx32
  · exact W2bx33
  · exact W2bx34
  · exact W2bx35
  · exact W2bx36
  · exact W2bx37
  · exact W2bx38
  · exact W2bx39
  · exact W2bx40
  · exact W2bx41
  · exact W2bx42
  · exact W2bx43
  · exact W2bx44
  · exact W2bx45
  · exact W2bx46
  · exact W2bx47
  · exact W2bx48
  · exact W2bx49
  · exact W2bx50
  · exact W2bx51
  · exact W2bx52
  · exact W2bx53
  · exact W2bx54
  · exact W2bx55
  · exact W2bx56
  · exact W2bx57
  · exact W2bx58
  · exact W2bx59
  · exact W2bx60
  · exact W2bx61
  · exact W2bx62
  · exact W2bx63
theorem W2call (t : Nat) (h1 : 16 ≤ t) (h2 : t < 64) : W2c t := by
  have : t = 16 ∨ t = 17 ∨ t = 18 ∨ t = 19 ∨ t = 20 ∨ t = 21 ∨ t = 22 ∨ t = 23 ∨ t = 24 ∨ t = 25 ∨ t = 26 ∨ t = 27 ∨ t = 28 ∨ t = 29 ∨ t = 30 ∨ t = 31 ∨ t = 32 ∨ t = 33 ∨ t = 34 ∨ t = 35 ∨ t = 36 ∨ t = 37 ∨ t = 38 ∨ t = 39 ∨ t = 40 ∨ t = 41 ∨ t = 42 ∨ t = 43 ∨ t = 44 ∨ t = 45 ∨ t = 46 ∨ t = 47 ∨ t = 48 ∨ t = 49 ∨ t = 50 ∨ t = 51 ∨ t = 52 ∨ t = 53 ∨ t = 54 ∨ t = 55 ∨ t = 56 ∨ t = 57 ∨ t = 58 ∨ t = 59 ∨ t = 60 ∨ t = 61 ∨ t = 62 ∨ t = 63 := by omega
  rcases this with rfl | rfl | rfl | rfl | rfl | rfl | rfl | rfl | rfl | rfl | rfl | rfl | rfl | rfl | rfl | rfl | rfl | rfl | rfl | rfl | rfl | rfl | rfl | rfl | rfl | rfl | rfl | rfl | rfl | rfl | rfl | rfl | rfl | rfl | rfl | rfl | rfl | rfl | rfl | rfl | rfl | rfl | rfl | rfl | rfl | rfl | rfl | rfl
  · exact W2cx16
  · exact W2cx17
  · exact W2cx18
  · exact W2cx19
  · exact W2cx20
  · exact W2cx21
  · exact W2cx22
  · exact W2cx23
  · exact W2cx24
  · exact W2cx25
  · exact W2cx26
  · exact W2cx27
  · exact W2cx28
  · exact W2cx29
  · exact W2cx30
  · exact W2cx31
  · exact W2cx32
  · exact W2cx33
  · exact W2cx34
  · exact W2cx35
  · exact W2cx36
  · exact W2cx37
  · exact W2cx38
  · exact W2cx39
  · exact W2cx40
  · exact W2cx41
  · exact W2cx42
  · exact W2cx43
  · exact W2cx44
  · exact W2cx45
  · exact W2cx46
  · exact W2cx47
  · exact W2cx48
  · exact W2cx49
  · exact W2cx50
  · exact W2cx51
  · exact W2cx52
  · exact W2cx53
  · exact W2cx54
  · exact W2cx55
  · exact W2cx56
  · exact W2cx57
  · exact W2cx58
  · exact W2cx59
  · exact W2cx60
  · exact W2cx61
  · exact W2cx62
  · exact W2cx63
theorem W2eall (t : Nat) (h1 : 16 ≤ t) (h2 : t < 64) : W2e t := by
  have : t = 16 ∨ t = 17 ∨ t = 18 ∨ t = 19 ∨ t = 20 ∨ t = 21 ∨ t = 22 ∨ t = 23 ∨ t = 24 ∨ t = 25 ∨ t = 26 ∨ t = 27 ∨ t = 28 ∨ t = 29 ∨ t = 30 ∨ t = 31 ∨ t = 32 ∨ t = 33 ∨ t = 34 ∨ t = 35 ∨ t = 36 ∨ t = 37 ∨ t = 38 ∨ t = 39 ∨ t = 40 ∨ t = 41 ∨ t = 42 ∨ t = 43 ∨ t = 44 ∨ t = 45 ∨ t = 46 ∨ t = 47 ∨ t = 48 ∨ t = 49 ∨ t = 50 ∨ t = 51 ∨ t = 52 ∨ t = 53 ∨ t = 54 ∨ t = 55 ∨ t = 56 ∨ t = 57 ∨ t = 58 ∨ t = 59 ∨ t = 60 ∨ t = 61 ∨ t = 62 ∨ t = 63 := by omega
  rcases this with rfl | rfl | rfl | rfl | rfl | rfl | rfl | rfl | rfl | rfl | rfl | rfl | rfl | rfl | rfl | rfl | rfl | rfl | rfl | rfl | rfl | rfl | rfl | rfl | rfl | rfl | rfl | rfl | rfl | rfl | rfl | rfl | rfl | rfl | rfl | rfl | rfl | rfl | rfl | rfl | rfl | rfl | rfl | rfl | rfl | rfl | rfl | rfl
  · exact W2ex16
  · exact W2ex17
  · exact W2ex18
  · exact W2ex19
  · exact W2ex20
  · exact W2ex21
  · exact W2ex22
  · exact W2ex23
  · exact W2ex24
  · exact W2ex25
  · exact W2ex26
  · exact W2ex27
  · exact W2ex28
  · exact W2ex29
  · exact W2ex30
  · exact W2ex31
  · exact W2ex32
  · exact W2ex33
  · exact W2ex34
  · exact W2ex35
  · exact W2ex36
  · exact W2ex37
  · exact W2ex38
  · exact W2ex39
  · exact W2ex40
  · exact W2ex41
  · exact W2ex42
  · exact W2ex43
  · exact W2ex44
  · exact W2ex45
  · exact W2ex46
  · exact W2ex47
  · exact W2ex48
  · exact W2ex49
  · exact W2ex50
  · exact W2ex51
  · exact W2ex52
  · exact W2ex53
  · exact W2ex54
  · exact W2ex55
  · exact W2ex56
  · exact W2ex57
  · exact W2ex58
  · exact W2ex59
  · exact W2ex60
  · exact W2ex61
  · exact W2ex62
  · exact W2ex63
theorem W2dall (t : Nat) (h1 : 16 ≤ t) (h2 : t < 64) : W2d t (t - 7) (t - 16) (psD t (t - 7) (t - 16)) := by
  have : t = 16 ∨ t = 17 ∨ t = 18 ∨ t = 19 ∨ t = 20 ∨ t = 21 ∨ t = 22 ∨ t = 23 ∨ t = 24 ∨ t = 25 ∨ t = 26 ∨ t = 27 ∨ t = 28 ∨ t = 29 ∨ t = 30 ∨ t = 31 ∨ t = 32 ∨ t = 33 ∨ t = 34 ∨ t = 35 ∨ t = 36 ∨ t = 37 ∨ t = 38 ∨ t = 39 ∨ t = 40 ∨ t = 41 ∨ t = 42 ∨ t = 43 ∨ t = 44 ∨ t = 45 ∨ t = 46 ∨ t = 47 ∨ t = 48 ∨ t = 49 ∨ t = 50 ∨ t = 51 ∨ t = 52 ∨ t = 53 ∨ t = 54 ∨ t = 55 ∨ t = 56 ∨ t = 57 ∨ t = 58 ∨ t = 59 ∨ t = 60 ∨ t = 61 ∨ t = 62 ∨ t = 63 := by omega
  rcases this with rfl | rfl | rfl | rfl | rfl | rfl | rfl | rfl | rfl | rfl | rfl | rfl | rfl | rfl | rfl | rfl | rfl | rfl | rfl | rfl | rfl | rfl | rfl | rfl | rfl | rfl | rfl | rfl | rfl | rfl | rfl | rfl | rfl | rfl | rfl | rfl | rfl | rfl | rfl | rfl | rfl | rfl | rfl | rfl | rfl | rfl | rfl | rfl
  · exact W2dx16
  · exact W2dx17
  · exact W2dx18
  · exact W2dx19
  · exact W2dx20
  · exact W2dx21
  · exact W2dx22
  · exact W2dx23
  · exact W2dx24
  · exact W2dx25
  · exact W2dx26
  · exact W2dx27
  · exact W2dx28
  · exact W2dx29
  · exact W2dx30
  · exact W2dx31
  · exact W2dx32
  · exact W2dx33
  · exact W2dx34
  · exact W2dx35
  · exact W2dx36
  · exact W2dx37
  · exact W2dx38
  · exact W2dx39
  · exact W2dx40
  · exact W2dx41
  · exact W2dx42
  · exact W2dx43
  · exact W2dx44
  · exact W2dx45
  · exact W2dx46
  · exact W2dx47
  · exact W2dx48
  · exact W2dx49
  · exact W2dx50
  · exact W2dx51
  · exact W2dx52
  · exact W2dx53
  · exact W2dx54
  · exact W2dx55
  · exact W2dx56
  · exact W2dx57
  · exact W2dx58
  · exact W2dx59
  · exact W2dx60
  · exact W2dx61
  · exact W2dx62
  · exact W2dx63

theorem tr26 {ids : List Nat} {c : Code} {fr fr1 : Fr} {st st1 : St} {ex : Ex} {ps : PL} (h : ev26 ids c fr st = some (ex, fr1, st1, ps)) (ha : AllEq ps) : Tr Tryd.prog 1 c fr st ex fr1 st1 :=
  Tr.of_evK callR_ok follows_mix h ha
theorem updN_upd (W : Nat → Nat) (t a b : Nat) : updN (updN W t a) t b = updN W t b := by
  funext i; unfold updN; cases Nat.beq i t <;> rfl
theorem updN_at (W : Nat → Nat) (t a : Nat) : updN W t a t = a := by unfold updN; rw [beq_iff.2 rfl]
theorem updN_ne (W : Nat → Nat) (t a i : Nat) (h : i ≠ t) : updN W t a i = W i := by
  unfold updN
  cases hb : Nat.beq i t with
  | false => rfl
  | true => exact absurd (beq_iff.1 hb) h
theorem wl0_tr (r : Nat → Nat) (m cap : Nat) : ∀ k t, t + k = 16 → Tr Tryd.prog 1 wl0 (fw0 cap t) (wSt (ldR m t) m r) (.exit 0) fwE (wSt (ldR m 16) m r) := by
  intro k
  induction k with
  | zero => intro t ht; have : t = 16 := by omega
            subst this; exact .loopCX wshape.1 (by simp) (tr26 (w_d ..) trivial)
  | succ k ih =>
    intro t ht
    have h := W0all t (by omega) (by omega) (ldR m t) r m cap
    rw [wSall t (by omega) (by omega)] at h
    exact .loopC wshape.1 (tr26 h trivial) (ih (t + 1) (by omega))
theorem wturn (W r : Nat → Nat) (m t : Nat) (h1 : 16 ≤ t) (h2 : t < 64) : Tr Tryd.prog 1 wb2 (fw2 t []) (wSt W m r) .normal (fw2 (t + 1) []) (wSt (updN W t (exw W t)) m r) := by
  refine .seqC wshape.2.2.1 (tr26 (W2aall t h1 h2 W r m) trivial) (.seqC wshape.2.2.2.1 (fr1 := fw2 t []) (st1 := wSt (updN W t (exw W t)) m r) ?_ (tr26 (W2eall t h1 h2 _ r m) trivial))
  refine .blockN wshape.2.2.2.2.1 ?_
  refine .seqC wshape.2.2.2.2.2.1 (tr26 (W2ball t h1 h2 W r m) trivial) ?_
  have hc := W2call t h1 h2 W r m (W (t - 15)) (W (t - 2))
  rw [wSall t (by omega) (by omega)] at hc
  refine .seqC wshape.2.2.2.2.2.2 (tr26 hc trivial) ?_
  have h := W2dall t h1 h2 (updN W t (sg1 (W (t - 2)))) r m (W (t - 15))
  rw [wSall t (by omega) (by omega), updN_upd, updN_at, updN_ne _ _ _ (t - 7) (by omega), updN_ne _ _ _ (t - 16) (by omega)] at h
  exact tr26 h ⟨rfl, rfl, rfl, rfl, rfl, rfl, trivial⟩
theorem wl2_tr (W r : Nat → Nat) (m : Nat) : ∀ k j, j + k = 48 → Tr Tryd.prog 1 wl2 (fw2 (16 + j) []) (wSt (exAll W j) m r) (.exit 2) fwE (wSt (exAll W 48) m r) := by
  intro k
  induction k with
  | zero => intro j hj; have : j = 48 := by omega
            subst this; exact .loopCX wshape.2.1 (by simp) (tr26 (w_f ..) trivial)
  | succ k ih => intro j hj; exact .loopC wshape.2.1 (wturn (exAll W j) r m (16 + j) (by omega) (by omega)) (ih (j + 1) (by omega))
theorem body26 (m cap : Nat) : Tr Tryd.prog 1 b26 (mkFr 94 [.slice 1 0 64 cap 0]) (wSt0 m) .ret (frOf 94 7 [(2, .ptr 2 0)]) (wSt (exAll (ldR m 16) 48) m (exAll (ldR m 16) 48)) := by
  refine .seqC wshapeD.1 (tr26 (w_a m cap) trivial) ?_
  refine .seqC wshapeD.2.1 (tr26 (w_b m cap) trivial) ?_
  refine .seqC wshapeD.2.2.1 (.seqC wshapeD.2.2.2.2.1 (tr26 (w_c m cap _ _) trivial) (.blockC wshapeD.2.2.2.2.2.1 (wl0_tr _ m cap 16 0 rfl))) ?_
  refine .seqC wshapeD.2.2.2.1 (.seqC wshapeD.2.2.2.2.2.2.1 (tr26 (w_e m _ _) trivial) (.blockC wshapeD.2.2.2.2.2.2.2 (wl2_tr (ldR m 16) _ m 48 0 rfl))) ?_
  exact tr26 (w_g m _ _) trivial
theorem lor_add (x b : Nat) (h : b < 256) : Nat.lor (x * 256) b = x * 256 + b := by
  have := Nat.two_pow_add_eq_or_of_lt (i := 8) (b := b) (by simpa using h) x
  rw [Nat.mul_comm x 256]
  exact this.symm
theorem ldw_ldr (W : Nat → Nat) (m t : Nat) (h : W t = 0) : ldw W m t = ldr m t := by
  have h0 := byte_lt m (4 * t)
  have h1 := byte_lt m (4 * t + 1)
  have h2 := byte_lt m (4 * t + 2)
  have h3 := byte_lt m (4 * t + 3)
  unfold ldw ldr ldq
  rw [h]
  generalize byte m (4 * t) = a at *
  generalize byte m (4 * t + 1) = b at *
  generalize byte m (4 * t + 2) = c at *
  generalize byte m (4 * t + 3) = d at *
  have e1 : O32 (L8 0) (V32 a) = a := by
    show (Nat.lor (0 * 256 % 4294967296) (a % 4294967296)) % 4294967296 = a
    rw [Nat.mod_eq_of_lt (show a < 4294967296 by omega), show 0 * 256 % 4294967296 = 0 * 256 by rfl, lor_add 0 a h0]; omega
  have e2 : ∀ x y, x < 65536 * 256 → y < 256 → O32 (L8 x) (V32 y) = x * 256 + y := by
    intro x y hx hy
    show (Nat.lor (x * 256 % 4294967296) (y % 4294967296)) % 4294967296 = _
    rw [Nat.mod_eq_of_lt (show y < 4294967296 by omega), Nat.mod_eq_of_lt (show x * 256 < 4294967296 by omega), lor_add x y hy]; omega
  rw [e1, e2 a b (by omega) h1, e2 (a * 256 + b) c (by omega) h2, e2 ((a * 256 + b) * 256 + c) d (by omega) h3]
  show _ = ((((a % 4294967296) * 16777216 % 4294967296 + (b % 4294967296) * 65536 % 4294967296) % 4294967296 + (c % 4294967296) * 256 % 4294967296) % 4294967296 + d % 4294967296) % 4294967296
  omega
theorem ldR_zero (m : Nat) : ∀ t i, t ≤ i → ldR m t i = 0 := by
  intro t
  induction t with
  | zero => intro i _; rfl
  | succ t ih => intro i hi; show updN _ _ _ _ = _; rw [updN_ne _ _ _ _ (by omega)]; exact ih i (by omega)
theorem ldR_eq (m : Nat) : ∀ t, ldR m t = ldAll m t := by
  intro t
  induction t with
  | zero => rfl
  | succ t ih => show updN (ldR m t) t (ldr m t) = updN (ldAll m t) t (ldw (ldAll m t) m t); rw [← ih, ldw_ldr _ _ _ (ldR_zero m t t (Nat.le_refl _))]
theorem ntmps26 : Tryd.f26.ntmps = 94 := by kernel_rfl
theorem body26_is : Tryd.f26.body = some b26 := by kernel_rfl
theorem wSt0_roA (m : Nat) : ((wSt0 m).heap.get 0).writable = false := by kernel_rfl
theorem wSt0_roB (m : Nat) : ((wSt0 m).heap.get 1).writable = false := by kernel_rfl
theorem wSt0_g0 (m : Nat) : (wSt0 m).heap.get 0 = .dead := by kernel_rfl
theorem wSt0_g1 (m : Nat) : (wSt0 m).heap.get 1 = .bytes false 64 m := by kernel_rfl

theorem words_calls (w : World) (A : Option Addr) (c : Nat) (l : List UInt8) (hl : l.length = 64) (hc : 64 ≤ c) (hr : Rd w w.heap.size A l) :
    Calls Tryd.prog 26 #[.slice A 64 c] w fun e w' => e = .returned (aggV 64 (wAll (packB l))) ∧ Below w.heap.size w w' := by
  obtain ⟨b, o, rfl, hbB, hcell⟩ := hr (by rintro rfl; simp at hl)
  obtain ⟨C1, e1, fz1, hb1, _⟩ := block_of_cell (hcell 0 (by omega))
  have hC1 : ∀ k (hk : k < l.length), C1[o + k]? = some (u8V l[k]) := by
    intro k hk
    have := hcell k hk
    simpa [World.cell?, hb1] using this
  have hsz1 : o + 64 ≤ C1.size := by
    have := hC1 63 (by omega)
    have := (Array.getElem?_eq_some_iff.1 this).1; omega
  let ρ : Ren := fun i => if i = 0 then some ⟨0, 0, 0⟩ else if i = 1 then some ⟨b, o, C1.size⟩ else none
  have hro : ∀ i, i < 2 → ((wSt0 (packB l)).heap.get i).writable = false := by
    intro i hi
    have : i = 0 ∨ i = 1 := by omega
    rcases this with rfl | rfl
    · exact wSt0_roA _
    · exact wSt0_roB _
  have hR : Rel ρ (wSt0 (packB l)) w := by
    refine ⟨(T.Ok_full 3 _).set 1 _, (show (2 : Nat) ≤ 2 ^ 3 by decide), ?_, ?_, ?_⟩
    · intro i hi
      have hi' : 2 ≤ i := hi
      simp only [ρ]
      rw [if_neg (by omega), if_neg (by omega)]
    · intro i hi hlv
      have hi' : i < 2 := hi
      have : i = 0 ∨ i = 1 := by omega
      rcases this with rfl | rfl
      · rw [wSt0_g0] at hlv; cases hlv
      · refine ⟨⟨b, o, C1.size⟩, _, rfl, hb1, ?_⟩
        rw [wSt0_g1]
        refine ⟨C1, e1, fz1, rfl, hsz1, Nat.le_refl _, ?_, by intro h; cases h⟩
        intro k hk
        have hk' : k < l.length := by omega
        rw [hC1 k hk', byteV, byte_packB l k hk']
    · intro i j L M hi hj _ _ hw
      rw [hro j hj] at hw; cases hw
  have hG : Glob ρ 1 := fun g hg => by
    obtain rfl : g = 0 := by omega
    exact ⟨0, rfl⟩
  have hA : VRs ρ [.slice 1 0 64 c 0] (#[.slice (some ⟨b, o, none⟩) 64 c] : Array Value).toList :=
    .cons (VR.slice 1 0 64 c 0 c ⟨b, o, C1.size⟩ rfl (by omega) hc (fun _ => rfl) (fun h => absurd rfl h)) .nil
  have hcalls := calls_of_Tr (f := 26) Tryd.func26 body26_is (args := [.slice 1 0 64 c 0]) (by rw [ntmps26]; show (1 : Nat) ≤ 94; omega) (by rw [ntmps26]; decide) (by rw [ntmps26]; exact body26 (packB l) c) (.inr rfl) (w_res _ _ _) hR hG hA
  refine hcalls.mono ?_
  rintro e w' ⟨vc, ρ', rfl, hv, hg⟩
  refine ⟨?_, below_of_Wx (hg.Wx fun i hi => hro i hi)⟩
  rw [ldR_eq] at hv
  have hv' : VR ρ' (.agg (row32 64 (wAll (packB l)))) vc := hv
  generalize wAll (packB l) = g at hv' ⊢
  cases hv' with | agg _ x ha =>
  have := VRs_ints g .u32 (List.range 64) _ ha
  obtain ⟨al⟩ := x
  simp only at this
  subst this
  rfl
end
end Go.Ev
