/-
  chanceryref28.Sum: its loop over the blocks, and what follows.
-/
import Derived.Test.YtiibpjahmhemmaaDoorZtrim
namespace Go.Ev
open Go Go.Proofs Go.RowKit Go.Proofs.YtiibpjahmhemmaaDoor
set_option maxRecDepth 100000
noncomputable section

def wordsF (args : List AV) (st : St) : Option (AV × St) := match args with
  | [.slice i off 64 cap 0] => match st.obj i with
    | .bytes _ sz m => bif Nat.ble (off + 64) sz && Nat.ble 64 cap then some (.agg (row32 64 (wAll (cutB m off 64))), st) else none
    | _ => none
  | _ => none
def callW : CallF := fun f args st => match f with
  | 26 => wordsF args st
  | f => callR f args st
noncomputable def b9 : Code := bodyOf Tryd.prog 9
noncomputable def d9 (n : Nat) : Code := Nat.rec (motive := fun _ => Code) b9 (fun _ c => cB c) n
noncomputable def sl3 : Code := cA (cB (cA (d9 7)))
noncomputable def sb3 : Code := cA sl3
noncomputable def sk5 : Code := cA (cB sb3)
noncomputable def si5 : Code := cA sk5
noncomputable def s18 : Code := cA (cB (cB si5))
noncomputable def s25 : Code := cB (cB (cB si5))
noncomputable def sl4 : Code := cA (cB s18)
noncomputable def sb4 : Code := cA sl4
noncomputable def sk7 : Code := cA (cB sb4)
noncomputable def si7 : Code := cA sk7
noncomputable def sl5 : Code := cA (cB s25)
def sHeap (h K : Nat → Nat) (N M : Nat) : T AO := ((((T.full 4 .dead).set 1 (mkCells zero32)).set 2 (mkCells (row32 8 h))).set 3 (mkCells (row32 64 K))).set 4 (.bytes false N M)
def sSt (h K : Nat → Nat) (N M : Nat) : St := ⟨sHeap h K N M, 4, 5⟩
def jSt (h K : Nat → Nat) (N M : Nat) (W : Nat → Nat) : St := ⟨(sHeap h K N M).set 5 (mkCells (row32 64 W)), 4, 6⟩
def iSt (h K : Nat → Nat) (N M : Nat) (W v : Nat → Nat) : St := ⟨((sHeap h K N M).set 5 (mkCells (row32 64 W))).set 6 (mkCells (row32 8 v)), 4, 7⟩
def iStV (h K : Nat → Nat) (N M : Nat) (W v : Nat → Nat) (l : List AV) : St := (iSt h K N M W v).put 6 (.cells true 8 3 (((T.full 3 .top).setL 0 (row32 8 v)).setL 0 l))
def iStH (h K : Nat → Nat) (N M : Nat) (W v : Nat → Nat) (i x : Nat) : St := (iSt h K N M W v).put 2 (.cells true 8 3 (((T.full 3 .top).setL 0 (row32 8 h)).setL i [u32A x]))
def sB (N ca a : Nat) : List (Nat × AV) := [(2, .ptr 1 0), (4, .ptr 2 0), (5, .ptr 3 0), (8, .slice 4 0 N ca 0), (9, i64A a)]
def sBi : List Nat := [2, 4, 5, 8, 9]
def sF (N ca a : Nat) (l : List (Nat × AV)) : Fr := frOf 171 8 (sB N ca a ++ l)
def wv : List (Nat × AV) := [(10, .ptr 5 0), (11, .ptr 6 0)]
def ev9 (ids : List Nat) (c : Code) (fr : Fr) (st : St) : Option (Ex × Fr × St × PL) := evK Tryd.prog callW 60 ids c fr st
def pp (x : Nat) : AV × AV := (u32A x, u32A x)
def psC (kt wt v5 v6 v7 : Nat) : PL := [pp v7, pp v7, pp v7, pp v5, pp v5, pp v5, pp v6, pp v6, pp v6, pp kt, pp kt, pp kt, pp wt, pp wt, pp wt]
def psE (v1 v2 : Nat) : PL := [pp v1, pp v1, pp v1, pp v2, pp v2, pp v2, pp v1, pp v1, pp v1, pp v2, pp v2, pp v2]
def R4a (t : Nat) : Prop := ∀ (h K W v : Nat → Nat) (N M ca a : Nat), ev9 (sBi ++ [10, 11, 12]) (cA sb4) (sF N ca a (wv ++ [(12, i64A t)])) (iSt h K N M W v) = some (.normal, sF N ca a (wv ++ [(12, i64A t)]), iSt h K N M W v, [])
def R4b (t : Nat) : Prop := ∀ (h K W v : Nat → Nat) (N M ca a : Nat), ev9 (sBi ++ [10, 11, 12, 13, 14]) (cA si7) (sF N ca a (wv ++ [(12, i64A t)])) (iSt h K N M W v) = some (.normal, sF N ca a (wv ++ [(12, i64A t), (13, u32A (v 4)), (14, u32A (v 0))]), iSt h K N M W v, [])
def R4c (t : Nat) : Prop := ∀ (h K W v : Nat → Nat) (N M ca a e y : Nat), ev9 (sBi ++ [10, 11, 12, 14, 15]) (cA (cB si7)) (sF N ca a (wv ++ [(12, i64A t), (13, u32A e), (14, u32A y)])) (iSt h K N M W v) = some (.normal, sF N ca a (wv ++ [(12, i64A t), (14, u32A y), (15, u32A (one8 (K t) (W t) e (v 5) (v 6) (v 7)))]), iSt h K N M W v, psC (K t) (W t) (v 5) (v 6) (v 7))
def R4d (t : Nat) : Prop := ∀ (h K W v : Nat → Nat) (N M ca a y o : Nat), ev9 (sBi ++ [10, 11, 12, 15, 16]) (cA (cB (cB si7))) (sF N ca a (wv ++ [(12, i64A t), (14, u32A y), (15, u32A o)])) (iSt h K N M W v) = some (.normal, sF N ca a (wv ++ [(12, i64A t), (15, u32A o), (16, u32A (two8 y (v 1) (v 2)))]), iSt h K N M W v, psE (v 1) (v 2))
def vL (o w : Nat) (v : Nat → Nat) : List AV := [u32A (A32 o w), u32A (v 0), u32A (v 1), u32A (v 2), u32A (A32 (v 3) o), u32A (v 4), u32A (v 5), u32A (v 6)]
def R4e (t : Nat) : Prop := ∀ (h K W v : Nat → Nat) (N M ca a o w : Nat), ev9 (sBi ++ [10, 11, 12]) (cB (cB (cB si7))) (sF N ca a (wv ++ [(12, i64A t), (15, u32A o), (16, u32A w)])) (iSt h K N M W v) = some (.normal, sF N ca a (wv ++ [(12, i64A t)]), iStV h K N M W v (vL o w v), [])
def R4f (t : Nat) : Prop := ∀ (h K W v : Nat → Nat) (N M ca a : Nat), ev9 (sBi ++ [10, 11, 12]) (cB (cB sb4)) (sF N ca a (wv ++ [(12, i64A t)])) (iSt h K N M W v) = some (.normal, sF N ca a (wv ++ [(12, i64A (t + 1))]), iSt h K N M W v, [])
def R5 (i : Nat) : Prop := ∀ (h K W v : Nat → Nat) (N M ca a : Nat), ev9 (sBi ++ [10, 11, 17]) (cA sl5) (sF N ca a (wv ++ [(17, i64A i)])) (iSt h K N M W v) = some (.normal, sF N ca a (wv ++ [(17, i64A (i + 1))]), iStH h K N M W v i (A32 (h i) (v i)), [])
theorem vV (h K W v : Nat → Nat) (N M a b c d e f g k : Nat) : iStV h K N M W v [u32A a, u32A b, u32A c, u32A d, u32A e, u32A f, u32A g, u32A k] = iSt h K N M W (S8.get ⟨a, b, c, d, e, f, g, k⟩) := by kernel_rfl
def vHP (i : Nat) : Prop := ∀ (h K W v : Nat → Nat) (N M x : Nat), iStH h K N M W v i x = iSt (updN h i x) K N M W v
theorem r17 (h K W : Nat → Nat) (N M ca a : Nat) : ev9 (sBi ++ [10, 11]) (cA (cB si5)) (sF N ca a [(10, .ptr 5 0)]) (jSt h K N M W) = some (.normal, sF N ca a wv, iSt h K N M W h, []) := by kernel_rfl
theorem r18 (h K W v : Nat → Nat) (N M ca a : Nat) : ev9 (sBi ++ [10, 11, 12]) (cA s18) (sF N ca a wv) (iSt h K N M W v) = some (.normal, sF N ca a (wv ++ [(12, i64A 0)]), iSt h K N M W v, []) := by kernel_rfl
theorem r4end (h K W v : Nat → Nat) (N M ca a : Nat) : ev9 (sBi ++ [10, 11]) (cA sl4) (sF N ca a (wv ++ [(12, i64A 64)])) (iSt h K N M W v) = some (.exit 6, sF N ca a wv, iSt h K N M W v, []) := by kernel_rfl
theorem r25 (h K W v : Nat → Nat) (N M ca a : Nat) : ev9 (sBi ++ [10, 11, 17]) (cA s25) (sF N ca a wv) (iSt h K N M W v) = some (.normal, sF N ca a (wv ++ [(17, i64A 0)]), iSt h K N M W v, []) := by kernel_rfl
theorem r5end (h K W v : Nat → Nat) (N M ca a : Nat) : ev9 sBi (cA sl5) (sF N ca a (wv ++ [(17, i64A 8)])) (iSt h K N M W v) = some (.exit 8, sF N ca a [], iSt h K N M W v, []) := by kernel_rfl
theorem R4ax0 : R4a 0 := by unfold R4a; intros; kernel_rfl
theorem R4bx0 : R4b 0 := by unfold R4b; intros; kernel_rfl
theorem R4cx0 : R4c 0 := by unfold R4c; intros; kernel_rfl
theorem R4dx0 : R4d 0 := by unfold R4d; intros; kernel_rfl
theorem R4ex0 : R4e 0 := by unfold R4e; intros; kernel_rfl
theorem R4fx0 : R4f 0 := by unfold R4f; intros; kernel_rfl
theorem R4ax1 : R4a 1 := by unfold R4a; intros; kernel_rfl
theorem R4bx1 : R4b 1 := by unfold R4b; intros; kernel_rfl
theorem R4cx1 : R4c 1 := by unfold R4c; intros; kernel_rfl
theorem R4dx1 : R4d 1 := by unfold R4d; intros; kernel_rfl
theorem R4ex1 : R4e 1 := by unfold R4e; intros; kernel_rfl
theorem R4fx1 : R4f 1 := by unfold R4f; intros; kernel_rfl
theorem R4ax2 : R4a 2 := by unfold R4a; intros; kernel_rfl
theorem R4bx2 : R4b 2 := by unfold R4b; intros; kernel_rfl
theorem R4cx2 : R4c 2 := by unfold R4c; intros; kernel_rfl
theorem R4dx2 : R4d 2 := by unfold R4d; intros; kernel_rfl
theorem R4ex2 : R4e 2 := by unfold R4e; intros; kernel_rfl
theorem R4fx2 : R4f 2 := by unfold R4f; intros; kernel_rfl
theorem R4ax3 : R4a 3 := by unfold R4a; intros; kernel_rfl
theorem R4bx3 : R4b 3 := by unfold R4b; intros; kernel_rfl
theorem R4cx3 : R4c 3 := by unfold R4c; intros; kernel_rfl
theorem R4dx3 : R4d 3 := by unfold R4d; intros; kernel_rfl
theorem R4ex3 : R4e 3 := by unfold R4e; intros; kernel_rfl
theorem R4fx3 : R4f 3 := by unfold R4f; intros; kernel_rfl
theorem R4ax4 : R4a 4 := by unfold R4a; intros; kernel_rfl
theorem R4bx4 : R4b 4 := by unfold R4b; intros; kernel_rfl
theorem R4cx4 : R4c 4 := by unfold R4c; intros; kernel_rfl
theorem R4dx4 : R4d 4 := by unfold R4d; intros; kernel_rfl
theorem R4ex4 : R4e 4 := by unfold R4e; intros; kernel_rfl
theorem R4fx4 : R4f 4 := by unfold R4f; intros; kernel_rfl
theorem R4ax5 : R4a 5 := by unfold R4a; intros; kernel_rfl
theorem R4bx5 : R4b 5 := by unfold R4b; intros; kernel_rfl
theorem R4cx5 : R4c 5 := by unfold R4c; intros; kernel_rfl
theorem R4dx5 : R4d 5 := by unfold R4d; intros; kernel_rfl
theorem R4ex5 : R4e 5 := by unfold R4e; intros; kernel_rfl
theorem R4fx5 : R4f 5 := by unfold R4f; intros; kernel_rfl
theorem R4ax6 : R4a 6 := by unfold R4a; intros; kernel_rfl
theorem R4bx6 : R4b 6 := by unfold R4b; intros; kernel_rfl
theorem R4cx6 : R4c 6 := by unfold R4c; intros; kernel_rfl
theorem R4dx6 : R4d 6 := by unfold R4d; intros; kernel_rfl
theorem R4ex6 : R4e 6 := by unfold R4e; intros; kernel_rfl
theorem R4fx6 : R4f 6 := by unfold R4f; intros; kernel_rfl
theorem R4ax7 : R4a 7 := by unfold R4a; intros; kernel_rfl
theorem R4bx7 : R4b 7 := by unfold R4b; intros; kernel_rfl
theorem R4cx7 : R4c 7 := by unfold R4c; intros; kernel_rfl
theorem R4dx7 : R4d 7 := by unfold R4d; intros; kernel_rfl
theorem R4ex7 : R4e 7 := by unfold R4e; intros; kernel_rfl
theorem R4fx7 : R4f 7 := by unfold R4f; intros; kernel_rfl
theorem R4ax8 : R4a 8 := by unfold R4a; intros; kernel_rfl
theorem R4bx8 : R4b 8 := by unfold R4b; intros; kernel_rfl
theorem R4cx8 : R4c 8 := by unfold R4c; intros; kernel_rfl
theorem R4dx8 : R4d 8 := by unfold R4d; intros; kernel_rfl
theorem R4ex8 : R4e 8 := by unfold R4e; intros; kernel_rfl
theorem R4fx8 : R4f 8 := by unfold R4f; intros; kernel_rfl
theorem R4ax9 : R4a 9 := by unfold R4a; intros; kernel_rfl
theorem R4bx9 : R4b 9 := by unfold R4b; intros; kernel_rfl
theorem R4cx9 : R4c 9 := by unfold R4c; intros; kernel_rfl
theorem R4dx9 : R4d 9 := by unfold R4d; intros; kernel_rfl
theorem R4ex9 : R4e 9 := by unfold R4e; intros; kernel_rfl
theorem R4fx9 : R4f 9 := by unfold R4f; intros; kernel_rfl
theorem R4ax10 : R4a 10 := by unfold R4a; intros; kernel_rfl
theorem R4bx10 : R4b 10 := by unfold R4b; intros; kernel_rfl
theorem R4cx10 : R4c 10 := by unfold R4c; intros; kernel_rfl
theorem R4dx10 : R4d 10 := by unfold R4d; intros; kernel_rfl
theorem R4ex10 : R4e 10 := by unfold R4e; intros; kernel_rfl
theorem R4fx10 : R4f 10 := by unfold R4f; intros; kernel_rfl
theorem R4ax11 : R4a 11 := by unfold R4a; intros; kernel_rfl
theorem R4bx11 : R4b 11 := by unfold R4b; intros; kernel_rfl
theorem R4cx11 : R4c 11 := by unfold R4c; intros; kernel_rfl
theorem R4dx11 : R4d 11 := by unfold R4d; intros; kernel_rfl
theorem R4ex11 : R4e 11 := by unfold R4e; intros; kernel_rfl
theorem R4fx11 : R4f 11 := by unfold R4f; intros; kernel_rfl
theorem R4ax12 : R4a 12 := by unfold R4a; intros; kernel_rfl
theorem R4bx12 : R4b 12 := by unfold R4b; intros; kernel_rfl
theorem R4cx12 : R4c 12 := by unfold R4c; intros; kernel_rfl
theorem R4dx12 : R4d 12 := by unfold R4d; intros; kernel_rfl
theorem R4ex12 : R4e 12 := by unfold R4e; intros; kernel_rfl
theorem R4fx12 : R4f 12 := by unfold R4f; intros; kernel_rfl
theorem R4ax13 : R4a 13 := by unfold R4a; intros; kernel_rfl
theorem R4bx13 : R4b 13 := by unfold R4b; intros; kernel_rfl
theorem R4cx13 : R4c 13 := by unfold R4c; intros; kernel_rfl
theorem R4dx13 : R4d 13 := by unfold R4d; intros; kernel_rfl
theorem R4ex13 : R4e 13 := by unfold R4e; intros; kernel_rfl
theorem R4fx13 : R4f 13 := by unfold R4f; intros; kernel_rfl
theorem R4ax14 : R4a 14 := by unfold R4a; intros; kernel_rfl
theorem R4bx14 : R4b 14 := by unfold R4b; intros; kernel_rfl
theorem R4cx14 : R4c 14 := by unfold R4c; intros; kernel_rfl
theorem R4dx14 : R4d 14 := by unfold R4d; intros; kernel_rfl
theorem R4ex14 : R4e 14 := by unfold R4e; intros; kernel_rfl
theorem R4fx14 : R4f 14 := by unfold R4f; intros; kernel_rfl
theorem R4ax15 : R4a 15 := by unfold R4a; intros; kernel_rfl
theorem R4bx15 : R4b 15 := by unfold R4b; intros; kernel_rfl
theorem R4cx15 : R4c 15 := by unfold R4c; intros; kernel_rfl
theorem R4dx15 : R4d 15 := by unfold R4d; intros; kernel_rfl
theorem R4ex15 : R4e 15 := by unfold R4e; intros; kernel_rfl
theorem R4fx15 : R4f 15 := by unfold R4f; intros; kernel_rfl
theorem R4ax16 : R4a 16 := by unfold R4a; intros; kernel_rfl
theorem R4bx16 : R4b 16 := by unfold R4b; intros; kernel_rfl
theorem R4cx16 : R4c 16 := by unfold R4c; intros; kernel_rfl
theorem R4dx16 : R4d 16 := by unfold R4d; intros; kernel_rfl
theorem R4ex16 : R4e 16 := by unfold R4e; intros; kernel_rfl
theorem R4fx16 : R4f 16 := by unfold R4f; intros; kernel_rfl
theorem R4ax17 : R4a 17 := by unfold R4a; intros; kernel_rfl
theorem R4bx17 : R4b 17 := by unfold R4b; intros; kernel_rfl
theorem R4cx17 : R4c 17 := by unfold R4c; intros; kernel_rfl
theorem R4dx17 : R4d 17 := by unfold R4d; intros; kernel_rfl
theorem R4ex17 : R4e 17 := by unfold R4e; intros; kernel_rfl
theorem R4fx17 : R4f 17 := by unfold R4f; intros; kernel_rfl
theorem R4ax18 : R4a 18 := by unfold R4a; intros; kernel_rfl
theorem R4bx18 : R4b 18 := by unfold R4b; intros; kernel_rfl
theorem R4cx18 : R4c 18 := by unfold R4c; intros; kernel_rfl
theorem R4dx18 : R4d 18 := by unfold R4d; intros; kernel_rfl
theorem R4ex18 : R4e 18 := by unfold R4e; intros; kernel_rfl
theorem R4fx18 : R4f 18 := by unfold R4f; intros; kernel_rfl
theorem R4ax19 : R4a 19 := by unfold R4a; intros; kernel_rfl
theorem R4bx19 : R4b 19 := by unfold R4b; intros; kernel_rfl
theorem R4cx19 : R4c 19 := by unfold R4c; intros; kernel_rfl
theorem R4dx19 : R4d 19 := by unfold R4d; intros; kernel_rfl
theorem R4ex19 : R4e 19 := by unfold R4e; intros; kernel_rfl
theorem R4fx19 : R4f 19 := by unfold R4f; intros; kernel_rfl
theorem R4ax20 : R4a 20 := by unfold R4a; intros; kernel_rfl
theorem R4bx20 : R4b 20 := by unfold R4b; intros; kernel_rfl
theorem R4cx20 : R4c 20 := by unfold R4c; intros; kernel_rfl
theorem R4dx20 : R4d 20 := by unfold R4d; intros; kernel_rfl
theorem R4ex20 : R4e 20 := by unfold R4e; intros; kernel_rfl
theorem R4fx20 : R4f 20 := by unfold R4f; intros; kernel_rfl
theorem R4ax21 : R4a 21 := by unfold R4a; intros; kernel_rfl
theorem R4bx21 : R4b 21 := by unfold R4b; intros; kernel_rfl
theorem R4cx21 : R4c 21 := by unfold R4c; intros; kernel_rfl
theorem R4dx21 : R4d 21 := by unfold R4d; intros; kernel_rfl
theorem R4ex21 : R4e 21 := by unfold R4e; intros; kernel_rfl
theorem R4fx21 : R4f 21 := by unfold R4f; intros; kernel_rfl
theorem R4ax22 : R4a 22 := by unfold R4a; intros; kernel_rfl
theorem R4bx22 : R4b 22 := by unfold R4b; intros; kernel_rfl
theorem R4cx22 : R4c 22 := by unfold R4c; intros; kernel_rfl
theorem R4dx22 : R4d 22 := by unfold R4d; intros; kernel_rfl
theorem R4ex22 : R4e 22 := by unfold R4e; intros; kernel_rfl
theorem R4fx22 : R4f 22 := by unfold R4f; intros; kernel_rfl
theorem R4ax23 : R4a 23 := by unfold R4a; intros; kernel_rfl
theorem R4bx23 : R4b 23 := by unfold R4b; intros; kernel_rfl
theorem R4cx23 : R4c 23 := by unfold R4c; intros; kernel_rfl
theorem R4dx23 : R4d 23 := by unfold R4d; intros; kernel_rfl
theorem R4ex23 : R4e 23 := by unfold R4e; intros; kernel_rfl
theorem R4fx23 : R4f 23 := by unfold R4f; intros; kernel_rfl
theorem R4ax24 : R4a 24 := by unfold R4a; intros; kernel_rfl
theorem R4bx24 : R4b 24 := by unfold R4b; intros; kernel_rfl
theorem R4cx24 : R4c 24 := by unfold R4c; intros; kernel_rfl
theorem R4dx24 : R4d 24 := by unfold R4d; intros; kernel_rfl
theorem R4ex24 : R4e 24 := by unfold R4e; intros; kernel_rfl
theorem R4fx24 : R4f 24 := by unfold R4f; intros; kernel_rfl
theorem R4ax25 : R4a 25 := by unfold R4a; intros; kernel_rfl
theorem R4bx25 : R4b 25 := by unfold R4b; intros; kernel_rfl
theorem R4cx25 : R4c 25 := by unfold R4c; intros; kernel_rfl
theorem R4dx25 : R4d 25 := by unfold R4d; intros; kernel_rfl
theorem R4ex25 : R4e 25 := by unfold R4e; intros; kernel_rfl
theorem R4fx25 : R4f 25 := by unfold R4f; intros; kernel_rfl
theorem R4ax26 : R4a 26 := by unfold R4a; intros; kernel_rfl
theorem R4bx26 : R4b 26 := by unfold R4b; intros; kernel_rfl
theorem R4cx26 : R4c 26 := by unfold R4c; intros; kernel_rfl
theorem R4dx26 : R4d 26 := by unfold R4d; intros; kernel_rfl
theorem R4ex26 : R4e 26 := by unfold R4e; intros; kernel_rfl
theorem R4fx26 : R4f 26 := by unfold R4f; intros; kernel_rfl
theorem R4ax27 : R4a 27 := by unfold R4a; intros; kernel_rfl
theorem R4bx27 : R4b 27 := by unfold R4b; intros; kernel_rfl
theorem R4cx27 : R4c 27 := by unfold R4c; intros; kernel_rfl
theorem R4dx27 : R4d 27 := by unfold R4d; intros; kernel_rfl
theorem R4ex27 : R4e 27 := by unfold R4e; intros; kernel_rfl
theorem R4fx27 : R4f 27 := by unfold R4f; intros; kernel_rfl
theorem R4ax28 : R4a 28 := by unfold R4a; intros; kernel_rfl
theorem R4bx28 : R4b 28 := by unfold R4b; intros; kernel_rfl
theorem R4cx28 : R4c 28 := by unfold R4c; intros; kernel_rfl
theorem R4dx28 : R4d 28 := by unfold R4d; intros; kernel_rfl
theorem R4ex28 : R4e 28 := by unfold R4e; intros; kernel_rfl
theorem R4fx28 : R4f 28 := by unfold R4f; intros; kernel_rfl
theorem R4ax29 : R4a 29 := by unfold R4a; intros; kernel_rfl
theorem R4bx29 : R4b 29 := by unfold R4b; intros; kernel_rfl
theorem R4cx29 : R4c 29 := by unfold R4c; intros; kernel_rfl
theorem R4dx29 : R4d 29 := by unfold R4d; intros; kernel_rfl
theorem R4ex29 : R4e 29 := by unfold R4e; intros; kernel_rfl
theorem R4fx29 : R4f 29 := by unfold R4f; intros; kernel_rfl
theorem R4ax30 : R4a 30 := by unfold R4a; intros; kernel_rfl
theorem R4bx30 : R4b 30 := by unfold R4b; intros; kernel_rfl
theorem R4cx30 : R4c 30 := by unfold R4c; intros; kernel_rfl
theorem R4dx30 : R4d 30 := by unfold R4d; intros; kernel_rfl
theorem R4ex30 : R4e 30 := by unfold R4e; intros; kernel_rfl
theorem R4fx30 : R4f 30 := by unfold R4f; intros; kernel_rfl
theorem R4ax31 : R4a 31 := by unfold R4a; intros; kernel_rfl
theorem R4bx31 : R4b 31 := by unfold R4b; intros; kernel_rfl
theorem R4cx31 : R4c 31 := by unfold R4c; intros; kernel_rfl
theorem R4dx31 : R4d 31 := by unfold R4d; intros; kernel_rfl
theorem R4ex31 : R4e 31 := by unfold R4e; intros; kernel_rfl
theorem R4fx31 : R4f 31 := by unfold R4f; intros; kernel_rfl
theorem R4ax32 : R4a 32 := by unfold R4a; intros; kernel_rfl
theorem R4bx32 : R4b 32 := by unfold R4b; intros; kernel_rfl
theorem R4cx32 : R4c 32 := by unfold R4c; intros; kernel_rfl
theorem R4dx32 : R4d 32 := by unfold R4d; intros; kernel_rfl
theorem R4ex32 : R4e 32 := by unfold R4e; intros; kernel_rfl
theorem R4fx32 : R4f 32 := by unfold R4f; intros; kernel_rfl
theorem R4ax33 : R4a 33 := by unfold R4a; intros; kernel_rfl
theorem R4bx33 : R4b 33 := by unfold R4b; intros; kernel_rfl
theorem R4cx33 : R4c 33 := by unfold R4c; intros; kernel_rfl
theorem R4dx33 : R4d 33 := by unfold R4d; intros; kernel_rfl
theorem R4ex33 : R4e 33 := by unfold R4e; intros; kernel_rfl
theorem R4fx33 : R4f 33 := by unfold R4f; intros; kernel_rfl
theorem R4ax34 : R4a 34 := by unfold R4a; intros; kernel_rfl
theorem R4bx34 : R4b 34 := by unfold R4b; intros; kernel_rfl
theorem R4cx34 : R4c 34 := by unfold R4c; intros; kernel_rfl
theorem R4dx34 : R4d 34 := by unfold R4d; intros; kernel_rfl
theorem R4ex34 : R4e 34 := by unfold R4e; intros; kernel_rfl
theorem R4fx34 : R4f 34 := by unfold R4f; intros; kernel_rfl
theorem R4ax35 : R4a 35 := by unfold R4a; intros; kernel_rfl
theorem R4bx35 : R4b 35 := by unfold R4b; intros; kernel_rfl
theorem R4cx35 : R4c 35 := by unfold R4c; intros; kernel_rfl
theorem R4dx35 : R4d 35 := by unfold R4d; intros; kernel_rfl
theorem R4ex35 : R4e 35 := by unfold R4e; intros; kernel_rfl
theorem R4fx35 : R4f 35 := by unfold R4f; intros; kernel_rfl
theorem R4ax36 : R4a 36 := by unfold R4a; intros; kernel_rfl
theorem R4bx36 : R4b 36 := by unfold R4b; intros; kernel_rfl
theorem R4cx36 : R4c 36 := by unfold R4c; intros; kernel_rfl
theorem R4dx36 : R4d 36 := by unfold R4d; intros; kernel_rfl
theorem R4ex36 : R4e 36 := by unfold R4e; intros; kernel_rfl
theorem R4fx36 : R4f 36 := by unfold R4f; intros; kernel_rfl
theorem R4ax37 : R4a 37 := by unfold R4a; intros; kernel_rfl
theorem R4bx37 : R4b 37 := by unfold R4b; intros; kernel_rfl
theorem R4cx37 : R4c 37 := by unfold R4c; intros; kernel_rfl
theorem R4dx37 : R4d 37 := by unfold R4d; intros; kernel_rfl
theorem R4ex37 : R4e 37 := by unfold R4e; intros; kernel_rfl
theorem R4fx37 : R4f 37 := by unfold R4f; intros; kernel_rfl
theorem R4ax38 : R4a 38 := by unfold R4a; intros; kernel_rfl
theorem R4bx38 : R4b 38 := by unfold R4b; intros; kernel_rfl
theorem R4cx38 : R4c 38 := by unfold R4c; intros; kernel_rfl
theorem R4dx38 : R4d 38 := by unfold R4d; intros; kernel_rfl
theorem R4ex38 : R4e 38 := by unfold R4e; intros; kernel_rfl
theorem R4fx38 : R4f 38 := by unfold R4f; intros; kernel_rfl
theorem R4ax39 : R4a 39 := by unfold R4a; intros; kernel_rfl
theorem R4bx39 : R4b 39 := by unfold R4b; intros; kernel_rfl
theorem R4cx39 : R4c 39 := by unfold R4c; intros; kernel_rfl
theorem R4dx39 : R4d 39 := by unfold R4d; intros; kernel_rfl
theorem R4ex39 : R4e 39 := by unfold R4e; intros; kernel_rfl
theorem R4fx39 : R4f 39 := by unfold R4f; intros; kernel_rfl
theorem R4ax40 : R4a 40 := by unfold R4a; intros; kernel_rfl
theorem R4bx40 : R4b 40 := by unfold R4b; intros; kernel_rfl
theorem R4cx40 : R4c 40 := by unfold R4c; intros; kernel_rfl
theorem R4dx40 : R4d 40 := by unfold R4d; intros; kernel_rfl
theorem R4ex40 : R4e 40 := by unfold R4e; intros; kernel_rfl
theorem R4fx40 : R4f 40 := by unfold R4f; intros; kernel_rfl
theorem R4ax41 : R4a 41 := by unfold R4a; intros; kernel_rfl
theorem R4bx41 : R4b 41 := by unfold R4b; intros; kernel_rfl
theorem R4cx41 : R4c 41 := by unfold R4c; intros; kernel_rfl
theorem R4dx41 : R4d 41 := by unfold R4d; intros; kernel_rfl
theorem R4ex41 : R4e 41 := by unfold R4e; intros; kernel_rfl
theorem R4fx41 : R4f 41 := by unfold R4f; intros; kernel_rfl
theorem R4ax42 : R4a 42 := by unfold R4a; intros; kernel_rfl
theorem R4bx42 : R4b 42 := by unfold R4b; intros; kernel_rfl
theorem R4cx42 : R4c 42 := by unfold R4c; intros; kernel_rfl
theorem R4dx42 : R4d 42 := by unfold R4d; intros; kernel_rfl
theorem R4ex42 : R4e 42 := by unfold R4e; intros; kernel_rfl
theorem R4fx42 : R4f 42 := by unfold R4f; intros; kernel_rfl
theorem R4ax43 : R4a 43 := by unfold R4a; intros; kernel_rfl
theorem R4bx43 : R4b 43 := by unfold R4b; intros; kernel_rfl
theorem R4cx43 : R4c 43 := by unfold R4c; intros; kernel_rfl
theorem R4dx43 : R4d 43 := by unfold R4d; intros; kernel_rfl
theorem R4ex43 : R4e 43 := by unfold R4e; intros; kernel_rfl
theorem R4fx43 : R4f 43 := by unfold R4f; intros; kernel_rfl
theorem R4ax44 : R4a 44 := by unfold R4a; intros; kernel_rfl
theorem R4bx44 : R4b 44 := by unfold R4b; intros; kernel_rfl
theorem R4cx44 : R4c 44 := by unfold R4c; intros; kernel_rfl
theorem R4dx44 : R4d 44 := by unfold R4d; intros; kernel_rfl
theorem R4ex44 : R4e 44 := by unfold R4e; intros; kernel_rfl
theorem R4fx44 : R4f 44 := by unfold R4f; intros; kernel_rfl
theorem R4ax45 : R4a 45 := by unfold R4a; intros; kernel_rfl
theorem R4bx45 : R4b 45 := by unfold R4b; intros; kernel_rfl
theorem R4cx45 : R4c 45 := by unfold R4c; intros; kernel_rfl
theorem R4dx45 : R4d 45 := by unfold R4d; intros; kernel_rfl
theorem R4ex45 : R4e 45 := by unfold R4e; intros; kernel_rfl
theorem R4fx45 : R4f 45 := by unfold R4f; intros; kernel_rfl
theorem R4ax46 : R4a 46 := by unfold R4a; intros; kernel_rfl
theorem R4bx46 : R4b 46 := by unfold R4b; intros; kernel_rfl
theorem R4cx46 : R4c 46 := by unfold R4c; intros; kernel_rfl
theorem R4dx46 : R4d 46 := by unfold R4d; intros; kernel_rfl
theorem R4ex46 : R4e 46 := by unfold R4e; intros; kernel_rfl
theorem R4fx46 : R4f 46 := by unfold R4f; intros; kernel_rfl
theorem R4ax47 : R4a 47 := by unfold R4a; intros; kernel_rfl
theorem R4bx47 : R4b 47 := by unfold R4b; intros; kernel_rfl
theorem R4cx47 : R4c 47 := by unfold R4c; intros; kernel_rfl
theorem R4dx47 : R4d 47 := by unfold R4d; intros; kernel_rfl
theorem R4ex47 : R4e 47 := by unfold R4e; intros; kernel_rfl
theorem R4fx47 : R4f 47 := by unfold R4f; intros; kernel_rfl
theorem R4ax48 : R4a 48 := by unfold R4a; intros; kernel_rfl
theorem R4bx48 : R4b 48 := by unfold R4b; intros; kernel_rfl
theorem R4cx48 : R4c 48 := by unfold R4c; intros; kernel_rfl
theorem R4dx48 : R4d 48 := by unfold R4d; intros; kernel_rfl
theorem R4ex48 : R4e 48 := by unfold R4e; intros; kernel_rfl
theorem R4fx48 : R4f 48 := by unfold R4f; intros; kernel_rfl
theorem R4ax49 : R4a 49 := by unfold R4a; intros; kernel_rfl
theorem R4bx49 : R4b 49 := by unfold R4b; intros; kernel_rfl
theorem R4cx49 : R4c 49 := by unfold R4c; intros; kernel_rfl
theorem R4dx49 : R4d 49 := by unfold R4d; intros; kernel_rfl
theorem R4ex49 : R4e 49 := by unfold R4e; intros; kernel_rfl
theorem R4fx49 : R4f 49 := by unfold R4f; intros; kernel_rfl
theorem R4ax50 : R4a 50 := by unfold R4a; intros; kernel_rfl
theorem R4bx50 : R4b 50 := by unfold R4b; intros; kernel_rfl
theorem R4cx50 : R4c 50 := by unfold R4c; intros; kernel_rfl
theorem R4dx50 : R4d 50 := by unfold R4d; intros; kernel_rfl
theorem R4ex50 : R4e 50 := by unfold R4e; intros; kernel_rfl
theorem R4fx50 : R4f 50 := by unfold R4f; intros; kernel_rfl
theorem R4ax51 : R4a 51 := by unfold R4a; intros; kernel_rfl
theorem R4bx51 : R4b 51 := by unfold R4b; intros; kernel_rfl
theorem R4cx51 : R4c 51 := by unfold R4c; intros; kernel_rfl
theorem R4dx51 : R4d 51 := by unfold R4d; intros; kernel_rfl
theorem R4ex51 : R4e 51 := by unfold R4e; intros; kernel_rfl
theorem R4fx51 : R4f 51 := by unfold R4f; intros; kernel_rfl
theorem R4ax52 : R4a 52 := by unfold R4a; intros; kernel_rfl
theorem R4bx52 : R4b 52 := by unfold R4b; intros; kernel_rfl
theorem R4cx52 : R4c 52 := by unfold R4c; intros; kernel_rfl
theorem R4dx52 : R4d 52 := by unfold R4d; intros; kernel_rfl
theorem R4ex52 : R4e 52 := by unfold R4e; intros; kernel_rfl
theorem R4fx52 : R4f 52 := by unfold R4f; intros; kernel_rfl
theorem R4ax53 : R4a 53 := by unfold R4a; intros; kernel_rfl
theorem R4bx53 : R4b 53 := by unfold R4b; intros; kernel_rfl
theorem R4cx53 : R4c 53 := by unfold R4c; intros; kernel_rfl
theorem R4dx53 : R4d 53 := by unfold R4d; intros; kernel_rfl
theorem R4ex53 : R4e 53 := by unfold R4e; intros; kernel_rfl
theorem R4fx53 : R4f 53 := by unfold R4f; intros; kernel_rfl
theorem R4ax54 : R4a 54 := by unfold R4a; intros; kernel_rfl
theorem R4bx54 : R4b 54 := by unfold R4b; intros; kernel_rfl
theorem R4cx54 : R4c 54 := by unfold R4c; intros; kernel_rfl
theorem R4dx54 : R4d 54 := by unfold R4d; intros; kernel_rfl
theorem R4ex54 : R4e 54 := by unfold R4e; intros; kernel_rfl
theorem R4fx54 : R4f 54 := by unfold R4f; intros; kernel_rfl
theorem R4ax55 : R4a 55 := by unfold R4a; intros; kernel_rfl
theorem R4bx55 : R4b 55 := by unfold R4b; intros; kernel_rfl
theorem R4cx55 : R4c 55 := by unfold R4c; intros; kernel_rfl
theorem R4dx55 : R4d 55 := by unfold R4d; intros; kernel_rfl
theorem R4ex55 : R4e 55 := by unfold R4e; intros; kernel_rfl
theorem R4fx55 : R4f 55 := by unfold R4f; intros; kernel_rfl
theorem R4ax56 : R4a 56 := by unfold R4a; intros; kernel_rfl
theorem R4bx56 : R4b 56 := by unfold R4b; intros; kernel_rfl
theorem R4cx56 : R4c 56 := by unfold R4c; intros; kernel_rfl
theorem R4dx56 : R4d 56 := by unfold R4d; intros; kernel_rfl
theorem R4ex56 : R4e 56 := by unfold R4e; intros; kernel_rfl
theorem R4fx56 : R4f 56 := by unfold R4f; intros; kernel_rfl
theorem R4ax57 : R4a 57 := by unfold R4a; intros; kernel_rfl
theorem R4bx57 : R4b 57 := by unfold R4b; intros; kernel_rfl
theorem R4cx57 : R4c 57 := by unfold R4c; intros; kernel_rfl
theorem R4dx57 : R4d 57 := by unfold R4d; intros; kernel_rfl
theorem R4ex57 : R4e 57 := by unfold R4e; intros; kernel_rfl
theorem R4fx57 : R4f 57 := by unfold R4f; intros; kernel_rfl
theorem R4ax58 : R4a 58 := by unfold R4a; intros; kernel_rfl
theorem R4bx58 : R4b 58 := by unfold R4b; intros; kernel_rfl
theorem R4cx58 : R4c 58 := by unfold R4c; intros; kernel_rfl
theorem R4dx58 : R4d 58 := by unfold R4d; intros; kernel_rfl
theorem R4ex58 : R4e 58 := by unfold R4e; intros; kernel_rfl
theorem R4fx58 : R4f 58 := by unfold R4f; intros; kernel_rfl
theorem R4ax59 : R4a 59 := by unfold R4a; intros; kernel_rfl
theorem R4bx59 : R4b 59 := by unfold R4b; intros; kernel_rfl
theorem R4cx59 : R4c 59 := by unfold R4c; intros; kernel_rfl
theorem R4dx59 : R4d 59 := by unfold R4d; intros; kernel_rfl
theorem R4ex59 : R4e 59 := by unfold R4e; intros; kernel_rfl
theorem R4fx59 : R4f 59 := by unfold R4f; intros; kernel_rfl
theorem R4ax60 : R4a 60 := by unfold R4a; intros; kernel_rfl
theorem R4bx60 : R4b 60 := by unfold R4b; intros; kernel_rfl
theorem R4cx60 : R4c 60 := by unfold R4c; intros; kernel_rfl
theorem R4dx60 : R4d 60 := by unfold R4d; intros; kernel_rfl
theorem R4ex60 : R4e 60 := by unfold R4e; intros; kernel_rfl
theorem R4fx60 : R4f 60 := by unfold R4f; intros; kernel_rfl
theorem R4ax61 : R4a 61 := by unfold R4a; intros; kernel_rfl
theorem R4bx61 : R4b 61 := by unfold R4b; intros; kernel_rfl
theorem R4cx61 : R4c 61 := by unfold R4c; intros; kernel_rfl
theorem R4dx61 : R4d 61 := by unfold R4d; intros; kernel_rfl
theorem R4ex61 : R4e 61 := by unfold R4e; intros; kernel_rfl
theorem R4fx61 : R4f 61 := by unfold R4f; intros; kernel_rfl
theorem R4ax62 : R4a 62 := by unfold R4a; intros; kernel_rfl
theorem R4bx62 : R4b 62 := by unfold R4b; intros; kernel_rfl
theorem R4cx62 : R4c 62 := by unfold R4c; intros; kernel_rfl
theorem R4dx62 : R4d 62 := by unfold R4d; intros; kernel_rfl
theorem R4ex62 : R4e 62 := by unfold R4e; intros; kernel_rfl
theorem R4fx62 : R4f 62 := by unfold R4f; intros; kernel_rfl
theorem R4ax63 : R4a 63 := by unfold R4a; intros; kernel_rfl
theorem R4bx63 : R4b 63 := by unfold R4b; intros; kernel_rfl
theorem R4cx63 : R4c 63 := by unfold R4c; intros; kernel_rfl
theorem R4dx63 : R4d 63 := by unfold R4d; intros; kernel_rfl
theorem R4ex63 : R4e 63 := by unfold R4e; intros; kernel_rfl
theorem R4fx63 : R4f 63 := by unfold R4f; intros; kernel_rfl
theorem R5x0 : R5 0 := by unfold R5; intros; kernel_rfl
theorem vHx0 : vHP 0 := by unfold vHP; intros; kernel_rfl
theorem R5x1 : R5 1 := by unfold R5; intros; kernel_rfl
theorem vHx1 : vHP 1 := by unfold vHP; intros; kernel_rfl
theorem R5x2 : R5 2 := by unfold R5; intros; kernel_rfl
theorem vHx2 : vHP 2 := by unfold vHP; intros; kernel_rfl
theorem R5x3 : R5 3 := by unfold R5; intros; kernel_rfl
theorem vHx3 : vHP 3 := by unfold vHP; intros; kernel_rfl
theorem R5x4 : R5 4 := by unfold R5; intros; kernel_rfl
theorem vHx4 : vHP 4 := by unfold vHP; intros; kernel_rfl
theorem R5x5 : R5 5 := by unfold R5; intros; kernel_rfl
theorem vHx5 : vHP 5 := by unfold vHP; intros; kernel_rfl
theorem R5x6 : R5 6 := by unfold R5; intros; kernel_rfl
theorem vHx6 : vHP 6 := by unfold vHP; intros; kernel_rfl
theorem R5x7 : R5 7 := by unfold R5; intros; kernel_rfl
theorem vHx7 : vHP 7 := by unfold vHP; intros; kernel_rfl
theorem R4aall (t : Nat) (h1 : 0 ≤ t) (h2 : t < 64) : R4a t := by
  have : t = 0 ∨ t = 1 ∨ t = 2 ∨ t = 3 ∨ t = 4 ∨ t = 5 ∨ t = 6 ∨ t = 7 ∨ t = 8 ∨ t = 9 ∨ t = 10 ∨ t = 11 ∨ t = 12 ∨ t = 13 ∨ t = 14 ∨ t = 15 ∨ t = 16 ∨ t = 17 ∨ t = 18 ∨ t = 19 ∨ t = 20 ∨ t = 21 ∨ t = 22 ∨ t = 23 ∨ t = 24 ∨ t = 25 ∨ t = 26 ∨ t = 27 ∨ t = 28 ∨ t = 29 ∨ t = 30 ∨ t = 31 ∨ t = 32 ∨ t = 33 ∨ t = 34 ∨ t = 35 ∨ t = 36 ∨ t = 37 ∨ t = 38 ∨ t = 39 ∨ t = 40 ∨ t = 41 ∨ t = 42 ∨ t = 43 ∨ t = 44 ∨ t = 45 ∨ t = 46 ∨ t = 47 ∨ t = 48 ∨ t = 49 ∨ t = 50 ∨ t = 51 ∨ t = 52 ∨ t = 53 ∨ t = 54 ∨ t = 55 ∨ t = 56 ∨ t = 57 ∨ t = 58 ∨ t = 59 ∨ t = 60 ∨ t = 61 ∨ t = 62 ∨ t = 63 := by omega
  rcases this with rfl | rfl | rfl | rfl | rfl | rfl | rfl | rfl | rfl | rfl | rfl | rfl | rfl | rfl | rfl | rfl | rfl | rfl | rfl | rfl | rfl | rfl | rfl | rfl | rfl | rfl | rfl | rfl | rfl | rfl | rfl | rfl | rfl | rfl | rfl | rfl | rfl | rfl | rfl | rfl | rfl | rfl | rfl | rfl | rfl | rfl | rfl | rfl | rfl | rfl | rfl | rfl | rfl | rfl | rfl | rfl | rfl | rfl | rfl | rfl | rfl | rfl | rfl | rfl
  · exact R4ax0
  · exact R4ax1
  · exact R4ax2
  · exact R4ax3
  · exact R4ax4
  · exact R4ax5
  · exact R4ax6
  · exact R4ax7
  · exact R4ax8
  · exact R4ax9
  · exact R4ax10
  · exact R4ax11
  · exact R4ax12
  · exact R4ax13
  · exact R4ax14
  · exact R4ax15
  · exact R4ax16
  · exact R4ax17
  · exact R4ax18
  · exact R4ax19
  · exact R4ax20
  · exact R4ax21
  · exact R4ax22
  · exact R4ax23
  · exact R4ax24
  · exact R4ax25
  · exact R4ax26
  · exact R4ax27
  · exact R4ax28
  · exact R4ax29
  · exact R4ax30
  · exact R4ax31
  · exact R4ax32
  · exact R4ax33
  · exact R4ax34
  · exact R4ax35
  · exact R4ax36
  · exact R4ax37
  · exact R4ax38
  · exact R4ax39
  · exact R4ax40
  · exact R4ax41
  · exact R4ax42
  · exact R4ax43
  · exact R4ax44
  · exact R4ax45
  · exact R4ax46
  · exact R4ax47
  · exact R4ax48
  · exact R4ax49
  · exact R4ax50
  · exact R4ax51
  · exact R4ax52
  · exact R4ax53
  · exact R4ax54
  · exact R4ax55
  · exact R4ax56
  · exact R4ax57
  · exact R4ax58
  · exact R4ax59
  · exact R4ax60
  · exact R4ax61
  · exact R4ax62
  · exact R4ax63
theorem R4ball (t : Nat) (h1 : 0 ≤ t) (h2 : t < 64) : R4b t := by
  have : t = 0 ∨ t = 1 ∨ t = 2 ∨ t = 3 ∨ t = 4 ∨ t = 5 ∨ t = 6 ∨ t = 7 ∨ t = 8 ∨ t = 9 ∨ t = 10 ∨ t = 11 ∨ t = 12 ∨ t = 13 ∨ t = 14 ∨ t = 15 ∨ t = 16 ∨ t = 17 ∨ t = 18 ∨ t = 19 ∨ t = 20 ∨ t = 21 ∨ t = 22 ∨ t = 23 ∨ t = 24 ∨ t = 25 ∨ t = 26 ∨ t = 27 ∨ t = 28 ∨ t = 29 ∨ t = 30 ∨ t = 31 ∨ t = 32 ∨ t = 33 ∨ t = 34 ∨ t = 35 ∨ t = 36 ∨ t = 37 ∨ t = 38 ∨ t = 39 ∨ t = 40 ∨ t = 41 ∨ t = 42 ∨ t = 43 ∨ t = 44 ∨ t = 45 ∨ t = 46 ∨ t = 47 ∨ t = 48 ∨ t = 49 ∨ t = 50 ∨ t = 51 ∨ t = 52 ∨ t = 53 ∨ t = 54 ∨ t = 55 ∨ t = 56 ∨ t = 57 ∨ t = 58 ∨ t = 59 ∨ t = 60 ∨ t = 61 ∨ t = 62 ∨ t = 63 := by omega
  rcases this with rfl | rfl | rfl | rfl | rfl | rfl | rfl | rfl | rfl | rfl | rfl | rfl | rfl | rfl | rfl | rfl | rfl | rfl | rfl | rfl | rfl | rfl | rfl | rfl | rfl | rfl | rfl | rfl | rfl | rfl | rfl | rfl | rfl | rfl | rfl | rfl | rfl | rfl | rfl | rfl | rfl | rfl | rfl | rfl | rfl | rfl | rfl | rfl | rfl | rfl | rfl | rfl | rfl | rfl | rfl | rfl | rfl | rfl | rfl | rfl | rfl | rfl | rfl | rfl
  · exact R4bx0
  · exact R4bx1
  · exact R4bx2
  · exact R4bx3
  · exact R4bx4
  · exact R4bx5
  · exact R4bx6
  · exact R4bx7
  · exact R4bx8
  · exact R4bx9
  · exact R4bx10
  · exact R4bx11
  · exact R4bx12
  · exact R4bx13
  · exact R4bx14
  · exact R4bx15
  · exact R4bx16
  · exact R4bx17
  · exact R4bx18
  · exact R4bx19
  · exact R4bx20
  · exact R4bx21
  · exact R4bx22
  · exact R4bx23
  · exact R4bx24
  · exact R4bx25
  · exact R4bx26
  · exact R4bx27
  · exact R4bx28
  · exact R4bx29
  · exact R4bx30
  · exact R4bx31
  · exact R4bx32
  · exact R4bx33
  · exact R4bx34
  · exact R4bx35
  · exact R4bx36
  · exact R4bx37
  · exact R4bx38
  · exact R4bx39
  · exact R4bx40
  · exact R4bx41
  · exact R4bx42
  · exact R4bx43
  · exact R4bx44
  · exact R4bx45
  · exact R4bx46
  · exact R4bx47
  · exact R4bx48
  · exact R4bx49
  · exact R4bx50
  · exact R4bx51
  · exact R4bx52
  · exact R4bx53
  · exact R4bx54
  · exact R4bx55
  · exact R4bx56
  · exact R4bx57
  · exact R4bx58
  · exact R4bx59
  · exact R4bx60
  · exact R4bx61
  · exact R4bx62
  · exact R4bx63
theorem R4call (t : Nat) (h1 : 0 ≤ t) (h2 : t < 64) : R4c t := by
  have : t = 0 ∨ t = 1 ∨ t = 2 ∨ t = 3 ∨ t = 4 ∨ t = 5 ∨ t = 6 ∨ t = 7 ∨ t = 8 ∨ t = 9 ∨ t = 10 ∨ t = 11 ∨ t = 12 ∨ t = 13 ∨ t = 14 ∨ t = 15 ∨ t = 16 ∨ t = 17 ∨ t = 18 ∨ t = 19 ∨ t = 20 ∨ t = 21 ∨ t = 22 ∨ t = 23 ∨ t = 24 ∨ t = 25 ∨ t = 26 ∨ t = 27 ∨ t = 28 ∨ t = 29 ∨ t = 30 ∨ t = 31 ∨ t = 32 ∨ t = 33 ∨ t = 34 ∨ t = 35 ∨ t = 36 ∨ t = 37 ∨ t = 38 ∨ t = 39 ∨ t = 40 ∨ t = 41 ∨ t = 42 ∨ t = 43 ∨ t = 44 ∨ t = 45 ∨ t = 46 ∨ t = 47 ∨ t = 48 ∨ t = 49 ∨ t = 50 ∨ t = 51 ∨ t = 52 ∨ t = 53 ∨ t = 54 ∨ t = 55 ∨ t = 56 ∨ t = 57 ∨ t = 58 ∨ t = 59 ∨ t = 60 ∨ t = 61 ∨ t = 62 ∨ t = 63 := by omega
  rcases this with rfl | rfl | rfl | rfl | rfl | rfl | rfl | rfl | rfl | rfl | rfl | rfl | rfl | rfl | rfl | rfl | rfl | rfl | rfl | rfl | rfl | rfl | rfl | rfl | rfl | rfl | rfl | rfl | rfl | rfl | rfl | rfl | rfl | rfl | rfl | rfl | rfl | rfl | rfl | rfl | rfl | rfl | rfl | rfl | rfl | rfl | rfl | rfl | rfl | rfl | rfl | rfl | rfl | rfl | rfl | rfl | rfl | rfl | rfl | rfl | rfl | rfl | rfl | rfl
  · exact R4cx0
  · exact R4cx1
  · exact R4cx2
  · exact R4cx3
  · exact R4cx4
  · exact R4cx5
  · exact R4cx6
  · exact R4cx7
  · exact R4cx8
  · exact R4cx9
  · exact R4cx10
  · exact R4cx11
  · exact R4cx12
  · exact R4cx13
  · exact R4cx14
  · exact R4cx15
  · exact R4cx16
  · exact R4cx17
  · exact R4cx18
  · exact R4cx19
  · exact R4cx20
  · exact R4cx21
  · exact R4cx22
  · exact R4cx23
  · exact R4cx24
  · exact R4cx25
  · exact R4cx26
  · exact R4cx27
  · exact R4cx28
  · exact R4cx29
  · exact R4cx30
  · exact R4cx31
  · exact R4cx32
  · exact R4cx33
  · exact R4cx34
  · exact R4cx35
  · exact R4cx36
  · exact R4cx37
  · exact R4cx38
  · exact R4cx39
  · exact R4cx40
  · exact R4cx41
  · exact R4cx42
  · exact R4cx43
  · exact R4cx44
  · exact R4cx45
  · exact R4cx46
  · exact R4cx47
  · exact R4cx48
  · exact R4cx49
  · exact R4cx50
  · exact R4cx51
  · exact R4cx52
  · exact R4cx53
  · exact R4cx54
  · exact R4cx55
  · exact R4cx56
  · exact R4cx57
  · exact R4cx58
  · exact R4cx59
  · exact R4cx60
  · exact R4cx61
  · exact R4cx62
  · exact R4cx63
theorem R4dall (t : Nat) (h1 : 0 ≤ t) (h2 : t < 64) : R4d t := by
  have : t = 0 ∨ t = 1 ∨ t = 2 ∨ t = 3 ∨ t = 4 ∨ t = 5 ∨ t = 6 ∨ t = 7 ∨ t = 8 ∨ t = 9 ∨ t = 10 ∨ t = 11 ∨ t = 12 ∨ t = 13 ∨ t = 14 ∨ t = 15 ∨ t = 16 ∨ t = 17 ∨ t = 18 ∨ t = 19 ∨ t = 20 ∨ t = 21 ∨ t = 22 ∨ t = 23 ∨ t = 24 ∨ t = 25 ∨ t = 26 ∨ t = 27 ∨ t = 28 ∨ t = 29 ∨ t = 30 ∨ t = 31 ∨ t = 32 ∨ t = 33 ∨ t = 34 ∨ t = 35 ∨ t = 36 ∨ t = 37 ∨ t = 38 ∨ t = 39 ∨ t = 40 ∨ t = 41 ∨ t = 42 ∨ t = 43 ∨ t = 44 ∨ t = 45 ∨ t = 46 ∨ t = 47 ∨ t = 48 ∨ t = 49 ∨ t = 50 ∨ t = 51 ∨ t = 52 ∨ t = 53 ∨ t = 54 ∨ t = 55 ∨ t = 56 ∨ t = 57 ∨ t = 58 ∨ t = 59 ∨ t = 60 ∨ t = 61 ∨ t = 62 ∨ t = 63 := by omega
  rcases this with rfl | rfl | rfl | rfl | rfl | rfl | rfl | rfl | rfl | rfl | rfl | rfl | rfl | rfl | rfl | rfl | rfl | rfl | rfl | rfl | rfl | rfl | rfl | rfl | rfl | rfl | rfl | rfl | rfl | rfl | rfl | rfl | rfl | rfl | rfl | rfl | rfl | rfl | rfl | rfl | rfl | rfl | rfl | rfl | rfl | rfl | rfl | rfl | rfl | rfl | rfl | rfl | rfl | rfl | rfl | rfl | rfl | rfl | rfl | rfl | rfl | rfl | rfl | rfl
  · exact R4dx0
  · exact R4dx1
  · exact R4dx2
  · exact R4dx3
  · exact R4dx4
  · exact R4dx5
  · exact R4dx6
  · exact R4dx7
  · exact R4dx8
  · exact R4dx9
  · exact R4dx10
  · exact R4dx11
  · exact R4dx12
  · exact R4dx13
  · exact R4dx14
  · exact R4dx15
  · exact R4dx16
  · exact R4dx17
  · exact R4dx18
  · exact R4dx19
  · exact R4dx20
  · exact R4dx21
  · exact R4dx22
  · exact R4dx23
  · exact R4dx24
  · exact R4dx25
  · exact R4dx26
  · exact R4dx27
  · exact R4dx28
  · exact R4dx29
  · exact R4dx30
  · exact R4dx31
  · exact R4dx32
  · exact R4dx33
  · exact R4dx34
  · exact R4dx35
  · exact R4dx36
  · exact R4dx37
  · exact R4dx38
  · exact R4dx39
  · exact R4dx40
  · exact R4dx41
  · exact R4dx42
  · exact R4dx43
  · exact R4dx44
  · exact R4dx45
  · exact R4dx46
  · exact R4dx47
  · exact R4dx48
  · exact R4dx49
  · exact R4dx50
  · exact R4dx51
  · exact R4dx52
  · exact R4dx53
  · exact R4dx54
  · exact R4dx55
  · exact R4dx56
  · exact R4dx57
  · exact R4dx58
  · exact R4dx59
  · exact R4dx60
  · exact R4dx61
  · exact R4dx62
  · exact R4dx63
theorem R4eall (t : Nat) (h1 : 0 ≤ t) (h2 : t < 64) : R4e t := by
  have : t = 0 ∨ t = 1 ∨ t = 2 ∨ t = 3 ∨ t = 4 ∨ t = 5 ∨ t = 6 ∨ t = 7 ∨ t = 8 ∨ t = 9 ∨ t = 10 ∨ t = 11 ∨ t = 12 ∨ t = 13 ∨ t = 14 ∨ t = 15 ∨ t = 16 ∨ t = 17 ∨ t = 18 ∨ t = 19 ∨ t = 20 ∨ t = 21 ∨ t = 22 ∨ t = 23 ∨ t = 24 ∨ t = 25 ∨ t = 26 ∨ t = 27 ∨ t = 28 ∨ t = 29 ∨ t = 30 ∨ t = 31 ∨ t = 32 ∨ t = 33 ∨ t = 34 ∨ t = 35 ∨ t = 36 ∨ t = 37 ∨ t = 38 ∨ t = 39 ∨ t = 40 ∨ t = 41 ∨ t = 42 ∨ t = 43 ∨ t = 44 ∨ t = 45 ∨ t = 46 ∨ t = 47 ∨ t = 48 ∨ t = 49 ∨ t = 50 ∨ t = 51 ∨ t = 52 ∨ t = 53 ∨ t = 54 ∨ t = 55 ∨ t = 56 ∨ t = 57 ∨ t = 58 ∨ t = 59 ∨ t = 60 ∨ t = 61 ∨ t = 62 ∨ t = 63 := by omega
  rcases this with rfl | rfl | rfl | rfl | rfl | rfl | rfl | rfl | rfl | rfl | rfl | rfl | rfl | rfl | rfl | rfl | rfl | rfl | rfl | rfl | rfl | rfl | rfl | rfl | rfl | rfl | rfl | rfl | rfl | rfl | rfl | rfl | rfl | rfl | rfl | rfl | rfl | rfl | rfl | rfl | rfl | rfl | rfl | rfl | rfl | rfl | rfl | rfl | rfl | rfl | rfl | rfl | rfl | rfl | rfl | rfl | rfl | rfl | rfl | rfl | rfl | rfl | rfl | rfl
  · exact R4ex0
  · exact R4ex1
  · exact R4ex2
  · exact R4ex3
  · exact R4ex4
  · exact R4ex5
  · exact R4ex6
  · exact R4ex7
  · exact R4ex8
  · exact R4ex9
  · exact R4ex10
  · exact R4ex11
  · exact R4ex12
  · exact R4ex13
  · exact R4ex14
  · exact R4ex15
  · exact R4ex16
  · exact R4ex17
  · exact R4ex18
  · exact R4ex19
  · exact R4ex20
  · exact R4ex21
  · exact R4ex22
  · exact R4ex23
  · exact R4ex24
  · exact R4ex25
  · exact R4ex26
  · exact R4ex27
  · exact R4ex28
  · exact R4ex29
  · exact R4ex30
  · exact R4ex31
  · exact R4ex32
  · exact R4ex33
  · exact R4ex34
  · exact R4ex35
  · exact R4ex36
  · exact R4ex37
  · exact R4ex38
  · exact R4ex39
  · exact R4ex40
  · exact R4ex41
  · exact R4ex42
  · exact R4ex43
  · exact R4ex44
  · exact R4ex45
  · exact R4ex46
  · exact R4ex47
  · exact R4ex48
  · exact R4ex49
  · exact R4ex50
  · exact R4ex51
  · exact R4ex52
  · exact R4ex53
  · exact R4ex54
  · exact R4ex55
  · exact R4ex56
  · exact R4ex57
  · exact R4ex58
  · exact R4ex59
  · exact R4ex60
  · exact R4ex61
  · exact R4ex62
  · exact R4ex63
theorem R4fall (t : Nat) (h1 : 0 ≤ t) (h2 : t < 64) : R4f t := by
  have : t = 0 ∨ t = 1 ∨ t = 2 ∨ t = 3 ∨ t = 4 ∨ t = 5 ∨ t = 6 ∨ t = 7 ∨ t = 8 ∨ t = 9 ∨ t = 10 ∨ t = 11 ∨ t = 12 ∨ t = 13 ∨ t = 14 ∨ t = 15 ∨ t = 16 ∨ t = 17 ∨ t = 18 ∨ t = 19 ∨ t = 20 ∨ t = 21 ∨ t = 22 ∨ t = 23 ∨ t = 24 ∨ t = 25 ∨ t = 26 ∨ t = 27 ∨ t = 28 ∨ t = 29 ∨ t = 30 ∨ t = 31 ∨ t = 32 ∨ t = 33 ∨ t = 34 ∨ t = 35 ∨ t = 36 ∨ t = 37 ∨ t = 38 ∨ t = 39 ∨ t = 40 ∨ t = 41 ∨ t = 42 ∨ t = 43 ∨ t = 44 ∨ t = 45 ∨ t = 46 ∨ t = 47 ∨ t = 48 ∨ t = 49 ∨ t = 50 ∨ t = 51 ∨ t = 52 ∨ t = 53 ∨ t = 54 ∨ t = 55 ∨ t = 56 ∨ t = 57 ∨ t = 58 ∨ t = 59 ∨ t = 60 ∨ t = 61 ∨ t = 62 ∨ t = 63 := by omega
  rcases this with rfl | rfl | rfl | rfl | rfl | rfl | rfl | rfl | rfl | rfl | rfl | rfl | rfl | rfl | rfl | rfl | rfl | rfl | rfl | rfl | rfl | rfl | rfl | rfl | rfl | rfl | rfl | rfl | rfl | rfl | rfl | rfl | rfl | rfl | rfl | rfl | rfl | rfl | rfl | rfl | rfl | rfl | rfl | rfl | rfl | rfl | rfl | rfl | rfl | rfl | rfl | rfl | rfl | rfl | rfl | rfl | rfl | rfl | rfl | rfl | rfl | rfl | rfl | rfl
  · exact R4fx0
  · exact R4fx1
  · exact R4fx2
  · exact R4fx3
  · exact R4fx4
  · exact R4fx5
  · exact R4fx6
  · exact R4fx7
  · exact R4fx8
  · exact R4fx9
  · exact R4fx10
  · exact R4fx11
  · exact R4fx12
  · exact R4fx13
  · exact R4fx14
  · exact R4fx15
  · exact R4fx16
  · exact R4fx17
  · exact R4fx18
  · exact R4fx19
  · exact R4fx20
  · exact R4fx21
  · exact R4fx22
  · exact R4fx23
  · exact R4fx24
  · exact R4fx25
  · exact R4fx26
  · exact R4fx27
  · exact R4fx28
  · exact R4fx29
  · exact R4fx30
  · exact R4fx31
  · exact R4fx32
  · exact R4fx33
  · exact R4fx34
  · exact R4fx35
  · exact R4fx36
  · exact R4fx37
  · exact R4fx38
  · exact R4fx39
  · exact R4fx40
  · exact R4fx41
  · exact R4fx42
  · exact R4fx43
  · exact R4fx44
  · exact R4fx45
  · exact R4fx46
  · exact R4fx47
  · exact R4fx48
  · exact R4fx49
  · exact R4fx50
  · exact R4fx51
  · exact R4fx52
  · exact R4fx53
  · exact R4fx54
  · exact R4fx55
  · exact R4fx56
  · exact R4fx57
  · exact R4fx58
  · exact R4fx59
  · exact R4fx60
  · exact R4fx61
  · exact R4fx62
  · exact R4fx63
theorem R5all (t : Nat) (h1 : 0 ≤ t) (h2 : t < 8) : R5 t := by
  have : t = 0 ∨ t = 1 ∨ t = 2 ∨ t = 3 ∨ t = 4 ∨ t = 5 ∨ t = 6 ∨ t = 7 := by omega
  rcases this with rfl | rfl | rfl | rfl | rfl | rfl | rfl | rfl
  · exact R5x0
  · exact R5x1
  · exact R5x2
  · exact R5x3
  · exact R5x4
  · exact R5x5
  · exact R5x6
  · exact R5x7
theorem vHall (t : Nat) (h1 : 0 ≤ t) (h2 : t < 8) : vHP t := by
  have : t = 0 ∨ t = 1 ∨ t = 2 ∨ t = 3 ∨ t = 4 ∨ t = 5 ∨ t = 6 ∨ t = 7 := by omega
  rcases this with rfl | rfl | rfl | rfl | rfl | rfl | rfl | rfl
  · exact vHx0
  · exact vHx1
  · exact vHx2
  · exact vHx3
  · exact vHx4
  · exact vHx5
  · exact vHx6
  · exact vHx7
theorem wAll_congr (m m' : Nat) (h : ∀ k, k < 64 → byte m k = byte m' k) : wAll m = wAll m' := by
  have key : ∀ t, t ≤ 16 → ldAll m t = ldAll m' t := by
    intro t
    induction t with
    | zero => intro _; rfl
    | succ t ih =>
      intro ht
      show updN (ldAll m t) t (ldw (ldAll m t) m t) = updN (ldAll m' t) t (ldw (ldAll m' t) m' t)
      rw [ih (by omega)]
      congr 1
      unfold ldw
      rw [h (4 * t) (by omega), h (4 * t + 1) (by omega), h (4 * t + 2) (by omega), h (4 * t + 3) (by omega)]
  unfold wAll
  rw [key 16 (by omega)]
theorem VRs_one {ρ : Ren} {a : AV} {cargs : Array Value} (h : VRs ρ [a] cargs.toList) : ∃ v, cargs = #[v] ∧ VR ρ a v := by
  obtain ⟨l⟩ := cargs
  cases h with | cons h1 h2 =>
  cases h2
  exact ⟨_, rfl, h1⟩
theorem callW_ok : CallOk Tryd.prog 1 callW := by
  intro f args st v st' h
  by_cases hf : f = 26
  · subst hf
    have h' : wordsF args st = some (v, st') := h
    unfold wordsF at h'
    split at h'
    · rename_i i off cap
      split at h'
      · rename_i rw sz m ho
        cases hb : (Nat.ble (off + 64) sz && Nat.ble 64 cap) with
        | false => rw [hb] at h'; simp at h'
        | true =>
          rw [hb] at h'
          simp only [cond_true, Option.some.injEq, Prod.mk.injEq] at h'
          obtain ⟨rfl, rfl⟩ := h'
          simp only [Bool.and_eq_true, ble_iff] at hb
          intro ρ w cargs hR hG hA
          obtain ⟨x, rfl, hx⟩ := VRs_one hA
          have hlive : (st.obj i).live = true := by rw [ho]; rfl
          obtain ⟨hi, ho2⟩ := St.obj_live hlive
          have hl2 : (st.heap.get i).live = true := by rw [← ho2]; exact hlive
          obtain ⟨L, ob, hL, hob, hrel⟩ := hR.live i hi hl2
          rw [← ho2, ho] at hrel
          obtain ⟨C, e, fz, rfl, hs1, hs2, hc, _⟩ := hrel
          cases hx with
          | slice _ _ _ _ _ cap' L' hL' hp hl h0 h1 =>
            rw [hL] at hL'
            cases hL'
            obtain rfl := h0 rfl
            have hr : Rd w w.heap.size (some (L.at off)) ((List.range 64).map fun k => UInt8.ofNat (byte m (off + k))) := fun _ => by
              refine ⟨L.b, L.sh + off, rfl, (Array.getElem?_eq_some_iff.1 hob).1, fun k hk => ?_⟩
              have hk' : k < 64 := by simpa using hk
              have := hc (off + k) (by omega)
              simp only [World.cell?, hob]
              rw [Nat.add_assoc, this]
              simp [u8V, byteV, UInt8.toNat_ofNat', Nat.mod_eq_of_lt (byte_lt m (off + k))]
            refine (words_calls w _ cap' _ (by simp) hb.2 hr).mono ?_
            rintro e' w' ⟨rfl, hbw⟩
            refine ⟨_, ρ, rfl, ?_, Good.of_Wx hR ⟨hbw.size, hbw.block, hbw.os, hbw.tape, hbw.output⟩⟩
            have hw : wAll (packB ((List.range 64).map fun k => UInt8.ofNat (byte m (off + k)))) = wAll (cutB m off 64) := by
              apply wAll_congr
              intro k hk
              rw [byte_packB _ k (by simpa using hk), byte_cutB, if_pos hk]
              simp [UInt8.toNat_ofNat', Nat.mod_eq_of_lt (byte_lt m (off + k))]
            rw [hw]
            exact .agg _ _ (VRs_ofInts (wAll (cutB m off 64)) .u32 (List.range 64))
      · cases h'
    · cases h'
  · have h' : callR f args st = some (v, st') := by
      unfold callW at h
      split at h
      · exact absurd rfl hf
      · exact h
    exact callR_ok f args st v st' h'

theorem tr9 {ids : List Nat} {c : Code} {fr fr1 : Fr} {st st1 : St} {ex : Ex} {ps : PL} (h : ev9 ids c fr st = some (ex, fr1, st1, ps)) (ha : AllEq ps) : Tr Tryd.prog 1 c fr st ex fr1 st1 :=
  Tr.of_evK callW_ok follows_mix h ha
theorem sshape : isLoop sl4 = true ∧ isSeq sb4 = true ∧ isSeq (cB sb4) = true ∧ isBlock 7 sk7 = true ∧ isSeq si7 = true ∧ isSeq (cB si7) = true ∧ isSeq (cB (cB si7)) = true ∧ isLoop sl5 = true := by
  refine ⟨?_, ?_, ?_, ?_, ?_, ?_, ?_, ?_⟩ <;> kernel_rfl
theorem sturn (h K W v : Nat → Nat) (N M ca a t : Nat) (ht : t < 64) : Tr Tryd.prog 1 sb4 (sF N ca a (wv ++ [(12, i64A t)])) (iSt h K N M W v) .normal (sF N ca a (wv ++ [(12, i64A (t + 1))])) (iSt h K N M W (S8.get (rnd K W t (toS8 v)))) := by
  refine .seqC sshape.2.1 (tr9 (R4aall t (Nat.zero_le _) ht h K W v N M ca a) trivial) (.seqC sshape.2.2.1 (fr1 := sF N ca a (wv ++ [(12, i64A t)])) (st1 := iSt h K N M W (S8.get (rnd K W t (toS8 v)))) ?_ (tr9 (R4fall t (Nat.zero_le _) ht h K W _ N M ca a) trivial))
  refine .blockN sshape.2.2.2.1 ?_
  refine .seqC sshape.2.2.2.2.1 (tr9 (R4ball t (Nat.zero_le _) ht h K W v N M ca a) trivial) ?_
  refine .seqC sshape.2.2.2.2.2.1 (tr9 (R4call t (Nat.zero_le _) ht h K W v N M ca a _ _) ⟨rfl, rfl, rfl, rfl, rfl, rfl, rfl, rfl, rfl, rfl, rfl, rfl, rfl, rfl, rfl, trivial⟩) ?_
  refine .seqC sshape.2.2.2.2.2.2.1 (tr9 (R4dall t (Nat.zero_le _) ht h K W v N M ca a _ _) ⟨rfl, rfl, rfl, rfl, rfl, rfl, rfl, rfl, rfl, rfl, rfl, rfl, trivial⟩) ?_
  have he := R4eall t (Nat.zero_le _) ht h K W v N M ca a (one8 (K t) (W t) (v 4) (v 5) (v 6) (v 7)) (two8 (v 0) (v 1) (v 2))
  unfold vL at he
  rw [vV] at he
  exact tr9 he trivial
theorem toS8_get (s : S8) : toS8 s.get = s := by cases s; rfl
theorem sl4_tr (h K W : Nat → Nat) (N M ca a : Nat) (s : S8) : ∀ k t, t + k = 64 → Tr Tryd.prog 1 sl4 (sF N ca a (wv ++ [(12, i64A t)])) (iSt h K N M W (S8.get (rnds K W s t))) (.exit 6) (sF N ca a wv) (iSt h K N M W (S8.get (rnds K W s 64))) := by
  intro k
  induction k with
  | zero => intro t ht; have : t = 64 := by omega
            subst this; exact .loopCX sshape.1 (by simp) (tr9 (r4end ..) trivial)
  | succ k ih =>
    intro t ht
    have h1 := sturn h K W (S8.get (rnds K W s t)) N M ca a t (by omega)
    rw [toS8_get] at h1
    exact .loopC sshape.1 h1 (ih (t + 1) (by omega))
theorem sl5_tr (h K W x : Nat → Nat) (N M ca a : Nat) : ∀ k i, i + k = 8 → Tr Tryd.prog 1 sl5 (sF N ca a (wv ++ [(17, i64A i)])) (iSt (finAll h x i) K N M W x) (.exit 8) (sF N ca a []) (iSt (finAll h x 8) K N M W x) := by
  intro k
  induction k with
  | zero => intro i hi; have : i = 8 := by omega
            subst this; exact .loopCX sshape.2.2.2.2.2.2.2 (by simp) (tr9 (r5end ..) trivial)
  | succ k ih =>
    intro i hi
    have h1 := R5all i (Nat.zero_le _) (by omega) (finAll h x i) K W x N M ca a
    rw [vHall i (Nat.zero_le _) (by omega)] at h1
    exact .loopC sshape.2.2.2.2.2.2.2 (tr9 h1 trivial) (ih (i + 1) (by omega))

end
end Go.Ev
