/-
  proof.Sum and chanceryref28.Sum: how the words of the sum become bytes.
-/
import Derived.Test.YtiibpjahmhemmaaDoorZmixc
namespace Go.Ev
open Go Go.Proofs
set_option maxRecDepth 100000
noncomputable section

def outN (h : Nat → Nat) (i : Nat) : Nat := Nat.mod (Nat.div (h (i / 4)) (2 ^ (24 - 8 * (i % 4)))) 256
def outA (h : Nat → Nat) : List AV := (List.range 32).map fun i => AV.int .u8 (.ofNat (outN h i))
def zero32 : List AV := (List.range 32).map fun _ => AV.int .u8 (.ofNat 0)
noncomputable def b8 : Code := bodyOf Tryd.prog 8
noncomputable def d8 (n : Nat) : Code := Nat.rec (motive := fun _ => Code) b8 (fun _ c => cB c) n
def outSt (h : Nat → Nat) (a b : List AV) : St :=
  ⟨((((T.full 3 .dead).set 1 (mkCells a)).set 2 (mkCells (row32 8 h))).set 3 (mkCells b)), 3, 4⟩
def outFr : Fr := frOf 98 7 [(2, .ptr 1 0), (3, .ptr 2 0), (10, .ptr 3 0)]
theorem out8 (h : Nat → Nat) : evK Tryd.prog callS 80 [2] (d8 11) outFr (outSt h zero32 zero32) = some (.ret, frOf 98 7 [(2, .ptr 1 0)], outSt h (outA h) (outA h), []) := by kernel_rfl
theorem out8_res (h : Nat → Nat) (b : List AV) : resA Tryd.prog (frOf 98 7 [(2, .ptr 1 0)]) (outSt h (outA h) b) Tryd.f8.results.toList = some [.agg (outA h)] := by kernel_rfl

/-! ### From a frame of values to a frame of slots -/
theorem FR_frOf {ρ : Ren} {lim d : Nat} (hd : lim ≤ 2 ^ d) {tmps : Array Value} (hs : lim ≤ tmps.size) : ∀ (l : List (Nat × AV)), (∀ p ∈ l, p.1 < lim ∧ VR ρ p.2 (tmps.getD p.1 undef)) → FR ρ (frOf lim d l) tmps := by
  intro l hl
  have key : ∀ (l : List (Nat × AV)) (t : T AV), T.Ok d t → (∀ j, j < lim → VR ρ (t.get j) (tmps.getD j undef)) → (∀ p ∈ l, p.1 < lim ∧ VR ρ p.2 (tmps.getD p.1 undef)) →
      T.Ok d (setP t l) ∧ ∀ j, j < lim → VR ρ ((setP t l).get j) (tmps.getD j undef) := by
    intro l
    induction l with
    | nil => intro t h1 h2 _; exact ⟨h1, h2⟩
    | cons x l ih =>
      intro t h1 h2 h3
      obtain ⟨i, v⟩ := x
      have hi := h3 (i, v) (List.mem_cons_self ..)
      refine ih _ (h1.set i v) (fun j hj => ?_) (fun p hp => h3 p (List.mem_cons_of_mem _ hp))
      by_cases e : i = j
      · subst e; rw [T.get_set_same]; exact hi.2
      · rw [T.get_set_ne d t i j v h1 (by have := hi.1; simp only at this; omega) (by omega) e]; exact h2 j hj
  obtain ⟨k1, k2⟩ := key l (T.full d .top) (T.Ok_full _ _) (fun j _ => by rw [T.get_full]; exact .top _) hl
  exact ⟨k1, hd, hs, k2⟩

theorem wp_code_eq {P : Program} {c c' : Code} {Q : Exit → Act → World → Prop} {a : Act} {w : World} (h : Code.wp P c' Q a w) (e : c = c') : Code.wp P c Q a w := by rw [e]; exact h

theorem wp_ret_of_tr {P : Program} {G : Nat} {c : Code} {fn : Func} {fr fr1 : Fr} {st st1 : St} {l : List AV} (ht : Tr P G c fr st .ret fr1 st1) (hl : resA P fr1 st1 fn.results.toList = some l)
    {ρ : Ren} {a : Act} {w : World} (hF : FR ρ fr a.tmps) (hR : Rel ρ st w) (hG : Glob ρ G) {Q : Exit → Act → World → Prop}
    (hQ : ∀ a' w' vc ρ', a'.defers = a.defers → (results fn a'.tmps).run P w' = .ok vc w' → VR ρ' (oneA l) vc → Good ρ st w ρ' st1 w' → Q .ret a' w') : Code.wp P c Q a w := by
  refine wp_mono (wp_of_wpX (ht ρ a w hF hR hG)) ?_
  rintro e a' w' ⟨rfl, ρ', hF', hg, hd⟩
  obtain ⟨vs, g1, g2⟩ := resA_sound hF' hg.rel _ _ hl
  have hrun : (results fn a'.tmps).run P w' = .ok (if h : vs.toArray.size = 1 then vs.toArray[0] else .tuple vs.toArray) w' := by
    rw [results_eq, Array.mapM_eq_mapM_toList]
    simp only [Sem.run_bind, Sem.run_map, g2, Sem.run_pure, Result.andThen_ok]
  exact hQ a' w' _ ρ' hd hrun (oneA_sound _ _ g1) hg

theorem mkCells_get (l : List AV) (h : l.length ≤ 2 ^ depthOf 64 l.length) (k : Nat) (hk : k < l.length) : ((T.full (depthOf 64 l.length) AV.top).setL 0 l).get k = l[k] := by
  rw [T.get_setL (d := depthOf 64 l.length) _ _ 0 k (T.Ok_full _ _) (by omega) (by omega), dif_pos ⟨by omega, by omega⟩]
  simp

/-- a block of known cells, as an object -/
theorem ORel_mkCells {ρ : Ren} {b : Nat} {l : List AV} {cs : Array Value} {e : TypeId} (h : l.length ≤ 2 ^ depthOf 64 l.length) (hv : VRs ρ l cs.toList) : ORel ρ ⟨b, 0, cs.size⟩ (mkCells l) (.cells cs e (0, 0)) := by
  have hl := hv.length
  simp only [Array.length_toList] at hl
  refine ⟨(T.Ok_full _ _).setL, h, cs, e, (0, 0), rfl, by simp [hl], Nat.le_refl _, ?_, fun _ => ⟨Nat.le_refl _, fun o _ => by simp⟩⟩
  intro k hk
  obtain ⟨v, g1, g2⟩ := hv.get k l[k] (List.getElem?_eq_getElem hk)
  refine ⟨v, by simpa using g1, ?_⟩
  rw [mkCells_get l h k hk]; exact g2

def out32V (h : Nat → Nat) : Array Value := ((List.range 32).map fun i => Value.int .u8 (outN h i : Int)).toArray
def zero32V : Array Value := ((List.range 32).map fun _ => Value.int .u8 ((0 : Nat) : Int)).toArray

theorem out8_wp (h : Nat → Nat) {a : Act} {w : World} {g1 g2 g3 : Nat} {e1 e2 e3 : TypeId} (hs : a.tmps.size = 98) (t2 : a.tmps.getD 2 undef = .pointer (some ⟨g1, 0, none⟩)) (t3 : a.tmps.getD 3 undef = .pointer (some ⟨g2, 0, none⟩))
    (t10 : a.tmps.getD 10 undef = .pointer (some ⟨g3, 0, none⟩)) (h1 : w.heap[g1]? = some (.cells zero32V e1 (0, 0))) (h2 : w.heap[g2]? = some (.cells (rowV 8 h).toArray e2 (0, 0))) (h3 : w.heap[g3]? = some (.cells zero32V e3 (0, 0)))
    (n12 : g1 ≠ g2) (n13 : g1 ≠ g3) (n23 : g2 ≠ g3) {Q : Exit → Act → World → Prop}
    (hQ : ∀ a' w', a'.defers = a.defers → (results Tryd.f8 a'.tmps).run Tryd.prog w' = .ok (.agg (out32V h)) w' → (∀ B, B ≤ g1 → B ≤ g2 → B ≤ g3 → B ≤ w.heap.size → RowKit.Below B w w') → Q .ret a' w') : Code.wp Tryd.prog (d8 11) Q a w := by
  let ρ : Ren := fun i => if i = 0 then some ⟨0, 0, 0⟩ else if i = 1 then some ⟨g1, 0, 32⟩ else if i = 2 then some ⟨g2, 0, 8⟩ else if i = 3 then some ⟨g3, 0, 32⟩ else none
  have z1 : ∀ ρ : Ren, VRs ρ zero32 zero32V.toList := fun ρ => VRs_ofInts (fun _ => 0) .u8 (List.range 32)
  have z2 : ∀ ρ : Ren, VRs ρ (row32 8 h) (rowV 8 h).toArray.toList := fun ρ => VRs_ofInts h .u32 (List.range 8)
  have gA : (outSt h zero32 zero32).heap.get 0 = .dead := by kernel_rfl
  have gB : (outSt h zero32 zero32).heap.get 1 = mkCells zero32 := by kernel_rfl
  have gC : (outSt h zero32 zero32).heap.get 2 = mkCells (row32 8 h) := by kernel_rfl
  have gD : (outSt h zero32 zero32).heap.get 3 = mkCells zero32 := by kernel_rfl
  have hR : Rel ρ (outSt h zero32 zero32) w := by
    refine ⟨((T.Ok_full 3 _).set 1 _ |>.set 2 _ |>.set 3 _), (show (4 : Nat) ≤ 2 ^ 3 by decide), ?_, ?_, ?_⟩
    · intro i hi
      have hi' : 4 ≤ i := hi
      simp only [ρ]
      rw [if_neg (by omega), if_neg (by omega), if_neg (by omega), if_neg (by omega)]
    · intro i hi hl
      have hi' : i < 4 := hi
      have : i = 0 ∨ i = 1 ∨ i = 2 ∨ i = 3 := by omega
      rcases this with rfl | rfl | rfl | rfl
      · rw [gA] at hl; cases hl
      · exact ⟨⟨g1, 0, 32⟩, _, rfl, h1, by rw [gB]; exact ORel_mkCells (by decide) (z1 ρ)⟩
      · exact ⟨⟨g2, 0, 8⟩, _, rfl, h2, by rw [gC]; exact ORel_mkCells (by rw [show (row32 8 h).length = 8 by simp [row32]]; decide) (z2 ρ)⟩
      · exact ⟨⟨g3, 0, 32⟩, _, rfl, h3, by rw [gD]; exact ORel_mkCells (by decide) (z1 ρ)⟩
    · intro i j L M hi hj hne hl hw hL hM
      have hi' : i < 4 := hi
      have hj' : j < 4 := hj
      have c1 : i = 0 ∨ i = 1 ∨ i = 2 ∨ i = 3 := by omega
      have c2 : j = 0 ∨ j = 1 ∨ j = 2 ∨ j = 3 := by omega
      rcases c1 with rfl | rfl | rfl | rfl <;> rcases c2 with rfl | rfl | rfl | rfl <;> first
        | (exact absurd rfl hne)
        | (rw [gA] at hl; cases hl)
        | (rw [gA] at hw; cases hw)
        | (simp [ρ] at hL hM; subst hL; subst hM; simp; omega)
  have hG : Glob ρ 1 := fun g hg => by
    obtain rfl : g = 0 := by omega
    exact ⟨0, rfl⟩
  have hF : FR ρ outFr a.tmps := by
    refine FR_frOf (by decide) (by omega) _ ?_
    intro p hp
    simp only [List.mem_cons, List.not_mem_nil, or_false] at hp
    rcases hp with rfl | rfl | rfl
    · exact ⟨by decide, by rw [t2]; exact .ptr 1 0 ⟨g1, 0, 32⟩ rfl⟩
    · exact ⟨by decide, by rw [t3]; exact .ptr 2 0 ⟨g2, 0, 8⟩ rfl⟩
    · exact ⟨by decide, by rw [t10]; exact .ptr 3 0 ⟨g3, 0, 32⟩ rfl⟩
  refine wp_ret_of_tr (fn := Tryd.f8) (Tr.of_evK callS_ok follows_mix (out8 h) trivial) (out8_res h _) hF hR hG ?_
  intro a' w' vc ρ' hd hrun hv hg
  have hvc : vc = .agg (out32V h) := by
    have hv' : VR ρ' (.agg (outA h)) vc := hv
    cases hv' with | agg _ x ha =>
    have := VRs_ints (outN h) .u8 (List.range 32) _ ha
    obtain ⟨al⟩ := x
    simp only at this
    subst this
    rfl
  subst hvc
  refine hQ a' w' hd hrun (fun B b1 b2 b3 b4 => ⟨hg.os, hg.tape, hg.output, hg.size, fun k hk => hg.kept k (by omega) ?_⟩)
  intro i L hi hw hL
  have hi' : i < 4 := hi
  have c1 : i = 0 ∨ i = 1 ∨ i = 2 ∨ i = 3 := by omega
  rcases c1 with rfl | rfl | rfl | rfl
  · rw [gA] at hw; cases hw
  all_goals (simp [ρ] at hL; subst hL; simp; omega)

end
end Go.Ev
