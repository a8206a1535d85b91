/-
  The relation once more, over a heap that is a function: a part of it, what lies beside what runs, a block at a place that was kept free.
  A region that draws: what the evaluator's run says of each of its operations.
-/
import Derived.Test.YtecnddogdiikiaaGreatEvO
set_option linter.unusedVariables false
set_option linter.unusedSimpArgs false
namespace Go.Ev
open Go
noncomputable section

structure HRel (ρ : Ren) (g : Nat → AO) (n : Nat) (w : World) : Prop where
  fresh : ∀ i, n ≤ i → ρ i = none
  live : ∀ i, i < n → (g i).live = true → ∃ L ob, ρ i = some L ∧ w.heap[L.b]? = some ob ∧ ORel ρ L (g i) ob
  inj : ∀ i j L M, i < n → j < n → i ≠ j → (g i).live = true → (g j).writable = true → ρ i = some L → ρ j = some M → L.b ≠ M.b

structure HGood (ρ : Ren) (g : Nat → AO) (n : Nat) (w : World) (ρ' : Ren) (g' : Nat → AO) (n' : Nat) (w' : World) : Prop where
  ext : Ext ρ ρ'
  rel : HRel ρ' g' n' w'
  next : n ≤ n'
  size : w.heap.size ≤ w'.heap.size
  os : w'.os = w.os
  tape : w'.tape = w.tape
  output : w'.output = w.output
  kept : ∀ b, b < w.heap.size → (∀ i L, i < n → (g i).writable = true → ρ i = some L → L.b ≠ b) → w'.heap[b]? = w.heap[b]?
  owns : ∀ i L, i < n' → (g' i).live = true → ρ' i = some L → L.b < w.heap.size →
    ∃ j M, j < n ∧ (g j).live = true ∧ ρ j = some M ∧ M.b = L.b ∧ ((g' i).writable = true → (g j).writable = true)
  dead : ∀ i, i < n → (g i).live = false → (g' i).live = false
  old : ∀ i, i < n → ρ' i = ρ i

theorem Rel.h {ρ : Ren} {st : St} {w : World} (h : Rel ρ st w) : HRel ρ st.heap.get st.next w := ⟨h.fresh, h.live, h.inj⟩
theorem HRel.rel {ρ : Ren} {st : St} {w : World} (h : HRel ρ st.heap.get st.next w) (hok : T.Ok st.dep st.heap) (hlt : st.next ≤ 2 ^ st.dep) : Rel ρ st w := ⟨hok, hlt, h.fresh, h.live, h.inj⟩
theorem Good.h {ρ ρ' : Ren} {st st' : St} {w w' : World} (h : Good ρ st w ρ' st' w') : HGood ρ st.heap.get st.next w ρ' st'.heap.get st'.next w' :=
  ⟨h.ext, h.rel.h, h.next, h.size, h.os, h.tape, h.output, h.kept, h.owns, h.dead, h.old⟩
theorem HGood.good {ρ ρ' : Ren} {st st' : St} {w w' : World} (h : HGood ρ st.heap.get st.next w ρ' st'.heap.get st'.next w') (hok : T.Ok st'.dep st'.heap) (hlt : st'.next ≤ 2 ^ st'.dep) (hd : st'.dep = st.dep) :
    Good ρ st w ρ' st' w' := ⟨h.ext, h.rel.rel hok hlt, hd, h.next, h.size, h.os, h.tape, h.output, h.kept, h.owns, h.dead, h.old⟩

theorem not_live {o : AO} (h : o.live = false) : o = .dead := by cases o <;> simp_all [AO.live]

/-- A heap is what its cells say. -/
theorem HGood.congr {ρ ρ' : Ren} {g g' g'' : Nat → AO} {n n' : Nat} {w w' : World} (h : HGood ρ g n w ρ' g' n' w') (e : ∀ i, i < n' → g'' i = g' i) : HGood ρ g n w ρ' g'' n' w' := by
  have hn := h.next
  refine ⟨h.ext, ⟨h.rel.fresh, ?_, ?_⟩, h.next, h.size, h.os, h.tape, h.output, h.kept, ?_, ?_, h.old⟩
  · intro i hi hl; rw [e i hi] at hl ⊢; exact h.rel.live i hi hl
  · intro i j L M hi hj hne hl hw; rw [e i hi] at hl; rw [e j hj] at hw; exact h.rel.inj i j L M hi hj hne hl hw
  · intro i L hi hl; rw [e i hi] at hl ⊢; exact h.owns i L hi hl
  · intro i hi hd; rw [e i (by omega)]; exact h.dead i hi hd

/-- A part of what is known is known. -/
theorem HRel.sub {ρ : Ren} {g g' : Nat → AO} {n : Nat} {w : World} (h : HRel ρ g n w) (hs : ∀ i, i < n → (g' i).live = true → g' i = g i) : HRel ρ g' n w := by
  refine ⟨h.fresh, ?_, ?_⟩
  · intro i hi hl
    have := hs i hi hl
    rw [this] at hl ⊢
    exact h.live i hi hl
  · intro i j L M hi hj hne hl hw hL hM
    have h1 := hs i hi hl
    have h2 := hs j hj (AO.live_of_writable hw)
    rw [h1] at hl; rw [h2] at hw
    exact h.inj i j L M hi hj hne hl hw hL hM

theorem HRel.lt {ρ : Ren} {g : Nat → AO} {n : Nat} {w : World} (h : HRel ρ g n w) {i : Nat} {L : Loc} (hi : i < n) (hl : (g i).live = true) (hL : ρ i = some L) : L.b < w.heap.size := by
  obtain ⟨L', ob, h1, h2, _⟩ := h.live i hi hl
  rw [hL] at h1; cases h1
  exact (Array.getElem?_eq_some_iff.1 h2).1

/-- What lies beside what runs stays as it is. -/
theorem HGood.frame {ρ ρ' : Ren} {g g0 g1 g' : Nat → AO} {n n1 : Nat} {w w' : World} (hR : HRel ρ g n w) (hs : ∀ i, i < n → (g0 i).live = true → g0 i = g i)
    (h : HGood ρ g0 n w ρ' g1 n1 w') (hg : ∀ i, i < n1 → g' i = if i < n ∧ (g0 i).live = false then g i else g1 i) : HGood ρ g n w ρ' g' n1 w' := by
  have hn := h.next
  -- an object of the new heap: one that lay beside, or one of the run's
  have hcase : ∀ i, i < n1 → (g' i).live = true → (i < n ∧ (g0 i).live = false ∧ (g i).live = true ∧ g' i = g i) ∨ ((g1 i).live = true ∧ g' i = g1 i ∧ (i < n → (g0 i).live = true)) := by
    intro i hi hl
    rw [hg i hi] at hl ⊢
    by_cases hc : i < n ∧ (g0 i).live = false
    · rw [if_pos hc] at hl ⊢; exact .inl ⟨hc.1, hc.2, hl, rfl⟩
    · rw [if_neg hc] at hl ⊢
      refine .inr ⟨hl, rfl, fun hin => ?_⟩
      cases hq : (g0 i).live with
      | true => rfl
      | false => exact absurd ⟨hin, hq⟩ hc
  have hkeep : ∀ i L ob, i < n → (g0 i).live = false → (g i).live = true → ρ i = some L → w.heap[L.b]? = some ob → w'.heap[L.b]? = some ob := by
    intro i L ob hi hd hl hL hob
    rw [h.kept L.b (Array.getElem?_eq_some_iff.1 hob).1]
    · exact hob
    · intro j M hj hjw hM
      have hji : i ≠ j := by rintro rfl; rw [AO.live_of_writable hjw] at hd; cases hd
      have hgj := hs j hj (AO.live_of_writable hjw)
      rw [hgj] at hjw
      exact (hR.inj i j L M hi hj hji hl hjw hL hM).symm
  refine ⟨h.ext, ⟨h.rel.fresh, ?_, ?_⟩, h.next, h.size, h.os, h.tape, h.output, ?_, ?_, ?_, h.old⟩
  · intro i hi hl
    rcases hcase i hi hl with ⟨h1, h2, h3, h4⟩ | ⟨h1, h2, _⟩
    · rw [h4]
      obtain ⟨L, ob, q1, q2, q3⟩ := hR.live i h1 h3
      exact ⟨L, ob, h.ext _ _ q1, hkeep i L ob h1 h2 h3 q1 q2, q3.ext h.ext⟩
    · rw [h2]; exact h.rel.live i hi h1
  · intro i j L M hi hj hne hl hw hL hM
    rcases hcase i hi hl with ⟨a1, a2, a3, a4⟩ | ⟨a1, a2, a5⟩ <;> rcases hcase j hj (AO.live_of_writable hw) with ⟨b1, b2, b3, b4⟩ | ⟨b1, b2, b5⟩
    · rw [b4] at hw
      rw [h.old i a1] at hL
      rw [h.old j b1] at hM
      exact hR.inj i j L M a1 b1 hne a3 hw hL hM
    · rw [b2] at hw
      rw [h.old i a1] at hL
      have hLlt := hR.lt a1 a3 hL
      by_cases hb : M.b < w.heap.size
      · obtain ⟨k, K, hk, hkl, hK, hKM, hkw⟩ := h.owns j M hj b1 hM hb
        have hki : i ≠ k := by rintro rfl; rw [hkl] at a2; cases a2
        have hgk := hs k hk hkl
        have hkw' := hkw hw
        rw [hgk] at hkw'
        have := hR.inj i k L K a1 hk hki a3 hkw' hL hK
        omega
      · omega
    · rw [b4] at hw
      rw [h.old j b1] at hM
      have hMlt := hR.lt b1 b3 hM
      by_cases hb : L.b < w.heap.size
      · obtain ⟨k, K, hk, hkl, hK, hKL, _⟩ := h.owns i L hi a1 hL hb
        have hkj : k ≠ j := by rintro rfl; rw [hkl] at b2; cases b2
        have hgk := hs k hk hkl
        rw [hgk] at hkl
        have := hR.inj k j K M hk b1 hkj hkl hw hK hM
        omega
      · omega
    · rw [b2] at hw
      exact h.rel.inj i j L M hi hj hne a1 hw hL hM
  · intro b hb hno
    refine h.kept b hb ?_
    intro i L hi hw hL
    have hgi := hs i hi (AO.live_of_writable hw)
    rw [hgi] at hw
    exact hno i L hi hw hL
  · intro i L hi hl hL hb
    rcases hcase i hi hl with ⟨a1, a2, a3, a4⟩ | ⟨a1, a2, a5⟩
    · rw [h.old i a1] at hL
      exact ⟨i, L, a1, a3, hL, rfl, by rw [a4]; exact id⟩
    · obtain ⟨j, M, hj, hjl, hM, hML, hjw⟩ := h.owns i L hi a1 hL hb
      have hgj := hs j hj hjl
      rw [hgj] at hjl hjw
      exact ⟨j, M, hj, hjl, hM, hML, by rw [a2]; exact hjw⟩
  · intro i hi hd
    rw [hg i (by omega)]
    by_cases hc : (g0 i).live = false
    · rw [if_pos ⟨hi, hc⟩]; exact hd
    · rw [if_neg (fun q => hc q.2)]
      have hl : (g0 i).live = true := by cases hq : (g0 i).live <;> simp_all
      rw [hs i hi hl] at hl
      rw [hl] at hd; cases hd

theorem HGood.trans {ρ₁ ρ₂ ρ₃ : Ren} {g₁ g₂ g₃ : Nat → AO} {n₁ n₂ n₃ : Nat} {w₁ w₂ w₃ : World} (h : HGood ρ₁ g₁ n₁ w₁ ρ₂ g₂ n₂ w₂) (g : HGood ρ₂ g₂ n₂ w₂ ρ₃ g₃ n₃ w₃) : HGood ρ₁ g₁ n₁ w₁ ρ₃ g₃ n₃ w₃ := by
  refine ⟨h.ext.trans g.ext, g.rel, Nat.le_trans h.next g.next, Nat.le_trans h.size g.size, g.os.trans h.os, g.tape.trans h.tape, g.output.trans h.output, ?_, ?_, ?_, ?_⟩
  · intro b hb hno
    rw [g.kept b (Nat.lt_of_lt_of_le hb h.size), h.kept b hb hno]
    intro i L hi hw hρ hLb
    obtain ⟨j, M, hj, _, hjρ, hM, hjw⟩ := h.owns i L hi (AO.live_of_writable hw) hρ (by omega)
    exact hno j M hj (hjw hw) hjρ (by omega)
  · intro i L hi hw hρ hLb
    obtain ⟨j, M, hj, hjl, hjρ, hM, hjw⟩ := g.owns i L hi hw hρ (Nat.lt_of_lt_of_le hLb h.size)
    obtain ⟨k, N, hk, hkl, hkρ, hN, hkw⟩ := h.owns j M hj hjl hjρ (by omega)
    exact ⟨k, N, hk, hkl, hkρ, by omega, fun q => hkw (hjw q)⟩
  · intro i hi hd
    exact g.dead i (Nat.lt_of_lt_of_le hi h.next) (h.dead i hi hd)
  · intro i hi
    rw [g.old i (Nat.lt_of_lt_of_le hi h.next), h.old i hi]

/-- A new block at a place that was kept free for it. -/
theorem HGood.addAt {ρ₀ ρ : Ren} {g₀ g g' : Nat → AO} {n₀ n : Nat} {w₀ w w' : World} (h : HGood ρ₀ g₀ n₀ w₀ ρ g n w) {id : Nat} {L : Loc} {o : AO} {ob : Obj} (hid : id < n) (hid₀ : n₀ ≤ id)
    (hρ : ρ id = none) (hLb : L.b = w.heap.size) (hheap : w'.heap = w.heap.push ob) (hs : SameOut w w') (ho : ORel (ρ.set id L) L o ob)
    (hg : ∀ i, i < n → g' i = if i = id then o else g i) : HGood ρ₀ g₀ n₀ w₀ (ρ.set id L) g' n w' := by
  have hext : Ext ρ (ρ.set id L) := Ren.ext_set hρ
  have hgd : (g id).live = false := by
    cases hq : (g id).live with
    | false => rfl
    | true => obtain ⟨M, _, hM, _⟩ := h.rel.live id hid hq; rw [hρ] at hM; cases hM
  have hblk : ∀ b, b < w.heap.size → w'.heap[b]? = w.heap[b]? := fun b hb => by rw [hheap, Array.getElem?_push]; simp [Nat.ne_of_lt hb]
  have hnew : w'.heap[L.b]? = some ob := by rw [hheap, hLb]; simp
  have hold : ∀ i, i ≠ id → ρ.set id L i = ρ i := fun i hi => Ren.set_ne hi
  refine ⟨h.ext.trans hext, ⟨?_, ?_, ?_⟩, h.next, by rw [hheap]; simp; have := h.size; omega, hs.os.trans h.os, hs.tape.trans h.tape, hs.output.trans h.output, ?_, ?_, ?_, ?_⟩
  · intro i hi; rw [hold i (by omega)]; exact h.rel.fresh i hi
  · intro i hi hl
    rw [hg i hi] at hl ⊢
    by_cases e : i = id
    · subst e; rw [if_pos rfl]; exact ⟨L, ob, Ren.set_same _ _ _, hnew, ho⟩
    · rw [if_neg e] at hl ⊢
      obtain ⟨M, om, q1, q2, q3⟩ := h.rel.live i hi hl
      exact ⟨M, om, hext _ _ q1, by rw [hblk _ (Array.getElem?_eq_some_iff.1 q2).1]; exact q2, q3.ext hext⟩
  · intro i j M N hi hj hne hl hw hM hN
    rw [hg i hi] at hl
    rw [hg j hj] at hw
    by_cases e : i = id
    · subst e
      rw [if_neg (Ne.symm hne)] at hw
      rw [hold j (Ne.symm hne)] at hN
      rw [Ren.set_same] at hM; cases hM
      have := h.rel.lt hj (AO.live_of_writable hw) hN
      omega
    · rw [if_neg e] at hl
      rw [hold i e] at hM
      have h1 := h.rel.lt hi hl hM
      by_cases e' : j = id
      · subst e'
        rw [Ren.set_same] at hN; cases hN
        omega
      · rw [if_neg e'] at hw
        rw [hold j e'] at hN
        exact h.rel.inj i j M N hi hj hne hl hw hM hN
  · intro b hb hno
    rw [hblk b (Nat.lt_of_lt_of_le hb h.size)]
    exact h.kept b hb hno
  · intro i M hi hl hM hb
    rw [hg i hi] at hl ⊢
    by_cases e : i = id
    · subst e; rw [Ren.set_same] at hM; cases hM; have := h.size; omega
    · rw [if_neg e] at hl ⊢
      rw [hold i e] at hM
      exact h.owns i M hi hl hM hb
  · intro i hi hd
    have hn := h.next
    rw [hg i (by omega), if_neg (by omega)]
    exact h.dead i hi hd
  · intro i hi
    rw [hold i (by omega)]
    exact h.old i hi

/-- A mark upon a block of the run's own. -/
theorem HGood.mark {ρ₀ ρ : Ren} {g₀ g : Nat → AO} {n₀ n : Nat} {w₀ w w' : World} (h : HGood ρ₀ g₀ n₀ w₀ ρ g n w) {B : Nat} (hs : SameOut w w') (hz : w'.heap.size = w.heap.size)
    (hb : ∀ b, w'.heap[b]? = if b = B then (w.heap[b]?).map marked else w.heap[b]?) (hB : w₀.heap.size ≤ B) (hown : ∃ j M, j < n ∧ (g j).brow = true ∧ ρ j = some M ∧ M.b = B) : HGood ρ₀ g₀ n₀ w₀ ρ g n w' := by
  refine ⟨h.ext, ⟨h.rel.fresh, ?_, h.rel.inj⟩, h.next, by rw [hz]; exact h.size, hs.os.trans h.os, hs.tape.trans h.tape, hs.output.trans h.output, ?_, h.owns, h.dead, h.old⟩
  · intro i hi hl
    obtain ⟨L, ob, h1, h2, h3⟩ := h.rel.live i hi hl
    by_cases e : L.b = B
    · obtain ⟨j, M, hj, hjb, hjM, hM⟩ := hown
      have hij : i = j := by
        by_cases hij : i = j
        · exact hij
        · exact absurd (e.trans hM.symm) (h.rel.inj i j L M hi hj hij hl (row_writable (AO.row_of_brow hjb)) h1 hjM)
      subst hij
      exact ⟨L, marked ob, h1, by rw [hb, if_pos e, h2]; rfl, h3.marked hjb⟩
    · exact ⟨L, ob, h1, by rw [hb, if_neg e]; exact h2, h3⟩
  · intro b hlt hno
    rw [hb, if_neg (by omega)]
    exact h.kept b hlt hno

end
end Go.Ev

namespace Go.Ev
open Go
noncomputable section

/-! ### What must come before -/
theorem ancsGo_old : ∀ (l : List Oper) (ms : List Nat) (i : Nat), i < ms.length → (ancsGo l ms).getD i 0 = ms.getD i 0 := by
  intro l
  induction l with
  | nil => intros; rfl
  | cons o l ih =>
    intro ms i hi
    rw [ancsGo, ih _ _ (by simp; omega)]
    simp [List.getD, List.getElem?_append_left hi]

theorem ancsGo_length : ∀ (l : List Oper) (ms : List Nat), (ancsGo l ms).length = ms.length + l.length := by
  intro l
  induction l with
  | nil => intros; rfl
  | cons o l ih => intro ms; rw [ancsGo, ih]; simp; omega

theorem edgeMask_congr {ms ms' : List Nat} : ∀ (es : List Edge), (∀ e ∈ es, Region.binds .any e = true → ms.getD e.on 0 = ms'.getD e.on 0) → edgeMask ms es = edgeMask ms' es := by
  intro es
  induction es with
  | nil => intros; rfl
  | cons e es ih =>
    intro h
    simp only [edgeMask]
    rw [ih (fun x hx => h x (by simp [hx]))]
    cases hb : Region.binds .any e with
    | false => rfl
    | true => rw [h e (by simp) hb]

theorem ancsGo_get : ∀ (l : List Oper) (ms : List Nat) (k : Nat) (o : Oper), l[k]? = some o → (∀ e ∈ o.after.toList, Region.binds .any e = true → e.on < ms.length + k) →
    (ancsGo l ms).getD (ms.length + k) 0 = edgeMask (ancsGo l ms) o.after.toList := by
  intro l
  induction l with
  | nil => intro ms k o h; simp at h
  | cons x l ih =>
    intro ms k o h he
    cases k with
    | zero =>
      simp at h; subst h
      rw [ancsGo, ancsGo_old _ _ _ (by simp)]
      simp only [Nat.add_zero] at he ⊢
      have : (ms ++ [edgeMask ms x.after.toList]).getD ms.length 0 = edgeMask ms x.after.toList := by simp [List.getD]
      rw [this]
      apply edgeMask_congr
      intro e hm hb
      have := he e hm hb
      rw [ancsGo_old _ _ _ (by simp; omega)]
      simp [List.getD, List.getElem?_append_left this]
    | succ k =>
      simp only [List.getElem?_cons_succ] at h
      have := ih (ms ++ [edgeMask ms x.after.toList]) k o h (fun e hm hb => by have := he e hm hb; simp; omega)
      rw [List.length_append, List.length_singleton, show ms.length + 1 + k = ms.length + (k + 1) by omega] at this
      exact this

theorem edgeMask_bit {ms : List Nat} {r : Nat} : ∀ (es : List Edge), (edgeMask ms es).testBit r = true → ∃ e ∈ es, Region.binds .any e = true ∧ (r = e.on ∨ (ms.getD e.on 0).testBit r = true) := by
  intro es
  induction es with
  | nil => intro h; simp [edgeMask] at h
  | cons e es ih =>
    intro h
    simp only [edgeMask] at h
    cases hb : Region.binds .any e with
    | false =>
      rw [hb] at h; simp only [cond_false] at h
      obtain ⟨x, hx, h1, h2⟩ := ih h
      exact ⟨x, by simp [hx], h1, h2⟩
    | true =>
      rw [hb] at h; simp only [cond_true, Nat.testBit_or, Bool.or_eq_true] at h
      rcases h with (h | h) | h
      · rw [Nat.testBit_two_pow] at h
        exact ⟨e, by simp, hb, .inl (by simpa using h : e.on = r).symm⟩
      · exact ⟨e, by simp, hb, .inr h⟩
      · obtain ⟨x, hx, h1, h2⟩ := ih h
        exact ⟨x, by simp [hx], h1, h2⟩

theorem memT_iff {t : Nat} : ∀ {l : List Nat}, memT t l = true ↔ t ∈ l := by
  intro l
  induction l with
  | nil => simp [memT]
  | cons x l ih =>
    simp only [memT]
    cases hb : Nat.beq t x with
    | true => have := beq_iff.1 hb; simp [this]
    | false =>
      simp only [cond_false, ih, List.mem_cons]
      constructor
      · exact .inr
      · rintro (rfl | h)
        · simp at hb
        · exact h

theorem okOne_spec {P : Program} {ops : Array Oper} {mask : Nat} {o : Oper} : ∀ (l : List Oper) (k : Nat), okOne P ops mask o l k = true → ∀ j q, l[j]? = some q → conflictD P ops q o = true → mask.testBit (k + j) = true := by
  intro l
  induction l with
  | nil => intro k _ j q h; simp at h
  | cons x l ih =>
    intro k h j q hq hc
    simp only [okOne, Bool.and_eq_true] at h
    cases j with
    | zero => simp at hq; subst hq; rw [hc] at h; simpa using h.1
    | succ j =>
      simp only [List.getElem?_cons_succ] at hq
      have := ih (k + 1) h.2 j q hq hc
      rwa [show k + 1 + j = k + (j + 1) by omega] at this

structure StaticOk (P : Program) (ops : Array Oper) (ms : List Nat) : Prop where
  edge : ∀ p o, ops[p]? = some o → ∀ e ∈ o.after.toList, Region.binds .any e = true → e.on < p
  conf : ∀ p o q oq, ops[p]? = some o → ops[q]? = some oq → q < p → conflictD P ops oq o = true → (ms.getD p 0).testBit q = true

theorem staticOk_spec {P : Program} {ops : Array Oper} {ms : List Nat} : ∀ (l done : List Oper), staticOk P ops ms done l done.length = true →
    (∀ k o, l[k]? = some o → (∀ e ∈ o.after.toList, Region.binds .any e = true → e.on < done.length + k) ∧
      ∀ q oq, (done ++ l)[q]? = some oq → q < done.length + k → conflictD P ops oq o = true → (ms.getD (done.length + k) 0).testBit q = true) := by
  intro l
  induction l with
  | nil => intro done _ k o h; simp at h
  | cons x l ih =>
    intro done h k o hk
    simp only [staticOk, Bool.and_eq_true] at h
    obtain ⟨⟨h1, h2⟩, h3⟩ := h
    cases k with
    | zero =>
      simp at hk; subst hk
      refine ⟨fun e he hb => ?_, fun q oq hq hlt hc => ?_⟩
      · have := List.all_eq_true.1 h1 e he
        rw [hb] at this
        simp only [Bool.not_true, Bool.false_or] at this
        exact blt_iff.1 this
      · simp only [Nat.add_zero] at hlt ⊢
        rw [List.getElem?_append_left hlt] at hq
        have := okOne_spec done 0 h2 q oq hq hc
        simpa using this
    | succ k =>
      simp only [List.getElem?_cons_succ] at hk
      have := ih (done ++ [x]) (by simpa using h3) k o hk
      simp only [List.length_append, List.length_singleton, List.append_assoc, List.singleton_append] at this
      rw [show done.length + 1 + k = done.length + (k + 1) by omega] at this
      exact this

theorem static_of {P : Program} {ops : Array Oper} {ms : List Nat} (h : staticOk P ops ms [] ops.toList 0 = true) : StaticOk P ops ms := by
  have := staticOk_spec ops.toList [] (by simpa using h)
  simp only [List.length_nil, Nat.zero_add, List.nil_append] at this
  refine ⟨fun p o hp => (this p o (by simpa using hp)).1, fun p o q oq hp hq hlt hc => (this p o (by simpa using hp)).2 q oq (by simpa using hq) hlt hc⟩

/-- D holds all that must come before what it holds; all that must come directly before p: then all that must come before it. -/
theorem anc_in {P : Program} {ops : Array Oper} (hst : StaticOk P ops (ancsOf ops)) {D : Nat → Bool} (hcl : ∀ p, p < ops.size → D p = true → ∀ r, ((ancsOf ops).getD p 0).testBit r = true → D r = true)
    {p : Nat} {o : Oper} (hp : ops[p]? = some o) (hd : ∀ e ∈ o.after.toList, Region.binds .any e = true → D e.on = true) : ∀ r, ((ancsOf ops).getD p 0).testBit r = true → D r = true := by
  intro r hr
  have hget := ancsGo_get ops.toList [] p o (by simpa using hp) (by simpa using hst.edge p o hp)
  simp only [List.length_nil, Nat.zero_add] at hget
  unfold ancsOf at hr
  rw [hget] at hr
  obtain ⟨e, he, hb, h | h⟩ := edgeMask_bit _ hr
  · subst h; exact hd e he hb
  · have hlt := hst.edge p o hp e he hb
    have hps : p < ops.size := (Array.getElem?_eq_some_iff.1 hp).1
    exact hcl e.on (by omega) (hd e he hb) r h

/-! ### The steps of the run -/
structure Run (P : Program) (G : Nat) (call : CallF) (ops : Array Oper) (lim : Nat) (ms : List Nat) (ds : Nat → DS) (vs : Nat → AV) : Prop where
  step : ∀ p o, ops[p]? = some o → dStep ⟨P, G, call, ops, lim⟩ p (ms.getD p 0) o (ds p) = some (vs p, ds (p + 1))

theorem dGo_seq {D : DIn} : ∀ (l : List Oper) (ms : List Nat) (p : Nat) (s s' : DS), dGo D l ms p s = some s' →
    ∃ (ds : Nat → DS) (vs : Nat → AV), ds p = s ∧ ds (p + l.length) = s' ∧ ∀ k o, l[k]? = some o → dStep D (p + k) (ms.getD k 0) o (ds (p + k)) = some (vs (p + k), ds (p + k + 1)) := by
  intro l
  induction l with
  | nil =>
    intro ms p s s' h
    have h' : some s = some s' := h
    cases h'
    exact ⟨fun _ => s, fun _ => .top, rfl, rfl, by intro k o hk; simp at hk⟩
  | cons o l ih =>
    intro ms p s s' h
    cases ms with
    | nil => have h' : (none : Option DS) = some s' := h; cases h'
    | cons m ms =>
      have h' : thenD (dGo D l ms (p + 1)) (dStep D p m o s) = some s' := h
      unfold thenD at h'
      split at h'
      · rename_i v s1 hs
        obtain ⟨ds, vs, h1, h2, h3⟩ := ih ms (p + 1) s1 s' h'
        refine ⟨fun i => if i = p then s else ds i, fun i => if i = p then v else vs i, by simp, ?_, ?_⟩
        · simp only [List.length_cons]
          rw [if_neg (by omega), show p + (l.length + 1) = p + 1 + l.length by omega]; exact h2
        · intro k o' hk
          cases k with
          | zero =>
            simp at hk; subst hk
            simp only [Nat.add_zero, if_true, Nat.succ_ne_self, if_false, List.getD_cons_zero]
            rw [h1]; exact hs
          | succ k =>
            simp only [List.getElem?_cons_succ] at hk
            have := h3 k o' hk
            have e1 : ¬ p + 1 + k = p := by omega
            have e2 : ¬ p + 1 + k + 1 = p := by omega
            rw [show p + (k + 1) = p + 1 + k by omega]
            simp only [e1, e2, if_false, List.getD_cons_succ]
            exact this
      · cases h'

theorem dFin_some {o : Oper} {fr : Fr} {r v : AV} {st : St} {pend : List (Nat × Nat × AO)} {hist : List (Nat × St)} {rds : List (Nat × Oper × Fr × AV)} {softs : List (Nat × Nat)} {nid : Nat} {s : DS}
    (h : dFin o fr r st pend hist rds softs nid = some (v, s)) : v = r ∧ ∃ f, fr.put o.dst r = some f ∧ s = ⟨f, st, pend, hist, rds, softs, nid⟩ := by
  unfold dFin at h
  split at h
  · rename_i f hf
    simp only [Option.some.injEq, Prod.mk.injEq] at h
    exact ⟨h.1.symm, f, hf, h.2.symm⟩
  · cases h

section facts
variable {P : Program} {G : Nat} {call : CallF} {ops : Array Oper} {lim : Nat} {ms : List Nat} {ds : Nat → DS} {vs : Nat → AV}

/-- An operation that is carried out, of a class. -/
def Is (P : Program) (ops : Array Oper) (ds : Nat → DS) (c : Cls) (p : Nat) (o : Oper) : Prop := ops[p]? = some o ∧ wantedA ops (ds p).fr o = some true ∧ clsOf P o.op = c

/-- What a step says, by its class. -/
inductive StepSays (P : Program) (G : Nat) (call : CallF) (ops : Array Oper) (lim : Nat) (p mask : Nat) (o : Oper) (s : DS) (v : AV) (s' : DS) : Prop where
  | skip (hw : wantedA ops s.fr o = some false) (hv : v = undefA) (hs : s' = ⟨s'.fr, s.st, s.pend, s.hist, s.rds, s.softs, s.nid⟩)
  | pure (hw : wantedA ops s.fr o = some true) (hc : clsOf P o.op = .pure) (hr : opPure P o.op (valR G (o.looksAt ops) s.fr) = some v) (hs : s' = ⟨s'.fr, s.st, s.pend, s.hist, s.rds, s.softs, s.nid⟩)
  | read (hw : wantedA ops s.fr o = some true) (hc : clsOf P o.op = .read) (hr : opRead P o.op (valR G (o.looksAt ops) s.fr) s.st = some v) (hh : histOk P G ops o s.fr v mask s.hist = true)
      (hs : s' = ⟨s'.fr, s.st, s.pend, s.hist, (p, o, s.fr, v) :: s.rds, s.softs, s.nid⟩)
  | alloc (ao : AO) (f : Nat → AV) (hw : wantedA ops s.fr o = some true) (hc : clsOf P o.op = .alloc) (hr : opAlloc P o.op (valR G (o.looksAt ops) s.fr) = some (ao, f)) (hn : s.nid < lim) (hv : v = f s.nid)
      (hs : s' = ⟨s'.fr, s.st, (p, s.nid, ao) :: s.pend, s.hist, s.rds, s.softs, s.nid + 1⟩)
  | soft (i off len cap es : Nat) (hw : wantedA ops s.fr o = some true) (hc : clsOf P o.op = .soft) (hr : softA P o.op (valR G (o.looksAt ops) s.fr) = some v) (hv : v = .slice i off len cap es)
      (hp : pendRow mask i s.pend = true) (hs : s' = ⟨s'.fr, s.st, s.pend, s.hist, s.rds, (p, i) :: s.softs, s.nid⟩)
  | heavy (hw : wantedA ops s.fr o = some true) (hc : clsOf P o.op = .heavy) (hso : softsOk mask s.softs s.pend = true) (hr : opHeavy P call o.op (valR G (o.looksAt ops) s.fr) (matSt mask s.st s.pend) = some (v, s'.st))
      (hrd : rdsOk P G ops mask s'.st s.rds = true) (hs : s' = ⟨s'.fr, s'.st, restP mask s.pend, (p, s.st) :: s.hist, s.rds, s.softs, s.nid⟩)

theorem step_says {p mask : Nat} {o : Oper} {s s' : DS} {v : AV} (h : dStep ⟨P, G, call, ops, lim⟩ p mask o s = some (v, s')) : s.fr.put o.dst v = some s'.fr ∧ StepSays P G call ops lim p mask o s v s' := by
  obtain ⟨fr, st, pend, hist, rds, softs, nid⟩ := s
  unfold dStep at h
  simp only [DS.frA] at h
  split at h
  · cases h
  · rename_i hw
    simp only [dSkip] at h
    obtain ⟨rfl, f, hf, rfl⟩ := dFin_some h
    exact ⟨hf, .skip hw rfl rfl⟩
  · rename_i hw
    cases hc : clsOf P o.op with
    | pure =>
      rw [hc] at h
      simp only [dCls, dPure] at h
      split at h
      · rename_i r hr
        obtain ⟨rfl, f, hf, rfl⟩ := dFin_some h
        rw [opPureF_eq] at hr
        exact ⟨hf, .pure hw hc hr rfl⟩
      · cases h
    | read =>
      rw [hc] at h
      simp only [dCls, dRead] at h
      split at h
      · rename_i r hr
        cases hh : histOk P G ops o fr r mask hist with
        | false => rw [hh] at h; simp at h
        | true =>
          rw [hh] at h; simp only [cond_true] at h
          obtain ⟨rfl, f, hf, rfl⟩ := dFin_some h
          exact ⟨hf, .read hw hc hr hh rfl⟩
      · cases h
    | alloc =>
      rw [hc] at h
      simp only [dCls, dAlloc] at h
      split at h
      · rename_i ao fn hr
        cases hh : Nat.blt nid lim with
        | false => rw [hh] at h; simp at h
        | true =>
          rw [hh] at h; simp only [cond_true] at h
          obtain ⟨rfl, f, hf, rfl⟩ := dFin_some h
          exact ⟨hf, .alloc ao fn hw hc hr (blt_iff.1 hh) rfl rfl⟩
      · cases h
    | soft =>
      rw [hc] at h
      simp only [dCls, dSoft] at h
      split at h
      · rename_i i off len cap es hr
        cases hh : pendRow mask i pend with
        | false => rw [hh] at h; simp at h
        | true =>
          rw [hh] at h; simp only [cond_true] at h
          obtain ⟨rfl, f, hf, rfl⟩ := dFin_some h
          exact ⟨hf, .soft i off len cap es hw hc hr rfl hh rfl⟩
      · cases h
    | heavy =>
      rw [hc] at h
      simp only [dCls, dHeavy] at h
      cases hso : softsOk mask softs pend with
      | false => rw [hso] at h; simp at h
      | true =>
        rw [hso] at h; simp only [cond_true] at h
        split at h
        · rename_i r st' hr
          cases hh : rdsOk P G ops mask st' rds with
          | false => rw [hh] at h; simp at h
          | true =>
            rw [hh] at h; simp only [cond_true] at h
            obtain ⟨rfl, f, hf, rfl⟩ := dFin_some h
            exact ⟨hf, .heavy hw hc hso hr hh rfl⟩
        · cases h

theorem Run.says (hr : Run P G call ops lim ms ds vs) {p : Nat} {o : Oper} (hp : ops[p]? = some o) :
    (ds p).fr.put o.dst (vs p) = some (ds (p + 1)).fr ∧ StepSays P G call ops lim p (ms.getD p 0) o (ds p) (vs p) (ds (p + 1)) := step_says (hr.step p o hp)

/-- the state stands between two heavy ones -/
theorem Run.st_same (hr : Run P G call ops lim ms ds vs) {x y : Nat} (hxy : x ≤ y) (hy : y ≤ ops.size) (hno : ∀ h o, Is P ops ds .heavy h o → x ≤ h → h < y → False) : (ds y).st = (ds x).st := by
  induction y with
  | zero => have : x = 0 := by omega
            subst this; rfl
  | succ y ih =>
    by_cases e : x = y + 1
    · subst e; rfl
    · rw [← ih (by omega) (by omega) (fun h o hh h1 h2 => hno h o hh h1 (by omega))]
      obtain ⟨o, ho⟩ : ∃ o, ops[y]? = some o := ⟨_, Array.getElem?_eq_getElem (by omega)⟩
      obtain ⟨_, hs⟩ := hr.says ho
      cases hs with
      | skip _ _ hs => rw [hs]
      | pure _ _ _ hs => rw [hs]
      | read _ _ _ _ hs => rw [hs]
      | alloc _ _ _ _ _ _ _ hs => rw [hs]
      | soft _ _ _ _ _ _ _ _ _ _ hs => rw [hs]
      | heavy hw hc _ _ _ _ => exact (hno y o ⟨ho, hw, hc⟩ (by omega) (by omega)).elim

theorem Run.hist_spec (hr : Run P G call ops lim ms ds vs) {o : Oper} {fr : Fr} {r : AV} {mask : Nat} : ∀ (p : Nat), p ≤ ops.size → histOk P G ops o fr r mask (ds p).hist = true →
    ∀ h oh, Is P ops ds .heavy h oh → h < p → (∀ h' oh', Is P ops ds .heavy h' oh' → h ≤ h' → h' < p → mask.testBit h' = false) → readSame P G ops o fr r (ds h).st = true := by
  intro p
  induction p with
  | zero => intro _ _ h oh _ hlt; omega
  | succ p ih =>
    intro hp hok h oh hh hlt hno
    obtain ⟨q, hq⟩ : ∃ o, ops[p]? = some o := ⟨_, Array.getElem?_eq_getElem (by omega)⟩
    obtain ⟨_, hs⟩ := hr.says hq
    have same : (ds (p + 1)).hist = (ds p).hist → (¬ Is P ops ds .heavy p q) → readSame P G ops o fr r (ds h).st = true := by
      intro he hnp
      rw [he] at hok
      have : h ≠ p := by
        rintro rfl
        have : oh = q := by have := hh.1; rw [hq] at this; exact (Option.some.inj this).symm
        subst this; exact hnp hh
      exact ih (by omega) hok h oh hh (by omega) (fun h' oh' a b c => hno h' oh' a b (by omega))
    cases hs with
    | skip hw _ hs => exact same (by rw [hs]) (fun hi => by have := hi.2.1; rw [hw] at this; cases this)
    | pure _ hc _ hs => exact same (by rw [hs]) (fun hi => by have := hi.2.2; rw [hc] at this; cases this)
    | read _ hc _ _ hs => exact same (by rw [hs]) (fun hi => by have := hi.2.2; rw [hc] at this; cases this)
    | alloc _ _ _ hc _ _ _ hs => exact same (by rw [hs]) (fun hi => by have := hi.2.2; rw [hc] at this; cases this)
    | soft _ _ _ _ _ _ hc _ _ _ hs => exact same (by rw [hs]) (fun hi => by have := hi.2.2; rw [hc] at this; cases this)
    | heavy hw hc _ _ _ hs =>
      have he : (ds (p + 1)).hist = (p, (ds p).st) :: (ds p).hist := by rw [hs]
      rw [he] at hok
      simp only [histOk] at hok
      rw [hno p q ⟨hq, hw, hc⟩ (by omega) (by omega)] at hok
      simp only [cond_false, Bool.and_eq_true] at hok
      by_cases e : h = p
      · subst e; exact hok.1
      · exact ih (by omega) hok.2 h oh hh (by omega) (fun h' oh' a b c => hno h' oh' a b (by omega))

theorem Run.rds_spec (hr : Run P G call ops lim ms ds vs) {mask : Nat} {st : St} : ∀ (p : Nat), p ≤ ops.size → rdsOk P G ops mask st (ds p).rds = true →
    ∀ q oq, Is P ops ds .read q oq → q < p → mask.testBit q = false → readSame P G ops oq (ds q).fr (vs q) st = true := by
  intro p
  induction p with
  | zero => intro _ _ q oq _ hlt; omega
  | succ p ih =>
    intro hp hok q oq hq hlt hm
    obtain ⟨o, ho⟩ : ∃ o, ops[p]? = some o := ⟨_, Array.getElem?_eq_getElem (by omega)⟩
    obtain ⟨_, hs⟩ := hr.says ho
    have same : (ds (p + 1)).rds = (ds p).rds → (¬ Is P ops ds .read p o) → readSame P G ops oq (ds q).fr (vs q) st = true := by
      intro he hnp
      rw [he] at hok
      have : q ≠ p := by
        rintro rfl
        have : oq = o := by have := hq.1; rw [ho] at this; exact (Option.some.inj this).symm
        subst this; exact hnp hq
      exact ih (by omega) hok q oq hq (by omega) hm
    cases hs with
    | skip hw _ hs => exact same (by rw [hs]) (fun hi => by have := hi.2.1; rw [hw] at this; cases this)
    | pure _ hc _ hs => exact same (by rw [hs]) (fun hi => by have := hi.2.2; rw [hc] at this; cases this)
    | heavy _ hc _ _ _ hs => exact same (by rw [hs]) (fun hi => by have := hi.2.2; rw [hc] at this; cases this)
    | alloc _ _ _ hc _ _ _ hs => exact same (by rw [hs]) (fun hi => by have := hi.2.2; rw [hc] at this; cases this)
    | soft _ _ _ _ _ _ hc _ _ _ hs => exact same (by rw [hs]) (fun hi => by have := hi.2.2; rw [hc] at this; cases this)
    | read hw hc _ _ hs =>
      have he : (ds (p + 1)).rds = (p, o, (ds p).fr, vs p) :: (ds p).rds := by rw [hs]
      rw [he] at hok
      simp only [rdsOk, Bool.and_eq_true] at hok
      by_cases e : q = p
      · subst e
        have : oq = o := by have := hq.1; rw [ho] at this; exact (Option.some.inj this).symm
        subst this
        rw [hm] at hok; simpa using hok.1
      · exact ih (by omega) hok.2 q oq hq (by omega) hm

theorem Run.softs_spec (hr : Run P G call ops lim ms ds vs) : ∀ (p : Nat), p ≤ ops.size → ∀ q oq i off len cap es, Is P ops ds .soft q oq → vs q = .slice i off len cap es → q < p → (q, i) ∈ (ds p).softs := by
  intro p
  induction p with
  | zero => intro _ q oq _ _ _ _ _ _ _ hlt; omega
  | succ p ih =>
    intro hp q oq i off len cap es hq hv hlt
    obtain ⟨o, ho⟩ : ∃ o, ops[p]? = some o := ⟨_, Array.getElem?_eq_getElem (by omega)⟩
    obtain ⟨_, hs⟩ := hr.says ho
    have same : (ds (p + 1)).softs = (ds p).softs → (¬ Is P ops ds .soft p o) → (q, i) ∈ (ds (p + 1)).softs := by
      intro he hnp
      rw [he]
      have : q ≠ p := by
        rintro rfl
        have : oq = o := by have := hq.1; rw [ho] at this; exact (Option.some.inj this).symm
        subst this; exact hnp hq
      exact ih (by omega) q oq i off len cap es hq hv (by omega)
    cases hs with
    | skip hw _ hs => exact same (by rw [hs]) (fun hi => by have := hi.2.1; rw [hw] at this; cases this)
    | pure _ hc _ hs => exact same (by rw [hs]) (fun hi => by have := hi.2.2; rw [hc] at this; cases this)
    | heavy _ hc _ _ _ hs => exact same (by rw [hs]) (fun hi => by have := hi.2.2; rw [hc] at this; cases this)
    | alloc _ _ _ hc _ _ _ hs => exact same (by rw [hs]) (fun hi => by have := hi.2.2; rw [hc] at this; cases this)
    | read _ hc _ _ hs => exact same (by rw [hs]) (fun hi => by have := hi.2.2; rw [hc] at this; cases this)
    | soft i' off' len' cap' es' hw hc _ hv' _ hs =>
      have he : (ds (p + 1)).softs = (p, i') :: (ds p).softs := by rw [hs]
      rw [he]
      by_cases e : q = p
      · subst e
        rw [hv] at hv'; cases hv'
        simp
      · exact List.mem_cons_of_mem _ (ih (by omega) q oq i off len cap es hq hv (by omega))

/-- A block that an operation makes. -/
def Makes (P : Program) (G : Nat) (ops : Array Oper) (ds : Nat → DS) (q : Nat) (ao : AO) : Prop :=
  ∃ o f, Is P ops ds .alloc q o ∧ opAlloc P o.op (valR G (o.looksAt ops) (ds q).fr) = some (ao, f)

theorem restP_mem {mask : Nat} {x : Nat × Nat × AO} : ∀ {l : List (Nat × Nat × AO)}, x ∈ restP mask l ↔ x ∈ l ∧ mask.testBit x.1 = false := by
  intro l
  induction l with
  | nil => simp [restP]
  | cons y l ih =>
    obtain ⟨q, id, ao⟩ := y
    simp only [restP]
    cases hb : mask.testBit q with
    | true =>
      simp only [cond_true, ih, List.mem_cons]
      constructor
      · rintro ⟨h1, h2⟩; exact ⟨.inr h1, h2⟩
      · rintro ⟨rfl | h1, h2⟩
        · rw [hb] at h2; cases h2
        · exact ⟨h1, h2⟩
    | false =>
      simp only [cond_false, List.mem_cons, ih]
      constructor
      · rintro (rfl | ⟨h1, h2⟩)
        · exact ⟨.inl rfl, hb⟩
        · exact ⟨.inr h1, h2⟩
      · rintro ⟨rfl | h1, h2⟩
        · exact .inl rfl
        · exact .inr ⟨h1, h2⟩

theorem Run.pend_spec (hr : Run P G call ops lim ms ds vs) (h0 : (ds 0).pend = []) : ∀ (p : Nat), p ≤ ops.size → ∀ x, x ∈ (ds p).pend ↔
    ∃ q ao, x = (q, (ds q).nid, ao) ∧ q < p ∧ Makes P G ops ds q ao ∧ ∀ h oh, Is P ops ds .heavy h oh → q < h → h < p → (ms.getD h 0).testBit q = false := by
  intro p
  induction p with
  | zero =>
    intro _ x
    rw [h0]
    constructor
    · intro h; simp at h
    · rintro ⟨q, ao, _, h, _⟩; omega
  | succ p ih =>
    intro hp x
    obtain ⟨o, ho⟩ : ∃ o, ops[p]? = some o := ⟨_, Array.getElem?_eq_getElem (by omega)⟩
    obtain ⟨_, hs⟩ := hr.says ho
    have isu : ∀ {c o'}, Is P ops ds c p o' → o' = o := fun h => by have := h.1; rw [ho] at this; exact (Option.some.inj this).symm
    have same : (ds (p + 1)).pend = (ds p).pend → (∀ o', ¬ Is P ops ds .heavy p o') → (∀ o', ¬ Is P ops ds .alloc p o') → (x ∈ (ds (p + 1)).pend ↔
        ∃ q ao, x = (q, (ds q).nid, ao) ∧ q < p + 1 ∧ Makes P G ops ds q ao ∧ ∀ h oh, Is P ops ds .heavy h oh → q < h → h < p + 1 → (ms.getD h 0).testBit q = false) := by
      intro he hnh hna
      rw [he, ih (by omega)]
      constructor
      · rintro ⟨q, ao, h1, h2, h3, h4⟩
        refine ⟨q, ao, h1, by omega, h3, fun h oh hh a b => ?_⟩
        by_cases e : h = p
        · subst e; exact (hnh _ hh).elim
        · exact h4 h oh hh a (by omega)
      · rintro ⟨q, ao, h1, h2, h3, h4⟩
        have : q ≠ p := by rintro rfl; obtain ⟨o', f, hi, _⟩ := h3; exact hna _ hi
        exact ⟨q, ao, h1, by omega, h3, fun h oh hh a b => h4 h oh hh a (by omega)⟩
    have no : ∀ (c d : Cls), clsOf P o.op = c → c ≠ d → ∀ o', ¬ Is P ops ds d p o' := by
      intro c d hc hne o' hi
      have := isu hi; subst this
      exact hne (hc.symm.trans hi.2.2)
    cases hs with
    | skip hw _ hs =>
      have nw : ∀ c o', ¬ Is P ops ds c p o' := fun c o' hi => by
        have := isu hi; subst this
        have := hi.2.1; rw [hw] at this; cases this
      exact same (by rw [hs]) (nw _) (nw _)
    | pure _ hc _ hs => exact same (by rw [hs]) (no _ _ hc (by simp)) (no _ _ hc (by simp))
    | read _ hc _ _ hs => exact same (by rw [hs]) (no _ _ hc (by simp)) (no _ _ hc (by simp))
    | soft _ _ _ _ _ _ hc _ _ _ hs => exact same (by rw [hs]) (no _ _ hc (by simp)) (no _ _ hc (by simp))
    | alloc ao f hw hc ha _ _ hs =>
      have he : (ds (p + 1)).pend = (p, (ds p).nid, ao) :: (ds p).pend := by rw [hs]
      rw [he, List.mem_cons, ih (by omega)]
      have hnh := no _ .heavy hc (by simp)
      constructor
      · rintro (rfl | ⟨q, ao', h1, h2, h3, h4⟩)
        · exact ⟨p, ao, rfl, by omega, ⟨o, f, ⟨ho, hw, hc⟩, ha⟩, fun h oh hh a b => by omega⟩
        · refine ⟨q, ao', h1, by omega, h3, fun h oh hh a b => ?_⟩
          by_cases e : h = p
          · subst e; exact (hnh _ hh).elim
          · exact h4 h oh hh a (by omega)
      · rintro ⟨q, ao', h1, h2, h3, h4⟩
        by_cases e : q = p
        · subst e
          obtain ⟨o', f', hi, ha'⟩ := h3
          have := isu hi; subst this
          rw [ha] at ha'; cases ha'
          exact .inl h1
        · exact .inr ⟨q, ao', h1, by omega, h3, fun h oh hh a b => h4 h oh hh a (by omega)⟩
    | heavy hw hc _ _ _ hs =>
      have he : (ds (p + 1)).pend = restP (ms.getD p 0) (ds p).pend := by rw [hs]
      rw [he, restP_mem, ih (by omega)]
      have hna := no _ .alloc hc (by simp)
      constructor
      · rintro ⟨⟨q, ao, rfl, h2, h3, h4⟩, h5⟩
        refine ⟨q, ao, rfl, by omega, h3, fun h oh hh a b => ?_⟩
        by_cases e : h = p
        · subst e; exact h5
        · exact h4 h oh hh a (by omega)
      · rintro ⟨q, ao, rfl, h2, h3, h4⟩
        have hqp : q ≠ p := by rintro rfl; obtain ⟨o', f, hi, _⟩ := h3; exact hna _ hi
        exact ⟨⟨q, ao, rfl, by omega, h3, fun h oh hh a b => h4 h oh hh a (by omega)⟩, h4 p o ⟨ho, hw, hc⟩ (by omega) (by omega)⟩

theorem Run.nid_mono (hr : Run P G call ops lim ms ds vs) {p q : Nat} (hpq : p ≤ q) (hq : q ≤ ops.size) : (ds p).nid ≤ (ds q).nid := by
  induction q with
  | zero => have : p = 0 := by omega
            subst this; exact Nat.le_refl _
  | succ q ih =>
    by_cases e : p = q + 1
    · subst e; exact Nat.le_refl _
    · have h1 := ih (by omega) (by omega)
      obtain ⟨o, ho⟩ : ∃ o, ops[q]? = some o := ⟨_, Array.getElem?_eq_getElem (by omega)⟩
      obtain ⟨_, hs⟩ := hr.says ho
      have : (ds q).nid ≤ (ds (q + 1)).nid := by
        cases hs with
        | skip _ _ hs => rw [hs]; exact Nat.le_refl _
        | pure _ _ _ hs => rw [hs]; exact Nat.le_refl _
        | read _ _ _ _ hs => rw [hs]; exact Nat.le_refl _
        | alloc _ _ _ _ _ _ _ hs => rw [hs]; exact Nat.le_succ _
        | soft _ _ _ _ _ _ _ _ _ _ hs => rw [hs]; exact Nat.le_refl _
        | heavy _ _ _ _ _ hs => rw [hs]; exact Nat.le_refl _
      omega

theorem Run.nid_lt (hr : Run P G call ops lim ms ds vs) {q : Nat} {ao : AO} (h : Makes P G ops ds q ao) : (ds q).nid < lim ∧ (ds (q + 1)).nid = (ds q).nid + 1 ∧ q < ops.size := by
  obtain ⟨o, f, ⟨ho, hw, hc⟩, ha⟩ := h
  have hq : q < ops.size := (Array.getElem?_eq_some_iff.1 ho).1
  obtain ⟨_, hs⟩ := hr.says ho
  cases hs with
  | skip hw' _ _ => rw [hw] at hw'; cases hw'
  | pure _ hc' _ _ => rw [hc] at hc'; cases hc'
  | read _ hc' _ _ _ => rw [hc] at hc'; cases hc'
  | alloc _ _ _ _ _ hn _ hs => exact ⟨hn, by rw [hs], hq⟩
  | soft _ _ _ _ _ _ hc' _ _ _ _ => rw [hc] at hc'; cases hc'
  | heavy _ hc' _ _ _ _ => rw [hc] at hc'; cases hc'

theorem Run.nid_inj (hr : Run P G call ops lim ms ds vs) {q q' : Nat} {ao ao' : AO} (h : Makes P G ops ds q ao) (h' : Makes P G ops ds q' ao') (e : (ds q).nid = (ds q').nid) : q = q' := by
  obtain ⟨_, h2, h3⟩ := hr.nid_lt h
  obtain ⟨_, h2', h3'⟩ := hr.nid_lt h'
  rcases Nat.lt_trichotomy q q' with g | g | g
  · have := hr.nid_mono (p := q + 1) (q := q') (by omega) (by omega); omega
  · exact g
  · have := hr.nid_mono (p := q' + 1) (q := q) (by omega) (by omega); omega

end facts
end
end Go.Ev

