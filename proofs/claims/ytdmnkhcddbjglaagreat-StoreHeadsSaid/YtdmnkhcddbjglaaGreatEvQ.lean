/-
  The relation once more, over a heap that is a function: a part of it, what lies beside what runs, a block at a place that was kept free.
-/
import Derived.Test.YtdmnkhcddbjglaaGreatEvO
namespace Go.Ev
open Go
noncomputable section

structure HRel (ρ : Ren) (g : Nat → AO) (n : Nat) (w : World) : Prop where
  fresh : ∀ i, n ≤ i → ρ i = none
  live : ∀ i, i < n → (g i).live = true → ∃ L ob, ρ i = some L ∧ w.heap[L.b]? = some ob ∧ ORel ρ L (g i) ob
  inj : ∀ i j L M, i < n → j < n → i ≠ j → (g i).live = true → (g j).writable = true → ρ i = some L → ρ j = some M → L.b ≠ M.b

structure HGood (ρ : Ren) (g : Nat → AO) (n : Nat) (w : World) (ρ' : Ren) (g' : Nat → AO) (n' : Nat) (w' : World) : Prop where
  ext : Ext ρ ρ'
  rel : HRel ρ' g' n' w'
  next : n ≤ n'
  size : w.heap.size ≤ w'.heap.size
  os : w'.os = w.os
  tape : w'.tape = w.tape
  output : w'.output = w.output
  kept : ∀ b, b < w.heap.size → (∀ i L, i < n → (g i).writable = true → ρ i = some L → L.b ≠ b) → w'.heap[b]? = w.heap[b]?
  owns : ∀ i L, i < n' → (g' i).live = true → ρ' i = some L → L.b < w.heap.size →
    ∃ j M, j < n ∧ (g j).live = true ∧ ρ j = some M ∧ M.b = L.b ∧ ((g' i).writable = true → (g j).writable = true)
  dead : ∀ i, i < n → (g i).live = false → (g' i).live = false
  old : ∀ i, i < n → ρ' i = ρ i

theorem Rel.h {ρ : Ren} {st : St} {w : World} (h : Rel ρ st w) : HRel ρ st.heap.get st.next w := ⟨h.fresh, h.live, h.inj⟩
theorem HRel.rel {ρ : Ren} {st : St} {w : World} (h : HRel ρ st.heap.get st.next w) (hok : T.Ok st.dep st.heap) (hlt : st.next ≤ 2 ^ st.dep) : Rel ρ st w := ⟨hok, hlt, h.fresh, h.live, h.inj⟩
theorem Good.h {ρ ρ' : Ren} {st st' : St} {w w' : World} (h : Good ρ st w ρ' st' w') : HGood ρ st.heap.get st.next w ρ' st'.heap.get st'.next w' :=
  ⟨h.ext, h.rel.h, h.next, h.size, h.os, h.tape, h.output, h.kept, h.owns, h.dead, h.old⟩
theorem HGood.good {ρ ρ' : Ren} {st st' : St} {w w' : World} (h : HGood ρ st.heap.get st.next w ρ' st'.heap.get st'.next w') (hok : T.Ok st'.dep st'.heap) (hlt : st'.next ≤ 2 ^ st'.dep) (hd : st'.dep = st.dep) :
    Good ρ st w ρ' st' w' := ⟨h.ext, h.rel.rel hok hlt, hd, h.next, h.size, h.os, h.tape, h.output, h.kept, h.owns, h.dead, h.old⟩

theorem not_live {o : AO} (h : o.live = false) : o = .dead := by cases o <;> simp_all [AO.live]

/-- A heap is what its cells say. -/
theorem HGood.congr {ρ ρ' : Ren} {g g' g'' : Nat → AO} {n n' : Nat} {w w' : World} (h : HGood ρ g n w ρ' g' n' w') (e : ∀ i, i < n' → g'' i = g' i) : HGood ρ g n w ρ' g'' n' w' := by
  have hn := h.next
  refine ⟨h.ext, ⟨h.rel.fresh, ?_, ?_⟩, h.next, h.size, h.os, h.tape, h.output, h.kept, ?_, ?_, h.old⟩
  · intro i hi hl; rw [e i hi] at hl ⊢; exact h.rel.live i hi hl
  · intro i j L M hi hj hne hl hw; rw [e i hi] at hl; rw [e j hj] at hw; exact h.rel.inj i j L M hi hj hne hl hw
  · intro i L hi hl; rw [e i hi] at hl ⊢; exact h.owns i L hi hl
  · intro i hi hd; rw [e i (by omega)]; exact h.dead i hi hd

/-- A part of what is known is known. -/
theorem HRel.sub {ρ : Ren} {g g' : Nat → AO} {n : Nat} {w : World} (h : HRel ρ g n w) (hs : ∀ i, i < n → (g' i).live = true → g' i = g i) : HRel ρ g' n w := by
  refine ⟨h.fresh, ?_, ?_⟩
  · intro i hi hl
    have := hs i hi hl
    rw [this] at hl ⊢
    exact h.live i hi hl
  · intro i j L M hi hj hne hl hw hL hM
    have h1 := hs i hi hl
    have h2 := hs j hj (AO.live_of_writable hw)
    rw [h1] at hl; rw [h2] at hw
    exact h.inj i j L M hi hj hne hl hw hL hM

theorem HRel.lt {ρ : Ren} {g : Nat → AO} {n : Nat} {w : World} (h : HRel ρ g n w) {i : Nat} {L : Loc} (hi : i < n) (hl : (g i).live = true) (hL : ρ i = some L) : L.b < w.heap.size := by
  obtain ⟨L', ob, h1, h2, _⟩ := h.live i hi hl
  rw [hL] at h1; cases h1
  exact (Array.getElem?_eq_some_iff.1 h2).1

/-- What lies beside what runs stays as it is. -/
theorem HGood.frame {ρ ρ' : Ren} {g g0 g1 g' : Nat → AO} {n n1 : Nat} {w w' : World} (hR : HRel ρ g n w) (hs : ∀ i, i < n → (g0 i).live = true → g0 i = g i)
    (h : HGood ρ g0 n w ρ' g1 n1 w') (hg : ∀ i, i < n1 → g' i = if i < n ∧ (g0 i).live = false then g i else g1 i) : HGood ρ g n w ρ' g' n1 w' := by
  have hn := h.next
  -- an object of the new heap: one that lay beside, or one of the run's
  have hcase : ∀ i, i < n1 → (g' i).live = true → (i < n ∧ (g0 i).live = false ∧ (g i).live = true ∧ g' i = g i) ∨ ((g1 i).live = true ∧ g' i = g1 i ∧ (i < n → (g0 i).live = true)) := by
    intro i hi hl
    rw [hg i hi] at hl ⊢
    by_cases hc : i < n ∧ (g0 i).live = false
    · rw [if_pos hc] at hl ⊢; exact .inl ⟨hc.1, hc.2, hl, rfl⟩
    · rw [if_neg hc] at hl ⊢
      refine .inr ⟨hl, rfl, fun hin => ?_⟩
      cases hq : (g0 i).live with
      | true => rfl
      | false => exact absurd ⟨hin, hq⟩ hc
  have hkeep : ∀ i L ob, i < n → (g0 i).live = false → (g i).live = true → ρ i = some L → w.heap[L.b]? = some ob → w'.heap[L.b]? = some ob := by
    intro i L ob hi hd hl hL hob
    rw [h.kept L.b (Array.getElem?_eq_some_iff.1 hob).1]
    · exact hob
    · intro j M hj hjw hM
      have hji : i ≠ j := by rintro rfl; rw [AO.live_of_writable hjw] at hd; cases hd
      have hgj := hs j hj (AO.live_of_writable hjw)
      rw [hgj] at hjw
      exact (hR.inj i j L M hi hj hji hl hjw hL hM).symm
  refine ⟨h.ext, ⟨h.rel.fresh, ?_, ?_⟩, h.next, h.size, h.os, h.tape, h.output, ?_, ?_, ?_, h.old⟩
  · intro i hi hl
    rcases hcase i hi hl with ⟨h1, h2, h3, h4⟩ | ⟨h1, h2, _⟩
    · rw [h4]
      obtain ⟨L, ob, q1, q2, q3⟩ := hR.live i h1 h3
      exact ⟨L, ob, h.ext _ _ q1, hkeep i L ob h1 h2 h3 q1 q2, q3.ext h.ext⟩
    · rw [h2]; exact h.rel.live i hi h1
  · intro i j L M hi hj hne hl hw hL hM
    rcases hcase i hi hl with ⟨a1, a2, a3, a4⟩ | ⟨a1, a2, a5⟩ <;> rcases hcase j hj (AO.live_of_writable hw) with ⟨b1, b2, b3, b4⟩ | ⟨b1, b2, b5⟩
    · rw [b4] at hw
      rw [h.old i a1] at hL
      rw [h.old j b1] at hM
      exact hR.inj i j L M a1 b1 hne a3 hw hL hM
    · rw [b2] at hw
      rw [h.old i a1] at hL
      have hLlt := hR.lt a1 a3 hL
      by_cases hb : M.b < w.heap.size
      · obtain ⟨k, K, hk, hkl, hK, hKM, hkw⟩ := h.owns j M hj b1 hM hb
        have hki : i ≠ k := by rintro rfl; rw [hkl] at a2; cases a2
        have hgk := hs k hk hkl
        have hkw' := hkw hw
        rw [hgk] at hkw'
        have := hR.inj i k L K a1 hk hki a3 hkw' hL hK
        omega
      · omega
    · rw [b4] at hw
      rw [h.old j b1] at hM
      have hMlt := hR.lt b1 b3 hM
      by_cases hb : L.b < w.heap.size
      · obtain ⟨k, K, hk, hkl, hK, hKL, _⟩ := h.owns i L hi a1 hL hb
        have hkj : k ≠ j := by rintro rfl; rw [hkl] at b2; cases b2
        have hgk := hs k hk hkl
        rw [hgk] at hkl
        have := hR.inj k j K M hk b1 hkj hkl hw hK hM
        omega
      · omega
    · rw [b2] at hw
      exact h.rel.inj i j L M hi hj hne a1 hw hL hM
  · intro b hb hno
    refine h.kept b hb ?_
    intro i L hi hw hL
    have hgi := hs i hi (AO.live_of_writable hw)
    rw [hgi] at hw
    exact hno i L hi hw hL
  · intro i L hi hl hL hb
    rcases hcase i hi hl with ⟨a1, a2, a3, a4⟩ | ⟨a1, a2, a5⟩
    · rw [h.old i a1] at hL
      exact ⟨i, L, a1, a3, hL, rfl, by rw [a4]; exact id⟩
    · obtain ⟨j, M, hj, hjl, hM, hML, hjw⟩ := h.owns i L hi a1 hL hb
      have hgj := hs j hj hjl
      rw [hgj] at hjl hjw
      exact ⟨j, M, hj, hjl, hM, hML, by rw [a2]; exact hjw⟩
  · intro i hi hd
    rw [hg i (by omega)]
    by_cases hc : (g0 i).live = false
    · rw [if_pos ⟨hi, hc⟩]; exact hd
    · rw [if_neg (fun q => hc q.2)]
      have hl : (g0 i).live = true := by cases hq : (g0 i).live <;> simp_all
      rw [hs i hi hl] at hl
      rw [hl] at hd; cases hd

theorem HGood.trans {ρ₁ ρ₂ ρ₃ : Ren} {g₁ g₂ g₃ : Nat → AO} {n₁ n₂ n₃ : Nat} {w₁ w₂ w₃ : World} (h : HGood ρ₁ g₁ n₁ w₁ ρ₂ g₂ n₂ w₂) (g : HGood ρ₂ g₂ n₂ w₂ ρ₃ g₃ n₃ w₃) : HGood ρ₁ g₁ n₁ w₁ ρ₃ g₃ n₃ w₃ := by
  refine ⟨h.ext.trans g.ext, g.rel, Nat.le_trans h.next g.next, Nat.le_trans h.size g.size, g.os.trans h.os, g.tape.trans h.tape, g.output.trans h.output, ?_, ?_, ?_, ?_⟩
  · intro b hb hno
    rw [g.kept b (Nat.lt_of_lt_of_le hb h.size), h.kept b hb hno]
    intro i L hi hw hρ hLb
    obtain ⟨j, M, hj, _, hjρ, hM, hjw⟩ := h.owns i L hi (AO.live_of_writable hw) hρ (by omega)
    exact hno j M hj (hjw hw) hjρ (by omega)
  · intro i L hi hw hρ hLb
    obtain ⟨j, M, hj, hjl, hjρ, hM, hjw⟩ := g.owns i L hi hw hρ (Nat.lt_of_lt_of_le hLb h.size)
    obtain ⟨k, N, hk, hkl, hkρ, hN, hkw⟩ := h.owns j M hj hjl hjρ (by omega)
    exact ⟨k, N, hk, hkl, hkρ, by omega, fun q => hkw (hjw q)⟩
  · intro i hi hd
    exact g.dead i (Nat.lt_of_lt_of_le hi h.next) (h.dead i hi hd)
  · intro i hi
    rw [g.old i (Nat.lt_of_lt_of_le hi h.next), h.old i hi]

/-- A new block at a place that was kept free for it. -/
theorem HGood.addAt {ρ₀ ρ : Ren} {g₀ g g' : Nat → AO} {n₀ n : Nat} {w₀ w w' : World} (h : HGood ρ₀ g₀ n₀ w₀ ρ g n w) {id : Nat} {L : Loc} {o : AO} {ob : Obj} (hid : id < n) (hid₀ : n₀ ≤ id)
    (hρ : ρ id = none) (hLb : L.b = w.heap.size) (hheap : w'.heap = w.heap.push ob) (hs : SameOut w w') (ho : ORel (ρ.set id L) L o ob)
    (hg : ∀ i, i < n → g' i = if i = id then o else g i) : HGood ρ₀ g₀ n₀ w₀ (ρ.set id L) g' n w' := by
  have hext : Ext ρ (ρ.set id L) := Ren.ext_set hρ
  have hgd : (g id).live = false := by
    cases hq : (g id).live with
    | false => rfl
    | true => obtain ⟨M, _, hM, _⟩ := h.rel.live id hid hq; rw [hρ] at hM; cases hM
  have hblk : ∀ b, b < w.heap.size → w'.heap[b]? = w.heap[b]? := fun b hb => by rw [hheap, Array.getElem?_push]; simp [Nat.ne_of_lt hb]
  have hnew : w'.heap[L.b]? = some ob := by rw [hheap, hLb]; simp
  have hold : ∀ i, i ≠ id → ρ.set id L i = ρ i := fun i hi => Ren.set_ne hi
  refine ⟨h.ext.trans hext, ⟨?_, ?_, ?_⟩, h.next, by rw [hheap]; simp; have := h.size; omega, hs.os.trans h.os, hs.tape.trans h.tape, hs.output.trans h.output, ?_, ?_, ?_, ?_⟩
  · intro i hi; rw [hold i (by omega)]; exact h.rel.fresh i hi
  · intro i hi hl
    rw [hg i hi] at hl ⊢
    by_cases e : i = id
    · subst e; rw [if_pos rfl]; exact ⟨L, ob, Ren.set_same _ _ _, hnew, ho⟩
    · rw [if_neg e] at hl ⊢
      obtain ⟨M, om, q1, q2, q3⟩ := h.rel.live i hi hl
      exact ⟨M, om, hext _ _ q1, by rw [hblk _ (Array.getElem?_eq_some_iff.1 q2).1]; exact q2, q3.ext hext⟩
  · intro i j M N hi hj hne hl hw hM hN
    rw [hg i hi] at hl
    rw [hg j hj] at hw
    by_cases e : i = id
    · subst e
      rw [if_neg (Ne.symm hne)] at hw
      rw [hold j (Ne.symm hne)] at hN
      rw [Ren.set_same] at hM; cases hM
      have := h.rel.lt hj (AO.live_of_writable hw) hN
      omega
    · rw [if_neg e] at hl
      rw [hold i e] at hM
      have h1 := h.rel.lt hi hl hM
      by_cases e' : j = id
      · subst e'
        rw [Ren.set_same] at hN; cases hN
        omega
      · rw [if_neg e'] at hw
        rw [hold j e'] at hN
        exact h.rel.inj i j M N hi hj hne hl hw hM hN
  · intro b hb hno
    rw [hblk b (Nat.lt_of_lt_of_le hb h.size)]
    exact h.kept b hb hno
  · intro i M hi hl hM hb
    rw [hg i hi] at hl ⊢
    by_cases e : i = id
    · subst e; rw [Ren.set_same] at hM; cases hM; have := h.size; omega
    · rw [if_neg e] at hl ⊢
      rw [hold i e] at hM
      exact h.owns i M hi hl hM hb
  · intro i hi hd
    have hn := h.next
    rw [hg i (by omega), if_neg (by omega)]
    exact h.dead i hi hd
  · intro i hi
    rw [hold i (by omega)]
    exact h.old i hi

/-- A mark upon a block of the run's own. -/
theorem HGood.mark {ρ₀ ρ : Ren} {g₀ g : Nat → AO} {n₀ n : Nat} {w₀ w w' : World} (h : HGood ρ₀ g₀ n₀ w₀ ρ g n w) {B : Nat} (hs : SameOut w w') (hz : w'.heap.size = w.heap.size)
    (hb : ∀ b, w'.heap[b]? = if b = B then (w.heap[b]?).map marked else w.heap[b]?) (hB : w₀.heap.size ≤ B) (hown : ∃ j M, j < n ∧ (g j).brow = true ∧ ρ j = some M ∧ M.b = B) : HGood ρ₀ g₀ n₀ w₀ ρ g n w' := by
  refine ⟨h.ext, ⟨h.rel.fresh, ?_, h.rel.inj⟩, h.next, by rw [hz]; exact h.size, hs.os.trans h.os, hs.tape.trans h.tape, hs.output.trans h.output, ?_, h.owns, h.dead, h.old⟩
  · intro i hi hl
    obtain ⟨L, ob, h1, h2, h3⟩ := h.rel.live i hi hl
    by_cases e : L.b = B
    · obtain ⟨j, M, hj, hjb, hjM, hM⟩ := hown
      have hij : i = j := by
        by_cases hij : i = j
        · exact hij
        · exact absurd (e.trans hM.symm) (h.rel.inj i j L M hi hj hij hl (row_writable (AO.row_of_brow hjb)) h1 hjM)
      subst hij
      exact ⟨L, marked ob, h1, by rw [hb, if_pos e, h2]; rfl, h3.marked hjb⟩
    · exact ⟨L, ob, h1, by rw [hb, if_neg e]; exact h2, h3⟩
  · intro b hlt hno
    rw [hb, if_neg (by omega)]
    exact h.kept b hlt hno

end
end Go.Ev
