/-
  States that forget the blocks that a piece of code has made; tests over data that is not known; regions taken operation by operation.
-/
import Derived.Test.YtiibpjahmhemmaaDoorZwords
namespace Go.Ev
open Go
noncomputable section

def AV.flat : AV → Bool
  | .int _ _ => true
  | .bool _ => true
  | .top => true
  | _ => false
theorem VR.flat {ρ ρ' : Ren} {a : AV} {v : Value} (h : VR ρ a v) (hf : a.flat = true) : VR ρ' a v := by
  cases h <;> simp [AV.flat] at hf
  · exact .top _
  · exact .bool _
  · exact .int _ _
def AV.low (n : Nat) : AV → Bool
  | .int _ _ => true
  | .bool _ => true
  | .top => true
  | .ptr i _ => Nat.blt i n
  | .slice i _ _ cap es => Nat.blt i n && Nat.beq es 0
  | _ => false
theorem VR.low {ρ ρ' : Ren} {n : Nat} (he : ∀ i, i < n → ρ' i = ρ i) {a : AV} {v : Value} (h : VR ρ' a v) (hf : a.low n = true) : VR ρ a v := by
  cases h with
  | top => exact .top _
  | bool => exact .bool _
  | int => exact .int _ _
  | ptr i off L hL => exact .ptr i off L (by rw [← he i (blt_iff.1 hf)]; exact hL)
  | slice i off len cap es cap' L hL hp hl h0 h1 =>
    simp only [AV.low, Bool.and_eq_true] at hf
    have hz : es = 0 := beq_iff.1 hf.2
    exact .slice i off len cap es cap' L (by rw [← he i (blt_iff.1 hf.1)]; exact hL) hp hl h0 (fun h => absurd hz h)
  | slice0 i off es cap' a h0 h1 =>
    simp only [AV.low, Bool.and_eq_true] at hf
    have hz : es = 0 := beq_iff.1 hf.2
    exact .slice0 i off es cap' a h0 (fun h => absurd hz h)
  | str => simp [AV.low] at hf
  | pnil => simp [AV.low] at hf
  | snil => simp [AV.low] at hf
  | mnil => simp [AV.low] at hf
  | map => simp [AV.low] at hf
  | func => simp [AV.low] at hf
  | fnil => simp [AV.low] at hf
  | iface => simp [AV.low] at hf
  | inil => simp [AV.low] at hf
  | agg => simp [AV.low] at hf
  | tup => simp [AV.low] at hf

def allBelow (f : Nat → Bool) : Nat → Bool
  | 0 => true
  | n + 1 => f n && allBelow f n
theorem allBelow_get {f : Nat → Bool} : ∀ {n : Nat}, allBelow f n = true → ∀ i, i < n → f i = true
  | 0, _, i, hi => by omega
  | n + 1, h, i, hi => by
    simp only [allBelow, Bool.and_eq_true] at h
    by_cases e : i = n
    · subst e; exact h.1
    · exact allBelow_get h.2 i (by omega)

def AO.flat : AO → Bool
  | .dead => true
  | .bytes _ _ _ => true
  | .cells _ sz _ t => allBelow (fun k => (t.get k).flat) sz
  | .map _ => false
theorem ORel.flat {ρ ρ' : Ren} {L : Loc} : ∀ {o : AO} {ob : Obj}, ORel ρ L o ob → o.flat = true → ORel ρ' L o ob
  | .dead, _, _, _ => trivial
  | .bytes .., _, h, _ => h
  | .cells rw sz d t, ob, ⟨h1, h2, C, ty, fz, h3, h4, h5, h6, h7⟩, hf => ⟨h1, h2, C, ty, fz, h3, h4, h5, fun k hk => by
      obtain ⟨v, g1, g2⟩ := h6 k hk
      exact ⟨v, g1, g2.flat (allBelow_get hf k hk)⟩, h7⟩
  | .map _, _, _, hf => by cases hf

theorem Good.trim {ρ ρ' : Ren} {st st' st1 : St} {w w' : World} (hR : Rel ρ st w) (h : Good ρ st w ρ' st' w') (hdep : st1.dep = st.dep) (hnext : st1.next = st.next) (hok : T.Ok st1.dep st1.heap)
    (hget : ∀ i, i < st.next → st1.heap.get i = st'.heap.get i) (hflat : ∀ i, i < st.next → (st1.heap.get i).flat = true) : Good ρ st w ρ st1 w' := by
  have hlt : ∀ i, i < st1.next → i < st.next ∧ i < st'.next := fun i hi => ⟨by omega, by have := h.next; omega⟩
  refine ⟨.refl ρ, ⟨hok, by rw [hnext, hdep]; exact hR.lt, fun i hi => hR.fresh i (by omega), ?_, ?_⟩, hdep, by omega, h.size, h.os, h.tape, h.output, h.kept, ?_, ?_, fun _ _ => rfl⟩
  · intro i hi hl
    obtain ⟨h1, h2⟩ := hlt i hi
    rw [hget i h1] at hl
    obtain ⟨L, ob, g1, g2, g3⟩ := h.rel.live i h2 hl
    refine ⟨L, ob, by rw [← h.old i h1]; exact g1, g2, ?_⟩
    rw [← hget i h1] at g3
    exact g3.flat (hflat i h1)
  · intro i j L M hi hj hne hl hw hL hM
    obtain ⟨h1, h2⟩ := hlt i hi
    obtain ⟨h3, h4⟩ := hlt j hj
    rw [hget i h1] at hl
    rw [hget j h3] at hw
    exact h.rel.inj i j L M h2 h4 hne hl hw (by rw [h.old i h1]; exact hL) (by rw [h.old j h3]; exact hM)
  · intro i L hi hl hL hLb
    obtain ⟨h1, h2⟩ := hlt i hi
    rw [hget i h1] at hl ⊢
    exact h.owns i L h2 hl (by rw [h.old i h1]; exact hL) hLb
  · intro i hi hd
    rw [hget i hi]
    exact h.dead i hi hd

theorem Tr.trim {P : Program} {G : Nat} {c : Code} {fr fr' : Fr} {st st' st1 : St} {ex : Ex} (h : Tr P G c fr st ex fr' st') (hdep : st1.dep = st.dep) (hnext : st1.next = st.next) (hok : T.Ok st1.dep st1.heap)
    (hget : ∀ i, i < st.next → st1.heap.get i = st'.heap.get i) (hflat : ∀ i, i < st.next → (st1.heap.get i).flat = true) (hlow : allBelow (fun j => (fr'.t.get j).low st.next) fr'.lim = true) : Tr P G c fr st ex fr' st1 := by
  intro ρ a w hF hR hG
  have key : ∀ (e : Exit) (a' : Act) (w' : World), (e = ex.toExit ∧ ∃ ρ', FR ρ' fr' a'.tmps ∧ Good ρ st w ρ' st' w' ∧ a'.defers = a.defers) → (e = ex.toExit ∧ ∃ ρ', FR ρ' fr' a'.tmps ∧ Good ρ st w ρ' st1 w' ∧ a'.defers = a.defers) := by
    rintro e a' w' ⟨rfl, ρ', hF', hg, hd⟩
    exact ⟨rfl, ρ, ⟨hF'.ok, hF'.lim, hF'.size, fun i hi => (hF'.val i hi).low hg.old (allBelow_get hlow i hi)⟩, hg.trim hR hdep hnext hok hget hflat, hd⟩
  have := h ρ a w hF hR hG
  cases c with
  | loop c => intro b k cs; obtain ⟨e, a', w', hq, harr⟩ := this b k cs; exact ⟨e, a', w', key e a' w' hq, harr⟩
  | _ => exact wp_mono (c := _) this key

def isCond (t : Nat) : Code → Bool
  | .cond (.tmp s) _ _ => Nat.beq s t
  | _ => false
theorem Tr.condC {P : Program} {G : Nat} {c : Code} {t : Nat} {fr fr1 : Fr} {st st1 : St} {ex : Ex} {b : Bool} (hc : isCond t c = true) (hb : valA G fr (.tmp t) = .bool b) (h : Tr P G (if b then cA c else cB c) fr st ex fr1 st1) : Tr P G c fr st ex fr1 st1 := by
  cases c <;> simp [isCond] at hc
  rename_i o x y
  cases o <;> simp at hc
  subst hc
  exact .cond hb h

theorem evList_cons (P : Program) (G : Nat) (call : CallF) (ops : Array Oper) (o : Oper) (l : List Oper) (fr : Fr) (st : St) : evList P G call ops (o :: l) fr st = thenF (evList P G call ops l) (evOper P G call ops o fr st) := rfl
theorem evList_app {P : Program} {G : Nat} {call : CallF} {ops : Array Oper} : ∀ {l1 l2 : List Oper} {fr fr1 : Fr} {st st1 : St}, evList P G call ops l1 fr st = some (fr1, st1) → evList P G call ops (l1 ++ l2) fr st = evList P G call ops l2 fr1 st1 := by
  intro l1
  induction l1 with
  | nil => intro l2 fr fr1 st st1 h; simp [evList] at h; obtain ⟨rfl, rfl⟩ := h; rfl
  | cons o l ih =>
    intro l2 fr fr1 st st1 h
    rw [evList_cons] at h
    rw [List.cons_append, evList_cons]
    cases he : evOper P G call ops o fr st with
    | none => rw [he] at h; cases h
    | some x => obtain ⟨f, s⟩ := x; rw [he] at h; exact ih h
theorem evOper_pure {P : Program} {G : Nat} {call : CallF} {ops : Array Oper} {o : Oper} {fr fr1 : Fr} {st : St} {r : AV} (hw : wantedA ops fr o = some true) (hc : clsOf P o.op = .pure) (hp : opPureF o.op P (valA G fr) = some r) (hf : fr.put o.dst r = some fr1) : evOper P G call ops o fr st = some (fr1, st) := by
  unfold evOper; simp only [hw, hc, hp, hf, Option.map_some]
theorem evOper_heavy {P : Program} {G : Nat} {call : CallF} {ops : Array Oper} {o : Oper} {fr fr1 : Fr} {st st1 : St} {r : AV} (hw : wantedA ops fr o = some true) (hc : clsOf P o.op = .heavy) (hp : opHeavy P call o.op (valA G fr) st = some (r, st1)) (hf : fr.put o.dst r = some fr1) : evOper P G call ops o fr st = some (fr1, st1) := by
  unfold evOper; simp only [hw, hc, hp, hf, Option.map_some]
theorem wrapF_small (n : Nat) (h : n ≤ 9223372036854775807) : wrapF .i64 (.ofNat n) = .ofNat n := by
  show Bool.rec (motive := fun _ => Int) (wrapA .i64 (.ofNat n)) (.ofNat n) (Nat.ble n 9223372036854775807) = _
  rw [ble_iff.2 h]
theorem sliceA_mid (i N ca a b : Nat) (h1 : a ≤ b) (h2 : b ≤ ca) : sliceA 1 (.slice i 0 N ca 0) (some (.int .i64 (.ofNat a))) (some (.int .i64 (.ofNat b))) none = some (.slice i (0 + a * 1) (b - a) (ca - a) 0) := by
  simp [sliceA, boundsA, bnd, ble_iff.2 h1, ble_iff.2 h2]
end
end Go.Ev
