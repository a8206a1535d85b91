/-
  A region that draws: whatever order is drawn, the run ends as the evaluator says.
  A region that draws: each operation keeps the invariant; whatever order is drawn, the region ends as the evaluator says.
-/
import Derived.Test.YtecnddogdiikiaaGreatEvR
set_option linter.unusedVariables false
set_option linter.unusedSimpArgs false
namespace Go.Ev
open Go
noncomputable section

theorem exists_least {Q : Nat → Prop} : ∀ (n : Nat), (∃ h, h < n ∧ Q h) → ∃ h, h < n ∧ Q h ∧ ∀ h', h' < h → ¬ Q h' := by
  intro n
  induction n with
  | zero => rintro ⟨h, hh, _⟩; omega
  | succ n ih =>
    rintro ⟨h, hh, hq⟩
    by_cases hex : ∃ h, h < n ∧ Q h
    · obtain ⟨k, h1, h2, h3⟩ := ih hex
      exact ⟨k, by omega, h2, h3⟩
    · refine ⟨h, hh, hq, fun h' hlt hq' => hex ⟨h', by omega, hq'⟩⟩

theorem exists_greatest {Q : Nat → Prop} : ∀ (n : Nat), (∃ h, h < n ∧ Q h) → ∃ h, h < n ∧ Q h ∧ ∀ h', h < h' → h' < n → ¬ Q h' := by
  intro n
  induction n with
  | zero => rintro ⟨h, hh, _⟩; omega
  | succ n ih =>
    rintro ⟨h, hh, hq⟩
    by_cases hn : Q n
    · exact ⟨n, by omega, hn, fun h' h1 h2 => by omega⟩
    · have : h ≠ n := by rintro rfl; exact hn hq
      obtain ⟨k, h1, h2, h3⟩ := ih ⟨h, by omega, hq⟩
      refine ⟨k, by omega, h2, fun h' a b => ?_⟩
      by_cases e : h' = n
      · subst e; exact hn
      · exact h3 h' a (by omega)

/-! ### Frames -/
def dstAt (ops : Array Oper) (p : Nat) : Option Tmp := (ops[p]?).bind (·.dst)

def cur (ops : Array Oper) (vs : Nat → AV) (D : Nat → Bool) (base : AV) (t : Nat) : Nat → AV
  | 0 => base
  | p + 1 => if D p = true ∧ dstAt ops p = some t then vs p else cur ops vs D base t p

theorem cur_congr {ops : Array Oper} {vs : Nat → AV} {D D' : Nat → Bool} {base : AV} {t : Nat} : ∀ (n : Nat), (∀ q, q < n → dstAt ops q = some t → D q = D' q) → cur ops vs D base t n = cur ops vs D' base t n := by
  intro n
  induction n with
  | zero => intros; rfl
  | succ n ih =>
    intro h
    simp only [cur]
    rw [ih (fun q hq => h q (by omega))]
    by_cases hd : dstAt ops n = some t
    · rw [h n (by omega) hd]
    · simp [hd]

theorem cur_stop {ops : Array Oper} {vs : Nat → AV} {D : Nat → Bool} {base : AV} {t : Nat} {m : Nat} : ∀ (n : Nat), m ≤ n → (∀ q, m ≤ q → q < n → dstAt ops q = some t → D q = false) → cur ops vs D base t n = cur ops vs D base t m := by
  intro n
  induction n with
  | zero => intro h _; have : m = 0 := by omega
            subst this; rfl
  | succ n ih =>
    intro h hno
    by_cases e : m = n + 1
    · subst e; rfl
    · simp only [cur]
      rw [ih (by omega) (fun q a b c => hno q a (by omega) c)]
      rw [if_neg]
      rintro ⟨h1, h2⟩
      rw [hno n (by omega) (by omega) h2] at h1; cases h1

theorem Fr.put_get {f f' : Fr} {dst : Option Tmp} {v : AV} (hp : f.put dst v = some f') (hok : T.Ok f.d f.t) (hl : f.lim ≤ 2 ^ f.d) :
    f'.lim = f.lim ∧ f'.d = f.d ∧ T.Ok f'.d f'.t ∧ (∀ t, dst = some t → t < f.lim) ∧ ∀ t, t < f.lim → f'.get t = if dst = some t then v else f.get t := by
  cases dst with
  | none =>
    simp only [Fr.put, Option.some.injEq] at hp; subst hp
    exact ⟨rfl, rfl, hok, (fun t h => by cases h), (fun t _ => by simp)⟩
  | some i =>
    rw [Fr.put_some] at hp
    cases hb : Nat.blt i f.lim with
    | false => rw [hb] at hp; simp at hp
    | true =>
      rw [hb] at hp; simp only [cond_true, Option.some.injEq] at hp; subst hp
      have hi := blt_iff.1 hb
      refine ⟨rfl, rfl, hok.set i v, fun t h => by cases h; exact hi, fun t ht => ?_⟩
      rw [Fr.get_eq, Fr.get_eq]
      have hbt : Nat.blt t f.lim = true := blt_iff.2 ht
      simp only [hbt, cond_true]
      by_cases e : i = t
      · subst e; rw [if_pos rfl, T.get_set_same]
      · rw [if_neg (by simpa using e), T.get_set_ne f.d f.t i t v hok (by omega) (by omega) e]

theorem Run.fr_spec {P : Program} {G : Nat} {call : CallF} {ops : Array Oper} {lim : Nat} {ms : List Nat} {ds : Nat → DS} {vs : Nat → AV} (hr : Run P G call ops lim ms ds vs)
    (hok : T.Ok (ds 0).fr.d (ds 0).fr.t) (hl : (ds 0).fr.lim ≤ 2 ^ (ds 0).fr.d) : ∀ p, p ≤ ops.size →
    (ds p).fr.lim = (ds 0).fr.lim ∧ (ds p).fr.d = (ds 0).fr.d ∧ T.Ok (ds p).fr.d (ds p).fr.t ∧ ∀ t, t < (ds 0).fr.lim → (ds p).fr.get t = cur ops vs (fun _ => true) ((ds 0).fr.get t) t p := by
  intro p
  induction p with
  | zero => intro _; exact ⟨rfl, rfl, hok, fun _ _ => rfl⟩
  | succ p ih =>
    intro hp
    obtain ⟨h1, h2, h3, h4⟩ := ih (by omega)
    obtain ⟨o, ho⟩ : ∃ o, ops[p]? = some o := ⟨_, Array.getElem?_eq_getElem (by omega)⟩
    obtain ⟨hput, _⟩ := hr.says ho
    obtain ⟨g1, g2, g3, _, g5⟩ := Fr.put_get hput h3 (by rw [h1, h2]; exact hl)
    refine ⟨g1.trans h1, g2.trans h2, g3, fun t ht => ?_⟩
    rw [g5 t (by omega), h4 t ht]
    simp only [cur, dstAt, ho, Option.bind_some, true_and]

theorem mkRow_live {x : Blk} {o : AO} (h : mkRow x = some o) : o.live = true := by
  cases x with
  | l y =>
    simp only [mkRow] at h
    cases hb : Nat.ble y.length (2 ^ depthOf 64 y.length) <;> rw [hb] at h <;> simp at h
    subst h; rfl
  | b n m => simp only [mkRow, Option.some.injEq] at h; subst h; rfl

theorem opAlloc_live {P : Program} {o : Op} {v : Operand → AV} {ao : AO} {f : Nat → AV} (h : opAlloc P o v = some (ao, f)) : ao.live = true := by
  unfold opAlloc at h
  repeat' split at h
  all_goals first
    | (cases h; done)
    | (simp only [Option.map_eq_some_iff, Prod.mk.injEq] at h; obtain ⟨x, hx, rfl, _⟩ := h; exact mkRow_live hx)
    | (simp only [Option.some.injEq, Prod.mk.injEq] at h; obtain ⟨rfl, _⟩ := h; rfl)
    | (obtain ⟨_, h⟩ := bif_some h; first
        | (cases h; done)
        | (simp only [Option.map_eq_some_iff, Prod.mk.injEq] at h; obtain ⟨x, hx, rfl, _⟩ := h; exact mkRow_live hx))

theorem matSt_spec {mask : Nat} {st : St} (hok : T.Ok st.dep st.heap) (hle : st.next ≤ 2 ^ st.dep) : ∀ (l : List (Nat × Nat × AO)), (∀ x ∈ l, x.2.1 < st.next) →
    (matSt mask st l).next = st.next ∧ (matSt mask st l).dep = st.dep ∧ T.Ok st.dep (matSt mask st l).heap ∧
    ∀ i, i < st.next → (∃ x ∈ l, mask.testBit x.1 = true ∧ x.2.1 = i ∧ (matSt mask st l).heap.get i = x.2.2) ∨ ((∀ x ∈ l, mask.testBit x.1 = true → x.2.1 ≠ i) ∧ (matSt mask st l).heap.get i = st.heap.get i) := by
  intro l
  induction l with
  | nil => intro _; exact ⟨rfl, rfl, hok, fun i _ => .inr ⟨by simp, rfl⟩⟩
  | cons x l ih =>
    intro hlt
    obtain ⟨q, id, ao⟩ := x
    obtain ⟨h1, h2, h3, h4⟩ := ih (fun x hx => hlt x (by simp [hx]))
    have hid : id < st.next := hlt (q, id, ao) (by simp)
    simp only [matSt]
    cases hb : mask.testBit q with
    | false =>
      simp only [cond_false]
      refine ⟨h1, h2, h3, fun i hi => ?_⟩
      rcases h4 i hi with ⟨x, hx, a, b, c⟩ | ⟨a, b⟩
      · exact .inl ⟨x, by simp [hx], a, b, c⟩
      · refine .inr ⟨fun x hx hbit => ?_, b⟩
        rcases List.mem_cons.1 hx with rfl | hx
        · rw [hb] at hbit; cases hbit
        · exact a x hx hbit
    | true =>
      simp only [cond_true]
      refine ⟨h1, h2, T.Ok.set id ao h3, fun i hi => ?_⟩
      by_cases e : id = i
      · subst e
        exact .inl ⟨(q, id, ao), by simp, hb, rfl, T.get_set_same _ _ _⟩
      · have hne : ((matSt mask st l).put id ao).heap.get i = (matSt mask st l).heap.get i :=
          T.get_set_ne st.dep _ id i ao h3 (by omega) (by omega) e
        rcases h4 i hi with ⟨x, hx, a, b, c⟩ | ⟨a, b⟩
        · exact .inl ⟨x, by simp [hx], a, b, hne.trans c⟩
        · refine .inr ⟨fun x hx hbit => ?_, hne.trans b⟩
          rcases List.mem_cons.1 hx with rfl | hx
          · exact e
          · exact a x hx hbit

theorem allPend_spec {st : St} (hok : T.Ok st.dep st.heap) (hle : st.next ≤ 2 ^ st.dep) : ∀ (l : List (Nat × Nat × AO)), (∀ x ∈ l, x.2.1 < st.next) →
    (allPend st l).next = st.next ∧ (allPend st l).dep = st.dep ∧ T.Ok st.dep (allPend st l).heap ∧
    ∀ i, i < st.next → (∃ x ∈ l, x.2.1 = i ∧ (allPend st l).heap.get i = x.2.2) ∨ ((∀ x ∈ l, x.2.1 ≠ i) ∧ (allPend st l).heap.get i = st.heap.get i) := by
  intro l
  induction l with
  | nil => intro _; exact ⟨rfl, rfl, hok, fun i _ => .inr ⟨by simp, rfl⟩⟩
  | cons x l ih =>
    intro hlt
    obtain ⟨q, id, ao⟩ := x
    obtain ⟨h1, h2, h3, h4⟩ := ih (fun x hx => hlt x (by simp [hx]))
    have hid : id < st.next := hlt (q, id, ao) (by simp)
    simp only [allPend]
    refine ⟨h1, h2, T.Ok.set id ao h3, fun i hi => ?_⟩
    by_cases e : id = i
    · subst e
      exact .inl ⟨(q, id, ao), by simp, rfl, T.get_set_same _ _ _⟩
    · have hne : ((allPend st l).put id ao).heap.get i = (allPend st l).heap.get i :=
        T.get_set_ne st.dep _ id i ao h3 (by omega) (by omega) e
      rcases h4 i hi with ⟨x, hx, b, c⟩ | ⟨a, b⟩
      · exact .inl ⟨x, by simp [hx], b, hne.trans c⟩
      · refine .inr ⟨fun x hx => ?_, hne.trans b⟩
        rcases List.mem_cons.1 hx with rfl | hx
        · exact e
        · exact a x hx

/-! ### The invariant -/
section inv
variable (P : Program) (G : Nat) (ops : Array Oper) (lim : Nat) (ds : Nat → DS) (vs : Nat → AV)

/-- A block has been put into the state by a heavy operation ahead of c. -/
def Mat (c q : Nat) : Prop := ∃ h oh, Is P ops ds .heavy h oh ∧ q < h ∧ h < c ∧ ((ancsOf ops).getD h 0).testBit q = true

structure InvAt (ρ0 : Ren) (st0 : St) (w0 : World) (df : List Deferred) (ρ : Ren) (c : Nat) (g : Nat → AO) (D : Nat → Bool) (a : Act) (w : World) : Prop where
  hc : c ≤ ops.size
  heavy : ∀ h oh, Is P ops ds .heavy h oh → (D h = true ↔ h < c)
  good : HGood ρ0 st0.heap.get st0.next w0 ρ g (ds c).st.next w
  ok : T.Ok (ds c).st.dep (ds c).st.heap
  le : (ds c).st.next ≤ 2 ^ (ds c).st.dep
  dep : (ds c).st.dep = st0.dep
  lim : lim ≤ (ds c).st.next
  gP : ∀ q ao, Makes P G ops ds q ao → D q = true → ¬ Mat P ops ds c q → g (ds q).nid = ao ∧ ∃ L, ρ (ds q).nid = some L ∧ w0.heap.size ≤ L.b
  gS : ∀ i, (∀ q ao, Makes P G ops ds q ao → D q = true → ¬ Mat P ops ds c q → i ≠ (ds q).nid) → g i = (ds c).st.heap.get i
  dead : ∀ q ao, Makes P G ops ds q ao → ¬ Mat P ops ds c q → ((ds c).st.heap.get (ds q).nid).live = false
  free : ∀ q ao, Makes P G ops ds q ao → D q = false → ρ (ds q).nid = none
  tsize : (ds 0).fr.lim ≤ a.tmps.size
  tmps : ∀ t, t < (ds 0).fr.lim → VR ρ (cur ops vs D ((ds 0).fr.get t) t ops.size) (a.tmps.getD t undef)
  defers : a.defers = df
  closed : ∀ p, p < ops.size → D p = true → ∀ r, ((ancsOf ops).getD p 0).testBit r = true → D r = true
  inr : ∀ p, D p = true → p < ops.size
end inv

def upd (D : Nat → Bool) (p : Nat) : Nat → Bool := fun q => if q = p then true else D q

theorem upd_same (D : Nat → Bool) (p : Nat) : upd D p p = true := by simp [upd]
theorem upd_ne {D : Nat → Bool} {p q : Nat} (h : q ≠ p) : upd D p q = D q := by simp [upd, h]

section step
variable {P : Program} {G : Nat} {call : CallF} {ops : Array Oper} {lim : Nat} {ds : Nat → DS} {vs : Nat → AV} {ρ0 : Ren} {st0 : St} {w0 : World} {df : List Deferred}

/-- What an operation looks at is, in whatever order, what the run had there. -/
theorem InvAt.looks {ρ : Ren} {c : Nat} {g : Nat → AO} {D : Nat → Bool} {a : Act} {w : World} (hI : InvAt P G ops lim ds vs ρ0 st0 w0 df ρ c g D a w) (hr : Run P G call ops lim (ancsOf ops) ds vs) (hst : StaticOk P ops (ancsOf ops))
    (hok : T.Ok (ds 0).fr.d (ds 0).fr.t) (hl : (ds 0).fr.lim ≤ 2 ^ (ds 0).fr.d) {p : Nat} {o : Oper} (hp : ops[p]? = some o) (hD : D p = false) (hanc : ∀ r, ((ancsOf ops).getD p 0).testBit r = true → D r = true) :
    ∀ t, t ∈ touch ops o → t < (ds 0).fr.lim → cur ops vs D ((ds 0).fr.get t) t ops.size = (ds p).fr.get t := by
  intro t ht htl
  have hps : p < ops.size := (Array.getElem?_eq_some_iff.1 hp).1
  obtain ⟨_, _, _, h4⟩ := hr.fr_spec hok hl p (by omega)
  rw [h4 t htl]
  have hafter : ∀ q, p ≤ q → q < ops.size → dstAt ops q = some t → D q = false := by
    intro q h1 h2 hd
    by_cases e : q = p
    · subst e; exact hD
    · obtain ⟨oq, hoq⟩ : ∃ o, ops[q]? = some o := ⟨_, Array.getElem?_eq_getElem h2⟩
      have hdq : oq.dst = some t := by simpa [dstAt, hoq] using hd
      have hconf : conflictD P ops o oq = true := by
        simp only [conflictD, hdq, Bool.or_eq_true]
        exact .inl (.inr (memT_iff.2 ht))
      have hbit := hst.conf q oq p o hoq hp (by omega) hconf
      cases hDq : D q with
      | false => rfl
      | true => have := hI.closed q h2 hDq p hbit; rw [hD] at this; cases this
  rw [cur_stop ops.size (by omega) hafter]
  apply cur_congr
  intro q hq hd
  obtain ⟨oq, hoq⟩ : ∃ o, ops[q]? = some o := ⟨_, Array.getElem?_eq_getElem (by omega)⟩
  have hdq : oq.dst = some t := by simpa [dstAt, hoq] using hd
  have hconf : conflictD P ops oq o = true := by
    simp only [conflictD, hdq, Bool.or_eq_true]
    exact .inl (.inl (memT_iff.2 ht))
  exact hanc q (hst.conf p o q oq hp hoq hq hconf)

/-- The frame behind an operation. -/
theorem InvAt.frame {ρ ρ' : Ren} {c : Nat} {g : Nat → AO} {D : Nat → Bool} {a : Act} {w : World} (hI : InvAt P G ops lim ds vs ρ0 st0 w0 df ρ c g D a w) (hr : Run P G call ops lim (ancsOf ops) ds vs) (hst : StaticOk P ops (ancsOf ops))
    (hok : T.Ok (ds 0).fr.d (ds 0).fr.t) (hl : (ds 0).fr.lim ≤ 2 ^ (ds 0).fr.d) {p : Nat} {o : Oper} (hp : ops[p]? = some o) (hD : D p = false) {z : Value} (he : Ext ρ ρ') (hz : VR ρ' (vs p) z) :
    (ds 0).fr.lim ≤ (a.put o.dst z).tmps.size ∧ ∀ t, t < (ds 0).fr.lim → VR ρ' (cur ops vs (upd D p) ((ds 0).fr.get t) t ops.size) ((a.put o.dst z).tmps.getD t undef) := by
  have hps : p < ops.size := (Array.getElem?_eq_some_iff.1 hp).1
  obtain ⟨h1, h2, h3, _⟩ := hr.fr_spec hok hl p (by omega)
  obtain ⟨hput, _⟩ := hr.says hp
  obtain ⟨_, _, _, g4, _⟩ := Fr.put_get hput h3 (by rw [h1, h2]; exact hl)
  have hsz : (a.put o.dst z).tmps.size = a.tmps.size := by cases o.dst <;> simp [Act.put]
  refine ⟨by rw [hsz]; exact hI.tsize, fun t ht => ?_⟩
  by_cases hd : o.dst = some t
  · have hdt : dstAt ops p = some t := by simp [dstAt, hp, hd]
    have hafter : ∀ q, p + 1 ≤ q → q < ops.size → dstAt ops q = some t → upd D p q = false := by
      intro q q1 q2 hdq
      rw [upd_ne (by omega)]
      obtain ⟨oq, hoq⟩ : ∃ o, ops[q]? = some o := ⟨_, Array.getElem?_eq_getElem q2⟩
      have hdq' : oq.dst = some t := by simpa [dstAt, hoq] using hdq
      have hconf : conflictD P ops o oq = true := by
        simp only [conflictD, hdq', Bool.or_eq_true]
        exact .inl (.inr (memT_iff.2 (by simp [touch, hd])))
      have hbit := hst.conf q oq p o hoq hp (by omega) hconf
      cases hDq : D q with
      | false => rfl
      | true => have := hI.closed q q2 hDq p hbit; rw [hD] at this; cases this
    rw [cur_stop ops.size (by omega) hafter]
    simp only [cur, upd_same, hdt, and_self, if_true]
    have hts : t < a.tmps.size := Nat.lt_of_lt_of_le ht hI.tsize
    rw [hd]
    simp only [Act.put, Array.getD_eq_getD_getElem?, Array.getElem?_setIfInBounds, if_true, hts, Option.getD_some]
    exact hz
  · have hdt : dstAt ops p ≠ some t := by simpa [dstAt, hp] using hd
    rw [cur_congr (D' := D) ops.size (fun q hq hdq => upd_ne (by rintro rfl; exact hdt hdq))]
    have : (a.put o.dst z).tmps.getD t undef = a.tmps.getD t undef := by
      cases hdd : o.dst with
      | none => rfl
      | some i =>
        have hne : i ≠ t := by rintro rfl; exact hd hdd
        simp only [Act.put, Array.getD_eq_getD_getElem?, Array.getElem?_setIfInBounds, hne, if_false]
    rw [this]
    exact (hI.tmps t ht).ext he

/-- An operation that neither makes a block nor is heavy. -/
theorem InvAt.light {ρ : Ren} {c : Nat} {g : Nat → AO} {D : Nat → Bool} {a : Act} {w w' : World} (hI : InvAt P G ops lim ds vs ρ0 st0 w0 df ρ c g D a w) (hr : Run P G call ops lim (ancsOf ops) ds vs) (hst : StaticOk P ops (ancsOf ops))
    (hok : T.Ok (ds 0).fr.d (ds 0).fr.t) (hl : (ds 0).fr.lim ≤ 2 ^ (ds 0).fr.d) {p : Nat} {o : Oper} (hp : ops[p]? = some o) (hD : D p = false) (hanc : ∀ r, ((ancsOf ops).getD p 0).testBit r = true → D r = true)
    {z : Value} (hz : VR ρ (vs p) z) (hnh : ∀ o', ¬ Is P ops ds .heavy p o') (hna : ∀ ao, ¬ Makes P G ops ds p ao) (hg : HGood ρ0 st0.heap.get st0.next w0 ρ g (ds c).st.next w') :
    InvAt P G ops lim ds vs ρ0 st0 w0 df ρ c g (upd D p) (a.put o.dst z) w' := by
  have hps : p < ops.size := (Array.getElem?_eq_some_iff.1 hp).1
  obtain ⟨f1, f2⟩ := hI.frame hr hst hok hl hp hD (.refl ρ) hz
  have hq : ∀ q ao, Makes P G ops ds q ao → upd D p q = D q := fun q ao hm => upd_ne (by rintro rfl; exact hna ao hm)
  refine ⟨hI.hc, ?_, hg, hI.ok, hI.le, hI.dep, hI.lim, ?_, ?_, hI.dead, ?_, f1, f2, ?_, ?_, ?_⟩
  · intro h oh hh
    rw [upd_ne (by rintro rfl; exact hnh _ hh)]; exact hI.heavy h oh hh
  · intro q ao hm hd; rw [hq q ao hm] at hd; exact hI.gP q ao hm hd
  · intro i hi; exact hI.gS i (fun q ao hm hd => hi q ao hm (by rw [hq q ao hm]; exact hd))
  · intro q ao hm hd; rw [hq q ao hm] at hd; exact hI.free q ao hm hd
  · have : (a.put o.dst z).defers = a.defers := by cases o.dst <;> rfl
    rw [this]; exact hI.defers
  · intro q hq' hd r hr'
    by_cases e : q = p
    · subst e
      have := hanc r hr'
      by_cases e' : r = q
      · subst e'; exact upd_same _ _
      · rw [upd_ne e']; exact this
    · rw [upd_ne e] at hd
      have := hI.closed q hq' hd r hr'
      by_cases e' : r = p
      · subst e'; exact upd_same _ _
      · rw [upd_ne e']; exact this
  · intro q hd
    by_cases e : q = p
    · subst e; exact hps
    · rw [upd_ne e] at hd; exact hI.inr q hd

end step
end
end Go.Ev

namespace Go.Ev
open Go
noncomputable section

theorem valR_VR {ρ : Ren} {fr : Fr} {a : Act} {G : Nat} {looks : List Tmp} (h : ∀ t, t ∈ looks → VR ρ (fr.get t) (a.tmps.getD t undef)) (hg : Glob ρ G) (x : Operand) : VR ρ (valR G looks fr x) (a.eval x) := by
  cases x with
  | tmp t =>
    simp only [valR]
    cases hb : memT t looks with
    | false => exact .top _
    | true => exact h t (memT_iff.1 hb)
  | const v => exact constA_VR ρ v
  | func f => exact .func _ _ _ _ _ .nil .nil
  | global g =>
    simp only [valR]
    cases hb : Nat.blt g G with
    | false => exact .top _
    | true =>
      obtain ⟨top, ht⟩ := hg g (blt_iff.1 hb)
      exact VR.ptr (ρ := ρ) g 0 ⟨g, 0, top⟩ ht

theorem wanted_sound' {ρ : Ren} {ops : Array Oper} {fr : Fr} {o : Oper} {b : Bool} {tmps : Array Value} (h : wantedA ops fr o = some b) (hs : fr.lim ≤ tmps.size)
    (hv : ∀ t, t ∈ o.looksAt ops → VR ρ (fr.get t) (tmps.getD t undef)) : Region.wanted o (yielded ops tmps) = b := by
  unfold wantedA at h
  unfold Region.wanted
  cases hg : o.guard with
  | none => rw [hg] at h; simp only [Option.some.injEq] at h; exact h
  | some p =>
    obtain ⟨j, want⟩ := p
    rw [hg] at h
    simp only [] at h ⊢
    unfold yielded
    split at h
    · rename_i hd
      rw [hd]; simp only [Option.some.injEq] at h; subst h; rfl
    · rename_i t hd
      rw [hd]
      simp only [Option.bind_some]
      have hlt : t < fr.lim ∨ fr.get t = .top := by
        rw [Fr.get_eq]
        cases hb : Nat.blt t fr.lim with
        | false => right; rfl
        | true => left; exact blt_iff.1 hb
      rcases hlt with hlt | htop
      · have hs : t < tmps.size := Nat.lt_of_lt_of_le hlt hs
        have hv := hv t (by unfold Oper.looksAt; rw [hg]; simp [hd])
        have hget : tmps.getD t undef = tmps[t] := by simp [Array.getD, hs]
        rw [hget] at hv
        rw [Array.getElem?_eq_getElem hs]
        split at h
        · rename_i bb hbb
          rw [hbb] at hv
          generalize tmps[t] = x at hv
          cases hv
          simp only [Option.some.injEq] at h; subst h
          simp
        · cases h
        · rename_i hnb hnt
          simp only [Option.some.injEq] at h; subst h
          generalize fr.get t = q at *
          generalize tmps[t] = x at hv
          cases hv <;> first | rfl | (exact absurd rfl hnt) | (exact absurd rfl (hnb _))
      · rw [htop] at h; simp at h

theorem readSame_some {P : Program} {G : Nat} {ops : Array Oper} {o : Oper} {fr : Fr} {r : AV} {st : St} (h : readSame P G ops o fr r st = true) : opRead P o.op (valR G (o.looksAt ops) fr) st = some r := by
  unfold readSame at h
  split at h
  · rename_i r' hr; rw [hr, AV.same_eq h]
  · cases h

section step
variable {P : Program} {G : Nat} {call : CallF} {ops : Array Oper} {lim : Nat} {ds : Nat → DS} {vs : Nat → AV} {ρ0 : Ren} {st0 : St} {w0 : World} {df : List Deferred}

theorem Is.uniq {c c' : Cls} {p : Nat} {o o' : Oper} (h : Is P ops ds c p o) (h' : Is P ops ds c' p o') : o = o' ∧ c = c' := by
  have e : o = o' := by have := h.1; rw [h'.1] at this; exact (Option.some.inj this).symm
  subst e
  exact ⟨rfl, h.2.2.symm.trans h'.2.2⟩

/-- What a read answers, whenever it comes up. -/
theorem InvAt.read {ρ : Ren} {c : Nat} {g : Nat → AO} {D : Nat → Bool} {a : Act} {w : World} (hI : InvAt P G ops lim ds vs ρ0 st0 w0 df ρ c g D a w) (hr : Run P G call ops lim (ancsOf ops) ds vs)
    {p : Nat} {o : Oper} (hp : Is P ops ds .read p o) (hD : D p = false) (hanc : ∀ r, ((ancsOf ops).getD p 0).testBit r = true → D r = true) :
    opRead P o.op (valR G (o.looksAt ops) (ds p).fr) (ds c).st = some (vs p) := by
  have hps : p < ops.size := (Array.getElem?_eq_some_iff.1 hp.1).1
  have hcs := hI.hc
  obtain ⟨_, hs⟩ := hr.says hp.1
  obtain ⟨hrd, hhist⟩ : opRead P o.op (valR G (o.looksAt ops) (ds p).fr) (ds p).st = some (vs p) ∧ histOk P G ops o (ds p).fr (vs p) ((ancsOf ops).getD p 0) (ds p).hist = true := by
    cases hs with
    | read _ _ h1 h2 _ => exact ⟨h1, h2⟩
    | skip hw _ _ => have := hp.2.1; rw [hw] at this; cases this
    | pure _ hc _ _ => have := hp.2.2; rw [hc] at this; cases this
    | alloc _ _ _ hc _ _ _ _ => have := hp.2.2; rw [hc] at this; cases this
    | soft _ _ _ _ _ _ hc _ _ _ _ => have := hp.2.2; rw [hc] at this; cases this
    | heavy _ hc _ _ _ _ => have := hp.2.2; rw [hc] at this; cases this
  by_cases hcp : c ≤ p
  · by_cases hex : ∃ h, h < p ∧ ∃ oh, Is P ops ds .heavy h oh ∧ c ≤ h
    · obtain ⟨h, h1, ⟨oh, h2, h3⟩, h4⟩ := exists_least p hex
      have hst : (ds h).st = (ds c).st := hr.st_same h3 (by omega) (fun h' o' hh a b => h4 h' b ⟨o', hh, a⟩)
      rw [← hst]
      refine readSame_some (hr.hist_spec p (by omega) hhist h oh h2 h1 ?_)
      intro h' oh' hh a b
      cases hq : ((ancsOf ops).getD p 0).testBit h' with
      | false => rfl
      | true =>
        have := (hI.heavy h' oh' hh).1 (hanc h' hq)
        omega
    · have hst : (ds p).st = (ds c).st := hr.st_same hcp (by omega) (fun h' o' hh a b => hex ⟨h', b, o', hh, a⟩)
      rw [← hst]; exact hrd
  · by_cases hex : ∃ h, h < c ∧ ∃ oh, Is P ops ds .heavy h oh ∧ p ≤ h
    · obtain ⟨h, h1, ⟨oh, h2, h3⟩, h4⟩ := exists_greatest c hex
      have hst : (ds c).st = (ds (h + 1)).st := hr.st_same (by omega) hcs (fun h' o' hh a b => h4 h' (by omega) b ⟨o', hh, by omega⟩)
      rw [hst]
      have hne : p ≠ h := by rintro rfl; have := (hp.uniq h2).2; cases this
      obtain ⟨_, hsh⟩ := hr.says h2.1
      have hrdok : rdsOk P G ops ((ancsOf ops).getD h 0) (ds (h + 1)).st (ds h).rds = true := by
        cases hsh with
        | heavy _ _ _ _ hrd _ => exact hrd
        | skip hw _ _ => have := h2.2.1; rw [hw] at this; cases this
        | pure _ hc _ _ => have := h2.2.2; rw [hc] at this; cases this
        | alloc _ _ _ hc _ _ _ _ => have := h2.2.2; rw [hc] at this; cases this
        | soft _ _ _ _ _ _ hc _ _ _ _ => have := h2.2.2; rw [hc] at this; cases this
        | read _ hc _ _ _ => have := h2.2.2; rw [hc] at this; cases this
      have hhs : h < ops.size := by omega
      refine readSame_some (hr.rds_spec h (by omega) hrdok p o hp (by omega) ?_)
      cases hq : ((ancsOf ops).getD h 0).testBit p with
      | false => rfl
      | true =>
        have hDh := (hI.heavy h oh h2).2 h1
        have := hI.closed h hhs hDh p hq
        rw [hD] at this; cases this
    · have hst : (ds c).st = (ds p).st := hr.st_same (by omega) hcs (fun h' o' hh a b => hex ⟨h', b, o', hh, a⟩)
      rw [hst]; exact hrd

/-- the blocks of a part of the state -/
theorem InvAt.sub {ρ : Ren} {c : Nat} {g : Nat → AO} {D : Nat → Bool} {a : Act} {w : World} (hI : InvAt P G ops lim ds vs ρ0 st0 w0 df ρ c g D a w) : Rel ρ (ds c).st w := by
  refine HRel.rel (hI.good.rel.sub ?_) hI.ok hI.le
  intro i hi hl
  symm
  apply hI.gS
  rintro q ao hm hd hnm rfl
  have := hI.dead q ao hm hnm
  rw [hl] at this; cases this

theorem nid_ge (hr : Run P G call ops lim (ancsOf ops) ds vs) (h0 : (ds 0).nid = st0.next) {q : Nat} {ao : AO} (h : Makes P G ops ds q ao) : st0.next ≤ (ds q).nid := by
  rw [← h0]
  exact hr.nid_mono (Nat.zero_le _) (by have := (hr.nid_lt h).2.2; omega)

/-- A step of whatever order. -/
theorem InvAt.step (hcall : CallOk P G call) {ρ : Ren} {c : Nat} {g : Nat → AO} {D : Nat → Bool} {a : Act} {w : World} (hI : InvAt P G ops lim ds vs ρ0 st0 w0 df ρ c g D a w) (hr : Run P G call ops lim (ancsOf ops) ds vs) (hst : StaticOk P ops (ancsOf ops))
    (hok : T.Ok (ds 0).fr.d (ds 0).fr.t) (hl : (ds 0).fr.lim ≤ 2 ^ (ds 0).fr.d) (hp0 : (ds 0).pend = []) (hn0 : (ds 0).nid = st0.next) (hG0 : Glob ρ0 G) {p : Nat} {o : Oper} (hp : ops[p]? = some o) (hD : D p = false)
    (hanc : ∀ r, ((ancsOf ops).getD p 0).testBit r = true → D r = true) {ro : Option Nat} {K : Act → World → Prop} {Q : Exit → Act → World → Prop}
    (hK : ∀ ρ' c' g' a' w', InvAt P G ops lim ds vs ρ0 st0 w0 df ρ' c' g' (upd D p) a' w' → K a' w') : wpOpIn (fence ro) 0 P ops Q p K a w := by
  have hps : p < ops.size := (Array.getElem?_eq_some_iff.1 hp).1
  obtain ⟨q1, q2, q3, _⟩ := hr.fr_spec hok hl p (by omega)
  have hlook : ∀ t, t ∈ o.looksAt ops → VR ρ ((ds p).fr.get t) (a.tmps.getD t undef) := by
    intro t ht
    by_cases htl : t < (ds 0).fr.lim
    · rw [← hI.looks hr hst hok hl hp hD hanc t (by simp [touch, ht]) htl]
      exact hI.tmps t htl
    · rw [Fr.get_eq, q1]
      have : Nat.blt t (ds 0).fr.lim = false := by
        cases hb : Nat.blt t (ds 0).fr.lim with
        | false => rfl
        | true => exact absurd (blt_iff.1 hb) htl
      rw [this]; exact .top _
  have hG : Glob ρ G := hG0.ext hI.good.ext
  have hv : ∀ x, VR ρ (valR G (o.looksAt ops) (ds p).fr x) (a.eval x) := valR_VR hlook hG
  have hwant : ∀ {b}, wantedA ops (ds p).fr o = some b → Region.wanted o (yielded ops a.tmps) = b := fun hw => wanted_sound' hw (by rw [q1]; exact hI.tsize) hlook
  have hdef : ∀ (z : Value), (a.put o.dst z).defers = a.defers := by intro z; cases o.dst <;> rfl
  obtain ⟨hput, hs⟩ := hr.says hp
  have no : ∀ {d : Cls}, clsOf P o.op ≠ d → ∀ o', ¬ Is P ops ds d p o' := by
    intro d hne o' hi
    have : o' = o := by have := hi.1; rw [hp] at this; exact (Option.some.inj this).symm
    subst this; exact hne hi.2.2
  have nm : clsOf P o.op ≠ .alloc → ∀ ao, ¬ Makes P G ops ds p ao := fun hne ao hm => by obtain ⟨o', _, hi, _⟩ := hm; exact no hne o' hi
  have nd : clsOf P o.op ≠ .heavy → ∀ c, o.op ≠ .defer c := fun h c hc => h (by rw [hc]; rfl)
  unfold wpOpIn
  rw [hp]
  simp only []
  cases hs with
  | skip hw hvv _ =>
    rw [hwant hw]
    simp only [Bool.false_eq_true, if_false]
    have nw : ∀ c o', ¬ Is P ops ds c p o' := fun c o' hi => by
      have : o' = o := by have := hi.1; rw [hp] at this; exact (Option.some.inj this).symm
      subst this
      have := hi.2.1; rw [hw] at this; cases this
    refine ⟨fun _ _ => trivial, ?_⟩
    exact hK ρ c g _ w (hI.light hr hst hok hl hp hD hanc (by rw [hvv]; exact .tup _ _ .nil) (nw _) (fun ao hm => by obtain ⟨o', _, hi, _⟩ := hm; exact nw _ _ hi) hI.good)
  | pure hw hc hrr _ =>
    rw [hwant hw]; simp only [if_true]
    obtain ⟨z, h1, h2⟩ := opPure_sound hrr hv w
    refine wpIn_of_upon (nd (by rw [hc]; simp)) ?_; rw [h1]
    exact hK ρ c g _ w (hI.light hr hst hok hl hp hD hanc h2 (no (by rw [hc]; simp)) (nm (by rw [hc]; simp)) hI.good)
  | read hw hc _ _ _ =>
    rw [hwant hw]; simp only [if_true]
    obtain ⟨z, h1, h2⟩ := opRead_sound (hI.read hr ⟨hp, hw, hc⟩ hD hanc) hv hI.sub
    refine wpIn_of_upon (nd (by rw [hc]; simp)) ?_; rw [h1]
    exact hK ρ c g _ w (hI.light hr hst hok hl hp hD hanc h2 (no (by rw [hc]; simp)) (nm (by rw [hc]; simp)) hI.good)
  | alloc ao f hw hc hrr hn hvv _ =>
    rw [hwant hw]; simp only [if_true]
    have hmk : Makes P G ops ds p ao := ⟨o, f, ⟨hp, hw, hc⟩, hrr⟩
    obtain ⟨z, ob, sh, top, w', h1, h2, h3, h4⟩ := opAlloc_sound hrr hv w
    have hfree := hI.free p ao hmk hD
    have hge := nid_ge hr hn0 hmk
    have hlim := hI.lim
    have hext := Ren.ext_set (ρ := ρ) (i := (ds p).nid) (L := ⟨w.heap.size, sh, top⟩) hfree
    obtain ⟨h5, h6⟩ := h4 (ds p).nid (ρ.set (ds p).nid ⟨w.heap.size, sh, top⟩) hext (Ren.set_same _ _ _)
    have hz : VR (ρ.set (ds p).nid ⟨w.heap.size, sh, top⟩) (vs p) z := by rw [hvv]; exact h6
    have hgood := hI.good.addAt (id := (ds p).nid) (L := ⟨w.heap.size, sh, top⟩) (g' := fun i => if i = (ds p).nid then ao else g i) (by omega) hge hfree rfl h2 h3 h5 (fun i _ => rfl)
    obtain ⟨f1, f2⟩ := hI.frame hr hst hok hl hp hD hext hz
    have hnm : ¬ Mat P ops ds c p := by
      rintro ⟨h, oh, hh, a1, a2, a3⟩
      have hDh := (hI.heavy h oh hh).2 a2
      have := hI.closed h (by have := hI.hc; omega) hDh p a3
      rw [hD] at this; cases this
    have hne : ∀ {q ao'}, Makes P G ops ds q ao' → q ≠ p → (ds q).nid ≠ (ds p).nid := fun hm hq e => hq (hr.nid_inj hm hmk e)
    refine wpIn_of_upon (nd (by rw [hc]; simp)) ?_; rw [h1]
    refine hK (ρ.set (ds p).nid ⟨w.heap.size, sh, top⟩) c (fun i => if i = (ds p).nid then ao else g i) _ w' ⟨hI.hc, ?_, hgood, hI.ok, hI.le, hI.dep, hI.lim, ?_, ?_, hI.dead, ?_, f1, f2, (hdef z).trans hI.defers, ?_, ?_⟩
    · intro h oh hh
      rw [upd_ne (by rintro rfl; exact no (by rw [hc]; simp) _ hh)]; exact hI.heavy h oh hh
    · intro q ao' hm hd hnm'
      by_cases e : q = p
      · subst e
        obtain ⟨o', f', hi, ha'⟩ := hm
        have : o' = o := by have := hi.1; rw [hp] at this; exact (Option.some.inj this).symm
        subst this
        rw [hrr] at ha'; cases ha'
        refine ⟨by simp, ⟨w.heap.size, sh, top⟩, Ren.set_same _ _ _, hI.good.size⟩
      · rw [upd_ne e] at hd
        obtain ⟨g1, L, g2, g3⟩ := hI.gP q ao' hm hd hnm'
        refine ⟨?_, L, hext _ _ g2, g3⟩
        rw [if_neg (hne hm e)]; exact g1
    · intro i hi
      have hip : i ≠ (ds p).nid := hi p ao hmk (upd_same _ _) hnm
      rw [if_neg hip]
      apply hI.gS
      intro q ao' hm hd hnm'
      have e : q ≠ p := by rintro rfl; rw [hD] at hd; cases hd
      exact hi q ao' hm (by rw [upd_ne e]; exact hd) hnm'
    · intro q ao' hm hd
      have e : q ≠ p := by rintro rfl; rw [upd_same] at hd; cases hd
      rw [upd_ne e] at hd
      rw [Ren.set_ne (hne hm e)]
      exact hI.free q ao' hm hd
    · intro q hq' hd r hr'
      by_cases e : q = p
      · subst e
        have := hanc r hr'
        by_cases e' : r = q
        · subst e'; exact upd_same _ _
        · rw [upd_ne e']; exact this
      · rw [upd_ne e] at hd
        have := hI.closed q hq' hd r hr'
        by_cases e' : r = p
        · subst e'; exact upd_same _ _
        · rw [upd_ne e']; exact this
    · intro q hd
      by_cases e : q = p
      · subst e; exact hps
      · rw [upd_ne e] at hd; exact hI.inr q hd
  | soft i off len cap es hw hc hrr hvv hpr _ =>
    rw [hwant hw]; simp only [if_true]
    obtain ⟨z, i', off', len', cap', es', L, w', he, hL, h1, h2, h3, h4, h5⟩ := soft_run hrr hv w
    rw [hvv] at he; cases he
    -- the block is one that is kept for an operation of the region
    obtain ⟨x, hx, hxp⟩ := List.any_eq_true.1 hpr
    simp only [Bool.and_eq_true, beq_iff] at hxp
    obtain ⟨⟨hxi, hxb⟩, hxr⟩ := hxp
    obtain ⟨q, ao, rfl, hqp, hmq, hnoh⟩ := (hr.pend_spec hp0 p (by omega) x).1 hx
    simp only [] at hxi hxb hxr
    have hDq := hanc q hxb
    have hnm : ¬ Mat P ops ds c q := by
      rintro ⟨h, oh, hh, a1, a2, a3⟩
      obtain ⟨k, k1, ⟨ok, k2, k3, k4, k5⟩, k6⟩ := exists_least (Q := fun h => ∃ oh, Is P ops ds .heavy h oh ∧ q < h ∧ h < c ∧ ((ancsOf ops).getD h 0).testBit q = true) c ⟨h, a2, oh, hh, a1, a2, a3⟩
      have hcs := hI.hc
      rcases Nat.lt_trichotomy k p with e | e | e
      · have := hnoh k ok k2 k3 e; rw [k5] at this; cases this
      · subst e; exact no (by rw [hc]; simp) _ k2
      · have hDk := (hI.heavy k ok k2).2 k4
        have hbp : ((ancsOf ops).getD k 0).testBit p = false := by
          cases hq : ((ancsOf ops).getD k 0).testBit p with
          | false => rfl
          | true => have := hI.closed k (by omega) hDk p hq; rw [hD] at this; cases this
        obtain ⟨_, hsk⟩ := hr.says k2.1
        have hso : softsOk ((ancsOf ops).getD k 0) (ds k).softs (ds k).pend = true := by
          cases hsk with
          | heavy _ _ hso _ _ _ => exact hso
          | skip hw _ _ => have := k2.2.1; rw [hw] at this; cases this
          | pure _ hc _ _ => have := k2.2.2; rw [hc] at this; cases this
          | alloc _ _ _ hc _ _ _ _ => have := k2.2.2; rw [hc] at this; cases this
          | soft _ _ _ _ _ _ hc _ _ _ _ => have := k2.2.2; rw [hc] at this; cases this
          | read _ hc _ _ _ => have := k2.2.2; rw [hc] at this; cases this
        have hmem := hr.softs_spec k (by omega) p o i off len cap es ⟨hp, hw, hc⟩ hvv e
        have h7 := List.all_eq_true.1 hso _ hmem
        simp only [hbp, Bool.false_or] at h7
        have hpk : (q, (ds q).nid, ao) ∈ (ds k).pend := (hr.pend_spec hp0 k (by omega) _).2 ⟨q, ao, rfl, k3, hmq, fun h' oh' hh' b1 b2 => by
          cases hq : ((ancsOf ops).getD h' 0).testBit q with
          | false => rfl
          | true => exact (k6 h' b2 ⟨oh', hh', b1, by omega, hq⟩).elim⟩
        have h8 := List.all_eq_true.1 h7 _ hpk
        simp only [k5, Bool.not_true, Bool.false_or, Bool.not_eq_true'] at h8
        rw [hxi] at h8
        simp at h8
    obtain ⟨hgao, L', hL', hge⟩ := hI.gP q ao hmq hDq hnm
    rw [hxi] at hgao
    rw [hxi, hL] at hL'; cases hL'
    refine wpIn_of_upon (nd (by rw [hc]; simp)) ?_; rw [h1]
    exact hK ρ c g _ w' (hI.light hr hst hok hl hp hD hanc h2 (no (by rw [hc]; simp)) (nm (by rw [hc]; simp)) (hI.good.mark h3 h4 h5 hge ⟨i, L, Nat.lt_of_not_le fun hle => (by have := hI.good.rel.fresh i hle; rw [hL] at this; cases this), by rw [hgao]; exact hxr, hL, rfl⟩))
  | heavy hw hc hso hrr hrd _ =>
    rw [hwant hw]; simp only [if_true]
    have hIs : Is P ops ds .heavy p o := ⟨hp, hw, hc⟩
    have hcp : c ≤ p := by
      rcases Nat.lt_or_ge p c with e | e
      · have := (hI.heavy p o hIs).2 e; rw [hD] at this; cases this
      · exact e
    have hno : ∀ h oh, Is P ops ds .heavy h oh → c ≤ h → h < p → False := by
      intro h oh hh h1 h2
      have hconf : conflictD P ops oh o = true := by
        simp only [conflictD, Bool.or_eq_true, Bool.and_eq_true]
        exact .inr ⟨by simp [hvy, hh.2.2], by simp [hvy, hc]⟩
      have := (hI.heavy h oh hh).1 (hanc h (hst.conf p o h oh hp hh.1 h2 hconf))
      omega
    have hstp : (ds p).st = (ds c).st := hr.st_same hcp (by omega) hno
    have hmat : ∀ q, Mat P ops ds (p + 1) q ↔ Mat P ops ds c q ∨ (q < p ∧ ((ancsOf ops).getD p 0).testBit q = true) := by
      intro q
      constructor
      · rintro ⟨h, oh, hh, a1, a2, a3⟩
        by_cases e : h = p
        · subst e; exact .inr ⟨a1, a3⟩
        · refine .inl ⟨h, oh, hh, a1, ?_, a3⟩
          rcases Nat.lt_or_ge h c with e' | e'
          · exact e'
          · exact (hno h oh hh e' (by omega)).elim
      · rintro (⟨h, oh, hh, a1, a2, a3⟩ | ⟨a1, a2⟩)
        · exact ⟨h, oh, hh, a1, by omega, a3⟩
        · exact ⟨p, o, hIs, a1, by omega, a2⟩
    have hlim := hI.lim
    have hids : ∀ x ∈ (ds p).pend, x.2.1 < (ds p).st.next := by
      intro x hx
      obtain ⟨q, ao, rfl, _, hm, _⟩ := (hr.pend_spec hp0 p (by omega) x).1 hx
      have := (hr.nid_lt hm).1
      rw [hstp]; simp only []; omega
    obtain ⟨m1, m2, m3, m4⟩ := matSt_spec (mask := (ancsOf ops).getD p 0) (st := (ds p).st) (by rw [hstp]; exact hI.ok) (by rw [hstp]; exact hI.le) (ds p).pend hids
    have hnext : (ds p).st.next = (ds c).st.next := by rw [hstp]
    -- what has been put into the state now
    have hput1 : ∀ q ao, Makes P G ops ds q ao → q < p → ((ancsOf ops).getD p 0).testBit q = true → ¬ Mat P ops ds c q → (q, (ds q).nid, ao) ∈ (ds p).pend := by
      intro q ao hm hqp hb hnm
      refine (hr.pend_spec hp0 p (by omega) _).2 ⟨q, ao, rfl, hqp, hm, fun h oh hh b1 b2 => ?_⟩
      cases hq : ((ancsOf ops).getD h 0).testBit q with
      | false => rfl
      | true =>
        rcases Nat.lt_or_ge h c with e | e
        · exact (hnm ⟨h, oh, hh, b1, e, hq⟩).elim
        · exact (hno h oh hh e b2).elim
    have hput2 : ∀ x ∈ (ds p).pend, ∃ q ao, x = (q, (ds q).nid, ao) ∧ q < p ∧ Makes P G ops ds q ao ∧ ¬ Mat P ops ds c q := by
      intro x hx
      obtain ⟨q, ao, rfl, h1, hm, h2⟩ := (hr.pend_spec hp0 p (by omega) x).1 hx
      refine ⟨q, ao, rfl, h1, hm, ?_⟩
      rintro ⟨h, oh, hh, a1, a2, a3⟩
      have := h2 h oh hh a1 (by omega); rw [a3] at this; cases this
    generalize hSm : matSt ((ancsOf ops).getD p 0) (ds p).st (ds p).pend = Sm at *
    have hsub : ∀ i, i < (ds c).st.next → (Sm.heap.get i).live = true → Sm.heap.get i = g i := by
      intro i hi hlv
      rcases m4 i (by omega) with ⟨x, hx, b1, b2, b3⟩ | ⟨b1, b2⟩
      · obtain ⟨q, ao, rfl, _, hm, hnm⟩ := hput2 x hx
        simp only [] at b1 b2 b3
        rw [b3, ← b2]
        exact (hI.gP q ao hm (hanc q b1) hnm).1.symm
      · rw [b2, hstp]
        symm
        apply hI.gS
        rintro q ao hm hd hnm rfl
        have := hI.dead q ao hm hnm
        rw [b2, hstp] at hlv
        rw [hlv] at this; cases this
    have hRm : Rel ρ Sm w := by
      refine HRel.rel (st := Sm) ?_ (by rw [m2]; exact m3) (by rw [m1, m2, hstp]; exact hI.le)
      rw [m1, hnext]
      exact hI.good.rel.sub hsub
    refine opHeavy_sound hcall hrr hv hRm hG ?_
    intro ρ' z w' hz hg
    have hg' := hg.h
    rw [m1, hnext] at hg'
    have hS'next := hg.next
    rw [m1, hnext] at hS'next
    have hframe := HGood.frame (g' := fun i => if i < (ds c).st.next ∧ (Sm.heap.get i).live = false then g i else (ds (p + 1)).st.heap.get i) hI.good.rel hsub hg' (fun i _ => rfl)
    have hgood := hI.good.trans hframe
    -- a block that is still to be put into the state
    have hdeadm : ∀ q ao, Makes P G ops ds q ao → ¬ Mat P ops ds (p + 1) q → (Sm.heap.get (ds q).nid).live = false := by
      intro q ao hm hnm
      have hnm1 : ¬ Mat P ops ds c q := fun h => hnm ((hmat q).2 (.inl h))
      have hlt := (hr.nid_lt hm).1
      rcases m4 (ds q).nid (by omega) with ⟨x, hx, b1, b2, b3⟩ | ⟨b1, b2⟩
      · obtain ⟨q', ao', rfl, h1, hm', _⟩ := hput2 x hx
        have e := hr.nid_inj hm' hm b2
        subst e
        exact (hnm ((hmat q').2 (.inr ⟨h1, b1⟩))).elim
      · rw [b2, hstp]; exact hI.dead q ao hm hnm1
    have hnidlt : ∀ q ao, Makes P G ops ds q ao → (ds q).nid < (ds c).st.next := fun q ao hm => by have := (hr.nid_lt hm).1; omega
    obtain ⟨f1, f2⟩ := hI.frame hr hst hok hl hp hD hg.ext hz
    have hqp : ∀ q ao, Makes P G ops ds q ao → q ≠ p := by
      rintro q ao ⟨o', _, hi, _⟩ rfl
      have := (hi.uniq hIs).2; cases this
    refine hK ρ' (p + 1) (fun i => if i < (ds c).st.next ∧ (Sm.heap.get i).live = false then g i else (ds (p + 1)).st.heap.get i) _ w'
      ⟨by omega, ?_, hgood, hg.rel.ok, hg.rel.lt, by rw [hg.dep, m2, hstp]; exact hI.dep, by omega, ?_, ?_, ?_, ?_, f1, f2, (hdef z).trans hI.defers, ?_, ?_⟩
    · intro h oh hh
      by_cases e : h = p
      · subst e; rw [upd_same]; simp
      · rw [upd_ne e, hI.heavy h oh hh]
        constructor
        · intro; omega
        · intro h1
          rcases Nat.lt_or_ge h c with e' | e'
          · exact e'
          · exact (hno h oh hh e' (by omega)).elim
    · intro q ao hm hd hnm
      rw [upd_ne (hqp q ao hm)] at hd
      have hnm1 : ¬ Mat P ops ds c q := fun h => hnm ((hmat q).2 (.inl h))
      obtain ⟨g1, L, g2, g3⟩ := hI.gP q ao hm hd hnm1
      refine ⟨?_, L, hg.ext _ _ g2, g3⟩
      rw [if_pos ⟨hnidlt q ao hm, hdeadm q ao hm hnm⟩]; exact g1
    · intro i hi
      by_cases hcd : i < (ds c).st.next ∧ (Sm.heap.get i).live = false
      · rw [if_pos hcd]
        have hd1 := not_live (hg.dead i (by rw [m1, hnext]; exact hcd.1) hcd.2)
        rw [hd1]
        have key : ∀ q ao, Makes P G ops ds q ao → D q = true → ¬ Mat P ops ds c q → i ≠ (ds q).nid := by
          rintro q ao hm hd hnm rfl
          by_cases hmm : Mat P ops ds (p + 1) q
          · rcases (hmat q).1 hmm with h | ⟨h1, h2⟩
            · exact hnm h
            · have hmem := hput1 q ao hm h1 h2 hnm
              rcases m4 (ds q).nid (by omega) with ⟨x, hx, b1, b2, b3⟩ | ⟨b1, b2⟩
              · obtain ⟨q', ao', rfl, _, hm', _⟩ := hput2 x hx
                simp only [] at b3
                rw [b3] at hcd
                obtain ⟨_, _, _, ha⟩ := hm'
                rw [opAlloc_live ha] at hcd
                cases hcd.2
              · exact b1 _ hmem h2 rfl
          · exact hi q ao hm (by rw [upd_ne (hqp q ao hm)]; exact hd) hmm rfl
        have hgi := hI.gS i key
        rw [hgi]
        rcases m4 i (by omega) with ⟨x, hx, b1, b2, b3⟩ | ⟨b1, b2⟩
        · obtain ⟨q', ao', rfl, _, hm', hnm'⟩ := hput2 x hx
          exact (key q' ao' hm' (hanc q' b1) hnm' b2.symm).elim
        · rw [b2, hstp] at hcd
          exact not_live hcd.2
      · rw [if_neg hcd]
    · intro q ao hm hnm
      exact hg.dead _ (by rw [m1, hnext]; exact hnidlt q ao hm) (hdeadm q ao hm hnm)
    · intro q ao hm hd
      rw [upd_ne (hqp q ao hm)] at hd
      rw [hg.old _ (by rw [m1, hnext]; exact hnidlt q ao hm)]
      exact hI.free q ao hm hd
    · intro q hq' hd r hr'
      by_cases e : q = p
      · subst e
        have := hanc r hr'
        by_cases e' : r = q
        · subst e'; exact upd_same _ _
        · rw [upd_ne e']; exact this
      · rw [upd_ne e] at hd
        have := hI.closed q hq' hd r hr'
        by_cases e' : r = p
        · subst e'; exact upd_same _ _
        · rw [upd_ne e']; exact this
    · intro q hd
      by_cases e : q = p
      · subst e; exact hps
      · rw [upd_ne e] at hd; exact hI.inr q hd

end step
end
end Go.Ev

