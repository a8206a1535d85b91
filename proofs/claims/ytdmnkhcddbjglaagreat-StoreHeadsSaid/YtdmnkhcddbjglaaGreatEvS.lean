/-
  A region that draws: whatever order is drawn, the run ends as the evaluator says.
-/
import Derived.Test.YtdmnkhcddbjglaaGreatEvR
namespace Go.Ev
open Go
noncomputable section

theorem exists_least {Q : Nat → Prop} : ∀ (n : Nat), (∃ h, h < n ∧ Q h) → ∃ h, h < n ∧ Q h ∧ ∀ h', h' < h → ¬ Q h' := by
  intro n
  induction n with
  | zero => rintro ⟨h, hh, _⟩; omega
  | succ n ih =>
    rintro ⟨h, hh, hq⟩
    by_cases hex : ∃ h, h < n ∧ Q h
    · obtain ⟨k, h1, h2, h3⟩ := ih hex
      exact ⟨k, by omega, h2, h3⟩
    · refine ⟨h, hh, hq, fun h' hlt hq' => hex ⟨h', by omega, hq'⟩⟩

theorem exists_greatest {Q : Nat → Prop} : ∀ (n : Nat), (∃ h, h < n ∧ Q h) → ∃ h, h < n ∧ Q h ∧ ∀ h', h < h' → h' < n → ¬ Q h' := by
  intro n
  induction n with
  | zero => rintro ⟨h, hh, _⟩; omega
  | succ n ih =>
    rintro ⟨h, hh, hq⟩
    by_cases hn : Q n
    · exact ⟨n, by omega, hn, fun h' h1 h2 => by omega⟩
    · have : h ≠ n := by rintro rfl; exact hn hq
      obtain ⟨k, h1, h2, h3⟩ := ih ⟨h, by omega, hq⟩
      refine ⟨k, by omega, h2, fun h' a b => ?_⟩
      by_cases e : h' = n
      · subst e; exact hn
      · exact h3 h' a (by omega)

/-! ### Frames -/
def dstAt (ops : Array Oper) (p : Nat) : Option Tmp := (ops[p]?).bind (·.dst)

def cur (ops : Array Oper) (vs : Nat → AV) (D : Nat → Bool) (base : AV) (t : Nat) : Nat → AV
  | 0 => base
  | p + 1 => if D p = true ∧ dstAt ops p = some t then vs p else cur ops vs D base t p

theorem cur_congr {ops : Array Oper} {vs : Nat → AV} {D D' : Nat → Bool} {base : AV} {t : Nat} : ∀ (n : Nat), (∀ q, q < n → dstAt ops q = some t → D q = D' q) → cur ops vs D base t n = cur ops vs D' base t n := by
  intro n
  induction n with
  | zero => intros; rfl
  | succ n ih =>
    intro h
    simp only [cur]
    rw [ih (fun q hq => h q (by omega))]
    by_cases hd : dstAt ops n = some t
    · rw [h n (by omega) hd]
    · simp [hd]

theorem cur_stop {ops : Array Oper} {vs : Nat → AV} {D : Nat → Bool} {base : AV} {t : Nat} {m : Nat} : ∀ (n : Nat), m ≤ n → (∀ q, m ≤ q → q < n → dstAt ops q = some t → D q = false) → cur ops vs D base t n = cur ops vs D base t m := by
  intro n
  induction n with
  | zero => intro h _; have : m = 0 := by omega
            subst this; rfl
  | succ n ih =>
    intro h hno
    by_cases e : m = n + 1
    · subst e; rfl
    · simp only [cur]
      rw [ih (by omega) (fun q a b c => hno q a (by omega) c)]
      rw [if_neg]
      rintro ⟨h1, h2⟩
      rw [hno n (by omega) (by omega) h2] at h1; cases h1

theorem Fr.put_get {f f' : Fr} {dst : Option Tmp} {v : AV} (hp : f.put dst v = some f') (hok : T.Ok f.d f.t) (hl : f.lim ≤ 2 ^ f.d) :
    f'.lim = f.lim ∧ f'.d = f.d ∧ T.Ok f'.d f'.t ∧ (∀ t, dst = some t → t < f.lim) ∧ ∀ t, t < f.lim → f'.get t = if dst = some t then v else f.get t := by
  cases dst with
  | none =>
    simp only [Fr.put, Option.some.injEq] at hp; subst hp
    exact ⟨rfl, rfl, hok, (fun t h => by cases h), (fun t _ => by simp)⟩
  | some i =>
    rw [Fr.put_some] at hp
    cases hb : Nat.blt i f.lim with
    | false => rw [hb] at hp; simp at hp
    | true =>
      rw [hb] at hp; simp only [cond_true, Option.some.injEq] at hp; subst hp
      have hi := blt_iff.1 hb
      refine ⟨rfl, rfl, hok.set i v, fun t h => by cases h; exact hi, fun t ht => ?_⟩
      rw [Fr.get_eq, Fr.get_eq]
      have hbt : Nat.blt t f.lim = true := blt_iff.2 ht
      simp only [hbt, cond_true]
      by_cases e : i = t
      · subst e; rw [if_pos rfl, T.get_set_same]
      · rw [if_neg (by simpa using e), T.get_set_ne f.d f.t i t v hok (by omega) (by omega) e]

theorem Run.fr_spec {P : Program} {G : Nat} {call : CallF} {ops : Array Oper} {lim : Nat} {ms : List Nat} {ds : Nat → DS} {vs : Nat → AV} (hr : Run P G call ops lim ms ds vs)
    (hok : T.Ok (ds 0).fr.d (ds 0).fr.t) (hl : (ds 0).fr.lim ≤ 2 ^ (ds 0).fr.d) : ∀ p, p ≤ ops.size →
    (ds p).fr.lim = (ds 0).fr.lim ∧ (ds p).fr.d = (ds 0).fr.d ∧ T.Ok (ds p).fr.d (ds p).fr.t ∧ ∀ t, t < (ds 0).fr.lim → (ds p).fr.get t = cur ops vs (fun _ => true) ((ds 0).fr.get t) t p := by
  intro p
  induction p with
  | zero => intro _; exact ⟨rfl, rfl, hok, fun _ _ => rfl⟩
  | succ p ih =>
    intro hp
    obtain ⟨h1, h2, h3, h4⟩ := ih (by omega)
    obtain ⟨o, ho⟩ : ∃ o, ops[p]? = some o := ⟨_, Array.getElem?_eq_getElem (by omega)⟩
    obtain ⟨hput, _⟩ := hr.says ho
    obtain ⟨g1, g2, g3, _, g5⟩ := Fr.put_get hput h3 (by rw [h1, h2]; exact hl)
    refine ⟨g1.trans h1, g2.trans h2, g3, fun t ht => ?_⟩
    rw [g5 t (by omega), h4 t ht]
    simp only [cur, dstAt, ho, Option.bind_some, true_and]

theorem mkRow_live {x : Blk} {o : AO} (h : mkRow x = some o) : o.live = true := by
  cases x with
  | l y =>
    simp only [mkRow] at h
    cases hb : Nat.ble y.length (2 ^ depthOf 64 y.length) <;> rw [hb] at h <;> simp at h
    subst h; rfl
  | b n m => simp only [mkRow, Option.some.injEq] at h; subst h; rfl

theorem opAlloc_live {P : Program} {o : Op} {v : Operand → AV} {ao : AO} {f : Nat → AV} (h : opAlloc P o v = some (ao, f)) : ao.live = true := by
  unfold opAlloc at h
  repeat' split at h
  all_goals first
    | (cases h; done)
    | (simp only [Option.map_eq_some_iff, Prod.mk.injEq] at h; obtain ⟨x, hx, rfl, _⟩ := h; exact mkRow_live hx)
    | (simp only [Option.some.injEq, Prod.mk.injEq] at h; obtain ⟨rfl, _⟩ := h; rfl)
    | (obtain ⟨_, h⟩ := bif_some h; first
        | (cases h; done)
        | (simp only [Option.map_eq_some_iff, Prod.mk.injEq] at h; obtain ⟨x, hx, rfl, _⟩ := h; exact mkRow_live hx))

theorem matSt_spec {mask : Nat} {st : St} (hok : T.Ok st.dep st.heap) (hle : st.next ≤ 2 ^ st.dep) : ∀ (l : List (Nat × Nat × AO)), (∀ x ∈ l, x.2.1 < st.next) →
    (matSt mask st l).next = st.next ∧ (matSt mask st l).dep = st.dep ∧ T.Ok st.dep (matSt mask st l).heap ∧
    ∀ i, i < st.next → (∃ x ∈ l, mask.testBit x.1 = true ∧ x.2.1 = i ∧ (matSt mask st l).heap.get i = x.2.2) ∨ ((∀ x ∈ l, mask.testBit x.1 = true → x.2.1 ≠ i) ∧ (matSt mask st l).heap.get i = st.heap.get i) := by
  intro l
  induction l with
  | nil => intro _; exact ⟨rfl, rfl, hok, fun i _ => .inr ⟨by simp, rfl⟩⟩
  | cons x l ih =>
    intro hlt
    obtain ⟨q, id, ao⟩ := x
    obtain ⟨h1, h2, h3, h4⟩ := ih (fun x hx => hlt x (by simp [hx]))
    have hid : id < st.next := hlt (q, id, ao) (by simp)
    simp only [matSt]
    cases hb : mask.testBit q with
    | false =>
      simp only [cond_false]
      refine ⟨h1, h2, h3, fun i hi => ?_⟩
      rcases h4 i hi with ⟨x, hx, a, b, c⟩ | ⟨a, b⟩
      · exact .inl ⟨x, by simp [hx], a, b, c⟩
      · refine .inr ⟨fun x hx hbit => ?_, b⟩
        rcases List.mem_cons.1 hx with rfl | hx
        · rw [hb] at hbit; cases hbit
        · exact a x hx hbit
    | true =>
      simp only [cond_true]
      refine ⟨h1, h2, T.Ok.set id ao h3, fun i hi => ?_⟩
      by_cases e : id = i
      · subst e
        exact .inl ⟨(q, id, ao), by simp, hb, rfl, T.get_set_same _ _ _⟩
      · have hne : ((matSt mask st l).put id ao).heap.get i = (matSt mask st l).heap.get i :=
          T.get_set_ne st.dep _ id i ao h3 (by omega) (by omega) e
        rcases h4 i hi with ⟨x, hx, a, b, c⟩ | ⟨a, b⟩
        · exact .inl ⟨x, by simp [hx], a, b, hne.trans c⟩
        · refine .inr ⟨fun x hx hbit => ?_, hne.trans b⟩
          rcases List.mem_cons.1 hx with rfl | hx
          · exact e
          · exact a x hx hbit

theorem allPend_spec {st : St} (hok : T.Ok st.dep st.heap) (hle : st.next ≤ 2 ^ st.dep) : ∀ (l : List (Nat × Nat × AO)), (∀ x ∈ l, x.2.1 < st.next) →
    (allPend st l).next = st.next ∧ (allPend st l).dep = st.dep ∧ T.Ok st.dep (allPend st l).heap ∧
    ∀ i, i < st.next → (∃ x ∈ l, x.2.1 = i ∧ (allPend st l).heap.get i = x.2.2) ∨ ((∀ x ∈ l, x.2.1 ≠ i) ∧ (allPend st l).heap.get i = st.heap.get i) := by
  intro l
  induction l with
  | nil => intro _; exact ⟨rfl, rfl, hok, fun i _ => .inr ⟨by simp, rfl⟩⟩
  | cons x l ih =>
    intro hlt
    obtain ⟨q, id, ao⟩ := x
    obtain ⟨h1, h2, h3, h4⟩ := ih (fun x hx => hlt x (by simp [hx]))
    have hid : id < st.next := hlt (q, id, ao) (by simp)
    simp only [allPend]
    refine ⟨h1, h2, T.Ok.set id ao h3, fun i hi => ?_⟩
    by_cases e : id = i
    · subst e
      exact .inl ⟨(q, id, ao), by simp, rfl, T.get_set_same _ _ _⟩
    · have hne : ((allPend st l).put id ao).heap.get i = (allPend st l).heap.get i :=
        T.get_set_ne st.dep _ id i ao h3 (by omega) (by omega) e
      rcases h4 i hi with ⟨x, hx, b, c⟩ | ⟨a, b⟩
      · exact .inl ⟨x, by simp [hx], b, hne.trans c⟩
      · refine .inr ⟨fun x hx => ?_, hne.trans b⟩
        rcases List.mem_cons.1 hx with rfl | hx
        · exact e
        · exact a x hx

/-! ### The invariant -/
section inv
variable (P : Program) (G : Nat) (ops : Array Oper) (lim : Nat) (ds : Nat → DS) (vs : Nat → AV)

/-- A block has been put into the state by a heavy operation ahead of c. -/
def Mat (c q : Nat) : Prop := ∃ h oh, Is P ops ds .heavy h oh ∧ q < h ∧ h < c ∧ ((ancsOf ops).getD h 0).testBit q = true

structure InvAt (ρ0 : Ren) (st0 : St) (w0 : World) (df : List Deferred) (ρ : Ren) (c : Nat) (g : Nat → AO) (D : Nat → Bool) (a : Act) (w : World) : Prop where
  hc : c ≤ ops.size
  heavy : ∀ h oh, Is P ops ds .heavy h oh → (D h = true ↔ h < c)
  good : HGood ρ0 st0.heap.get st0.next w0 ρ g (ds c).st.next w
  ok : T.Ok (ds c).st.dep (ds c).st.heap
  le : (ds c).st.next ≤ 2 ^ (ds c).st.dep
  dep : (ds c).st.dep = st0.dep
  lim : lim ≤ (ds c).st.next
  gP : ∀ q ao, Makes P G ops ds q ao → D q = true → ¬ Mat P ops ds c q → g (ds q).nid = ao ∧ ∃ L, ρ (ds q).nid = some L ∧ w0.heap.size ≤ L.b
  gS : ∀ i, (∀ q ao, Makes P G ops ds q ao → D q = true → ¬ Mat P ops ds c q → i ≠ (ds q).nid) → g i = (ds c).st.heap.get i
  dead : ∀ q ao, Makes P G ops ds q ao → ¬ Mat P ops ds c q → ((ds c).st.heap.get (ds q).nid).live = false
  free : ∀ q ao, Makes P G ops ds q ao → D q = false → ρ (ds q).nid = none
  tsize : (ds 0).fr.lim ≤ a.tmps.size
  tmps : ∀ t, t < (ds 0).fr.lim → VR ρ (cur ops vs D ((ds 0).fr.get t) t ops.size) (a.tmps.getD t undef)
  defers : a.defers = df
  closed : ∀ p, p < ops.size → D p = true → ∀ r, ((ancsOf ops).getD p 0).testBit r = true → D r = true
  inr : ∀ p, D p = true → p < ops.size
end inv

def upd (D : Nat → Bool) (p : Nat) : Nat → Bool := fun q => if q = p then true else D q

theorem upd_same (D : Nat → Bool) (p : Nat) : upd D p p = true := by simp [upd]
theorem upd_ne {D : Nat → Bool} {p q : Nat} (h : q ≠ p) : upd D p q = D q := by simp [upd, h]

section step
variable {P : Program} {G : Nat} {call : CallF} {ops : Array Oper} {lim : Nat} {ds : Nat → DS} {vs : Nat → AV} {ρ0 : Ren} {st0 : St} {w0 : World} {df : List Deferred}

/-- What an operation looks at is, in whatever order, what the run had there. -/
theorem InvAt.looks {ρ : Ren} {c : Nat} {g : Nat → AO} {D : Nat → Bool} {a : Act} {w : World} (hI : InvAt P G ops lim ds vs ρ0 st0 w0 df ρ c g D a w) (hr : Run P G call ops lim (ancsOf ops) ds vs) (hst : StaticOk P ops (ancsOf ops))
    (hok : T.Ok (ds 0).fr.d (ds 0).fr.t) (hl : (ds 0).fr.lim ≤ 2 ^ (ds 0).fr.d) {p : Nat} {o : Oper} (hp : ops[p]? = some o) (hD : D p = false) (hanc : ∀ r, ((ancsOf ops).getD p 0).testBit r = true → D r = true) :
    ∀ t, t ∈ touch ops o → t < (ds 0).fr.lim → cur ops vs D ((ds 0).fr.get t) t ops.size = (ds p).fr.get t := by
  intro t ht htl
  have hps : p < ops.size := (Array.getElem?_eq_some_iff.1 hp).1
  obtain ⟨_, _, _, h4⟩ := hr.fr_spec hok hl p (by omega)
  rw [h4 t htl]
  have hafter : ∀ q, p ≤ q → q < ops.size → dstAt ops q = some t → D q = false := by
    intro q h1 h2 hd
    by_cases e : q = p
    · subst e; exact hD
    · obtain ⟨oq, hoq⟩ : ∃ o, ops[q]? = some o := ⟨_, Array.getElem?_eq_getElem h2⟩
      have hdq : oq.dst = some t := by simpa [dstAt, hoq] using hd
      have hconf : conflictD P ops o oq = true := by
        simp only [conflictD, hdq, Bool.or_eq_true]
        exact .inl (.inr (memT_iff.2 ht))
      have hbit := hst.conf q oq p o hoq hp (by omega) hconf
      cases hDq : D q with
      | false => rfl
      | true => have := hI.closed q h2 hDq p hbit; rw [hD] at this; cases this
  rw [cur_stop ops.size (by omega) hafter]
  apply cur_congr
  intro q hq hd
  obtain ⟨oq, hoq⟩ : ∃ o, ops[q]? = some o := ⟨_, Array.getElem?_eq_getElem (by omega)⟩
  have hdq : oq.dst = some t := by simpa [dstAt, hoq] using hd
  have hconf : conflictD P ops oq o = true := by
    simp only [conflictD, hdq, Bool.or_eq_true]
    exact .inl (.inl (memT_iff.2 ht))
  exact hanc q (hst.conf p o q oq hp hoq hq hconf)

/-- The frame behind an operation. -/
theorem InvAt.frame {ρ ρ' : Ren} {c : Nat} {g : Nat → AO} {D : Nat → Bool} {a : Act} {w : World} (hI : InvAt P G ops lim ds vs ρ0 st0 w0 df ρ c g D a w) (hr : Run P G call ops lim (ancsOf ops) ds vs) (hst : StaticOk P ops (ancsOf ops))
    (hok : T.Ok (ds 0).fr.d (ds 0).fr.t) (hl : (ds 0).fr.lim ≤ 2 ^ (ds 0).fr.d) {p : Nat} {o : Oper} (hp : ops[p]? = some o) (hD : D p = false) {z : Value} (he : Ext ρ ρ') (hz : VR ρ' (vs p) z) :
    (ds 0).fr.lim ≤ (a.put o.dst z).tmps.size ∧ ∀ t, t < (ds 0).fr.lim → VR ρ' (cur ops vs (upd D p) ((ds 0).fr.get t) t ops.size) ((a.put o.dst z).tmps.getD t undef) := by
  have hps : p < ops.size := (Array.getElem?_eq_some_iff.1 hp).1
  obtain ⟨h1, h2, h3, _⟩ := hr.fr_spec hok hl p (by omega)
  obtain ⟨hput, _⟩ := hr.says hp
  obtain ⟨_, _, _, g4, _⟩ := Fr.put_get hput h3 (by rw [h1, h2]; exact hl)
  have hsz : (a.put o.dst z).tmps.size = a.tmps.size := by cases o.dst <;> simp [Act.put]
  refine ⟨by rw [hsz]; exact hI.tsize, fun t ht => ?_⟩
  by_cases hd : o.dst = some t
  · have hdt : dstAt ops p = some t := by simp [dstAt, hp, hd]
    have hafter : ∀ q, p + 1 ≤ q → q < ops.size → dstAt ops q = some t → upd D p q = false := by
      intro q q1 q2 hdq
      rw [upd_ne (by omega)]
      obtain ⟨oq, hoq⟩ : ∃ o, ops[q]? = some o := ⟨_, Array.getElem?_eq_getElem q2⟩
      have hdq' : oq.dst = some t := by simpa [dstAt, hoq] using hdq
      have hconf : conflictD P ops o oq = true := by
        simp only [conflictD, hdq', Bool.or_eq_true]
        exact .inl (.inr (memT_iff.2 (by simp [touch, hd])))
      have hbit := hst.conf q oq p o hoq hp (by omega) hconf
      cases hDq : D q with
      | false => rfl
      | true => have := hI.closed q q2 hDq p hbit; rw [hD] at this; cases this
    rw [cur_stop ops.size (by omega) hafter]
    simp only [cur, upd_same, hdt, and_self, if_true]
    have hts : t < a.tmps.size := Nat.lt_of_lt_of_le ht hI.tsize
    rw [hd]
    simp only [Act.put, Array.getD_eq_getD_getElem?, Array.getElem?_setIfInBounds, if_true, hts, Option.getD_some]
    exact hz
  · have hdt : dstAt ops p ≠ some t := by simpa [dstAt, hp] using hd
    rw [cur_congr (D' := D) ops.size (fun q hq hdq => upd_ne (by rintro rfl; exact hdt hdq))]
    have : (a.put o.dst z).tmps.getD t undef = a.tmps.getD t undef := by
      cases hdd : o.dst with
      | none => rfl
      | some i =>
        have hne : i ≠ t := by rintro rfl; exact hd hdd
        simp only [Act.put, Array.getD_eq_getD_getElem?, Array.getElem?_setIfInBounds, hne, if_false]
    rw [this]
    exact (hI.tmps t ht).ext he

/-- An operation that neither makes a block nor is heavy. -/
theorem InvAt.light {ρ : Ren} {c : Nat} {g : Nat → AO} {D : Nat → Bool} {a : Act} {w w' : World} (hI : InvAt P G ops lim ds vs ρ0 st0 w0 df ρ c g D a w) (hr : Run P G call ops lim (ancsOf ops) ds vs) (hst : StaticOk P ops (ancsOf ops))
    (hok : T.Ok (ds 0).fr.d (ds 0).fr.t) (hl : (ds 0).fr.lim ≤ 2 ^ (ds 0).fr.d) {p : Nat} {o : Oper} (hp : ops[p]? = some o) (hD : D p = false) (hanc : ∀ r, ((ancsOf ops).getD p 0).testBit r = true → D r = true)
    {z : Value} (hz : VR ρ (vs p) z) (hnh : ∀ o', ¬ Is P ops ds .heavy p o') (hna : ∀ ao, ¬ Makes P G ops ds p ao) (hg : HGood ρ0 st0.heap.get st0.next w0 ρ g (ds c).st.next w') :
    InvAt P G ops lim ds vs ρ0 st0 w0 df ρ c g (upd D p) (a.put o.dst z) w' := by
  have hps : p < ops.size := (Array.getElem?_eq_some_iff.1 hp).1
  obtain ⟨f1, f2⟩ := hI.frame hr hst hok hl hp hD (.refl ρ) hz
  have hq : ∀ q ao, Makes P G ops ds q ao → upd D p q = D q := fun q ao hm => upd_ne (by rintro rfl; exact hna ao hm)
  refine ⟨hI.hc, ?_, hg, hI.ok, hI.le, hI.dep, hI.lim, ?_, ?_, hI.dead, ?_, f1, f2, ?_, ?_, ?_⟩
  · intro h oh hh
    rw [upd_ne (by rintro rfl; exact hnh _ hh)]; exact hI.heavy h oh hh
  · intro q ao hm hd; rw [hq q ao hm] at hd; exact hI.gP q ao hm hd
  · intro i hi; exact hI.gS i (fun q ao hm hd => hi q ao hm (by rw [hq q ao hm]; exact hd))
  · intro q ao hm hd; rw [hq q ao hm] at hd; exact hI.free q ao hm hd
  · have : (a.put o.dst z).defers = a.defers := by cases o.dst <;> rfl
    rw [this]; exact hI.defers
  · intro q hq' hd r hr'
    by_cases e : q = p
    · subst e
      have := hanc r hr'
      by_cases e' : r = q
      · subst e'; exact upd_same _ _
      · rw [upd_ne e']; exact this
    · rw [upd_ne e] at hd
      have := hI.closed q hq' hd r hr'
      by_cases e' : r = p
      · subst e'; exact upd_same _ _
      · rw [upd_ne e']; exact this
  · intro q hd
    by_cases e : q = p
    · subst e; exact hps
    · rw [upd_ne e] at hd; exact hI.inr q hd

end step
end
end Go.Ev
