/-
  'opPure': every operation that only reckons; and that every run of it gives what it says.
  The operations that read memory, and those that make a new block.
-/
import Derived.Test.YtecnddogdiikiaaGreatEvG
import Derived.Laws.MakeOwn
import Derived.Laws.BytesString
import Derived.Laws.LoneSync
set_option linter.unusedVariables false
set_option linter.unusedSimpArgs false
namespace Go.Ev
open Go
noncomputable section

def opPure (P : Program) (o : Op) (v : Operand → AV) : Option AV :=
  match o with
  | .move x => some (v x)
  | .assign x => some (v x)
  | .pick c a b => match v c with
    | .bool true => some (v a)
    | .bool false => some (v b)
    | _ => none
  | .build t parts => (builtA P t (parts.toList.map fun x => (x.1, v x.2))).map .agg
  | .binOp op t x y _ => binA P op t x y (v x) (v y)
  | .unOp op _ x => unA op (v x)
  | .convert s d x => convA P s d (v x)
  | .slice t x lo hi mx => sliceAtA P t (v x) (lo.map v) (hi.map v) (mx.map v)
  | .fieldAddr s x f => match v x with
    | .ptr i o => (fieldOff P s f).map fun off => .ptr i (o + off)
    | _ => none
  | .field t x f => fieldA P t (v x) f
  | .indexAddr t x i => indexAtA P t (v x) (v i)
  | .index t x i => indexA P t (v x) (v i)
  | .extract x i => match v x with
    | .tup l => l[i]?
    | _ => none
  | .makeFunc fn first captured => some (.func fn (first.toList.map v) (captured.toList.map v))
  | .makeInterface t x => bif P.concrete t then some (.iface t (v x)) else none
  | .nilCheck x => match v x with
    | .ptr i o => some (.ptr i o)
    | .func (.func f) a b => some (.func (.func f) a b)
    | _ => none
  | .sliceToArrayPointer t x => match P.underlying t, v x with
    | some (.array n _), .slice i off len _ _ => bif Nat.blt 0 n && Nat.ble n len then some (.ptr i off) else none
    | _, _ => none
  | .call ⟨.builtin .len, args, ts⟩ => match ts[0]?, args[0]? with
    | some t, some x => lenA P t (v x)
    | _, _ => none
  | .call ⟨.builtin .cap, args, ts⟩ => match ts[0]?, args[0]? with
    | some t, some x => capA P t (v x)
    | _, _ => none
  | .call ⟨.builtin .min, args, _⟩ => minA true (args.toList.map v)
  | .call ⟨.builtin .max, args, _⟩ => minA false (args.toList.map v)
  | _ => none

theorem run_v {P : Program} {s : Sem Value} {w w' : World} {z : Value} (h : s.run P w = .ok z w') : (do pure (Next.value (← s)) : Sem Next).run P w = .ok (.value z) w' := by
  simp [h]

theorem VRs_map {α : Type} {ρ : Ren} {v : α → AV} {e : α → Value} (h : ∀ x, VR ρ (v x) (e x)) : ∀ l : List α, VRs ρ (l.map v) (l.map e)
  | [] => .nil
  | x :: l => .cons (h x) (VRs_map h l)

theorem VRo_map {ρ : Ren} {v : Operand → AV} {e : Operand → Value} (h : ∀ x, VR ρ (v x) (e x)) : ∀ x : Option Operand, VRo ρ (x.map v) (x.map e)
  | none => .none
  | some x => .some (h x)

theorem min_sound {P : Program} {ρ : Ren} {b : Bool} {l : List AV} {r : AV} {vs : Array Value} (h : minA b l = some r) (hv : VRs ρ l vs.toList) (ts : Array TypeId) (ty : TypeId) (w : World) :
    ∃ u, ((if b then Builtin.min_ ts ty vs else Builtin.max_ ts ty vs : Sem Value)).run P w = .ok u w ∧ VR ρ r u := by
  unfold minA at h
  split at h
  · rename_i k x k' y
    simp only [Option.some.injEq] at h; subst h
    obtain ⟨l⟩ := vs
    cases hv with | cons h1 hv =>
    cases hv with | cons h2 hv =>
    cases hv
    cases h1; cases h2
    cases b with
    | true =>
      refine ⟨.int k (if y < x then y else x), ?_, ?_⟩
      · simp [Builtin.min_, Builtin.min2]
      · simp only [cond_true]
        rw [ltA_eq]
        by_cases hlt : y < x <;> simp [hlt] <;> exact .int _ _
    | false =>
      refine ⟨.int k (if y > x then y else x), ?_, ?_⟩
      · simp [Builtin.max_, Builtin.max2]
      · simp only [cond_false]
        rw [ltA_eq]
        by_cases hlt : x < y <;> simp [hlt] <;> exact .int _ _
  · cases h

theorem opPure_sound {P : Program} {ρ : Ren} {o : Oper} {v : Operand → AV} {e : Operand → Value} {r : AV} (h : opPure P o.op v = some r) (hv : ∀ x, VR ρ (v x) (e x)) (w : World) :
    ∃ z, (execOp e o).run P w = .ok (.value z) w ∧ VR ρ r z := by
  unfold execOp
  unfold opPure at h
  split at h
  · rename_i x ho; rw [ho]; cases h; exact ⟨_, rfl, hv x⟩
  · rename_i x ho; rw [ho]; cases h; exact ⟨_, rfl, hv x⟩
  · rename_i c a b ho
    rw [ho]
    have hc := hv c
    split at h
    · rename_i hcv; rw [hcv] at hc; cases h
      have hce : e c = .bool true := by generalize e c = ec at hc; cases hc; rfl
      exact ⟨e a, by show (do let q ← asBool (e c); pure (Next.value (if q then e a else e b)) : Sem Next).run P w = _; rw [hce]; rfl, hv a⟩
    · rename_i hcv; rw [hcv] at hc; cases h
      have hce : e c = .bool false := by generalize e c = ec at hc; cases hc; rfl
      exact ⟨e b, by show (do let q ← asBool (e c); pure (Next.value (if q then e a else e b)) : Sem Next).run P w = _; rw [hce]; rfl, hv b⟩
    · cases h
  · rename_i t parts ho
    rw [ho]
    simp only [Option.map_eq_some_iff] at h
    obtain ⟨l, hl, rfl⟩ := h
    obtain ⟨C, h1, h2⟩ := build_sound (ρ := ρ) (parts' := parts.map fun x => (x.1, e x.2)) hl (by simp) (by
      simp only [List.map_map, Array.toList_map]
      exact VRs_map (fun x => hv x.2) parts.toList) w
    exact ⟨.agg C, run_v h1, .agg _ _ h2⟩
  · rename_i op t x y ty ho
    rw [ho]
    obtain ⟨z, h1, h2⟩ := binA_sound h (hv x) (hv y) w
    exact ⟨z, run_v h1, h2⟩
  · rename_i op ty x ho
    rw [ho]
    obtain ⟨z, h1, h2⟩ := unA_sound (P := P) h (hv x) w
    exact ⟨z, run_v h1, h2⟩
  · rename_i s d x ho
    rw [ho]
    obtain ⟨z, h1, h2⟩ := convA_sound h (hv x) w
    exact ⟨z, run_v h1, h2⟩
  · rename_i t x lo hi mx ho
    rw [ho]
    obtain ⟨z, h1, h2⟩ := sliceAt_sound h (hv x) (VRo_map hv lo) (VRo_map hv hi) (VRo_map hv mx) w
    exact ⟨z, run_v h1, h2⟩
  · rename_i s x f ho
    rw [ho]
    split at h
    · rename_i i o' hx
      simp only [Option.map_eq_some_iff] at h
      obtain ⟨off, hoff, rfl⟩ := h
      have hx' := hv x
      rw [hx] at hx'
      obtain ⟨z, h1, h2⟩ := fieldAt_sound hoff hx' w
      exact ⟨z, run_v h1, h2⟩
    · cases h
  · rename_i t x f ho
    rw [ho]
    obtain ⟨z, h1, h2⟩ := field_sound h (hv x) w
    exact ⟨z, run_v h1, h2⟩
  · rename_i t x i ho
    rw [ho]
    obtain ⟨z, h1, h2⟩ := indexAt_sound h (hv x) (hv i) w
    exact ⟨z, run_v h1, h2⟩
  · rename_i t x i ho
    rw [ho]
    obtain ⟨z, h1, h2⟩ := index_sound h (hv x) (hv i) w
    exact ⟨z, run_v h1, h2⟩
  · rename_i x i ho
    rw [ho]
    split at h
    · rename_i l hx
      have hx' := hv x
      rw [hx] at hx'
      obtain ⟨a, hea, ha⟩ : ∃ a : Array Value, e x = .tuple a ∧ VRs ρ l a.toList := by
        generalize e x = ex at hx'
        cases hx' with | tup _ a ha => exact ⟨a, rfl, ha⟩
      obtain ⟨u, h1, h2⟩ := ha.get i r h
      have : a[i]? = some u := by simpa using h1
      exact ⟨u, run_v (by rw [hea]; simp [Instr.extract, this]), h2⟩
    · cases h
  · rename_i fn first captured ho
    rw [ho]
    simp only [Option.some.injEq] at h; subst h
    refine ⟨.func fn (first.map e) (captured.map e), rfl, .func _ _ _ _ _ ?_ ?_⟩
    · rw [Array.toList_map]; exact VRs_map hv _
    · rw [Array.toList_map]; exact VRs_map hv _
  · rename_i t x ho
    rw [ho]
    cases hc : P.concrete t with
    | false => rw [hc] at h; simp at h
    | true =>
      rw [hc] at h; simp only [cond_true, Option.some.injEq] at h; subst h
      exact ⟨_, run_v (run_makeInterface w t (e x) hc), .iface _ _ _ (hv x)⟩
  · rename_i x ho
    rw [ho]
    have hx' := hv x
    split at h
    · rename_i i o' hx
      rw [hx] at hx'
      simp only [Option.some.injEq] at h; subst h
      obtain ⟨L, hea, hL⟩ : ∃ L : Loc, e x = .pointer (some (L.at o')) ∧ ρ i = some L := by
        generalize e x = ex at hx'
        cases hx' with | ptr _ _ L hL => exact ⟨L, rfl, hL⟩
      exact ⟨.pointer (some (L.at o')), by simp only [hea]; rfl, .ptr _ _ L hL⟩
    · rename_i f a b hx
      rw [hx] at hx'
      simp only [Option.some.injEq] at h; subst h
      obtain ⟨f', c', hea, hf, hc⟩ : ∃ f' c' : Array Value, e x = .func (.func f) f' c' ∧ VRs ρ a f'.toList ∧ VRs ρ b c'.toList := by
        generalize e x = ex at hx'
        cases hx' with | func _ _ _ f' c' hf hc => exact ⟨f', c', rfl, hf, hc⟩
      exact ⟨.func (.func f) f' c', by simp only [hea]; rfl, .func _ _ _ _ _ hf hc⟩
    · cases h
  · rename_i t x ho
    rw [ho]
    have hx' := hv x
    split at h
    · rename_i n el i off len cap es ht hx
      rw [hx] at hx'
      obtain ⟨hb, h⟩ := bif_some h
      simp only [Bool.and_eq_true, blt_iff, ble_iff] at hb
      simp only [Option.some.injEq] at h; subst h
      obtain ⟨L, c, hea, hL⟩ : ∃ (L : Loc) (c : Nat), e x = .slice (some (L.at off)) len c ∧ ρ i = some L := by
        generalize e x = ex at hx'
        cases hx' with
        | slice _ _ _ _ _ cap' L hL => exact ⟨L, cap', rfl, hL⟩
        | slice0 => omega
      refine ⟨.pointer (some (L.at off)), run_v ?_, .ptr _ _ L hL⟩
      rw [hea]
      simp [Instr.arrayAt, run_underlying ht, Nat.not_lt.2 hb.2]
    · cases h
  · rename_i args ts ho
    rw [ho]
    split at h
    · rename_i t x ht hx
      have hvs : (args.map e)[0]? = some (e x) := by simp [hx]
      obtain ⟨z, h1, h2⟩ := len_sound (ty := o.type) h ht hvs (hv x) w
      exact ⟨z, run_v h1, h2⟩
    · cases h
  · rename_i args ts ho
    rw [ho]
    split at h
    · rename_i t x ht hx
      have hvs : (args.map e)[0]? = some (e x) := by simp [hx]
      obtain ⟨z, h1, h2⟩ := cap_sound (ty := o.type) h ht hvs (hv x) w
      exact ⟨z, run_v h1, h2⟩
    · cases h
  · rename_i args ts ho
    rw [ho]
    obtain ⟨z, h1, h2⟩ := min_sound (P := P) (ρ := ρ) (vs := args.map e) h (by rw [Array.toList_map]; exact VRs_map hv _) ts o.type w
    exact ⟨z, run_v h1, h2⟩
  · rename_i args ts ho
    rw [ho]
    obtain ⟨z, h1, h2⟩ := min_sound (P := P) (ρ := ρ) (vs := args.map e) h (by rw [Array.toList_map]; exact VRs_map hv _) ts o.type w
    exact ⟨z, run_v h1, h2⟩
  · cases h

end
end Go.Ev

namespace Go.Ev
open Go
noncomputable section

/-! ### Reading -/
def isU8 (P : Program) (e : TypeId) : Bool :=
  match P.underlying e with
  | some (.int .u8) => true
  | _ => false

/-! ### Maps whose keys are integers -/
def intKey (P : Program) (kt : TypeId) : Bool :=
  match P.underlying kt with
  | some (.int _) => true
  | _ => false

theorem intKey_iff {P : Program} {kt : TypeId} (h : intKey P kt = true) : ∃ q, P.underlying kt = some (.int q) := by
  unfold intKey at h
  split at h
  · exact ⟨_, by assumption⟩
  · cases h

def keyEqA : AV → AV → Option Bool
  | .int k a, .int k' b => bif kindEq k k' then some (eqI a b) else none
  | _, _ => none

def findA0 (k : AV) : List (AV × AV) → Nat → Option (Option (Nat × AV))
  | [], _ => some none
  | e :: es, i => match keyEqA k e.1 with
    | some true => some (some (i, e.2))
    | some false => findA0 k es (i + 1)
    | none => none

/-- the quick way: keys that are numbers not below nought -/
def findI (q a : Nat) : List (AV × AV) → Nat → Option (Option (Nat × AV))
  | [], _ => some none
  | (.int k (.ofNat b), v) :: es, i => bif Nat.beq k.ctorIdx q then (bif Nat.beq a b then some (some (i, v)) else findI q a es (i + 1)) else none
  | _, _ => none
def findA (k : AV) (es : List (AV × AV)) (i : Nat) : Option (Option (Nat × AV)) :=
  match k with
  | .int q (.ofNat a) => match findI q.ctorIdx a es i with
    | some r => some r
    | none => findA0 k es i
  | _ => findA0 k es i
theorem findI_eq {q : IntKind} {a : Nat} : ∀ {es : List (AV × AV)} {i : Nat} {r : Option (Nat × AV)}, findI q.ctorIdx a es i = some r → findA0 (.int q (.ofNat a)) es i = some r
  | [], i, r, h => by simpa [findI, findA0] using h
  | (.int k (.ofNat b), v) :: es, i, r, h => by
    unfold findI at h
    obtain ⟨hk, h'⟩ := bif_some h
    have hk : k = q := by
      have := Nat.eq_of_beq_eq_true hk
      cases k <;> cases q <;> first | rfl | cases this
    subst hk
    have hq : kindEq k k = true := by simp [kindEq]
    unfold findA0
    simp only [keyEqA, hq, cond_true, eqI]
    cases hab : Nat.beq a b with
    | true => rw [hab] at h'; exact h'
    | false => rw [hab] at h'; exact findI_eq h'
  | (.int _ (.negSucc _), _) :: _, _, _, h => by cases h
  | (.top, _) :: _, _, _, h => by cases h
  | (.bool _, _) :: _, _, _, h => by cases h
  | (.str _ _, _) :: _, _, _, h => by cases h
  | (.pnil, _) :: _, _, _, h => by cases h
  | (.ptr _ _, _) :: _, _, _, h => by cases h
  | (.snil, _) :: _, _, _, h => by cases h
  | (.slice .., _) :: _, _, _, h => by cases h
  | (.mnil, _) :: _, _, _, h => by cases h
  | (.map _, _) :: _, _, _, h => by cases h
  | (.func .., _) :: _, _, _, h => by cases h
  | (.fnil, _) :: _, _, _, h => by cases h
  | (.yield _, _) :: _, _, _, h => by cases h
  | (.iface .., _) :: _, _, _, h => by cases h
  | (.inil, _) :: _, _, _, h => by cases h
  | (.agg _, _) :: _, _, _, h => by cases h
  | (.tup _, _) :: _, _, _, h => by cases h
theorem findA_eq {k : AV} {es : List (AV × AV)} {i : Nat} {r : Option (Nat × AV)} (h : findA k es i = some r) : findA0 k es i = some r := by
  unfold findA at h
  split at h
  · split at h
    · rename_i hf; cases h; exact findI_eq hf
    · exact h
  · exact h

theorem keyEqA_sound {ρ : Ren} {a b : AV} {u v : Value} {r : Bool} {q : IntKind} (h : keyEqA a b = some r) (ha : VR ρ a u) (hb : VR ρ b v) :
    Instr.sameNow (.int q) u v = some r ∧ (r = true → u = v) ∧ (∃ k n, u = .int k n) ∧ (r = false → u ≠ v) := by
  unfold keyEqA at h
  split at h
  · rename_i k x k' y
    cases ha; cases hb
    cases hk : kindEq k k' with
    | false => rw [hk] at h; simp at h
    | true =>
      rw [hk] at h
      simp only [cond_true, Option.some.injEq] at h
      subst h
      have hkk : k = k' := by simpa [kindEq] using hk
      subst hkk
      refine ⟨?_, ?_, ⟨_, _, rfl⟩, ?_⟩
      · simp only [Instr.sameNow, if_true]
        rw [eqI_eq]
      · intro he
        rw [eqI_eq] at he
        have : x = y := by simpa using he
        rw [this]
      · intro he hxy
        rw [eqI_eq] at he
        cases hxy
        simp at he
  · cases h

theorem findA0_sound {ρ : Ren} {q : IntKind} {k : AV} {kv : Value} (hk : VR ρ k kv) : ∀ (es : List (AV × AV)) (E : List MapEntry) (i : Nat) (r : Option (Nat × AV)), findA0 k es i = some r →
    VRs ρ (es.map (·.1)) (E.map (·.key)) → VRs ρ (es.map (·.2)) (E.map (·.val)) →
    (r = none ∧ Instr.findNow (.int q) kv E i = some none ∧ ∀ x ∈ E, x.key ≠ kv) ∨
    (∃ j v v' e, r = some (i + j, v) ∧ Instr.findNow (.int q) kv E i = some (some (i + j, v')) ∧ VR ρ v v' ∧ E[j]? = some e ∧ e.key = kv ∧ j < es.length ∧ ∃ kk n, kv = .int kk n) := by
  intro es
  induction es with
  | nil =>
    intro E i r h h1 h2
    simp only [findA0, Option.some.injEq] at h
    subst h
    cases E with
    | nil => exact .inl ⟨rfl, rfl, by simp⟩
    | cons e E => simp only [List.map_nil, List.map_cons] at h1; cases h1
  | cons x es ih =>
    intro E i r h h1 h2
    cases E with
    | nil => simp only [List.map_nil, List.map_cons] at h1; cases h1
    | cons e E =>
      simp only [List.map_cons] at h1 h2
      cases h1 with | cons hx1 h1 =>
      cases h2 with | cons hx2 h2 =>
      simp only [findA0] at h
      split at h
      · rename_i hq
        simp only [Option.some.injEq] at h
        subst h
        obtain ⟨g1, g2, g3, _⟩ := keyEqA_sound (q := q) hq hk hx1
        exact .inr ⟨0, _, e.val, e, rfl, by simp [Instr.findNow, g1], hx2, rfl, (g2 rfl).symm, by simp, g3⟩
      · rename_i hq
        obtain ⟨g1, g2, g3, g4'⟩ := keyEqA_sound (q := q) hq hk hx1
        have g4 := g4' rfl
        rcases ih E (i + 1) r h h1 h2 with ⟨a, b, cc⟩ | ⟨j, v, v', e', a, b, c, d, f, g, m⟩
        · refine .inl ⟨a, by simp [Instr.findNow, g1, b], ?_⟩
          intro x hx
          rcases List.mem_cons.1 hx with rfl | hx
          · exact fun e => g4 e.symm
          · exact cc x hx
        · refine .inr ⟨j + 1, v, v', e', ?_, ?_, c, ?_, f, ?_, m⟩
          · rw [a, show i + 1 + j = i + (j + 1) by omega]
          · simp only [Instr.findNow, g1]; rw [b, show i + 1 + j = i + (j + 1) by omega]
          · simpa using d
          · simp; omega
      · cases h

theorem findA_sound {ρ : Ren} {q : IntKind} {k : AV} {kv : Value} (hk : VR ρ k kv) : ∀ (es : List (AV × AV)) (E : List MapEntry) (i : Nat) (r : Option (Nat × AV)), findA k es i = some r →
    VRs ρ (es.map (·.1)) (E.map (·.key)) → VRs ρ (es.map (·.2)) (E.map (·.val)) →
    (r = none ∧ Instr.findNow (.int q) kv E i = some none ∧ ∀ x ∈ E, x.key ≠ kv) ∨
    (∃ j v v' e, r = some (i + j, v) ∧ Instr.findNow (.int q) kv E i = some (some (i + j, v')) ∧ VR ρ v v' ∧ E[j]? = some e ∧ e.key = kv ∧ j < es.length ∧ ∃ kk n, kv = .int kk n) :=
  fun es E i r h => findA0_sound hk es E i r (findA_eq h)

theorem run_checkKey_int {P : Program} {kt : TypeId} {q : IntKind} (h : P.underlying kt = some (.int q)) (b : Bool) (v : Value) (w : World) : (Instr.checkKey b 10000 kt v).run P w = .ok () w := by
  have key : ∀ n : Nat, (Instr.checkKey b (n + 1) kt v).run P w = .ok () w := by
    intro n
    cases v <;> simp [Instr.checkKey, run_underlying h]
  exact key 9999

theorem run_findKey_int {P : Program} {kt : TypeId} {q : IntKind} (h : P.underlying kt = some (.int q)) {v : Value} {E : List MapEntry} {r : Option (Nat × Value)} (hr : Instr.findNow (.int q) v E 0 = some r) (w : World) :
    (Instr.findKey kt v E).run P w = .ok r w := by
  simp [Instr.findKey, run_underlying h, hr]

def zeroA (P : Program) (t : TypeId) : Option AV :=
  match P.info? t with
  | some i => i.zero.map constA
  | none => none

theorem zeroA_sound {P : Program} {t : TypeId} {z : AV} (h : zeroA P t = some z) (ρ : Ren) (w : World) : ∃ u, (zeroValue t).run P w = .ok u w ∧ VR ρ z u := by
  unfold zeroA at h
  split at h
  · rename_i i hi
    simp only [Option.map_eq_some_iff] at h
    obtain ⟨u, hu, rfl⟩ := h
    exact ⟨u, by simp [zeroValue, typeInfo, hi, hu], constA_VR ρ u⟩
  · cases h

def mapOf (x : AV) (st : St) : Option (List (AV × AV)) :=
  match x with
  | .mnil => some []
  | .map i => match st.obj i with
    | .map es => some es
    | _ => none
  | _ => none

theorem Rel.mapAt {ρ : Ren} {st : St} {w : World} (hR : Rel ρ st w) {i : Nat} {es : List (AV × AV)} (h : st.obj i = .map es) :
    i < st.next ∧ st.heap.get i = .map es ∧ ∃ L E c, ρ i = some L ∧ w.heap[L.b]? = some (.map E c) ∧ VRs ρ (es.map (·.1)) (E.toList.map (·.key)) ∧ VRs ρ (es.map (·.2)) (E.toList.map (·.val)) ∧ MapKept.Stamped E c := by
  obtain ⟨hi, hg⟩ := St.obj_live (st := st) (i := i) (by rw [h]; rfl)
  rw [hg] at h
  obtain ⟨L, ob, hL, hob, hr⟩ := hR.live i hi (by rw [h]; rfl)
  rw [h] at hr
  obtain ⟨E, c, rfl, h1, h2, h3⟩ := hr
  exact ⟨hi, h, L, E, c, hL, hob, h1, h2, h3⟩

def lookupA (P : Program) (t : TypeId) (x k : AV) (ok : Bool) (st : St) : Option AV :=
  match P.underlying t with
  | some (.map kt et) => bif intKey P kt then match mapOf x st with
      | some es => match findA k es 0 with
        | some (some (_, v)) => some (bif ok then .tup [v, .bool true] else v)
        | some none => match zeroA P et with
          | some z => some (bif ok then .tup [z, .bool false] else z)
          | none => none
        | none => none
      | none => none
    else none
  | _ => none

theorem lookup_sound {P : Program} {ρ : Ren} {t : TypeId} {x k : AV} {ok : Bool} {st : St} {r : AV} {u kv : Value} {w : World} (h : lookupA P t x k ok st = some r) (hx : VR ρ x u) (hk : VR ρ k kv) (hR : Rel ρ st w) :
    ∃ z, (Instr.lookup t u kv ok).run P w = .ok z w ∧ VR ρ r z := by
  unfold lookupA at h
  split at h
  · rename_i kt et ht
    cases hi : intKey P kt with
    | false => rw [hi] at h; simp at h
    | true =>
      rw [hi] at h
      simp only [cond_true] at h
      obtain ⟨q, hq⟩ := intKey_iff hi
      split at h
      · rename_i es hes
        have key : ∃ E : Array MapEntry, VRs ρ (es.map (·.1)) (E.toList.map (·.key)) ∧ VRs ρ (es.map (·.2)) (E.toList.map (·.val)) ∧
            ∀ (K : Array MapEntry → Sem Value), (do
              let es ← match u with
                | .map none => pure #[]
                | .map (some r) => do
                  let .map es _ ← getObj r | stuck "Lookup: map expected"
                  pure es
                | _ => stuck "Lookup: map expected"
              K es : Sem Value).run P w = (K E).run P w := by
          unfold mapOf at hes
          split at hes
          · cases hx
            simp only [Option.some.injEq] at hes
            subst hes
            exact ⟨#[], .nil, .nil, fun K => by simp⟩
          · rename_i i
            split at hes
            · rename_i es' ho
              simp only [Option.some.injEq] at hes
              subst hes
              obtain ⟨_, _, L, E, c, hL, hob, h1, h2, _⟩ := hR.mapAt ho
              cases hx with | map _ L' hL' =>
              rw [hL] at hL'; cases hL'
              exact ⟨E, h1, h2, fun K => by simp [getObj, Sem.run, hob]⟩
            · cases hes
          · cases hes
        obtain ⟨E, h1, h2, hrun⟩ := key
        have hgo : ∀ (rv : Option (Nat × Value)), Instr.findNow (.int q) kv E.toList 0 = some rv → (Instr.lookup t u kv ok).run P w = (do
            let (v, ok') ← match rv with
              | some (_, v) => pure (v, true)
              | none => pure (← zeroValue et, false)
            pure (if ok then .tuple #[v, .bool ok'] else v) : Sem Value).run P w := by
          intro rv hrv
          unfold Instr.lookup
          simp only [Sem.run_bind, run_underlying ht, Result.andThen_ok]
          have := hrun (fun es => do
            Instr.checkKey es.isEmpty 10000 kt kv
            let (v, ok') ← match ← Instr.findKey kt kv es.toList with
              | some (_, v) => pure (v, true)
              | none => pure (← zeroValue et, false)
            pure (if ok then .tuple #[v, .bool ok'] else v))
          simp only [Sem.run_bind] at this ⊢
          refine this.trans ?_
          simp only [run_checkKey_int hq, run_findKey_int hq hrv, Result.andThen_ok]
        split at h
        · rename_i p v hf
          simp only [Option.some.injEq] at h
          subst h
          rcases findA_sound (q := q) hk es E.toList 0 _ hf h1 h2 with ⟨a, _, _⟩ | ⟨j, v1, v', e, a, b, c, _⟩
          · cases a
          · simp only [Option.some.injEq, Prod.mk.injEq] at a
            obtain ⟨_, rfl⟩ := a
            rw [hgo _ b]
            cases ok with
            | true => exact ⟨.tuple #[v', .bool true], by simp, .tup _ _ (.cons c (.cons (.bool _) .nil))⟩
            | false => exact ⟨v', by simp, c⟩
        · rename_i hf
          split at h
          · rename_i z hz
            simp only [Option.some.injEq] at h
            subst h
            obtain ⟨zu, hz1, hz2⟩ := zeroA_sound hz ρ w
            rcases findA_sound (q := q) hk es E.toList 0 _ hf h1 h2 with ⟨_, b, _⟩ | ⟨j, v1, v', e, a, b, c, _⟩
            · rw [hgo _ b]
              cases ok with
              | true => exact ⟨.tuple #[zu, .bool false], by simp [hz1], .tup _ _ (.cons hz2 (.cons (.bool _) .nil))⟩
              | false => exact ⟨zu, by simp [hz1], hz2⟩
            · cases a
          · cases h
        · cases h
      · cases h
  · cases h

def lenMapA (P : Program) (t : TypeId) (x : AV) (st : St) : Option AV :=
  match P.underlying t with
  | some (.map _ _) => match mapOf x st with
    | some es => some (.int .i64 (Int.ofNat es.length))
    | none => none
  | _ => none

theorem lenMap_sound {P : Program} {ρ : Ren} {t : TypeId} {x : AV} {st : St} {r : AV} {ts : Array TypeId} {ty : TypeId} {vs : Array Value} {u : Value} {w : World} (h : lenMapA P t x st = some r) (ht0 : ts[0]? = some t) (h0 : vs[0]? = some u)
    (hx : VR ρ x u) (hR : Rel ρ st w) : ∃ z, (Builtin.len_ ts ty vs).run P w = .ok z w ∧ VR ρ r z := by
  unfold lenMapA at h
  split at h
  · rename_i kt et ht
    split at h
    · rename_i es hes
      simp only [Option.some.injEq] at h
      subst h
      refine ⟨.int .i64 (Int.ofNat es.length), ?_, .int _ _⟩
      unfold mapOf at hes
      split at hes
      · cases hx
        simp only [Option.some.injEq] at hes
        subst hes
        simp [Builtin.len_, ht0, h0, run_underlying ht, goInt]
      · rename_i i
        split at hes
        · rename_i es' ho
          simp only [Option.some.injEq] at hes
          subst hes
          obtain ⟨_, _, L, E, c, hL, hob, h1, h2, _⟩ := hR.mapAt ho
          cases hx with | map _ L' hL' =>
          rw [hL] at hL'; cases hL'
          have hl := h1.length
          simp only [List.length_map, Array.length_toList] at hl
          simp only [Builtin.len_, ht0, h0, Sem.run_bind, run_underlying ht, Result.andThen_ok]
          simp [getObj, Sem.run, hob, goInt, hl]
        · cases hes
      · cases hes
    · cases h
  · cases h

def opRead (P : Program) (o : Op) (v : Operand → AV) (st : St) : Option AV :=
  match o with
  | .load t x => match v x with
    | .ptr i off => match aggN P t with
      | some (some n) => ((st.obj i).blk off n).map fun b => .agg b.toL
      | some none => (st.obj i).cell? off
      | none => none
    | _ => none
  | .convert s d x => match P.underlying s, P.underlying d with
    | some (.slice e), some .string => bif isU8 P e then match v x with
        | .snil => some (.str 0 0)
        | .slice i off len _ _ => bif Nat.beq len 0 then some (.str 0 0) else match (st.obj i).blk off len with
          | some b => b.pack.map fun m => .str len m
          | none => none
        | _ => none
      else none
    | some (.pointer t), some .unsafePointer => match (P.info? t).map (fun i => decide (i.size = 0)), v x with
      | some false, .ptr i off => match (st.obj i).cell? off with
        | some _ => some (.ptr i off)
        | none => none
      | _, _ => none
    | _, _ => none
  | .lookup t x k ok => lookupA P t (v x) (v k) ok st
  | .call ⟨.builtin .len, args, ts⟩ => match ts[0]?, args[0]? with
    | some t, some x => lenMapA P t (v x) st
    | _, _ => none
  | _ => none

theorem run_loadVar_agg {P : Program} {w : World} {t : TypeId} {n : Nat} (h : aggN P t = some (some n)) {a : Addr} {cs : List Value} (hl : cs.length = n)
    (hc : ∀ (j : Nat) (v : Value), cs[j]? = some v → w.cell? (a.add j) = some v) : (loadVar t a).run P w = .ok (.agg cs.toArray) w := by
  obtain ⟨h1, h2⟩ := aggN_some h w
  have := run_loadCells_list (P := P) w a cs hc
  rw [hl] at this
  simp [loadVar, h1, h2 n rfl, this]

theorem run_loadVar_one {P : Program} {w : World} {t : TypeId} (h : aggN P t = some none) {a : Addr} {v : Value} (hc : w.cell? a = some v) : (loadVar t a).run P w = .ok v w := by
  obtain ⟨h1, _⟩ := aggN_some h w
  simp [loadVar, h1, hc]

theorem foldl_push : ∀ (l : List Nat) (s : ByteArray), (∀ x ∈ l, x < 256) →
    ((l.map Int.ofNat).foldl (fun (r : ByteArray) (n : Int) => r.push (UInt8.ofNat n.toNat)) s).data.toList.map UInt8.toNat = s.data.toList.map UInt8.toNat ++ l := by
  intro l
  induction l with
  | nil => intro s _; simp
  | cons x l ih =>
    intro s hx
    simp only [List.map_cons, List.foldl_cons]
    rw [ih _ (fun y hy => hx y (by simp [hy]))]
    have : (UInt8.ofNat x).toNat = x := by
      have := hx x (by simp)
      simp; omega
    simp [ByteArray.data_push, this]

theorem bytesL_lt {m len x : Nat} (hx : x ∈ bytesL m len) : x < 256 := by
  obtain ⟨k, hk, rfl⟩ := List.getElem_of_mem hx
  have := bytesL_get len m k (by rwa [bytesL_length] at hk)
  rw [List.getElem?_eq_getElem hk] at this
  rw [Option.some.inj this]; exact byte_lt _ _

theorem run_bytesToString_of {P : Program} (w : World) (a : Addr) (len cap m : Nat) (h : ∀ (j : Nat) (v : Value), (bytesV m len)[j]? = some v → w.cell? (a.add j) = some v) :
    ∃ s, (Conv.bytesToString (.slice (some a) len cap)).run P w = .ok (.string s) w ∧ s.data.toList.map UInt8.toNat = bytesL m len := by
  have hl := run_loadCells_list (P := P) w a (bytesV m len) h
  rw [bytesV_length] at hl
  have he : bytesV m len = ((bytesL m len).map Int.ofNat).map (Value.int .u8) := by simp [bytesV, List.map_map]
  rw [he] at hl
  refine ⟨_, run_bytesToString w a len cap _ hl, ?_⟩
  rw [foldl_push _ _ (fun x hx => bytesL_lt hx)]
  simp

theorem opRead_sound {P : Program} {ρ : Ren} {o : Oper} {v : Operand → AV} {e : Operand → Value} {r : AV} {st : St} {w : World} (h : opRead P o.op v st = some r)
    (hv : ∀ x, VR ρ (v x) (e x)) (hR : Rel ρ st w) : ∃ z, (execOp e o).run P w = .ok (.value z) w ∧ VR ρ r z := by
  unfold execOp
  unfold opRead at h
  split at h
  · rename_i t x ho
    rw [ho]
    have hx' := hv x
    split at h
    · rename_i i off hx
      rw [hx] at hx'
      obtain ⟨L, hea, hL⟩ : ∃ L : Loc, e x = .pointer (some (L.at off)) ∧ ρ i = some L := by
        generalize e x = ex at hx'
        cases hx' with | ptr _ _ L hL => exact ⟨L, rfl, hL⟩
      split at h
      · rename_i n hn
        simp only [Option.map_eq_some_iff] at h
        obtain ⟨b, hb, rfl⟩ := h
        obtain ⟨L', hL', vs, h1, h2, h3, _⟩ := hR.blk hb
        rw [hL] at hL'; cases hL'
        refine ⟨.agg vs.toArray, run_v ?_, .agg _ _ (by simpa using h1)⟩
        rw [hea]
        simp only [Instr.loadAt, Instr.sureAddr, Sem.run_bind, Sem.run_pure, Result.andThen_ok]
        exact run_loadVar_agg hn h2 (fun j u hj => by rw [L.at_add]; exact h3 j u hj)
      · rename_i hn
        obtain ⟨L', hL', u, h1, h2⟩ := hR.cell h
        rw [hL] at hL'; cases hL'
        refine ⟨u, run_v ?_, h2⟩
        rw [hea]
        simp only [Instr.loadAt, Instr.sureAddr, Sem.run_bind, Sem.run_pure, Result.andThen_ok]
        exact run_loadVar_one hn h1
      · cases h
    · cases h
  · rename_i s d x ho
    rw [ho]
    have hx' := hv x
    split at h
    · rename_i el hs hd
      cases hu : isU8 P el with
      | false => rw [hu] at h; simp at h
      | true =>
        rw [hu] at h; simp only [cond_true] at h
        have hel : P.underlying el = some (.int .u8) := by
          unfold isU8 at hu; split at hu
          · assumption
          · simp at hu
        have hconv : ∀ y : Value, (match y with | .slice .. => True | _ => False) → (convert s d y).run P w = (Conv.bytesToString y).run P w := by
          intro y hy
          cases y <;> simp at hy
          rename_i a l c
          simp only [convert, Sem.run_bind, run_underlying hs, run_underlying hd, run_underlying hel, Result.andThen_ok]
        split at h
        · rename_i hx
          rw [hx] at hx'
          cases h
          have hea : e x = .slice none 0 0 := by generalize e x = ex at hx'; cases hx'; rfl
          refine ⟨.string .empty, run_v ?_, .str _ _ _ rfl⟩
          rw [hea, hconv _ trivial]; rfl
        · rename_i i off len cap op hx
          rw [hx] at hx'
          cases hz : Nat.beq len 0 with
          | true =>
            rw [hz] at h; simp only [cond_true, Option.some.injEq] at h; subst h
            have hlen := beq_iff.1 hz
            subst hlen
            obtain ⟨a, c, hea⟩ : ∃ a c, e x = .slice (some a) 0 c := by
              generalize e x = ex at hx'; cases hx' <;> exact ⟨_, _, rfl⟩
            refine ⟨.string .empty, run_v ?_, .str _ _ _ rfl⟩
            rw [hea, hconv _ trivial]
            simp [Conv.bytesToString, loadCells, loadCellsFrom]
          | false =>
            rw [hz] at h; simp only [cond_false] at h
            have hlen : len ≠ 0 := fun e => by rw [e] at hz; simp at hz
            split at h
            · rename_i b hb
              simp only [Option.map_eq_some_iff] at h
              obtain ⟨m, hm, rfl⟩ := h
              obtain ⟨L', hL', vs, h1, h2, h3, h4⟩ := hR.blk hb
              obtain ⟨c, hea⟩ : ∃ c, e x = .slice (some (L'.at off)) len c := by
                generalize e x = ex at hx'
                cases hx' with
                | slice _ _ _ _ _ cap' L hL => rw [hL] at hL'; cases hL'; exact ⟨cap', rfl⟩
                | slice0 => exact absurd rfl hlen
              rw [Blk.pack_eq hm, h4] at h1
              have hvs := VRs_bytesA h1
              obtain ⟨str, hs1, hs2⟩ := run_bytesToString_of (P := P) w (L'.at off) len c m (fun j u hj => by rw [L'.at_add]; exact h3 j u (by rw [hvs]; exact hj))
              exact ⟨.string str, run_v (by rw [hea, hconv _ trivial]; exact hs1), .str _ _ _ hs2⟩
            · cases h
        · cases h
    · rename_i t hs hd
      split at h
      · rename_i i off hsz hx
        rw [hx] at hx'
        split at h
        · rename_i c hc
          simp only [Option.some.injEq] at h; subst h
          obtain ⟨L', hL', u, h1, _⟩ := hR.cell hc
          obtain ⟨L, hea, hL⟩ : ∃ L : Loc, e x = .pointer (some (L.at off)) ∧ ρ i = some L := by
            generalize e x = ex at hx'
            cases hx' with | ptr _ _ L hL => exact ⟨L, rfl, hL⟩
          rw [hL] at hL'; cases hL'
          exact ⟨.pointer (some (L'.at off)), run_v (by rw [hea]; exact run_convert_to_unsafe hs hd hsz h1), .ptr _ _ L' hL⟩
        · cases h
      · cases h
    · cases h
  · rename_i t x k ok ho
    rw [ho]
    obtain ⟨z, h1, h2⟩ := lookup_sound h (hv x) (hv k) hR
    exact ⟨z, run_v h1, h2⟩
  · rename_i args ts ho
    rw [ho]
    split at h
    · rename_i t x ht hx
      obtain ⟨z, h1, h2⟩ := lenMap_sound (ty := o.type) (vs := args.map e) h ht (by simp [hx]) (hv x) hR
      exact ⟨z, run_v h1, h2⟩
    · cases h
  · cases h

end
end Go.Ev

