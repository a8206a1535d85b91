/-
  The operations that change memory, as the model runs them: 'opHeavy'.
  One operation of any class, and plain regions.
-/
import Derived.Test.YtecnddogdiikiaaGreatEvK
import Derived.Test.YtecnddogdiikiaaGreatEvHF
import Derived.Tactics
import Derived.OrdersIn
import Derived.TacticsIn
set_option linter.unusedVariables false
set_option linter.unusedSimpArgs false
namespace Go.Ev
open Go
noncomputable section

/-! ### append -/
/-- what append's types say: the element's size and bytes, its zero cells; whether zeros are appended -/
def appT (P : Program) (ts : Array TypeId) : Option (Nat × Nat × List AV × Bool) :=
  match ts[0]?, ts[1]? with
  | some t, some t' => match P.underlying t, P.underlying t' with
    | some (.slice e), some d => match zeroL P e, P.info? e with
      | some zl, some i => bif Nat.blt 0 i.size then some (i.size, i.bytes, zl, match d with | .int _ => true | _ => false) else none
      | _, _ => none
    | _, _ => none
  | _, _ => none

def appendOpA (P : Program) (ts : Array TypeId) (s x : AV) (st : St) : Option (AV × St) :=
  match appT P ts with
  | some (es, bytes, zl, false) => match lenOfA x with
    | some n => match srcA es x n st with
      | some b => appendA es bytes s n b st
      | none => none
    | none => none
  | some (es, bytes, zl, true) => match x with
    | .int _ (.ofNat n) => bif Nat.ble (n * bytes) 281474976710656 && Nat.ble n 4611686018427387904 then appendA es bytes s n (zeroRow zl n) st else none
    | _ => none
  | none => none

theorem zeroRow_len (zl : List AV) (n : Nat) : (zeroRow zl n).len = n * zl.length := by
  rw [Blk.len_eq, zeroRow_toL, zerosA_length]

theorem zeroCells_toList (z : Array Value) (n : Nat) : (Builtin.zeroCells z n).toList = zerosA z.toList n := by
  rw [← madeCells_toList]; rfl

theorem append_sound {P : Program} {ρ : Ren} {ts : Array TypeId} {ty : TypeId} {s x r : AV} {vs : Array Value} {u v : Value} {st st' : St} {w : World} (h : appendOpA P ts s x st = some (r, st'))
    (h0 : vs[0]? = some u) (h1 : vs[1]? = some v) (hu : VR ρ s u) (hv : VR ρ x v) (hR : Rel ρ st w) :
    ∃ z w' ρ', (Builtin.append_ ts ty vs).run P w = .ok z w' ∧ Good ρ st w ρ' st' w' ∧ VR ρ' r z := by
  have hus : ∀ {es bytes n : Nat} {b : Blk}, appendA es bytes s n b st = some (r, st') → ∃ base sLen sCap, u = .slice base sLen sCap := by
    intro es bytes n b hh
    cases hu <;> first | exact ⟨_, _, _, rfl⟩ | (simp [appendA] at hh)
  unfold appendOpA at h
  split at h
  · rename_i es bytes zl ht
    unfold appT at ht
    split at ht
    · rename_i t t' h2 h3
      split at ht
      · rename_i e d hut hud
        split at ht
        · rename_i zl' i hzl hi
          cases hb : Nat.blt 0 i.size with
          | false => rw [hb] at ht; simp at ht
          | true =>
            rw [hb] at ht
            simp only [cond_true, Option.some.injEq, Prod.mk.injEq] at ht
            obtain ⟨rfl, rfl, rfl, hd⟩ := ht
            have hpos := blt_iff.1 hb
            split at h
            · rename_i n hn
              split at h
              · rename_i b hsrc
                obtain ⟨base, sLen, sCap, rfl⟩ := hus h
                obtain ⟨vs0, _, _, _, hblen⟩ := src_sound (P := P) hsrc hv hR (by rw [hn]; simp)
                obtain ⟨z, w', ρ', g1, g2, g3⟩ := append_core (P := P) (zeros := false) (x := v) (appended := Builtin.firstCells i.size n v) hi hzl rfl hpos h hu hR hblen
                  (fun w'' hw => by
                    obtain ⟨vs1, q1, q2, _, _⟩ := src_sound (P := P) hsrc hv (w := w'') ⟨hR.ok, hR.lt, hR.fresh, by rw [hw]; exact hR.live, hR.inj⟩ (by rw [hn]; simp)
                    exact ⟨vs1, q1, q2⟩)
                refine ⟨z, w', ρ', ?_, g2, g3⟩
                rw [← g1]
                unfold Builtin.append_
                have hln := lenOf_sound (P := P) hn hv w
                clear g1 g2 g3
                cases d <;> first
                  | (simp at hd; done)
                  | (simp only [h2, h0, h1, Sem.run_bind, run_underlying hut, Result.andThen_ok, sizeOf, run_typeInfo w hi, Sem.run_pure, h3, run_underlying hud, Bool.false_eq_true, if_false, hln, Bool.not_false, if_true, tailOf]; rfl)
              · cases h
            · cases h
        · cases ht
      · cases ht
    · cases ht
  · rename_i es bytes zl ht
    unfold appT at ht
    split at ht
    · rename_i t t' h2 h3
      split at ht
      · rename_i e d hut hud
        split at ht
        · rename_i zl' i hzl hi
          cases hb : Nat.blt 0 i.size with
          | false => rw [hb] at ht; simp at ht
          | true =>
            rw [hb] at ht
            simp only [cond_true, Option.some.injEq, Prod.mk.injEq] at ht
            obtain ⟨rfl, rfl, rfl, hd⟩ := ht
            have hpos := blt_iff.1 hb
            split at h
            · rename_i k n
              cases hc : (Nat.ble (n * i.bytes) 281474976710656 && Nat.ble n 4611686018427387904) with
              | false => rw [hc] at h; simp at h
              | true =>
                rw [hc] at h; simp only [cond_true] at h
                simp only [Bool.and_eq_true, ble_iff] at hc
                obtain ⟨base, sLen, sCap, rfl⟩ := hus h
                cases hv
                obtain ⟨i', zv, hi', hz, hvz, hzlen, hzsz⟩ := zeroL_some hzl ρ
                rw [hi] at hi'; cases hi'
                have hwrap : IntKind.i64.wrap (Int.ofNat n) = (n : Int) := by rw [IntKind.wrap_i64]; simp only [Int.ofNat_eq_natCast]; omega
                have hti : ∀ w : World, (typeInfo e).run P w = .ok i w := fun w => run_typeInfo w hi
                have hzv : ∀ w : World, (zeroValue e).run P w = .ok zv w := fun w => by simp [zeroValue, hti, hz]
                obtain ⟨z, w', ρ', g1, g2, g3⟩ := append_core (P := P) (zeros := true) (x := .int k (Int.ofNat n))
                  (appended := if n * i.size = 0 then pure #[] else do pure (Builtin.zeroCells (← zeroValue e).cells n)) hi hzl rfl hpos h hu hR (by rw [zeroRow_len, hzlen])
                  (fun w'' hw => by
                    refine ⟨zerosA zv.cells.toList n, ?_, by rw [zeroRow_toL]; exact VRs_zeros hvz n⟩
                    by_cases hz0 : n * i.size = 0
                    · have : zerosA zv.cells.toList n = [] := by
                        apply List.eq_nil_of_length_eq_zero; rw [zerosA_length]; simp [hzsz, hz0]
                      simp [hz0, this]
                    · simp only [hz0, if_false, Sem.run_bind, hzv, Result.andThen_ok, Sem.run_pure, Sem.run_ite]
                      congr 1
                      apply Array.ext'
                      rw [zeroCells_toList])
                refine ⟨z, w', ρ', ?_, g2, g3⟩
                rw [← g1]
                unfold Builtin.append_
                have n1 : ¬ ((n : Int) < 0) := by omega
                have n2 : ¬ ((n : Int) * (i.bytes : Int) > 2 ^ 48) := by
                  have h : ((n * i.bytes : Nat) : Int) ≤ 281474976710656 := by omega
                  rw [Int.natCast_mul] at h; omega
                clear g1 g2 g3
                cases d <;> first
                  | (simp at hd; done)
                  | (simp only [h2, h0, h1, Sem.run_bind, run_underlying hut, Result.andThen_ok, sizeOf, hti, Sem.run_pure, h3, run_underlying hud, if_true, asInt, asIntOf, hwrap, n1, if_false, n2, Int.toNat_natCast, Bool.not_true, Bool.false_eq_true, Sem.run_ite, tailOf]; rfl)
            · cases h
        · cases ht
      · cases ht
    · cases ht
  · cases h

/-! ### copy and clear -/
def copyA (P : Program) (ts : Array TypeId) (d s : AV) (st : St) : Option (AV × St) :=
  match ts[0]? with
  | some t => match P.underlying t with
    | some (.slice e) => match szOf P e, lenOfA s with
      | some es, some n => match d with
        | .snil => some (.int .i64 (.ofNat 0), st)
        | .slice i off len _ _ => let k := Nat.min n len
          bif Nat.beq k 0 then some (.int .i64 (.ofNat 0), st) else match srcA es s k st with
          | some b => match (st.obj i).store off b with
            | some o => some (.int .i64 (.ofNat k), st.put i o)
            | none => none
          | none => none
        | _ => none
      | _, _ => none
    | _ => none
  | none => none

theorem copy_sound {P : Program} {ρ : Ren} {ts : Array TypeId} {ty : TypeId} {d s r : AV} {vs : Array Value} {u v : Value} {st st' : St} {w : World} (h : copyA P ts d s st = some (r, st'))
    (h0 : vs[0]? = some u) (h1 : vs[1]? = some v) (hu : VR ρ d u) (hv : VR ρ s v) (hR : Rel ρ st w) :
    ∃ z w', (Builtin.copy_ ts ty vs).run P w = .ok z w' ∧ Good ρ st w ρ st' w' ∧ VR ρ r z := by
  unfold copyA at h
  split at h
  · rename_i t ht
    split at h
    · rename_i e hut
      split at h
      · rename_i es n hs hn
        have hlen := lenOf_sound (P := P) hn hv w
        split at h
        · simp only [Option.some.injEq, Prod.mk.injEq] at h
          obtain ⟨rfl, rfl⟩ := h
          cases hu
          refine ⟨.int .i64 0, w, ?_, .refl hR, .int _ _⟩
          have hsrc : srcA es s 0 st = some (.l []) := by simp [srcA]
          obtain ⟨vs', q1, _, q3, _⟩ := src_sound (P := P) hsrc hv hR (by rw [hn]; simp)
          have : vs' = [] := List.eq_nil_of_length_eq_zero (by simpa using q3)
          subst this
          unfold Builtin.copy_
          simp only [ht, h0, h1, Sem.run_bind, run_underlying hut, Result.andThen_ok, hlen, run_szOf hs, Nat.min_zero, q1, Sem.run_pure, show n.min 0 = 0 from Nat.min_zero n]
          rfl
        · rename_i i off len cap o
          dsimp only at h
          cases hz : Nat.beq (Nat.min n len) 0 with
          | true =>
            rw [hz] at h; simp only [cond_true, Option.some.injEq, Prod.mk.injEq] at h
            obtain ⟨rfl, rfl⟩ := h
            have hk := beq_iff.1 hz
            obtain ⟨a, cap', rfl⟩ : ∃ a cap', u = .slice (some a) len cap' := by cases hu <;> exact ⟨_, _, rfl⟩
            refine ⟨.int .i64 0, w, ?_, .refl hR, .int _ _⟩
            have hsrc : srcA es s 0 st = some (.l []) := by simp [srcA]
            obtain ⟨vs', q1, _, q3, _⟩ := src_sound (P := P) hsrc hv hR (by rw [hn]; simp)
            have : vs' = [] := List.eq_nil_of_length_eq_zero (by simpa using q3)
            subst this
            unfold Builtin.copy_
            simp only [ht, h0, h1, Sem.run_bind, run_underlying hut, Result.andThen_ok, hlen, run_szOf hs, hk, q1, storeCells, Sem.run_pure]
            rfl
          | false =>
            rw [hz] at h; simp only [cond_false] at h
            have hk : Nat.min n len ≠ 0 := fun e => by rw [e] at hz; simp at hz
            split at h
            · rename_i b hsrc
              split at h
              · rename_i ob hob
                simp only [Option.some.injEq, Prod.mk.injEq] at h
                obtain ⟨rfl, rfl⟩ := h
                obtain ⟨vs', q1, q2, q3, _⟩ := src_sound (P := P) hsrc hv hR (by rw [hn]; simp)
                obtain ⟨L, hL, w', hst, hg⟩ := hR.store P hob q2
                cases hu with
                | slice _ _ _ _ _ cap' L' hL' hp hl g0 g1 =>
                  rw [hL] at hL'; cases hL'
                  refine ⟨.int .i64 (Nat.min n len : Nat), w', ?_, hg, .int _ _⟩
                  unfold Builtin.copy_
                  simp only [ht, h0, h1, Sem.run_bind, run_underlying hut, Result.andThen_ok, hlen, run_szOf hs, q1, hst, Sem.run_pure]
                  rfl
                | slice0 => exact absurd (Nat.min_zero n) hk
              · cases h
            · cases h
        · cases h
      · cases h
    · cases h
  · cases h

def clearA (P : Program) (ts : Array TypeId) (d : AV) (st : St) : Option St :=
  match ts[0]?, d with
  | some t, .slice i off len _ _ => match P.underlying t with
    | some (.slice e) => bif Nat.beq len 0 then some st else match zeroL P e with
      | some zl => match (st.obj i).store off (zeroRow zl len) with
        | some o => some (st.put i o)
        | none => none
      | none => none
    | _ => none
  | some t, .snil => match P.underlying t with
    | some _ => some st
    | none => none
  | some t, .mnil => match P.underlying t with
    | some _ => some st
    | none => none
  | some t, .map i => match P.underlying t, st.obj i with
    | some _, .map _ => some (st.put i (.map []))
    | _, _ => none
  | _, _ => none

theorem clear_sound {P : Program} {ρ : Ren} {ts : Array TypeId} {ty : TypeId} {d : AV} {vs : Array Value} {u : Value} {st st' : St} {w : World} (h : clearA P ts d st = some st')
    (h0 : vs[0]? = some u) (hu : VR ρ d u) (hR : Rel ρ st w) :
    ∃ w', (Builtin.clear_ ts ty vs).run P w = .ok (.tuple #[]) w' ∧ Good ρ st w ρ st' w' := by
  unfold clearA at h
  split at h
  · rename_i t i off len cap o ht
    split at h
    · rename_i e hut
      cases hz : Nat.beq len 0 with
      | true =>
        rw [hz] at h; simp only [cond_true, Option.some.injEq] at h; subst h
        have := beq_iff.1 hz
        subst this
        obtain ⟨a, cap', rfl⟩ : ∃ a cap', u = .slice (some a) 0 cap' := by cases hu <;> exact ⟨_, _, rfl⟩
        exact ⟨w, by simp [Builtin.clear_, ht, h0, run_underlying hut], .refl hR⟩
      | false =>
        rw [hz] at h; simp only [cond_false] at h
        have hk : len ≠ 0 := fun e => by rw [e] at hz; simp at hz
        split at h
        · rename_i zl hzl
          split at h
          · rename_i ob hob
            simp only [Option.some.injEq] at h; subst h
            obtain ⟨inf, zv, hi, hz', hvz, hzlen, hzsz⟩ := zeroL_some hzl ρ
            obtain ⟨L, hL, w', hst, hg⟩ := hR.store P hob (vs := zerosA zv.cells.toList len) (by rw [zeroRow_toL]; exact VRs_zeros hvz len)
            cases hu with
            | slice _ _ _ _ _ cap' L' hL' hp hl g0 g1 =>
              rw [hL] at hL'; cases hL'
              refine ⟨w', ?_, hg⟩
              have hti : ∀ w : World, (typeInfo e).run P w = .ok inf w := fun w => run_typeInfo w hi
              obtain ⟨m, rfl⟩ : ∃ m, len = m + 1 := ⟨len - 1, by omega⟩
              simp only [Builtin.clear_, ht, h0, Sem.run_bind, run_underlying hut, Result.andThen_ok, zeroValue, hti, hz', Sem.run_pure]
              rw [zeroCells_toList, hst]
              rfl
            | slice0 => exact absurd rfl hk
          · cases h
        · cases h
    · cases h
  · rename_i t ht
    split at h
    · rename_i dd hut
      simp only [Option.some.injEq] at h; subst h
      cases hu
      exact ⟨w, by simp [Builtin.clear_, ht, h0, run_underlying hut], .refl hR⟩
    · cases h
  · rename_i t ht
    split at h
    · rename_i dd hut
      simp only [Option.some.injEq] at h; subst h
      cases hu
      exact ⟨w, by simp [Builtin.clear_, ht, h0, run_underlying hut], .refl hR⟩
    · cases h
  · rename_i t i ht
    split at h
    · rename_i dd es hut hobj
      simp only [Option.some.injEq] at h; subst h
      obtain ⟨hi, hg⟩ := St.obj_live (st := st) (i := i) (by rw [hobj]; rfl)
      rw [hg] at hobj
      obtain ⟨L, ob, hL, hob, hr⟩ := hR.live i hi (by rw [hobj]; rfl)
      rw [hobj] at hr
      obtain ⟨E, cl, rfl, _, _, _⟩ := hr
      cases hu with | map _ L' hL' =>
      rw [hL] at hL'; cases hL'
      refine ⟨{ w with heap := w.heap.setIfInBounds L.b (.map #[] cl) }, ?_, hR.upd hi (by rw [hobj]; rfl) hL (o := .map []) (ob := .map #[] cl) ⟨#[], cl, rfl, .nil, .nil, MapKept.stamped_empty cl⟩ rfl⟩
      simp only [Builtin.clear_, ht, h0, Sem.run_bind, run_underlying hut, Result.andThen_ok]
      cases dd <;> simp [getObj, setObj, Sem.run, hob]
    · cases h
  · cases h

/-! ### Maps: an entry set, an entry taken out -/
theorem VRs.set {ρ : Ren} : ∀ {l : List AV} {m : List Value}, VRs ρ l m → ∀ (j : Nat) {a : AV} {v : Value}, VR ρ a v → VRs ρ (l.set j a) (m.set j v)
  | _, _, .nil, _, _, _, _ => .nil
  | _, _, .cons _ t, 0, _, _, h => .cons h t
  | _, _, .cons x t, j + 1, _, _, h => .cons x (VRs.set t j h)

theorem VRs.eraseIdx {ρ : Ren} : ∀ {l : List AV} {m : List Value}, VRs ρ l m → ∀ (j : Nat), VRs ρ (l.eraseIdx j) (m.eraseIdx j)
  | _, _, .nil, _ => .nil
  | _, _, .cons _ t, 0 => t
  | _, _, .cons x t, j + 1 => .cons x (VRs.eraseIdx t j)

theorem map_modify {α β : Type} (g : α → β) (f : α → α) (E : Array α) (j : Nat) (e : α) (he : E.toList[j]? = some e) : (E.modify j f).toList.map g = (E.toList.map g).set j (g (f e)) := by
  have he' : E[j]? = some e := by simpa using he
  apply List.ext_getElem?
  intro i
  simp only [List.getElem?_map, Array.getElem?_toList, Array.getElem?_modify, List.getElem?_set]
  by_cases h : j = i
  · subst h
    obtain ⟨hlt, hge⟩ := Array.getElem?_eq_some_iff.1 he'
    simp [hlt, hge]
  · simp [h]

theorem map_set_pair {α β γ : Type} (g : α × β → γ) (es : List (α × β)) (j : Nat) (x : α × β) : (es.set j x).map g = (es.map g).set j (g x) := by
  apply List.ext_getElem?
  intro i
  simp only [List.getElem?_map, List.getElem?_set, List.length_map]
  by_cases h : j = i
  · subst h
    by_cases h2 : j < es.length <;> simp [h2]
  · simp [h]

theorem map_eraseIdx {α β : Type} (g : α → β) : ∀ (l : List α) (j : Nat), (l.eraseIdx j).map g = (l.map g).eraseIdx j
  | [], _ => rfl
  | _ :: _, 0 => rfl
  | x :: l, j + 1 => by simp only [List.eraseIdx_cons_succ, List.map_cons]; rw [map_eraseIdx g l j]

theorem run_getObj_of {P : Program} {w : World} {b : Nat} {E : Array MapEntry} {c : Nat} (h : w.heap[b]? = some (.map E c)) : (getObj b).run P w = .ok (.map E c) w := by
  simp [getObj, Sem.run, h]

theorem run_setObj_of {P : Program} {w : World} {b : Nat} {E : Array MapEntry} {c : Nat} {ob' : Obj} (h : w.heap[b]? = some (.map E c)) : (setObj b ob').run P w = .ok () { w with heap := w.heap.setIfInBounds b ob' } := by
  simp [setObj, Sem.run, h]

def mapUpdateA (P : Program) (t : TypeId) (m k x : AV) (st : St) : Option St :=
  match P.underlying t, m with
  | some (.map kt _), .map i => bif intKey P kt then match st.obj i with
      | .map es => match findA k es 0 with
        | some (some (j, _)) => some (st.put i (.map (es.set j (k, x))))
        | some none => some (st.put i (.map (es ++ [(k, x)])))
        | none => none
      | _ => none
    else none
  | _, _ => none

theorem mapUpdate_sound {P : Program} {ρ : Ren} {t : TypeId} {m k x : AV} {mv kv xv : Value} {st st' : St} {w : World} (h : mapUpdateA P t m k x st = some st') (hm : VR ρ m mv) (hk : VR ρ k kv) (hx : VR ρ x xv) (hR : Rel ρ st w) :
    ∃ w', (Instr.mapUpdate t mv kv xv).run P w = .ok () w' ∧ Good ρ st w ρ st' w' := by
  unfold mapUpdateA at h
  split at h
  · rename_i kt et i ht
    cases hi : intKey P kt with
    | false => rw [hi] at h; simp at h
    | true =>
      rw [hi] at h
      simp only [cond_true] at h
      obtain ⟨q, hq⟩ := intKey_iff hi
      split at h
      · rename_i es ho
        obtain ⟨hn, hg, L, E, c, hL, hob, h1, h2, hst⟩ := hR.mapAt ho
        cases hm with | map _ L' hL' =>
        rw [hL] at hL'; cases hL'
        split at h
        · rename_i j v hf
          simp only [Option.some.injEq] at h
          subst h
          rcases findA_sound (q := q) hk es E.toList 0 _ hf h1 h2 with ⟨a, _⟩ | ⟨j', v1, v', e, a, b, cc, d, f, g, kk, n, hkn⟩
          · cases a
          · simp only [Option.some.injEq, Prod.mk.injEq, Nat.zero_add] at a
            obtain ⟨rfl, rfl⟩ := a
            rw [Nat.zero_add] at b
            have he : E[j]? = some e := by simpa using d
            refine ⟨{ w with heap := w.heap.setIfInBounds L.b (.map (E.modify j fun e => { e with key := kv, val := xv }) c) }, ?_, hR.upd hn (by rw [hg]; rfl) hL (o := .map (es.set j (k, x))) (ob := .map (E.modify j fun e => { e with key := kv, val := xv }) c) ⟨_, c, rfl, ?_, ?_, MapKept.stamped_modify hst j _ (fun _ _ => rfl) (fun e' _ he' => by rw [he] at he'; cases he'; exact f.symm)⟩ rfl⟩
            · have hs : ∀ w : World, (Instr.keyThatStays kv kv).run P w = .ok kv w := by
                intro w
                subst hkn
                simp [Instr.keyThatStays, Instr.sameBits]
              have hks : ((E[j]?).map (·.key)).getD kv = kv := by rw [he]; exact f
              unfold Instr.mapUpdate
              simp only [Sem.run_bind, run_underlying ht, Result.andThen_ok, run_getObj_of hob, run_checkKey_int hq, run_findKey_int hq b, hks, hs w, run_setObj_of hob]
            · rw [map_set_pair (·.1), map_modify (·.key) _ E j e (by simpa using he)]
              exact h1.set j hk
            · rw [map_set_pair (·.2), map_modify (·.val) _ E j e (by simpa using he)]
              exact h2.set j hx
        · rename_i hf
          simp only [Option.some.injEq] at h
          subst h
          rcases findA_sound (q := q) hk es E.toList 0 _ hf h1 h2 with ⟨_, b, bk⟩ | ⟨j', v1, v', e, a, _⟩
          · refine ⟨{ w with heap := w.heap.setIfInBounds L.b (.map (E.push { key := kv, val := xv, born := c }) (c + 1)) }, ?_, hR.upd hn (by rw [hg]; rfl) hL (o := .map (es ++ [(k, x)])) (ob := .map (E.push { key := kv, val := xv, born := c }) (c + 1)) ⟨_, c + 1, rfl, ?_, ?_, MapKept.stamped_push hst bk⟩ rfl⟩
            · unfold Instr.mapUpdate
              simp only [Sem.run_bind, run_underlying ht, Result.andThen_ok, run_getObj_of hob, run_checkKey_int hq, run_findKey_int hq b, run_setObj_of hob]
            · simp only [List.map_append, Array.toList_push, List.map_cons, List.map_nil]
              exact h1.append (.cons hk .nil)
            · simp only [List.map_append, Array.toList_push, List.map_cons, List.map_nil]
              exact h2.append (.cons hx .nil)
          · cases a
        · cases h
      · cases h
  · cases h

def deleteA (P : Program) (ts : Array TypeId) (m k : AV) (st : St) : Option St :=
  match ts[0]? with
  | some t => match P.underlying t, m with
    | some (.map kt _), .map i => bif intKey P kt then match st.obj i with
        | .map es => match findA k es 0 with
          | some (some (j, _)) => some (st.put i (.map (es.eraseIdx j)))
          | some none => some (st.put i (.map es))
          | none => none
        | _ => none
      else none
    | _, _ => none
  | none => none

theorem delete_sound {P : Program} {ρ : Ren} {ts : Array TypeId} {ty : TypeId} {m k : AV} {vs : Array Value} {mv kv : Value} {st st' : St} {w : World} (h : deleteA P ts m k st = some st') (h0 : vs[0]? = some mv) (h1 : vs[1]? = some kv)
    (hm : VR ρ m mv) (hk : VR ρ k kv) (hR : Rel ρ st w) : ∃ w', (Builtin.delete_ ts ty vs).run P w = .ok (.tuple #[]) w' ∧ Good ρ st w ρ st' w' := by
  unfold deleteA at h
  split at h
  · rename_i t ht0
    split at h
    · rename_i kt et i ht
      cases hi : intKey P kt with
      | false => rw [hi] at h; simp at h
      | true =>
        rw [hi] at h
        simp only [cond_true] at h
        obtain ⟨q, hq⟩ := intKey_iff hi
        split at h
        · rename_i es ho
          obtain ⟨hn, hg, L, E, c, hL, hob, g1, g2, hst⟩ := hR.mapAt ho
          cases hm with | map _ L' hL' =>
          rw [hL] at hL'; cases hL'
          split at h
          · rename_i j v hf
            simp only [Option.some.injEq] at h
            subst h
            rcases findA_sound (q := q) hk es E.toList 0 _ hf g1 g2 with ⟨a, _⟩ | ⟨j', v1, v', e, a, b, cc, d, f, g, _⟩
            · cases a
            · simp only [Option.some.injEq, Prod.mk.injEq, Nat.zero_add] at a
              obtain ⟨rfl, rfl⟩ := a
              rw [Nat.zero_add] at b
              have hlt : j < E.size := by
                have := (List.getElem?_eq_some_iff.1 d).1
                simpa using this
              have hE : (E.eraseIdxIfInBounds j).toList = E.toList.eraseIdx j := by
                simp [Array.eraseIdxIfInBounds, hlt, Array.toList_eraseIdx]
              refine ⟨{ w with heap := w.heap.setIfInBounds L.b (.map (E.eraseIdxIfInBounds j) c) }, ?_, hR.upd hn (by rw [hg]; rfl) hL (o := .map (es.eraseIdx j)) (ob := .map (E.eraseIdxIfInBounds j) c) ⟨_, c, rfl, ?_, ?_, MapKept.stamped_erase hst j⟩ rfl⟩
              · unfold Builtin.delete_
                simp only [ht0, h0, h1, Sem.run_bind, run_underlying ht, Result.andThen_ok, run_getObj_of hob, run_checkKey_int hq, run_findKey_int hq b, run_setObj_of hob, Sem.run_pure]
              · rw [hE, map_eraseIdx, map_eraseIdx]; exact g1.eraseIdx j
              · rw [hE, map_eraseIdx, map_eraseIdx]; exact g2.eraseIdx j
          · rename_i hf
            simp only [Option.some.injEq] at h
            subst h
            rcases findA_sound (q := q) hk es E.toList 0 _ hf g1 g2 with ⟨_, b, _⟩ | ⟨j', v1, v', e, a, _⟩
            · refine ⟨{ w with heap := w.heap.setIfInBounds L.b (.map E c) }, ?_, hR.upd hn (by rw [hg]; rfl) hL (o := .map es) (ob := .map E c) ⟨_, c, rfl, g1, g2, hst⟩ rfl⟩
              unfold Builtin.delete_
              simp only [ht0, h0, h1, Sem.run_bind, run_underlying ht, Result.andThen_ok, run_getObj_of hob, run_checkKey_int hq, run_findKey_int hq b, run_setObj_of hob, Sem.run_pure]
            · cases a
          · cases h
        · cases h
    · cases h
  · cases h

end
end Go.Ev

namespace Go.Ev
open Go
noncomputable section

inductive Cls where
  | pure | read | alloc | soft | heavy
  deriving DecidableEq

def clsOf (P : Program) : Op → Cls
  | .load .. | .lookup .. => .read
  | .alloc _ | .box .. | .buildSlice .. | .makeSlice .. | .makeMap .. => .alloc
  | .convert s d _ => match P.underlying s, P.underlying d with
    | some (.slice _), some .string => .read
    | some (.pointer _), some .unsafePointer => .read
    | some .string, some (.slice _) => .alloc
    | some (.slice _), some (.slice _) => .soft
    | _, _ => .pure
  | .call c => match c.callee with
    | .builtin .len => match (c.argTypes[0]?).bind P.underlying with
      | some (.map _ _) => .read
      | _ => .pure
    | .builtin .cap | .builtin .min | .builtin .max => .pure
    | _ => .heavy
  | .store .. | .mapUpdate .. | .insert .. | .mapEntry .. | .entryStore .. | .next .. | .entry _ | .range .. | .defer _ | .go _ | .panic _ => .heavy
  | _ => .pure

/-! ### The mark on bytes that came of a string -/
theorem row_writable {o : AO} (h : o.row = true) : o.writable = true := by cases o <;> simp_all [AO.row, AO.writable]

def softOf (P : Program) (o : Op) : Option Operand :=
  match o with
  | .convert s d x => match P.underlying s, P.underlying d with
    | some (.slice _), some (.slice e) => bif Nat.beq s d && isU8 P e then some x else none
    | _, _ => none
  | _ => none

/-- what the mark makes of an object -/
def marked : Obj → Obj
  | .cells C e (lo, hi) => .cells C e (if lo == hi then (C.size, C.size + 1) else (min lo C.size, max hi (C.size + 1)))
  | o => o

theorem ORel.marked {ρ : Ren} {L : Loc} {o : AO} {ob : Obj} (hbr : o.brow = true) (h : ORel ρ L o ob) : ORel ρ L o (marked ob) := by
  have hfree : ∀ (fz : Nat × Nat) (n : Nat), L.top ≤ n → free fz L.top → free (if fz.1 == fz.2 then (n, n + 1) else (min fz.1 n, max fz.2 (n + 1))) L.top := by
    intro fz n hn hf
    obtain ⟨h1, h2⟩ := hf
    by_cases he : fz.1 = fz.2
    · simp only [he, beq_self_eq_true, if_true]
      refine ⟨by simp, fun o ho => ?_⟩
      have : ¬ n ≤ o := by omega
      simp [this]
    · have hb : (fz.1 == fz.2) = false := by simpa using he
      simp only [hb, Bool.false_eq_true, if_false]
      refine ⟨by omega, fun o ho => ?_⟩
      have htop : L.top ≤ fz.1 := by
        rcases Nat.lt_or_ge fz.1 L.top with g | g
        · have := h2 fz.1 g
          have h3 : fz.1 < fz.2 := by omega
          simp [h3] at this
        · exact g
      have : ¬ min fz.1 n ≤ o := by omega
      simp [this]
  cases o with
  | dead => simp [AO.brow] at hbr
  | map es => simp [AO.brow] at hbr
  | box v => simp [AO.brow] at hbr
  | loop s p fr ps assign body => simp [AO.brow] at hbr
  | cells rw sz d t => simp [AO.brow] at hbr
  | bytes rw sz n =>
    obtain ⟨C, e, fz, rfl, g3, g4, g5, g6⟩ := h
    exact ⟨C, e, _, rfl, g3, g4, g5, fun hr => hfree fz C.size g4 (g6 hr)⟩

theorem run_markStringish {P : Program} (w : World) (a : Addr) : ∃ w', (markStringish a).run P w = .ok () w' ∧ SameOut w w' ∧ w'.heap.size = w.heap.size ∧
    ∀ b, w'.heap[b]? = if b = a.block then (w.heap[b]?).map marked else w.heap[b]? := by
  cases hs : w.shape? a.block with
  | none =>
    refine ⟨w, by simp [markStringish, hs], ⟨rfl, rfl, rfl⟩, rfl, ?_⟩
    intro b
    split
    · rename_i hb; subst hb
      cases ho : w.heap[a.block]? with
      | none => rfl
      | some o => cases o <;> first | rfl | (simp [World.shape?, ho] at hs)
    · rfl
  | some p =>
    obtain ⟨e, n⟩ := p
    refine ⟨w.freeze { block := a.block, off := n } 1, by simp [markStringish, hs], ⟨?_, ?_, ?_⟩, ?_, ?_⟩
    · simp [World.freeze]
    · simp [World.freeze]
    · simp [World.freeze]
    · simp [World.freeze]
    · intro b
      simp only [World.freeze, Nat.one_ne_zero, if_false, Array.getElem?_modify]
      split
      · rename_i hb; subst hb
        rw [if_pos rfl]
        cases ho : w.heap[a.block]? with
        | none => rfl
        | some o =>
          cases o with
          | cells C el fz =>
            obtain ⟨lo, hi⟩ := fz
            simp [World.shape?, ho] at hs
            obtain ⟨_, rfl⟩ := hs
            rfl
          | _ => rfl
      · rename_i hb
        rw [if_neg (fun e => hb e.symm)]

theorem soft_good {P : Program} {ρ : Ren} {st : St} {w : World} (hR : Rel ρ st w) {a : Addr} {w' : World} (hs : SameOut w w') (hz : w'.heap.size = w.heap.size)
    (hb : ∀ b, w'.heap[b]? = if b = a.block then (w.heap[b]?).map marked else w.heap[b]?)
    (hown : ∃ i L, i < st.next ∧ (st.heap.get i).brow = true ∧ ρ i = some L ∧ L.b = a.block) : Good ρ st w ρ st w' := by
  refine ⟨.refl ρ, ⟨hR.ok, hR.lt, hR.fresh, ?_, hR.inj⟩, rfl, Nat.le_refl _, by omega, hs.os, hs.tape, hs.output, ?_, fun i L a b c _ => ⟨i, L, a, b, c, rfl, id⟩, fun _ _ h => h, fun _ _ => rfl⟩
  · intro i hi hl
    obtain ⟨L, ob, h1, h2, h3⟩ := hR.live i hi hl
    by_cases e : L.b = a.block
    · obtain ⟨j, M, hj, hjb, hjM, hM⟩ := hown
      have hij : i = j := by
        by_cases hij : i = j
        · exact hij
        · exact absurd (e.trans hM.symm) (hR.inj i j L M hi hj hij hl (row_writable (AO.row_of_brow hjb)) h1 hjM)
      subst hij
      refine ⟨L, marked ob, h1, ?_, h3.marked hjb⟩
      rw [hb, if_pos e, h2]; rfl
    · refine ⟨L, ob, h1, ?_, h3⟩
      rw [hb, if_neg e]; exact h2
  · intro b hlt hno
    obtain ⟨i, L, h1, h2, h3, h4⟩ := hown
    rw [hb, if_neg]
    intro e
    exact hno i L h1 (row_writable (AO.row_of_brow h2)) h3 (by omega)

def softA (P : Program) (o : Op) (v : Operand → AV) : Option AV :=
  match softOf P o with
  | some x => match v x with
    | .slice i off len cap es => bif Nat.blt 0 cap then some (.slice i off len cap es) else none
    | _ => none
  | none => none

theorem soft_run {P : Program} {ρ : Ren} {o : Oper} {v : Operand → AV} {e : Operand → Value} {r : AV} (h : softA P o.op v = some r) (hv : ∀ x, VR ρ (v x) (e x)) (w : World) :
    ∃ z i off len cap es L w', r = .slice i off len cap es ∧ ρ i = some L ∧ (execOp e o).run P w = .ok (.value z) w' ∧ VR ρ r z ∧ SameOut w w' ∧ w'.heap.size = w.heap.size ∧
      ∀ b, w'.heap[b]? = if b = L.b then (w.heap[b]?).map marked else w.heap[b]? := by
  unfold softA at h
  split at h
  · rename_i x hx
    split at h
    · rename_i i off len cap es hvx
      cases hp : Nat.blt 0 cap with
      | false => rw [hp] at h; simp at h
      | true =>
        rw [hp] at h; simp only [cond_true, Option.some.injEq] at h; subst h
        have hpos := blt_iff.1 hp
        unfold softOf at hx
        split at hx
        · rename_i s d x' ho
          split at hx
          · rename_i el e' hs hd
            cases hb : (Nat.beq s d && isU8 P e') with
            | false => rw [hb] at hx; simp at hx
            | true =>
              rw [hb] at hx; simp only [cond_true, Option.some.injEq] at hx; subst hx
              simp only [Bool.and_eq_true, beq_iff] at hb
              obtain ⟨rfl, hu⟩ := hb
              have hdd := hd
              rw [hs] at hdd
              cases hdd
              have hel : P.underlying el = some (.int .u8) := by
                unfold isU8 at hu; split at hu
                · assumption
                · simp at hu
              have hx' := hv x'
              rw [hvx] at hx'
              obtain ⟨L, cap', hL, hea, hval⟩ : ∃ L cap', ρ i = some L ∧ e x' = .slice (some (L.at off)) len cap' ∧ VR ρ (.slice i off len cap es) (.slice (some (L.at off)) len cap') := by
                generalize e x' = ex at hx'
                cases hx' with
                | slice _ _ _ _ _ cap' L hL hp hl h0 h1 => exact ⟨L, cap', hL, rfl, .slice _ _ _ _ _ _ L hL hp hl h0 h1⟩
                | slice0 => omega
              obtain ⟨w', hm, hso, hz, hbl⟩ := run_markStringish (P := P) w (L.at off)
              refine ⟨.slice (some (L.at off)) len cap', i, off, len, cap, es, L, w', rfl, hL, ?_, hval, hso, hz, hbl⟩
              unfold execOp
              rw [ho]
              refine run_v ?_
              rw [hea]
              simp only [convert, Sem.run_bind, run_underlying hs, run_underlying hd, run_underlying hel, Result.andThen_ok]
              simp [hm]
          · cases hx
        · cases hx
    · cases h
  · cases h

/-! ### Heavy operations -/
/-- a frame of a function, or of a loop's round -/
abbrev fence (ro : Option Nat) : Fence := { Fence.wide with round := ro }

theorem fence_fn (ro : Option Nat) (f : FuncId) : (fence ro).fn f := trivial

theorem callsIn_fence {ro : Option Nat} {P : Program} {f : FuncId} {args : Array Value} {w : World} {R : Ending → World → Prop} (h : Calls P f args w R) : CallsIn (fence ro) 0 P f args w R :=
  (callsIn_wide (n := 0)).2 h

theorem wpIn_of_upon {ro : Option Nat} {P : Program} {o : Oper} {a : Act} {w : World} {K : Act → World → Prop} {Q : Exit → Act → World → Prop} (hnd : ∀ c, o.op ≠ .defer c)
    (h : o.uponIn (fence ro) 0 P a K Q ((execOp a.eval o).run P w)) : o.wpIn (fence ro) 0 P a w K Q :=
  ⟨fun _ _ => trivial, by rw [Oper.semAt_eq _ _ _ hnd]; exact h⟩

/-- 'fn' of a call: a function's number, or the mark of a loop's record -/
inductive Fk where
  | func (f : FuncId)
  | yield (i : Nat)

abbrev CallF := Fk → List AV → St → Option (AV × St)

def opHeavy (P : Program) (call : CallF) (o : Op) (v : Operand → AV) (st : St) : Option (AV × St) :=
  match o with
  | .store t a x => (storeA P t (v a) (v x) st).map fun st' => (undefA, st')
  | .call ⟨.builtin .append, args, ts⟩ => match args[0]?, args[1]? with
    | some s, some x => appendOpA P ts (v s) (v x) st
    | _, _ => none
  | .call ⟨.builtin .copy, args, ts⟩ => match args[0]?, args[1]? with
    | some s, some x => copyA P ts (v s) (v x) st
    | _, _ => none
  | .call ⟨.builtin .clear, args, ts⟩ => match args[0]? with
    | some s => (clearA P ts (v s) st).map fun st' => (.tup [], st')
    | none => none
  | .mapUpdate t m k x => (mapUpdateA P t (v m) (v k) (v x) st).map fun st' => (.tup [], st')
  | .insert t m k x => (mapUpdateA P t (v m) (v k) (v x) st).map fun st' => (.tup [], st')
  | .call ⟨.builtin .delete, args, ts⟩ => match args[0]?, args[1]? with
    | some s, some x => (deleteA P ts (v s) (v x) st).map fun st' => (.tup [], st')
    | _, _ => none
  | .call ⟨.value f, args, _⟩ => match v f with
    | .func (.func g) first captured => call (.func g) ((first ++ args.toList.map v) ++ captured) st
    | .yield i => call (.yield i) (args.toList.map v) st
    | _ => none
  | _ => none

/-- A call of a function: it has a body, and the call returns so; or it is one of the model's own entries, and answers so. A call of a loop's yield: it asks for a round, which ends so. -/
def FkOk (P : Program) (ρ : Ren) (w : World) (cargs : Array Value) (R : Value → World → Prop) : Fk → Prop
  | .func f => ((∀ w, (callFunc f cargs).run P w = .ok (.enter f cargs) w) ∧ Calls P f cargs w fun e w' => ∃ vc, e = .returned vc ∧ R vc w') ∨
      (∃ z w', (callFunc f cargs).run P w = .ok (.value z) w' ∧ R z w')
  | .yield i => ∃ L, ρ i = some L ∧ ∃ fn tmps assign body, (Instr.yield L.b cargs).run P w = .ok (.round L.b fn tmps assign body) w ∧
      RoundIn Fence.wide 0 P L.b fn tmps assign body w fun e w' => ∃ vc, e = .returned vc ∧ R vc w'

def CallOk (P : Program) (G : Nat) (call : CallF) : Prop :=
  ∀ f args st v st', call f args st = some (v, st') → ∀ ρ w (cargs : Array Value), Rel ρ st w → Glob ρ G → VRs ρ args cargs.toList →
    FkOk P ρ w cargs (fun vc w' => ∃ ρ', VR ρ' v vc ∧ Good ρ st w ρ' st' w') f

theorem opHeavy_sound {P : Program} {G : Nat} {call : CallF} (hcall : CallOk P G call) {ρ : Ren} {o : Oper} {v : Operand → AV} {a : Act} {r : AV} {st st' : St} {w : World} (h : opHeavy P call o.op v st = some (r, st'))
    (hv : ∀ x, VR ρ (v x) (a.eval x)) (hR : Rel ρ st w) (hG : Glob ρ G) {ro : Option Nat} {K : Act → World → Prop} {Q : Exit → Act → World → Prop}
    (hK : ∀ ρ' z w', VR ρ' r z → Good ρ st w ρ' st' w' → K (a.put o.dst z) w') : o.wpIn (fence ro) 0 P a w K Q := by
  refine wpIn_of_upon (fun c hc => by rw [hc] at h; simp [opHeavy] at h) ?_
  unfold execOp
  unfold opHeavy at h
  split at h
  · rename_i t ad x ho
    rw [ho]
    simp only [Option.map_eq_some_iff, Prod.mk.injEq] at h
    obtain ⟨st1, hs, rfl, rfl⟩ := h
    obtain ⟨w', h1, h2⟩ := store_sound hs (hv ad) (hv x) hR
    have : (do Instr.storeAt t (a.eval ad) (a.eval x); pure Next.skip : Sem Next).run P w = .ok .skip w' := by simp [h1]
    show o.uponIn (fence ro) 0 P a K Q ((do Instr.storeAt t (a.eval ad) (a.eval x); pure Next.skip : Sem Next).run P w)
    rw [this]
    exact hK ρ undef w' (.tup _ _ .nil) h2
  · rename_i args ts ho
    rw [ho]
    split at h
    · rename_i s x h0 h1
      obtain ⟨z, w', ρ', g1, g2, g3⟩ := append_sound (ty := o.type) (vs := args.map a.eval) h (by simp [h0]) (by simp [h1]) (hv s) (hv x) hR
      show o.uponIn (fence ro) 0 P a K Q ((do pure (Next.value (← Builtin.append_ ts o.type (args.map a.eval))) : Sem Next).run P w)
      rw [run_v g1]
      exact hK ρ' z w' g3 g2
    · cases h
  · rename_i args ts ho
    rw [ho]
    split at h
    · rename_i s x h0 h1
      obtain ⟨z, w', g1, g2, g3⟩ := copy_sound (ty := o.type) (vs := args.map a.eval) h (by simp [h0]) (by simp [h1]) (hv s) (hv x) hR
      show o.uponIn (fence ro) 0 P a K Q ((do pure (Next.value (← Builtin.copy_ ts o.type (args.map a.eval))) : Sem Next).run P w)
      rw [run_v g1]
      exact hK ρ z w' g3 g2
    · cases h
  · rename_i args ts ho
    rw [ho]
    split at h
    · rename_i s h0
      simp only [Option.map_eq_some_iff, Prod.mk.injEq] at h
      obtain ⟨st1, hs, rfl, rfl⟩ := h
      obtain ⟨w', g1, g2⟩ := clear_sound (ty := o.type) (vs := args.map a.eval) hs (by simp [h0]) (hv s) hR
      show o.uponIn (fence ro) 0 P a K Q ((do pure (Next.value (← Builtin.clear_ ts o.type (args.map a.eval))) : Sem Next).run P w)
      rw [run_v g1]
      exact hK ρ _ w' (.tup _ _ .nil) g2
    · cases h
  · rename_i t m k x ho
    rw [ho]
    simp only [Option.map_eq_some_iff, Prod.mk.injEq] at h
    obtain ⟨st1, hs, rfl, rfl⟩ := h
    obtain ⟨w', h1, h2⟩ := mapUpdate_sound hs (hv m) (hv k) (hv x) hR
    have : (do Instr.mapUpdate t (a.eval m) (a.eval k) (a.eval x); pure Next.skip : Sem Next).run P w = .ok .skip w' := by simp [h1]
    show o.uponIn (fence ro) 0 P a K Q ((do Instr.mapUpdate t (a.eval m) (a.eval k) (a.eval x); pure Next.skip : Sem Next).run P w)
    rw [this]
    exact hK ρ undef w' (.tup _ _ .nil) h2
  · rename_i t m k x ho
    rw [ho]
    simp only [Option.map_eq_some_iff, Prod.mk.injEq] at h
    obtain ⟨st1, hs, rfl, rfl⟩ := h
    obtain ⟨w', h1, h2⟩ := mapUpdate_sound hs (hv m) (hv k) (hv x) hR
    have : (do Instr.mapUpdate t (a.eval m) (a.eval k) (a.eval x); pure Next.skip : Sem Next).run P w = .ok .skip w' := by simp [h1]
    show o.uponIn (fence ro) 0 P a K Q ((do Instr.mapUpdate t (a.eval m) (a.eval k) (a.eval x); pure Next.skip : Sem Next).run P w)
    rw [this]
    exact hK ρ undef w' (.tup _ _ .nil) h2
  · rename_i args ts ho
    rw [ho]
    split at h
    · rename_i s x h0 h1
      simp only [Option.map_eq_some_iff, Prod.mk.injEq] at h
      obtain ⟨st1, hs, rfl, rfl⟩ := h
      obtain ⟨w', g1, g2⟩ := delete_sound (ty := o.type) (vs := args.map a.eval) hs (by simp [h0]) (by simp [h1]) (hv s) (hv x) hR
      show o.uponIn (fence ro) 0 P a K Q ((do pure (Next.value (← Builtin.delete_ ts o.type (args.map a.eval))) : Sem Next).run P w)
      rw [run_v g1]
      exact hK ρ _ w' (.tup _ _ .nil) g2
    · cases h
  · rename_i f args ts ho
    rw [ho]
    split at h
    · rename_i g first captured hf
      have hf' := hv f
      rw [hf] at hf'
      obtain ⟨f', c', hea, hfr, hcp⟩ : ∃ f' c' : Array Value, a.eval f = .func (.func g) f' c' ∧ VRs ρ first f'.toList ∧ VRs ρ captured c'.toList := by
        generalize a.eval f = ex at hf'
        cases hf' with | func _ _ _ f' c' hf hc => exact ⟨f', c', rfl, hf, hc⟩
      have hcalls := hcall (.func g) _ st r st' h ρ w ((f' ++ args.map a.eval) ++ c') hR hG (by
        rw [Array.toList_append, Array.toList_append, Array.toList_map]
        exact (hfr.append (VRs_map hv _)).append hcp)
      show o.uponIn (fence ro) 0 P a K Q ((do let d ← resolve a.eval ⟨.value f, args, ts⟩ o.type; invoke d.target d.args : Sem Next).run P w)
      have hrun : (do let d ← resolve a.eval ⟨.value f, args, ts⟩ o.type; invoke d.target d.args : Sem Next).run P w = (callFunc g ((f' ++ args.map a.eval) ++ c')).run P w := by
        simp only [resolve, hea, Deferred.ofValue, Sem.run_bind, Sem.run_pure, Result.andThen_ok, invoke]
      rw [hrun]
      rcases hcalls with ⟨he, hcalls⟩ | ⟨z, w', g1, ρ', g2, g3⟩
      · rw [he]
        refine ⟨by simp [fence, Fence.wide], (callsIn_fence hcalls).mono ?_⟩
        rintro e w' ⟨vc, rfl, ρ', h1, h2⟩
        exact hK ρ' vc w' h1 h2
      · rw [g1]
        exact hK ρ' z w' g2 g3
    · rename_i i hf
      have hf' := hv f
      rw [hf] at hf'
      obtain ⟨L, hea, hL⟩ : ∃ L : Loc, a.eval f = .func (.yield L.b) #[] #[] ∧ ρ i = some L := by
        generalize a.eval f = ex at hf'
        cases hf' with | yield _ L hL => exact ⟨L, rfl, hL⟩
      obtain ⟨L', hL', fn, tmps, assign, body, g1, g2⟩ := hcall (.yield i) _ st r st' h ρ w (args.map a.eval) hR hG (by
        rw [Array.toList_map]; exact VRs_map hv _)
      rw [hL] at hL'; cases hL'
      show o.uponIn (fence ro) 0 P a K Q ((do let d ← resolve a.eval ⟨.value f, args, ts⟩ o.type; invoke d.target d.args : Sem Next).run P w)
      have hrun : (do let d ← resolve a.eval ⟨.value f, args, ts⟩ o.type; invoke d.target d.args : Sem Next).run P w = .ok (.round L.b fn tmps assign body) w := by
        rw [← g1]
        simp only [resolve, hea, Deferred.ofValue, Sem.run_bind, Sem.run_pure, Result.andThen_ok, invoke]
        simp
      rw [hrun]
      refine ⟨by simp [fence, Fence.wide], RoundIn.mono (show RoundIn (fence ro) 0 P L.b fn tmps assign body w _ from g2) ?_⟩
      rintro e w' ⟨vc, rfl, ρ', h1, h2⟩
      exact hK ρ' vc w' h1 h2
    · cases h
  · cases h

/-! ### One operation -/
def wantedA (ops : Array Oper) (fr : Fr) (o : Oper) : Option Bool :=
  match o.guard with
  | none => some true
  | some (j, want) => match (ops[j]?).bind (·.dst) with
    | none => some false
    | some t => match fr.get t with
      | .bool b => some (b == want)
      | .top => none
      | _ => some false

theorem wanted_sound {ρ : Ren} {ops : Array Oper} {fr : Fr} {o : Oper} {b : Bool} {tmps : Array Value} (h : wantedA ops fr o = some b) (hF : FR ρ fr tmps) : Region.wanted o (yielded ops tmps) = b := by
  unfold wantedA at h
  unfold Region.wanted
  cases hg : o.guard with
  | none => rw [hg] at h; simp only [Option.some.injEq] at h; exact h
  | some p =>
    obtain ⟨j, want⟩ := p
    rw [hg] at h
    simp only [] at h ⊢
    unfold yielded
    split at h
    · rename_i hd
      rw [hd]; simp only [Option.some.injEq] at h; subst h; rfl
    · rename_i t hd
      rw [hd]
      simp only [Option.bind_some]
      have hlt : t < fr.lim ∨ fr.get t = .top := by
        rw [Fr.get_eq]
        cases hb : Nat.blt t fr.lim with
        | false => right; rfl
        | true => left; exact blt_iff.1 hb
      rcases hlt with hlt | htop
      · have hs : t < tmps.size := Nat.lt_of_lt_of_le hlt hF.size
        have hv := hF.get t
        have hget : tmps.getD t undef = tmps[t] := by simp [Array.getD, hs]
        rw [hget] at hv
        rw [Array.getElem?_eq_getElem hs]
        split at h
        · rename_i bb hbb
          rw [hbb] at hv
          generalize tmps[t] = x at hv
          cases hv
          simp only [Option.some.injEq] at h; subst h
          simp
        · cases h
        · rename_i hnb hnt
          simp only [Option.some.injEq] at h; subst h
          generalize fr.get t = q at *
          generalize tmps[t] = x at hv
          cases hv <;> first | rfl | (exact absurd rfl hnt) | (exact absurd rfl (hnb _))
      · rw [htop] at h; simp at h

def evOper (P : Program) (G : Nat) (call : CallF) (ops : Array Oper) (o : Oper) (fr : Fr) (st : St) : Option (Fr × St) :=
  match wantedA ops fr o with
  | none => none
  | some false => (fr.put o.dst undefA).map fun f => (f, st)
  | some true => match clsOf P o.op with
    | .pure => match opPureF o.op P (valA G fr) with
      | some r => (fr.put o.dst r).map fun f => (f, st)
      | none => none
    | .read => match opRead P o.op (valA G fr) st with
      | some r => (fr.put o.dst r).map fun f => (f, st)
      | none => none
    | .alloc => match opAlloc P o.op (valA G fr) with
      | some (ao, f) => bif st.room then (fr.put o.dst (f st.next)).map fun f => (f, st.alloc ao) else none
      | none => none
    | .soft => match softA P o.op (valA G fr) with
      | some r => match r with
        | .slice i _ _ _ _ => bif (st.obj i).brow then (fr.put o.dst r).map fun f => (f, st) else none
        | _ => none
      | none => none
    | .heavy => match opHeavy P call o.op (valA G fr) st with
      | some (r, st') => (fr.put o.dst r).map fun f => (f, st')
      | none => none


theorem evOper_sound {P : Program} {G : Nat} {call : CallF} (hcall : CallOk P G call) {ops : Array Oper} {o : Oper} {fr fr' : Fr} {st st' : St} {ρ : Ren} {a : Act} {w : World}
    (h : evOper P G call ops o fr st = some (fr', st')) (hF : FR ρ fr a.tmps) (hR : Rel ρ st w) (hG : Glob ρ G) {ro : Option Nat} {K : Act → World → Prop} {Q : Exit → Act → World → Prop}
    (hK : ∀ ρ' a' w', FR ρ' fr' a'.tmps → Good ρ st w ρ' st' w' → a'.defers = a.defers → K a' w') :
    if Region.wanted o (yielded ops a.tmps) then o.wpIn (fence ro) 0 P a w K Q else (∀ f, o.about P w a.eval = some f → (fence ro).fn f) ∧ K (a.put o.dst undef) w := by
  have hv : ∀ x, VR ρ (valA G fr x) (a.eval x) := valA_VR hF hG
  have hdef : ∀ (z : Value), (a.put o.dst z).defers = a.defers := by intro z; cases o.dst <;> rfl
  have nd : clsOf P o.op ≠ .heavy → ∀ c, o.op ≠ .defer c := fun h c hc => h (by rw [hc]; rfl)
  unfold evOper at h
  split at h
  · cases h
  · rename_i hw
    rw [wanted_sound hw hF]
    simp only [Option.map_eq_some_iff, Prod.mk.injEq] at h
    obtain ⟨f, hp, rfl, rfl⟩ := h
    simp only [Bool.false_eq_true, if_false]
    exact ⟨fun _ _ => trivial, hK ρ _ w (hF.put hp (.tup _ _ .nil)) (.refl hR) (hdef _)⟩
  · rename_i hw
    rw [wanted_sound hw hF]
    simp only [if_true]
    split at h
    · rename_i hcl
      split at h
      · rename_i r hr
        simp only [Option.map_eq_some_iff, Prod.mk.injEq] at h
        obtain ⟨f, hp, rfl, rfl⟩ := h
        rw [opPureF_eq] at hr
        obtain ⟨z, h1, h2⟩ := opPure_sound hr hv w
        refine wpIn_of_upon (nd (by rw [hcl]; simp)) ?_; rw [h1]
        exact hK ρ _ w (hF.put hp h2) (.refl hR) (hdef _)
      · cases h
    · rename_i hcl
      split at h
      · rename_i r hr
        simp only [Option.map_eq_some_iff, Prod.mk.injEq] at h
        obtain ⟨f, hp, rfl, rfl⟩ := h
        obtain ⟨z, h1, h2⟩ := opRead_sound hr hv hR
        refine wpIn_of_upon (nd (by rw [hcl]; simp)) ?_; rw [h1]
        exact hK ρ _ w (hF.put hp h2) (.refl hR) (hdef _)
      · cases h
    · rename_i hcl
      split at h
      · rename_i ao f hr
        cases hroom : st.room with
        | false => rw [hroom] at h; simp at h
        | true =>
          rw [hroom] at h; simp only [cond_true, Option.map_eq_some_iff, Prod.mk.injEq] at h
          obtain ⟨f', hp, rfl, rfl⟩ := h
          obtain ⟨z, ob, sh, top, w', h1, h2, h3, h4⟩ := opAlloc_sound hr hv w
          have hext := Ren.ext_set (ρ := ρ) (i := st.next) (L := ⟨w.heap.size, sh, top⟩) (hR.fresh _ (Nat.le_refl _))
          obtain ⟨h5, h6⟩ := h4 st.next (ρ.set st.next ⟨w.heap.size, sh, top⟩) hext (Ren.set_same _ _ _)
          refine wpIn_of_upon (nd (by rw [hcl]; simp)) ?_; rw [h1]
          exact hK _ _ w' ((hF.ext hext).put hp h6) (Good.alloc' hR hroom h2 h3 h5) (hdef _)
      · cases h
    · rename_i hcl
      split at h
      · rename_i r hr
        split at h
        · rename_i i off len cap es
          cases hrow : (st.obj i).brow with
          | false => rw [hrow] at h; simp at h
          | true =>
            rw [hrow] at h; simp only [cond_true, Option.map_eq_some_iff, Prod.mk.injEq] at h
            obtain ⟨f', hp, rfl, rfl⟩ := h
            obtain ⟨z, i', off', len', cap', es', L, w', he, hL, h1, h2, h3, h4, h5⟩ := soft_run hr hv w
            cases he
            obtain ⟨hi, hobj⟩ := St.obj_live (AO.live_of_writable (row_writable (AO.row_of_brow hrow)))
            refine wpIn_of_upon (nd (by rw [hcl]; simp)) ?_; rw [h1]
            exact hK ρ _ w' (hF.put hp h2) (soft_good (P := P) (a := ⟨L.b, 0, none⟩) hR h3 h4 h5 ⟨i, L, hi, by rw [← hobj]; exact hrow, hL, rfl⟩) (hdef _)
        · cases h
      · cases h
    · rename_i hcl
      split at h
      · rename_i r st1 hr
        simp only [Option.map_eq_some_iff, Prod.mk.injEq] at h
        obtain ⟨f', hp, rfl, rfl⟩ := h
        refine opHeavy_sound hcall hr hv hR hG ?_
        intro ρ' z w' h1 h2
        exact hK ρ' _ w' ((hF.ext h2.ext).put hp h1) h2 (hdef _)
      · cases h

/-! ### A plain region -/
def thenF (k : Fr → St → Option (Fr × St)) (r : Option (Fr × St)) : Option (Fr × St) :=
  match r with
  | some (fr, st) => k fr st
  | none => none

def evList (P : Program) (G : Nat) (call : CallF) (ops : Array Oper) (l : List Oper) : Fr → St → Option (Fr × St) :=
  List.rec (motive := fun _ => Fr → St → Option (Fr × St)) (fun fr st => some (fr, st)) (fun o _ ih fr st => thenF ih (evOper P G call ops o fr st)) l

theorem evList_sound {P : Program} {G : Nat} {call : CallF} (hcall : CallOk P G call) {ops : Array Oper} : ∀ (l : List Oper) {fr fr' : Fr} {st st' : St} {ρ : Ren} {a : Act} {w : World},
    evList P G call ops l fr st = some (fr', st') → FR ρ fr a.tmps → Rel ρ st w → Glob ρ G → ∀ {ro : Option Nat} {Q : Exit → Act → World → Prop},
    (∀ ρ' a' w', FR ρ' fr' a'.tmps → Good ρ st w ρ' st' w' → a'.defers = a.defers → Q .normal a' w') → wpListIn (fence ro) 0 P ops Q l a w := by
  intro l
  induction l with
  | nil =>
    intro fr fr' st st' ρ a w h hF hR hG ro Q hQ
    simp only [evList, Option.some.injEq, Prod.mk.injEq] at h
    obtain ⟨rfl, rfl⟩ := h
    exact hQ ρ a w hF (.refl hR) rfl
  | cons o l ih =>
    intro fr fr' st st' ρ a w h hF hR hG ro Q hQ
    simp only [evList, thenF] at h
    split at h
    · rename_i fr1 st1 h1
      unfold wpListIn
      refine evOper_sound hcall h1 hF hR hG ?_
      intro ρ' a' w' hF' hg hd
      refine ih h hF' hg.rel (hG.ext hg.ext) ?_
      intro ρ'' a'' w'' hF'' hg' hd'
      exact hQ ρ'' a'' w'' hF'' (hg.trans hg') (hd'.trans hd)
    · cases h

end
end Go.Ev

