/-
  The model's own entries (functions without a body): what the evaluator makes of them, and that they do so.
-/
import Derived.Test.YtdmnkhcddbjglaaGreatEvV
import Derived.Laws.LoneSync
import Derived.Lib.Bytealg
set_option linter.unusedVariables false
set_option linter.unusedSimpArgs false
namespace Go.Ev
open Go
noncomputable section

inductive Prim where
  | load (k : IntKind)
  | store
  | add (k : IntKind)
  | cas (k : IntKind)
  | compare
  | mark0
  | marked

/-- the entry's own meaning -/
def Prim.sem : Prim → (Array Value → Sem Value) → Prop
  | .load k, e => e = Extern.Atomic.loadT (.int k)
  | .store, e => e = Extern.Atomic.storeT
  | .add k, e => e = Extern.Atomic.update (Op.intArith .add) k true
  | .cas k, e => e = Extern.Atomic.casT (.int k)
  | .compare, e => e = Extern.BytealgCompare.compare
  | .mark0, e => ∃ m, e = fun _ => do mark m; pure Extern.Race.none_
  | .marked, e => ∃ m, e = Extern.Race.marked m

def cmpN : List Nat → List Nat → Int
  | [], [] => 0
  | [], _ :: _ => -1
  | _ :: _, [] => 1
  | x :: l, y :: m => bif Nat.blt x y then -1 else bif Nat.blt y x then 1 else cmpN l m

def bytesOfA (x : AV) (st : St) : Option (Nat × Nat) :=
  match x with
  | .str n b => some (n, b)
  | .snil => some (0, 0)
  | .slice i off len _ _ => bif Nat.beq len 0 then some (0, 0) else match (st.obj i).blk off len with
    | some b => match b.pack with
      | some m => some (len, m)
      | none => none
    | none => none
  | _ => none

def cellI (x : AV) (st : St) : Option (IntKind × Int) :=
  match x with
  | .ptr i off => match (st.obj i).cell? off with
    | some (.int k n) => some (k, n)
    | _ => none
  | _ => none

def setI (x : AV) (k : IntKind) (n : Int) (st : St) : Option St :=
  match x with
  | .ptr i off => match st.obj i with
    | .cells true sz d t => bif Nat.blt off sz then some (st.put i (.cells true sz d (t.set off (.int k n)))) else none
    | _ => none
  | _ => none

def primA : Prim → List AV → St → Option (AV × St)
  | .load k, [a], st => match cellI a st with
    | some (k', n) => bif kindEq k k' then some (.int k n, st) else none
    | none => none
  | .store, [a, .int k n], st => match setI a k n st with
    | some st' => some (.tup [], st')
    | none => none
  | .add k, [a, .int k2 y], st => match cellI a st with
    | some (k', n) => bif kindEq k k' && kindEq k k2 then match setI a k (wrapF k (n + y)) st with
        | some st' => some (.int k (wrapF k (n + y)), st')
        | none => none
      else none
    | none => none
  | .cas k, [a, .int k2 x, .int k3 y], st => match cellI a st with
    | some (k', n) => bif kindEq k k' && (kindEq k k2 && kindEq k k3) then match setI a k y st with
        | some st' => bif eqI n x then some (.bool true, st') else some (.bool false, st)
        | none => none
      else none
    | none => none
  | .compare, [a, b], st => match bytesOfA a st, bytesOfA b st with
    | some (n, x), some (m, y) => some (.int .i64 (bif strEq n x m y then 0 else cmpN (bytesL x n) (bytesL y m)), st)
    | _, _ => none
  | .mark0, [], st => some (.tup [], st)
  | .marked, [.ptr _ _], st => some (.tup [], st)
  | _, _, _ => none

theorem kindEq_iff {a b : IntKind} : kindEq a b = true ↔ a = b := by simp [kindEq]

theorem cellI_sound {ρ : Ren} {x : AV} {k : IntKind} {n : Int} {st : St} {v : Value} {w : World} (h : cellI x st = some (k, n)) (hv : VR ρ x v) (hR : Rel ρ st w) :
    ∃ a, v = .pointer (some a) ∧ w.cell? a = some (.int k n) := by
  unfold cellI at h
  split at h
  · rename_i i off
    cases hv with | ptr _ _ L hL =>
    split at h
    · rename_i k' n' hc
      simp only [Option.some.injEq, Prod.mk.injEq] at h
      obtain ⟨rfl, rfl⟩ := h
      obtain ⟨L', hL', u, h1, h2⟩ := hR.cell hc
      rw [hL] at hL'; cases hL'
      cases h2
      exact ⟨_, rfl, h1⟩
    · cases h
  · cases h

theorem setI_sound {ρ : Ren} {x : AV} {k : IntKind} {n : Int} {st st' : St} {v : Value} {w : World} (h : setI x k n st = some st') (hv : VR ρ x v) (hR : Rel ρ st w) :
    ∃ a u, v = .pointer (some a) ∧ w.cell? a = some u ∧ w.frozen? a = false ∧ Good ρ st w ρ st' (w.setCell a (.int k n)) := by
  unfold setI at h
  split at h
  · rename_i i off
    cases hv with | ptr _ _ L hL =>
    split at h
    · rename_i sz d t ho
      obtain ⟨hb, h⟩ := bif_some h
      have hb := blt_iff.1 hb
      simp only [Option.some.injEq] at h
      subst h
      obtain ⟨hi, hg⟩ := St.obj_live (st := st) (i := i) (by rw [ho]; rfl)
      rw [hg] at ho
      obtain ⟨L', ob, hL', hob, hr⟩ := hR.live i hi (by rw [ho]; rfl)
      rw [hL] at hL'; cases hL'
      rw [ho] at hr
      obtain ⟨hok, hsz, C, e, fz, rfl, hle, htop, hc, hfz⟩ := hr
      obtain ⟨u, hu, _⟩ := hc off hb
      refine ⟨L.at off, u, rfl, by rw [Loc.at, cell?_of_block hob]; exact hu, ?_, ?_⟩
      · rw [Loc.at, frozen?_of_block hob]
        exact (hfz rfl).2 _ (by omega)
      · refine hR.upd hi (by rw [ho]; rfl) hL (o := .cells true sz d (t.set off (.int k n))) (ob := .cells (C.setIfInBounds (L.sh + off) (.int k n)) e fz) ?_ (setCell_block hob)
        refine ⟨hok.set _ _, hsz, _, e, fz, rfl, hle, by simpa using htop, ?_, fun q => by simpa using hfz q⟩
        intro j hj
        by_cases e : j = off
        · subst e
          rw [T.get_set_same]
          refine ⟨.int k n, ?_, .int _ _⟩
          rw [Array.getElem?_setIfInBounds_self_of_lt (by omega)]
        · rw [T.get_set_ne d t off j _ hok (by omega) (by omega) (Ne.symm e), Array.getElem?_setIfInBounds_ne (by omega)]
          exact hc j hj
    · cases h
  · cases h

/-! ### Bytes -/
theorem run_loadBytes {P : Program} {w : World} : ∀ (n : Nat) (a : Addr) (acc : ByteArray) (m : Nat), (∀ (j : Nat) (v : Value), (bytesV m n)[j]? = some v → w.cell? (a.add j) = some v) →
    ∃ s, (Extern.Bytes.loadBytes a n acc).run P w = .ok s w ∧ s.data.toList.map UInt8.toNat = acc.data.toList.map UInt8.toNat ++ bytesL m n := by
  intro n
  induction n with
  | zero => intro a acc m _; exact ⟨acc, rfl, by simp [bytesL]⟩
  | succ n ih =>
    intro a acc m h
    have h0 := h 0 (.int .u8 ((m % 256 : Nat) : Int)) (by simp [bytesV, bytesL])
    rw [show a.add 0 = a from rfl] at h0
    obtain ⟨s, h1, h2⟩ := ih (a.add 1) (acc.push ((m % 256 : Nat) : Int).toNat.toUInt8) (m >>> 8) (by
      intro j v hj
      have : (a.add 1).add j = a.add (j + 1) := by
        unfold Addr.add
        by_cases hj0 : j = 0
        · subst hj0; simp
        · simp [hj0]; omega
      rw [this]
      exact h (j + 1) v (by simpa [bytesV, bytesL] using hj))
    refine ⟨s, ?_, ?_⟩
    · simp only [Extern.Bytes.loadBytes, Sem.run_bind]
      have hl : (load a : Sem Value).run P w = .ok (.int .u8 ((m % 256 : Nat) : Int)) w := by simp [h0]
      rw [hl]
      simp only [Result.andThen_ok]
      exact h1
    · rw [h2]
      have : (((m % 256 : Nat) : Int).toNat.toUInt8).toNat = m % 256 := by
        have : m % 256 < 256 := Nat.mod_lt _ (by omega)
        rw [Int.toNat_natCast]
        simp
      simp only [ByteArray.data_push, Array.toList_push, List.map_append, List.map_cons, List.map_nil, List.append_assoc, List.cons_append, List.nil_append, this, bytesL]

theorem bytesOfA_sound {P : Program} {ρ : Ren} {x : AV} {n b : Nat} {st : St} {v : Value} {w : World} (h : bytesOfA x st = some (n, b)) (hv : VR ρ x v) (hR : Rel ρ st w) :
    ∃ s, (Extern.Bytes.bytesOf v).run P w = .ok s w ∧ s.data.toList.map UInt8.toNat = bytesL b n := by
  unfold bytesOfA at h
  split at h
  · simp only [Option.some.injEq, Prod.mk.injEq] at h
    obtain ⟨rfl, rfl⟩ := h
    cases hv with | str _ _ s hs => exact ⟨s, rfl, hs⟩
  · simp only [Option.some.injEq, Prod.mk.injEq] at h
    obtain ⟨rfl, rfl⟩ := h
    cases hv
    exact ⟨.empty, rfl, rfl⟩
  · rename_i i off len cap es
    cases hb : Nat.beq len 0 with
    | true =>
      rw [hb] at h
      simp only [cond_true, Option.some.injEq, Prod.mk.injEq] at h
      obtain ⟨rfl, rfl⟩ := h
      have hl := beq_iff.1 hb
      subst hl
      cases hv with
      | slice _ _ _ _ _ cap' L => exact ⟨.empty, rfl, rfl⟩
      | slice0 => exact ⟨.empty, rfl, rfl⟩
    | false =>
      rw [hb] at h
      simp only [cond_false] at h
      have hl : len ≠ 0 := fun e => by rw [beq_iff.2 e] at hb; cases hb
      split at h
      · rename_i x hx
        split at h
        · rename_i m hm
          simp only [Option.some.injEq, Prod.mk.injEq] at h
          obtain ⟨rfl, rfl⟩ := h
          obtain ⟨L, hL, vs, g1, g2, g3, g4⟩ := hR.blk hx
          rw [Blk.pack_eq hm] at g1
          have hvs := VRs_bytesA g1
          rw [g4] at hvs
          cases hv with
          | slice0 => exact absurd rfl hl
          | slice _ _ _ _ _ cap' L' hL' =>
            rw [hL] at hL'; cases hL'
            obtain ⟨s, h1, h2⟩ := run_loadBytes (P := P) (w := w) len (L.at off) .empty m (fun j v hj => by rw [L.at_add]; exact g3 j v (by rw [hvs]; exact hj))
            exact ⟨s, h1, by simpa using h2⟩
        · cases h
      · cases h
  · cases h

theorem cmpN_eq : ∀ (x y : List UInt8), cmpN (x.map UInt8.toNat) (y.map UInt8.toNat) = Lib.compareBytes x y
  | [], [] => rfl
  | [], _ :: _ => rfl
  | _ :: _, [] => rfl
  | a :: l, b :: m => by
    simp only [List.map_cons, cmpN, Lib.compareBytes, cmpN_eq l m]
    have h1 : Nat.blt a.toNat b.toNat = decide (a < b) := by
      by_cases h : a < b
      · rw [decide_eq_true h]; exact blt_iff.2 (UInt8.lt_iff_toNat_lt.1 h)
      · rw [decide_eq_false h]
        cases hb : Nat.blt a.toNat b.toNat with
        | false => rfl
        | true => exact (h (UInt8.lt_iff_toNat_lt.2 (blt_iff.1 hb))).elim
    have h2 : Nat.blt b.toNat a.toNat = decide (b < a) := by
      by_cases h : b < a
      · rw [decide_eq_true h]; exact blt_iff.2 (UInt8.lt_iff_toNat_lt.1 h)
      · rw [decide_eq_false h]
        cases hb : Nat.blt b.toNat a.toNat with
        | false => rfl
        | true => exact (h (UInt8.lt_iff_toNat_lt.2 (blt_iff.1 hb))).elim
    rw [h1, h2]
    by_cases c1 : a < b <;> by_cases c2 : b < a <;> simp [c1, c2]

theorem cmpN_refl : ∀ l : List Nat, cmpN l l = 0
  | [] => rfl
  | x :: l => by
    have : Nat.blt x x = false := by
      cases hb : Nat.blt x x with
      | false => rfl
      | true => exact absurd (blt_iff.1 hb) (Nat.lt_irrefl _)
    simp [cmpN, this, cmpN_refl l]

theorem primA_sound {P : Program} {p : Prim} {e : Array Value → Sem Value} (hp : p.sem e) {f : FuncId} {fn : Func} (hf : P.funcs[f]? = some fn) (hname : (fn.name == "runtime.NumGoroutine") = false) (hb : fn.body.isNone = true) (hn : Extern.findNext fn = none) (he : Extern.find fn = some e)
    {args : List AV} {st st' : St} {v : AV} (h : primA p args st = some (v, st')) {ρ : Ren} {w : World} {cargs : Array Value} (hR : Rel ρ st w) (hA : VRs ρ args cargs.toList) :
    FkOk P ρ w cargs (fun vc w' => ∃ ρ', VR ρ' v vc ∧ Good ρ st w ρ' st' w') (.func f) := by
  right
  obtain ⟨cl⟩ := cargs
  simp only [] at hA
  unfold primA at h
  split at h
  · rename_i k a
    cases hp
    cases hA with | cons h1 hA =>
    cases hA
    split at h
    · rename_i k' n hc
      have h9 := bif_some h
      clear h
      obtain ⟨hk, h⟩ := h9
      have hk := kindEq_iff.1 hk; subst hk
      simp only [Option.some.injEq, Prod.mk.injEq] at h
      obtain ⟨rfl, rfl⟩ := h
      obtain ⟨ad, rfl, hcell⟩ := cellI_sound hc h1 hR
      exact ⟨_, w, run_call_load hf hname hb hn k he hcell, ρ, .int _ _, .refl hR⟩
    · cases h
  · rename_i a k n
    cases hp
    cases hA with | cons h1 hA =>
    cases hA with | cons h2 hA =>
    cases hA
    cases h2
    split at h
    · rename_i s1 hs
      simp only [Option.some.injEq, Prod.mk.injEq] at h
      obtain ⟨rfl, rfl⟩ := h
      obtain ⟨ad, u, rfl, hcell, hfz, hg⟩ := setI_sound hs h1 hR
      exact ⟨_, _, run_call_store hf hname hb hn he hcell hfz, ρ, .tup _ _ .nil, hg⟩
    · cases h
  · rename_i k a k2 y
    cases hp
    cases hA with | cons h1 hA =>
    cases hA with | cons h2 hA =>
    cases hA
    cases h2
    split at h
    · rename_i k' n hc
      have h9 := bif_some h
      clear h
      obtain ⟨hk, h⟩ := h9
      simp only [Bool.and_eq_true] at hk
      have hk1 := kindEq_iff.1 hk.1; have hk2 := kindEq_iff.1 hk.2
      subst hk1; subst hk2
      split at h
      · rename_i s1 hs
        simp only [Option.some.injEq, Prod.mk.injEq] at h
        obtain ⟨rfl, rfl⟩ := h
        obtain ⟨ad, rfl, hcell⟩ := cellI_sound hc h1 hR
        obtain ⟨ad', u, had, _, hfz, hg⟩ := setI_sound hs h1 hR
        cases had
        exact ⟨_, _, run_call_add hf hname hb hn k he hcell hfz (by simp [Op.intArith, wrapF_eq, wrapA_eq]), ρ, .int _ _, hg⟩
      · cases h
    · cases h
  · rename_i k a k2 x k3 y
    cases hp
    cases hA with | cons h1 hA =>
    cases hA with | cons h2 hA =>
    cases hA with | cons h3 hA =>
    cases hA
    cases h2; cases h3
    split at h
    · rename_i k' n hc
      have h9 := bif_some h
      clear h
      obtain ⟨hk, h⟩ := h9
      simp only [Bool.and_eq_true] at hk
      have hk1 := kindEq_iff.1 hk.1; have hk2 := kindEq_iff.1 hk.2.1; have hk3 := kindEq_iff.1 hk.2.2
      subst hk1; subst hk2; subst hk3
      split at h
      · rename_i s1 hs
        obtain ⟨ad, rfl, hcell⟩ := cellI_sound hc h1 hR
        obtain ⟨ad', u, had, _, hfz, hg⟩ := setI_sound hs h1 hR
        cases had
        rw [eqI_eq] at h
        by_cases hnx : n = x
        · subst hnx
          simp only [beq_self_eq_true, cond_true, Option.some.injEq, Prod.mk.injEq] at h
          obtain ⟨rfl, rfl⟩ := h
          exact ⟨_, _, run_call_cas_hit hf hname hb hn k he hcell hfz, ρ, .bool _, hg⟩
        · have : (n == x) = false := by simpa using hnx
          rw [this] at h
          simp only [cond_false, Option.some.injEq, Prod.mk.injEq] at h
          obtain ⟨rfl, rfl⟩ := h
          exact ⟨_, _, run_call_cas_miss hf hname hb hn k he hcell hfz hnx, ρ, .bool _, .refl hR⟩
      · cases h
    · cases h
  · rename_i a b
    cases hp
    cases hA with | cons h1 hA =>
    cases hA with | cons h2 hA =>
    cases hA
    split at h
    · rename_i n x m y ha hb'
      simp only [Option.some.injEq, Prod.mk.injEq] at h
      obtain ⟨rfl, rfl⟩ := h
      obtain ⟨s, g1, g2⟩ := bytesOfA_sound (P := P) ha h1 hR
      obtain ⟨s', g3, g4⟩ := bytesOfA_sound (P := P) hb' h2 hR
      refine ⟨.int .i64 (Lib.compareBytes s.data.toList s'.data.toList), w, ?_, ρ, ?_, .refl hR⟩
      · rw [run_callFunc_extern hf hname hb hn he]
        have : ∀ u u' : Value, (Extern.BytealgCompare.compare #[u, u']) = (do pure (goInt (Extern.BytealgCompare.cmp (← Extern.Bytes.bytesOf u) (← Extern.Bytes.bytesOf u'))) : Sem Value) := fun _ _ => rfl
        rw [this]
        simp only [Sem.run_bind, g1, g3, Result.andThen_ok, Sem.run_pure, Lib.cmp_eq]
        rfl
      · have hc : (bif strEq n x m y then (0 : Int) else cmpN (bytesL x n) (bytesL y m)) = Lib.compareBytes s.data.toList s'.data.toList := by
          rw [← cmpN_eq, g2, g4]
          cases hse : strEq n x m y with
          | false => rfl
          | true => rw [(strEq_iff n x m y).1 hse, cmpN_refl]; rfl
        rw [hc]
        exact .int _ _
    · cases h
  · obtain ⟨m, rfl⟩ := hp
    cases hA
    simp only [Option.some.injEq, Prod.mk.injEq] at h
    obtain ⟨rfl, rfl⟩ := h
    exact ⟨_, w, run_call_mark0 hf hname hb hn m he w, ρ, .tup _ _ .nil, .refl hR⟩
  · obtain ⟨m, rfl⟩ := hp
    cases hA with | cons h1 hA =>
    cases hA
    cases h1 with | ptr _ _ L hL =>
    simp only [Option.some.injEq, Prod.mk.injEq] at h
    obtain ⟨rfl, rfl⟩ := h
    exact ⟨_, w, run_call_marked hf hname hb hn m he _ w, ρ, .tup _ _ .nil, .refl hR⟩
  · cases h

/-! ### A table of entries -/
abbrev PrimT := List (FuncId × Prim)

def primE (T : PrimT) : ExtF := fun f args st => match T.lookup f with
  | some p => primA p args st
  | none => none

def PrimOk (P : Program) (x : FuncId × Prim) : Prop :=
  ∃ fn e, P.funcs[x.1]? = some fn ∧ (fn.name == "runtime.NumGoroutine") = false ∧ fn.body.isNone = true ∧ Extern.findNext fn = none ∧ Extern.find fn = some e ∧ x.2.sem e

theorem primE_ok {P : Program} {G : Nat} : ∀ {T : PrimT}, (∀ x ∈ T, PrimOk P x) → ExtOk P G (primE T) := by
  intro T hT f args st v st' h ρ w cargs hR hG hA
  unfold primE at h
  split at h
  · rename_i p hp
    have hm : (f, p) ∈ T := by
      clear h hT
      induction T with
      | nil => simp at hp
      | cons x T ih =>
        rw [List.lookup_cons] at hp
        split at hp
        · rename_i he
          have : f = x.1 := by simpa using he
          cases hp
          subst this
          simp
        · exact List.mem_cons_of_mem _ (ih hp)
    obtain ⟨fn, e, h1, h2, h3, h4, h5, h6⟩ := hT _ hm
    exact primA_sound h6 h1 h2 h3 h4 h5 h hR hA
  · cases h

end
end Go.Ev
