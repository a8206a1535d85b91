/-
  The pure operations, all together: 'opPure', and that it is right.
-/
import Derived.Test.YtdmnkhcddbjglaaGreatEvE
import Derived.Laws.Build
namespace Go.Ev
open Go
noncomputable section

/-! ### Two operands, one operand, conversions -/
def isC : Operand → Bool
  | .const _ => true
  | _ => false

def guardOk (P : Program) (t : TypeId) (x y : Operand) (a b : AV) : Bool :=
  match a, b with
  | .inil, .inil => isC x || isC y
  | .agg _, .agg _ => !P.eqGuardType P.depth t
  | _, _ => true

def binA (P : Program) (op : BinOp) (t : TypeId) (x y : Operand) (a b : AV) : Option AV :=
  match a, b with
  | .int k m, .int k' n => match op with
    | .shl | .shr => shiftA op k m n
    | _ => bif kindEq k k' then intA op k m n else none
  | .str n b, .str m c => strA op n b m c
  | a, b => match op with
    | .eql => bif guardOk P t x y a b then (eqA P 12 t a b).map .bool else none
    | .neq => bif guardOk P t x y a b then (eqA P 12 t a b).map fun r => .bool (!r) else none
    | _ => none

theorem intA_sound {P : Program} {ρ : Ren} {op : BinOp} {k : IntKind} {m n : Int} {r : AV} (h : intA op k m n = some r) (t : TypeId) (w : World) :
    ∃ v, (binOp op t (.int k m) (.int k n)).run P w = .ok v w ∧ VR ρ r v := by
  cases op <;> simp only [intA, bitsA, Option.map_some, Option.some.injEq, reduceCtorEq] at h
  case add => subst h; exact ⟨_, by simp [binOp, Op.intArith]; rfl, by rw [wrapA_eq]; exact .int _ _⟩
  case sub => subst h; exact ⟨_, by simp [binOp, Op.intArith]; rfl, by rw [wrapA_eq]; exact .int _ _⟩
  case mul => subst h; exact ⟨_, by simp [binOp, Op.intArith]; rfl, by rw [wrapA_eq]; exact .int _ _⟩
  case quo =>
    cases hz : eqI n 0 with
    | true => rw [hz] at h; simp at h
    | false =>
      rw [hz] at h; simp only [cond_false, Option.some.injEq] at h; subst h
      rw [eqI_eq] at hz
      have : ¬ n = 0 := by simpa using hz
      exact ⟨_, by simp [binOp, Op.intDiv, this]; rfl, by rw [wrapA_eq]; exact .int _ _⟩
  case rem =>
    cases hz : eqI n 0 with
    | true => rw [hz] at h; simp at h
    | false =>
      rw [hz] at h; simp only [cond_false, Option.some.injEq] at h; subst h
      rw [eqI_eq] at hz
      have : ¬ n = 0 := by simpa using hz
      exact ⟨_, by simp [binOp, Op.intDiv, this], .int _ _⟩
  case and => subst h; exact ⟨_, by simp [binOp, Op.intBits], .int _ _⟩
  case or => subst h; exact ⟨_, by simp [binOp, Op.intBits], .int _ _⟩
  case xor => subst h; exact ⟨_, by simp [binOp, Op.intBits], .int _ _⟩
  case andNot => subst h; exact ⟨_, by simp [binOp, Op.intBits], .int _ _⟩
  case eql => subst h; rw [eqI_eq]; exact ⟨_, by simp [binOp, Op.intCmp], .bool _⟩
  case neq => subst h; rw [eqI_eq]; exact ⟨.bool (m != n), by simp [binOp, Op.intCmp], .bool _⟩
  case lss => subst h; rw [ltA_eq]; exact ⟨_, by simp [binOp, Op.intCmp], .bool _⟩
  case leq => subst h; rw [ltA_eq]; exact ⟨.bool (decide (m ≤ n)), by simp [binOp, Op.intCmp], by
    have : (!decide (n < m)) = decide (m ≤ n) := by rw [← decide_not]; congr 1; simp
    rw [this]; exact .bool _⟩
  case gtr => subst h; rw [ltA_eq]; exact ⟨.bool (decide (n < m)), by simp [binOp, Op.intCmp], .bool _⟩
  case geq => subst h; rw [ltA_eq]; exact ⟨.bool (decide (n ≤ m)), by simp [binOp, Op.intCmp], by
    have : (!decide (m < n)) = decide (n ≤ m) := by rw [← decide_not]; congr 1; simp
    rw [this]; exact .bool _⟩

theorem shiftA_sound {P : Program} {ρ : Ren} {op : BinOp} {k yk : IntKind} {m n : Int} {r : AV} (ho : op = .shl ∨ op = .shr) (h : shiftA op k m n = some r) (t : TypeId) (w : World) :
    ∃ v, (binOp op t (.int k m) (.int yk n)).run P w = .ok v w ∧ VR ρ r v := by
  cases n with
  | negSucc j => simp [shiftA] at h
  | ofNat j =>
    have hn : ¬ ((j : Int) < 0) := by omega
    rcases ho with rfl | rfl
    · simp only [shiftA, Option.some.injEq] at h; subst h
      refine ⟨.int k (k.wrap (m * 2 ^ min j k.bits)), by simp [binOp, Op.shift, hn], ?_⟩
      rw [wrapA_eq]
      rw [show (((2 ^ min j k.bits : Nat)) : Int) = 2 ^ min j k.bits by simp]
      exact .int _ _
    · simp only [shiftA, Option.some.injEq] at h; subst h
      refine ⟨.int k (m.fdiv (2 ^ min j k.bits)), by simp [binOp, Op.shift, hn], ?_⟩
      rw [show (((2 ^ min j k.bits : Nat)) : Int) = 2 ^ min j k.bits by simp]
      exact .int _ _

theorem strA_sound {P : Program} {ρ : Ren} {op : BinOp} {n b m c : Nat} {x y : ByteArray} {r : AV} (h : strA op n b m c = some r) (hx : x.data.toList.map UInt8.toNat = bytesL b n) (hy : y.data.toList.map UInt8.toNat = bytesL c m) (t : TypeId) (w : World) :
    ∃ v, (binOp op t (.string x) (.string y)).run P w = .ok v w ∧ VR ρ r v := by
  have heq : (x.toList == y.toList) = strEq n b m c := by
    rw [Bool.eq_iff_iff, strEq_iff, beq_iff_eq, ByteArray.toList_eq, ByteArray.toList_eq, ← hx, ← hy]
    exact ⟨fun e => by rw [e], map_toNat_inj⟩
  have hlt : Op.bytesLess x.toList y.toList = ltL (bytesL b n) (bytesL c m) := by
    rw [ltL_map, ByteArray.toList_eq, ByteArray.toList_eq, hx, hy]
  cases op <;> simp only [strA, Option.some.injEq, reduceCtorEq] at h
  case add =>
    cases hb : Nat.ble (n + m) 9223372036854775807 with
    | false => rw [hb] at h; simp at h
    | true =>
      rw [hb] at h; simp only [cond_true, Option.some.injEq] at h; subst h
      have hle := ble_iff.1 hb
      have hxs : x.size = n := by
        have := congrArg List.length hx
        rw [List.length_map, bytesL_length] at this
        rw [← this, ← ByteArray.size_data]; simp
      have hys : y.size = m := by
        have := congrArg List.length hy
        rw [List.length_map, bytesL_length] at this
        rw [← this, ← ByteArray.size_data]; simp
      have hno : ¬ (((x.size + y.size : Nat) : Int) > IntKind.i64.max) := by
        rw [hxs, hys]; simp [IntKind.max, IntKind.signed, IntKind.bits]; omega
      refine ⟨.string (x ++ y), ?_, ?_⟩
      · simp only [binOp, Op.stringOp, hno, if_false, Sem.run_pure, Sem.run_ite]
      · refine .str _ _ _ ?_
        rw [ByteArray.data_append, Array.toList_append, List.map_append, hx, hy, bytesL_join]
  all_goals (subst h; exact ⟨_, by simp only [binOp, Op.stringOp, heq, hlt, Sem.run_pure], .bool _⟩)

theorem run_eqGuard_agg {P : Program} {t : TypeId} {x y : Operand} {a b : Value} {op : BinOp} (w : World)
    (h : (a = .nilIface → b = .nilIface → (isC x || isC y) = true) ∧ (∀ c d, a = .agg c → b = .agg d → P.eqGuardType P.depth t = false)) :
    (eqGuard op t x y a b).run P w = .ok () w := by
  unfold eqGuard
  split
  case h_3 => rfl
  all_goals
    simp only [Bool.not_true, Bool.false_eq_true, if_false]
    split
    · have := h.1 rfl rfl
      clear h
      cases x <;> cases y <;> first | rfl | (exact absurd this (by simp [isC]))
    · have := h.2 _ _ rfl rfl
      simp [this]
    · rfl

theorem guardOk_spec {P : Program} {ρ : Ren} {t : TypeId} {x y : Operand} {a b : AV} {u v : Value} (h : guardOk P t x y a b = true) (hu : VR ρ a u) (hv : VR ρ b v) (ha : a ≠ .top) (hb : b ≠ .top) :
    (u = .nilIface → v = .nilIface → (isC x || isC y) = true) ∧ (∀ c d, u = .agg c → v = .agg d → P.eqGuardType P.depth t = false) := by
  constructor
  · rintro rfl rfl
    cases hu <;> first | (exact absurd rfl ha) | skip
    cases hv <;> first | (exact absurd rfl hb) | skip
    exact h
  · rintro c d rfl rfl
    cases hu <;> first | (exact absurd rfl ha) | skip
    cases hv <;> first | (exact absurd rfl hb) | skip
    simpa [guardOk] using h

theorem eqA_top {P : Program} {d : Nat} {t : TypeId} {a b : AV} {r : Bool} (h : eqA P d t a b = some r) : a ≠ .top ∧ b ≠ .top := by
  constructor <;> rintro rfl
  · cases d with
    | zero => simp [eqA] at h
    | succ d => unfold eqA at h; split at h <;> first | (cases h; done) | contradiction | skip
  · cases d with
    | zero => simp [eqA] at h
    | succ d => unfold eqA at h; split at h <;> first | (cases h; done) | contradiction | skip

theorem binOp_eql_of {ρ : Ren} {a b : AV} {u v : Value} (t : TypeId) (hu : VR ρ a u) (hv : VR ρ b v) (ta : a ≠ .top) (tb : b ≠ .top)
    (hni : ∀ k m k' n, a = .int k m → b = .int k' n → False) (hns : ∀ n c n' c', a = .str n c → b = .str n' c' → False) :
    binOp .eql t u v = (do pure (.bool (← Op.equal t u v))) ∧ binOp .neq t u v = (do pure (.bool (!(← Op.equal t u v)))) := by
  cases hu <;> first | (exact absurd rfl ta) | skip
  all_goals cases hv <;> first | (exact absurd rfl tb) | (exact ⟨rfl, rfl⟩) | (exact (hni _ _ _ _ rfl rfl).elim) | (exact (hns _ _ _ _ rfl rfl).elim)

theorem binA_sound {P : Program} {ρ : Ren} {op : BinOp} {t : TypeId} {x y : Operand} {a b r : AV} {u v : Value} (h : binA P op t x y a b = some r) (hu : VR ρ a u) (hv : VR ρ b v) (w : World) :
    ∃ z, (do eqGuard op t x y u v; binOp op t u v : Sem Value).run P w = .ok z w ∧ VR ρ r z := by
  unfold binA at h
  split at h
  · rename_i k m k' n
    cases hu; cases hv
    have hg : (eqGuard op t x y (.int k m) (.int k' n)).run P w = .ok () w := run_eqGuard_agg w ⟨fun e => (by cases e), fun _ _ e => (by cases e)⟩
    simp only [Sem.run_bind, hg, Result.andThen_ok]
    split at h
    · exact shiftA_sound (.inl rfl) h t w
    · exact shiftA_sound (.inr rfl) h t w
    · cases hk : kindEq k k' with
      | false => rw [hk] at h; simp at h
      | true =>
        rw [hk] at h; simp only [cond_true] at h
        simp only [kindEq, decide_eq_true_eq] at hk; subst hk
        exact intA_sound h t w
  · rename_i n b m c
    cases hu with | str _ _ s hs => cases hv with | str _ _ s' hs' =>
    have hg : (eqGuard op t x y (.string s) (.string s')).run P w = .ok () w := run_eqGuard_agg w ⟨fun e => (by cases e), fun _ _ e => (by cases e)⟩
    simp only [Sem.run_bind, hg, Result.andThen_ok]
    exact strA_sound h hs hs' t w
  · rename_i hni hns
    split at h
    · cases hg : guardOk P t x y a b with
      | false => rw [hg] at h; simp at h
      | true =>
        rw [hg] at h; simp only [cond_true, Option.map_eq_some_iff] at h
        obtain ⟨q, he, rfl⟩ := h
        obtain ⟨ta, tb⟩ := eqA_top he
        have h1 := run_eqGuard_agg (op := .eql) w (guardOk_spec hg hu hv ta tb)
        have h2 : (Op.equal t u v).run P w = .ok q w := eqA_sound w 12 t a b q he 9988 u v hu hv
        refine ⟨.bool q, ?_, .bool _⟩
        simp only [Sem.run_bind, h1, Result.andThen_ok]
        rw [(binOp_eql_of t hu hv ta tb hni hns).1]
        simp only [Sem.run_bind, h2, Result.andThen_ok, Sem.run_pure]
    · cases hg : guardOk P t x y a b with
      | false => rw [hg] at h; simp at h
      | true =>
        rw [hg] at h; simp only [cond_true, Option.map_eq_some_iff] at h
        obtain ⟨q, he, rfl⟩ := h
        obtain ⟨ta, tb⟩ := eqA_top he
        have h1 := run_eqGuard_agg (op := .neq) w (guardOk_spec hg hu hv ta tb)
        have h2 : (Op.equal t u v).run P w = .ok q w := eqA_sound w 12 t a b q he 9988 u v hu hv
        refine ⟨.bool (!q), ?_, .bool _⟩
        simp only [Sem.run_bind, h1, Result.andThen_ok]
        rw [(binOp_eql_of t hu hv ta tb hni hns).2]
        simp only [Sem.run_bind, h2, Result.andThen_ok, Sem.run_pure]
    · cases h

def unA (op : UnOp) (x : AV) : Option AV :=
  match op, x with
  | .neg, .int k n => some (.int k (wrapA k (0 - n)))
  | .xor, .int k n => (bitsA .xor k (if k.signed then -1 else k.max) n).map (.int k)
  | .not, .bool b => some (.bool (!b))
  | _, _ => none

theorem unA_sound {P : Program} {ρ : Ren} {op : UnOp} {x r : AV} {u : Value} (h : unA op x = some r) (hu : VR ρ x u) (w : World) :
    ∃ z, (Op.unary op u).run P w = .ok z w ∧ VR ρ r z := by
  unfold unA at h
  split at h
  · cases hu; simp only [Option.some.injEq] at h; subst h
    exact ⟨_, rfl, by rw [wrapA_eq]; exact .int _ _⟩
  · cases hu; simp only [bitsA, Option.map_some, Option.some.injEq] at h; subst h
    exact ⟨_, by simp only [Op.unary, Op.intBits, Sem.run_pure], .int _ _⟩
  · cases hu; simp only [Option.some.injEq] at h; subst h
    exact ⟨_, by simp only [Op.unary, Sem.run_pure], .bool _⟩
  · cases h

def convA (P : Program) (s d : TypeId) (x : AV) : Option AV :=
  match P.underlying s, P.underlying d, x with
  | some _, some (.int k), .int _ n => some (.int k (wrapA k n))
  | some _, some .string, .str n b => some (.str n b)
  | _, _, _ => none

theorem convA_sound {P : Program} {ρ : Ren} {s d : TypeId} {x r : AV} {u : Value} (h : convA P s d x = some r) (hu : VR ρ x u) (w : World) :
    ∃ z, (convert s d u).run P w = .ok z w ∧ VR ρ r z := by
  unfold convA at h
  split at h
  · rename_i ds k k' n hs hd
    cases hu; simp only [Option.some.injEq] at h; subst h
    refine ⟨.int k (k.wrap n), ?_, by rw [wrapA_eq]; exact .int _ _⟩
    simp only [convert, Sem.run_bind, run_underlying hs, run_underlying hd, Result.andThen_ok]
    rfl
  · rename_i ds n b hs hd
    cases hu with | str _ _ t ht =>
    simp only [Option.some.injEq] at h; subst h
    refine ⟨.string t, ?_, .str _ _ _ ht⟩
    simp only [convert, Sem.run_bind, run_underlying hs, run_underlying hd, Result.andThen_ok]
    cases ds <;> rfl
  · cases h

end
end Go.Ev
