/-
  The operations that only reckon: what the evaluator makes of them, and that every run makes the same.
-/
import Derived.Test.YtdmnkhcddbjglaaGreatEvC
import Derived.Laws.StructEq
import Derived.ChangeKeysEq
import GoSem.Dispatch
set_option linter.unusedVariables false
set_option linter.unusedSimpArgs false
namespace Go.Ev
open Go
noncomputable section

/-! ### Strings -/
def strJoin (n b m c : Nat) : Nat := (b % 2 ^ (8 * n)) ||| (c <<< (8 * n))

theorem byte_strJoin (n b m c k : Nat) : byte (strJoin n b m c) k = if k < n then byte b k else byte c (k - n) := by
  apply eq_of_testBit256 (byte_lt _ _)
  · split <;> exact byte_lt _ _
  · intro i hi
    rw [byte_testBit _ _ _ hi]
    unfold strJoin
    simp only [Nat.testBit_or, Nat.testBit_shiftLeft, Nat.testBit_mod_two_pow]
    split
    · rename_i h
      rw [byte_testBit _ _ _ hi]
      have h1 : 8 * k + i < 8 * n := by omega
      have h2 : ¬ 8 * n ≤ 8 * k + i := by omega
      simp [h1, h2]
    · rename_i h
      rw [byte_testBit _ _ _ hi]
      have h1 : ¬ 8 * k + i < 8 * n := by omega
      have h2 : 8 * n ≤ 8 * k + i := by omega
      have h3 : 8 * k + i - 8 * n = 8 * (k - n) + i := by omega
      simp [h1, h2, h3]

theorem bytesL_ext {n : Nat} {l : List Nat} {b : Nat} (hl : l.length = n) (h : ∀ k, k < n → l[k]? = some (byte b k)) : l = bytesL b n := by
  apply List.ext_getElem?
  intro k
  by_cases hk : k < n
  · rw [h k hk, bytesL_get n b k hk]
  · rw [List.getElem?_eq_none (by omega), List.getElem?_eq_none (by rw [bytesL_length]; omega)]

theorem bytesL_join (n b m c : Nat) : bytesL b n ++ bytesL c m = bytesL (strJoin n b m c) (n + m) := by
  apply bytesL_ext (by simp [bytesL_length])
  intro k hk
  by_cases h : k < n
  · rw [List.getElem?_append_left (by rw [bytesL_length]; exact h), bytesL_get _ _ _ h, byte_strJoin, if_pos h]
  · rw [List.getElem?_append_right (by rw [bytesL_length]; omega), bytesL_length, bytesL_get _ _ _ (by omega), byte_strJoin, if_neg h]

theorem bytesL_cut (b off len : Nat) (n : Nat) (h : off + len ≤ n) : ((bytesL b n).drop off).take len = bytesL (cutB b off len) len := by
  apply bytesL_ext (by simp [bytesL_length]; omega)
  intro k hk
  rw [List.getElem?_take_of_lt hk, List.getElem?_drop, bytesL_get _ _ _ (by omega), byte_cutB, if_pos hk]

theorem bytesL_pack (l : List Nat) (h : ∀ x ∈ l, x < 256) : l = bytesL (packL l) l.length := by
  apply bytesL_ext rfl
  intro k hk
  rw [List.getElem?_eq_getElem hk, byte_packL, List.getElem?_eq_getElem hk]
  simp only [Option.getD_some, Option.some.injEq]
  exact (Nat.mod_eq_of_lt (h _ (List.getElem_mem hk))).symm

theorem mod_eq_of_bytes : ∀ (n b c : Nat), bytesL b n = bytesL c n → b % 2 ^ (8 * n) = c % 2 ^ (8 * n) := by
  intro n b c h
  apply Nat.eq_of_testBit_eq
  intro i
  rw [Nat.testBit_mod_two_pow, Nat.testBit_mod_two_pow]
  by_cases hi : i < 8 * n
  · have hk : i / 8 < n := by omega
    have e : byte b (i / 8) = byte c (i / 8) := by
      have h1 := bytesL_get n b (i / 8) hk
      rw [h, bytesL_get n c (i / 8) hk] at h1
      exact (Option.some.inj h1).symm
    have h3 : i % 8 < 8 := by omega
    have h4 := byte_testBit b (i / 8) (i % 8) h3
    have h5 := byte_testBit c (i / 8) (i % 8) h3
    rw [show 8 * (i / 8) + i % 8 = i by omega] at h4 h5
    simp only [hi, decide_true, Bool.true_and]
    rw [← h4, ← h5, e]
  · simp [hi]

theorem bytes_eq_of_mod (n b c : Nat) (h : b % 2 ^ (8 * n) = c % 2 ^ (8 * n)) : bytesL b n = bytesL c n := by
  apply bytesL_ext (bytesL_length n b)
  intro k hk
  rw [bytesL_get n b k hk]
  congr 1
  apply eq_of_testBit256 (byte_lt _ _) (byte_lt _ _)
  intro i hi
  rw [byte_testBit _ _ _ hi, byte_testBit _ _ _ hi]
  have h1 := congrArg (fun x => x.testBit (8 * k + i)) h
  simp only [Nat.testBit_mod_two_pow] at h1
  have : 8 * k + i < 8 * n := by omega
  simpa [this] using h1

/-- two strings, are they the same -/
def strEq (n b m c : Nat) : Bool := Nat.beq n m && Nat.beq (b % 2 ^ (8 * n)) (c % 2 ^ (8 * n))

theorem beq_iff {a b : Nat} : Nat.beq a b = true ↔ a = b := Nat.beq_eq ▸ Iff.rfl

theorem strEq_iff (n b m c : Nat) : strEq n b m c = true ↔ bytesL b n = bytesL c m := by
  unfold strEq
  rw [Bool.and_eq_true, beq_iff, beq_iff]
  constructor
  · rintro ⟨rfl, h⟩; exact bytes_eq_of_mod _ _ _ h
  · intro h
    have : n = m := by rw [← bytesL_length n b, h, bytesL_length]
    subst this
    exact ⟨rfl, mod_eq_of_bytes _ _ _ h⟩

def ltL : List Nat → List Nat → Bool
  | _, [] => false
  | [], _ :: _ => true
  | a :: x, b :: y => Nat.blt a b || (Nat.beq a b && ltL x y)

theorem ltL_map : ∀ (x y : List UInt8), Op.bytesLess x y = ltL (x.map UInt8.toNat) (y.map UInt8.toNat) := by
  intro x
  induction x with
  | nil => intro y; cases y <;> rfl
  | cons a x ih =>
    intro y
    cases y with
    | nil => rfl
    | cons b y =>
      simp only [Op.bytesLess, ltL, List.map_cons, ih]
      congr 1
      · rw [Bool.eq_iff_iff, blt_iff]; simp [UInt8.lt_iff_toNat_lt]
      · congr 1
        rw [Bool.eq_iff_iff, beq_iff]; simp [UInt8.toNat_inj]

theorem map_toNat_inj : ∀ {x y : List UInt8}, x.map UInt8.toNat = y.map UInt8.toNat → x = y
  | [], [], _ => rfl
  | [], _ :: _, h => by simp at h
  | _ :: _, [], h => by simp at h
  | a :: x, b :: y, h => by
    simp only [List.map_cons, List.cons.injEq] at h
    rw [UInt8.toNat_inj.1 h.1, map_toNat_inj h.2]

/-! ### Integers -/
def wrapA (k : IntKind) (n : Int) : Int :=
  match k, n with
  | .i64, .ofNat m => bif Nat.blt m 9223372036854775808 then .ofNat m else IntKind.i64.wrap n
  | .u8, .ofNat m => .ofNat (m % 256)
  | .u16, .ofNat m => .ofNat (m % 65536)
  | .u32, .ofNat m => .ofNat (m % 4294967296)
  | .u64, .ofNat m => .ofNat (m % 18446744073709551616)
  | k, n => k.wrap n

theorem wrapA_eq (k : IntKind) (n : Int) : wrapA k n = k.wrap n := by
  unfold wrapA
  split
  · rename_i m
    cases hb : Nat.blt m 9223372036854775808 with
    | false => rfl
    | true =>
      have := blt_iff.1 hb
      simp only [cond_true]
      rw [IntKind.wrap_i64]
      simp only [Int.ofNat_eq_natCast]
      omega
  all_goals first | rfl | (simp [IntKind.wrap, IntKind.bits, IntKind.signed])

def ltA : Int → Int → Bool
  | .ofNat a, .ofNat b => Nat.blt a b
  | .negSucc _, .ofNat _ => true
  | .ofNat _, .negSucc _ => false
  | .negSucc a, .negSucc b => Nat.blt b a

theorem ltA_eq (a b : Int) : ltA a b = decide (a < b) := by
  rw [Bool.eq_iff_iff, decide_eq_true_iff]
  cases a <;> cases b <;> simp only [ltA, blt_iff, Int.ofNat_eq_natCast, Int.negSucc_eq, true_iff, Bool.false_eq_true, false_iff] <;> omega

def eqI : Int → Int → Bool
  | .ofNat a, .ofNat b => Nat.beq a b
  | .negSucc a, .negSucc b => Nat.beq a b
  | _, _ => false

theorem eqI_eq (a b : Int) : eqI a b = (a == b) := by
  rw [Bool.eq_iff_iff, beq_iff_eq]
  cases a <;> cases b <;> simp only [eqI, beq_iff, Int.ofNat_eq_natCast, Int.negSucc_eq, Bool.false_eq_true, false_iff] <;> omega

def bitsA (op : BinOp) (k : IntKind) (x y : Int) : Option Int :=
  let a := BitVec.ofInt k.bits x
  let b := BitVec.ofInt k.bits y
  match op with
  | .and => some (k.wrap (a &&& b).toNat)
  | .or => some (k.wrap (a ||| b).toNat)
  | .xor => some (k.wrap (a ^^^ b).toNat)
  | .andNot => some (k.wrap (a &&& ~~~b).toNat)
  | _ => none

def kindEq (a b : IntKind) : Bool := decide (a = b)

/-- x op y of integers of one kind -/
def intA (op : BinOp) (k : IntKind) (a b : Int) : Option AV :=
  match op with
  | .add => some (.int k (wrapA k (a + b)))
  | .sub => some (.int k (wrapA k (a - b)))
  | .mul => some (.int k (wrapA k (a * b)))
  | .quo => bif eqI b 0 then none else some (.int k (wrapA k (a.tdiv b)))
  | .rem => bif eqI b 0 then none else some (.int k (a.tmod b))
  | .eql => some (.bool (eqI a b))
  | .neq => some (.bool (!eqI a b))
  | .lss => some (.bool (ltA a b))
  | .leq => some (.bool (!ltA b a))
  | .gtr => some (.bool (ltA b a))
  | .geq => some (.bool (!ltA a b))
  | .shl | .shr => none
  | op => (bitsA op k a b).map (.int k)

def shiftA (op : BinOp) (k : IntKind) (x y : Int) : Option AV :=
  match y with
  | .negSucc _ => none
  | .ofNat m =>
    let n := min m k.bits
    match op with
    | .shl => some (.int k (wrapA k (x * ((2 ^ n : Nat) : Int))))
    | .shr => some (.int k (x.fdiv ((2 ^ n : Nat) : Int)))
    | _ => none

def strA (op : BinOp) (n b m c : Nat) : Option AV :=
  match op with
  | .add => bif Nat.ble (n + m) 9223372036854775807 then some (.str (n + m) (strJoin n b m c)) else none
  | .eql => some (.bool (strEq n b m c))
  | .neq => some (.bool (!strEq n b m c))
  | .lss => some (.bool (ltL (bytesL b n) (bytesL c m)))
  | .leq => some (.bool (ltL (bytesL b n) (bytesL c m) || strEq n b m c))
  | .gtr => some (.bool (!(ltL (bytesL b n) (bytesL c m) || strEq n b m c)))
  | .geq => some (.bool (!ltL (bytesL b n) (bytesL c m)))
  | _ => none

/-! ### Parts of structs and arrays -/
/-- some (some n): an aggregate of n cells; some none: one cell -/
def aggN (P : Program) (t : TypeId) : Option (Option Nat) :=
  match P.info? t, P.underlying t with
  | some i, some d => some (match d with | .struct _ | .array _ _ => some i.size | _ => none)
  | _, _ => none

def szOf (P : Program) (t : TypeId) : Option Nat := (P.info? t).map (·.size)

def partA (P : Program) (t : TypeId) (l : List AV) (off : Nat) : Option AV :=
  match aggN P t with
  | some (some n) => some (.agg ((l.drop off).take n))
  | some none => l[off]?
  | none => none

theorem run_szOf {P : Program} {t : TypeId} {n : Nat} (h : szOf P t = some n) (w : World) : (sizeOf t).run P w = .ok n w := by
  unfold szOf at h
  cases hi : P.info? t with
  | none => rw [hi] at h; simp at h
  | some i => rw [hi] at h; simp at h; rw [run_sizeOf w hi]; simp [Program.cellsOf, hi, h]

theorem run_isAgg_of {P : Program} {t : TypeId} {d : TypeDesc} (h : P.underlying t = some d) (w : World) :
    (isAgg t).run P w = .ok (match d with | .struct _ | .array _ _ => true | _ => false) w := by
  simp only [isAgg, Sem.run_bind, run_underlying h, Result.andThen_ok]
  cases d <;> rfl

theorem aggN_some {P : Program} {t : TypeId} {r : Option Nat} (h : aggN P t = some r) (w : World) :
    (isAgg t).run P w = .ok r.isSome w ∧ ∀ n, r = some n → (sizeOf t).run P w = .ok n w := by
  unfold aggN at h
  cases hi : P.info? t with
  | none => rw [hi] at h; simp at h
  | some i =>
    cases hu : P.underlying t with
    | none => rw [hi, hu] at h; simp at h
    | some d =>
      rw [hi, hu] at h
      simp only [Option.some.injEq] at h
      refine ⟨?_, fun n hn => ?_⟩
      · rw [run_isAgg_of hu]; cases d <;> simp at h <;> subst h <;> rfl
      · rw [run_sizeOf w hi]
        cases d <;> simp only [] at h <;> subst h <;> simp only [reduceCtorEq, Option.some.injEq] at hn <;> simp [Program.cellsOf, hi, hn]

theorem part_sound {P : Program} {ρ : Ren} {t : TypeId} {l : List AV} {cs : Array Value} {off : Nat} {x : AV} (h : partA P t l off = some x) (hv : VRs ρ l cs.toList) (w : World) :
    ∃ v, (part t cs off).run P w = .ok v w ∧ VR ρ x v := by
  unfold partA at h
  split at h
  · rename_i n hn
    obtain ⟨h1, h2⟩ := aggN_some hn w
    simp only [Option.some.injEq] at h; subst h
    refine ⟨.agg (cs.extract off (off + n)), ?_, ?_⟩
    · simp [part, h1, h2 n rfl]
    · refine .agg _ _ ?_
      rw [Array.toList_extract]
      have := (hv.drop off).take n
      simpa [List.extract] using this
  · rename_i hn
    obtain ⟨h1, _⟩ := aggN_some hn w
    obtain ⟨v, hv1, hv2⟩ := hv.get off x h
    refine ⟨v, ?_, hv2⟩
    have : cs[off]? = some v := by simpa using hv1
    simp [part, h1, this]
  · simp at h

/-! ### Constants -/
def constAt : Nat → Value → AV
  | 0, _ => .top
  | f + 1, v => match v with
    | .bool b => .bool b
    | .int k n => .int k n
    | .string s => .str s.data.toList.length (packL (s.data.toList.map UInt8.toNat))
    | .pointer none => .pnil
    | .slice none 0 0 => .snil
    | .map none => .mnil
    | .nilFunc => .fnil
    | .nilIface => .inil
    | .func fn a b => .func fn (a.toList.map (constAt f)) (b.toList.map (constAt f))
    | .iface t x => .iface t (constAt f x)
    | .agg a => .agg (a.toList.map (constAt f))
    | .tuple a => .tup (a.toList.map (constAt f))
    | _ => .top

theorem constAt_VR (ρ : Ren) : ∀ (f : Nat) (v : Value), VR ρ (constAt f v) v := by
  intro f
  induction f with
  | zero => intro v; exact .top v
  | succ f ih =>
    have all : ∀ l : List Value, VRs ρ (l.map (constAt f)) l := by
      intro l
      induction l with
      | nil => exact .nil
      | cons a l ihl => exact .cons (ih a) ihl
    intro v
    unfold constAt
    split
    · exact .bool _
    · exact .int _ _
    · rename_i s
      refine .str _ _ _ ?_
      have := bytesL_pack (s.data.toList.map UInt8.toNat) (by intro x hx; simp only [List.mem_map] at hx; obtain ⟨a, _, rfl⟩ := hx; exact a.toNat_lt)
      rw [List.length_map] at this
      exact this
    · exact .pnil
    · exact .snil
    · exact .mnil
    · exact .fnil
    · exact .inil
    · exact .func _ _ _ _ _ (all _) (all _)
    · exact .iface _ _ _ (ih _)
    · exact .agg _ _ (all _)
    · exact .tup _ _ (all _)
    · exact .top _

def constA (v : Value) : AV := constAt 8 v
theorem constA_VR (ρ : Ren) (v : Value) : VR ρ (constA v) v := constAt_VR ρ 8 v

/-! ### Equality -/
/-- nothing is read: pointers into one block, nil, plain values, and structs and arrays of these -/
def eqA (P : Program) : Nat → TypeId → AV → AV → Option Bool
  | 0, _, _, _ => none
  | d + 1, t, x, y =>
    match P.underlying t, x, y with
    | some .bool, .bool a, .bool b => some (a == b)
    | some (.int _), .int k a, .int k' b => bif kindEq k k' then some (eqI a b) else none
    | some .string, .str n b, .str m c => some (strEq n b m c)
    | some (.pointer _), .pnil, .pnil => some true
    | some (.pointer _), .pnil, .ptr _ _ => some false
    | some (.pointer _), .ptr _ _, .pnil => some false
    | some (.pointer e), .ptr i o, .ptr j p => match szOf P e with
      | some (_ + 1) => bif Nat.beq i j then some (Nat.beq o p) else none
      | _ => none
    | some (.interface _), .inil, .inil => some true
    | some (.interface _), .inil, .iface _ _ => some false
    | some (.interface _), .iface _ _, .inil => some false
    | some (.slice _), .snil, .snil => some true
    | some (.slice _), .snil, .slice .. => some false
    | some (.slice _), .slice .., .snil => some false
    | some (.map _ _), .mnil, .mnil => some true
    | some (.map _ _), .mnil, .map _ => some false
    | some (.map _ _), .map _, .mnil => some false
    | some (.func ..), .fnil, .fnil => some true
    | some (.func ..), .fnil, .func .. => some false
    | some (.func ..), .func .., .fnil => some false
    | some (.array n e), .agg xs, .agg ys => match szOf P e with
      | some s => (List.range n).foldr (fun i rest => match partA P e xs (i * s), partA P e ys (i * s) with
        | some a, some b => match eqA P d e a b with
          | some true => rest
          | some false => some false
          | none => none
        | _, _ => none) (some true)
      | none => none
    | some (.struct fs), .agg xs, .agg ys => bif P.stoodInHeld t then none else
      fs.toList.foldr (fun f rest => bif f.name == "_" then rest else match partA P f.type xs f.offset, partA P f.type ys f.offset with
        | some a, some b => match eqA P d f.type a b with
          | some true => rest
          | some false => some false
          | none => none
        | _, _ => none) (some true)
    | _, _, _ => none

theorem run_sameAddr_block {P : Program} {w : World} {a b : Addr} (h : a.block = b.block) : (sameAddr a b).run P w = .ok (a == b) w := by
  simp [sameAddr, h]

theorem eqA_sound {P : Program} {ρ : Ren} (w : World) : ∀ (d : Nat) (t : TypeId) (x y : AV) (r : Bool), eqA P d t x y = some r →
    ∀ (D : Nat) (u v : Value), VR ρ x u → VR ρ y v → (Op.equalIn (D + d) t u v).run P w = .ok r w := by
  intro d
  induction d with
  | zero => intro t x y r h; simp [eqA] at h
  | succ d ih =>
    intro t x y r h D u v hu hv
    rw [show D + (d + 1) = (D + d) + 1 by omega]
    unfold eqA at h
    split at h
    · rename_i a b ht; cases hu; cases hv; simp only [Option.some.injEq] at h; subst h; exact run_equalIn_bool w _ t _ _ ht
    · rename_i k0 k a k' b ht
      cases hu; cases hv
      cases hk : kindEq k k' with
      | false => rw [hk] at h; simp at h
      | true =>
        rw [hk] at h; simp only [cond_true, Option.some.injEq] at h; subst h
        simp only [kindEq, decide_eq_true_eq] at hk; subst hk
        rw [eqI_eq]; exact run_equalIn_int w _ t _ _ _ _ ht
    · rename_i n b m c ht
      cases hu with | str _ _ s hs => cases hv with | str _ _ s' hs' =>
      simp only [Option.some.injEq] at h; subst h
      rw [run_equalIn_string w _ t s s' ht, ByteArray.toList_eq, ByteArray.toList_eq]
      congr 1
      rw [Bool.eq_iff_iff, strEq_iff, beq_iff_eq, ← hs, ← hs']
      exact ⟨fun e => by rw [e], map_toNat_inj⟩
    · rename_i e ht; cases hu; cases hv; cases h; simp [Op.equalIn, run_underlying ht]
    · rename_i e _ _ ht; cases hu; cases hv; cases h; simp [Op.equalIn, run_underlying ht]
    · rename_i e _ _ ht; cases hu; cases hv; cases h; simp [Op.equalIn, run_underlying ht]
    · rename_i e i o j p ht
      split at h
      · rename_i s hs
        cases hu with | ptr _ _ L hL => cases hv with | ptr _ _ M hM =>
        cases hb : Nat.beq i j with
        | false => rw [hb] at h; simp at h
        | true =>
          rw [hb] at h; simp only [cond_true, Option.some.injEq] at h; subst h
          obtain rfl := beq_iff.1 hb
          rw [hL] at hM; cases hM
          have hblk : (L.at o).block = (L.at p).block := rfl
          simp only [Op.equalIn, Sem.run_bind, run_underlying ht, Result.andThen_ok, run_szOf hs]
          simp only [ne_eq, Nat.add_eq_zero_iff, Nat.succ_ne_self, and_false, not_false_eq_true, if_true, Sem.run_ite]
          rw [run_sameAddr_block hblk, if_pos (Nat.succ_ne_zero s)]
          congr 1
          rw [Bool.eq_iff_iff, beq_iff]
          simp [Loc.at]
      · simp at h
    · rename_i ms ht; cases hu; cases hv; cases h; simp [Op.equalIn, run_underlying ht]
    · rename_i ms _ _ ht; cases hu; cases hv; cases h; simp [Op.equalIn, run_underlying ht]
    · rename_i ms _ _ ht; cases hu; cases hv; cases h; simp [Op.equalIn, run_underlying ht]
    · rename_i e ht; cases hu; cases hv; cases h; simp [Op.equalIn, run_underlying ht]
    · rename_i e _ _ _ _ _ ht; cases hu; cases hv <;> cases h <;> simp [Op.equalIn, run_underlying ht]
    · rename_i e _ _ _ _ _ ht; cases hv; cases hu <;> cases h <;> simp [Op.equalIn, run_underlying ht]
    · rename_i ht; cases hu; cases hv; cases h; simp [Op.equalIn, run_underlying ht]
    · rename_i ht; cases hu; cases hv; cases h; simp [Op.equalIn, run_underlying ht]
    · rename_i ht; cases hu; cases hv; cases h; simp [Op.equalIn, run_underlying ht]
    · rename_i ht; cases hu; cases hv; cases h; simp [Op.equalIn, run_underlying ht]
    · rename_i ht; cases hu; cases hv; cases h; simp [Op.equalIn, run_underlying ht]
    · rename_i ht; cases hu; cases hv; cases h; simp [Op.equalIn, run_underlying ht]
    · rename_i n e xs ys ht
      cases hu with | agg _ ax hx => cases hv with | agg _ ay hy =>
      split at h
      · rename_i s hs
        obtain ⟨i, hi⟩ : ∃ i, P.info? e = some i := by
          unfold szOf at hs; cases hi : P.info? e with
          | none => rw [hi] at hs; simp at hs
          | some i => exact ⟨i, rfl⟩
        rw [run_equalIn_array w _ ax ay ht hi]
        have hsz : P.cellsOf e = s := by unfold szOf at hs; rw [hi] at hs; simp at hs; simp [Program.cellsOf, hi, hs]
        rw [hsz]
        clear hs hsz hi
        revert h
        generalize List.range n = is
        intro h
        induction is generalizing r with
        | nil => simp at h; subst h; simp [Op.eqItems]
        | cons j is ihl =>
          simp only [List.foldr_cons] at h
          split at h
          · rename_i a b ha hb
            obtain ⟨u, hu1, hu2⟩ := part_sound ha hx w
            obtain ⟨v, hv1, hv2⟩ := part_sound hb hy w
            simp only [Op.eqItems, Sem.run_bind, hu1, hv1, Result.andThen_ok]
            split at h
            · rename_i he
              rw [ih e a b true he D u v hu2 hv2]
              simp only [Result.andThen_ok, Bool.not_true, Bool.false_eq_true, if_false]
              exact ihl r h
            · rename_i he
              rw [ih e a b false he D u v hu2 hv2]
              simp at h; subst h
              simp
            · simp at h
          · simp at h
      · simp at h
    · rename_i fs xs ys ht
      cases hu with | agg _ ax hx => cases hv with | agg _ ay hy =>
      cases hp : P.stoodInHeld t with
      | true => rw [hp] at h; simp at h
      | false =>
        rw [hp] at h; simp only [cond_false] at h
        have hf : P.fieldsOf t = fs := by simp [Program.fieldsOf, ht]
        rw [run_equalIn_struct w _ t ax ay (by rw [hf]; exact ht) hp, hf]
        clear hf
        revert h
        generalize fs.toList = l
        intro h
        induction l generalizing r with
        | nil => simp at h; subst h; simp [Op.eqFields]
        | cons f l ihl =>
          simp only [List.foldr_cons] at h
          cases hn : (f.name == "_") with
          | true =>
            rw [hn] at h; simp only [cond_true] at h
            have : ¬ f.name ≠ "_" := by simpa using hn
            simp only [Op.eqFields, this, if_false]
            exact ihl r h
          | false =>
            rw [hn] at h; simp only [cond_false] at h
            have : f.name ≠ "_" := by simpa using hn
            simp only [Op.eqFields, this, if_true, ne_eq, not_false_eq_true]
            split at h
            · rename_i a b ha hb
              obtain ⟨u, hu1, hu2⟩ := part_sound ha hx w
              obtain ⟨v, hv1, hv2⟩ := part_sound hb hy w
              simp only [Sem.run_bind, hu1, hv1, Result.andThen_ok]
              split at h
              · rename_i he
                rw [ih f.type a b true he D u v hu2 hv2]
                simp only [Result.andThen_ok, Bool.not_true, Bool.false_eq_true, if_false]
                exact ihl r h
              · rename_i he
                rw [ih f.type a b false he D u v hu2 hv2]
                simp at h; subst h
                simp
              · simp at h
            · simp at h
    · simp at h

end
end Go.Ev
