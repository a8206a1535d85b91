/-
  Rows of bytes as numbers, one behind the other; a page's bytes out of its cells; when its keys rise.
-/
import Derived.Test.YtdmnkhcddbjglaaGreatSdn
import Derived.Test.YtdmnkhcddbjglaaGreatHNum
set_option linter.unusedVariables false
set_option linter.unusedSimpArgs false
namespace Go.Proofs.YtdmnkhcddbjglaaGreat
open Go Go.RowKit Go.Shelf Go.Ev
set_option maxRecDepth 100000

/-- the first n bytes of a number -/
def bl (n N : Nat) : List UInt8 := (List.range n).map fun k => UInt8.ofNat (byte N k)
theorem bl_length (n N : Nat) : (bl n N).length = n := by simp [bl]
theorem bl_page (N : Nat) : pageL N = bl 4080 N := rfl
theorem bl_le (n v : Nat) : le n v = bl n v := by
  unfold le bl
  refine List.map_congr_left fun k _ => ?_
  simp [leB, byte, Nat.shiftRight_eq_div_pow]
theorem bl_get (n N k : Nat) (h : k < (bl n N).length) : ((bl n N)[k]).toNat = byte N k := by
  have := byte_lt N k
  simp [bl]
  omega
theorem byte_big {N n k : Nat} (h : N < 2 ^ (8 * n)) (hk : n ≤ k) : byte N k = 0 := by
  unfold byte
  rw [Nat.shiftRight_eq_div_pow, Nat.div_eq_of_lt (Nat.lt_of_lt_of_le h (Nat.pow_le_pow_right (by decide) (by omega)))]
theorem byte_cat {n N M k : Nat} (h : N < 2 ^ (8 * n)) : byte (N ||| M <<< (8 * n)) k = if k < n then byte N k else byte M (k - n) := by
  refine eq_of_testBit256 (byte_lt _ _) (by split <;> exact byte_lt _ _) fun i hi => ?_
  rw [byte_testBit _ _ _ hi, Nat.testBit_or, Nat.testBit_shiftLeft]
  split
  · rename_i hk
    rw [byte_testBit _ _ _ hi]
    have : ¬ 8 * n ≤ 8 * k + i := by omega
    simp [this]
  · rename_i hk
    rw [byte_testBit _ _ _ hi]
    have h1 : 8 * n ≤ 8 * k + i := by omega
    have h2 : N.testBit (8 * k + i) = false := Nat.testBit_lt_two_pow (Nat.lt_of_lt_of_le h (Nat.pow_le_pow_right (by decide) h1))
    have h3 : 8 * k + i - 8 * n = 8 * (k - n) + i := by omega
    simp [h1, h2, h3]

/-- a row of n bytes, as a number -/
structure Rep (n N : Nat) (l : List UInt8) : Prop where
  lt : N < 2 ^ (8 * n)
  eq : bl n N = l
theorem Rep.len {n N : Nat} {l : List UInt8} (h : Rep n N l) : l.length = n := by rw [← h.eq, bl_length]
theorem Rep.self {n N : Nat} (h : N < 2 ^ (8 * n)) : Rep n N (bl n N) := ⟨h, rfl⟩
theorem Rep.cat {n N m M : Nat} {l k : List UInt8} (h : Rep n N l) (g : Rep m M k) : Rep (n + m) (N ||| M <<< (8 * n)) (l ++ k) := by
  constructor
  · refine Nat.or_lt_two_pow (Nat.lt_of_lt_of_le h.lt (Nat.pow_le_pow_right (by decide) (by omega))) ?_
    rw [Nat.shiftLeft_eq, Nat.mul_add, Nat.pow_add, Nat.mul_comm (2 ^ (8 * n))]
    exact Nat.mul_lt_mul_of_pos_right g.lt (Nat.two_pow_pos _)
  · rw [← h.eq, ← g.eq]
    unfold bl
    rw [List.range_add, List.map_append, List.map_map]
    congr 1
    · refine List.map_congr_left fun k hk => ?_
      rw [byte_cat h.lt, if_pos (List.mem_range.1 hk)]
    · refine List.map_congr_left fun k _ => ?_
      show UInt8.ofNat (byte _ (n + k)) = _
      rw [byte_cat h.lt, if_neg (by omega), Nat.add_sub_cancel_left]
theorem Rep.page {n N : Nat} {l : List UInt8} (h : Rep n N l) (hn : n ≤ 4080) : pageL N = l ++ List.replicate (4080 - n) 0 := by
  rw [bl_page, ← h.eq]
  unfold bl
  conv => lhs; rw [show 4080 = n + (4080 - n) by omega]
  rw [List.range_add, List.map_append, List.map_map]
  congr 1
  apply List.ext_getElem
  · simp
  · intro k h1 h2
    simp only [List.getElem_map, List.getElem_range, Function.comp, List.getElem_replicate]
    rw [byte_big h.lt (by omega)]
    rfl
theorem Rep.num {n v : Nat} (h : v < 2 ^ (8 * n)) : Rep n v (le n v) := ⟨h, (bl_le n v).symm⟩
theorem Rep.cast {n m N : Nat} {l k : List UInt8} (h : Rep n N l) (e : n = m) (e2 : l = k) : Rep m N k := by subst e; subst e2; exact h
theorem Rep.nil : Rep 0 0 [] := ⟨by decide, rfl⟩

/-- a cell: its key and its value, each a row of bytes as a number -/
structure NC where
  kn : Nat
  K : Nat
  vn : Nat
  V : Nat
structure NC.Ok (c : NC) : Prop where
  k0 : 1 ≤ c.kn
  k1 : c.kn ≤ 320
  v1 : c.vn ≤ 576
  k : c.K < 2 ^ (8 * c.kn)
  v : c.V < 2 ^ (8 * c.vn)
def NC.key (c : NC) : List UInt8 := bl c.kn c.K
def NC.val (c : NC) : List UInt8 := bl c.vn c.V
def NC.body (c : NC) : List UInt8 := le 2 c.kn ++ le 2 c.vn ++ c.key ++ c.val
def NC.sz (c : NC) : Nat := 4 + c.kn + c.vn
def bodyL (cs : List NC) : List UInt8 := cs.flatMap NC.body
def bodyS (cs : List NC) : Nat := (cs.map NC.sz).sum
def placesL : Nat → List NC → List UInt8
  | _, [] => []
  | p, c :: cs => le 2 p ++ placesL (p + c.sz) cs
def frontL (kind next n : Nat) : List UInt8 := le 2 kind ++ le 2 n ++ le 4 next
def pkL (kind next : Nat) (cs : List NC) : List UInt8 := frontL kind next cs.length ++ placesL (8 + 2 * cs.length) cs ++ bodyL cs
def pgL (kind next : Nat) (cs : List NC) : List UInt8 := pkL kind next cs ++ List.replicate (4080 - (8 + 2 * cs.length + bodyS cs)) 0

def bodyN : List NC → Nat
  | [] => 0
  | ⟨kn, K, vn, V⟩ :: cs => kn ||| vn <<< 16 ||| K <<< 32 ||| V <<< (8 * (4 + kn)) ||| bodyN cs <<< (8 * (4 + kn + vn))
def placesN : Nat → List NC → Nat
  | _, [] => 0
  | p, ⟨kn, _, vn, _⟩ :: cs => p ||| placesN (p + (4 + kn + vn)) cs <<< 16
def packN (kind next n : Nat) (cs : List NC) : Nat := kind ||| n <<< 16 ||| next <<< 32 ||| placesN (8 + 2 * n) cs <<< 64 ||| bodyN cs <<< (8 * (8 + 2 * n))

theorem body_len (c : NC) : c.body.length = c.sz := by simp [NC.body, le_len, NC.key, NC.val, bl_length, NC.sz]; omega
theorem bodyL_len : ∀ cs : List NC, (bodyL cs).length = bodyS cs
  | [] => rfl
  | c :: cs => by
    have := bodyL_len cs
    simp only [bodyL, List.flatMap_cons, List.length_append, bodyS, List.map_cons, List.sum_cons] at this ⊢
    rw [body_len, this]
theorem bodyN_rep : ∀ {cs : List NC}, (∀ c ∈ cs, c.Ok) → Rep (bodyS cs) (bodyN cs) (bodyL cs)
  | [], _ => Rep.nil
  | ⟨kn, K, vn, V⟩ :: cs, h => by
    have hc := h _ (List.mem_cons_self)
    have ih := bodyN_rep (fun c hx => h c (List.mem_cons_of_mem _ hx))
    have r1 : Rep 2 kn (le 2 kn) := Rep.num (by have := hc.k1; simp at this; omega)
    have r2 : Rep 2 vn (le 2 vn) := Rep.num (by have := hc.v1; simp at this; omega)
    have := (((r1.cat r2).cat (Rep.self hc.k)).cat (Rep.self hc.v)).cat ih
    exact this.cast (by simp [bodyS, NC.sz]) (by simp [bodyL, NC.body, NC.key, NC.val])
theorem placesN_rep : ∀ {cs : List NC} {p : Nat}, p + bodyS cs ≤ 60000 → Rep (2 * cs.length) (placesN p cs) (placesL p cs)
  | [], _, _ => Rep.nil
  | ⟨kn, K, vn, V⟩ :: cs, p, h => by
    have e : bodyS (⟨kn, K, vn, V⟩ :: cs) = (4 + kn + vn) + bodyS cs := by simp [bodyS, NC.sz]
    have ih := placesN_rep (cs := cs) (p := p + (4 + kn + vn)) (by omega)
    have r1 : Rep 2 p (le 2 p) := Rep.num (by omega)
    exact (r1.cat ih).cast (by simp; omega) rfl
theorem packN_rep {kind next : Nat} {cs : List NC} (hk : kind < 256) (hn : next < 4294967296) (h : ∀ c ∈ cs, c.Ok) (hs : 8 + 2 * cs.length + bodyS cs ≤ 4080) :
    Rep (8 + 2 * cs.length + bodyS cs) (packN kind next cs.length cs) (pkL kind next cs) := by
  have r1 : Rep 2 kind (le 2 kind) := Rep.num (by omega)
  have r2 : Rep 2 cs.length (le 2 cs.length) := Rep.num (by omega)
  have r3 : Rep 4 next (le 4 next) := Rep.num (by omega)
  have := (((r1.cat r2).cat r3).cat (placesN_rep (cs := cs) (p := 8 + 2 * cs.length) (by omega))).cat (bodyN_rep h)
  exact this.cast (by omega) (by simp [pkL, frontL])
theorem packN_page {kind next : Nat} {cs : List NC} (hk : kind < 256) (hn : next < 4294967296) (h : ∀ c ∈ cs, c.Ok) (hs : 8 + 2 * cs.length + bodyS cs ≤ 4080) :
    pageL (packN kind next cs.length cs) = pgL kind next cs := (packN_rep hk hn h hs).page hs

/-- does the first row of bytes stand ahead of the second one? -/
def ltK : Nat → Nat → Nat → Nat → Nat → Bool
  | 0, _, _, _, _ => false
  | f + 1, n, N, m, M => bif Nat.beq m 0 then false else bif Nat.beq n 0 then true else
    bif Nat.beq (N % 256) (M % 256) then ltK f (n - 1) (N >>> 8) (m - 1) (M >>> 8) else Nat.blt (N % 256) (M % 256)
theorem bl_succ (n N : Nat) : bl (n + 1) N = UInt8.ofNat (N % 256) :: bl n (N >>> 8) := by
  unfold bl
  rw [List.range_succ_eq_map, List.map_cons, List.map_map]
  congr 1
  refine List.map_congr_left fun k _ => ?_
  show UInt8.ofNat (byte N (k + 1)) = _
  rw [byte_succ]
theorem ltK_cmp : ∀ {f n N m M : Nat}, ltK f n N m M = true → Lib.compareBytes (bl n N) (bl m M) = -1
  | 0, _, _, _, _, h => by simp [ltK] at h
  | f + 1, n, N, m, M, h => by
    unfold ltK at h
    by_cases hm : m = 0
    · subst hm; simp at h
    · have hm' : Nat.beq m 0 = false := Bool.eq_false_iff.2 fun e => hm (Nat.eq_of_beq_eq_true e)
      rw [hm', cond_false] at h
      obtain ⟨m, rfl⟩ : ∃ k, m = k + 1 := ⟨m - 1, by omega⟩
      by_cases hn : n = 0
      · subst hn
        rw [bl_succ]
        rfl
      · have hn' : Nat.beq n 0 = false := Bool.eq_false_iff.2 fun e => hn (Nat.eq_of_beq_eq_true e)
        rw [hn', cond_false] at h
        obtain ⟨n, rfl⟩ : ∃ k, n = k + 1 := ⟨n - 1, by omega⟩
        rw [bl_succ, bl_succ]
        have e1 : (UInt8.ofNat (N % 256)).toNat = N % 256 := by simp
        have e2 : (UInt8.ofNat (M % 256)).toNat = M % 256 := by simp
        unfold Lib.compareBytes
        have l1 : (UInt8.ofNat (N % 256) < UInt8.ofNat (M % 256)) ↔ N % 256 < M % 256 := by rw [UInt8.lt_iff_toNat_lt, e1, e2]
        have l2 : (UInt8.ofNat (M % 256) < UInt8.ofNat (N % 256)) ↔ M % 256 < N % 256 := by rw [UInt8.lt_iff_toNat_lt, e1, e2]
        by_cases hx : N % 256 = M % 256
        · rw [hx, Nat.beq_refl, cond_true] at h
          rw [if_neg (by rw [l1]; omega), if_neg (by rw [l2]; omega)]
          simpa using ltK_cmp h
        · have hx' : Nat.beq (N % 256) (M % 256) = false := Bool.eq_false_iff.2 fun e => hx (Nat.eq_of_beq_eq_true e)
          rw [hx', cond_false] at h
          rw [if_pos (l1.2 (blt_iff.1 h))]
/-- the keys rise -/
def risesN : List NC → Bool
  | [] => true
  | [_] => true
  | ⟨n, N, _, _⟩ :: ⟨m, M, v, V⟩ :: cs => bif ltK 400 n N m M then risesN (⟨m, M, v, V⟩ :: cs) else false
def Rises (cs : List NC) : Prop := ∀ i (h : i + 1 < cs.length), Lib.compareBytes cs[i].key cs[i + 1].key = -1
theorem rises_ok : ∀ {cs : List NC}, risesN cs = true → Rises cs
  | [], _ => fun i h => by simp at h
  | [_], _ => fun i h => by simp at h
  | ⟨n, N, x, X⟩ :: ⟨m, M, v, V⟩ :: cs, h => by
    unfold risesN at h
    cases hl : ltK 400 n N m M with
    | false => rw [hl] at h; cases h
    | true =>
      rw [hl, cond_true] at h
      have ih := rises_ok h
      intro i hi
      cases i with
      | zero => exact ltK_cmp hl
      | succ i => exact ih i (by simpa using hi)
end Go.Proofs.YtdmnkhcddbjglaaGreat
