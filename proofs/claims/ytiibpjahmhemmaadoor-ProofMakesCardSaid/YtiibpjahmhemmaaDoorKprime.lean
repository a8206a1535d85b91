/-
  chanceryref28.primes: what the call does.
-/
import Derived.Test.YtiibpjahmhemmaaDoorKawake
namespace Go.Proofs.YtiibpjahmhemmaaDoor
open Go Go.RowKit

abbrev u64V (x : Nat) : Value := .int .u64 (x : Int)
def Own64 (w : World) (base : Nat) (v : Value) (l : List Nat) : Prop := w.ownsRow base 29 1 v l.length (l.map u64V)
theorem Tryd.info29 : (Tryd.prog.info? 29).map (fun i => (i.zero, i.size, i.bytes)) = some (some (.int .u64 0), 1, 8) := by kernel_rfl
def pstep (l : List Nat) (x : Nat) : List Nat := if l.all (fun q => x % q != 0) then l ++ [x] else l
def primesTo : Nat → List Nat
  | 0 => []
  | k + 1 => pstep (primesTo k) (k + 2)
def primeL : List Nat := [2, 3, 5, 7, 11, 13, 17, 19, 23, 29, 31, 37, 41, 43, 47, 53, 59, 61, 67, 71, 73, 79, 83, 89, 97, 101, 103, 107, 109, 113, 127, 131, 137, 139, 149, 151, 157, 163, 167, 173, 179, 181, 191, 193, 197, 199, 211, 223, 227, 229, 233, 239, 241, 251, 257, 263, 269, 271, 277, 281, 283, 293, 307, 311]
theorem primes_310 : primesTo 310 = primeL := by kernel_rfl
theorem primes_309 : (primesTo 309).length = 63 := by kernel_rfl
theorem pstep_le (l : List Nat) (x : Nat) : l.length ≤ (pstep l x).length := by unfold pstep; split <;> simp
theorem primes_mono (k : Nat) : ∀ n, (primesTo k).length ≤ (primesTo (k + n)).length := by
  intro n
  induction n with
  | zero => exact Nat.le_refl _
  | succ n ih => exact Nat.le_trans ih (pstep_le _ _)
theorem primes_few (k : Nat) (h : k ≤ 309) : (primesTo k).length < 64 := by
  have := primes_mono k (309 - k)
  rw [show k + (309 - k) = 309 by omega, primes_309] at this
  omega
theorem primes_pos : ∀ k, ∀ q ∈ primesTo k, 2 ≤ q ∧ q ≤ k + 1 := by
  intro k
  induction k with
  | zero => intro q hq; cases hq
  | succ k ih =>
    intro q hq
    show _ ∧ _
    unfold primesTo pstep at hq
    split at hq
    · simp at hq
      rcases hq with h | rfl
      · have := ih q h; omega
      · omega
    · have := ih q hq; omega

section
variable {w w' : World} {B : Nat} {v : Value} {l : List Nat}
theorem Own64.nil (w : World) (base : Nat) : Own64 w base (.slice none 0 0) [] := World.ownsRow_nil _ _ _ _
theorem Own64.form (h : Own64 w B v l) : (v = .slice none 0 0 ∧ l = []) ∨ ∃ g cap, v = .slice (some ⟨g, 0, none⟩) l.length cap ∧ B ≤ g ∧ g < w.heap.size ∧ l.length ≤ cap ∧ cap ≤ maxLen ∧ ∀ k (hk : k < l.length), w.cell? ⟨g, k, none⟩ = some (u64V l[k]) := by
  rcases h.2 with ⟨h1, h2⟩ | ⟨g, cap, cur, h1, h2, h3, h4, h5, h6, h7⟩
  · exact .inl ⟨h1, List.eq_nil_of_length_eq_zero h2⟩
  · refine .inr ⟨g, cap, h1, h2, (Array.getElem?_eq_some_iff.1 h3).1, h4, h5, fun k hk => ?_⟩
    have e : (cur.toList.take (l.length * 1))[k]? = (l.map u64V)[k]? := by rw [h7]
    rw [List.getElem?_take, if_pos (by omega), List.getElem?_map, List.getElem?_eq_getElem hk] at e
    simp only [World.cell?, h3]
    simpa using e
theorem Own64.lt (h : Own64 w B v l) : ∀ k, v.ownBlock = some k → B ≤ k ∧ k < w.heap.size := by
  intro k hk
  rcases h.form with ⟨rfl, rfl⟩ | ⟨g, cap, rfl, h2, h3, _⟩
  · simp [Value.ownBlock] at hk
  · simp [Value.ownBlock] at hk; omega
theorem Own64.blocks (h : Own64 w B v l) (hb : ∀ k, v.ownBlock = some k → w'.heap[k]? = w.heap[k]?) : Own64 w' B v l := by
  refine ⟨h.1, ?_⟩
  rcases h.2 with e | ⟨g, cap, cur, h1, h2, h3, h4⟩
  · exact .inl e
  · exact .inr ⟨g, cap, cur, h1, h2, (hb g (by rw [h1]; rfl)).trans h3, h4⟩
theorem Own64.alloc (h : Own64 w B v l) (o : Obj) : Own64 (w.alloc o) B v l := h.blocks fun k hk => Below.heap_alloc w o k (h.lt k hk).2
end

set_option maxHeartbeats 2000000 in
theorem primes_any (w : World) : Calls Tryd.prog 23 #[.int .i64 64] w fun e w' => ∃ v, e = .returned v ∧ Own64 w' w.heap.size v primeL ∧ Below w.heap.size w w' := by
  obtain ⟨i0, hi, hz0, hz1, hz2⟩ := info_parts Tryd.info29
  go_enter Tryd.func23, Tryd.ntmps23
  go_wp2
  go_loopw [3, 4] (fun v x wr => ∃ (k : Nat) (A : Option Addr) (c : Nat), k ≤ 310 ∧ x = .int .u64 ((k : Int) + 2) ∧ v = .slice A (primesTo k).length c ∧ Own64 wr w.heap.size v (primesTo k) ∧ Below w.heap.size w wr) (fun _ x _ => 312 - (intOf x).toNat)
  case atStart => exact ⟨0, none, 0, by omega, rfl, rfl, Own64.nil _ _, Below.refl _ _⟩
  case round =>
    obtain ⟨k, A, c, hk, rfl, rfl, hown, hb⟩ := hrel
    have hz := hb.size
    by_cases hlt : k ≤ 309
    · have hfew := primes_few k hlt
      have hfi : ((primesTo k).length : Int) < 64 := by omega
      obtain ⟨L, hL⟩ : ∃ L, L = primesTo k := ⟨_, rfl⟩
      have hpos : ∀ q ∈ L, 2 ≤ q ∧ q ≤ k + 1 := by rw [hL]; exact primes_pos k
      rw [← hL] at hown hfew hfi
      rw [← hL]
      have HL := Lib.hid hL
      have HP := Lib.hid hpos
      clear hL hpos
      go_wp2
      go_loop [5, 6] (fun b i => ∃ n : Nat, n ≤ L.length ∧ i = .int .i64 n ∧ b = .bool ((L.take n).all fun q => (k + 2) % q != 0)) (fun _ i => L.length - (intOf i).toNat)
      case atStart => exact ⟨0, by omega, rfl, rfl⟩
      case round =>
        obtain ⟨n, hn, rfl, rfl⟩ := hrel
        by_cases hnl : n < L.length
        · rcases hown.form with ⟨_, h0⟩ | ⟨g, cap, hv, hg, hgl, hc1, hc2, hcell⟩
          · rw [h0] at hnl; simp at hnl
          injection hv with hA _ hcc
          subst hA
          have hcn := hcell n hnl
          have hq := HP.out L[n] (List.getElem_mem hnl)
          have hq2 : (2 : Int) ≤ (L[n] : Int) := by omega
          have hq0 : ((L[n] : Int) == 0) = false := by simp; omega
          have hall : (L.take (n + 1)).all (fun q => (k + 2) % q != 0) = ((L.take n).all (fun q => (k + 2) % q != 0) && ((k + 2) % L[n] != 0)) := by
            rw [List.take_succ_eq_append_getElem hnl, List.all_append]; simp only [List.all_cons, List.all_nil, Bool.and_true]
          have HALL := Lib.hid hall
          have hmod : (((k : Int) + 2) % (L[n] : Int) != 0) = ((k + 2) % L[n] != 0) := by
            rw [Bool.eq_iff_iff]
            simp only [bne_iff_ne, ne_eq]
            have : ((k : Int) + 2) % (L[n] : Int) = (((k + 2) % L[n] : Nat) : Int) := by simp
            rw [this]; omega
          clear hcell hall
          cases hbb : (L.take n).all (fun q => (k + 2) % q != 0) with
          | true =>
            go_wp2
            go_round
            case rel => exact ⟨n + 1, by omega, by go_num, by rw [HALL.out, hbb]; simp⟩
            case measure => simp [intOf]; omega
          | false =>
            go_wp2
            go_round
            case rel => exact ⟨n + 1, by omega, by go_num, by rw [HALL.out, hbb]; simp⟩
            case measure => simp [intOf]; omega
        · obtain rfl : n = L.length := by omega
          rw [List.take_length]
          cases hbb : L.all (fun q => (k + 2) % q != 0) with
          | true =>
            have hst : primesTo (k + 1) = L ++ [k + 2] := by show pstep (primesTo k) (k + 2) = _; rw [← HL.out]; unfold pstep; rw [if_pos hbb]
            have HST := Lib.hid hst
            clear hst
            go_wp2_with (at_builtin; go_loud (refine wpList_append_own _ rfl (.tmp 30) (.tmp 32) 41 rfl w.heap.size 29 i0 (.int .u64 0) 1 8 Tryd.underlying41 hi hz0 hz1 hz2 rfl (by decide) _ L.length (L.map u64V) rfl (hown.alloc _) ⟨wr.heap.size, 0, none⟩ 1 1 [.int .u64 ((k : Int) + 2)] rfl rfl ?c1 ?c2 ?c3 ?c4 ?c5 ?_))
            case c2 => first | rfl | simp [Value.oneCell'] | (intro u hu; simp at hu; subst hu; rfl)
            case c3 => unfold maxLen; omega
            case c4 => omega
            case c5 => first | omega | (simp; omega)
            intro v' w1 hown1 hgr _
            have ho1 : Own64 w1 w.heap.size v' (primesTo (k + 1)) := by
              unfold Own64
              rw [HST.out, List.length_append, List.map_append]
              exact hown1
            have hb1 : Below w.heap.size w w1 := (hb.alloc hz _).trans ⟨hgr.os, hgr.tape, hgr.output, hgr.size, fun q hq => hgr.block q (by simp; omega) (fun e => by have := (hown.lt q e.symm).1; omega)⟩
            have hv' : ∃ A' c', v' = .slice A' (primesTo (k + 1)).length c' := by
              rcases ho1.form with ⟨h1, h2⟩ | ⟨g, cap, h1, _⟩
              · rw [HST.out] at h2; simp at h2
              · exact ⟨_, _, h1⟩
            obtain ⟨A', c', rfl⟩ := hv'
            clear hown1 hgr hown
            go_wp2
            go_roundw
            case rel => exact ⟨k + 1, A', c', by omega, by go_num, rfl, ho1, hb1⟩
            case measure => simp [intOf]; omega
          | false =>
            have hst : primesTo (k + 1) = L := by show pstep (primesTo k) (k + 2) = _; rw [← HL.out]; unfold pstep; rw [hbb]; simp
            have HST := Lib.hid hst
            clear hst
            go_wp2
            go_roundw
            case rel => exact ⟨k + 1, A, c, by omega, by go_num, by rw [HST.out], by rw [HST.out]; exact hown, hb⟩
            case measure => simp [intOf]; omega
    · obtain rfl : k = 310 := by omega
      rw [primes_310] at hown
      rw [primes_310]
      go_wp2
      go_ret
      exact ⟨_, rfl, hown, hb⟩

end Go.Proofs.YtiibpjahmhemmaaDoor
