/-
  chanceryref28.Sum: what the call does.
  chanceryref28.Sum: what the call does.
-/
import Derived.Test.YtiibpjahmhemmaaDoorZroots
import Derived.Test.YtiibpjahmhemmaaDoorZrsum3
import Derived.Test.YtiibpjahmhemmaaDoorKmac
import Derived.Test.YtiibpjahmhemmaaDoorZabc
namespace Go.Proofs.YtiibpjahmhemmaaDoor
open Go Go.RowKit Go.Ev

theorem mixS_congr (K h : Nat → Nat) (m m' : Nat) (e : wAll m = wAll m') : mixS K h m = mixS K h m' := by unfold mixS; rw [e]
theorem blk_hash (K h : Nat → Nat) (l : List UInt8) : ∀ k, 64 * k ≤ l.length → blk K h (packB l) k = hashN K h l k := by
  intro k
  induction k with
  | zero => intro _; rfl
  | succ k ih =>
    intro hk
    show mixS K (blk K h (packB l) k) (cutB (packB l) (64 * k) 64) = mixS K (hashN K h l k) (packB ((l.drop (64 * k)).take 64))
    rw [ih (by omega)]
    apply mixS_congr
    apply wAll_congr
    intro j hj
    rw [byte_cutB, if_pos hj, byte_packB l (64 * k + j) (by omega), byte_packB _ j (by simp; omega)]
    simp
theorem hashN_congr (K K' h : Nat → Nat) (l : List UInt8) (hK : ∀ h m, mixS K h m = mixS K' h m) : ∀ k, hashN K h l k = hashN K' h l k := by
  intro k
  induction k with
  | zero => rfl
  | succ k ih => show mixS K _ _ = mixS K' _ _; rw [ih, hK]

/-- the first i of n words, then zeros -/
def part (n : Nat) (f : Nat → Nat) (i : Nat) : Array Value := ((List.range n).map fun j => Value.int .u32 (if j < i then (f j : Int) else 0)).toArray
theorem part_set (n : Nat) (f : Nat → Nat) (i : Nat) : (part n f i).setIfInBounds i (.int .u32 (f i : Int)) = part n f (i + 1) := by
  unfold part
  rw [List.setIfInBounds_toArray]
  congr 1
  apply List.ext_getElem
  · simp
  · intro k h1 h2
    rw [List.getElem_set]
    simp only [List.getElem_map, List.getElem_range]
    by_cases e : i = k
    · subst e; rw [if_pos rfl, if_pos (by omega)]
    · rw [if_neg e]
      by_cases hk : k < i
      · rw [if_pos hk, if_pos (by omega)]
      · rw [if_neg hk, if_neg (by omega)]
theorem part_all (n : Nat) (f g : Nat → Nat) (h : ∀ i, i < n → f i = g i) : part n f n = (rowV n g).toArray := by
  unfold part rowV
  congr 1
  apply List.map_congr_left
  intro i hi
  have := List.mem_range.1 hi
  simp [this, h i this]
end Go.Proofs.YtiibpjahmhemmaaDoor

namespace Go.Proofs.YtiibpjahmhemmaaDoor
open Go Go.RowKit Go.Ev

/-- what the two loops keep -/
structure R9 (w wr : World) (n1 g : Nat) (i j : Nat) : Prop where
  hb : wr.heap[n1]? = some (.cells (part 8 sqN i) 39 (0, 0))
  kb : wr.heap[n1 + 1]? = some (.cells (part 64 cuN j) 43 (0, 0))
  rb : wr.heap[w.heap.size]? = some (.cells (Array.replicate 32 (.int .u8 0)) 24 (0, 0))
  pc : ∀ k, k < 64 → wr.cell? ⟨g, k, none⟩ = some (u64V (primeL.getD k 0))
  below : Below w.heap.size w wr
theorem R9.size {w wr : World} {n1 g i j : Nat} (h : R9 w wr n1 g i j) : n1 + 2 ≤ wr.heap.size := (Array.getElem?_eq_some_iff.1 h.kb).1
theorem cell_same {w w' : World} {g : Nat} (h : w'.heap[g]? = w.heap[g]?) (k : Nat) : w'.cell? ⟨g, k, none⟩ = w.cell? ⟨g, k, none⟩ := by simp only [World.cell?, h]
theorem R9.up {w wr w' : World} {n1 g i j : Nat} (h : R9 w wr n1 g i j) (hg : g < n1) (hw : w.heap.size < n1) (hb : Below wr.heap.size wr w') : R9 w w' n1 g i j := by
  have hz := h.size
  exact ⟨(hb.block _ (by omega)).trans h.hb, (hb.block _ (by omega)).trans h.kb, (hb.block _ (by omega)).trans h.rb, fun k hk => (cell_same (hb.block _ (by omega)) k).trans (h.pc k hk), h.below.trans (hb.mono (by omega))⟩
theorem R9.setH {w wr : World} {n1 g i j : Nat} (h : R9 w wr n1 g i j) (hg : g < n1) (hw : w.heap.size < n1) : R9 w (wr.setCell ⟨n1, i, none⟩ (.int .u32 (sqN i : Int))) n1 g (i + 1) j := by
  refine ⟨(set_blk h.hb i _).trans (by rw [part_set]), (Below.heap_setCell _ _ _ _ (by simp)).trans h.kb, (Below.heap_setCell _ _ _ _ (by simp; omega)).trans h.rb, fun k hk => (cell_same (Below.heap_setCell _ _ _ _ (by simp; omega)) k).trans (h.pc k hk), h.below.setCell (by simp; omega) _⟩
theorem R9.setK {w wr : World} {n1 g i j : Nat} (h : R9 w wr n1 g i j) (hg : g < n1) (hw : w.heap.size < n1) : R9 w (wr.setCell ⟨n1 + 1, j, none⟩ (.int .u32 (cuN j : Int))) n1 g i (j + 1) := by
  refine ⟨(Below.heap_setCell _ _ _ _ (by simp)).trans h.hb, (set_blk h.kb j _).trans (by rw [part_set]), (Below.heap_setCell _ _ _ _ (by simp; omega)).trans h.rb, fun k hk => (cell_same (Below.heap_setCell _ _ _ _ (by simp; omega)) k).trans (h.pc k hk), h.below.setCell (by simp; omega) _⟩
theorem part_get (n : Nat) (f : Nat → Nat) (i k : Nat) (h : k < n) : (part n f i)[k]? = some (.int .u32 (if k < i then (f k : Int) else 0)) := by simp [part, h]
theorem R9.hc {w wr : World} {n1 g i j : Nat} (h : R9 w wr n1 g i j) (hi : i < 8) : wr.cell? ⟨n1, i, none⟩ = some (.int .u32 0) ∧ wr.frozen? ⟨n1, i, none⟩ = false := by
  have hb := h.hb
  refine ⟨(cell_of_row wr n1 i _ 39 (0, 0) hb).trans (by rw [part_get 8 sqN i i hi]; simp), by simp [World.frozen?, hb]⟩
theorem R9.kc {w wr : World} {n1 g i j : Nat} (h : R9 w wr n1 g i j) (hj : j < 64) : wr.cell? ⟨n1 + 1, j, none⟩ = some (.int .u32 0) ∧ wr.frozen? ⟨n1 + 1, j, none⟩ = false := by
  have hb := h.kb
  refine ⟨(cell_of_row wr (n1 + 1) j _ 43 (0, 0) hb).trans (by rw [part_get 64 cuN j j hj]; simp), by simp [World.frozen?, hb]⟩
theorem prime_le (k : Nat) : primeL.getD k 0 ≤ 1000000 := by
  have : ∀ x ∈ primeL, x ≤ 1000000 := by decide
  rw [List.getD_eq_getElem?_getD]
  cases h : primeL[k]? with
  | none => simp
  | some x => exact this x (List.mem_of_getElem? h)

theorem pad_mult (l : List UInt8) : ∃ nb, (padL l).length = 64 * nb := by
  refine ⟨(padL l).length / 64, ?_⟩
  have h1 : (padL l).length = l.length + 1 + padZ l.length + 8 := by simp [padL, be64]; omega
  have h2 := padZ_fits l.length
  omega

set_option maxRecDepth 100000 in
set_option maxHeartbeats 2000000 in
theorem rsum_any (A : Option Addr) (c : Nat) (l : List UInt8) (w : World) (hr : Rd w w.heap.size A l) (hl : l.length ≤ 1000000) (hlc : l.length ≤ c) :
    Calls Tryd.prog 9 #[.slice A l.length c] w fun e w' => e = .returned (.agg (shaV rootK l)) ∧ Below w.heap.size w w' := by
  go_enter Tryd.func9, Tryd.ntmps9
  go_wp2_with (go_at_call 23; (with_reducible refine (primes_any _).mono ?_); rintro e w1 ⟨v, rfl, hp, hb1⟩)
  rcases hp.form with ⟨_, h0⟩ | ⟨g, cap, hv, hg1, hg2, hc1, hc2, hcell⟩
  · cases h0
  have e64 : primeL.length = 64 := by kernel_rfl
  rw [e64] at hv hc1
  subst hv
  clear e64
  have hw1 : w.heap.size < w1.heap.size := by have := hb1.size; simp at this; omega
  have hR0 : R9 w ((w1.alloc (.cells (part 8 sqN 0) 39)).alloc (.cells (part 64 cuN 0) 43)) w1.heap.size g 0 0 := by
    refine ⟨(Below.heap_alloc _ _ _ (by simp)).trans (heap_alloc_new _ _), ?_, (Below.heap_alloc _ _ _ (by simp; omega)).trans ((Below.heap_alloc _ _ _ hw1).trans ((hb1.block _ (by simp)).trans (heap_alloc_new _ _))), ?_, ?_⟩
    · rw [show w1.heap.size + 1 = (w1.alloc (.cells (part 8 sqN 0) 39)).heap.size by simp]; exact heap_alloc_new _ _
    · intro k hk
      have hk' : k < primeL.length := by rw [show primeL.length = 64 by kernel_rfl]; exact hk
      refine (cell_same ((Below.heap_alloc _ _ _ (by simp; omega)).trans (Below.heap_alloc _ _ _ hg2)) k).trans ((hcell k hk').trans ?_)
      simp [List.getD_eq_getElem?_getD, hk']
    · have h2 : Below w.heap.size w w1 := ((Below.refl _ _).alloc (Nat.le_refl _) _).trans (hb1.mono (by simp))
      exact (h2.alloc (by omega) _).alloc (by simp; omega) _
  clear hcell hp
  generalize hN1 : w1.heap.size = n1 at *
  go_loopw [6] (fun i wr => ∃ n : Nat, n ≤ 8 ∧ i = .int .i64 n ∧ R9 w wr n1 g n 0) (fun i _ => 8 - (intOf i).toNat)
  case atStart => exact ⟨0, by omega, rfl, hR0⟩
  case round =>
    obtain ⟨n, hn, rfl, hR⟩ := hrel
    by_cases h8 : n < 8
    · have h8i : (n : Int) < 8 := by omega
      have hz := hR.size
      obtain ⟨q, hq⟩ : ∃ q, primeL.getD n 0 = q := ⟨_, rfl⟩
      have cp : wr.cell? ⟨g, n, none⟩ = some (.int .u64 (q : Int)) := by rw [hR.pc n (by omega), hq]
      have hqs : rootN q false = sqN n := by rw [← hq]; rfl
      have hq1 : q ≤ 1000000 := by rw [← hq]; exact prime_le n
      have HQ := Lib.hid hqs
      clear hqs hq
      go_wp2_with (go_at_call 24; (with_reducible refine (root_sq q _ hq1).mono ?_); rintro e w2 ⟨rfl, hb2⟩; have hR2 := hR.up hg2 hw1 hb2; obtain ⟨hc2a, hc2b⟩ := hR2.hc h8)
      go_roundw
      case rel =>
        refine ⟨n + 1, by omega, by go_num, ?_⟩
        rw [HQ.out]
        exact hR2.setH hg2 hw1
      case measure => simp [intOf]; omega
    · have hR8 : R9 w wr n1 g 8 0 := by
        obtain rfl : n = 8 := by omega
        exact hR
      have h8i : ¬ (n : Int) < 8 := by omega
      clear hR
      go_wp2
      go_loopw [7] (fun i wr => ∃ n : Nat, n ≤ 64 ∧ i = .int .i64 n ∧ R9 w wr n1 g 8 n) (fun i _ => 64 - (intOf i).toNat)
      case atStart => exact ⟨0, by omega, rfl, hR8⟩
      case round =>
        obtain ⟨n, hn, rfl, hR⟩ := hrel
        by_cases h64 : n < 64
        · have h64i : (n : Int) < 64 := by omega
          have hz := hR.size
          obtain ⟨q, hq⟩ : ∃ q, primeL.getD n 0 = q := ⟨_, rfl⟩
          have cp : wr.cell? ⟨g, n, none⟩ = some (.int .u64 (q : Int)) := by rw [hR.pc n (by omega), hq]
          have hqs : rootN q true = cuN n := by rw [← hq]; rfl
          have hq1 : q ≤ 1000000 := by rw [← hq]; exact prime_le n
          have HQ := Lib.hid hqs
          clear hqs hq
          go_wp2_with (go_at_call 24; (with_reducible refine (root_cu q _ hq1).mono ?_); rintro e w2 ⟨rfl, hb2⟩; have hR2 := hR.up hg2 hw1 hb2; obtain ⟨hc2a, hc2b⟩ := hR2.kc h64)
          go_roundw
          case rel =>
            refine ⟨n + 1, by omega, by go_num, ?_⟩
            rw [HQ.out]
            exact hR2.setK hg2 hw1
          case measure => simp [intOf]; omega
        · have hR : R9 w wr n1 g 8 64 := by
            obtain rfl : n = 64 := by omega
            exact hR
          have h64i : ¬ (n : Int) < 64 := by omega
          have hz := hR.size
          have hbR := hR.below
          have hrd : Rd wr wr.heap.size A l := hr.belowS hbR
          have HR := Lib.hid hR
          clear hR
          go_upto_region 12 with fail
          go_cut [8] (fun v wx => ∃ g4 c4, v = .slice (some ⟨g4, 0, none⟩) (padL l).length c4 ∧ n1 + 2 ≤ g4 ∧ (padL l).length ≤ c4 ∧ c4 ≤ maxLen ∧ (∀ k (hk : k < (padL l).length), wx.cell? ⟨g4, k, none⟩ = some (u8V (padL l)[k])) ∧ R9 w wx n1 g 8 64)
          case first =>
            go_wp2_with (go_at_call 25; (with_reducible refine (padded_any A c l _ hrd hl).mono ?_); rintro e w3 ⟨v, rfl, hown, hb3⟩)
            go_meet
            rcases hown.form with ⟨_, h0⟩ | ⟨g4, c4, rfl, k1, k2, k3, k4, k5⟩
            · simp [padL] at h0
            · exact ⟨g4, c4, rfl, by omega, k3, k4, k5, HR.out.up hg2 hw1 hb3⟩
          case rest =>
            obtain ⟨g4, c4, rfl, hg4, hc4, hc5, hcl, hR⟩ := hcut
            apply ‹∀ (a : Act) (w : World), Code.wp Tryd.prog _ _ a w → _›
            refine Go.Ev.wp_code_eq (c' := Go.Ev.d9 7) ?_ (by kernel_rfl)
            obtain ⟨nb, hnb⟩ : ∃ nb, (padL l).length = 64 * nb := pad_mult l
            have hpos : 0 < nb := by
              have : 0 < (padL l).length := by rw [show (padL l).length = l.length + 1 + padZ l.length + 8 by simp [padL, be64]; omega]; omega
              omega
            have hmx : maxLen ≤ 9223372036854775807 := by decide
            refine Go.Ev.rsum_wp hIni rootK (padL l) nb c4 hnb hpos (by omega) (by omega) (g1 := w.heap.size) (g2 := n1) (g3 := n1 + 1) (g4 := g4) (o := 0) rfl rfl rfl rfl (by rw [← hnb]; rfl) hR.rb
              (by rw [← part_all 8 sqN hIni sq_all]; exact hR.hb) (by rw [← part_all 64 cuN rootK cu_all]; exact hR.kb) (fun k hk => by rw [Nat.zero_add]; exact hcl k hk) (by omega) (by omega) (by omega) (by omega) (by omega) (by omega) ?_
            intro a' w' hd hrun hbw
            have hz9 := hR.size
            refine bodyPost_ret hrun hd ⟨?_, hR.below.trans (hbw _ (Nat.le_refl _) (by omega) (by omega) (by omega))⟩
            rw [blk_hash _ _ _ nb (by omega), ← shaV_eq]
            unfold shaH
            rw [hnb, Nat.mul_div_cancel_left _ (by decide)]
end Go.Proofs.YtiibpjahmhemmaaDoor
