/-
  store.rightHead and chanceryref15.Right: what each call does.
  chanceryref15.Right: what the call does.
-/
import Derived.Test.YtecnddogdiikiaaGreatHSame
set_option linter.unusedVariables false
set_option linter.unusedSimpArgs false
namespace Go.Proofs.YtecnddogdiikiaaGreat
open Go Go.RowKit
set_option maxRecDepth 100000
set_option maxHeartbeats 1600000

/-- a head's numbers -/
structure Hd where
  lg : Int
  ep : Int
  fr : Int
  ct : Int
  nx : Int
  op : List Int
  dd : List Int

/-- a head that is right -/
structure OkH (h : Hd) : Prop where
  lg1 : 24 ≤ h.lg
  lg2 : h.lg ≤ 1024
  fr1 : 0 ≤ h.fr
  fr2 : h.fr < h.lg
  ep1 : 1 ≤ h.ep
  ep2 : h.ep ≤ 4294967295
  ct1 : 1 ≤ h.ct
  ct2 : h.ct ≤ 4294967295
  nx1 : 1 ≤ h.nx
  nx2 : h.nx ≤ 4611686018427387904
  op1 : h.op.length ≤ 16
  dd1 : h.dd.length ≤ 64
  op2 : rise h.nx 0 h.op = true
  dd2 : rise h.nx 0 h.dd = true
  apart : ∀ n ∈ h.op, n ∉ h.dd

open Classical in
noncomputable def okB (h : Hd) : Bool := decide (OkH h)
theorem okB_true {h : Hd} (o : OkH h) : okB h = true := by simp [okB, o]
theorem okB_false {h : Hd} (o : ¬ OkH h) : okB h = false := by simp [okB, o]

abbrev hdV (h : Hd) (A B : Option Addr) (n c m d : Nat) : Array Value := #[.int .i64 h.lg, .int .i64 h.ep, .int .i64 h.fr, .int .i64 h.ct, .int .i64 h.nx, .slice A n c, .slice B m d]

theorem not_take {x : Int} {l : List Int} {q : Nat} (h : x ∉ l.take q) (hq : q < l.length) (hx : ¬ x = l[q]) : x ∉ l.take (q + 1) := by
  rw [List.take_succ_eq_append_getElem hq]
  intro hm
  rcases List.mem_append.1 hm with hm | hm
  · exact h hm
  · exact hx (List.mem_singleton.1 hm)
theorem all_take {l d : List Int} {k : Nat} (h : ∀ x ∈ l.take k, x ∉ d) (hk : k < l.length) (hx : l[k] ∉ d) : ∀ x ∈ l.take (k + 1), x ∉ d := by
  rw [List.take_succ_eq_append_getElem hk]
  intro x hm
  rcases List.mem_append.1 hm with hm | hm
  · exact h x hm
  · rw [List.mem_singleton.1 hm]; exact hx

theorem right_any (h : Hd) (A B : Option Addr) (n c m d : Nat) (w : World) (hA : RdI w w.heap.size A h.op) (hB : RdI w w.heap.size B h.dd) (hn : n = h.op.length) (hm : m = h.dd.length)
    (hnl : n ≤ 140737488355328) (hml : m ≤ 140737488355328) :
    Calls Tryz.prog 124 #[.agg (hdV h A B n c m d)] w fun e w' => e = .returned (.bool (okB h)) ∧ Below w.heap.size w w' := by
  have HN := Lib.hid hn
  have HM := Lib.hid hm
  have hol : h.op.length ≤ 140737488355328 := by omega
  have hdl : h.dd.length ≤ 140737488355328 := by omega
  clear hn hm
  have leaf : ∀ (x : Bool) (w' : World), x = false → ¬ OkH h → Below w.heap.size w w' → Ending.returned (.bool x) = Ending.returned (.bool (okB h)) ∧ Below w.heap.size w w' := by
    intro x w' h1 h2 h3
    exact ⟨by rw [h1, okB_false h2], h3⟩
  go_enter Tryz.func124, Tryz.ntmps124
  have hb1 : Below w.heap.size w (w.alloc (.cells (hdV h A B n c m d) 28)) := (Below.refl _ _).alloc (Nat.le_refl _) _
  have hA1 := hA.belowS hb1
  have hB1 := hB.belowS hb1
  go_wp2_with (first
    | (go_at_call 186; with_reducible refine (below_any A c n h.nx h.op _ hA1 HN.out hol).mono ?_; rintro e w1 ⟨rfl, rfl⟩)
    | (go_at_call 186; with_reducible refine (below_any B d m h.nx h.dd _ hB1 HM.out hdl).mono ?_; rintro e w1 ⟨rfl, rfl⟩))
  all_goals try (go_ret; refine leaf _ _ rfl (fun o => ?_) hb1; have o1 := o.lg1; have o2 := o.lg2; have o3 := o.fr1; have o4 := o.fr2; have o5 := o.ep1; have o6 := o.ep2; have o7 := o.ct1; have o8 := o.ct2; have o9 := o.nx1; have o10 := o.nx2; have o11 := o.op1; have o12 := o.dd1; have o13 := o.op2; have o14 := o.dd2; have oN := HN.out; have oM := HM.out; first | omega | (simp_all; done) | (simp only [o13, o14, Bool.not_true, Bool.false_eq_true, or_false] at *; omega))
  have r1 : rise h.nx 0 h.op = true := by assumption
  have r2 : rise h.nx 0 h.dd = true := by simp_all
  have OK0 : (∀ x ∈ h.op, x ∉ h.dd) → OkH h := fun ha => by
    have oN := HN.out
    have oM := HM.out
    exact ⟨by omega, by omega, by omega, by omega, by omega, by omega, by omega, by omega, by omega, by omega, by omega, by omega, r1, r2, ha⟩
  have HOK := Lib.hid OK0
  clear OK0
  go_loopw [84] (fun i wr => ∃ k : Nat, k ≤ n ∧ i = .int .i64 k ∧ (∀ x ∈ h.op.take k, x ∉ h.dd) ∧ wr = w.alloc (.cells (hdV h A B n c m d) 28)) (fun i _ => n - (intOf i).toNat)
  case atStart => exact ⟨0, by omega, rfl, by simp, rfl⟩
  case round =>
    obtain ⟨k, hk, rfl, hap, rfl⟩ := hrel
    have HA := Lib.hid hap
    clear hap
    by_cases hlt : k < n
    · have hkl : k < h.op.length := by have := HN.out; omega
      obtain ⟨b, o, rfl, hbB, hc⟩ := hA1.at_ hkl
      go_wp2
      go_loopw [91] (fun i wr => ∃ q : Nat, q ≤ m ∧ i = .int .i64 q ∧ (h.op[k] ∉ h.dd.take q) ∧ wr = w.alloc (.cells (hdV h (some ⟨b, o, none⟩) B n c m d) 28)) (fun i _ => m - (intOf i).toNat)
      case atStart => exact ⟨0, by omega, rfl, by simp, rfl⟩
      case round =>
        obtain ⟨q, hq, rfl, hnq, rfl⟩ := hrel
        have HQ := Lib.hid hnq
        clear hnq
        by_cases hqm : q < m
        · have hql : q < h.dd.length := by have := HM.out; omega
          obtain ⟨b', o', rfl, hbB', hc'⟩ := hB1.at_ hql
          by_cases heq : h.op[k] = h.dd[q]
          · have hd : decide (h.op[k] = h.dd[q]) = true := by simp [heq]
            have hbad : ¬ OkH h := fun o => o.apart h.op[k] (List.getElem_mem _) (by rw [heq]; exact List.getElem_mem _)
            have HB := Lib.hid hbad
            clear hbad
            go_wp2
            go_ret
            exact leaf _ _ rfl HB.out hb1
          · have hd : decide (h.op[k] = h.dd[q]) = false := by simp [heq]
            have HE := Lib.hid heq
            have hne : (h.op[k] == h.dd[q]) = false := by simpa using heq
            go_wp2
            exact ⟨⟨q + 1, by omega, by go_num, not_take HQ.out hql HE.out, trivial⟩, by simp [intOf]; omega⟩
        · obtain rfl : q = m := by omega
          go_wp2
          go_roundw
          case rel => exact ⟨k + 1, by omega, by go_num, all_take HA.out hkl (by have := HQ.out; rwa [List.take_of_length_le (by have := HM.out; omega)] at this), trivial⟩
          case measure => simp [intOf] <;> omega
    · obtain rfl : k = n := by omega
      go_wp2
      go_ret
      exact ⟨by rw [okB_true (HOK.out (by have := HA.out; rwa [List.take_of_length_le (by have := HN.out; omega)] at this))]; rfl, hb1⟩
end Go.Proofs.YtecnddogdiikiaaGreat

namespace Go.Proofs.YtecnddogdiikiaaGreat
open Go Go.RowKit
set_option maxRecDepth 100000
set_option maxHeartbeats 1600000

theorem RdI.drewN {w : World} {B : Nat} {A : Option Addr} {l : List Int} (h : RdI w B A l) (q : Nat) : RdI (w.drewN q) B A l := h.keep fun _ _ => rfl

theorem refright_any (h : Hd) (A B : Option Addr) (n c m d : Nat) (w : World) (hA : RdI w w.heap.size A h.op) (hB : RdI w w.heap.size B h.dd) (hn : n = h.op.length) (hm : m = h.dd.length)
    (hnl : n ≤ 140737488355328) (hml : m ≤ 140737488355328) :
    Calls Tryz.prog 171 #[.agg (hdV h A B n c m d)] w fun e w' => e = .returned (.bool (okB h)) ∧ Below w.heap.size w w' := by
  have HN := Lib.hid hn
  have HM := Lib.hid hm
  have hol : h.op.length ≤ 140737488355328 := by omega
  have hdl : h.dd.length ≤ 140737488355328 := by omega
  clear hn hm
  have leaf : ∀ (x : Bool) (w' : World), x = false → ¬ OkH h → Below w.heap.size w w' → Ending.returned (.bool x) = Ending.returned (.bool (okB h)) ∧ Below w.heap.size w w' := by
    intro x w' h1 h2 h3
    exact ⟨by rw [h1, okB_false h2], h3⟩
  go_enter Tryz.func171, Tryz.ntmps171
  have hb1 : Below w.heap.size w (w.alloc (.cells (hdV h A B n c m d) 28)) := (Below.refl _ _).alloc (Nat.le_refl _) _
  have hA1 := hA.belowS hb1
  have hB1 := hB.belowS hb1
  go_wp2_with (first
    | (go_at_call 213; with_reducible refine (numbers_any A c n h.nx h.op _ hA1 HN.out hol).mono ?_; rintro e w1 ⟨rfl, q1, rfl⟩)
    | (go_at_call 213; with_reducible refine (numbers_any B d m h.nx h.dd _ (hB1.drewN _) HM.out hdl).mono ?_; rintro e w1 ⟨rfl, q2, rfl⟩))
  all_goals try (go_ret; refine leaf _ _ rfl (fun o => ?_) (by first | exact hb1 | exact hb1.trans (drewN_below _ _ _)); have o1 := o.lg1; have o2 := o.lg2; have o3 := o.fr1; have o4 := o.fr2; have o5 := o.ep1; have o6 := o.ep2; have o7 := o.ct1; have o8 := o.ct2; have o9 := o.nx1; have o10 := o.nx2; have o11 := o.op1; have o12 := o.dd1; have o13 := o.op2; have o14 := o.dd2; have oN := HN.out; have oM := HM.out; first | omega | (simp_all; done) | (simp only [o13, o14, Bool.not_true, Bool.false_eq_true, or_false] at *; omega))
  have r1 : rise h.nx 0 h.op = true := by assumption
  have r2 : rise h.nx 0 h.dd = true := by simp_all
  have OK0 : (∀ x ∈ h.op, x ∉ h.dd) → OkH h := fun ha => by
    have oN := HN.out
    have oM := HM.out
    exact ⟨by omega, by omega, by omega, by omega, by omega, by omega, by omega, by omega, by omega, by omega, by omega, by omega, r1, r2, ha⟩
  have HOK := Lib.hid OK0
  clear OK0
  go_loopw [3] (fun i wr => ∃ k : Nat, k ≤ n ∧ i = .int .i64 k ∧ (∀ x ∈ h.op.take k, x ∉ h.dd) ∧ ∃ z, wr = (w.alloc (.cells (hdV h A B n c m d) 28)).drewN z) (fun i _ => n - (intOf i).toNat)
  case atStart => exact ⟨0, by omega, rfl, by simp, _, rfl⟩
  case round =>
    obtain ⟨k, hk, rfl, hap, z, rfl⟩ := hrel
    have HA := Lib.hid hap
    clear hap
    by_cases hlt : k < n
    · have hkl : k < h.op.length := by have := HN.out; omega
      obtain ⟨b, o, rfl, hbB, hc⟩ := hA1.at_ hkl
      go_wp2
      go_loopw [4] (fun i wr => ∃ q : Nat, q ≤ m ∧ i = .int .i64 q ∧ (h.op[k] ∉ h.dd.take q) ∧ ∃ z, wr = (w.alloc (.cells (hdV h (some ⟨b, o, none⟩) B n c m d) 28)).drewN z) (fun i _ => m - (intOf i).toNat)
      case atStart => exact ⟨0, by omega, rfl, by simp, _, rfl⟩
      case round =>
        obtain ⟨q, hq, rfl, hnq, z2, rfl⟩ := hrel
        have HQ := Lib.hid hnq
        clear hnq
        by_cases hqm : q < m
        · have hql : q < h.dd.length := by have := HM.out; omega
          obtain ⟨b', o', rfl, hbB', hc'⟩ := hB1.at_ hql
          by_cases heq : h.op[k] = h.dd[q]
          · have hd : decide (h.op[k] = h.dd[q]) = true := by simp [heq]
            have hbad : ¬ OkH h := fun o => o.apart h.op[k] (List.getElem_mem _) (by rw [heq]; exact List.getElem_mem _)
            have HB := Lib.hid hbad
            clear hbad
            go_wp2
            go_quiet (fail)
            go_wp2
            go_ret
            exact leaf _ _ rfl HB.out (hb1.trans ((drewN_below _ _ _).trans (drewN_below _ _ _)))
          · have HE := Lib.hid heq
            have hne : (h.op[k] == h.dd[q]) = false := by simpa using heq
            go_wp2
            go_quiet (fail)
            go_wp2
            exact ⟨⟨q + 1, by omega, by go_num, not_take HQ.out hql HE.out, _, rfl⟩, by simp [intOf]; omega⟩
        · obtain rfl : q = m := by omega
          go_wp2
          go_roundw
          case rel => exact ⟨k + 1, by omega, by go_num, all_take HA.out hkl (by have := HQ.out; rwa [List.take_of_length_le (by have := HM.out; omega)] at this), _, rfl⟩
          case measure => simp [intOf] <;> omega
    · obtain rfl : k = n := by omega
      go_wp2
      go_ret
      exact ⟨by rw [okB_true (HOK.out (by have := HA.out; rwa [List.take_of_length_le (by have := HN.out; omega)] at this))]; rfl, hb1.trans (drewN_below _ _ _)⟩

end Go.Proofs.YtecnddogdiikiaaGreat

