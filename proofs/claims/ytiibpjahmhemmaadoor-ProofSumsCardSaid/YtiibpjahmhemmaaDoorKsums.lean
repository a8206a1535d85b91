/-
  '==' at [32]byte, of a value with itself.
  The law ProofSums.
-/
import Derived.Test.YtiibpjahmhemmaaDoorKmac
import Derived.Laws.StructEq
import Derived.Test.YtiibpjahmhemmaaDoorKrmac
import Derived.Test.YtiibpjahmhemmaaDoorKawake
import Derived.Test.YtiibpjahmhemmaaDoorKkept
namespace Go.Proofs.YtiibpjahmhemmaaDoor
open Go Go.RowKit

theorem part5 (V : Array Value) (i : Nat) (v : Value) (w : World) (h : V[i]? = some v) : (Go.part 5 V i).run Tryd.prog w = .ok v w := by
  have hA : (isAgg 5).run Tryd.prog w = .ok false w := by
    simp [isAgg, run_underlying Tryd.underlying5]
  simp [Go.part, hA, h]
theorem eql5 (d : Nat) (z : Int) (w : World) : (Op.equalIn (d + 1) 5 (.int .u8 z) (.int .u8 z)).run Tryd.prog w = .ok true w := by
  simp [Op.equalIn, run_underlying Tryd.underlying5]
theorem eql24 (V : Array Value) (d : Nat) (w : World) (h : ∀ i, i < 32 → ∃ z : Int, V[i]? = some (.int .u8 z)) : (Op.equalIn (d + 2) 24 (.agg V) (.agg V)).run Tryd.prog w = .ok true w := by
  have hS : (sizeOf 5).run Tryd.prog w = .ok 1 w := by
    obtain ⟨i0, hi, hz0, hz1, hz2⟩ := info_parts Tryd.info5
    simp [sizeOf, typeInfo, hi, hz1]
  have key : ∀ (l : List Nat) (w : World), (∀ i ∈ l, i < 32) → (forIn (m := Sem) l ((none, ()) : Option Bool × Unit) (fun i _ => do
      let a ← Go.part 5 V (i * 1)
      let b ← Go.part 5 V (i * 1)
      let r ← Op.equalIn (d + 1) 5 a b
      if (!r) = true then pure (.done (some false, ())) else pure (.yield (none, ())))).run Tryd.prog w = .ok (none, ()) w := by
    intro l
    induction l with
    | nil => intro w _; simp
    | cons i l ih =>
      intro w hl
      obtain ⟨z, hz⟩ := h i (hl i (by simp))
      simp only [List.forIn_cons, Sem.run_bind, Nat.mul_one, part5 V i _ _ hz, Result.andThen_ok, eql5]
      simp only [Bool.not_true, Bool.false_eq_true, if_false, Sem.run_pure, Result.andThen_ok]
      have := ih w (fun j hj => hl j (by simp [hj]))
      simpa only [Nat.mul_one] using this
  unfold Op.equalIn
  simp only [Sem.run_bind, run_underlying Tryd.underlying24, Result.andThen_ok, hS]
  rw [Std.Legacy.Range.forIn_eq_forIn_range']
  rw [key _ w (fun i hi => by simp [Std.Legacy.Range.size] at hi; omega)]
  rfl

theorem shaV_eql (K : Nat → Nat) (l : List UInt8) (w : World) : (binOp .eql 24 (.agg (shaV K l)) (.agg (shaV K l))).run Tryd.prog w = .ok (.bool true) w := by
  have h : ∀ i, i < 32 → ∃ z : Int, (shaV K l)[i]? = some (.int .u8 z) := fun i hi => by
    have e : i < (shaB K l).length := by rw [shaB_len]; exact hi
    exact ⟨((shaB K l)[i].toNat : Int), by simp [shaV, e, u8V]⟩
  simp only [binOp, Op.equal, Sem.run_bind]
  rw [show Op.maxDepth = (Op.maxDepth - 2) + 2 from rfl, eql24 _ _ _ h]
  rfl
theorem guard24 (x y : Operand) (V U : Array Value) (w : World) : (eqGuard .eql 24 x y (.agg V) (.agg U)).run Tryd.prog w = .ok () w := run_eqGuard_agg w _ _ _ _ _ _ (by kernel_rfl)
end Go.Proofs.YtiibpjahmhemmaaDoor

namespace Go.Proofs.YtiibpjahmhemmaaDoor
open Go Go.RowKit Go.Ev

theorem lent_n (A : Option Addr) (c n : Nat) (l : List UInt8) (w : World) (hn : l.length = n) (hr : Rd w w.heap.size A l) (hl : l.length ≤ 1099511627700) :
    Calls Tryd.prog 7 #[.slice A n c] w fun e w' => ∃ g cap, e = .returned (.slice (some ⟨g, 0, none⟩) n cap) ∧ n + 2 ≤ cap ∧ cap ≤ 9223372036854775807 ∧ Rd w' w'.heap.size (some ⟨g, 0, none⟩) (l ++ [77, 78]) ∧ Below w.heap.size w w' := by
  subst hn
  refine (lent_any A c l w hr hl).mono ?_
  rintro e w' ⟨⟨g, cap, h1, h2, h3, h4⟩, h5⟩
  exact ⟨g, cap, h1, h2, h3, h4, h5⟩
theorem cut_n (A : Option Addr) (c : Nat) (l : List UInt8) (w : World) (hr : Rd w w.heap.size A l) (hlc : l.length ≤ c) (hl : l.length ≤ 9223372036854775807) (hc : c ≤ 9223372036854775807) :
    Calls Tryd.prog 6 #[.slice A l.length c] w fun e w' => ∃ n c' m, e = .returned (.slice A n c') ∧ l.take 400 = m ∧ m.length = n ∧ n ≤ 400 ∧ n ≤ c' ∧ c' ≤ 9223372036854775807 ∧ Rd w w.heap.size A m ∧ w = w' := by
  refine (cut_any A c l w hr hlc hl hc).mono ?_
  rintro e w' ⟨⟨c', h1, h2, h3, h4⟩, h5⟩
  exact ⟨_, c', _, h1, rfl, rfl, by simp; omega, h2, h3, h4, h5⟩

theorem Rd.front {w : World} {B : Nat} {A : Option Addr} {l m : List UInt8} (h : Rd w B A (l ++ m)) : Rd w B A l := fun hne => by
  obtain ⟨b, o, e, hb, hc⟩ := h (by intro e; exact hne (List.append_eq_nil_iff.1 e).1)
  exact ⟨b, o, e, hb, fun k hk => by have := hc k (by simp; omega); rwa [List.getElem_append_left hk] at this⟩

theorem sum_V (V : Array Value) (A : Option Addr) (c : Nat) (l : List UInt8) (w : World) (hV : Hid (V = shaV rootK l)) (hT : Tab w rootK) (hr : Rd w w.heap.size A l) (hl : l.length ≤ 1000000) (hlc : l.length ≤ c) :
    Calls Tryd.prog 8 #[.slice A l.length c] w fun e w' => e = .returned (.agg V) ∧ Below w.heap.size w w' := by
  obtain rfl := hV.out
  exact sum_shaN rootK A _ c l w rfl hT hr hl hlc
theorem rsum_V (V : Array Value) (A : Option Addr) (c : Nat) (l : List UInt8) (w : World) (hV : Hid (V = shaV rootK l)) (hr : Rd w w.heap.size A l) (hl : l.length ≤ 1000000) (hlc : l.length ≤ c) :
    Calls Tryd.prog 9 #[.slice A l.length c] w fun e w' => e = .returned (.agg V) ∧ Below w.heap.size w w' := by
  obtain rfl := hV.out
  exact rsum_any A c l w hr hl hlc
theorem mac_V (V : Array Value) (A C : Option Addr) (c d : Nat) (key l : List UInt8) (w : World) (hV : Hid (V = macV rootK key l)) (hT : Tab w rootK) (hk : Rd w w.heap.size A key) (hr : Rd w w.heap.size C l) (hkl : key.length ≤ 100000) (hkc : key.length ≤ c) (hl : l.length ≤ 100000) :
    Calls Tryd.prog 10 #[.slice A key.length c, .slice C l.length d] w fun e w' => e = .returned (.agg V) ∧ Below w.heap.size w w' := by
  obtain rfl := hV.out
  exact mac_any rootK A C c d key l w hT hk hr hkl hkc hl
theorem rmac_V (V : Array Value) (A C : Option Addr) (c d : Nat) (key l : List UInt8) (w : World) (hV : Hid (V = macV rootK key l)) (hk : Rd w w.heap.size A key) (hr : Rd w w.heap.size C l) (hkl : key.length ≤ 100000) (hkc : key.length ≤ c) (hl : l.length ≤ 100000) :
    Calls Tryd.prog 11 #[.slice A key.length c, .slice C l.length d] w fun e w' => e = .returned (.agg V) ∧ Below w.heap.size w w' := by
  obtain rfl := hV.out
  exact rmac_any A C c d key l w hk hr hkl hkc hl
theorem vals (key l : List UInt8) : ∃ V U : Array Value, Hid (V = shaV rootK l) ∧ Hid (U = macV rootK key l) ∧ (∀ w, (binOp .eql 24 (.agg V) (.agg V)).run Tryd.prog w = .ok (.bool true) w) ∧ (∀ w, (binOp .eql 24 (.agg U) (.agg U)).run Tryd.prog w = .ok (.bool true) w) :=
  ⟨shaV rootK l, macV rootK key l, Lib.hid rfl, Lib.hid rfl, shaV_eql rootK l, by unfold macV; exact shaV_eql rootK _⟩

set_option maxHeartbeats 2000000 in
theorem sumslaw_any (A C : Option Addr) (c d : Nat) (key l : List UInt8) (w : World) (hT : Tab w rootK) (hk : Rd w w.heap.size A key) (hr : Rd w w.heap.size C l) (hkc : key.length ≤ c) (hlc : l.length ≤ d) (hkl : c ≤ 9223372036854775807) (hl : d ≤ 9223372036854775807) :
    Calls Tryd.prog 3 #[.slice A key.length c, .slice C l.length d] w fun e w' => e = .returned (.bool true) ∧ Below w.heap.size w w' := by
  go_enter Tryd.func3, Tryd.ntmps3
  go_upto_region 2 with (first
    | (go_at_call 6; (with_reducible refine (cut_n A c key _ hk hkc (by omega) hkl).mono ?_); rintro e w1 ⟨n1, c1, m1, rfl, _, hn1, hq1, hc1, hd1, hr1, rfl⟩)
    | (go_at_call 6; (with_reducible refine (cut_n C d l _ hr hlc (by omega) hl).mono ?_); rintro e w1 ⟨n2, c2, m2, rfl, _, hn2, hq2, hc2, hd2, hr2, rfl⟩))
  clear hk hr hkc hlc
  go_upto_region 3 with (first
    | (go_at_call 7; (with_reducible refine (lent_n A c1 n1 m1 _ hn1 hr1 (by omega)).mono ?_); rintro e w1 ⟨g1, p1, rfl, hp1, hx1, hl1, hb1⟩)
    | (go_at_call 7; (with_reducible refine (lent_n C c2 n2 m2 _ hn2 (hr2.belowS hb1) (by omega)).mono ?_); rintro e w2 ⟨g2, p2, rfl, hp2, hx2, hl2, hb2⟩))
  subst hn1
  subst hn2
  have hb0 := hb1.trans (hb2.mono hb1.size)
  have hT2 := hT.below hb0
  have hX := hl1.belowS hb2
  have hK := hr1.belowS hb0
  have hB := hr2.belowS hb0
  have hX' := hX.front
  have hY' := hl2.front
  obtain ⟨V, U, hV, hU, heq1, heq2⟩ := vals m1 m2
  have hgd := guard24
  have hkz : m1.length ≤ p1 := by omega
  have hyz : m2.length ≤ p2 := by omega
  clear hT hl1 hr1 hr2 hb1
  go_wp2_with (first
    | (go_at_call 8; (with_reducible refine (sum_V V _ _ m2 _ hV hT2 hY' (by omega) hyz).mono ?_); rintro e v1 ⟨rfl, hv1⟩)
    | (go_at_call 9; (with_reducible refine (rsum_V V C c2 m2 _ hV (hB.belowS hv1) (by omega) hc2).mono ?_); rintro e v2 ⟨rfl, hv2'⟩; have hv2 := hv1.trans (hv2'.mono hv1.size))
    | (go_at_call 10; (with_reducible refine (mac_V U _ _ _ _ m1 m2 _ hU (hT2.below hv2) (hX'.belowS hv2) (hY'.belowS hv2) (by omega) hkz (by omega)).mono ?_); rintro e v3 ⟨rfl, hv3'⟩; have hv3 := hv2.trans (hv3'.mono hv2.size))
    | (go_at_call 11; (with_reducible refine (rmac_V U A C c1 c2 m1 m2 _ hU (hK.belowS hv3) (hB.belowS hv3) (by omega) hc1 (by omega)).mono ?_); rintro e v4 ⟨rfl, hv4'⟩; have hv4 := hv3.trans (hv4'.mono hv3.size))
    | (go_at_call 12; (with_reducible refine (kept_any g1 p1 A c1 m1 _ (hX.belowS hv4) hp1 hx1 (hK.belowS hv4) (by omega)).mono ?_); rintro e v5 ⟨rfl, hv5'⟩; have hv5 := hv4.trans (hv5'.mono hv4.size))
    | (go_at_call 12; (with_reducible refine (kept_any g2 p2 C c2 m2 _ (hl2.belowS hv5) hp2 hx2 (hB.belowS hv5) (by omega)).mono ?_); rintro e v6 ⟨rfl, hv6'⟩; have hv6 := hv5.trans (hv6'.mono hv5.size))
    | (go_at_call 13; (with_reducible refine (awake_any _ (hT2.below hv6)).mono ?_); rintro e v7 ⟨rfl, hv7'⟩; have hv7 := hv6.trans (hv7'.mono hv6.size)))
  go_ret
  exact ⟨rfl, hb0.trans (hv7.mono hb0.size)⟩
end Go.Proofs.YtiibpjahmhemmaaDoor
