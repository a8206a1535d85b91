/-
  chancerylaw16.awake: every call returns true, and leaves all old memory as it was: a closed run, reckoned by the kernel.
  chancerylaw16.ReviveFormats: for all arguments the law returns true, and each argument reads as it did. No condition.
-/
import Derived.Test.YtecnddogdiikiaaGreatRmA
import Derived.Test.YtecnddogdiikiaaGreatRows
import Derived.Test.YtecnddogdiikiaaGreatR21
import Derived.Test.YtecnddogdiikiaaGreatR23
import Derived.ProofKit
import Derived.OpenShut
import Derived.SizedLaws
import Derived.Lib.SmallJoins
import Derived.Carry
set_option linter.unusedVariables false
set_option linter.unusedSimpArgs false
namespace Go.Proofs.YtecnddogdiikiaaGreat
open Go Go.RowKit Go.Ev
noncomputable section

def extA : ExtF := orE (moE 8796093022336 [xm0, xm1, xm2, xm4]) ext0
theorem extA_ok : ExtOk Tryz.prog 1 extA := orE_ok (moE_ok (by
  intro m hm
  simp only [List.mem_cons, List.not_mem_nil, or_false] at hm
  rcases hm with rfl | rfl | rfl | rfl
  · exact xm0_ok
  · exact xm1_ok
  · exact xm2_ok
  · exact xm4_ok)) ext0_ok

set_option maxRecDepth 100000 in
theorem awake_run : isTrue (callQ Tryz.prog mixed 1 extA hint 200 (.func 13) [] (St.init 1 14)) = true := by kernel_rfl

theorem awake_any (w : World) : Calls Tryz.prog 13 #[] w fun e w' => e = .returned (.bool true) ∧ Below w.heap.size w w' :=
  closed_callsQ (hmix := mixed) hint 1 14 200 13 extA_ok rfl #[] [] .nil (by kernel_rfl) awake_run w

end
end Go.Proofs.YtecnddogdiikiaaGreat

namespace Go.Proofs.YtecnddogdiikiaaGreat
open Go Go.ChangeShapes Go.WideShapes Go.ChangeAt Go.RowKit
set_option maxRecDepth 100000
set_option maxHeartbeats 1600000

theorem own : ownKnob Tryz.prog.godebug = none := by kernel_rfl
theorem laidOut : laidOutB Tryz.prog = true := by kernel_rfl
theorem cellsU8 : Tryz.prog.cellsOf 5 = 1 := by kernel_rfl
theorem bytesU8 : Tryz.prog.bytesOf 5 = 1 := by kernel_rfl

section
variable {H : Type} {enc : TypeId × Value → H} {P : Program} {w : World} {base : Nat} {spare : Nat → Bool} {held : Bool}
theorem trodAll_five {t t' t'' t3 t4 : TypeId} {args : Array Value} {ds : List (DataW H)} {ps : List MemPlace} (h : DataW.TrodAll enc P w base spare held [t, t', t'', t3, t4] args.toList ds ps) :
    ∃ v v' v'' v3 v4 d d' d'' d3 d4 p p' p'' p3 p4, args = #[v, v', v'', v3, v4] ∧ ds = [d, d', d'', d3, d4] ∧ ps = p ++ (p' ++ (p'' ++ (p3 ++ p4))) ∧ DataW.Trod enc P w base spare held t v d p ∧ DataW.Trod enc P w base spare held t' v' d' p' ∧ DataW.Trod enc P w base spare held t'' v'' d'' p'' ∧ DataW.Trod enc P w base spare held t3 v3 d3 p3 ∧ DataW.Trod enc P w base spare held t4 v4 d4 p4 := by
  obtain ⟨v, vs, d, ds1, p, q, hargs, rfl, rfl, hd, hrest⟩ := trodAll_cons h
  obtain ⟨v', vs1, d', ds2, p', q', rfl, rfl, rfl, hd', hrest'⟩ := trodAll_cons hrest
  obtain ⟨v'', vs2, d'', ds3, p'', q'', rfl, rfl, rfl, hd'', hrest''⟩ := trodAll_cons hrest'
  obtain ⟨v3, vs3, d3, ds4, p3, q3, rfl, rfl, rfl, hd3, hrest3⟩ := trodAll_cons hrest''
  obtain ⟨v4, vs4, d4, ds5, p4, q4, rfl, rfl, rfl, hd4, hrest4⟩ := trodAll_cons hrest3
  obtain ⟨rfl, rfl, rfl⟩ := trodAll_nil hrest4
  exact ⟨v, v', v'', v3, v4, d, d', d'', d3, d4, p, p', p'', p3, p4, by cases args; simp_all, rfl, by simp, hd, hd', hd'', hd3, hd4⟩
theorem trodAll_mk5 {t t' t'' t3 t4 : TypeId} {v v' v'' v3 v4 : Value} {d d' d'' d3 d4 : DataW H} {p p' p'' p3 p4 : List MemPlace} (h : DataW.Trod enc P w base spare held t v d p) (h' : DataW.Trod enc P w base spare held t' v' d' p')
    (h'' : DataW.Trod enc P w base spare held t'' v'' d'' p'') (h3 : DataW.Trod enc P w base spare held t3 v3 d3 p3) (h4 : DataW.Trod enc P w base spare held t4 v4 d4 p4) : DataW.TrodAll enc P w base spare held [t, t', t'', t3, t4] [v, v', v'', v3, v4] [d, d', d'', d3, d4] (p ++ (p' ++ (p'' ++ (p3 ++ p4)))) := ⟨p, p' ++ (p'' ++ (p3 ++ p4)), h, trodAll_mk4 h' h'' h3 h4, rfl⟩
end

section
variable {H : Type} {enc : TypeId × Value → H} {W : World}
theorem bytes_opened {fuel : Nat} {cs : List Value} {x : DataW H × List MemPlace} (hf : DataW.trod enc Tryz.prog W 0 (fun _ => true) true fuel 37 cs = some x) :
    ∃ (A : Option Addr) (len cap : Nat) (l : List UInt8), cs = [.slice A len cap] ∧ l.length = len ∧ Rd W W.heap.size A l ∧ ((len = 0 ∧ x.1 = .nil) ∨ ∃ el sp, x.1 = .slice el sp ∧ el.length = len) := by
  rcases open_ints Tryz.underlying37 Tryz.underlying5 cellsU8 hf with ⟨hcs, hx⟩ | ⟨a, len, cap, zs, hcs, _, hl, hm, hz, hx, hcell, hwz⟩
  · exact ⟨none, 0, 0, [], hcs, rfl, .nil _ _ _, .inl ⟨rfl, by rw [hx]⟩⟩
  · simp only [if_true] at hz
    refine ⟨some a, len, cap, (zs.take len).map fun z => UInt8.ofNat z.toNat, hcs, by simp; omega, fun hne => ?_, .inr ⟨_, _, by rw [hx], by simp [lits]; omega⟩⟩
    have hpos : 0 < len := by
      rcases Nat.eq_zero_or_pos len with h | h
      · subst h; simp at hne
      · exact h
    obtain ⟨b, o, s⟩ := a
    obtain rfl : s = none := by simpa [Addr.add] using World.cell?_spot (hcell 0 (by omega))
    have hc0 := hcell 0 (by omega)
    refine ⟨b, o, rfl, by have := block_lt_of_cell hc0; simpa [Addr.add] using this, fun k hk => ?_⟩
    have hk' : k < len := by simp at hk; omega
    have hck := hcell k (by omega)
    rw [Go.WideShapes.add_plain] at hck
    rw [hck]
    have hw := hwz zs[k] (List.getElem_mem (by omega))
    have hb : 0 ≤ zs[k] ∧ zs[k] ≤ 255 := by simpa [Lit.wf, IntKind.wrap, IntKind.signed, IntKind.bits, IntKind.min, IntKind.max] using hw
    simp [u8V, List.getD, show k < zs.length by omega, UInt8.toNat_ofNat']
    omega

theorem slice_weight {P : Program} {t e : TypeId} {el sp : List (DataW H)} (hu : P.underlying t = some (.slice e)) : (el.length + sp.length) * P.bytesOf e ∈ (DataW.slice el sp).weights P t := by
  simp [DataW.weights, hu]


theorem int_arg {v : Value} {d : DataW H} {p : List MemPlace} {base : Nat} (hv : Value.okWide Tryz.prog W .any base 3 v) (h : DataW.Trod enc Tryz.prog W 0 (fun _ => true) true 3 v d p) : ∃ z : Int, v = .int .i64 z ∧ -9223372036854775808 ≤ z ∧ z ≤ 9223372036854775807 := by
  obtain ⟨z, rfl⟩ := okWide_int Tryz.underlying3 hv
  obtain ⟨fuel, hf⟩ := h
  obtain ⟨z', h1, _, h3⟩ := DataW.trod_int Tryz.underlying3 hf
  simp only [Value.cells, List.cons.injEq, and_true] at h1
  have : z = z' := by simpa using h1
  subst this
  refine ⟨z, rfl, ?_⟩
  simpa [Lit.wf, IntKind.wrap, IntKind.signed, IntKind.bits, IntKind.min, IntKind.max] using h3

/-- an argument of bytes -/
theorem arg_opened {v : Value} {d : DataW H} {p : List MemPlace} (h : DataW.Trod enc Tryz.prog W 0 (fun _ => true) true 37 v d p) (hv : ∃ A len cap, v = .slice A len cap) (hs : ∀ n ∈ d.weights Tryz.prog 37, n ≤ reachBytes) :
    ∃ (A : Option Addr) (n c : Nat) (l : List UInt8), v = .slice A n c ∧ Rd W W.heap.size A l ∧ n = l.length ∧ l.length ≤ 140737488351232 := by
  obtain ⟨A0, n0, k0, rfl⟩ := hv
  obtain ⟨fuel, hf⟩ := h
  obtain ⟨A, n, c, l, e, hl, r, w⟩ := bytes_opened hf
  simp only [Value.cells, List.cons.injEq, and_true] at e
  refine ⟨A, n, c, l, e, r, hl.symm, ?_⟩
  rcases w with ⟨h, _⟩ | ⟨el, sp, h, hle⟩
  · omega
  · simp only [] at h
    have := hs _ (by rw [h]; exact slice_weight Tryz.underlying37)
    rw [bytesU8] at this
    have hr : reachBytes = 140737488351232 := by decide
    omega
end

set_option maxRecDepth 100000 in
theorem formats_lifted (os : Os) (started : os.Started) (H : Type) (enc : TypeId × Value → H) :
    ReturnsInHanded {} Tryz.checked os 4 .any (Rows.reviveFormatsSpec.pre6 enc Tryz.prog Tryz.f4 Rows.reviveFormatsRow.domain false) (Rows.reviveFormatsSpec.post enc Tryz.prog Tryz.f4 false true false false) := by
  refine returnsInHanded_of_change_sized (C := Tryz.checked) own started (by kernel_rfl) Tryz.func4
    (ChangeSpec.witness6 (enc := enc) (C := Tryz.checked) false ⟨#[], #[.int .i64 0, .int .i64 0, .slice none 0 0, .slice none 0 0, .int .i64 0], []⟩ 8 (by kernel_rfl) (by kernel_rfl) (by kernel_rfl) (by kernel_rfl)) ?_
  intro W base args ds gs before hval0 hW hcnd hsz _
  have hval : ∀ (j : Nat) t v, Tryz.f4.params[j]? = some t → args[j]? = some v → Value.okWide Tryz.prog W .any base t v := hval0
  have hW' := hW
  obtain ⟨p, q, hA0, hV, rfl, hfz, hnd⟩ := hW
  have hA : DataW.TrodAll enc Tryz.prog W 0 (fun _ => true) true Tryz.f4.params.toList args.toList ds p := hA0
  rw [Tryz.params4] at hA hval
  obtain ⟨v0, v1, v2, v3, v4, d0, d1, d2, d3, d4, p0, p1, p2, p3, p4, rfl, rfl, rfl, h0, h1, h2, h3, h4⟩ := trodAll_five hA
  obtain ⟨rfl, rfl⟩ := trodVars_none hV
  have hw2 : ∀ n ∈ d2.weights Tryz.prog 37, n ≤ reachBytes := fun n hn => by
    have := List.all_eq_true.1 hsz n (DataW.weights_mem_each (j := 2) (t := 37) (d := d2) rfl rfl n hn)
    simpa using this
  have hw3 : ∀ n ∈ d3.weights Tryz.prog 37, n ≤ reachBytes := fun n hn => by
    have := List.all_eq_true.1 hsz n (DataW.weights_mem_each (j := 3) (t := 37) (d := d3) rfl rfl n hn)
    simpa using this
  have hk0 := h0
  have hk1 := h1
  have hk2 := h2
  have hk3 := h3
  have hk4 := h4
  obtain ⟨n, rfl, hn⟩ := int_arg (hval 0 3 v0 rfl rfl) h0
  obtain ⟨lg, rfl, hl⟩ := int_arg (hval 1 3 v1 rfl rfl) h1
  obtain ⟨fl, rfl, hf⟩ := int_arg (hval 4 3 v4 rfl rfl) h4
  obtain ⟨A, la, ca, a, rfl, rA, hla, hxa⟩ := arg_opened h2 (okWide_slice Tryz.underlying37 (hval 2 37 v2 rfl rfl)) hw2
  obtain ⟨B, lb, cb, b, rfl, rB, hlb, hxb⟩ := arg_opened h3 (okWide_slice Tryz.underlying37 (hval 3 37 v3 rfl rfl)) hw3
  simp only [List.append_nil] at hW'
  have hlt : ∀ x ∈ p0 ++ (p1 ++ (p2 ++ (p3 ++ p4))), x.block < W.heap.size := fun x hx => hW'.lt x (by simpa using hx)
  refine (formats_any n lg fl hn hl A B la ca lb cb a b W rA rB hla hlb hxa hxb awake_any).mono fun e W' ⟨he, hb⟩ => ?_
  subst he
  have harg0 := Below.trod laidOut (by kernel_rfl) (of_decide_eq_true (by kernel_rfl)) hk0 hb (fun x hx => hlt x (by simp [hx]))
  have harg1 := Below.trod laidOut (by kernel_rfl) (of_decide_eq_true (by kernel_rfl)) hk1 hb (fun x hx => hlt x (by simp [hx]))
  have harg2 := Below.trod laidOut (by kernel_rfl) (of_decide_eq_true (by kernel_rfl)) hk2 hb (fun x hx => hlt x (by simp [hx]))
  have harg3 := Below.trod laidOut (by kernel_rfl) (of_decide_eq_true (by kernel_rfl)) hk3 hb (fun x hx => hlt x (by simp [hx]))
  have harg4 := Below.trod laidOut (by kernel_rfl) (of_decide_eq_true (by kernel_rfl)) hk4 hb (fun x hx => hlt x (by simp [hx]))
  refine ⟨_, rfl, _, _, _, [], _, [], hW', ?_, trodAll_mk5 harg0 harg1 harg2 harg3 harg4, rfl, hb.frame _, fun h => by cases h⟩
  exact trodAll_mk1 (shut_bool Tryz.underlying4 _)

theorem reviveFormats_holds : Rows.ReviveFormatsSaid :=
  OpenClaim.holds_of_wide 4 Tryz.f4 rfl rfl rfl rfl rfl rfl rfl ⟨rfl, rfl, rfl, rfl, rfl⟩ rfl rfl rfl rfl rfl (by kernel_rfl) Tryz.func4 closed
    (of_decide_eq_true (by kernel_rfl)) (by unfold Func.isWrapper; first | (rw [if_pos (by decide +kernel)]; kernel_rfl) | (rw [if_neg (by decide +kernel)]; exact ⟨rfl, rfl⟩))
    (fun os started H enc _ => formats_lifted os started H enc)

end Go.Proofs.YtecnddogdiikiaaGreat

