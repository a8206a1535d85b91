/-
  From what a body does to what a call does; calls that leave all old memory as it was.
-/
import Derived.Test.YtiibpjahmhemmaaDoorEvW
namespace Go.Ev
open Go
noncomputable section

theorem calls_of_Tr {P : Program} {G f : Nat} {fn : Func} {c : Code} (hfn : P.funcs[f]? = some fn) (hc : fn.body = some c) {args l : List AV} {st st1 : St} {ex : Ex} {fr' : Fr}
    (hb1 : args.length ≤ fn.ntmps) (hb2 : fn.ntmps ≤ 2 ^ depthOf 64 fn.ntmps) (ht : Tr P G c (mkFr fn.ntmps args) st ex fr' st1) (hex : ex = .normal ∨ ex = .ret)
    (hl : resA P fr' st1 fn.results.toList = some l) {ρ : Ren} {w : World} {cargs : Array Value} (hR : Rel ρ st w) (hG : Glob ρ G) (hA : VRs ρ args cargs.toList) :
    Calls P f cargs w fun e w' => ∃ vc ρ', e = .returned vc ∧ VR ρ' (oneA l) vc ∧ Good ρ st w ρ' st1 w' := by
  have hF : FR ρ (mkFr fn.ntmps args) (cargs ++ Array.replicate (fn.ntmps - cargs.size) undef) := mkFr_FR hA hb1 hb2
  refine calls_of_wp hfn hc ?_
  refine wp_mono (wp_of_wpX (ht ρ { tmps := cargs ++ Array.replicate (fn.ntmps - cargs.size) undef, defers := [] } w hF hR hG)) ?_
  rintro e a' w' ⟨rfl, ρ', hF', hg, hd⟩
  obtain ⟨vs, g1, g2⟩ := resA_sound hF' hg.rel _ _ hl
  have hrun : (results fn a'.tmps).run P w' = .ok (if h : vs.toArray.size = 1 then vs.toArray[0] else .tuple vs.toArray) w' := by
    rw [results_eq, Array.mapM_eq_mapM_toList]
    simp only [Sem.run_bind, Sem.run_map, g2, Sem.run_pure, Result.andThen_ok]
  rcases hex with rfl | rfl
  · exact ⟨hd, _, hrun, _, ρ', rfl, oneA_sound _ _ g1, hg⟩
  · exact ⟨hd, _, hrun, _, ρ', rfl, oneA_sound _ _ g1, hg⟩

/-- all old blocks are as they were -/
structure Wx (w w' : World) : Prop where
  size : w.heap.size ≤ w'.heap.size
  old : ∀ b, b < w.heap.size → w'.heap[b]? = w.heap[b]?
  os : w'.os = w.os
  tape : w'.tape = w.tape
  output : w'.output = w.output

theorem Wx.refl (w : World) : Wx w w := ⟨Nat.le_refl _, fun _ _ => rfl, rfl, rfl, rfl⟩
theorem Wx.trans {w w' w'' : World} (h : Wx w w') (g : Wx w' w'') : Wx w w'' :=
  ⟨Nat.le_trans h.size g.size, fun b hb => (g.old b (Nat.lt_of_lt_of_le hb h.size)).trans (h.old b hb), g.os.trans h.os, g.tape.trans h.tape, g.output.trans h.output⟩

theorem Wx.get {w w' : World} (h : Wx w w') {b : Nat} {o : Obj} (hb : w.heap[b]? = some o) : w'.heap[b]? = some o := by
  rw [h.old b ((Array.getElem?_eq_some_iff.1 hb).1)]; exact hb

theorem Good.of_Wx {ρ : Ren} {st : St} {w w' : World} (hR : Rel ρ st w) (h : Wx w w') : Good ρ st w ρ st w' := by
  refine ⟨.refl ρ, ⟨hR.ok, hR.lt, hR.fresh, ?_, hR.inj⟩, rfl, Nat.le_refl _, h.size, h.os, h.tape, h.output, fun b hb _ => h.old b hb, fun i L a b c _ => ⟨i, L, a, b, c, rfl, id⟩, fun _ _ h => h, fun _ _ => rfl⟩
  intro i hi hl
  obtain ⟨L, ob, h1, h2, h3⟩ := hR.live i hi hl
  exact ⟨L, ob, h1, h.get h2, h3⟩

theorem Good.Wx {ρ ρ' : Ren} {st st' : St} {w w' : World} (h : Good ρ st w ρ' st' w') (hro : ∀ i, i < st.next → (st.heap.get i).writable = false) : Wx w w' :=
  ⟨h.size, fun b hb => h.kept b hb (fun i L hi hw => by rw [hro i hi] at hw; cases hw), h.os, h.tape, h.output⟩

end
end Go.Ev
