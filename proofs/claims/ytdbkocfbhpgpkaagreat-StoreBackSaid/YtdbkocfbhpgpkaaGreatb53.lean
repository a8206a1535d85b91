/-
  The row's own facts of the program, reckoned by the kernel one by one.
-/
import Derived.Test.YtdbkocfbhpgpkaaGreatRows
import Derived.ProofKit
set_option linter.unusedVariables false
set_option linter.unusedSimpArgs false
namespace Go.Proofs.YtdbkocfbhpgpkaaGreat
open Go Go.ChangeShapes Go.WideShapes Go.ChangeAt Go.RowKit
theorem and2{a b:Bool}(ha:a=true)(hb:b=true):(a && b)=true:=by rw[ha,hb];rfl
theorem fact0:(Rows.storeBackRow.wf (OpenSpec.ofChange Rows.storeBackSpec))=true:=by kernel_rfl
theorem fact1:(laidOutB Tryz.checked.prog)=true:=by kernel_rfl
theorem fact2:(mapsRowed Tryz.checked.prog)=true:=by kernel_rfl
theorem fact3:(Tryz.f4.params.all (Tryz.checked.prog.readableRec ·))=true:=by kernel_rfl
theorem fact4:(namedTie Tryz.checked.prog Rows.storeBackRow.named Rows.storeBackSpec.vars)=true:=by kernel_rfl
theorem fact5:((Rows.storeBackRow.stops==[]))=true:=by kernel_rfl
theorem fact6:((Tryz.checked.prog.stops==[]))=true:=by kernel_rfl
theorem fact7:((Rows.storeBackRow.knobs==[]))=true:=by kernel_rfl
theorem fact8:((Tryz.checked.prog.stopKnobs==[]))=true:=by kernel_rfl
theorem fact9:((Rows.storeBackRow.inPlace==Tryz.checked.prog.inPlace 4))=true:=by kernel_rfl
theorem fact10:((Rows.storeBackRow.unfollowed==Tryz.checked.prog.unfollowed 4))=true:=by kernel_rfl
theorem fact11:((Rows.storeBackRow.recurses==Tryz.checked.prog.recurses 4))=true:=by kernel_rfl
theorem fact12:((Rows.storeBackRow.named==Tryz.checked.prog.varsNamed 4))=true:=by kernel_rfl
theorem fact13:((Rows.storeBackRow.maps==(Tryz.f4.params.toList++Rows.storeBackSpec.plain.varTypes Tryz.checked.prog).any (Tryz.checked.prog.mapsRec ·)))=true:=by kernel_rfl
theorem fact14:((Rows.storeBackRow.ifaces==(Tryz.f4.params.toList++Rows.storeBackSpec.plain.varTypes Tryz.checked.prog).any (Tryz.checked.prog.ifacesRec ·)))=true:=by kernel_rfl
theorem fact15:((Rows.storeBackRow.mapsOut==Tryz.checked.prog.mapsAmong Tryz.f4.resultTypes.toList))=true:=by kernel_rfl
theorem fact16:((Rows.storeBackRow.loops==(Tryz.f4.params.toList++Rows.storeBackSpec.plain.varTypes Tryz.checked.prog).any (Tryz.checked.prog.loopsFrom ·)))=true:=by kernel_rfl
theorem fact17:((Rows.storeBackRow.wideKeys==(Tryz.f4.params.toList++Rows.storeBackSpec.plain.varTypes Tryz.checked.prog++Tryz.f4.resultTypes.toList).any (Tryz.checked.prog.wideKeysFrom ·)))=true:=by kernel_rfl
theorem fact18:(Rows.storeBackSpec.vars.all (Tryz.checked.prog.varReadable ·))=true:=by kernel_rfl
theorem fact19:(Tryz.f4.resultTypes.all (fun t=>Tryz.checked.prog.readableRec t && decide (t<Tryz.checked.prog.types.size)))=true:=by kernel_rfl
theorem fact20:((Rows.storeBackRow.ifacesOut==Tryz.f4.resultTypes.toList.any (Tryz.checked.prog.ifacesRec ·)))=true:=by kernel_rfl
theorem fact21:((Rows.storeBackRow.loopsOut==Tryz.f4.resultTypes.toList.any (Tryz.checked.prog.loopsFrom ·)))=true:=by kernel_rfl
theorem fact22:((Rows.storeBackRow.plainKeys==Tryz.checked.prog.plainKeys))=true:=by kernel_rfl
theorem fact23:(Rows.storeBackRow.shortTexts.isNone)=true:=by kernel_rfl
theorem fact24:(Tryz.checked.prog.stopsHeard)=true:=by kernel_rfl
theorem fact25:(Tryz.checked.prog.mayEnter)=true:=by kernel_rfl
theorem fact26:((Rows.storeBackRow.lifted==Tryz.checked.prog.liftsFinal))=true:=by kernel_rfl
theorem fact27:((Tryz.checked.prog.make==some Rows.storeBackRow.make))=true:=by kernel_rfl
theorem fact28:((Rows.storeBackRow.kinds==(if Rows.storeBackRow.domain.isEmpty then[] else Tryz.f4.params.toList.map fun t=>match Tryz.checked.prog.underlying t with | some (.int k)=>some k | _=>none)))=true:=by kernel_rfl
theorem fact29:((Rows.storeBackRow.pinned==Rows.storeBackRow.pinnedBy))=true:=by kernel_rfl
theorem fact30:((Rows.storeBackRow.veiled==(Tryz.f4.params.toList++Rows.storeBackSpec.plain.varTypes Tryz.checked.prog++Tryz.f4.resultTypes.toList).any (Tryz.checked.prog.veiledRec ·)))=true:=by kernel_rfl
theorem fact31:(Rows.storeBackRow.veiledFits Tryz.checked.prog Tryz.f4.params.toList (Tryz.f4.params.toList++Rows.storeBackSpec.plain.varTypes Tryz.checked.prog++Tryz.f4.resultTypes.toList))=true:=by kernel_rfl
set_option maxRecDepth 100000 in
theorem closed:joinedFacts Tryz.checked.prog 4 Tryz.f4 Rows.storeBackSpec Rows.storeBackRow=true:=by
  unfold joinedFacts
  exact(and2 (and2 (and2 (and2 (and2 (and2 (and2 (and2 (and2 (and2 (and2 (and2 (and2 (and2 (and2 (and2 (and2 (and2 (and2 (and2 (and2 (and2 (and2 (and2 (and2 (and2 (and2 (and2 (and2 (and2 (and2 fact0 fact1) fact2) fact3) fact4) fact5) fact6) fact7) fact8) fact9) fact10) fact11) fact12) fact13) fact14) fact15) fact16) fact17) fact18) fact19) fact20) fact21) fact22) fact23) fact24) fact25) fact26) fact27) fact28) fact29) fact30) fact31)
end Go.Proofs.YtdbkocfbhpgpkaaGreat
