/-
  The row's own facts of the program, reckoned by the kernel one by one.
-/
import Derived.Test.YtdbkocfbhpgpkaaGreatRows
import Derived.ProofKit
set_option linter.unusedVariables false
set_option linter.unusedSimpArgs false
namespace Go.Proofs.YtdbkocfbhpgpkaaGreat
open Go Go.ChangeShapes Go.WideShapes Go.ChangeAt Go.RowKit
theorem and2{a b:Bool}(ha:a=true)(hb:b=true):(a && b)=true:=by rw[ha,hb];rfl
theorem fact0:(Rows.storeSyncedRow.wf (OpenSpec.ofChange Rows.storeSyncedSpec))=true:=by kernel_rfl
theorem fact1:(laidOutB Tryz.checked.prog)=true:=by kernel_rfl
theorem fact2:(mapsRowed Tryz.checked.prog)=true:=by kernel_rfl
theorem fact3:(Tryz.f3.params.all (Tryz.checked.prog.readableRec ·))=true:=by kernel_rfl
theorem fact4:(namedTie Tryz.checked.prog Rows.storeSyncedRow.named Rows.storeSyncedSpec.vars)=true:=by kernel_rfl
theorem fact5:((Rows.storeSyncedRow.stops==[]))=true:=by kernel_rfl
theorem fact6:((Tryz.checked.prog.stops==[]))=true:=by kernel_rfl
theorem fact7:((Rows.storeSyncedRow.knobs==[]))=true:=by kernel_rfl
theorem fact8:((Tryz.checked.prog.stopKnobs==[]))=true:=by kernel_rfl
theorem fact9:((Rows.storeSyncedRow.inPlace==Tryz.checked.prog.inPlace 3))=true:=by kernel_rfl
theorem fact10:((Rows.storeSyncedRow.unfollowed==Tryz.checked.prog.unfollowed 3))=true:=by kernel_rfl
theorem fact11:((Rows.storeSyncedRow.recurses==Tryz.checked.prog.recurses 3))=true:=by kernel_rfl
theorem fact12:((Rows.storeSyncedRow.named==Tryz.checked.prog.varsNamed 3))=true:=by kernel_rfl
theorem fact13:((Rows.storeSyncedRow.maps==(Tryz.f3.params.toList++Rows.storeSyncedSpec.plain.varTypes Tryz.checked.prog).any (Tryz.checked.prog.mapsRec ·)))=true:=by kernel_rfl
theorem fact14:((Rows.storeSyncedRow.ifaces==(Tryz.f3.params.toList++Rows.storeSyncedSpec.plain.varTypes Tryz.checked.prog).any (Tryz.checked.prog.ifacesRec ·)))=true:=by kernel_rfl
theorem fact15:((Rows.storeSyncedRow.mapsOut==Tryz.checked.prog.mapsAmong Tryz.f3.resultTypes.toList))=true:=by kernel_rfl
theorem fact16:((Rows.storeSyncedRow.loops==(Tryz.f3.params.toList++Rows.storeSyncedSpec.plain.varTypes Tryz.checked.prog).any (Tryz.checked.prog.loopsFrom ·)))=true:=by kernel_rfl
theorem fact17:((Rows.storeSyncedRow.wideKeys==(Tryz.f3.params.toList++Rows.storeSyncedSpec.plain.varTypes Tryz.checked.prog++Tryz.f3.resultTypes.toList).any (Tryz.checked.prog.wideKeysFrom ·)))=true:=by kernel_rfl
theorem fact18:(Rows.storeSyncedSpec.vars.all (Tryz.checked.prog.varReadable ·))=true:=by kernel_rfl
theorem fact19:(Tryz.f3.resultTypes.all (fun t=>Tryz.checked.prog.readableRec t && decide (t<Tryz.checked.prog.types.size)))=true:=by kernel_rfl
theorem fact20:((Rows.storeSyncedRow.ifacesOut==Tryz.f3.resultTypes.toList.any (Tryz.checked.prog.ifacesRec ·)))=true:=by kernel_rfl
theorem fact21:((Rows.storeSyncedRow.loopsOut==Tryz.f3.resultTypes.toList.any (Tryz.checked.prog.loopsFrom ·)))=true:=by kernel_rfl
theorem fact22:((Rows.storeSyncedRow.plainKeys==Tryz.checked.prog.plainKeys))=true:=by kernel_rfl
theorem fact23:(Rows.storeSyncedRow.shortTexts.isNone)=true:=by kernel_rfl
theorem fact24:(Tryz.checked.prog.stopsHeard)=true:=by kernel_rfl
theorem fact25:(Tryz.checked.prog.mayEnter)=true:=by kernel_rfl
theorem fact26:((Rows.storeSyncedRow.lifted==Tryz.checked.prog.liftsFinal))=true:=by kernel_rfl
theorem fact27:((Tryz.checked.prog.make==some Rows.storeSyncedRow.make))=true:=by kernel_rfl
theorem fact28:((Rows.storeSyncedRow.kinds==(if Rows.storeSyncedRow.domain.isEmpty then[] else Tryz.f3.params.toList.map fun t=>match Tryz.checked.prog.underlying t with | some (.int k)=>some k | _=>none)))=true:=by kernel_rfl
theorem fact29:((Rows.storeSyncedRow.pinned==Rows.storeSyncedRow.pinnedBy))=true:=by kernel_rfl
theorem fact30:((Rows.storeSyncedRow.veiled==(Tryz.f3.params.toList++Rows.storeSyncedSpec.plain.varTypes Tryz.checked.prog++Tryz.f3.resultTypes.toList).any (Tryz.checked.prog.veiledRec ·)))=true:=by kernel_rfl
theorem fact31:(Rows.storeSyncedRow.veiledFits Tryz.checked.prog Tryz.f3.params.toList (Tryz.f3.params.toList++Rows.storeSyncedSpec.plain.varTypes Tryz.checked.prog++Tryz.f3.resultTypes.toList))=true:=by kernel_rfl
set_option maxRecDepth 100000 in
theorem closed:joinedFacts Tryz.checked.prog 3 Tryz.f3 Rows.storeSyncedSpec Rows.storeSyncedRow=true:=by
  unfold joinedFacts
  exact(and2 (and2 (and2 (and2 (and2 (and2 (and2 (and2 (and2 (and2 (and2 (and2 (and2 (and2 (and2 (and2 (and2 (and2 (and2 (and2 (and2 (and2 (and2 (and2 (and2 (and2 (and2 (and2 (and2 (and2 (and2 fact0 fact1) fact2) fact3) fact4) fact5) fact6) fact7) fact8) fact9) fact10) fact11) fact12) fact13) fact14) fact15) fact16) fact17) fact18) fact19) fact20) fact21) fact22) fact23) fact24) fact25) fact26) fact27) fact28) fact29) fact30) fact31)
end Go.Proofs.YtdbkocfbhpgpkaaGreat
