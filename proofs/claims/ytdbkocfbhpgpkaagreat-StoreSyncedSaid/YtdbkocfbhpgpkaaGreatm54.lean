/-
  chancerylaw15.StoreSynced: for any numbers the law returns true, and the argument reads as it did. No condition.
-/
import Derived.Test.YtdbkocfbhpgpkaaGreatRows
import Derived.Test.YtdbkocfbhpgpkaaGreatm52
import Derived.Test.YtdbkocfbhpgpkaaGreatm53
import Derived.ProofKit
import Derived.OpenShut
import Derived.SizedLaws
import Derived.Lib.SmallJoins
set_option linter.unusedVariables false
set_option linter.unusedSimpArgs false
namespace Go.Proofs.YtdbkocfbhpgpkaaGreat
open Go Go.ChangeShapes Go.WideShapes Go.ChangeAt Go.RowKit Go.Deep
set_option maxRecDepth 100000
set_option maxHeartbeats 1600000
theorem own_row:ownKnob Tryz.prog.godebug=none:=by kernel_rfl
theorem laidOut_row:laidOutB Tryz.prog=true:=by kernel_rfl
theorem cellsI_row:Tryz.prog.cellsOf 3=1:=by kernel_rfl
section
variable {H:Type}{enc:TypeId×Value→H}{W:World}
theorem ints_opened{fuel:Nat}{cs:List Value}{x:DataW H×List MemPlace}(hf:DataW.trod enc Tryz.prog W 0 (fun _=>true) true fuel 22 cs=some x) :
    ∃ (A:Option Addr) (len cap:Nat) (l:List Int),cs=[.slice A len cap]∧l.length=len∧RdI W W.heap.size A l∧∀ z∈l,-9223372036854775808≤z∧z≤9223372036854775807:=by
  rcases open_ints Tryz.underlying22 Tryz.underlying3 cellsI_row hf with⟨hcs,hx⟩|⟨a,len,cap,zs,hcs,_,hl,hm,hz,hx,hcell,hwz⟩
  · exact⟨none,0,0,[],hcs,rfl,.nil _ _ _,fun z hz=>by cases hz⟩
  · simp only[if_true] at hz
    refine⟨some a,len,cap,zs.take len,hcs,by simp;omega,fun hne=>?_,fun z hzm=>?_⟩
    · have hpos:0<len:=by
        rcases Nat.eq_zero_or_pos len with h|h
        · subst h;simp at hne
        · exact h
      obtain⟨b,o,s⟩:=a
      obtain rfl:s=none:=by simpa[Addr.add] using World.cell?_spot (hcell 0 (by omega))
      have hc0:=hcell 0 (by omega)
      refine⟨b,o,rfl,by have:=block_lt_of_cell hc0;simpa[Addr.add] using this,fun k hk=>?_⟩
      have hk':k<len:=by simp at hk;omega
      have hck:=hcell k (by omega)
      rw[Go.WideShapes.add_plain] at hck
      rw[hck]
      simp[List.getD,show k<zs.length by omega]
    · have hw:=hwz z (List.mem_of_mem_take hzm)
      simpa[Lit.wf,IntKind.wrap,IntKind.signed,IntKind.bits,IntKind.min,IntKind.max] using hw
theorem iarg_opened{v:Value}{d:DataW H}{p:List MemPlace}(h:DataW.Trod enc Tryz.prog W 0 (fun _=>true) true 22 v d p)(hv:∃ A len cap,v=.slice A len cap) :
    ∃ (A:Option Addr) (n c:Nat) (l:List Int),v=.slice A n c∧RdI W W.heap.size A l∧n=l.length∧∀ z∈l,-9223372036854775808≤z∧z≤9223372036854775807:=by
  obtain⟨A0,n0,k0,rfl⟩:=hv
  obtain⟨fuel,hf⟩:=h
  obtain⟨A,n,c,l,e,hl,r,w⟩:=ints_opened hf
  simp only[Value.cells,List.cons.injEq,and_true] at e
  exact⟨A,n,c,l,e,r,hl.symm,w⟩
end
set_option maxRecDepth 100000 in
theorem synced_lifted(os:Os)(started:os.Started)(H:Type)(enc:TypeId×Value→H) :
    ReturnsInHanded {} Tryz.checked os 3 .any (Rows.storeSyncedSpec.pre6 enc Tryz.prog Tryz.f3 Rows.storeSyncedRow.domain false) (Rows.storeSyncedSpec.post enc Tryz.prog Tryz.f3 false true false false):=by
  refine returnsInHanded_of_change_sized (C:=Tryz.checked) own_row started (by kernel_rfl) Tryz.func3
    (ChangeSpec.witness6 (enc:=enc) (C:=Tryz.checked) false ⟨#[],#[.slice none 0 0],[]⟩ 8 (by kernel_rfl) (by kernel_rfl) (by kernel_rfl) (by kernel_rfl)) ?_
  intro W base args ds gs before hval0 hW hcnd hsz _
  have hval:∀ (j:Nat) t v,Tryz.f3.params[j]? = some t→args[j]? = some v→Value.okWide Tryz.prog W .any base t v:=hval0
  have hW':=hW
  obtain⟨p,q,hA0,hV,rfl,hfz,hnd⟩:=hW
  have hA:DataW.TrodAll enc Tryz.prog W 0 (fun _=>true) true Tryz.f3.params.toList args.toList ds p:=hA0
  rw[Tryz.params3] at hA hval
  obtain⟨v0,d0,rfl,rfl,h0⟩:=trodAll_one hA
  obtain⟨rfl,rfl⟩:=trodVars_none hV
  have hk0:=h0
  obtain⟨A,n,c,l,rfl,rA,hn,hx⟩:=iarg_opened h0 (okWide_slice Tryz.underlying22 (hval 0 22 v0 rfl rfl))
  simp only[List.append_nil] at hW'
  have hlt:∀ x∈p,x.block<W.heap.size:=fun x hx=>hW'.lt x (by simpa using hx)
  refine(law_any A n c l W rA hn hx).mono fun e W' ⟨he,hb⟩=>?_
  subst he
  have harg0:=Below.trod laidOut_row (by kernel_rfl) (of_decide_eq_true (by kernel_rfl)) hk0 hb hlt
  refine⟨_,rfl,_,_,_,[],_,[],hW',?_,trodAll_mk1 harg0,rfl,hb.frame _,fun h=>by cases h⟩
  exact trodAll_mk1 (shut_bool Tryz.underlying4 _)
theorem storeSynced_holds:Rows.StoreSyncedSaid:=
  OpenClaim.holds_of_wide 3 Tryz.f3 rfl rfl rfl rfl rfl rfl rfl ⟨rfl,rfl,rfl,rfl,rfl⟩ rfl rfl rfl rfl rfl (by kernel_rfl) Tryz.func3 closed
    (of_decide_eq_true (by kernel_rfl)) (by unfold Func.isWrapper;first | (rw[if_pos (by decide +kernel)];kernel_rfl) | (rw[if_neg (by decide +kernel)];exact⟨rfl,rfl⟩))
    (fun os started H enc _=>synced_lifted os started H enc)
end Go.Proofs.YtdbkocfbhpgpkaaGreat
