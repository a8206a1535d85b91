/-
  chancerylaw15.StoreBack: for any number of frames and any numbers of both slices the law returns true, and the arguments read as they did. No condition.
-/
import Derived.Test.YtdbkocfbhpgpkaaGreatRows
import Derived.Test.YtdbkocfbhpgpkaaGreatb52
import Derived.Test.YtdbkocfbhpgpkaaGreatb53
import Derived.ProofKit
import Derived.OpenShut
import Derived.SizedLaws
import Derived.Lib.SmallJoins
import Derived.Carry
set_option linter.unusedVariables false
set_option linter.unusedSimpArgs false
namespace Go.Proofs.YtdbkocfbhpgpkaaGreat
open Go Go.ChangeShapes Go.WideShapes Go.ChangeAt Go.RowKit Go.Deep
set_option maxRecDepth 100000
set_option maxHeartbeats 1600000
theorem own_row:ownKnob Tryz.prog.godebug=none:=by kernel_rfl
theorem laidOut_row:laidOutB Tryz.prog=true:=by kernel_rfl
theorem cellsI_row:Tryz.prog.cellsOf 3=1:=by kernel_rfl
section
variable {H:Type}{enc:TypeId×Value→H}{W:World}
theorem ints_opened{fuel:Nat}{cs:List Value}{x:DataW H×List MemPlace}(hf:DataW.trod enc Tryz.prog W 0 (fun _=>true) true fuel 22 cs=some x) :
    ∃ (A:Option Addr) (len cap:Nat) (l:List Int),cs=[.slice A len cap]∧l.length=len∧(len≤cap∧cap≤maxLen)∧RdI W W.heap.size A l∧∀ z∈l,-9223372036854775808≤z∧z≤9223372036854775807:=by
  rcases open_ints Tryz.underlying22 Tryz.underlying3 cellsI_row hf with⟨hcs,hx⟩|⟨a,len,cap,zs,hcs,_,hl,hm,hz,hx,hcell,hwz⟩
  · exact⟨none,0,0,[],hcs,rfl,⟨Nat.le_refl _,Nat.zero_le _⟩,.nil _ _ _,fun z hz=>by cases hz⟩
  · simp only[if_true] at hz
    refine⟨some a,len,cap,zs.take len,hcs,by simp;omega,⟨hl,hm⟩,fun hne=>?_,fun z hzm=>?_⟩
    · have hpos:0<len:=by
        rcases Nat.eq_zero_or_pos len with h|h
        · subst h;simp at hne
        · exact h
      obtain⟨b,o,s⟩:=a
      obtain rfl:s=none:=by simpa[Addr.add] using World.cell?_spot (hcell 0 (by omega))
      have hc0:=hcell 0 (by omega)
      refine⟨b,o,rfl,by have:=block_lt_of_cell hc0;simpa[Addr.add] using this,fun k hk=>?_⟩
      have hk':k<len:=by simp at hk;omega
      have hck:=hcell k (by omega)
      rw[Go.WideShapes.add_plain] at hck
      rw[hck]
      simp[List.getD,show k<zs.length by omega]
    · have hw:=hwz z (List.mem_of_mem_take hzm)
      simpa[Lit.wf,IntKind.wrap,IntKind.signed,IntKind.bits,IntKind.min,IntKind.max] using hw
theorem iarg_opened{v:Value}{d:DataW H}{p:List MemPlace}(h:DataW.Trod enc Tryz.prog W 0 (fun _=>true) true 22 v d p)(hv:∃ A len cap,v=.slice A len cap) :
    ∃ (A:Option Addr) (n c:Nat) (l:List Int),v=.slice A n c∧RdI W W.heap.size A l∧n=l.length∧(n≤c∧c≤maxLen)∧∀ z∈l,-9223372036854775808≤z∧z≤9223372036854775807:=by
  obtain⟨A0,n0,k0,rfl⟩:=hv
  obtain⟨fuel,hf⟩:=h
  obtain⟨A,n,c,l,e,hl,hc,r,w⟩:=ints_opened hf
  simp only[Value.cells,List.cons.injEq,and_true] at e
  exact⟨A,n,c,l,e,r,hl.symm,hc,w⟩
theorem int_arg{v:Value}{d:DataW H}{p:List MemPlace}{base:Nat}(hv:Value.okWide Tryz.prog W .any base 3 v)(h:DataW.Trod enc Tryz.prog W 0 (fun _=>true) true 3 v d p):∃ z:Int,v=.int .i64 z∧-9223372036854775808≤z∧z≤9223372036854775807:=by
  obtain⟨z,rfl⟩:=okWide_int Tryz.underlying3 hv
  obtain⟨fuel,hf⟩:=h
  obtain⟨z',h1,_,h3⟩:=DataW.trod_int Tryz.underlying3 hf
  simp only[Value.cells,List.cons.injEq,and_true] at h1
  have:z=z':=by simpa using h1
  subst this
  refine⟨z,rfl,?_⟩
  simpa[Lit.wf,IntKind.wrap,IntKind.signed,IntKind.bits,IntKind.min,IntKind.max] using h3
end
set_option maxRecDepth 100000 in
theorem back_lifted(os:Os)(started:os.Started)(H:Type)(enc:TypeId×Value→H) :
    ReturnsInHanded {} Tryz.checked os 4 .any (Rows.storeBackSpec.pre6 enc Tryz.prog Tryz.f4 Rows.storeBackRow.domain false) (Rows.storeBackSpec.post enc Tryz.prog Tryz.f4 false true false false):=by
  refine returnsInHanded_of_change_sized (C:=Tryz.checked) own_row started (by kernel_rfl) Tryz.func4
    (ChangeSpec.witness6 (enc:=enc) (C:=Tryz.checked) false ⟨#[],#[.int .i64 0,.slice none 0 0,.slice none 0 0],[]⟩ 8 (by kernel_rfl) (by kernel_rfl) (by kernel_rfl) (by kernel_rfl)) ?_
  intro W base args ds gs before hval0 hW hcnd hsz _
  have hval:∀ (j:Nat) t v,Tryz.f4.params[j]? = some t→args[j]? = some v→Value.okWide Tryz.prog W .any base t v:=hval0
  have hW':=hW
  obtain⟨p,q,hA0,hV,rfl,hfz,hnd⟩:=hW
  have hA:DataW.TrodAll enc Tryz.prog W 0 (fun _=>true) true Tryz.f4.params.toList args.toList ds p:=hA0
  rw[Tryz.params4] at hA hval
  obtain⟨v0,v1,v2,d0,d1,d2,p0,p1,p2,rfl,rfl,rfl,h0,h1,h2⟩:=trodAll_three hA
  obtain⟨rfl,rfl⟩:=trodVars_none hV
  have hk0:=h0
  have hk1:=h1
  have hk2:=h2
  obtain⟨fr,rfl,hfr⟩:=int_arg (hval 0 3 v0 rfl rfl) h0
  obtain⟨A1,n1,c1,l1,rfl,r1,hn1,hc1,hx1⟩:=iarg_opened h1 (okWide_slice Tryz.underlying22 (hval 1 22 v1 rfl rfl))
  obtain⟨A2,n2,c2,l2,rfl,r2,hn2,hc2,hx2⟩:=iarg_opened h2 (okWide_slice Tryz.underlying22 (hval 2 22 v2 rfl rfl))
  simp only[List.append_nil] at hW'
  have hlt:∀ x∈p0++p1++p2,x.block<W.heap.size:=fun x hx=>hW'.lt x (by simpa using hx)
  refine(back_any hfr r1 hn1 hc1 hx1 r2 hn2 hc2 hx2).mono fun e W' ⟨he,hb⟩=>?_
  subst he
  have harg0:=Below.trod laidOut_row (by kernel_rfl) (of_decide_eq_true (by kernel_rfl)) hk0 hb (fun x hx=>hlt x (by simp[hx]))
  have harg1:=Below.trod laidOut_row (by kernel_rfl) (of_decide_eq_true (by kernel_rfl)) hk1 hb (fun x hx=>hlt x (by simp[hx]))
  have harg2:=Below.trod laidOut_row (by kernel_rfl) (of_decide_eq_true (by kernel_rfl)) hk2 hb (fun x hx=>hlt x (by simp[hx]))
  rw[List.append_assoc] at hW'
  refine⟨_,rfl,_,_,_,[],_,[],hW',?_,trodAll_mk3 harg0 harg1 harg2,rfl,hb.frame _,fun h=>by cases h⟩
  exact trodAll_mk1 (shut_bool Tryz.underlying4 _)
theorem storeBack_holds:Rows.StoreBackSaid:=
  OpenClaim.holds_of_wide 4 Tryz.f4 rfl rfl rfl rfl rfl rfl rfl ⟨rfl,rfl,rfl,rfl,rfl⟩ rfl rfl rfl rfl rfl (by kernel_rfl) Tryz.func4 closed
    (of_decide_eq_true (by kernel_rfl)) (by unfold Func.isWrapper;first | (rw[if_pos (by decide +kernel)];kernel_rfl) | (rw[if_neg (by decide +kernel)];exact⟨rfl,rfl⟩))
    (fun os started H enc _=>back_lifted os started H enc)
end Go.Proofs.YtdbkocfbhpgpkaaGreat
