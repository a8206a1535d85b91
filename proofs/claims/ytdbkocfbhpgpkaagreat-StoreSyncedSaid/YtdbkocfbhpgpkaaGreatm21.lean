/-
  The evaluator is right: regions, control flow, calls.
-/
import Derived.Test.YtdbkocfbhpgpkaaGreatm20
set_option linter.unusedVariables false
set_option linter.unusedSimpArgs false
namespace Go.Ev
open Go
noncomputable section
theorem valR_VR{ρ:Ren}{fr:Fr}{a:Act}{G:Nat}{looks:List Tmp}(h:∀ t,t∈looks→VR ρ (fr.get t) (a.tmps.getD t undef))(hg:Glob ρ G)(x:Operand):VR ρ (valR G looks fr x) (a.eval x):=by
  cases x with
  | tmp t =>
    simp only[valR]
    cases hb:memT t looks with
    | false=>exact .top _
    | true=>exact h t (memT_iff.1 hb)
  | const v=>exact constA_VR ρ v
  | func f=>exact .func _ _ _ _ _ .nil .nil
  | global g =>
    simp only[valR]
    cases hb:Nat.blt g G with
    | false=>exact .top _
    | true =>
      obtain⟨top,ht⟩:=hg g (blt_iff.1 hb)
      exact VR.ptr (ρ:=ρ) g 0 ⟨g,0,top⟩ ht
theorem wanted_sound'{ρ:Ren}{ops:Array Oper}{fr:Fr}{o:Oper}{b:Bool}{tmps:Array Value}(h:wantedA ops fr o=some b)(hs:fr.lim≤tmps.size)
    (hv:∀ t,t∈o.looksAt ops→VR ρ (fr.get t) (tmps.getD t undef)):Region.wanted o (yielded ops tmps)=b:=by
  unfold wantedA at h
  unfold Region.wanted
  cases hg:o.guard with
  | none=>rw[hg] at h;simp only[Option.some.injEq] at h;exact h
  | some p =>
    obtain⟨j,want⟩:=p
    rw[hg] at h
    simp only[] at h ⊢
    unfold yielded
    split at h
    · rename_i hd
      rw[hd];simp only[Option.some.injEq] at h;subst h;rfl
    · rename_i t hd
      rw[hd]
      simp only[Option.bind_some]
      have hlt:t<fr.lim∨fr.get t=.top:=by
        rw[Fr.get_eq]
        cases hb:Nat.blt t fr.lim with
        | false=>right;rfl
        | true=>left;exact blt_iff.1 hb
      rcases hlt with hlt|htop
      · have hs:t<tmps.size:=Nat.lt_of_lt_of_le hlt hs
        have hv:=hv t (by unfold Oper.looksAt;rw[hg];simp[hd])
        have hget:tmps.getD t undef=tmps[t]:=by simp[Array.getD,hs]
        rw[hget] at hv
        rw[Array.getElem?_eq_getElem hs]
        split at h
        · rename_i bb hbb
          rw[hbb] at hv
          generalize tmps[t]=x at hv
          cases hv
          simp only[Option.some.injEq] at h;subst h
          simp
        · cases h
        · rename_i hnb hnt
          simp only[Option.some.injEq] at h;subst h
          generalize fr.get t=q at *
          generalize tmps[t]=x at hv
          cases hv<;>first | rfl | (exact absurd rfl hnt) | (exact absurd rfl (hnb _))
      · rw[htop] at h;simp at h
theorem readSame_some{P:Program}{G:Nat}{ops:Array Oper}{o:Oper}{fr:Fr}{r:AV}{st:St}(h:readSame P G ops o fr r st=true):opRead P o.op (valR G (o.looksAt ops) fr) st=some r:=by
  unfold readSame at h
  split at h
  · rename_i r' hr;rw[hr,AV.same_eq h]
  · cases h
section step
variable {P:Program}{G:Nat}{call:CallF}{ops:Array Oper}{lim:Nat}{ds:Nat→DS}{vs:Nat→AV}{ρ0:Ren}{st0:St}{w0:World}{df:List Deferred}
theorem Is.uniq{c c':Cls}{p:Nat}{o o':Oper}(h:Is P ops ds c p o)(h':Is P ops ds c' p o'):o=o'∧c=c':=by
  have e:o=o':=by have:=h.1;rw[h'.1] at this;exact(Option.some.inj this).symm
  subst e
  exact⟨rfl,h.2.2.symm.trans h'.2.2⟩
theorem InvAt.read{ρ:Ren}{c:Nat}{g:Nat→AO}{D:Nat→Bool}{a:Act}{w:World}(hI:InvAt P G ops lim ds vs ρ0 st0 w0 df ρ c g D a w)(hr:Run P G call ops lim (ancsOf ops) ds vs)
    {p:Nat} {o:Oper} (hp:Is P ops ds .read p o) (hD:D p=false) (hanc:∀ r,((ancsOf ops).getD p 0).testBit r=true→D r=true) :
    opRead P o.op (valR G (o.looksAt ops) (ds p).fr) (ds c).st=some (vs p):=by
  have hps:p<ops.size:=(Array.getElem?_eq_some_iff.1 hp.1).1
  have hcs:=hI.hc
  obtain⟨_,hs⟩:=hr.says hp.1
  obtain⟨hrd,hhist⟩:opRead P o.op (valR G (o.looksAt ops) (ds p).fr) (ds p).st=some (vs p)∧histOk P G ops o (ds p).fr (vs p) ((ancsOf ops).getD p 0) (ds p).hist=true:=by
    cases hs with
    | read _ _ h1 h2 _=>exact⟨h1,h2⟩
    | skip hw _ _=>have:=hp.2.1;rw[hw] at this;cases this
    | pure _ hc _ _=>have:=hp.2.2;rw[hc] at this;cases this
    | alloc _ _ _ hc _ _ _ _=>have:=hp.2.2;rw[hc] at this;cases this
    | soft _ _ _ _ _ _ hc _ _ _ _=>have:=hp.2.2;rw[hc] at this;cases this
    | heavy _ hc _ _ _ _=>have:=hp.2.2;rw[hc] at this;cases this
  by_cases hcp:c≤p
  · by_cases hex:∃ h,h<p∧∃ oh,Is P ops ds .heavy h oh∧c≤h
    · obtain⟨h,h1,⟨oh,h2,h3⟩,h4⟩:=exists_least p hex
      have hst:(ds h).st=(ds c).st:=hr.st_same h3 (by omega) (fun h' o' hh a b=>h4 h' b ⟨o',hh,a⟩)
      rw[← hst]
      refine readSame_some (hr.hist_spec p (by omega) hhist h oh h2 h1 ?_)
      intro h' oh' hh a b
      cases hq:((ancsOf ops).getD p 0).testBit h' with
      | false=>rfl
      | true =>
        have:=(hI.heavy h' oh' hh).1 (hanc h' hq)
        omega
    · have hst:(ds p).st=(ds c).st:=hr.st_same hcp (by omega) (fun h' o' hh a b=>hex ⟨h',b,o',hh,a⟩)
      rw[← hst];exact hrd
  · by_cases hex:∃ h,h<c∧∃ oh,Is P ops ds .heavy h oh∧p≤h
    · obtain⟨h,h1,⟨oh,h2,h3⟩,h4⟩:=exists_greatest c hex
      have hst:(ds c).st=(ds (h+1)).st:=hr.st_same (by omega) hcs (fun h' o' hh a b=>h4 h' (by omega) b ⟨o',hh,by omega⟩)
      rw[hst]
      have hne:p≠h:=by rintro rfl;have:=(hp.uniq h2).2;cases this
      obtain⟨_,hsh⟩:=hr.says h2.1
      have hrdok:rdsOk P G ops ((ancsOf ops).getD h 0) (ds (h+1)).st (ds h).rds=true:=by
        cases hsh with
        | heavy _ _ _ _ hrd _=>exact hrd
        | skip hw _ _=>have:=h2.2.1;rw[hw] at this;cases this
        | pure _ hc _ _=>have:=h2.2.2;rw[hc] at this;cases this
        | alloc _ _ _ hc _ _ _ _=>have:=h2.2.2;rw[hc] at this;cases this
        | soft _ _ _ _ _ _ hc _ _ _ _=>have:=h2.2.2;rw[hc] at this;cases this
        | read _ hc _ _ _=>have:=h2.2.2;rw[hc] at this;cases this
      have hhs:h<ops.size:=by omega
      refine readSame_some (hr.rds_spec h (by omega) hrdok p o hp (by omega) ?_)
      cases hq:((ancsOf ops).getD h 0).testBit p with
      | false=>rfl
      | true =>
        have hDh:=(hI.heavy h oh h2).2 h1
        have:=hI.closed h hhs hDh p hq
        rw[hD] at this;cases this
    · have hst:(ds c).st=(ds p).st:=hr.st_same (by omega) hcs (fun h' o' hh a b=>hex ⟨h',b,o',hh,a⟩)
      rw[hst];exact hrd
theorem InvAt.sub{ρ:Ren}{c:Nat}{g:Nat→AO}{D:Nat→Bool}{a:Act}{w:World}(hI:InvAt P G ops lim ds vs ρ0 st0 w0 df ρ c g D a w):Rel ρ (ds c).st w:=by
  refine HRel.rel (hI.good.rel.sub ?_) hI.ok hI.le
  intro i hi hl
  symm
  apply hI.gS
  rintro q ao hm hd hnm rfl
  have:=hI.dead q ao hm hnm
  rw[hl] at this;cases this
theorem nid_ge(hr:Run P G call ops lim (ancsOf ops) ds vs)(h0:(ds 0).nid=st0.next){q:Nat}{ao:AO}(h:Makes P G ops ds q ao):st0.next≤(ds q).nid:=by
  rw[← h0]
  exact hr.nid_mono (Nat.zero_le _) (by have:=(hr.nid_lt h).2.2;omega)
theorem InvAt.step(hcall:CallOk P G call){ρ:Ren}{c:Nat}{g:Nat→AO}{D:Nat→Bool}{a:Act}{w:World}(hI:InvAt P G ops lim ds vs ρ0 st0 w0 df ρ c g D a w)(hr:Run P G call ops lim (ancsOf ops) ds vs)(hst:StaticOk P ops (ancsOf ops))
    (hok:T.Ok (ds 0).fr.d (ds 0).fr.t) (hl:(ds 0).fr.lim≤2 ^ (ds 0).fr.d) (hp0:(ds 0).pend=[]) (hn0:(ds 0).nid=st0.next) (hG0:Glob ρ0 G) {p:Nat} {o:Oper} (hp:ops[p]? = some o) (hD:D p=false)
    (hanc:∀ r,((ancsOf ops).getD p 0).testBit r=true→D r=true) {ro:Option Nat} {K:Act→World→Prop} {Q:Exit→Act→World→Prop}
    (hK:∀ ρ' c' g' a' w',InvAt P G ops lim ds vs ρ0 st0 w0 df ρ' c' g' (upd D p) a' w'→K a' w'):wpOpIn (fence ro) 0 P ops Q p K a w:=by
  have hps:p<ops.size:=(Array.getElem?_eq_some_iff.1 hp).1
  obtain⟨q1,q2,q3,_⟩:=hr.fr_spec hok hl p (by omega)
  have hlook:∀ t,t∈o.looksAt ops→VR ρ ((ds p).fr.get t) (a.tmps.getD t undef):=by
    intro t ht
    by_cases htl:t<(ds 0).fr.lim
    · rw[← hI.looks hr hst hok hl hp hD hanc t (by simp[touch,ht]) htl]
      exact hI.tmps t htl
    · rw[Fr.get_eq,q1]
      have:Nat.blt t (ds 0).fr.lim=false:=by
        cases hb:Nat.blt t (ds 0).fr.lim with
        | false=>rfl
        | true=>exact absurd (blt_iff.1 hb) htl
      rw[this];exact .top _
  have hG:Glob ρ G:=hG0.ext hI.good.ext
  have hv:∀ x,VR ρ (valR G (o.looksAt ops) (ds p).fr x) (a.eval x):=valR_VR hlook hG
  have hwant:∀ {b},wantedA ops (ds p).fr o=some b→Region.wanted o (yielded ops a.tmps)=b:=fun hw=>wanted_sound' hw (by rw[q1];exact hI.tsize) hlook
  have hdef:∀ (z:Value),(a.put o.dst z).defers=a.defers:=by intro z;cases o.dst<;>rfl
  obtain⟨hput,hs⟩:=hr.says hp
  have no:∀ {d:Cls},clsOf P o.op≠d→∀ o',¬Is P ops ds d p o':=by
    intro d hne o' hi
    have:o'=o:=by have:=hi.1;rw[hp] at this;exact(Option.some.inj this).symm
    subst this;exact hne hi.2.2
  have nm:clsOf P o.op≠.alloc→∀ ao,¬Makes P G ops ds p ao:=fun hne ao hm=>by obtain⟨o',_,hi,_⟩:=hm;exact no hne o' hi
  have nd:clsOf P o.op≠.heavy→∀ c,o.op≠.defer c:=fun h c hc=>h (by rw[hc];rfl)
  unfold wpOpIn
  rw[hp]
  simp only[]
  cases hs with
  | skip hw hvv _ =>
    rw[hwant hw]
    simp only[Bool.false_eq_true,if_false]
    have nw:∀ c o',¬Is P ops ds c p o':=fun c o' hi=>by
      have:o'=o:=by have:=hi.1;rw[hp] at this;exact(Option.some.inj this).symm
      subst this
      have:=hi.2.1;rw[hw] at this;cases this
    refine⟨fun _ _=>trivial,?_⟩
    exact hK ρ c g _ w (hI.light hr hst hok hl hp hD hanc (by rw[hvv];exact .tup _ _ .nil) (nw _) (fun ao hm=>by obtain⟨o',_,hi,_⟩:=hm;exact nw _ _ hi) hI.good)
  | pure hw hc hrr _ =>
    rw[hwant hw];simp only[if_true]
    obtain⟨z,h1,h2⟩:=opPure_sound hrr hv w
    refine wpIn_of_upon (nd (by rw[hc];simp)) ?_;rw[h1]
    exact hK ρ c g _ w (hI.light hr hst hok hl hp hD hanc h2 (no (by rw[hc];simp)) (nm (by rw[hc];simp)) hI.good)
  | read hw hc _ _ _ =>
    rw[hwant hw];simp only[if_true]
    obtain⟨z,h1,h2⟩:=opRead_sound (hI.read hr ⟨hp,hw,hc⟩ hD hanc) hv hI.sub
    refine wpIn_of_upon (nd (by rw[hc];simp)) ?_;rw[h1]
    exact hK ρ c g _ w (hI.light hr hst hok hl hp hD hanc h2 (no (by rw[hc];simp)) (nm (by rw[hc];simp)) hI.good)
  | alloc ao f hw hc hrr hn hvv _ =>
    rw[hwant hw];simp only[if_true]
    have hmk:Makes P G ops ds p ao:=⟨o,f,⟨hp,hw,hc⟩,hrr⟩
    obtain⟨z,ob,sh,top,w',h1,h2,h3,h4⟩:=opAlloc_sound hrr hv w
    have hfree:=hI.free p ao hmk hD
    have hge:=nid_ge hr hn0 hmk
    have hlim:=hI.lim
    have hext:=Ren.ext_set (ρ:=ρ) (i:=(ds p).nid) (L:=⟨w.heap.size,sh,top⟩) hfree
    obtain⟨h5,h6⟩:=h4 (ds p).nid (ρ.set (ds p).nid ⟨w.heap.size,sh,top⟩) hext (Ren.set_same _ _ _)
    have hz:VR (ρ.set (ds p).nid ⟨w.heap.size,sh,top⟩) (vs p) z:=by rw[hvv];exact h6
    have hgood:=hI.good.addAt (id:=(ds p).nid) (L:=⟨w.heap.size,sh,top⟩) (g':=fun i=>if i=(ds p).nid then ao else g i) (by omega) hge hfree rfl h2 h3 h5 (fun i _=>rfl)
    obtain⟨f1,f2⟩:=hI.frame hr hst hok hl hp hD hext hz
    have hnm:¬Mat P ops ds c p:=by
      rintro⟨h,oh,hh,a1,a2,a3⟩
      have hDh:=(hI.heavy h oh hh).2 a2
      have:=hI.closed h (by have:=hI.hc;omega) hDh p a3
      rw[hD] at this;cases this
    have hne:∀ {q ao'},Makes P G ops ds q ao'→q≠p→(ds q).nid≠(ds p).nid:=fun hm hq e=>hq (hr.nid_inj hm hmk e)
    refine wpIn_of_upon (nd (by rw[hc];simp)) ?_;rw[h1]
    refine hK (ρ.set (ds p).nid ⟨w.heap.size,sh,top⟩) c (fun i=>if i=(ds p).nid then ao else g i) _ w' ⟨hI.hc,?_,hgood,hI.ok,hI.le,hI.dep,hI.lim,?_,?_,hI.dead,?_,f1,f2,(hdef z).trans hI.defers,?_,?_⟩
    · intro h oh hh
      rw[upd_ne (by rintro rfl;exact no (by rw[hc];simp) _ hh)];exact hI.heavy h oh hh
    · intro q ao' hm hd hnm'
      by_cases e:q=p
      · subst e
        obtain⟨o',f',hi,ha'⟩:=hm
        have:o'=o:=by have:=hi.1;rw[hp] at this;exact(Option.some.inj this).symm
        subst this
        rw[hrr] at ha';cases ha'
        refine⟨by simp,⟨w.heap.size,sh,top⟩,Ren.set_same _ _ _,hI.good.size⟩
      · rw[upd_ne e] at hd
        obtain⟨g1,L,g2,g3⟩:=hI.gP q ao' hm hd hnm'
        refine⟨?_,L,hext _ _ g2,g3⟩
        rw[if_neg (hne hm e)];exact g1
    · intro i hi
      have hip:i≠(ds p).nid:=hi p ao hmk (upd_same _ _) hnm
      rw[if_neg hip]
      apply hI.gS
      intro q ao' hm hd hnm'
      have e:q≠p:=by rintro rfl;rw[hD] at hd;cases hd
      exact hi q ao' hm (by rw[upd_ne e];exact hd) hnm'
    · intro q ao' hm hd
      have e:q≠p:=by rintro rfl;rw[upd_same] at hd;cases hd
      rw[upd_ne e] at hd
      rw[Ren.set_ne (hne hm e)]
      exact hI.free q ao' hm hd
    · intro q hq' hd r hr'
      by_cases e:q=p
      · subst e
        have:=hanc r hr'
        by_cases e':r=q
        · subst e';exact upd_same _ _
        · rw[upd_ne e'];exact this
      · rw[upd_ne e] at hd
        have:=hI.closed q hq' hd r hr'
        by_cases e':r=p
        · subst e';exact upd_same _ _
        · rw[upd_ne e'];exact this
    · intro q hd
      by_cases e:q=p
      · subst e;exact hps
      · rw[upd_ne e] at hd;exact hI.inr q hd
  | soft i off len cap es hw hc hrr hvv hpr _ =>
    rw[hwant hw];simp only[if_true]
    obtain⟨z,i',off',len',cap',es',L,w',he,hL,h1,h2,h3,h4,h5⟩:=soft_run hrr hv w
    rw[hvv] at he;cases he
    obtain⟨x,hx,hxp⟩:=List.any_eq_true.1 hpr
    simp only[Bool.and_eq_true,beq_iff] at hxp
    obtain⟨⟨hxi,hxb⟩,hxr⟩:=hxp
    obtain⟨q,ao,rfl,hqp,hmq,hnoh⟩:=(hr.pend_spec hp0 p (by omega) x).1 hx
    simp only[] at hxi hxb hxr
    have hDq:=hanc q hxb
    have hnm:¬Mat P ops ds c q:=by
      rintro⟨h,oh,hh,a1,a2,a3⟩
      obtain⟨k,k1,⟨ok,k2,k3,k4,k5⟩,k6⟩:=exists_least (Q:=fun h=>∃ oh,Is P ops ds .heavy h oh∧q<h∧h<c∧((ancsOf ops).getD h 0).testBit q=true) c ⟨h,a2,oh,hh,a1,a2,a3⟩
      have hcs:=hI.hc
      rcases Nat.lt_trichotomy k p with e|e|e
      · have:=hnoh k ok k2 k3 e;rw[k5] at this;cases this
      · subst e;exact no (by rw[hc];simp) _ k2
      · have hDk:=(hI.heavy k ok k2).2 k4
        have hbp:((ancsOf ops).getD k 0).testBit p=false:=by
          cases hq:((ancsOf ops).getD k 0).testBit p with
          | false=>rfl
          | true=>have:=hI.closed k (by omega) hDk p hq;rw[hD] at this;cases this
        obtain⟨_,hsk⟩:=hr.says k2.1
        have hso:softsOk ((ancsOf ops).getD k 0) (ds k).softs (ds k).pend=true:=by
          cases hsk with
          | heavy _ _ hso _ _ _=>exact hso
          | skip hw _ _=>have:=k2.2.1;rw[hw] at this;cases this
          | pure _ hc _ _=>have:=k2.2.2;rw[hc] at this;cases this
          | alloc _ _ _ hc _ _ _ _=>have:=k2.2.2;rw[hc] at this;cases this
          | soft _ _ _ _ _ _ hc _ _ _ _=>have:=k2.2.2;rw[hc] at this;cases this
          | read _ hc _ _ _=>have:=k2.2.2;rw[hc] at this;cases this
        have hmem:=hr.softs_spec k (by omega) p o i off len cap es ⟨hp,hw,hc⟩ hvv e
        have h7:=List.all_eq_true.1 hso _ hmem
        simp only[hbp,Bool.false_or] at h7
        have hpk:(q,(ds q).nid,ao)∈(ds k).pend:=(hr.pend_spec hp0 k (by omega) _).2 ⟨q,ao,rfl,k3,hmq,fun h' oh' hh' b1 b2=>by
          cases hq:((ancsOf ops).getD h' 0).testBit q with
          | false=>rfl
          | true=>exact(k6 h' b2 ⟨oh',hh',b1,by omega,hq⟩).elim⟩
        have h8:=List.all_eq_true.1 h7 _ hpk
        simp only[k5,Bool.not_true,Bool.false_or,Bool.not_eq_true'] at h8
        rw[hxi] at h8
        simp at h8
    obtain⟨hgao,L',hL',hge⟩:=hI.gP q ao hmq hDq hnm
    rw[hxi] at hgao
    rw[hxi,hL] at hL';cases hL'
    refine wpIn_of_upon (nd (by rw[hc];simp)) ?_;rw[h1]
    exact hK ρ c g _ w' (hI.light hr hst hok hl hp hD hanc h2 (no (by rw[hc];simp)) (nm (by rw[hc];simp)) (hI.good.mark h3 h4 h5 hge ⟨i,L,Nat.lt_of_not_le fun hle=>(by have:=hI.good.rel.fresh i hle;rw[hL] at this;cases this),by rw[hgao];exact hxr,hL,rfl⟩))
  | heavy hw hc hso hrr hrd _ =>
    rw[hwant hw];simp only[if_true]
    have hIs:Is P ops ds .heavy p o:=⟨hp,hw,hc⟩
    have hcp:c≤p:=by
      rcases Nat.lt_or_ge p c with e|e
      · have:=(hI.heavy p o hIs).2 e;rw[hD] at this;cases this
      · exact e
    have hno:∀ h oh,Is P ops ds .heavy h oh→c≤h→h<p→False:=by
      intro h oh hh h1 h2
      have hconf:conflictD P ops oh o=true:=by
        simp only[conflictD,Bool.or_eq_true,Bool.and_eq_true]
        exact .inr ⟨by simp[hvy,hh.2.2],by simp[hvy,hc]⟩
      have:=(hI.heavy h oh hh).1 (hanc h (hst.conf p o h oh hp hh.1 h2 hconf))
      omega
    have hstp:(ds p).st=(ds c).st:=hr.st_same hcp (by omega) hno
    have hmat:∀ q,Mat P ops ds (p+1) q↔Mat P ops ds c q∨(q<p∧((ancsOf ops).getD p 0).testBit q=true):=by
      intro q
      constructor
      · rintro⟨h,oh,hh,a1,a2,a3⟩
        by_cases e:h=p
        · subst e;exact .inr ⟨a1,a3⟩
        · refine .inl ⟨h,oh,hh,a1,?_,a3⟩
          rcases Nat.lt_or_ge h c with e'|e'
          · exact e'
          · exact(hno h oh hh e' (by omega)).elim
      · rintro (⟨h,oh,hh,a1,a2,a3⟩|⟨a1,a2⟩)
        · exact⟨h,oh,hh,a1,by omega,a3⟩
        · exact⟨p,o,hIs,a1,by omega,a2⟩
    have hlim:=hI.lim
    have hids:∀ x∈(ds p).pend,x.2.1<(ds p).st.next:=by
      intro x hx
      obtain⟨q,ao,rfl,_,hm,_⟩:=(hr.pend_spec hp0 p (by omega) x).1 hx
      have:=(hr.nid_lt hm).1
      rw[hstp];simp only[];omega
    obtain⟨m1,m2,m3,m4⟩:=matSt_spec (mask:=(ancsOf ops).getD p 0) (st:=(ds p).st) (by rw[hstp];exact hI.ok) (by rw[hstp];exact hI.le) (ds p).pend hids
    have hnext:(ds p).st.next=(ds c).st.next:=by rw[hstp]
    have hput1:∀ q ao,Makes P G ops ds q ao→q<p→((ancsOf ops).getD p 0).testBit q=true→¬Mat P ops ds c q→(q,(ds q).nid,ao)∈(ds p).pend:=by
      intro q ao hm hqp hb hnm
      refine(hr.pend_spec hp0 p (by omega) _).2 ⟨q,ao,rfl,hqp,hm,fun h oh hh b1 b2=>?_⟩
      cases hq:((ancsOf ops).getD h 0).testBit q with
      | false=>rfl
      | true =>
        rcases Nat.lt_or_ge h c with e|e
        · exact(hnm ⟨h,oh,hh,b1,e,hq⟩).elim
        · exact(hno h oh hh e b2).elim
    have hput2:∀ x∈(ds p).pend,∃ q ao,x=(q,(ds q).nid,ao)∧q<p∧Makes P G ops ds q ao∧¬Mat P ops ds c q:=by
      intro x hx
      obtain⟨q,ao,rfl,h1,hm,h2⟩:=(hr.pend_spec hp0 p (by omega) x).1 hx
      refine⟨q,ao,rfl,h1,hm,?_⟩
      rintro⟨h,oh,hh,a1,a2,a3⟩
      have:=h2 h oh hh a1 (by omega);rw[a3] at this;cases this
    generalize hSm:matSt ((ancsOf ops).getD p 0) (ds p).st (ds p).pend=Sm at *
    have hsub:∀ i,i<(ds c).st.next→(Sm.heap.get i).live=true→Sm.heap.get i=g i:=by
      intro i hi hlv
      rcases m4 i (by omega) with⟨x,hx,b1,b2,b3⟩|⟨b1,b2⟩
      · obtain⟨q,ao,rfl,_,hm,hnm⟩:=hput2 x hx
        simp only[] at b1 b2 b3
        rw[b3,← b2]
        exact(hI.gP q ao hm (hanc q b1) hnm).1.symm
      · rw[b2,hstp]
        symm
        apply hI.gS
        rintro q ao hm hd hnm rfl
        have:=hI.dead q ao hm hnm
        rw[b2,hstp] at hlv
        rw[hlv] at this;cases this
    have hRm:Rel ρ Sm w:=by
      refine HRel.rel (st:=Sm) ?_ (by rw[m2];exact m3) (by rw[m1,m2,hstp];exact hI.le)
      rw[m1,hnext]
      exact hI.good.rel.sub hsub
    refine opHeavy_sound hcall hrr hv hRm hG ?_
    intro ρ' z w' hz hg
    have hg':=hg.h
    rw[m1,hnext] at hg'
    have hS'next:=hg.next
    rw[m1,hnext] at hS'next
    have hframe:=HGood.frame (g':=fun i=>if i<(ds c).st.next∧(Sm.heap.get i).live=false then g i else(ds (p+1)).st.heap.get i) hI.good.rel hsub hg' (fun i _=>rfl)
    have hgood:=hI.good.trans hframe
    have hdeadm:∀ q ao,Makes P G ops ds q ao→¬Mat P ops ds (p+1) q→(Sm.heap.get (ds q).nid).live=false:=by
      intro q ao hm hnm
      have hnm1:¬Mat P ops ds c q:=fun h=>hnm ((hmat q).2 (.inl h))
      have hlt:=(hr.nid_lt hm).1
      rcases m4 (ds q).nid (by omega) with⟨x,hx,b1,b2,b3⟩|⟨b1,b2⟩
      · obtain⟨q',ao',rfl,h1,hm',_⟩:=hput2 x hx
        have e:=hr.nid_inj hm' hm b2
        subst e
        exact(hnm ((hmat q').2 (.inr ⟨h1,b1⟩))).elim
      · rw[b2,hstp];exact hI.dead q ao hm hnm1
    have hnidlt:∀ q ao,Makes P G ops ds q ao→(ds q).nid<(ds c).st.next:=fun q ao hm=>by have:=(hr.nid_lt hm).1;omega
    obtain⟨f1,f2⟩:=hI.frame hr hst hok hl hp hD hg.ext hz
    have hqp:∀ q ao,Makes P G ops ds q ao→q≠p:=by
      rintro q ao ⟨o',_,hi,_⟩ rfl
      have:=(hi.uniq hIs).2;cases this
    refine hK ρ' (p+1) (fun i=>if i<(ds c).st.next∧(Sm.heap.get i).live=false then g i else(ds (p+1)).st.heap.get i) _ w'
      ⟨by omega,?_,hgood,hg.rel.ok,hg.rel.lt,by rw[hg.dep,m2,hstp];exact hI.dep,by omega,?_,?_,?_,?_,f1,f2,(hdef z).trans hI.defers,?_,?_⟩
    · intro h oh hh
      by_cases e:h=p
      · subst e;rw[upd_same];simp
      · rw[upd_ne e,hI.heavy h oh hh]
        constructor
        · intro;omega
        · intro h1
          rcases Nat.lt_or_ge h c with e'|e'
          · exact e'
          · exact(hno h oh hh e' (by omega)).elim
    · intro q ao hm hd hnm
      rw[upd_ne (hqp q ao hm)] at hd
      have hnm1:¬Mat P ops ds c q:=fun h=>hnm ((hmat q).2 (.inl h))
      obtain⟨g1,L,g2,g3⟩:=hI.gP q ao hm hd hnm1
      refine⟨?_,L,hg.ext _ _ g2,g3⟩
      rw[if_pos ⟨hnidlt q ao hm,hdeadm q ao hm hnm⟩];exact g1
    · intro i hi
      by_cases hcd:i<(ds c).st.next∧(Sm.heap.get i).live=false
      · rw[if_pos hcd]
        have hd1:=not_live (hg.dead i (by rw[m1,hnext];exact hcd.1) hcd.2)
        rw[hd1]
        have key:∀ q ao,Makes P G ops ds q ao→D q=true→¬Mat P ops ds c q→i≠(ds q).nid:=by
          rintro q ao hm hd hnm rfl
          by_cases hmm:Mat P ops ds (p+1) q
          · rcases (hmat q).1 hmm with h|⟨h1,h2⟩
            · exact hnm h
            · have hmem:=hput1 q ao hm h1 h2 hnm
              rcases m4 (ds q).nid (by omega) with⟨x,hx,b1,b2,b3⟩|⟨b1,b2⟩
              · obtain⟨q',ao',rfl,_,hm',_⟩:=hput2 x hx
                simp only[] at b3
                rw[b3] at hcd
                obtain⟨_,_,_,ha⟩:=hm'
                rw[opAlloc_live ha] at hcd
                cases hcd.2
              · exact b1 _ hmem h2 rfl
          · exact hi q ao hm (by rw[upd_ne (hqp q ao hm)];exact hd) hmm rfl
        have hgi:=hI.gS i key
        rw[hgi]
        rcases m4 i (by omega) with⟨x,hx,b1,b2,b3⟩|⟨b1,b2⟩
        · obtain⟨q',ao',rfl,_,hm',hnm'⟩:=hput2 x hx
          exact(key q' ao' hm' (hanc q' b1) hnm' b2.symm).elim
        · rw[b2,hstp] at hcd
          exact not_live hcd.2
      · rw[if_neg hcd]
    · intro q ao hm hnm
      exact hg.dead _ (by rw[m1,hnext];exact hnidlt q ao hm) (hdeadm q ao hm hnm)
    · intro q ao hm hd
      rw[upd_ne (hqp q ao hm)] at hd
      rw[hg.old _ (by rw[m1,hnext];exact hnidlt q ao hm)]
      exact hI.free q ao hm hd
    · intro q hq' hd r hr'
      by_cases e:q=p
      · subst e
        have:=hanc r hr'
        by_cases e':r=q
        · subst e';exact upd_same _ _
        · rw[upd_ne e'];exact this
      · rw[upd_ne e] at hd
        have:=hI.closed q hq' hd r hr'
        by_cases e':r=p
        · subst e';exact upd_same _ _
        · rw[upd_ne e'];exact this
    · intro q hd
      by_cases e:q=p
      · subst e;exact hps
      · rw[upd_ne e] at hd;exact hI.inr q hd
end step
end
end Go.Ev
namespace Go.Ev
open Go
noncomputable section
theorem deadFrom_spec{h:T AO}:∀ (n i:Nat),deadFrom h i n=true→∀ j,i≤j→j<i+n→(h.get j).live=false:=by
  intro n
  induction n with
  | zero=>intro i _ j h1 h2;omega
  | succ n ih =>
    intro i hd j h1 h2
    simp only[deadFrom,Bool.and_eq_true,Bool.not_eq_true'] at hd
    by_cases e:j=i
    · subst e;exact hd.1
    · exact ih (i+1) hd.2 j (by omega) (by omega)
def unl (listed:Array Bool):List Nat→Nat
  | []=>0
  | i::l=>(if listed.getD i false=true then 0 else 1)+unl listed l
theorem unl_set{listed:Array Bool}{p:Nat}(hp:p<listed.size)(hf:listed.getD p false=false):∀ (l:List Nat),l.Nodup→unl (listed.setIfInBounds p true) l+(if p∈l then 1 else 0)=unl listed l:=by
  intro l
  induction l with
  | nil=>intro _;simp[unl]
  | cons i l ih =>
    intro hn
    obtain⟨hni,hn'⟩:=List.nodup_cons.1 hn
    have:=ih hn'
    simp only[unl,List.mem_cons]
    by_cases e:i=p
    · subst e
      have h1:(listed.setIfInBounds i true).getD i false=true:=by simp[Array.getD_eq_getD_getElem?,hp]
      rw[if_pos h1,hf]
      simp only[Bool.false_eq_true,if_false,true_or,if_true]
      rw[if_neg hni] at this
      omega
    · have h1:(listed.setIfInBounds p true).getD i false=listed.getD i false:=by
        simp[Array.getD_eq_getD_getElem?,Array.getElem?_setIfInBounds,Ne.symm e]
      rw[h1]
      have h2:(p=i∨p∈l)↔p∈l:=by
        constructor
        · rintro (rfl|h)
          · exact absurd rfl e
          · exact h
        · exact .inr
      simp only[h2]
      omega
theorem unl_zero{listed:Array Bool}:∀ (l:List Nat),unl listed l=0→∀ i∈l,listed.getD i false=true:=by
  intro l
  induction l with
  | nil=>intro _ i hi;simp at hi
  | cons x l ih =>
    intro h i hi
    simp only[unl] at h
    rcases List.mem_cons.1 hi with rfl|hi
    · by_cases hx:listed.getD i false=true
      · exact hx
      · rw[if_neg hx] at h;omega
    · exact ih (by omega) i hi
theorem evDraw_any{P:Program}{G:Nat}{call:CallF}(hcall:CallOk P G call){ops:Array Oper}{lim:Nat}{ds:Nat→DS}{vs:Nat→AV}{ρ0:Ren}{st0:St}{w0:World}{df:List Deferred}
    (hr:Run P G call ops lim (ancsOf ops) ds vs) (hst:StaticOk P ops (ancsOf ops)) (hok:T.Ok (ds 0).fr.d (ds 0).fr.t) (hl:(ds 0).fr.lim≤2 ^ (ds 0).fr.d) (hp0:(ds 0).pend=[]) (hn0:(ds 0).nid=st0.next)
    (hG0:Glob ρ0 G) {ro:Option Nat} {Q:Exit→Act→World→Prop}
    (hQ:∀ ρ c g D a w,InvAt P G ops lim ds vs ρ0 st0 w0 df ρ c g D a w→(∀ i,i<ops.size→D i=true)→Q .normal a w) :
    ∀ (fuel:Nat) (listed:Array Bool) (ρ:Ren) (c:Nat) (g:Nat→AO) (a:Act) (w:World),listed.size=ops.size→unl listed (List.range ops.size)=fuel →
      InvAt P G ops lim ds vs ρ0 st0 w0 df ρ c g (fun i=>listed.getD i false) a w→wpAnyIn (fence ro) 0 P .any ops Q fuel listed a w:=by
  intro fuel
  induction fuel with
  | zero =>
    intro listed ρ c g a w hsz hun hI
    have hall:=unl_zero _ hun
    refine⟨?_,hQ ρ c g _ a w hI (fun i hi=>hall i (List.mem_range.2 hi))⟩
    apply List.filter_eq_nil_iff.2
    intro i hi
    have:=hall i hi
    have hi':i<listed.size:=by rw[hsz];exact List.mem_range.1 hi
    simp only[Array.getD_eq_getD_getElem?,Array.getElem?_eq_getElem hi',Option.getD_some] at this ⊢
    simp[this]
  | succ fuel ih =>
    intro listed ρ c g a w hsz hun hI
    have hready:∀ i,i∈Region.ready .any ops listed↔i<ops.size∧listed.getD i false=false∧∃ o,ops[i]? = some o∧∀ e∈o.after.toList,Region.binds .any e=true→listed.getD e.on false=true:=by
      intro i
      unfold Region.ready
      rw[List.mem_filter,List.mem_range]
      constructor
      · rintro⟨h1,h2⟩
        have hi':i<listed.size:=by omega
        simp only[Bool.and_eq_true,Bool.not_eq_true'] at h2
        obtain⟨o,ho⟩:∃ o,ops[i]? = some o:=⟨_,Array.getElem?_eq_getElem h1⟩
        rw[ho] at h2
        refine⟨h1,?_,o,ho,fun e he hb=>?_⟩
        · have:=h2.1
          simp only[Array.getD_eq_getD_getElem?,Array.getElem?_eq_getElem hi',Option.getD_some] at this ⊢
          exact this
        · have h3:=h2.2
          simp only[Option.map_some,Option.getD_some] at h3
          have:=Array.all_eq_true_iff_forall_mem.1 h3 e (by simpa using he)
          rw[hb] at this
          simpa using this
      · rintro⟨h1,h2,o,ho,h3⟩
        have hi':i<listed.size:=by omega
        refine⟨h1,?_⟩
        rw[ho]
        simp only[Bool.and_eq_true,Bool.not_eq_true',Option.map_some,Option.getD_some]
        refine⟨?_,?_⟩
        · simp only[Array.getD_eq_getD_getElem?,Array.getElem?_eq_getElem hi',Option.getD_some] at h2 ⊢
          exact h2
        · apply Array.all_eq_true_iff_forall_mem.2
          intro e he
          cases hb:Region.binds .any e with
          | false=>rfl
          | true=>simpa using h3 e (by simpa using he) hb
    refine⟨fun hnil=>?_,fun i hi=>?_⟩
    ·
      exfalso
      have hex:∃ h,h<ops.size∧listed.getD h false=false:=by
        by_cases hq:∃ h,h<ops.size∧listed.getD h false=false
        · exact hq
        · have:unl listed (List.range ops.size)=0:=by
            have gen:∀ l:List Nat,(∀ x∈l,listed.getD x false=true)→unl listed l=0:=by
              intro l
              induction l with
              | nil=>intro _;rfl
              | cons x l ihl=>intro h;simp only[unl];rw[if_pos (h x (by simp)),ihl (fun y hy=>h y (by simp[hy]))]
            apply gen
            intro x hx
            cases hb:listed.getD x false with
            | true=>rfl
            | false=>exact(hq ⟨x,List.mem_range.1 hx,hb⟩).elim
          omega
      obtain⟨h,h1,h2,h3⟩:=exists_least ops.size hex
      obtain⟨o,ho⟩:∃ o,ops[h]? = some o:=⟨_,Array.getElem?_eq_getElem h1⟩
      have:h∈Region.ready .any ops listed:=(hready h).2 ⟨h1,h2,o,ho,fun e he hb=>by
        have hlt:=hst.edge h o ho e he hb
        cases hq:listed.getD e.on false with
        | true=>rfl
        | false=>exact(h3 e.on hlt hq).elim⟩
      rw[hnil] at this
      simp at this
    · obtain⟨h1,h2,o,ho,h3⟩:=(hready i).1 hi
      have hanc:=anc_in (D:=fun i=>listed.getD i false) hst hI.closed ho h3
      refine hI.step hcall hr hst hok hl hp0 hn0 hG0 ho h2 hanc ?_
      intro ρ' c' g' a' w' hI'
      have hi':i<listed.size:=by omega
      refine ih (listed.setIfInBounds i true) ρ' c' g' a' w' (by simpa using hsz) ?_ ?_
      · have:=unl_set hi' h2 (List.range ops.size) List.nodup_range
        rw[if_pos (List.mem_range.2 h1)] at this
        omega
      · have he:(fun j=>(listed.setIfInBounds i true).getD j false)=upd (fun j=>listed.getD j false) i:=by
          funext j
          unfold upd
          by_cases e:j=i
          · subst e;simp[Array.getD_eq_getD_getElem?,hi']
          · simp[Array.getD_eq_getD_getElem?,Array.getElem?_setIfInBounds,Ne.symm e,e]
        rw[he];exact hI'
theorem dGo_sound{P:Program}{G:Nat}{call:CallF}(hcall:CallOk P G call)(hmix:P.follows .mixedOrders=true){ops:Array Oper}{id:Nat}{fr:Fr}{s:DS}{hp:T AO}{d nx n:Nat}{ρ:Ren}{a:Act}{w:World}
    (hst:StaticOk P ops (ancsOf ops)) (hle:nx+n≤2 ^ d) (hdead:deadFrom hp nx n=true)
    (hgo:dGo ⟨P,G,call,ops,nx+n⟩ ops.toList (ancsOf ops) 0 ⟨fr,⟨hp,d,nx+n⟩,[],[],[],[],nx⟩=some s) (hF:FR ρ fr a.tmps) (hR:Rel ρ ⟨hp,d,nx⟩ w) (hG:Glob ρ G) {ro:Option Nat} {Q:Exit→Act→World→Prop}
    (hQ:∀ ρ' a' w',FR ρ' s.fr a'.tmps→Good ρ ⟨hp,d,nx⟩ w ρ' (allPend s.st s.pend) w'→a'.defers=a.defers→Q .normal a' w'):(Code.region id ops true).wpIn (fence ro) 0 P Q a w:=by
  obtain⟨ds,vs,hd0,hdN,hstep⟩:=dGo_seq _ _ _ _ _ hgo
  rw[Nat.zero_add,Array.length_toList] at hdN
  have hr:Run P G call ops (nx+n) (ancsOf ops) ds vs:=⟨fun p o ho=>by
    have:=hstep p o (by simpa using ho)
    simpa using this⟩
  have hok:T.Ok (ds 0).fr.d (ds 0).fr.t:=by rw[hd0];exact hF.ok
  have hl:(ds 0).fr.lim≤2 ^ (ds 0).fr.d:=by rw[hd0];exact hF.lim
  have hp0:(ds 0).pend=[]:=by rw[hd0]
  have hn0:(ds 0).nid=nx:=by rw[hd0]
  refine wpIn_region_any hmix ?_
  have hR':=hR.drew
  have hI:InvAt P G ops (nx+n) ds vs ρ ⟨hp,d,nx⟩ w a.defers ρ 0 hp.get (fun i=>(Array.replicate ops.size false).getD i false) a { w with drawn:=w.drawn+1 }:=by
    have hDf:∀ i,(Array.replicate ops.size false).getD i false=false:=by
      intro i;simp[Array.getD_eq_getD_getElem?,Array.getElem?_replicate];split<;>rfl
    have hnext:(ds 0).st.next=nx+n:=by rw[hd0]
    have hheap:(ds 0).st.heap=hp:=by rw[hd0]
    have hdep:(ds 0).st.dep=d:=by rw[hd0]
    have hdd:∀ i,nx≤i→i<nx+n→(hp.get i).live=false:=deadFrom_spec _ _ hdead
    have hnm:∀ q,¬Mat P ops ds 0 q:=by rintro q ⟨h,_,_,_,h2,_⟩;omega
    refine⟨Nat.zero_le _,?_,?_,by rw[hheap,hdep];exact hR.ok,by rw[hnext,hdep];exact hle,hdep,by rw[hnext];exact Nat.le_refl _,?_,?_,?_,?_,?_,?_,rfl,?_,?_⟩
    · intro h oh hh;simp only[hDf];constructor
      · intro hx;cases hx
      · intro hx;omega
    · rw[hnext]
      refine⟨.refl ρ,⟨fun i hi=>hR.fresh i (by show nx≤i;omega),?_,?_⟩,by show nx≤_;omega,Nat.le_refl _,rfl,rfl,rfl,fun _ _ _=>rfl,?_,fun _ _ hh=>hh,fun _ _=>rfl⟩
      · intro i hi hlv
        have hin:i<nx:=by
          rcases Nat.lt_or_ge i nx with e|e
          · exact e
          · rw[hdd i e hi] at hlv;cases hlv
        exact hR.live i hin hlv
      · intro i j L M hi hj hne hlv hw hL hM
        have hin:i<nx:=by
          rcases Nat.lt_or_ge i nx with e|e
          · exact e
          · rw[hdd i e hi] at hlv;cases hlv
        have hjn:j<nx:=by
          rcases Nat.lt_or_ge j nx with e|e
          · exact e
          · have:=AO.live_of_writable hw;rw[hdd j e hj] at this;cases this
        exact hR.inj i j L M hin hjn hne hlv hw hL hM
      · intro i L hi hlv hL _
        have hin:i<nx:=by
          rcases Nat.lt_or_ge i nx with e|e
          · exact e
          · rw[hdd i e hi] at hlv;cases hlv
        exact⟨i,L,hin,hlv,hL,rfl,fun q=>q⟩
    · intro q ao _ hd;simp only[hDf] at hd;cases hd
    · intro i _;rw[hheap]
    · intro q ao hm _
      have h1:=(hr.nid_lt hm).1
      have h2:=nid_ge (st0:=⟨hp,d,nx⟩) hr hn0 hm
      rw[hheap];exact hdd _ h2 h1
    · intro q ao hm _
      have h2:=nid_ge (st0:=⟨hp,d,nx⟩) hr hn0 hm
      exact hR.fresh _ h2
    · rw[hd0];exact hF.size
    · intro t ht
      have hb:cur ops vs (fun i=>(Array.replicate ops.size false).getD i false) ((ds 0).fr.get t) t ops.size=(ds 0).fr.get t:=by
        rw[cur_stop (m:=0) ops.size (Nat.zero_le _) (fun q _ _ _=>hDf q)];rfl
      rw[hb,hd0];exact hF.get t
    · intro p _ hd;simp only[hDf] at hd;cases hd
    · intro p hd;simp only[hDf] at hd;cases hd
  refine evDraw_any hcall hr hst hok hl hp0 (st0:=⟨hp,d,nx⟩) hn0 hG ?_ ops.size _ ρ 0 hp.get a _ (by simp) ?_ hI
  ·
    intro ρ' c g D a' w' hJ hall
    have hcs:=hJ.hc
    have hstN:(ds ops.size).st=(ds c).st:=hr.st_same hcs (Nat.le_refl _) (fun h oh hh h1 h2=>by
      have:=(hJ.heavy h oh hh).1 (hall h h2);omega)
    have hmatN:∀ q,Mat P ops ds ops.size q→Mat P ops ds c q:=by
      rintro q ⟨h,oh,hh,a1,a2,a3⟩
      exact⟨h,oh,hh,a1,(hJ.heavy h oh hh).1 (hall h a2),a3⟩
    have hlim:=hJ.lim
    have hids:∀ x∈(ds ops.size).pend,x.2.1<(ds ops.size).st.next:=by
      intro x hx
      obtain⟨q,ao,rfl,_,hm,_⟩:=(hr.pend_spec hp0 ops.size (Nat.le_refl _) x).1 hx
      have:=(hr.nid_lt hm).1
      rw[hstN];simp only[];omega
    obtain⟨m1,m2,m3,m4⟩:=allPend_spec (st:=(ds ops.size).st) (by rw[hstN];exact hJ.ok) (by rw[hstN];exact hJ.le) (ds ops.size).pend hids
    rw[hdN] at m1 m2 m3 m4 hstN
    obtain⟨sfr,sst,spend,shist,srds,ssofts,snid⟩:=s
    simp only[] at m1 m2 m3 m4 hstN
    refine hQ ρ' a' w' ?_ ?_ hJ.defers
    · obtain⟨f1,f2,f3,f4⟩:=hr.fr_spec hok hl ops.size (Nat.le_refl _)
      rw[hdN] at f1 f2 f3 f4
      simp only[] at f1 f2 f3 f4
      refine⟨f3,by rw[f1,f2];exact hl,by rw[f1];exact hJ.tsize,fun t ht=>?_⟩
      rw[f1] at ht
      have h5:=hJ.tmps t ht
      rw[cur_congr (D':=fun _=>true) ops.size (fun q hq _=>hall q hq),← f4 t ht,Fr.get_eq,f1,blt_iff.2 ht] at h5
      exact h5
    · have hg:HGood ρ hp.get nx w ρ' (allPend sst spend).heap.get (allPend sst spend).next w':=by
        have hn:(allPend sst spend).next=(ds c).st.next:=by rw[m1,hstN]
        rw[hn]
        refine hJ.good.congr (fun i hi=>?_)
        rcases m4 i (by rw[hstN];exact hi) with⟨x,hx,b1,b2⟩|⟨b1,b2⟩
        · obtain⟨q,ao,rfl,hq,hm,hno⟩:=(hr.pend_spec hp0 ops.size (Nat.le_refl _) x).1 (by rw[hdN];exact hx)
          simp only[] at b1 b2
          rw[b2,← b1]
          refine(hJ.gP q ao hm (hall q hq) ?_).1.symm
          rintro⟨h,oh,hh,a1,a2,a3⟩
          have:=hno h oh hh a1 (by omega);rw[a3] at this;cases this
        · rw[b2,hstN]
          symm
          apply hJ.gS
          rintro q ao hm hd hnm rfl
          have hq:=(hr.nid_lt hm).2.2
          have hmem:(q,(ds q).nid,ao)∈(ds ops.size).pend:=(hr.pend_spec hp0 ops.size (Nat.le_refl _) _).2 ⟨q,ao,rfl,hq,hm,fun h oh hh a1 a2=>by
            cases hqq:((ancsOf ops).getD h 0).testBit q with
            | false=>rfl
            | true=>exact(hnm (hmatN q ⟨h,oh,hh,a1,a2,hqq⟩)).elim⟩
          rw[hdN] at hmem
          exact b1 _ hmem rfl
      exact HGood.good (st:=⟨hp,d,nx⟩) hg (by rw[m2];exact m3) (by rw[m1,m2,hstN];exact hJ.le) (by rw[m2,hstN];exact hJ.dep)
  ·
    have gen:∀ l:List Nat,unl (Array.replicate ops.size false) l=l.length:=by
      intro l
      induction l with
      | nil=>rfl
      | cons x l ihl =>
        simp only[unl,ihl,List.length_cons]
        have:(Array.replicate ops.size false).getD x false=false:=by
          simp[Array.getD_eq_getD_getElem?,Array.getElem?_replicate];split<;>rfl
        rw[this];simp;omega
    rw[gen,List.length_range]
theorem evDraw_sound{P:Program}{G:Nat}{call:CallF}(hcall:CallOk P G call)(hmix:P.follows .mixedOrders=true){ops:Array Oper}{id:Nat}{fr fr':Fr}{st st':St}{ρ:Ren}{a:Act}{w:World}
    (h:evDraw P G call ops fr st=some (fr',st')) (hF:FR ρ fr a.tmps) (hR:Rel ρ st w) (hG:Glob ρ G) {ro:Option Nat} {Q:Exit→Act→World→Prop}
    (hQ:∀ ρ' a' w',FR ρ' fr' a'.tmps→Good ρ st w ρ' st' w'→a'.defers=a.defers→Q .normal a' w'):(Code.region id ops true).wpIn (fence ro) 0 P Q a w:=by
  unfold evDraw at h
  split at h
  · rename_i n ms hT
    unfold drawT at hT
    simp only[] at hT
    obtain⟨hstat,hTT⟩:=bif_some hT
    simp only[Option.some.injEq,Prod.mk.injEq] at hTT
    obtain⟨rfl,rfl⟩:=hTT
    simp only[Bool.and_eq_true] at hstat
    obtain⟨⟨hs1,hs2⟩,_⟩:=hstat
    have hst:=static_of hs1
    obtain⟨hp,d,nx⟩:=st
    simp only[] at h
    obtain⟨hc,h⟩:=bif_some h
    simp only[Bool.and_eq_true,ble_iff] at hc
    obtain⟨hle,hdead⟩:=hc
    cases hgo:dGo ⟨P,G,call,ops,nx+countA P ops.toList⟩ ops.toList (ancsOf ops) 0 ⟨fr,⟨hp,d,nx+countA P ops.toList⟩,[],[],[],[],nx⟩ with
    | none=>rw[hgo] at h;simp[drawEnd] at h
    | some s =>
      rw[hgo] at h
      refine dGo_sound hcall hmix hst hle hdead hgo hF hR hG ?_
      obtain⟨sfr,sst,spend,shist,srds,ssofts,snid⟩:=s
      simp only[drawEnd,Option.some.injEq,Prod.mk.injEq] at h
      obtain⟨rfl,rfl⟩:=h
      exact hQ
  · cases h
end
end Go.Ev
