/-
  A region that draws: whatever order is drawn, the run ends as the evaluator says.
-/
import Derived.Test.YtdbkocfbhpgpkaaGreatm19
set_option linter.unusedVariables false
set_option linter.unusedSimpArgs false
namespace Go.Ev
open Go
noncomputable section
theorem ancsGo_old:∀ (l:List Oper) (ms:List Nat) (i:Nat),i<ms.length→(ancsGo l ms).getD i 0=ms.getD i 0:=by
  intro l
  induction l with
  | nil=>intros;rfl
  | cons o l ih =>
    intro ms i hi
    rw[ancsGo,ih _ _ (by simp;omega)]
    simp[List.getD,List.getElem?_append_left hi]
theorem edgeMask_congr{ms ms':List Nat}:∀ (es:List Edge),(∀ e∈es,Region.binds .any e=true→ms.getD e.on 0=ms'.getD e.on 0)→edgeMask ms es=edgeMask ms' es:=by
  intro es
  induction es with
  | nil=>intros;rfl
  | cons e es ih =>
    intro h
    simp only[edgeMask]
    rw[ih (fun x hx=>h x (by simp[hx]))]
    cases hb:Region.binds .any e with
    | false=>rfl
    | true=>rw[h e (by simp) hb]
theorem ancsGo_get:∀ (l:List Oper) (ms:List Nat) (k:Nat) (o:Oper),l[k]? = some o→(∀ e∈o.after.toList,Region.binds .any e=true→e.on<ms.length+k) →
    (ancsGo l ms).getD (ms.length+k) 0=edgeMask (ancsGo l ms) o.after.toList:=by
  intro l
  induction l with
  | nil=>intro ms k o h;simp at h
  | cons x l ih =>
    intro ms k o h he
    cases k with
    | zero =>
      simp at h;subst h
      rw[ancsGo,ancsGo_old _ _ _ (by simp)]
      simp only[Nat.add_zero] at he ⊢
      have:(ms++[edgeMask ms x.after.toList]).getD ms.length 0=edgeMask ms x.after.toList:=by simp[List.getD]
      rw[this]
      apply edgeMask_congr
      intro e hm hb
      have:=he e hm hb
      rw[ancsGo_old _ _ _ (by simp;omega)]
      simp[List.getD,List.getElem?_append_left this]
    | succ k =>
      simp only[List.getElem?_cons_succ] at h
      have:=ih (ms++[edgeMask ms x.after.toList]) k o h (fun e hm hb=>by have:=he e hm hb;simp;omega)
      rw[List.length_append,List.length_singleton,show ms.length+1+k=ms.length+(k+1) by omega] at this
      exact this
theorem edgeMask_bit{ms:List Nat}{r:Nat}:∀ (es:List Edge),(edgeMask ms es).testBit r=true→∃ e∈es,Region.binds .any e=true∧(r=e.on∨(ms.getD e.on 0).testBit r=true):=by
  intro es
  induction es with
  | nil=>intro h;simp[edgeMask] at h
  | cons e es ih =>
    intro h
    simp only[edgeMask] at h
    cases hb:Region.binds .any e with
    | false =>
      rw[hb] at h;simp only[cond_false] at h
      obtain⟨x,hx,h1,h2⟩:=ih h
      exact⟨x,by simp[hx],h1,h2⟩
    | true =>
      rw[hb] at h;simp only[cond_true,Nat.testBit_or,Bool.or_eq_true] at h
      rcases h with (h|h)|h
      · rw[Nat.testBit_two_pow] at h
        exact⟨e,by simp,hb,.inl (by simpa using h:e.on=r).symm⟩
      · exact⟨e,by simp,hb,.inr h⟩
      · obtain⟨x,hx,h1,h2⟩:=ih h
        exact⟨x,by simp[hx],h1,h2⟩
theorem memT_iff{t:Nat}:∀ {l:List Nat},memT t l=true↔t∈l:=by
  intro l
  induction l with
  | nil=>simp[memT]
  | cons x l ih =>
    simp only[memT]
    cases hb:Nat.beq t x with
    | true=>have:=beq_iff.1 hb;simp[this]
    | false =>
      simp only[cond_false,ih,List.mem_cons]
      constructor
      · exact .inr
      · rintro (rfl|h)
        · simp at hb
        · exact h
theorem okOne_spec{P:Program}{ops:Array Oper}{mask:Nat}{o:Oper}:∀ (l:List Oper) (k:Nat),okOne P ops mask o l k=true→∀ j q,l[j]? = some q→conflictD P ops q o=true→mask.testBit (k+j)=true:=by
  intro l
  induction l with
  | nil=>intro k _ j q h;simp at h
  | cons x l ih =>
    intro k h j q hq hc
    simp only[okOne,Bool.and_eq_true] at h
    cases j with
    | zero=>simp at hq;subst hq;rw[hc] at h;simpa using h.1
    | succ j =>
      simp only[List.getElem?_cons_succ] at hq
      have:=ih (k+1) h.2 j q hq hc
      rwa[show k+1+j=k+(j+1) by omega] at this
structure StaticOk(P:Program)(ops:Array Oper)(ms:List Nat):Prop where
  edge:∀ p o,ops[p]? = some o→∀ e∈o.after.toList,Region.binds .any e=true→e.on<p
  conf:∀ p o q oq,ops[p]? = some o→ops[q]? = some oq→q<p→conflictD P ops oq o=true→(ms.getD p 0).testBit q=true
theorem staticOk_spec{P:Program}{ops:Array Oper}{ms:List Nat}:∀ (l done:List Oper),staticOk P ops ms done l done.length=true →
    (∀ k o,l[k]? = some o→(∀ e∈o.after.toList,Region.binds .any e=true→e.on<done.length+k) ∧
      ∀ q oq,(done++l)[q]? = some oq→q<done.length+k→conflictD P ops oq o=true→(ms.getD (done.length+k) 0).testBit q=true):=by
  intro l
  induction l with
  | nil=>intro done _ k o h;simp at h
  | cons x l ih =>
    intro done h k o hk
    simp only[staticOk,Bool.and_eq_true] at h
    obtain⟨⟨h1,h2⟩,h3⟩:=h
    cases k with
    | zero =>
      simp at hk;subst hk
      refine⟨fun e he hb=>?_,fun q oq hq hlt hc=>?_⟩
      · have:=List.all_eq_true.1 h1 e he
        rw[hb] at this
        simp only[Bool.not_true,Bool.false_or] at this
        exact blt_iff.1 this
      · simp only[Nat.add_zero] at hlt ⊢
        rw[List.getElem?_append_left hlt] at hq
        have:=okOne_spec done 0 h2 q oq hq hc
        simpa using this
    | succ k =>
      simp only[List.getElem?_cons_succ] at hk
      have:=ih (done++[x]) (by simpa using h3) k o hk
      simp only[List.length_append,List.length_singleton,List.append_assoc,List.singleton_append] at this
      rw[show done.length+1+k=done.length+(k+1) by omega] at this
      exact this
theorem static_of{P:Program}{ops:Array Oper}{ms:List Nat}(h:staticOk P ops ms [] ops.toList 0=true):StaticOk P ops ms:=by
  have:=staticOk_spec ops.toList [] (by simpa using h)
  simp only[List.length_nil,Nat.zero_add,List.nil_append] at this
  refine⟨fun p o hp=>(this p o (by simpa using hp)).1,fun p o q oq hp hq hlt hc=>(this p o (by simpa using hp)).2 q oq (by simpa using hq) hlt hc⟩
theorem anc_in{P:Program}{ops:Array Oper}(hst:StaticOk P ops (ancsOf ops)){D:Nat→Bool}(hcl:∀ p,p<ops.size→D p=true→∀ r,((ancsOf ops).getD p 0).testBit r=true→D r=true)
    {p:Nat} {o:Oper} (hp:ops[p]? = some o) (hd:∀ e∈o.after.toList,Region.binds .any e=true→D e.on=true):∀ r,((ancsOf ops).getD p 0).testBit r=true→D r=true:=by
  intro r hr
  have hget:=ancsGo_get ops.toList [] p o (by simpa using hp) (by simpa using hst.edge p o hp)
  simp only[List.length_nil,Nat.zero_add] at hget
  unfold ancsOf at hr
  rw[hget] at hr
  obtain⟨e,he,hb,h|h⟩:=edgeMask_bit _ hr
  · subst h;exact hd e he hb
  · have hlt:=hst.edge p o hp e he hb
    have hps:p<ops.size:=(Array.getElem?_eq_some_iff.1 hp).1
    exact hcl e.on (by omega) (hd e he hb) r h
structure Run(P:Program)(G:Nat)(call:CallF)(ops:Array Oper)(lim:Nat)(ms:List Nat)(ds:Nat→DS)(vs:Nat→AV):Prop where
  step:∀ p o,ops[p]? = some o→dStep ⟨P,G,call,ops,lim⟩ p (ms.getD p 0) o (ds p)=some (vs p,ds (p+1))
theorem dGo_seq{D:DIn}:∀ (l:List Oper) (ms:List Nat) (p:Nat) (s s':DS),dGo D l ms p s=some s' →
    ∃ (ds:Nat→DS) (vs:Nat→AV),ds p=s∧ds (p+l.length)=s'∧∀ k o,l[k]? = some o→dStep D (p+k) (ms.getD k 0) o (ds (p+k))=some (vs (p+k),ds (p+k+1)):=by
  intro l
  induction l with
  | nil =>
    intro ms p s s' h
    have h':some s=some s':=h
    cases h'
    exact⟨fun _=>s,fun _=>.top,rfl,rfl,by intro k o hk;simp at hk⟩
  | cons o l ih =>
    intro ms p s s' h
    cases ms with
    | nil=>have h':(none:Option DS)=some s':=h;cases h'
    | cons m ms =>
      have h':thenD (dGo D l ms (p+1)) (dStep D p m o s)=some s':=h
      unfold thenD at h'
      split at h'
      · rename_i v s1 hs
        obtain⟨ds,vs,h1,h2,h3⟩:=ih ms (p+1) s1 s' h'
        refine⟨fun i=>if i=p then s else ds i,fun i=>if i=p then v else vs i,by simp,?_,?_⟩
        · simp only[List.length_cons]
          rw[if_neg (by omega),show p+(l.length+1)=p+1+l.length by omega];exact h2
        · intro k o' hk
          cases k with
          | zero =>
            simp at hk;subst hk
            simp only[Nat.add_zero,if_true,Nat.succ_ne_self,if_false,List.getD_cons_zero]
            rw[h1];exact hs
          | succ k =>
            simp only[List.getElem?_cons_succ] at hk
            have:=h3 k o' hk
            have e1:¬p+1+k=p:=by omega
            have e2:¬p+1+k+1=p:=by omega
            rw[show p+(k+1)=p+1+k by omega]
            simp only[e1,e2,if_false,List.getD_cons_succ]
            exact this
      · cases h'
theorem dFin_some{o:Oper}{fr:Fr}{r v:AV}{st:St}{pend:List (Nat×Nat×AO)}{hist:List (Nat×St)}{rds:List (Nat×Oper×Fr×AV)}{softs:List (Nat×Nat)}{nid:Nat}{s:DS}
    (h:dFin o fr r st pend hist rds softs nid=some (v,s)):v=r∧∃ f,fr.put o.dst r=some f∧s=⟨f,st,pend,hist,rds,softs,nid⟩:=by
  unfold dFin at h
  split at h
  · rename_i f hf
    simp only[Option.some.injEq,Prod.mk.injEq] at h
    exact⟨h.1.symm,f,hf,h.2.symm⟩
  · cases h
section facts
variable {P:Program}{G:Nat}{call:CallF}{ops:Array Oper}{lim:Nat}{ms:List Nat}{ds:Nat→DS}{vs:Nat→AV}
def Is (P:Program)(ops:Array Oper)(ds:Nat→DS)(c:Cls)(p:Nat)(o:Oper):Prop:=ops[p]? = some o∧wantedA ops (ds p).fr o=some true∧clsOf P o.op=c
inductive StepSays(P:Program)(G:Nat)(call:CallF)(ops:Array Oper)(lim:Nat)(p mask:Nat)(o:Oper)(s:DS)(v:AV)(s':DS):Prop where
  | skip (hw:wantedA ops s.fr o=some false) (hv:v=undefA) (hs:s'=⟨s'.fr,s.st,s.pend,s.hist,s.rds,s.softs,s.nid⟩)
  | pure (hw:wantedA ops s.fr o=some true) (hc:clsOf P o.op=.pure) (hr:opPure P o.op (valR G (o.looksAt ops) s.fr)=some v) (hs:s'=⟨s'.fr,s.st,s.pend,s.hist,s.rds,s.softs,s.nid⟩)
  | read (hw:wantedA ops s.fr o=some true) (hc:clsOf P o.op=.read) (hr:opRead P o.op (valR G (o.looksAt ops) s.fr) s.st=some v) (hh:histOk P G ops o s.fr v mask s.hist=true)
      (hs:s'=⟨s'.fr,s.st,s.pend,s.hist,(p,o,s.fr,v)::s.rds,s.softs,s.nid⟩)
  | alloc (ao:AO) (f:Nat→AV) (hw:wantedA ops s.fr o=some true) (hc:clsOf P o.op=.alloc) (hr:opAlloc P o.op (valR G (o.looksAt ops) s.fr)=some (ao,f)) (hn:s.nid<lim) (hv:v=f s.nid)
      (hs:s'=⟨s'.fr,s.st,(p,s.nid,ao)::s.pend,s.hist,s.rds,s.softs,s.nid+1⟩)
  | soft (i off len cap es:Nat) (hw:wantedA ops s.fr o=some true) (hc:clsOf P o.op=.soft) (hr:softA P o.op (valR G (o.looksAt ops) s.fr)=some v) (hv:v=.slice i off len cap es)
      (hp:pendRow mask i s.pend=true) (hs:s'=⟨s'.fr,s.st,s.pend,s.hist,s.rds,(p,i)::s.softs,s.nid⟩)
  | heavy (hw:wantedA ops s.fr o=some true) (hc:clsOf P o.op=.heavy) (hso:softsOk mask s.softs s.pend=true) (hr:opHeavy P call o.op (valR G (o.looksAt ops) s.fr) (matSt mask s.st s.pend)=some (v,s'.st))
      (hrd:rdsOk P G ops mask s'.st s.rds=true) (hs:s'=⟨s'.fr,s'.st,restP mask s.pend,(p,s.st)::s.hist,s.rds,s.softs,s.nid⟩)
theorem step_says{p mask:Nat}{o:Oper}{s s':DS}{v:AV}(h:dStep ⟨P,G,call,ops,lim⟩ p mask o s=some (v,s')):s.fr.put o.dst v=some s'.fr∧StepSays P G call ops lim p mask o s v s':=by
  obtain⟨fr,st,pend,hist,rds,softs,nid⟩:=s
  unfold dStep at h
  simp only[DS.frA] at h
  split at h
  · cases h
  · rename_i hw
    simp only[dSkip] at h
    obtain⟨rfl,f,hf,rfl⟩:=dFin_some h
    exact⟨hf,.skip hw rfl rfl⟩
  · rename_i hw
    cases hc:clsOf P o.op with
    | pure =>
      rw[hc] at h
      simp only[dCls,dPure] at h
      split at h
      · rename_i r hr
        obtain⟨rfl,f,hf,rfl⟩:=dFin_some h
        rw[opPureF_eq] at hr
        exact⟨hf,.pure hw hc hr rfl⟩
      · cases h
    | read =>
      rw[hc] at h
      simp only[dCls,dRead] at h
      split at h
      · rename_i r hr
        cases hh:histOk P G ops o fr r mask hist with
        | false=>rw[hh] at h;simp at h
        | true =>
          rw[hh] at h;simp only[cond_true] at h
          obtain⟨rfl,f,hf,rfl⟩:=dFin_some h
          exact⟨hf,.read hw hc hr hh rfl⟩
      · cases h
    | alloc =>
      rw[hc] at h
      simp only[dCls,dAlloc] at h
      split at h
      · rename_i ao fn hr
        cases hh:Nat.blt nid lim with
        | false=>rw[hh] at h;simp at h
        | true =>
          rw[hh] at h;simp only[cond_true] at h
          obtain⟨rfl,f,hf,rfl⟩:=dFin_some h
          exact⟨hf,.alloc ao fn hw hc hr (blt_iff.1 hh) rfl rfl⟩
      · cases h
    | soft =>
      rw[hc] at h
      simp only[dCls,dSoft] at h
      split at h
      · rename_i i off len cap es hr
        cases hh:pendRow mask i pend with
        | false=>rw[hh] at h;simp at h
        | true =>
          rw[hh] at h;simp only[cond_true] at h
          obtain⟨rfl,f,hf,rfl⟩:=dFin_some h
          exact⟨hf,.soft i off len cap es hw hc hr rfl hh rfl⟩
      · cases h
    | heavy =>
      rw[hc] at h
      simp only[dCls,dHeavy] at h
      cases hso:softsOk mask softs pend with
      | false=>rw[hso] at h;simp at h
      | true =>
        rw[hso] at h;simp only[cond_true] at h
        split at h
        · rename_i r st' hr
          cases hh:rdsOk P G ops mask st' rds with
          | false=>rw[hh] at h;simp at h
          | true =>
            rw[hh] at h;simp only[cond_true] at h
            obtain⟨rfl,f,hf,rfl⟩:=dFin_some h
            exact⟨hf,.heavy hw hc hso hr hh rfl⟩
        · cases h
theorem Run.says(hr:Run P G call ops lim ms ds vs){p:Nat}{o:Oper}(hp:ops[p]? = some o) :
    (ds p).fr.put o.dst (vs p)=some (ds (p+1)).fr∧StepSays P G call ops lim p (ms.getD p 0) o (ds p) (vs p) (ds (p+1)):=step_says (hr.step p o hp)
theorem Run.st_same(hr:Run P G call ops lim ms ds vs){x y:Nat}(hxy:x≤y)(hy:y≤ops.size)(hno:∀ h o,Is P ops ds .heavy h o→x≤h→h<y→False):(ds y).st=(ds x).st:=by
  induction y with
  | zero => have : x = 0 := by omega
            subst this;rfl
  | succ y ih =>
    by_cases e:x=y+1
    · subst e;rfl
    · rw[← ih (by omega) (by omega) (fun h o hh h1 h2=>hno h o hh h1 (by omega))]
      obtain⟨o,ho⟩:∃ o,ops[y]? = some o:=⟨_,Array.getElem?_eq_getElem (by omega)⟩
      obtain⟨_,hs⟩:=hr.says ho
      cases hs with
      | skip _ _ hs=>rw[hs]
      | pure _ _ _ hs=>rw[hs]
      | read _ _ _ _ hs=>rw[hs]
      | alloc _ _ _ _ _ _ _ hs=>rw[hs]
      | soft _ _ _ _ _ _ _ _ _ _ hs=>rw[hs]
      | heavy hw hc _ _ _ _=>exact(hno y o ⟨ho,hw,hc⟩ (by omega) (by omega)).elim
theorem Run.hist_spec(hr:Run P G call ops lim ms ds vs){o:Oper}{fr:Fr}{r:AV}{mask:Nat}:∀ (p:Nat),p≤ops.size→histOk P G ops o fr r mask (ds p).hist=true →
    ∀ h oh,Is P ops ds .heavy h oh→h<p→(∀ h' oh',Is P ops ds .heavy h' oh'→h≤h'→h' < p→mask.testBit h'=false)→readSame P G ops o fr r (ds h).st=true:=by
  intro p
  induction p with
  | zero=>intro _ _ h oh _ hlt;omega
  | succ p ih =>
    intro hp hok h oh hh hlt hno
    obtain⟨q,hq⟩:∃ o,ops[p]? = some o:=⟨_,Array.getElem?_eq_getElem (by omega)⟩
    obtain⟨_,hs⟩:=hr.says hq
    have same:(ds (p+1)).hist=(ds p).hist→(¬Is P ops ds .heavy p q)→readSame P G ops o fr r (ds h).st=true:=by
      intro he hnp
      rw[he] at hok
      have:h≠p:=by
        rintro rfl
        have:oh=q:=by have:=hh.1;rw[hq] at this;exact(Option.some.inj this).symm
        subst this;exact hnp hh
      exact ih (by omega) hok h oh hh (by omega) (fun h' oh' a b c=>hno h' oh' a b (by omega))
    cases hs with
    | skip hw _ hs=>exact same (by rw[hs]) (fun hi=>by have:=hi.2.1;rw[hw] at this;cases this)
    | pure _ hc _ hs=>exact same (by rw[hs]) (fun hi=>by have:=hi.2.2;rw[hc] at this;cases this)
    | read _ hc _ _ hs=>exact same (by rw[hs]) (fun hi=>by have:=hi.2.2;rw[hc] at this;cases this)
    | alloc _ _ _ hc _ _ _ hs=>exact same (by rw[hs]) (fun hi=>by have:=hi.2.2;rw[hc] at this;cases this)
    | soft _ _ _ _ _ _ hc _ _ _ hs=>exact same (by rw[hs]) (fun hi=>by have:=hi.2.2;rw[hc] at this;cases this)
    | heavy hw hc _ _ _ hs =>
      have he:(ds (p+1)).hist=(p,(ds p).st)::(ds p).hist:=by rw[hs]
      rw[he] at hok
      simp only[histOk] at hok
      rw[hno p q ⟨hq,hw,hc⟩ (by omega) (by omega)] at hok
      simp only[cond_false,Bool.and_eq_true] at hok
      by_cases e:h=p
      · subst e;exact hok.1
      · exact ih (by omega) hok.2 h oh hh (by omega) (fun h' oh' a b c=>hno h' oh' a b (by omega))
theorem Run.rds_spec(hr:Run P G call ops lim ms ds vs){mask:Nat}{st:St}:∀ (p:Nat),p≤ops.size→rdsOk P G ops mask st (ds p).rds=true →
    ∀ q oq,Is P ops ds .read q oq→q<p→mask.testBit q=false→readSame P G ops oq (ds q).fr (vs q) st=true:=by
  intro p
  induction p with
  | zero=>intro _ _ q oq _ hlt;omega
  | succ p ih =>
    intro hp hok q oq hq hlt hm
    obtain⟨o,ho⟩:∃ o,ops[p]? = some o:=⟨_,Array.getElem?_eq_getElem (by omega)⟩
    obtain⟨_,hs⟩:=hr.says ho
    have same:(ds (p+1)).rds=(ds p).rds→(¬Is P ops ds .read p o)→readSame P G ops oq (ds q).fr (vs q) st=true:=by
      intro he hnp
      rw[he] at hok
      have:q≠p:=by
        rintro rfl
        have:oq=o:=by have:=hq.1;rw[ho] at this;exact(Option.some.inj this).symm
        subst this;exact hnp hq
      exact ih (by omega) hok q oq hq (by omega) hm
    cases hs with
    | skip hw _ hs=>exact same (by rw[hs]) (fun hi=>by have:=hi.2.1;rw[hw] at this;cases this)
    | pure _ hc _ hs=>exact same (by rw[hs]) (fun hi=>by have:=hi.2.2;rw[hc] at this;cases this)
    | heavy _ hc _ _ _ hs=>exact same (by rw[hs]) (fun hi=>by have:=hi.2.2;rw[hc] at this;cases this)
    | alloc _ _ _ hc _ _ _ hs=>exact same (by rw[hs]) (fun hi=>by have:=hi.2.2;rw[hc] at this;cases this)
    | soft _ _ _ _ _ _ hc _ _ _ hs=>exact same (by rw[hs]) (fun hi=>by have:=hi.2.2;rw[hc] at this;cases this)
    | read hw hc _ _ hs =>
      have he:(ds (p+1)).rds=(p,o,(ds p).fr,vs p)::(ds p).rds:=by rw[hs]
      rw[he] at hok
      simp only[rdsOk,Bool.and_eq_true] at hok
      by_cases e:q=p
      · subst e
        have:oq=o:=by have:=hq.1;rw[ho] at this;exact(Option.some.inj this).symm
        subst this
        rw[hm] at hok;simpa using hok.1
      · exact ih (by omega) hok.2 q oq hq (by omega) hm
theorem Run.softs_spec(hr:Run P G call ops lim ms ds vs):∀ (p:Nat),p≤ops.size→∀ q oq i off len cap es,Is P ops ds .soft q oq→vs q=.slice i off len cap es→q<p→(q,i)∈(ds p).softs:=by
  intro p
  induction p with
  | zero=>intro _ q oq _ _ _ _ _ _ _ hlt;omega
  | succ p ih =>
    intro hp q oq i off len cap es hq hv hlt
    obtain⟨o,ho⟩:∃ o,ops[p]? = some o:=⟨_,Array.getElem?_eq_getElem (by omega)⟩
    obtain⟨_,hs⟩:=hr.says ho
    have same:(ds (p+1)).softs=(ds p).softs→(¬Is P ops ds .soft p o)→(q,i)∈(ds (p+1)).softs:=by
      intro he hnp
      rw[he]
      have:q≠p:=by
        rintro rfl
        have:oq=o:=by have:=hq.1;rw[ho] at this;exact(Option.some.inj this).symm
        subst this;exact hnp hq
      exact ih (by omega) q oq i off len cap es hq hv (by omega)
    cases hs with
    | skip hw _ hs=>exact same (by rw[hs]) (fun hi=>by have:=hi.2.1;rw[hw] at this;cases this)
    | pure _ hc _ hs=>exact same (by rw[hs]) (fun hi=>by have:=hi.2.2;rw[hc] at this;cases this)
    | heavy _ hc _ _ _ hs=>exact same (by rw[hs]) (fun hi=>by have:=hi.2.2;rw[hc] at this;cases this)
    | alloc _ _ _ hc _ _ _ hs=>exact same (by rw[hs]) (fun hi=>by have:=hi.2.2;rw[hc] at this;cases this)
    | read _ hc _ _ hs=>exact same (by rw[hs]) (fun hi=>by have:=hi.2.2;rw[hc] at this;cases this)
    | soft i' off' len' cap' es' hw hc _ hv' _ hs =>
      have he:(ds (p+1)).softs=(p,i')::(ds p).softs:=by rw[hs]
      rw[he]
      by_cases e:q=p
      · subst e
        rw[hv] at hv';cases hv'
        simp
      · exact List.mem_cons_of_mem _ (ih (by omega) q oq i off len cap es hq hv (by omega))
def Makes(P:Program)(G:Nat)(ops:Array Oper)(ds:Nat→DS)(q:Nat)(ao:AO):Prop:=
  ∃ o f,Is P ops ds .alloc q o∧opAlloc P o.op (valR G (o.looksAt ops) (ds q).fr)=some (ao,f)
theorem restP_mem{mask:Nat}{x:Nat×Nat×AO}:∀ {l:List (Nat×Nat×AO)},x∈restP mask l↔x∈l∧mask.testBit x.1=false:=by
  intro l
  induction l with
  | nil=>simp[restP]
  | cons y l ih =>
    obtain⟨q,id,ao⟩:=y
    simp only[restP]
    cases hb:mask.testBit q with
    | true =>
      simp only[cond_true,ih,List.mem_cons]
      constructor
      · rintro⟨h1,h2⟩;exact⟨.inr h1,h2⟩
      · rintro⟨rfl|h1,h2⟩
        · rw[hb] at h2;cases h2
        · exact⟨h1,h2⟩
    | false =>
      simp only[cond_false,List.mem_cons,ih]
      constructor
      · rintro (rfl|⟨h1,h2⟩)
        · exact⟨.inl rfl,hb⟩
        · exact⟨.inr h1,h2⟩
      · rintro⟨rfl|h1,h2⟩
        · exact .inl rfl
        · exact .inr ⟨h1,h2⟩
theorem Run.pend_spec(hr:Run P G call ops lim ms ds vs)(h0:(ds 0).pend=[]):∀ (p:Nat),p≤ops.size→∀ x,x∈(ds p).pend ↔
    ∃ q ao,x=(q,(ds q).nid,ao)∧q<p∧Makes P G ops ds q ao∧∀ h oh,Is P ops ds .heavy h oh→q<h→h<p→(ms.getD h 0).testBit q=false:=by
  intro p
  induction p with
  | zero =>
    intro _ x
    rw[h0]
    constructor
    · intro h;simp at h
    · rintro⟨q,ao,_,h,_⟩;omega
  | succ p ih =>
    intro hp x
    obtain⟨o,ho⟩:∃ o,ops[p]? = some o:=⟨_,Array.getElem?_eq_getElem (by omega)⟩
    obtain⟨_,hs⟩:=hr.says ho
    have isu:∀ {c o'},Is P ops ds c p o'→o'=o:=fun h=>by have:=h.1;rw[ho] at this;exact(Option.some.inj this).symm
    have same:(ds (p+1)).pend=(ds p).pend→(∀ o',¬Is P ops ds .heavy p o')→(∀ o',¬Is P ops ds .alloc p o')→(x∈(ds (p+1)).pend ↔
        ∃ q ao,x=(q,(ds q).nid,ao)∧q<p+1∧Makes P G ops ds q ao∧∀ h oh,Is P ops ds .heavy h oh→q<h→h<p+1→(ms.getD h 0).testBit q=false):=by
      intro he hnh hna
      rw[he,ih (by omega)]
      constructor
      · rintro⟨q,ao,h1,h2,h3,h4⟩
        refine⟨q,ao,h1,by omega,h3,fun h oh hh a b=>?_⟩
        by_cases e:h=p
        · subst e;exact(hnh _ hh).elim
        · exact h4 h oh hh a (by omega)
      · rintro⟨q,ao,h1,h2,h3,h4⟩
        have:q≠p:=by rintro rfl;obtain⟨o',f,hi,_⟩:=h3;exact hna _ hi
        exact⟨q,ao,h1,by omega,h3,fun h oh hh a b=>h4 h oh hh a (by omega)⟩
    have no:∀ (c d:Cls),clsOf P o.op=c→c≠d→∀ o',¬Is P ops ds d p o':=by
      intro c d hc hne o' hi
      have:=isu hi;subst this
      exact hne (hc.symm.trans hi.2.2)
    cases hs with
    | skip hw _ hs =>
      have nw:∀ c o',¬Is P ops ds c p o':=fun c o' hi=>by
        have:=isu hi;subst this
        have:=hi.2.1;rw[hw] at this;cases this
      exact same (by rw[hs]) (nw _) (nw _)
    | pure _ hc _ hs=>exact same (by rw[hs]) (no _ _ hc (by simp)) (no _ _ hc (by simp))
    | read _ hc _ _ hs=>exact same (by rw[hs]) (no _ _ hc (by simp)) (no _ _ hc (by simp))
    | soft _ _ _ _ _ _ hc _ _ _ hs=>exact same (by rw[hs]) (no _ _ hc (by simp)) (no _ _ hc (by simp))
    | alloc ao f hw hc ha _ _ hs =>
      have he:(ds (p+1)).pend=(p,(ds p).nid,ao)::(ds p).pend:=by rw[hs]
      rw[he,List.mem_cons,ih (by omega)]
      have hnh:=no _ .heavy hc (by simp)
      constructor
      · rintro (rfl|⟨q,ao',h1,h2,h3,h4⟩)
        · exact⟨p,ao,rfl,by omega,⟨o,f,⟨ho,hw,hc⟩,ha⟩,fun h oh hh a b=>by omega⟩
        · refine⟨q,ao',h1,by omega,h3,fun h oh hh a b=>?_⟩
          by_cases e:h=p
          · subst e;exact(hnh _ hh).elim
          · exact h4 h oh hh a (by omega)
      · rintro⟨q,ao',h1,h2,h3,h4⟩
        by_cases e:q=p
        · subst e
          obtain⟨o',f',hi,ha'⟩:=h3
          have:=isu hi;subst this
          rw[ha] at ha';cases ha'
          exact .inl h1
        · exact .inr ⟨q,ao',h1,by omega,h3,fun h oh hh a b=>h4 h oh hh a (by omega)⟩
    | heavy hw hc _ _ _ hs =>
      have he:(ds (p+1)).pend=restP (ms.getD p 0) (ds p).pend:=by rw[hs]
      rw[he,restP_mem,ih (by omega)]
      have hna:=no _ .alloc hc (by simp)
      constructor
      · rintro⟨⟨q,ao,rfl,h2,h3,h4⟩,h5⟩
        refine⟨q,ao,rfl,by omega,h3,fun h oh hh a b=>?_⟩
        by_cases e:h=p
        · subst e;exact h5
        · exact h4 h oh hh a (by omega)
      · rintro⟨q,ao,rfl,h2,h3,h4⟩
        have hqp:q≠p:=by rintro rfl;obtain⟨o',f,hi,_⟩:=h3;exact hna _ hi
        exact⟨⟨q,ao,rfl,by omega,h3,fun h oh hh a b=>h4 h oh hh a (by omega)⟩,h4 p o ⟨ho,hw,hc⟩ (by omega) (by omega)⟩
theorem Run.nid_mono(hr:Run P G call ops lim ms ds vs){p q:Nat}(hpq:p≤q)(hq:q≤ops.size):(ds p).nid≤(ds q).nid:=by
  induction q with
  | zero => have : p = 0 := by omega
            subst this;exact Nat.le_refl _
  | succ q ih =>
    by_cases e:p=q+1
    · subst e;exact Nat.le_refl _
    · have h1:=ih (by omega) (by omega)
      obtain⟨o,ho⟩:∃ o,ops[q]? = some o:=⟨_,Array.getElem?_eq_getElem (by omega)⟩
      obtain⟨_,hs⟩:=hr.says ho
      have:(ds q).nid≤(ds (q+1)).nid:=by
        cases hs with
        | skip _ _ hs=>rw[hs];exact Nat.le_refl _
        | pure _ _ _ hs=>rw[hs];exact Nat.le_refl _
        | read _ _ _ _ hs=>rw[hs];exact Nat.le_refl _
        | alloc _ _ _ _ _ _ _ hs=>rw[hs];exact Nat.le_succ _
        | soft _ _ _ _ _ _ _ _ _ _ hs=>rw[hs];exact Nat.le_refl _
        | heavy _ _ _ _ _ hs=>rw[hs];exact Nat.le_refl _
      omega
theorem Run.nid_lt(hr:Run P G call ops lim ms ds vs){q:Nat}{ao:AO}(h:Makes P G ops ds q ao):(ds q).nid<lim∧(ds (q+1)).nid=(ds q).nid+1∧q<ops.size:=by
  obtain⟨o,f,⟨ho,hw,hc⟩,ha⟩:=h
  have hq:q<ops.size:=(Array.getElem?_eq_some_iff.1 ho).1
  obtain⟨_,hs⟩:=hr.says ho
  cases hs with
  | skip hw' _ _=>rw[hw] at hw';cases hw'
  | pure _ hc' _ _=>rw[hc] at hc';cases hc'
  | read _ hc' _ _ _=>rw[hc] at hc';cases hc'
  | alloc _ _ _ _ _ hn _ hs=>exact⟨hn,by rw[hs],hq⟩
  | soft _ _ _ _ _ _ hc' _ _ _ _=>rw[hc] at hc';cases hc'
  | heavy _ hc' _ _ _ _=>rw[hc] at hc';cases hc'
theorem Run.nid_inj(hr:Run P G call ops lim ms ds vs){q q':Nat}{ao ao':AO}(h:Makes P G ops ds q ao)(h':Makes P G ops ds q' ao')(e:(ds q).nid=(ds q').nid):q=q':=by
  obtain⟨_,h2,h3⟩:=hr.nid_lt h
  obtain⟨_,h2',h3'⟩:=hr.nid_lt h'
  rcases Nat.lt_trichotomy q q' with g|g|g
  · have:=hr.nid_mono (p:=q+1) (q:=q') (by omega) (by omega);omega
  · exact g
  · have:=hr.nid_mono (p:=q'+1) (q:=q) (by omega) (by omega);omega
end facts
end
end Go.Ev
namespace Go.Ev
open Go
noncomputable section
theorem exists_least{Q:Nat→Prop}:∀ (n:Nat),(∃ h,h<n∧Q h)→∃ h,h<n∧Q h∧∀ h',h' < h→¬Q h':=by
  intro n
  induction n with
  | zero=>rintro⟨h,hh,_⟩;omega
  | succ n ih =>
    rintro⟨h,hh,hq⟩
    by_cases hex:∃ h,h<n∧Q h
    · obtain⟨k,h1,h2,h3⟩:=ih hex
      exact⟨k,by omega,h2,h3⟩
    · refine⟨h,hh,hq,fun h' hlt hq'=>hex ⟨h',by omega,hq'⟩⟩
theorem exists_greatest{Q:Nat→Prop}:∀ (n:Nat),(∃ h,h<n∧Q h)→∃ h,h<n∧Q h∧∀ h',h<h'→h' < n→¬Q h':=by
  intro n
  induction n with
  | zero=>rintro⟨h,hh,_⟩;omega
  | succ n ih =>
    rintro⟨h,hh,hq⟩
    by_cases hn:Q n
    · exact⟨n,by omega,hn,fun h' h1 h2=>by omega⟩
    · have:h≠n:=by rintro rfl;exact hn hq
      obtain⟨k,h1,h2,h3⟩:=ih ⟨h,by omega,hq⟩
      refine⟨k,by omega,h2,fun h' a b=>?_⟩
      by_cases e:h'=n
      · subst e;exact hn
      · exact h3 h' a (by omega)
def dstAt(ops:Array Oper)(p:Nat):Option Tmp:=(ops[p]?).bind (·.dst)
def cur (ops:Array Oper)(vs:Nat→AV)(D:Nat→Bool)(base:AV)(t:Nat):Nat→AV
  | 0=>base
  | p+1=>if D p=true∧dstAt ops p=some t then vs p else cur ops vs D base t p
theorem cur_congr{ops:Array Oper}{vs:Nat→AV}{D D':Nat→Bool}{base:AV}{t:Nat}:∀ (n:Nat),(∀ q,q<n→dstAt ops q=some t→D q=D' q)→cur ops vs D base t n=cur ops vs D' base t n:=by
  intro n
  induction n with
  | zero=>intros;rfl
  | succ n ih =>
    intro h
    simp only[cur]
    rw[ih (fun q hq=>h q (by omega))]
    by_cases hd:dstAt ops n=some t
    · rw[h n (by omega) hd]
    · simp[hd]
theorem cur_stop{ops:Array Oper}{vs:Nat→AV}{D:Nat→Bool}{base:AV}{t:Nat}{m:Nat}:∀ (n:Nat),m≤n→(∀ q,m≤q→q<n→dstAt ops q=some t→D q=false)→cur ops vs D base t n=cur ops vs D base t m:=by
  intro n
  induction n with
  | zero => intro h _; have : m = 0 := by omega
            subst this;rfl
  | succ n ih =>
    intro h hno
    by_cases e:m=n+1
    · subst e;rfl
    · simp only[cur]
      rw[ih (by omega) (fun q a b c=>hno q a (by omega) c)]
      rw[if_neg]
      rintro⟨h1,h2⟩
      rw[hno n (by omega) (by omega) h2] at h1;cases h1
theorem Fr.put_get{f f':Fr}{dst:Option Tmp}{v:AV}(hp:f.put dst v=some f')(hok:T.Ok f.d f.t)(hl:f.lim≤2 ^ f.d) :
    f'.lim=f.lim∧f'.d=f.d∧T.Ok f'.d f'.t∧(∀ t,dst=some t→t<f.lim)∧∀ t,t<f.lim→f'.get t=if dst=some t then v else f.get t:=by
  cases dst with
  | none =>
    simp only[Fr.put,Option.some.injEq] at hp;subst hp
    exact⟨rfl,rfl,hok,(fun t h=>by cases h),(fun t _=>by simp)⟩
  | some i =>
    rw[Fr.put_some] at hp
    cases hb:Nat.blt i f.lim with
    | false=>rw[hb] at hp;simp at hp
    | true =>
      rw[hb] at hp;simp only[cond_true,Option.some.injEq] at hp;subst hp
      have hi:=blt_iff.1 hb
      refine⟨rfl,rfl,hok.set i v,fun t h=>by cases h;exact hi,fun t ht=>?_⟩
      rw[Fr.get_eq,Fr.get_eq]
      have hbt:Nat.blt t f.lim=true:=blt_iff.2 ht
      simp only[hbt,cond_true]
      by_cases e:i=t
      · subst e;rw[if_pos rfl,T.get_set_same]
      · rw[if_neg (by simpa using e),T.get_set_ne f.d f.t i t v hok (by omega) (by omega) e]
theorem Run.fr_spec{P:Program}{G:Nat}{call:CallF}{ops:Array Oper}{lim:Nat}{ms:List Nat}{ds:Nat→DS}{vs:Nat→AV}(hr:Run P G call ops lim ms ds vs)
    (hok:T.Ok (ds 0).fr.d (ds 0).fr.t) (hl:(ds 0).fr.lim≤2 ^ (ds 0).fr.d):∀ p,p≤ops.size →
    (ds p).fr.lim=(ds 0).fr.lim∧(ds p).fr.d=(ds 0).fr.d∧T.Ok (ds p).fr.d (ds p).fr.t∧∀ t,t<(ds 0).fr.lim→(ds p).fr.get t=cur ops vs (fun _=>true) ((ds 0).fr.get t) t p:=by
  intro p
  induction p with
  | zero=>intro _;exact⟨rfl,rfl,hok,fun _ _=>rfl⟩
  | succ p ih =>
    intro hp
    obtain⟨h1,h2,h3,h4⟩:=ih (by omega)
    obtain⟨o,ho⟩:∃ o,ops[p]? = some o:=⟨_,Array.getElem?_eq_getElem (by omega)⟩
    obtain⟨hput,_⟩:=hr.says ho
    obtain⟨g1,g2,g3,_,g5⟩:=Fr.put_get hput h3 (by rw[h1,h2];exact hl)
    refine⟨g1.trans h1,g2.trans h2,g3,fun t ht=>?_⟩
    rw[g5 t (by omega),h4 t ht]
    simp only[cur,dstAt,ho,Option.bind_some,true_and]
theorem mkRow_live{x:Blk}{o:AO}(h:mkRow x=some o):o.live=true:=by
  cases x with
  | l y =>
    simp only[mkRow] at h
    cases hb:Nat.ble y.length (2 ^ depthOf 64 y.length)<;>rw[hb] at h<;>simp at h
    subst h;rfl
  | b n m=>simp only[mkRow,Option.some.injEq] at h;subst h;rfl
theorem opAlloc_live{P:Program}{o:Op}{v:Operand→AV}{ao:AO}{f:Nat→AV}(h:opAlloc P o v=some (ao,f)):ao.live=true:=by
  unfold opAlloc at h
  repeat' split at h
  all_goals first
    | (cases h;done)
    | (simp only[Option.map_eq_some_iff,Prod.mk.injEq] at h;obtain⟨x,hx,rfl,_⟩:=h;exact mkRow_live hx)
    | (simp only[Option.some.injEq,Prod.mk.injEq] at h;obtain⟨rfl,_⟩:=h;rfl)
    | (obtain⟨_,h⟩:=bif_some h;first
        | (cases h;done)
        | (simp only[Option.map_eq_some_iff,Prod.mk.injEq] at h;obtain⟨x,hx,rfl,_⟩:=h;exact mkRow_live hx))
theorem matSt_spec{mask:Nat}{st:St}(hok:T.Ok st.dep st.heap)(hle:st.next≤2 ^ st.dep):∀ (l:List (Nat×Nat×AO)),(∀ x∈l,x.2.1<st.next) →
    (matSt mask st l).next=st.next∧(matSt mask st l).dep=st.dep∧T.Ok st.dep (matSt mask st l).heap ∧
    ∀ i,i<st.next→(∃ x∈l,mask.testBit x.1=true∧x.2.1=i∧(matSt mask st l).heap.get i=x.2.2)∨((∀ x∈l,mask.testBit x.1=true→x.2.1≠i)∧(matSt mask st l).heap.get i=st.heap.get i):=by
  intro l
  induction l with
  | nil=>intro _;exact⟨rfl,rfl,hok,fun i _=>.inr ⟨by simp,rfl⟩⟩
  | cons x l ih =>
    intro hlt
    obtain⟨q,id,ao⟩:=x
    obtain⟨h1,h2,h3,h4⟩:=ih (fun x hx=>hlt x (by simp[hx]))
    have hid:id<st.next:=hlt (q,id,ao) (by simp)
    simp only[matSt]
    cases hb:mask.testBit q with
    | false =>
      simp only[cond_false]
      refine⟨h1,h2,h3,fun i hi=>?_⟩
      rcases h4 i hi with⟨x,hx,a,b,c⟩|⟨a,b⟩
      · exact .inl ⟨x,by simp[hx],a,b,c⟩
      · refine .inr ⟨fun x hx hbit=>?_,b⟩
        rcases List.mem_cons.1 hx with rfl|hx
        · rw[hb] at hbit;cases hbit
        · exact a x hx hbit
    | true =>
      simp only[cond_true]
      refine⟨h1,h2,T.Ok.set id ao h3,fun i hi=>?_⟩
      by_cases e:id=i
      · subst e
        exact .inl ⟨(q,id,ao),by simp,hb,rfl,T.get_set_same _ _ _⟩
      · have hne:((matSt mask st l).put id ao).heap.get i=(matSt mask st l).heap.get i:=
          T.get_set_ne st.dep _ id i ao h3 (by omega) (by omega) e
        rcases h4 i hi with⟨x,hx,a,b,c⟩|⟨a,b⟩
        · exact .inl ⟨x,by simp[hx],a,b,hne.trans c⟩
        · refine .inr ⟨fun x hx hbit=>?_,hne.trans b⟩
          rcases List.mem_cons.1 hx with rfl|hx
          · exact e
          · exact a x hx hbit
theorem allPend_spec{st:St}(hok:T.Ok st.dep st.heap)(hle:st.next≤2 ^ st.dep):∀ (l:List (Nat×Nat×AO)),(∀ x∈l,x.2.1<st.next) →
    (allPend st l).next=st.next∧(allPend st l).dep=st.dep∧T.Ok st.dep (allPend st l).heap ∧
    ∀ i,i<st.next→(∃ x∈l,x.2.1=i∧(allPend st l).heap.get i=x.2.2)∨((∀ x∈l,x.2.1≠i)∧(allPend st l).heap.get i=st.heap.get i):=by
  intro l
  induction l with
  | nil=>intro _;exact⟨rfl,rfl,hok,fun i _=>.inr ⟨by simp,rfl⟩⟩
  | cons x l ih =>
    intro hlt
    obtain⟨q,id,ao⟩:=x
    obtain⟨h1,h2,h3,h4⟩:=ih (fun x hx=>hlt x (by simp[hx]))
    have hid:id<st.next:=hlt (q,id,ao) (by simp)
    simp only[allPend]
    refine⟨h1,h2,T.Ok.set id ao h3,fun i hi=>?_⟩
    by_cases e:id=i
    · subst e
      exact .inl ⟨(q,id,ao),by simp,rfl,T.get_set_same _ _ _⟩
    · have hne:((allPend st l).put id ao).heap.get i=(allPend st l).heap.get i:=
        T.get_set_ne st.dep _ id i ao h3 (by omega) (by omega) e
      rcases h4 i hi with⟨x,hx,b,c⟩|⟨a,b⟩
      · exact .inl ⟨x,by simp[hx],b,hne.trans c⟩
      · refine .inr ⟨fun x hx=>?_,hne.trans b⟩
        rcases List.mem_cons.1 hx with rfl|hx
        · exact e
        · exact a x hx
section inv
variable (P:Program)(G:Nat)(ops:Array Oper)(lim:Nat)(ds:Nat→DS)(vs:Nat→AV)
def Mat (c q:Nat):Prop:=∃ h oh,Is P ops ds .heavy h oh∧q<h∧h<c∧((ancsOf ops).getD h 0).testBit q=true
structure InvAt(ρ0:Ren)(st0:St)(w0:World)(df:List Deferred)(ρ:Ren)(c:Nat)(g:Nat→AO)(D:Nat→Bool)(a:Act)(w:World):Prop where
  hc:c≤ops.size
  heavy:∀ h oh,Is P ops ds .heavy h oh→(D h=true↔h<c)
  good:HGood ρ0 st0.heap.get st0.next w0 ρ g (ds c).st.next w
  ok:T.Ok (ds c).st.dep (ds c).st.heap
  le:(ds c).st.next≤2 ^ (ds c).st.dep
  dep:(ds c).st.dep=st0.dep
  lim:lim≤(ds c).st.next
  gP:∀ q ao,Makes P G ops ds q ao→D q=true→¬Mat P ops ds c q→g (ds q).nid=ao∧∃ L,ρ (ds q).nid=some L∧w0.heap.size≤L.b
  gS:∀ i,(∀ q ao,Makes P G ops ds q ao→D q=true→¬Mat P ops ds c q→i≠(ds q).nid)→g i=(ds c).st.heap.get i
  dead:∀ q ao,Makes P G ops ds q ao→¬Mat P ops ds c q→((ds c).st.heap.get (ds q).nid).live=false
  free:∀ q ao,Makes P G ops ds q ao→D q=false→ρ (ds q).nid=none
  tsize:(ds 0).fr.lim≤a.tmps.size
  tmps:∀ t,t<(ds 0).fr.lim→VR ρ (cur ops vs D ((ds 0).fr.get t) t ops.size) (a.tmps.getD t undef)
  defers:a.defers=df
  closed:∀ p,p<ops.size→D p=true→∀ r,((ancsOf ops).getD p 0).testBit r=true→D r=true
  inr:∀ p,D p=true→p<ops.size
end inv
def upd (D:Nat→Bool)(p:Nat):Nat→Bool:=fun q=>if q=p then true else D q
theorem upd_same(D:Nat→Bool)(p:Nat):upd D p p=true:=by simp[upd]
theorem upd_ne{D:Nat→Bool}{p q:Nat}(h:q≠p):upd D p q=D q:=by simp[upd,h]
section step
variable {P:Program}{G:Nat}{call:CallF}{ops:Array Oper}{lim:Nat}{ds:Nat→DS}{vs:Nat→AV}{ρ0:Ren}{st0:St}{w0:World}{df:List Deferred}
theorem InvAt.looks{ρ:Ren}{c:Nat}{g:Nat→AO}{D:Nat→Bool}{a:Act}{w:World}(hI:InvAt P G ops lim ds vs ρ0 st0 w0 df ρ c g D a w)(hr:Run P G call ops lim (ancsOf ops) ds vs)(hst:StaticOk P ops (ancsOf ops))
    (hok:T.Ok (ds 0).fr.d (ds 0).fr.t) (hl:(ds 0).fr.lim≤2 ^ (ds 0).fr.d) {p:Nat} {o:Oper} (hp:ops[p]? = some o) (hD:D p=false) (hanc:∀ r,((ancsOf ops).getD p 0).testBit r=true→D r=true) :
    ∀ t,t∈touch ops o→t<(ds 0).fr.lim→cur ops vs D ((ds 0).fr.get t) t ops.size=(ds p).fr.get t:=by
  intro t ht htl
  have hps:p<ops.size:=(Array.getElem?_eq_some_iff.1 hp).1
  obtain⟨_,_,_,h4⟩:=hr.fr_spec hok hl p (by omega)
  rw[h4 t htl]
  have hafter:∀ q,p≤q→q<ops.size→dstAt ops q=some t→D q=false:=by
    intro q h1 h2 hd
    by_cases e:q=p
    · subst e;exact hD
    · obtain⟨oq,hoq⟩:∃ o,ops[q]? = some o:=⟨_,Array.getElem?_eq_getElem h2⟩
      have hdq:oq.dst=some t:=by simpa[dstAt,hoq] using hd
      have hconf:conflictD P ops o oq=true:=by
        simp only[conflictD,hdq,Bool.or_eq_true]
        exact .inl (.inr (memT_iff.2 ht))
      have hbit:=hst.conf q oq p o hoq hp (by omega) hconf
      cases hDq:D q with
      | false=>rfl
      | true=>have:=hI.closed q h2 hDq p hbit;rw[hD] at this;cases this
  rw[cur_stop ops.size (by omega) hafter]
  apply cur_congr
  intro q hq hd
  obtain⟨oq,hoq⟩:∃ o,ops[q]? = some o:=⟨_,Array.getElem?_eq_getElem (by omega)⟩
  have hdq:oq.dst=some t:=by simpa[dstAt,hoq] using hd
  have hconf:conflictD P ops oq o=true:=by
    simp only[conflictD,hdq,Bool.or_eq_true]
    exact .inl (.inl (memT_iff.2 ht))
  exact hanc q (hst.conf p o q oq hp hoq hq hconf)
theorem InvAt.frame{ρ ρ':Ren}{c:Nat}{g:Nat→AO}{D:Nat→Bool}{a:Act}{w:World}(hI:InvAt P G ops lim ds vs ρ0 st0 w0 df ρ c g D a w)(hr:Run P G call ops lim (ancsOf ops) ds vs)(hst:StaticOk P ops (ancsOf ops))
    (hok:T.Ok (ds 0).fr.d (ds 0).fr.t) (hl:(ds 0).fr.lim≤2 ^ (ds 0).fr.d) {p:Nat} {o:Oper} (hp:ops[p]? = some o) (hD:D p=false) {z:Value} (he:Ext ρ ρ') (hz:VR ρ' (vs p) z) :
    (ds 0).fr.lim≤(a.put o.dst z).tmps.size∧∀ t,t<(ds 0).fr.lim→VR ρ' (cur ops vs (upd D p) ((ds 0).fr.get t) t ops.size) ((a.put o.dst z).tmps.getD t undef):=by
  have hps:p<ops.size:=(Array.getElem?_eq_some_iff.1 hp).1
  obtain⟨h1,h2,h3,_⟩:=hr.fr_spec hok hl p (by omega)
  obtain⟨hput,_⟩:=hr.says hp
  obtain⟨_,_,_,g4,_⟩:=Fr.put_get hput h3 (by rw[h1,h2];exact hl)
  have hsz:(a.put o.dst z).tmps.size=a.tmps.size:=by cases o.dst<;>simp[Act.put]
  refine⟨by rw[hsz];exact hI.tsize,fun t ht=>?_⟩
  by_cases hd:o.dst=some t
  · have hdt:dstAt ops p=some t:=by simp[dstAt,hp,hd]
    have hafter:∀ q,p+1≤q→q<ops.size→dstAt ops q=some t→upd D p q=false:=by
      intro q q1 q2 hdq
      rw[upd_ne (by omega)]
      obtain⟨oq,hoq⟩:∃ o,ops[q]? = some o:=⟨_,Array.getElem?_eq_getElem q2⟩
      have hdq':oq.dst=some t:=by simpa[dstAt,hoq] using hdq
      have hconf:conflictD P ops o oq=true:=by
        simp only[conflictD,hdq',Bool.or_eq_true]
        exact .inl (.inr (memT_iff.2 (by simp[touch,hd])))
      have hbit:=hst.conf q oq p o hoq hp (by omega) hconf
      cases hDq:D q with
      | false=>rfl
      | true=>have:=hI.closed q q2 hDq p hbit;rw[hD] at this;cases this
    rw[cur_stop ops.size (by omega) hafter]
    simp only[cur,upd_same,hdt,and_self,if_true]
    have hts:t<a.tmps.size:=Nat.lt_of_lt_of_le ht hI.tsize
    rw[hd]
    simp only[Act.put,Array.getD_eq_getD_getElem?,Array.getElem?_setIfInBounds,if_true,hts,Option.getD_some]
    exact hz
  · have hdt:dstAt ops p≠some t:=by simpa[dstAt,hp] using hd
    rw[cur_congr (D':=D) ops.size (fun q hq hdq=>upd_ne (by rintro rfl;exact hdt hdq))]
    have:(a.put o.dst z).tmps.getD t undef=a.tmps.getD t undef:=by
      cases hdd:o.dst with
      | none=>rfl
      | some i =>
        have hne:i≠t:=by rintro rfl;exact hd hdd
        simp only[Act.put,Array.getD_eq_getD_getElem?,Array.getElem?_setIfInBounds,hne,if_false]
    rw[this]
    exact(hI.tmps t ht).ext he
theorem InvAt.light{ρ:Ren}{c:Nat}{g:Nat→AO}{D:Nat→Bool}{a:Act}{w w':World}(hI:InvAt P G ops lim ds vs ρ0 st0 w0 df ρ c g D a w)(hr:Run P G call ops lim (ancsOf ops) ds vs)(hst:StaticOk P ops (ancsOf ops))
    (hok:T.Ok (ds 0).fr.d (ds 0).fr.t) (hl:(ds 0).fr.lim≤2 ^ (ds 0).fr.d) {p:Nat} {o:Oper} (hp:ops[p]? = some o) (hD:D p=false) (hanc:∀ r,((ancsOf ops).getD p 0).testBit r=true→D r=true)
    {z:Value} (hz:VR ρ (vs p) z) (hnh:∀ o',¬Is P ops ds .heavy p o') (hna:∀ ao,¬Makes P G ops ds p ao) (hg:HGood ρ0 st0.heap.get st0.next w0 ρ g (ds c).st.next w') :
    InvAt P G ops lim ds vs ρ0 st0 w0 df ρ c g (upd D p) (a.put o.dst z) w':=by
  have hps:p<ops.size:=(Array.getElem?_eq_some_iff.1 hp).1
  obtain⟨f1,f2⟩:=hI.frame hr hst hok hl hp hD (.refl ρ) hz
  have hq:∀ q ao,Makes P G ops ds q ao→upd D p q=D q:=fun q ao hm=>upd_ne (by rintro rfl;exact hna ao hm)
  refine⟨hI.hc,?_,hg,hI.ok,hI.le,hI.dep,hI.lim,?_,?_,hI.dead,?_,f1,f2,?_,?_,?_⟩
  · intro h oh hh
    rw[upd_ne (by rintro rfl;exact hnh _ hh)];exact hI.heavy h oh hh
  · intro q ao hm hd;rw[hq q ao hm] at hd;exact hI.gP q ao hm hd
  · intro i hi;exact hI.gS i (fun q ao hm hd=>hi q ao hm (by rw[hq q ao hm];exact hd))
  · intro q ao hm hd;rw[hq q ao hm] at hd;exact hI.free q ao hm hd
  · have:(a.put o.dst z).defers=a.defers:=by cases o.dst<;>rfl
    rw[this];exact hI.defers
  · intro q hq' hd r hr'
    by_cases e:q=p
    · subst e
      have:=hanc r hr'
      by_cases e':r=q
      · subst e';exact upd_same _ _
      · rw[upd_ne e'];exact this
    · rw[upd_ne e] at hd
      have:=hI.closed q hq' hd r hr'
      by_cases e':r=p
      · subst e';exact upd_same _ _
      · rw[upd_ne e'];exact this
  · intro q hd
    by_cases e:q=p
    · subst e;exact hps
    · rw[upd_ne e] at hd;exact hI.inr q hd
end step
end
end Go.Ev
