/-
  The evaluator: control flow and calls are sound.
-/
import Derived.Test.YtdbkocfbhpgpkaaGreatm21
import Derived.Test.YtdbkocfbhpgpkaaGreatm19
import Derived.RangeFuncLeaves
import Derived.RangeFuncRecord
import Derived.RangeFuncNested
import Derived.RecoverIn
set_option linter.unusedVariables false
set_option linter.unusedSimpArgs false
namespace Go.Ev
open Go
noncomputable section
def Ex.toExit:Ex→Exit
  | .normal=>.normal
  | .ret=>.ret
  | .exit id=>.exit id
theorem room_fence(ro:Option Nat)(n:Nat):(fence ro).room n:=fun _ h=>by simp[fence,Fence.wide] at h
def wpX (ro:Option Nat)(P:Program)(c:Code)(Q:Exit→Act→World→Prop)(a:Act)(w:World):Prop:=
  match c with
  | .loop c=>∀ (b:Frame) (k:List Item) (cs:List Frame),b.roundOf=ro→∃ e a' w',Q e a' w'∧ArrivesIn (Machine.fenced P (fence ro)) P (lone (b.atR a (.code c :: .inLoop c::k)) cs w) b k cs e a' w'
  | _=>c.wpIn (fence ro) 0 P Q a w
theorem wp_of_wpX{ro:Option Nat}{P:Program}{c:Code}{Q:Exit→Act→World→Prop}{a:Act}{w:World}(h:wpX ro P c Q a w):c.wpIn (fence ro) 0 P Q a w:=by
  cases c with
  | loop c=>intro b k cs hro hb hr;obtain⟨e,a',w',hq,harr⟩:=h b k cs hro;exact⟨e,a',w',hq,.of_steps (.one (fenced_calm hb hr rfl) stepR_loop) harr⟩
  | _=>exact h
theorem Good.hidden{ρ ρ':Ren}{st st':St}{w w':World}(h:Good ρ st w ρ' st' w'){r:Nat}(hr:w.heap.size≤r)(hn:∀ i L,i<st'.next→(st'.heap.get i).live=true→ρ' i=some L→L.b≠r)(o:Obj) :
    Good ρ st w ρ' st' (w'.putObj r o):=by
  refine⟨h.ext,⟨h.rel.ok,h.rel.lt,h.rel.fresh,?_,h.rel.inj⟩,h.dep,h.next,by rw[World.putObj_size];exact h.size,h.os,h.tape,h.output,?_,h.owns,h.dead,h.old⟩
  · intro i hi hl
    obtain⟨L,ob,h1,h2,h3⟩:=h.rel.live i hi hl
    exact⟨L,ob,h1,by rw[World.putObj_heap_other (hn i L hi hl h1)];exact h2,h3⟩
  · intro b hb hno
    rw[World.putObj_heap_other (by omega)]
    exact h.kept b hb hno
theorem Rel.lt_size{ρ:Ren}{st:St}{w:World}(h:Rel ρ st w){i:Nat}{L:Loc}(hi:i<st.next)(hl:(st.heap.get i).live=true)(hρ:ρ i=some L):L.b<w.heap.size:=by
  obtain⟨M,ob,h1,h2,_⟩:=h.live i hi hl
  rw[hρ] at h1;cases h1
  exact(Array.getElem?_eq_some_iff.1 h2).1
theorem Good.push{ρ:Ren}{st:St}{w:World}(h:Rel ρ st w)(o:Obj):Good ρ st w ρ st (w.alloc o):=by
  refine⟨.refl ρ,⟨h.ok,h.lt,h.fresh,?_,h.inj⟩,rfl,Nat.le_refl _,by rw[World.size_alloc];omega,rfl,rfl,rfl,?_,fun i L a b c _=>⟨i,L,a,b,c,rfl,id⟩,fun _ _ h=>h,fun _ _=>rfl⟩
  · intro i hi hl
    obtain⟨L,ob,h1,h2,h3⟩:=h.live i hi hl
    refine⟨L,ob,h1,?_,h3⟩
    show(w.heap.push o)[L.b]? = some ob
    obtain⟨q1,q2⟩:=Array.getElem?_eq_some_iff.1 h2
    rw[Array.getElem?_push_lt q1,q2]
  · intro b hb _
    show(w.heap.push o)[b]? = w.heap[b]?
    rw[Array.getElem?_push_lt hb];simp[hb]
inductive DL(n:Nat)(ρ:Ren)(st:St)(w:World):List DA→List Deferred→Prop where
  | nil:DL n ρ st w [] []
  | mark {da:List DA} {dd:List Deferred} (r:Nat) (h1:n≤r) (h2:w.heap[r]? = some (.deferred (some []))) (h3:∀ i L,i<st.next→(st.heap.get i).live=true→ρ i=some L→L.b≠r)
      (h4:∀ d∈dd,∀ q,d.target=.collected q→q≠r) (t:DL n ρ st w da dd):DL n ρ st w (.mark::da) (({ target:=.collected r,args:=#[] }:Deferred)::dd)
  | call {da:List DA} {dd:List Deferred} (f:FuncId) (args:List AV) (cap dargs:Array Value) (h:VRs ρ args (dargs++cap).toList) (t:DL n ρ st w da dd) :
      DL n ρ st w (.call f args::da) (({ target:=.fn (.func f) cap,args:=dargs }:Deferred)::dd)
theorem DL.lt{n:Nat}{ρ:Ren}{st:St}{w:World}{da:List DA}{dd:List Deferred}(h:DL n ρ st w da dd):∀ d∈dd,∀ q,d.target=.collected q→q<w.heap.size:=by
  induction h with
  | nil=>intro d hd;cases hd
  | mark r h1 h2 h3 h4 t ih =>
    intro d hd q hq
    rcases List.mem_cons.1 hd with rfl|hd
    · cases hq;exact(Array.getElem?_eq_some_iff.1 h2).1
    · exact ih d hd q hq
  | call f args cap dargs h t ih =>
    intro d hd q hq
    rcases List.mem_cons.1 hd with rfl|hd
    · cases hq
    · exact ih d hd q hq
theorem DL.mono{n:Nat}{ρ ρ':Ren}{st st':St}{w w':World}{da:List DA}{dd:List Deferred}(h:DL n ρ st w da dd)(hg:Good ρ st w ρ' st' w'):DL n ρ' st' w' da dd:=by
  induction h with
  | nil=>exact .nil
  | mark r h1 h2 h3 h4 t ih =>
    have hlt:=(Array.getElem?_eq_some_iff.1 h2).1
    refine .mark r h1 ?_ ?_ h4 ih
    · rw[hg.kept r hlt (fun i L hi hw hρ=>h3 i L hi (AO.live_of_writable hw) hρ)];exact h2
    · intro i L hi hl hρ e
      obtain⟨j,M,hj,hjl,hjρ,hM,_⟩:=hg.owns i L hi hl hρ (by rw[e];exact hlt)
      exact h3 j M hj hjl hjρ (by omega)
  | call f args cap dargs h t ih=>exact .call f args cap dargs (h.ext hg.ext) ih
theorem DL.other{n:Nat}{ρ:Ren}{st:St}{w:World}{da:List DA}{dd:List Deferred}(h:DL n ρ st w da dd){r:Nat}(o:Obj)(hr:∀ d∈dd,∀ q,d.target=.collected q→q≠r):DL n ρ st (w.putObj r o) da dd:=by
  induction h with
  | nil=>exact .nil
  | mark q h1 h2 h3 h4 t ih =>
    refine .mark q h1 ?_ h3 h4 (ih fun d hd=>hr d (by simp[hd]))
    rw[World.putObj_heap_other (hr { target:=.collected q,args:=#[] } (by simp) q rfl)];exact h2
  | call f args cap dargs h t ih=>exact .call f args cap dargs h (ih fun d hd=>hr d (by simp[hd]))
theorem DL.append{n m:Nat}{ρ:Ren}{st:St}{w:World}{d1 d2:List DA}{D1 D2:List Deferred}(h2:DL m ρ st w d2 D2)(h1:DL n ρ st w d1 D1)(hnm:n≤m)(hlt:∀ d∈D1,∀ q,d.target=.collected q→q<m) :
    DL n ρ st w (d2++d1) (D2++D1):=by
  induction h2 with
  | nil=>exact h1
  | mark r a1 a2 a3 a4 t ih =>
    refine .mark r (Nat.le_trans hnm a1) a2 a3 ?_ ih
    intro d hd q hq
    rcases List.mem_append.1 hd with hd|hd
    · exact a4 d hd q hq
    · have:=hlt d hd q hq;omega
  | call f args cap dargs h t ih=>exact .call f args cap dargs h ih
def Defs (n:Nat)(ρ:Ren)(st:St)(w:World)(d d':List DA)(D D':List Deferred):Prop:=∃ da dd,d'=da++d∧D'=dd++D∧DL n ρ st w da dd
theorem Defs.same{n:Nat}{ρ:Ren}{st:St}{w:World}{d d':List DA}{D D':List Deferred}(h:d'=d)(g:D'=D):Defs n ρ st w d d' D D':=⟨[],[],by simp[h],by simp[g],.nil⟩
theorem Defs.trans{n:Nat}{ρ₁ ρ₂:Ren}{s₁ s₂:St}{w₁ w₂:World}{d d' d'':List DA}{D D' D'':List Deferred}(h:Defs n ρ₁ s₁ w₁ d d' D D')(hg:Good ρ₁ s₁ w₁ ρ₂ s₂ w₂)(hn:n≤w₁.heap.size)
    (g:Defs w₁.heap.size ρ₂ s₂ w₂ d' d'' D' D''):Defs n ρ₂ s₂ w₂ d d'' D D'':=by
  obtain⟨da,dd,rfl,rfl,h⟩:=h
  obtain⟨ea,ee,rfl,rfl,g⟩:=g
  exact⟨ea++da,ee++dd,by simp,by simp,g.append (h.mono hg) hn h.lt⟩
def RoR (ρ:Ren):Option Nat→Option Nat→Prop
  | none,none=>True
  | some i,some l=>∃ L,ρ i=some L∧L.b=l
  | _,_=>False
theorem RoR.ext{ρ ρ':Ren}(e:Ext ρ ρ'):∀ {r s:Option Nat},RoR ρ r s→RoR ρ' r s
  | none,none,_=>trivial
  | some _,some _,⟨L,h,g⟩=>⟨L,e _ _ h,g⟩
def Post (ρ:Ren)(st:St)(w:World)(fr:Fr)(D:List Deferred)(ex:Ex)(fr':Fr)(st':St):Exit→Act→World→Prop:=
  fun e a' w'=>e=ex.toExit∧∃ ρ',FR ρ' fr' a'.tmps∧Good ρ st w ρ' st' w'∧Defs w.heap.size ρ' st' w' fr.ds fr'.ds D a'.defers
def EvOk (P:Program)(G:Nat)(ev:EvF):Prop:=
  ∀ roA c fr st ex fr' st',ev roA c fr st=some (ex,fr',st')→∀ ρ ro (a:Act) w,RoR ρ roA ro→FR ρ fr a.tmps→Rel ρ st w→Glob ρ G →
    wpX ro P c (Post ρ st w fr a.defers ex fr' st') a w
def ExtOk(P:Program)(G:Nat)(ext:ExtF):Prop:=
  ∀ f args st v st',ext f args st=some (v,st')→∀ ρ w (cargs:Array Value),Rel ρ st w→Glob ρ G→VRs ρ args cargs.toList →
    FkOk P ρ w cargs (fun vc w'=>∃ ρ',VR ρ' v vc∧Good ρ st w ρ' st' w') (.func f)
def resF (tmps:Array Value):ResultVar→Sem Value
  | .tmp t=>pure (tmps.getD t undef)
  | .cell a t=>do loadVar t (← asAddr (tmps.getD a undef))
theorem results_eq(fn:Func)(tmps:Array Value):results fn tmps=(do
  let vs ← fn.results.mapM (resF tmps)
  pure (if h:vs.size=1 then vs[0] else .tuple vs)):=by
  unfold results
  congr
theorem resA_sound{P:Program}{ρ:Ren}{fr:Fr}{st:St}{tmps:Array Value}{w:World}(hF:FR ρ fr tmps)(hR:Rel ρ st w) :
    ∀ (rs:List ResultVar) (l:List AV),resA P fr st rs=some l→∃ vs:List Value,VRs ρ l vs ∧
      (rs.mapM (resF tmps):Sem (List Value)).run P w=.ok vs w:=by
  intro rs
  induction rs with
  | nil=>intro l h;simp only[resA,Option.some.injEq] at h;subst h;exact⟨[],.nil,rfl⟩
  | cons r rs ih =>
    intro l h
    cases r with
    | tmp t =>
      simp only[resA] at h
      split at h
      · rename_i r hr
        simp only[Option.some.injEq] at h;subst h
        obtain⟨vs,h1,h2⟩:=ih r hr
        exact⟨_,.cons (hF.get t) h1,by simp only[List.mapM_cons,resF,Sem.run_bind,Sem.run_pure,Result.andThen_ok,h2]⟩
      · cases h
    | cell ad t =>
      simp only[resA] at h
      have hx':=hF.get ad
      split at h
      · rename_i i off hx
        rw[hx] at hx'
        obtain⟨L,hea,hL⟩:∃ L:Loc,tmps.getD ad undef=.pointer (some (L.at off))∧ρ i=some L:=by
          generalize tmps.getD ad undef=ex at hx'
          cases hx' with | ptr _ _ L hL=>exact⟨L,rfl,hL⟩
        split at h
        · rename_i v hv
          split at h
          · rename_i r hr
            simp only[Option.some.injEq] at h;subst h
            obtain⟨vs,h1,h2⟩:=ih r hr
            have:∃ z,(loadVar t (L.at off)).run P w=.ok z w∧VR ρ v z:=by
              split at hv
              · rename_i n hn
                simp only[Option.map_eq_some_iff] at hv
                obtain⟨b,hb,rfl⟩:=hv
                obtain⟨L',hL',us,g1,g2,g3,_⟩:=hR.blk hb
                rw[hL] at hL';cases hL'
                exact⟨.agg us.toArray,run_loadVar_agg hn g2 (fun j u hj=>by rw[L.at_add];exact g3 j u hj),.agg _ _ (by simpa using g1)⟩
              · rename_i hn
                obtain⟨L',hL',u,g1,g2⟩:=hR.cell hv
                rw[hL] at hL';cases hL'
                exact⟨u,run_loadVar_one hn g1,g2⟩
              · cases hv
            obtain⟨z,hz1,hz2⟩:=this
            refine⟨_,.cons hz2 h1,?_⟩
            have ha:asAddr (tmps.getD ad undef)=pure (L.at off):=by rw[hea];rfl
            simp only[List.mapM_cons,resF,Sem.run_bind,Sem.run_pure,Result.andThen_ok,ha,hz1,h2]
          · cases h
        · cases h
      · cases h
theorem oneA_sound{ρ:Ren}:∀ (l:List AV) (vs:List Value),VRs ρ l vs→VR ρ (oneA l) (if h:vs.toArray.size=1 then vs.toArray[0] else .tuple vs.toArray)
  | [],[],h=>.tup _ _ h
  | [x],[v],.cons h _=>by simpa[oneA] using h
  | x :: y :: l, u :: v :: m, h => by
    simp only[oneA,List.size_toArray,List.length_cons]
    rw[dif_neg (by omega)]
    exact .tup _ _ (by simpa using h)
  | [],_::_,h=>by cases h
  | [_],[],h=>by cases h
  | [_],_::_::_,.cons _ h=>by cases h
  | _::_::_,[],h=>by cases h
  | _::_::_,[_],.cons _ h=>by cases h
theorem mkFr_FR{ρ:Ren}{n:Nat}{args:List AV}{cargs:Array Value}(h:VRs ρ args cargs.toList)(h1:args.length≤n)(h2:n≤2 ^ depthOf 64 n) :
    FR ρ (mkFr n args) (cargs++Array.replicate (n-cargs.size) undef):=by
  have hl:args.length=cargs.size:=by rw[← Array.length_toList];exact VRs.length h
  refine⟨(T.Ok_full _ _).setL,h2,?_,?_⟩
  · show n≤_
    simp only[Array.size_append,Array.size_replicate];omega
  · intro i hi
    have hi:i<n:=hi
    show VR ρ (((T.full (depthOf 64 n) undefA).setL 0 args).get i) _
    rw[T.get_setL args _ 0 i (T.Ok_full _ _) (by omega) (by omega)]
    rw[Array.getD_eq_getD_getElem?]
    split
    · rename_i hh
      obtain⟨v,hv,hvr⟩:=h.get (i-0) _ (List.getElem?_eq_getElem (by omega))
      have:i<cargs.size:=by omega
      rw[Array.getElem?_append_left this]
      rw[Nat.sub_zero,Array.getElem?_toList] at hv
      rw[hv];exact hvr
    · rename_i hh
      have:cargs.size≤i:=by omega
      rw[Array.getElem?_append_right this,T.get_full,Array.getElem?_replicate,if_pos (by omega)]
      exact .tup _ _ .nil
theorem Rel.loopAt{ρ:Ren}{st:St}{w:World}(hR:Rel ρ st w){i:Nat}{s:LoopState}{p:Ex}{fr:Fr}{ps:Array Tmp}{x y:Code}(h:st.obj i=.loop s p fr ps x y) :
    i<st.next∧st.heap.get i=.loop s p fr ps x y∧∃ L r,ρ i=some L∧w.heap[L.b]? = some (.loop r)∧r.state=s∧r.pending=p.jump∧FR ρ fr r.tmps∧r.params=ps∧r.assign=x∧r.body=y:=by
  obtain⟨hi,hg⟩:=St.obj_live (st:=st) (i:=i) (by rw[h];rfl)
  rw[hg] at h
  obtain⟨L,ob,hL,hob,hr⟩:=hR.live i hi (by rw[h];rfl)
  rw[h] at hr
  obtain⟨r,rfl,h1⟩:=hr
  exact⟨hi,h,L,r,hL,hob,h1⟩
theorem putsA_sound{ρ:Ren}:∀ (ts:List Tmp) (vs:List AV) (fr fr':Fr) (tmps:Array Value) (cs:List Value),putsA ts vs fr=some fr'→FR ρ fr tmps→VRs ρ vs cs →
    cs.length=ts.length∧FR ρ fr' ((ts.zip cs).foldl (fun tmps (t,a)=>tmps.setIfInBounds t a) tmps)∧fr'.ds=fr.ds
  | [], [], fr, fr', tmps, cs, h, hF, hv => by
    cases hv
    simp only[putsA,Option.some.injEq] at h
    subst h
    exact⟨rfl,hF,rfl⟩
  | t :: ts, v :: vs, fr, fr', tmps, _, h, hF, .cons (v := c) (m := cs) h1 h2 => by
    simp only[putsA] at h
    split at h
    · rename_i f1 hp
      have hF1:FR ρ f1 (tmps.setIfInBounds t c):=FR.put (a:={ tmps:=tmps,defers:=[] }) hF hp h1
      obtain⟨a,b,d⟩:=putsA_sound ts vs f1 fr' _ cs h hF1 h2
      refine⟨by simp[a],by simpa using b,d.trans ?_⟩
      rw[Fr.put_some] at hp
      obtain⟨_,hp⟩:=bif_some hp
      cases hp;rfl
    · cases h
  | [],_::_,_,_,_,_,h,_,_=>by simp[putsA] at h
  | _::_,[],_,_,_,_,h,_,_=>by simp[putsA] at h
theorem round_sound{P:Program}{G:Nat}{ev:EvF}(hev:EvOk P G ev){i:Nat}{args:List AV}{st st':St}{v:AV}(h:roundA ev i args st=some (v,st')){ρ:Ren}{w:World}{cargs:Array Value}(hR:Rel ρ st w)(hG:Glob ρ G)(hA:VRs ρ args cargs.toList) :
    FkOk P ρ w cargs (fun vc w'=>∃ ρ',VR ρ' v vc∧Good ρ st w ρ' st' w') (.yield i):=by
  unfold roundA at h
  split at h
  · rename_i s p fr ps x y ho
    obtain⟨_,_,L,r,hL,hob,hst,hpd,hFr,rfl,rfl,rfl⟩:=hR.loopAt ho
    split at h
    · rename_i fr1 hp
      obtain⟨hlen,hF1,hds1⟩:=putsA_sound _ _ _ _ _ _ hp (hFr.off []) hA
      split at h
      · rename_i fr2 st2 h1
        split at h
        · rename_i p2 f2 q2 x2 y2 ho2
          split at h
          · rename_i ex fr3 st3 h2
            split at h
            · rename_i s3 p3 f3 q3 x3 y3 ho3
              simp only[Option.some.injEq,Prod.mk.injEq] at h
              obtain⟨rfl,rfl⟩:=h
              refine⟨L,hL,r.fn,(r.params.zip cargs).foldl (fun tmps (t,a)=>tmps.setIfInBounds t a) r.tmps,r.assign,r.body,run_yield hob (by simpa using hlen),?_⟩
              have hF1':FR ρ fr1 ((r.params.zip cargs).foldl (fun tmps (t,a)=>tmps.setIfInBounds t a) r.tmps):=by
                rw[← Array.foldl_toList,Array.toList_zip];exact hF1
              refine roundIn_of_wpIn (F:=Fence.wide) trivial ?_
              have hw1:=wp_of_wpX (hev (some i) r.assign fr1 st .normal fr2 st2 h1 ρ (some L.b) { tmps:=(r.params.zip cargs).foldl (fun tmps (t,a)=>tmps.setIfInBounds t a) r.tmps,defers:=[] } w ⟨L,hL,rfl⟩ hF1' hR hG)
              refine wpIn_mono (show r.assign.wpIn (Fence.wide.inRound L.b) 0 P _ _ w from hw1) ?_
              rintro e a1 w1 ⟨rfl,ρ1,hF2,hg1,hd1⟩
              obtain⟨hi2,hget2,L2,r2,hL2,hob2,hst2,hpd2,hFr2,rfl,rfl,rfl⟩:=hg1.rel.loopAt ho2
              have hLL:L2=L:=by have:=hg1.ext _ _ hL;rw[hL2] at this;exact Option.some.inj this
              subst hLL
              refine⟨_,run_beginRound hob2 hst2,?_⟩
              have hg2:Good ρ1 st2 w1 ρ1 (st2.put i (.loop .busy p2 f2 r2.params r2.assign r2.body)) (w1.putObj L2.b (.loop { r2 with state:=.busy })):=
                hg1.rel.upd hi2 (by rw[hget2];rfl) hL2 (o:=.loop .busy p2 f2 r2.params r2.assign r2.body) (ob:=.loop { r2 with state:=.busy }) ⟨_,rfl,rfl,hpd2,hFr2,rfl,rfl,rfl⟩ rfl
              have hg12:=hg1.trans hg2
              have hw2:=wp_of_wpX (hev (some i) r.body fr2 _ ex fr3 st3 h2 ρ1 (some L2.b) a1 _ ⟨L2,hL2,rfl⟩ hF2 hg2.rel (hG.ext hg1.ext))
              refine wpIn_mono (show r.body.wpIn (Fence.wide.inRound L2.b) 0 P _ _ _ from hw2) ?_
              rintro e a3 w3 ⟨rfl,ρ3,hF3,hg3,hd3⟩
              obtain⟨hi3,hget3,L3,r3,hL3,hob3,hst3,hpd3,hFr3,rfl,rfl,rfl⟩:=hg3.rel.loopAt ho3
              have hLL:L3=L2:=by have:=hg3.ext _ _ hL2;rw[hL3] at this;exact Option.some.inj this
              subst hLL
              have hg123:=hg12.trans hg3
              cases ex with
              | normal =>
                refine⟨_,_,run_endRound none hob3,_,rfl,ρ3,.bool _,hg123.trans ?_⟩
                exact hg3.rel.upd hi3 (by rw[hget3];rfl) hL3 (o:=.loop .ready .normal f3 r3.params r3.assign r3.body) (ob:=.loop { r3 with state:=.ready,pending:=none }) ⟨_,rfl,rfl,rfl,hFr3,rfl,rfl,rfl⟩ rfl
              | ret =>
                refine⟨_,_,run_endRound (some .ret) hob3,_,rfl,ρ3,.bool _,hg123.trans ?_⟩
                exact hg3.rel.upd hi3 (by rw[hget3];rfl) hL3 (o:=.loop .done .ret f3 r3.params r3.assign r3.body) (ob:=.loop { r3 with state:=.done,pending:=some .ret }) ⟨_,rfl,rfl,rfl,hFr3,rfl,rfl,rfl⟩ rfl
              | exit id =>
                refine⟨_,_,run_endRound (some (.exit id)) hob3,_,rfl,ρ3,.bool _,hg123.trans ?_⟩
                exact hg3.rel.upd hi3 (by rw[hget3];rfl) hL3 (o:=.loop .done (.exit id) f3 r3.params r3.assign r3.body) (ob:=.loop { r3 with state:=.done,pending:=some (.exit id) }) ⟨_,rfl,rfl,rfl,hFr3,rfl,rfl,rfl⟩ rfl
            · cases h
          · cases h
        · cases h
      · cases h
    · cases h
  · cases h
theorem wpSIn_mono{F:Fence}{n:Nat}{P:Program}{c:Code}{Q Q':Exit→Act→List Frame→World→Prop}{a:Act}{cs:List Frame}{w:World}(h:c.wpSIn F n P Q a cs w)(hq:∀ e a cs w,Q e a cs w→Q' e a cs w):c.wpSIn F n P Q' a cs w:=
  fun b k hb hr hF hroom=>let ⟨e,a',cs',w',l,q,r⟩:=h b k hb hr hF hroom;⟨e,a',cs',w',l,hq _ _ _ _ q,r⟩
def Quit (cs:List Frame):Prop:=∃ c rest,cs=c::rest∧c.mode=.returning
theorem evListS_sound{P:Program}{G:Nat}{ops:Array Oper}:∀ (l:List Oper) (k:Nat) {fr fr':Fr} {st st':St} {ρ:Ren} {a:Act} {cs:List Frame} {w:World},(∀ j,l[j]? = ops[k+j]?) →
    evListS P G ops l fr st=some (fr',st')→FR ρ fr a.tmps→Glob ρ G→Quit cs→∀ {Q:Exit→Act→List Frame→World→Prop},
    (∀ a',FR ρ fr' a'.tmps→st'=st→a'.defers=a.defers→fr'.ds=fr.ds→Q .normal a' cs w)→wpOpsSIn (fence none) 0 P ops Q (List.range' k l.length) a cs w:=by
  intro l
  induction l with
  | nil =>
    intro k fr fr' st st' ρ a cs w _ h hF _ _ Q hQ
    simp only[evListS,Option.some.injEq,Prod.mk.injEq] at h
    obtain⟨rfl,rfl⟩:=h
    exact hQ a hF rfl rfl rfl
  | cons o l ih =>
    intro k fr fr' st st' ρ a cs w hk h hF hG hq Q hQ
    have h0:ops[k]? = some o:=by have:=hk 0;simpa using this.symm
    have hk':∀ j,l[j]? = ops[k+1+j]?:=fun j=>by have:=hk (j+1);rw[List.getElem?_cons_succ] at this;rw[this];congr 1;omega
    have hdef:∀ (z:Value),(a.put o.dst z).defers=a.defers:=by intro z;cases o.dst<;>rfl
    have hds:∀ {v:AV} {f1:Fr},fr.put o.dst v=some f1→f1.ds=fr.ds:=by
      intro v f1 hp
      cases hd:o.dst with
      | none=>rw[hd] at hp;cases hp;rfl
      | some i=>rw[hd,Fr.put_some] at hp;obtain⟨_,hp⟩:=bif_some hp;cases hp;rfl
    simp only[List.length_cons,List.range'_succ,wpOpsSIn,h0]
    simp only[evListS] at h
    refine⟨fun _ _=>trivial,?_⟩
    split at h
    · rename_i hw
      rw[wanted_sound hw hF]
      simp only[if_true]
      split at h
      · rename_i args ts ho
        split at h
        · rename_i f1 hp
          obtain⟨c,rest,rfl,hm⟩:=hq
          have hx:(execOp a.eval o).run P w=.ok .recover w:=by
            unfold execOp;rw[ho];rfl
          have hrec:recoverD (c::rest)=none:=by simp[recoverD,hm]
          rw[hx]
          simp only[hrec]
          refine ih (k+1) hk' h (hF.put hp .inil) hG ⟨c,rest,rfl,hm⟩ ?_
          intro a' g1 g2 g3 g4
          exact hQ a' g1 g2 (g3.trans (hdef _)) (g4.trans (hds hp))
        · cases h
      · split at h
        · rename_i r hr
          split at h
          · rename_i f1 hp
            obtain⟨z,h1,h2⟩:=opPure_sound hr (valA_VR hF hG) w
            rw[h1]
            refine ih (k+1) hk' h (hF.put hp h2) hG hq ?_
            intro a' g1 g2 g3 g4
            exact hQ a' g1 g2 (g3.trans (hdef _)) (g4.trans (hds hp))
          · cases h
        · cases h
    · cases h
theorem evDef_sound{P:Program}{G:Nat}{ev:EvF}(hev:EvOk P G ev):∀ (n:Nat) (c:Code) (fr:Fr) (st:St) (ex:Ex) (fr':Fr) (st':St),evDef P G ev n c fr st=some (ex,fr',st') →
    ∀ (ρ:Ren) (a:Act) (cs:List Frame) (w:World),FR ρ fr a.tmps→Rel ρ st w→Glob ρ G→Quit cs→c.wpSIn (fence none) 0 P (fun e a' cs' w'=>cs'=cs∧Post ρ st w fr a.defers ex fr' st' e a' w') a cs w:=by
  intro n
  induction n with
  | zero=>intro c fr st ex fr' st' h;cases h
  | succ n ih =>
    intro c fr st ex fr' st' h ρ a cs w hF hR hG hq
    simp only[evDef] at h
    split at h
    · rename_i r hr
      simp only[Option.some.injEq] at h
      subst h
      exact wpSIn_of_wpIn rfl (wpIn_mono (wp_of_wpX (hev none c fr st ex fr' st' hr ρ none a w trivial hF hR hG)) (fun e a' w' hp=>⟨rfl,hp⟩))
    · split at h
      · rename_i x y hnone
        cases h1:evDef P G ev n x fr st with
        | none=>rw[h1] at h;simp at h
        | some r =>
          obtain⟨ex1,fr1,st1⟩:=r
          rw[h1] at h
          refine wpSIn_seq (wpSIn_mono (ih x _ _ _ _ _ h1 ρ a cs w hF hR hG hq) ?_)
          rintro e a1 cs1 w1 ⟨rfl,rfl,ρ1,hF1,hg1,hd1⟩
          cases ex1 with
          | normal =>
            refine wpSIn_mono (ih y _ _ _ _ _ h ρ1 a1 _ w1 hF1 hg1.rel (hG.ext hg1.ext) hq) ?_
            rintro e a2 cs2 w2 ⟨rfl,rfl,ρ2,hF2,hg2,hd2⟩
            exact⟨rfl,rfl,ρ2,hF2,hg1.trans hg2,hd1.trans hg2 hg1.size hd2⟩
          | ret=>simp only[Option.some.injEq,Prod.mk.injEq] at h;obtain⟨rfl,rfl,rfl⟩:=h;exact⟨rfl,rfl,ρ1,hF1,hg1,hd1⟩
          | exit id=>simp only[Option.some.injEq,Prod.mk.injEq] at h;obtain⟨rfl,rfl,rfl⟩:=h;exact⟨rfl,rfl,ρ1,hF1,hg1,hd1⟩
      · rename_i c x y hnone
        have hv:=valA_VR hF hG c
        split at h
        · rename_i hc
          rw[hc] at hv
          exact wpSIn_cond (t:=true) (by generalize a.eval c=z at hv;cases hv;rfl) (ih x _ _ _ _ _ h ρ a cs w hF hR hG hq)
        · rename_i hc
          rw[hc] at hv
          exact wpSIn_cond (t:=false) (by generalize a.eval c=z at hv;cases hv;rfl) (ih y _ _ _ _ _ h ρ a cs w hF hR hG hq)
        · cases h
      · rename_i id ops hnone
        split at h
        · rename_i f1 s1 h1
          simp only[Option.some.injEq,Prod.mk.injEq] at h
          obtain⟨rfl,rfl,rfl⟩:=h
          refine wpSIn_region ?_
          rw[List.range_eq_range',← Array.length_toList]
          refine evListS_sound ops.toList 0 (by simp) h1 hF hG hq ?_
          rintro a' g1 rfl g3 g4
          exact⟨rfl,rfl,ρ,g1,.refl hR,.same g4 g3⟩
        · cases h
      · cases h
theorem enters_run{P:Program}{f:FuncId}{fn:Func}{c:Code}(hfn:P.funcs[f]? = some fn)(hname:(fn.name == "runtime.NumGoroutine")=false)(hc:fn.body=some c)(cargs:Array Value)(w:World) :
    (callFunc f cargs).run P w=.ok (.enter f cargs) w:=by
  simp only[callFunc,Sem.run_bind,run_program,Result.andThen_ok,hfn,hname,Bool.false_eq_true,if_false,hc,Option.isNone_some,Sem.run_pure]
theorem defCall_sound{P:Program}{G:Nat}{ev:EvF}(hev:EvOk P G ev){f:FuncId}{args:List AV}{st st':St}(h:defCall P G ev f args st=some st'){ρ:Ren}{w:World}{cargs:Array Value}(hR:Rel ρ st w)(hG:Glob ρ G)(hA:VRs ρ args cargs.toList) :
    (∀ w,(callFunc f cargs).run P w=.ok (.enter f cargs) w)∧CallsDIn (fence none) 0 P f cargs .returning w (fun e u' w'=>(∃ v,e=.returned v)∧u'=.returning∧∃ ρ',Good ρ st w ρ' st' w'):=by
  unfold defCall at h
  split at h
  · rename_i fn hfn
    split at h
    · rename_i c hc
      obtain⟨hb,h⟩:=bif_some h
      simp only[Bool.and_eq_true,ble_iff,Bool.not_eq_true'] at hb
      obtain⟨hname,hb⟩:=hb
      refine⟨fun w=>enters_run hfn hname hc cargs w,?_⟩
      have hF:FR ρ (mkFr fn.ntmps args) (cargs++Array.replicate (fn.ntmps-cargs.size) undef):=mkFr_FR hA hb.1 hb.2
      have key:∀ ex fr' st1,evDef P G ev 32 c (mkFr fn.ntmps args) st=some (ex,fr',st1)→(ex=.normal∨ex=.ret)→(match fr'.ds with
          | [] => match resA P fr' st1 fn.results.toList with
            | some _=>some st1
            | none=>none
          | _=>none)=some st'→CallsDIn (fence none) 0 P f cargs .returning w (fun e u' w'=>(∃ v,e=.returned v)∧u'=.returning∧∃ ρ',Good ρ st w ρ' st' w'):=by
        intro ex fr' st1 he hex hres
        refine callsDIn_of_wpSIn hfn hc trivial (fun c₀ cs hm=>?_)
        refine wpSIn_mono (evDef_sound hev 32 c _ _ _ _ _ he ρ { tmps:=cargs++Array.replicate (fn.ntmps-cargs.size) undef,defers:=[] } (c₀::cs) w hF hR hG ⟨c₀,cs,rfl,hm⟩) ?_
        rintro e a' cs' w' ⟨rfl,rfl,ρ',hF',hg,hd⟩
        split at hres
        · rename_i hnil
          split at hres
          · rename_i l hl
            simp only[Option.some.injEq] at hres
            subst hres
            obtain⟨da,dd,h1,h2,h3⟩:=hd
            rw[hnil] at h1
            have hda:da=[]:=(List.append_eq_nil_iff.1 h1.symm).1
            subst hda
            cases h3
            obtain⟨vs,g1,g2⟩:=resA_sound hF' hg.rel _ _ hl
            have hr:(results fn a'.tmps).run P w'=.ok (if h:vs.toArray.size=1 then vs.toArray[0] else .tuple vs.toArray) w':=by
              rw[results_eq,Array.mapM_eq_mapM_toList]
              simp only[Sem.run_bind,Sem.run_map,g2,Sem.run_pure,Result.andThen_ok]
            have hfin:a'.defers=[]∧∃ u',c₀::cs={ c₀ with mode:=u' } :: cs∧∃ v,(results fn a'.tmps).run P w'=.ok v w'∧((∃ v',(.returned v:Ending)=.returned v')∧u'=.returning∧∃ ρ',Good ρ st w ρ' st1 w'):=
              ⟨by simpa using h2,.returning,by rw[← hm],_,hr,⟨_,rfl⟩,rfl,ρ',hg⟩
            rcases hex with rfl|rfl
            · exact hfin
            · exact hfin
          · cases hres
        · cases hres
      split at h
      · cases h
      · rename_i x ex fr' st1 hne he
        refine key ex fr' st1 he ?_ h
        cases ex with
        | normal=>exact .inl rfl
        | ret=>exact .inr rfl
        | exit id=>exact(hne _ rfl).elim
      · cases h
    · cases h
  · cases h
theorem leave_sound{P:Program}{G:Nat}{ev:EvF}(hev:EvOk P G ev){fn:Func}{tmps:Array Value}{R:Ending→World→Prop}{ρ0:Ren}{st0 st':St}{w0:World}:∀ (da:List DA) (dd:List Deferred) (ρ:Ren) (st:St) (w:World),
    DL w0.heap.size ρ st w da dd→leaveA P G ev da st=some st'→Good ρ0 st0 w0 ρ st w→Glob ρ G →
    (∀ ρ' w',Ext ρ ρ'→Good ρ0 st0 w0 ρ' st' w'→∃ v,(results fn tmps).run P w'=.ok v w'∧R (.returned v) w')→LeavesInM (fence none) 0 P fn tmps R dd .returning w:=by
  intro da
  induction da with
  | nil =>
    intro dd ρ st w hd h hg hG hfin
    cases hd
    simp only[leaveA,Option.some.injEq] at h
    subst h
    exact hfin ρ w (.refl ρ) hg
  | cons x da ih =>
    intro dd ρ st w hd h hg hG hfin
    cases hd with
    | @mark _ dd r h1 h2 h3 h4 t =>
      simp only[leaveA] at h
      refine⟨by simp,.inl ⟨r,_,rfl,run_takeDeferred h2,?_⟩⟩
      exact ih dd ρ st _ (t.other _ h4) h (hg.hidden h1 h3 _) hG hfin
    | @call _ dd f args cap dargs hv t =>
      simp only[leaveA] at h
      split at h
      · rename_i st1 h1
        obtain⟨hen,hc⟩:=defCall_sound hev h1 hg.rel hG hv
        refine⟨by simp,.inr ⟨by simp[fence,Fence.wide],.func f,cap,f,dargs++cap,rfl,hen w,fun _ _=>trivial,?_⟩⟩
        refine CallsDIn.mono hc ?_
        rintro e u' w' ⟨⟨v,rfl⟩,rfl,ρ',hg'⟩
        exact ih dd ρ' st1 w' (t.mono hg') h (hg.trans hg') (hG.ext hg'.ext) (fun ρ'' w'' e g=>hfin ρ'' w'' (hg'.ext.trans e) g)
      · cases h
theorem funA_sound{P:Program}{G:Nat}{ev:EvF}(hev:EvOk P G ev){f:FuncId}{args:List AV}{st st':St}{v:AV}(h:funA P G ev f args st=some (v,st')){ρ:Ren}{w:World}{cargs:Array Value}(hR:Rel ρ st w)(hG:Glob ρ G)(hA:VRs ρ args cargs.toList) :
    (∀ w,(callFunc f cargs).run P w=.ok (.enter f cargs) w)∧Calls P f cargs w fun e w'=>∃ vc,e=.returned vc∧∃ ρ',VR ρ' v vc∧Good ρ st w ρ' st' w':=by
  unfold funA at h
  split at h
  · rename_i fn hfn
    split at h
    · rename_i c hc
      obtain⟨hb,h⟩:=bif_some h
      simp only[Bool.and_eq_true,ble_iff,Bool.not_eq_true'] at hb
      obtain⟨hname,hb⟩:=hb
      refine⟨fun w=>enters_run hfn hname hc cargs w,?_⟩
      have hF:FR ρ (mkFr fn.ntmps args) (cargs++Array.replicate (fn.ntmps-cargs.size) undef):=mkFr_FR hA hb.1 hb.2
      have key:∀ ex fr' st1,ev none c (mkFr fn.ntmps args) st=some (ex,fr',st1)→(ex=.normal∨ex=.ret)→(match leaveA P G ev fr'.ds st1 with
          | some st'' => match resA P fr' st'' fn.results.toList with
            | some l=>some (oneA l,st'')
            | none=>none
          | none=>none)=some (v,st') →
          Calls P f cargs w fun e w'=>∃ vc,e=.returned vc∧∃ ρ',VR ρ' v vc∧Good ρ st w ρ' st' w':=by
        intro ex fr' st1 he hex hres
        refine callsIn_wide.1 (callsIn_of_wp_marks (F:=Fence.wide) (n:=0) hfn hc trivial ?_)
        refine wpIn_mono (show c.wpIn Fence.wide 0 P _ _ w from wp_of_wpX (hev none c _ st ex fr' st1 he ρ none { tmps:=cargs++Array.replicate (fn.ntmps-cargs.size) undef,defers:=[] } w trivial hF hR hG)) ?_
        rintro e a' w' ⟨rfl,ρ',hF',hg,da,dd,hd1,hd2,hdl⟩
        split at hres
        · rename_i st2 hlv
          split at hres
          · rename_i l hl
            simp only[Option.some.injEq,Prod.mk.injEq] at hres
            obtain⟨rfl,rfl⟩:=hres
            have hda:fr'.ds=da:=by rw[hd1];simp[mkFr]
            have hdd:a'.defers=dd:=by rw[hd2];simp
            rw[hda] at hlv
            have hl':=leave_sound hev (fn:=fn) (tmps:=a'.tmps) (R:=fun e w'=>∃ vc,e=.returned vc∧∃ ρ',VR ρ' (oneA l) vc∧Good ρ st w ρ' st2 w') da dd ρ' st1 w' hdl hlv hg (hG.ext hg.ext) (by
              intro ρ'' w'' he' hg'
              obtain⟨vs,g1,g2⟩:=resA_sound (hF'.ext he') hg'.rel _ _ hl
              refine⟨_,?_,_,rfl,ρ'',oneA_sound _ _ g1,hg'⟩
              rw[results_eq,Array.mapM_eq_mapM_toList]
              simp only[Sem.run_bind,Sem.run_map,g2,Sem.run_pure,Result.andThen_ok])
            rw[← hdd] at hl'
            rcases hex with rfl|rfl
            · exact hl'
            · exact hl'
          · cases hres
        · cases hres
      split at h
      · cases h
      · rename_i x ex fr' st1 hne he
        refine key ex fr' st1 he ?_ h
        cases ex with
        | normal=>exact .inl rfl
        | ret=>exact .inr rfl
        | exit id=>exact(hne _ rfl).elim
      · cases h
    · cases h
  · cases h
theorem callA_sound{P:Program}{G:Nat}{ext:ExtF}(hext:ExtOk P G ext){ev:EvF}(hev:EvOk P G ev):CallOk P G (callA P G ext ev):=by
  intro k args st v st' h ρ w cargs hR hG hA
  cases k with
  | func f =>
    simp only[callA] at h
    split at h
    · rename_i r hr
      simp only[Option.some.injEq] at h
      subst h
      exact hext f args st v st' hr ρ w cargs hR hG hA
    · exact .inl (funA_sound hev h hR hG hA)
  | yield i=>exact round_sound hev h hR hG hA
theorem evListD_sound{P:Program}{G:Nat}{call:CallF}(hcall:CallOk P G call){ops:Array Oper}:∀ (l:List Oper) {fr fr':Fr} {st st':St} {ρ:Ren} {a:Act} {w:World},
    evListD P G call ops l fr st=some (fr',st')→FR ρ fr a.tmps→Rel ρ st w→Glob ρ G→∀ {Q:Exit→Act→World→Prop},
    (∀ ρ' a' w',FR ρ' fr' a'.tmps→Good ρ st w ρ' st' w'→Defs w.heap.size ρ' st' w' fr.ds fr'.ds a.defers a'.defers→Q .normal a' w')→wpListIn (fence none) 0 P ops Q l a w:=by
  intro l
  induction l with
  | nil =>
    intro fr fr' st st' ρ a w h hF hR hG Q hQ
    simp only[evListD,Option.some.injEq,Prod.mk.injEq] at h
    obtain⟨rfl,rfl⟩:=h
    exact hQ ρ a w hF (.refl hR) (.same rfl rfl)
  | cons o l ih =>
    intro fr fr' st st' ρ a w h hF hR hG Q hQ
    simp only[evListD] at h
    split at h
    · rename_i f args ts ho
      split at h
      · rename_i hw
        split at h
        · rename_i g first captured hf
          have hf':=valA_VR hF hG f
          rw[hf] at hf'
          obtain⟨f',c',hea,hfr,hcp⟩:∃ f' c':Array Value,a.eval f=.func (.func g) f' c'∧VRs ρ first f'.toList∧VRs ρ captured c'.toList:=by
            generalize a.eval f=ex at hf'
            cases hf' with | func _ _ _ f' c' hf hc=>exact⟨f',c',rfl,hf,hc⟩
          split at h
          · rename_i f1 hp
            have hx:(execOp a.eval o).run P w=.ok (.defer { target:=.fn (.func g) c',args:=f' ++ args.map a.eval }) w:=by
              unfold execOp
              rw[ho]
              simp only[resolve,hea,Deferred.ofValue,Sem.run_bind,Sem.run_pure,Result.andThen_ok]
            unfold wpListIn
            rw[wanted_sound hw hF]
            simp only[if_true]
            refine⟨fun _ _=>trivial,?_⟩
            have hsem:o.semAt (fence none).round a.eval=execOp a.eval o:=rfl
            rw[hsem,hx]
            have hvs:VRs ρ ((first++args.toList.map (valA G fr))++captured) ((f' ++ args.map a.eval)++c').toList:=by
              rw[Array.toList_append,Array.toList_append,Array.toList_map]
              exact(hfr.append (VRs_map (valA_VR hF hG) _)).append hcp
            have hF1:FR ρ (f1.off (.call g ((first++args.toList.map (valA G fr))++captured)::fr.ds)) (({ a with defers:={ target:=.fn (.func g) c',args:=f' ++ args.map a.eval } :: a.defers }:Act).put o.dst undef).tmps:=
              (FR.put (a:={ a with defers:={ target:=.fn (.func g) c',args:=f' ++ args.map a.eval } :: a.defers }) hF hp (.tup _ _ .nil)).off _
            have hdd:(({ a with defers:={ target:=.fn (.func g) c',args:=f' ++ args.map a.eval } :: a.defers }:Act).put o.dst undef).defers={ target:=.fn (.func g) c',args:=f' ++ args.map a.eval } :: a.defers:=by cases o.dst<;>rfl
            refine ih h hF1 hR hG ?_
            intro ρ' a' w' g1 g2 g3
            refine hQ ρ' a' w' g1 g2 (Defs.trans (ρ₁:=ρ) (s₁:=st) (w₁:=w) (d':=.call g ((first++args.toList.map (valA G fr))++captured)::fr.ds) (D':={ target:=.fn (.func g) c',args:=f' ++ args.map a.eval } :: a.defers) ?_ g2 (Nat.le_refl _) (by rw[hdd] at g3;exact g3))
            exact⟨[.call g ((first++args.toList.map (valA G fr))++captured)],[{ target:=.fn (.func g) c',args:=f' ++ args.map a.eval }],rfl,rfl,.call g _ c' _ hvs .nil⟩
          · cases h
        · cases h
      · cases h
    · split at h
      · rename_i f1 st1 h1
        unfold wpListIn
        refine evOper_sound hcall h1 hF hR hG ?_
        intro ρ' a' w' hF' hg hd
        refine ih h (hF'.off _) hg.rel (hG.ext hg.ext) ?_
        intro ρ'' a'' w'' hF'' hg' hd'
        exact hQ ρ'' a'' w'' hF'' (hg.trans hg') (Defs.trans (ρ₁:=ρ') (s₁:=st1) (w₁:=w') (.same rfl hd) hg' hg.size hd')
      · cases h
theorem evRegion_sound{P:Program}{G:Nat}{call:CallF}(hcall:CallOk P G call)(hmix:P.follows .mixedOrders=true){roA:Option Nat}{id:Nat}{ops:Array Oper}{draw:Bool}{fr fr':Fr}{st st':St}{ex:Ex}(h:evRegion P G call roA ops draw fr st=some (ex,fr',st'))
    {ρ:Ren} {ro:Option Nat} {a:Act} {w:World} (hro:RoR ρ roA ro) (hF:FR ρ fr a.tmps) (hR:Rel ρ st w) (hG:Glob ρ G):(Code.region id ops draw).wpIn (fence ro) 0 P (Post ρ st w fr a.defers ex fr' st') a w:=by
  unfold evRegion at h
  split at h
  · split at h
    · rename_i f1 s1 h1
      simp only[Option.some.injEq,Prod.mk.injEq] at h
      obtain⟨rfl,rfl,rfl⟩:=h
      exact evDraw_sound hcall hmix h1 hF hR hG (fun ρ' a' w' g1 g2 g3=>⟨rfl,ρ',g1.off _,g2,.same rfl g3⟩)
    · cases h
  · split at h
    · rename_i f1 s1 h1
      simp only[Option.some.injEq,Prod.mk.injEq] at h
      obtain⟨rfl,rfl,rfl⟩:=h
      exact wpIn_region_list (evList_sound hcall _ h1 hF hR hG (fun ρ' a' w' g1 g2 g3=>⟨rfl,ρ',g1.off _,g2,.same rfl g3⟩))
    · split at h
      · cases ro with
        | some l=>exact hro.elim
        | none =>
          split at h
          · rename_i f1 s1 h1
            simp only[Option.some.injEq,Prod.mk.injEq] at h
            obtain⟨rfl,rfl,rfl⟩:=h
            exact wpIn_region_list (evListD_sound hcall _ h1 hF hR hG (fun ρ' a' w' g1 g2 g3=>⟨rfl,ρ',g1,g2,g3⟩))
          · cases h
      · cases h
theorem roOk_get{ρ:Ren}{roA ro:Option Nat}{st:St}{w:World}(h:roOk roA st=true)(hro:RoR ρ roA ro)(hR:Rel ρ st w):∀ l,ro=some l→∃ r,w.heap[l]? = some (.loop r):=by
  rintro l rfl
  cases roA with
  | none=>exact hro.elim
  | some i =>
    obtain⟨L,hL,rfl⟩:=hro
    unfold roOk at h
    split at h
    · rename_i h0;cases h0
    · rename_i j h0
      cases h0
      split at h
      · rename_i ho
        obtain⟨_,_,L',r,hL',hob,_⟩:=hR.loopAt ho
        rw[hL] at hL';cases hL'
        exact⟨r,hob⟩
      · cases h
theorem notBusy_ne{s:LoopState}(h:notBusy s=true):s≠.busy:=by rintro rfl;cases h
theorem enters_spec{P:Program}{f:FuncId}(hent:enters P f=true)(cargs:Array Value)(w:World):(callFunc f cargs).run P w=.ok (.enter f cargs) w:=by
  unfold enters at hent
  split at hent
  · rename_i fn hfn
    simp only[Bool.and_eq_true,Bool.not_eq_true',Option.isSome_iff_exists] at hent
    obtain⟨⟨c,hc⟩,hn⟩:=hent
    exact enters_run hfn hn hc cargs w
  · cases hent
theorem evRange_sound{P:Program}{G:Nat}{ext:ExtF}(hext:ExtOk P G ext){ev:EvF}(hev:EvOk P G ev){roA:Option Nat}{g:Operand}{ps:Array Tmp}{assign body:Code}{fr fr':Fr}{st st':St}{ex:Ex}
    (h:evRange P G ext ev roA g ps assign body fr st=some (ex,fr',st')) {ρ:Ren} {ro:Option Nat} {a:Act} {w:World} (hro:RoR ρ roA ro) (hF:FR ρ fr a.tmps) (hR:Rel ρ st w) (hG:Glob ρ G) :
    (Code.rangeFunc g ps assign body).wpIn (fence ro) 0 P (Post ρ st w fr a.defers ex fr' st') a w:=by
  unfold evRange at h
  have hv:=valA_VR hF hG g
  split at h
  · rename_i f first captured hgv
    rw[hgv] at hv
    obtain⟨f',c',hea,hfr,hcp⟩:∃ f' c':Array Value,a.eval g=.func (.func f) f' c'∧VRs ρ first f'.toList∧VRs ρ captured c'.toList:=by
      generalize a.eval g=x at hv
      cases hv with | func _ _ _ f' c' hf hc=>exact⟨f',c',rfl,hf,hc⟩
    obtain⟨hent,h⟩:=bif_some h
    simp only[Bool.and_eq_true] at hent
    obtain⟨hent,hroom,hrok⟩:=hent
    split at h
    · rename_i r1 s1 h1
      split at h
      · rename_i s p f2 q2 x2 y2 ho
        obtain⟨hnb,h⟩:=bif_some h
        simp only[Option.some.injEq,Prod.mk.injEq] at h
        obtain⟨rfl,rfl,rfl⟩:=h
        have htop:st.top=st.next:=rfl
        rw[htop] at ho h1 ⊢
        have key:∀ (fn:FuncId) (w1:World) (d0:Nat) (mark:List Deferred),(Instr.enterLoop fn a.tmps ps assign body ro).run P w=.ok (w1.heap.size,mark) (w1.alloc (.loop { state:=.ready,pending:=none,fn,tmps:=a.tmps,params:=ps,assign,body,defers:=d0 })) →
            Good ρ st w ρ st w1 →
            (∀ ρ' w3,Good ρ st w ρ' (s1.put st.next .dead) w3→(∀ q,w.heap.size≤q→q<w1.heap.size→w3.heap[q]? = w1.heap[q]?∧∀ i L,i<(s1.put st.next .dead).next→((s1.put st.next .dead).heap.get i).live=true→ρ' i=some L→L.b≠q) →
              Defs w.heap.size ρ' (s1.put st.next .dead) w3 fr.ds (fr.off (offR roA fr.ds)).ds a.defers (mark++a.defers)) →
            ∃ (l:Nat) (mark:List Deferred) (w₁:World) (d:Deferred) (w₁':World) (f:FuncId) (args:Array Value) (w₂:World),
              (Instr.enterLoop fn a.tmps ps assign body (fence ro).round).run P w=.ok (l,mark) w₁ ∧
              (resolve a.eval (rangeCall g l) 0).run P w₁=.ok d w₁' ∧
              (∀ f',Target.leads P w₁' d.target d.args=some f'→(fence ro).fn f') ∧
              (invoke d.target d.args).run P w₁'=.ok (.enter f args) w₂ ∧
              ((fence ro).depth.isSome=true→1≤0) ∧
              CallsIn (fence ro) (0-1) P f args w₂ (rangePost (fence ro) 0 P l (Post ρ st w fr a.defers p (fr.off (offR roA fr.ds)) (s1.put st.next .dead)) { a with defers:=mark++a.defers }):=by
          intro fn w1 d0 mark hrun hg1 hdefs
          let rec_:Loop:={ state:=.ready,pending:=none,fn,tmps:=a.tmps,params:=ps,assign,body,defers:=d0 }
          let yv:Value:=.func (.yield w1.heap.size) #[] #[]
          have hgA:Good ρ st w1 (ρ.set st.next ⟨w1.heap.size,0,0⟩) (st.alloc (.loop .ready .normal fr ps assign body)) (w1.alloc (.loop rec_)):=
            hg1.rel.alloc hroom ⟨rec_,rfl,rfl,rfl,hF.ext (Ren.ext_set (hg1.rel.fresh _ (Nat.le_refl _))),rfl,rfl,rfl⟩
          have hg2:=hg1.trans hgA
          refine⟨w1.heap.size,mark,w1.alloc (.loop rec_),{ target:=.fn (.func f) c',args:=f' ++ #[yv] },w1.alloc (.loop rec_),f,(f' ++ #[yv])++c',w1.alloc (.loop rec_),hrun,?_,fun _ _=>trivial,?_,by simp[fence,Fence.wide],?_⟩
          · simp only[resolve,hea,Deferred.ofValue,rangeCall]
            simp[Act.eval,yv]
          · simp only[invoke]
            exact enters_spec hent _ _
          · refine callsIn_fence ?_
            have hvy:VR (ρ.set st.next ⟨w1.heap.size,0,0⟩) (.yield st.next) yv:=.yield st.next ⟨w1.heap.size,0,0⟩ (Ren.set_same _ _ _)
            have hc:=callA_sound hext hev (.func f) _ _ r1 s1 h1 (ρ.set st.next ⟨w1.heap.size,0,0⟩) (w1.alloc (.loop rec_)) ((f' ++ #[yv])++c') hg2.rel (hG.ext hg2.ext) (by
              rw[Array.toList_append,Array.toList_append]
              exact((hfr.ext hg2.ext).append (.cons hvy .nil)).append (hcp.ext hg2.ext))
            rcases hc with⟨_,hcalls⟩|⟨z,w',hz,_⟩
            · refine hcalls.mono ?_
              rintro e w3 ⟨vc,rfl,ρ3,_,hg3⟩
              obtain⟨hi,hget,L,r,hL,hob,hst,hpd,hFr,_⟩:=hg3.rel.loopAt ho
              have hLL:L=⟨w1.heap.size,0,0⟩:=by
                have:=hg3.ext _ _ (Ren.set_same ρ st.next ⟨w1.heap.size,0,0⟩)
                rw[hL] at this;exact Option.some.inj this
              subst hLL
              have hg4:=(hg2.trans hg3).trans (hg3.rel.kill hi)
              have hinj:∀ i M,i<(s1.put st.next .dead).next→((s1.put st.next .dead).heap.get i).live=true→ρ3 i=some M→M.b≠w1.heap.size:=by
                intro i M hi' hl hM
                have hne:i≠st.next:=by
                  rintro rfl
                  have:(s1.put st.next .dead).heap.get st.next=.dead:=T.get_set_same _ _ _
                  rw[this] at hl;cases hl
                have hgi:(s1.put st.next .dead).heap.get i=s1.heap.get i:=T.get_set_ne s1.dep s1.heap st.next i .dead hg3.rel.ok (Nat.lt_of_lt_of_le hi hg3.rel.lt) (Nat.lt_of_lt_of_le hi' hg3.rel.lt) (Ne.symm hne)
                rw[hgi] at hl
                exact hg3.rel.inj i st.next M ⟨w1.heap.size,0,0⟩ hi' hi hne hl (by rw[hget];rfl) hM hL
              have hg5:=hg4.hidden (r:=w1.heap.size) hg1.size hinj (.loop { r with state:=.exhausted })
              have hend:=run_endLoop (P:=P) hob (by rw[hst];exact notBusy_ne hnb)
              have hD:=hdefs ρ3 _ hg5 (by
                intro q hq1 hq2
                have nolive:∀ i L,i<s1.next→(s1.heap.get i).live=true→ρ3 i=some L→L.b≠q:=by
                  intro i L hi hl hρ' e
                  obtain⟨j,M,hj,hjl,hjρ,hM,_⟩:=hg3.owns i L hi hl hρ' (by rw[World.size_alloc];omega)
                  by_cases hjn:j=st.next
                  · subst hjn
                    rw[Ren.set_same] at hjρ;cases hjρ
                    simp only[] at hM;omega
                  · have hj':j<st.next:=by have:j<st.next+1:=hj;omega
                    rw[Ren.set_ne hjn] at hjρ
                    have hgj:(st.alloc (.loop .ready .normal fr ps assign body)).heap.get j=st.heap.get j:=T.get_set_ne st.dep st.heap st.next j _ hR.ok (blt_iff.1 hroom) (Nat.lt_trans hj' (blt_iff.1 hroom)) (by omega)
                    rw[hgj] at hjl
                    have:=hR.lt_size hj' hjl hjρ
                    omega
                refine⟨?_,?_⟩
                · rw[World.putObj_heap_other (by omega)]
                  rw[hg3.kept q (by rw[World.size_alloc];omega) ?_]
                  · show(w1.heap.push _)[q]? = _
                    rw[Array.getElem?_push_lt hq2];simp[hq2]
                  · intro i L hi hw hρ e
                    by_cases hjn:i=st.next
                    · subst hjn
                      rw[Ren.set_same] at hρ;cases hρ
                      simp only[] at e;omega
                    · have hj':i<st.next:=by have:i<st.next+1:=hi;omega
                      rw[Ren.set_ne hjn] at hρ
                      have hgj:(st.alloc (.loop .ready .normal fr ps assign body)).heap.get i=st.heap.get i:=T.get_set_ne st.dep st.heap st.next i _ hR.ok (blt_iff.1 hroom) (Nat.lt_trans hj' (blt_iff.1 hroom)) (by omega)
                      rw[hgj] at hw
                      have:=hR.lt_size hj' (AO.live_of_writable hw) hρ
                      omega
                · intro i M hi' hl hM
                  have hne:i≠st.next:=by
                    rintro rfl
                    have:(s1.put st.next .dead).heap.get st.next=.dead:=T.get_set_same _ _ _
                    rw[this] at hl;cases hl
                  have hgi:(s1.put st.next .dead).heap.get i=s1.heap.get i:=T.get_set_ne s1.dep s1.heap st.next i .dead hg3.rel.ok (Nat.lt_of_lt_of_le hi hg3.rel.lt) (Nat.lt_of_lt_of_le hi' hg3.rel.lt) (Ne.symm hne)
                  rw[hgi] at hl
                  exact nolive i M hi' hl hM)
              have hend':(Instr.endLoop w1.heap.size).run P w3=.ok p.jump (w3.putObj w1.heap.size (.loop { r with state:=.exhausted })):=by rw[← hpd];exact hend
              refine⟨p.jump,_,hend',?_⟩
              have hpost:Post ρ st w fr a.defers p (fr.off (offR roA fr.ds)) (s1.put st.next .dead) p.toExit { a with defers:=mark++a.defers } (w3.putObj w1.heap.size (.loop { r with state:=.exhausted })):=
                ⟨rfl,ρ3,(hF.ext (hg2.ext.trans hg3.ext)).off _,hg5,hD⟩
              cases p with
              | normal=>exact hpost
              | ret=>exact wpIn_ret hpost
              | exit id=>exact wpIn_exit hpost
            · rw[enters_spec hent] at hz;cases hz
        refine wpIn_rangeFunc (n:=0) (F:=fence ro) fun fn _=>?_
        cases ro with
        | none =>
          cases roA with
          | some i=>exact hro.elim
          | none =>
            refine key fn (w.alloc (.deferred (some []))) w.heap.size [{ target:=.collected w.heap.size,args:=#[] }] ?_ (Good.push hR _) ?_
            · rw[run_enterLoop_outer];simp[World.size_alloc]
            · intro ρ' w3 hg hq
              obtain⟨q1,q2⟩:=hq w.heap.size (Nat.le_refl _) (by rw[World.size_alloc];omega)
              refine⟨[.mark],[{ target:=.collected w.heap.size,args:=#[] }],rfl,rfl,.mark w.heap.size (Nat.le_refl _) ?_ q2 (by simp) .nil⟩
              rw[q1];exact World.alloc_heap_new w _
        | some l =>
          cases roA with
          | none=>exact hro.elim
          | some i =>
            obtain⟨r0,hr0⟩:=roOk_get hrok hro hR l rfl
            refine key fn w r0.defers [] ?_ (.refl hR) ?_
            · exact run_enterLoop_inner hr0 _ _ _ _ _
            · intro ρ' w3 hg hq
              exact .same rfl rfl
      · cases h
    · cases h
  · cases h
theorem stepR_scope'{P:Program}{b:Frame}{a:Act}{k:List Item}{cs:List Frame}{w:World}{c:Code}:step P (lone (b.atR a (.code (.scope c)::k)) cs w)=.next (lone (b.atR a (.code c :: .inScope c::k)) cs w):=
  step_lone_go (by simp[stepG,stepG.exec,Frame.atR])
theorem stepR_inScope'{P:Program}{b:Frame}{a:Act}{k:List Item}{cs:List Frame}{w:World}{c:Code}:step P (lone (b.atR a (.inScope c::k)) cs w)=.next (lone (b.atR a k) cs w):=
  step_lone_go (by simp[stepG,stepG.exec,Frame.atR])
theorem wpIn_scope_straight{F:Fence}{n:Nat}{P:Program}{c:Code}{Q:Exit→Act→World→Prop}{a:Act}{w:World}(hQ:∀ l a w,¬Q (.goto l) a w)(h:c.wpIn F n P Q a w):(Code.scope c).wpIn F n P Q a w:=by
  intro b k cs hro hb hr
  have h0:(lone (b.atR a (.code (.scope c)::k)) cs w).fenced P F:=fenced_calm hb hr rfl
  obtain⟨e,a₁,w₁,hq,harr⟩:=h b (.inScope c::k) cs hro hb hr
  cases e with
  | normal=>exact⟨.normal,a₁,w₁,hq,.head h0 stepR_scope' (StepsIn.trans harr (.one (fenced_calm hb hr rfl) stepR_inScope'))⟩
  | exit id =>
    have hx:exitTo id (.inScope c::k)=exitTo id k:=by simp[exitTo]
    exact⟨.exit id,a₁,w₁,hq,fun k' hk=>.head h0 stepR_scope' (harr.1 k' (by rw[hx];exact hk)),
      fun hr' hk=>let ⟨k₁,h1,h2⟩:=harr.2 hr' (by rw[hx];exact hk);⟨k₁,h1,.head h0 stepR_scope' h2⟩⟩
  | goto l=>exact(hQ _ _ _ hq).elim
  | ret=>exact⟨_,a₁,w₁,hq,.of_steps (.one h0 stepR_scope') harr⟩
  | panic ch=>exact⟨_,a₁,w₁,hq,.of_steps (.one h0 stepR_scope') harr⟩
  | outgrown=>exact⟨_,a₁,w₁,hq,.of_steps (.one h0 stepR_scope') harr⟩
theorem evCode_sound{P:Program}{G:Nat}{ext:ExtF}(hext:ExtOk P G ext)(hmix:P.follows .mixedOrders=true){ev:EvF}(hev:EvOk P G ev):EvOk P G (evCode P G ext ev):=by
  intro roA c fr st ex fr' st' h ρ ro a w hro hF hR hG
  have hcall:=callA_sound hext hev
  cases c with
  | skip =>
    simp only[evCode,Option.some.injEq,Prod.mk.injEq] at h
    obtain⟨rfl,rfl,rfl⟩:=h
    exact wpIn_skip ⟨rfl,ρ,hF,.refl hR,.same rfl rfl⟩
  | label l =>
    simp only[evCode,Option.some.injEq,Prod.mk.injEq] at h
    obtain⟨rfl,rfl,rfl⟩:=h
    exact wpIn_label ⟨rfl,ρ,hF,.refl hR,.same rfl rfl⟩
  | scope c =>
    simp only[evCode] at h
    refine wpIn_scope_straight ?_ (wp_of_wpX (hev _ _ _ _ _ _ _ h ρ ro a w hro hF hR hG))
    rintro l a' w' ⟨he,_⟩
    cases ex<;>cases he
  | region id ops draw=>exact evRegion_sound hcall hmix h hro hF hR hG
  | seq x y =>
    simp only[evCode] at h
    cases h1:ev roA x fr st with
    | none=>rw[h1] at h;simp at h
    | some r =>
      obtain⟨ex1,fr1,st1⟩:=r
      rw[h1] at h
      refine wpIn_seq (wpIn_mono (wp_of_wpX (hev _ _ _ _ _ _ _ h1 ρ ro a w hro hF hR hG)) ?_)
      rintro e a1 w1 ⟨rfl,ρ1,hF1,hg1,hd1⟩
      cases ex1 with
      | normal =>
        refine wpIn_mono (wp_of_wpX (hev _ _ _ _ _ _ _ h ρ1 ro a1 w1 (hro.ext hg1.ext) hF1 hg1.rel (hG.ext hg1.ext))) ?_
        rintro e a2 w2 ⟨rfl,ρ2,hF2,hg2,hd2⟩
        exact⟨rfl,ρ2,hF2,hg1.trans hg2,hd1.trans hg2 hg1.size hd2⟩
      | ret=>simp only[Option.some.injEq,Prod.mk.injEq] at h;obtain⟨rfl,rfl,rfl⟩:=h;exact⟨rfl,ρ1,hF1,hg1,hd1⟩
      | exit id=>simp only[Option.some.injEq,Prod.mk.injEq] at h;obtain⟨rfl,rfl,rfl⟩:=h;exact⟨rfl,ρ1,hF1,hg1,hd1⟩
  | cond c x y =>
    simp only[evCode] at h
    have hv:=valA_VR hF hG c
    split at h
    · rename_i hc
      rw[hc] at hv
      exact wpIn_cond_true (by generalize a.eval c=z at hv;cases hv;rfl) (wp_of_wpX (hev _ _ _ _ _ _ _ h ρ ro a w hro hF hR hG))
    · rename_i hc
      rw[hc] at hv
      exact wpIn_cond_false (by generalize a.eval c=z at hv;cases hv;rfl) (wp_of_wpX (hev _ _ _ _ _ _ _ h ρ ro a w hro hF hR hG))
    · cases h
  | block id c =>
    simp only[evCode] at h
    cases h1:ev roA c fr st with
    | none=>rw[h1] at h;simp at h
    | some r =>
      obtain⟨ex1,fr1,st1⟩:=r
      rw[h1] at h
      refine wpIn_block (wpIn_mono (wp_of_wpX (hev _ _ _ _ _ _ _ h1 ρ ro a w hro hF hR hG)) ?_)
      rintro e a1 w1 ⟨rfl,ρ1,hF1,hg1,hd1⟩
      cases ex1 with
      | normal=>simp only[Option.some.injEq,Prod.mk.injEq] at h;obtain⟨rfl,rfl,rfl⟩:=h;exact⟨rfl,ρ1,hF1,hg1,hd1⟩
      | ret=>simp only[Option.some.injEq,Prod.mk.injEq] at h;obtain⟨rfl,rfl,rfl⟩:=h;exact⟨rfl,ρ1,hF1,hg1,hd1⟩
      | exit j =>
        simp only[] at h
        cases hj:Nat.beq j id with
        | true =>
          rw[hj] at h
          simp only[cond_true,Option.some.injEq,Prod.mk.injEq] at h
          obtain⟨rfl,rfl,rfl⟩:=h
          simp only[Ex.toExit,Exit.inBlock,beq_iff.1 hj,if_true]
          exact⟨rfl,ρ1,hF1,hg1,hd1⟩
        | false =>
          rw[hj] at h
          simp only[cond_false,Option.some.injEq,Prod.mk.injEq] at h
          obtain⟨rfl,rfl,rfl⟩:=h
          have:j≠id:=fun e=>by rw[beq_iff.2 e] at hj;cases hj
          simp only[Ex.toExit,Exit.inBlock,this,if_false]
          exact⟨rfl,ρ1,hF1,hg1,hd1⟩
  | loop c =>
    simp only[evCode] at h
    cases h1:ev roA c fr st with
    | none=>rw[h1] at h;simp at h
    | some r =>
      obtain⟨ex1,fr1,st1⟩:=r
      rw[h1] at h
      intro b k cs hbro
      obtain⟨e,a1,w1,⟨rfl,ρ1,hF1,hg1,hd1⟩,harr⟩:=wp_of_wpX (hev _ _ _ _ _ _ _ h1 ρ ro a w hro hF hR hG) b (.inLoop c::k) cs hbro trivial (room_fence _ _)
      cases ex1 with
      | normal =>
        obtain⟨e,a2,w2,⟨rfl,ρ2,hF2,hg2,hd2⟩,harr2⟩:=hev _ _ _ _ _ _ _ h ρ1 ro a1 w1 (hro.ext hg1.ext) hF1 hg1.rel (hG.ext hg1.ext) b k cs hbro
        exact⟨_,a2,w2,⟨rfl,ρ2,hF2,hg1.trans hg2,hd1.trans hg2 hg1.size hd2⟩,.of_steps (StepsIn.trans harr (.one (fenced_calm (n:=0) trivial (room_fence _ _) rfl) stepR_inLoop)) harr2⟩
      | ret=>simp only[Option.some.injEq,Prod.mk.injEq] at h;obtain⟨rfl,rfl,rfl⟩:=h;exact⟨_,a1,w1,⟨rfl,ρ1,hF1,hg1,hd1⟩,.pass (x:=.inLoop c) rfl (fun _ _=>.inl (by simp[Ex.toExit])) harr⟩
      | exit id=>simp only[Option.some.injEq,Prod.mk.injEq] at h;obtain⟨rfl,rfl,rfl⟩:=h;exact⟨_,a1,w1,⟨rfl,ρ1,hF1,hg1,hd1⟩,.pass (x:=.inLoop c) rfl (fun _ _=>.inl (by simp[Ex.toExit])) harr⟩
  | rangeFunc g ps assign body=>exact evRange_sound hext hev h hro hF hR hG
  | exit id =>
    simp only[evCode,Option.some.injEq,Prod.mk.injEq] at h
    obtain⟨rfl,rfl,rfl⟩:=h
    exact wpIn_exit ⟨rfl,ρ,hF,.refl hR,.same rfl rfl⟩
  | ret =>
    simp only[evCode,Option.some.injEq,Prod.mk.injEq] at h
    obtain⟨rfl,rfl,rfl⟩:=h
    exact wpIn_ret ⟨rfl,ρ,hF,.refl hR,.same rfl rfl⟩
  | _=>simp[evCode] at h
theorem evN_sound{P:Program}{G:Nat}{ext:ExtF}(hext:ExtOk P G ext)(hmix:P.follows .mixedOrders=true):∀ n,EvOk P G (evN P G ext n)
  | 0=>fun _ _ _ _ _ _ _ h=>by cases h
  | n+1=>evCode_sound hext hmix (evN_sound hext hmix n)
end
end Go.Ev
