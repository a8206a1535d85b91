/-
  chancerylaw15.awake: every call returns true, and leaves all old memory as it was: closed runs, reckoned by the kernel.
-/
import Derived.Test.YtdbkocfbhpgpkaaGreatm50
import Derived.Test.YtdbkocfbhpgpkaaGreatm45
set_option linter.unusedVariables false
set_option linter.unusedSimpArgs false
namespace Go.Ev
open Go Go.RowKit
noncomputable section
def topF0:F0:=⟨.top,.top,.top,.top,.top,.top,.top,.top⟩
def topF1:F1:=⟨topF0,topF0,topF0,topF0,topF0,topF0,topF0,topF0⟩
def topF2:F2:=⟨topF1,topF1,topF1,topF1,topF1,topF1,topF1,topF1⟩
theorem topF2_at(i:Nat):topF2.at i=.top:=by
  unfold F2.at
  have h1:∀ a,topF2.get a=topF1:=fun a=>by unfold F2.get;split<;>rfl
  have h2:∀ a,topF1.get a=topF0:=fun a=>by unfold F1.get;split<;>rfl
  have h3:∀ a,topF0.get a=.top:=fun a=>by unfold F0.get;split<;>rfl
  rw[h1,h2,h3]
def argsN:List AV→Nat→F2→F2
  | [],_,f=>f
  | v::l,i,f=>argsN l (i+1) ((putC i).run f v)
theorem argsN_at:∀ (l:List AV) (i:Nat) (f:F2) (j:Nat),i+l.length≤512→j<512→(argsN l i f).at j=if h:i≤j∧j<i+l.length then l[j-i]'(by omega) else f.at j
  | [],i,f,j,_,_=>by rw[dif_neg (by simp)];rfl
  | v :: l, i, f, j, h, hj => by
    simp only[List.length_cons] at h
    rw[argsN,argsN_at l (i+1) _ j (by omega) hj,(putC i).ok]
    by_cases h1:i+1≤j∧j<i+1+l.length
    · rw[dif_pos h1,dif_pos (by simp only[List.length_cons];omega)]
      have:j-i=(j-(i+1))+1:=by omega
      simp only[this,List.getElem_cons_succ]
    · rw[dif_neg h1]
      by_cases h2:j=i
      · subst h2
        rw[dif_pos (by simp only[List.length_cons];omega),F2.at_put_same]
        simp
      · rw[dif_neg (by simp only[List.length_cons];omega),F2.at_put_ne f i j (by omega) hj (Ne.symm h2)]
structure ArgsQ(n i:Nat) where
  run:List AV→F2→F2
  ok:∀ l f,l.length≤n→run l f=argsN l i f
def argsK(p:F2→AV→F2)(r:List AV→F2→F2)(l:List AV)(f:F2):F2:=List.rec (motive:=fun _=>F2) f (fun v t _=>r t (p f v)) l
def args0(_:List AV)(f:F2):F2:=f
theorem args0_ok(i:Nat)(l:List AV)(f:F2)(h:l.length≤0):args0 l f=argsN l i f:=by
  cases l with
  | nil=>rfl
  | cons v l=>simp at h
theorem argsK_ok{n i:Nat}{r:List AV→F2→F2}(hr:∀ l f,l.length≤n→r l f=argsN l (i+1) f)(l:List AV)(f:F2)(h:l.length≤n+1):argsK (putC i).run r l f=argsN l i f:=by
  cases l with
  | nil=>rfl
  | cons v l=>exact hr l _ (by simpa using h)
def argsQ:(n i:Nat)→ArgsQ n i
  | 0,i=>⟨args0,args0_ok i⟩
  | n+1,i=>ArgsQ.rec (motive:=fun _=>ArgsQ (n+1) i) (fun r hr=>⟨argsK (putC i).run r,argsK_ok hr⟩) (argsQ n (i+1))
theorem argsN_QF{ρ:Ren}{lim X:Nat}{args:List AV}{cargs:Array Value}(h:VRs ρ args cargs.toList)(h1:args.length≤lim)(h2:lim≤512) :
    QF lim X ρ (argsN args 0 topF2) (cargs++Array.replicate (lim-cargs.size) undef):=by
  have hl:args.length=cargs.size:=by rw[← Array.length_toList];exact VRs.length h
  refine⟨h2,by simp only[Array.size_append,Array.size_replicate];omega,?_⟩
  intro i hi _
  rw[argsN_at args 0 topF2 i (by omega) (by omega)]
  split
  · rename_i hh
    rw[Array.getD_eq_getD_getElem?]
    obtain⟨v,hv,hvr⟩:=h.get (i-0) _ (List.getElem?_eq_getElem (by omega))
    have:i<cargs.size:=by omega
    rw[Array.getElem?_append_left this]
    rw[Nat.sub_zero,Array.getElem?_toList] at hv
    rw[hv];exact hvr
  · rw[topF2_at];exact .top _
structure ResC(P:Program)(S:Sta)(rs:List ResultVar) where
  run:F2→St→(List AV→Option (AV×St))→Option (AV×St)
  ok:∀ f st k r,run f st k=some r→∃ l,k l=some r∧∀ ρ tmps w,QF S.lim S.X ρ f tmps→Rel ρ st w→Glob ρ S.G→∃ vs:List Value,VRs ρ l vs∧(rs.mapM (resF tmps):Sem (List Value)).run P w=.ok vs w
def resT (g:F2→LS→AV)(r:F2→St→(List AV→Option (AV×St))→Option (AV×St))(f:F2)(st:St)(k:List AV→Option (AV×St)):Option (AV×St):=r f st (fun l=>k (g f .nil::l))
def cellR(P:Program)(t:TypeId)(x:AV)(st:St):Option AV:=
  match x with
  | .ptr i off=>match aggN P t with
      | some (some n)=>((st.obj i).blk off n).map fun b=>AV.agg b.toL
      | some none=>(st.obj i).cell? off
      | none=>none
  | _=>none
theorem cellR_sound{P:Program}{ρ:Ren}{t:TypeId}{x:AV}{v:AV}{st:St}{u:Value}{w:World}(h:cellR P t x st=some v)(hx:VR ρ x u)(hR:Rel ρ st w) :
    ∃ z,(do loadVar t (← asAddr u):Sem Value).run P w=.ok z w∧VR ρ v z:=by
  unfold cellR at h
  split at h
  · rename_i i off
    cases hx with | ptr _ _ L hL=>
    have ha:asAddr (.pointer (some (L.at off)))=pure (L.at off):=rfl
    split at h
    · rename_i n hn
      simp only[Option.map_eq_some_iff] at h
      obtain⟨b,hb,rfl⟩:=h
      obtain⟨L',hL',us,g1,g2,g3,_⟩:=hR.blk hb
      rw[hL] at hL';cases hL'
      exact⟨.agg us.toArray,by simp only[Sem.run_bind,ha,Sem.run_pure,Result.andThen_ok];exact run_loadVar_agg hn g2 (fun j u hj=>by rw[L.at_add];exact g3 j u hj),.agg _ _ (by simpa using g1)⟩
    · rename_i hn
      obtain⟨L',hL',u,g1,g2⟩:=hR.cell h
      rw[hL] at hL';cases hL'
      exact⟨u,by simp only[Sem.run_bind,ha,Sem.run_pure,Result.andThen_ok];exact run_loadVar_one hn g1,g2⟩
    · cases h
  · cases h
def resK (P:Program)(t:TypeId)(g:F2→LS→AV)(r:F2→St→(List AV→Option (AV×St))→Option (AV×St))(f:F2)(st:St)(k:List AV→Option (AV×St)):Option (AV×St):=
  match cellR P t (g f .nil) st with
  | some v=>r f st (fun l=>k (v::l))
  | none=>none
def resC (P:Program)(S:Sta):(rs:List ResultVar)→ResC P S rs
  | []=>⟨fun _ _ k=>k [],fun f st k r h=>⟨[],h,fun ρ tmps w _ _ _=>⟨[],.nil,rfl⟩⟩⟩
  | .tmp t :: rs => match getC S [] (.tmp t), resC P S rs with
    | ⟨g, hg⟩, ⟨q, hq⟩ => ⟨resT g q, fun f st k r h => by
      obtain⟨l,h1,h2⟩:=hq f st (fun l=>k (g f .nil::l)) r h
      refine⟨g f .nil::l,h1,fun ρ tmps w hF hR hG=>?_⟩
      obtain⟨vs,h3,h4⟩:=h2 ρ tmps w hF hR hG
      have hv:=valQ_VR (S:=S) (E:=[]) (L:=.nil) (a:={ tmps:=tmps,defers:=[] }) hF (LR.nil _ _ _ _) hG (.tmp t)
      rw[← hg] at hv
      exact⟨_,.cons hv h3,by simp only[List.mapM_cons,resF,Sem.run_bind,Sem.run_pure,Result.andThen_ok,h4];rfl⟩⟩
  | .cell a t :: rs => match getC S [] (.tmp a), resC P S rs with
    | ⟨g, hg⟩, ⟨q, hq⟩ => ⟨resK P t g q, fun f st k r h => by
      unfold resK at h
      split at h
      · rename_i v hcell
        obtain⟨l,h1,h2⟩:=hq f st (fun l=>k (v::l)) r h
        refine⟨v::l,h1,fun ρ tmps w hF hR hG=>?_⟩
        obtain⟨vs,h3,h4⟩:=h2 ρ tmps w hF hR hG
        have hv:=valQ_VR (S:=S) (E:=[]) (L:=.nil) (a:={ tmps:=tmps,defers:=[] }) hF (LR.nil _ _ _ _) hG (.tmp a)
        rw[← hg] at hv
        obtain⟨z,h5,h6⟩:=cellR_sound hcell hv hR
        have h5:(do loadVar t (← asAddr (tmps.getD a undef)):Sem Value).run P w=.ok z w:=h5
        refine⟨_,.cons h6 h3,?_⟩
        simp only[List.mapM_cons,resF,Sem.run_bind,Sem.run_pure,Result.andThen_ok,h4] at h5 ⊢
        rw[h5]
        simp only[Result.andThen_ok,h4]
      · cases h⟩
structure FnC(P:Program)(G f:Nat) where
  run:CallF→List AV→St→Option (AV×St)
  ok:∀ call,CallOk P G call→∀ args st v st',run call args st=some (v,st')→∀ ρ w (cargs:Array Value),Rel ρ st w→Glob ρ G→VRs ρ args cargs.toList →
    (∀ w,(callFunc f cargs).run P w=.ok (.enter f cargs) w)∧Calls P f cargs w fun e w'=>∃ vc,e=.returned vc∧∃ ρ',VR ρ' v vc∧Good ρ st w ρ' st' w'
def oneK (st:St)(l:List AV):Option (AV×St):=some (oneA l,st)
def fnK (q:F2→St→(List AV→Option (AV×St))→Option (AV×St))(r:RX):Option (AV×St):=
  RX.rec (motive:=fun _=>Option (AV×St)) none (fun f st=>q f st (oneK st)) (fun f st=>q f st (oneK st)) (fun _ _ _=>none) r
def fnR (lim:Nat)(put:List AV→F2→F2)(r:RunC)(q:F2→St→(List AV→Option (AV×St))→Option (AV×St))(call:CallF)(args:List AV)(st:St):Option (AV×St):=
  Bool.rec (motive:=fun _=>Option (AV×St)) none (fnK q (r call (put args topF2) st)) (Nat.ble args.length lim)
def fnC (P:Program)(hmix:P.follows .mixedOrders=true)(G X f:Nat):FnC P G f:=
  match hfn:P.funcs[f]? with
  | none=>⟨fun _ _ _=>none,fun call hc args st v st' h=>by cases h⟩
  | some fn => match hbody : fn.body with
    | none=>⟨fun _ _ _=>none,fun call hc args st v st' h=>by cases h⟩
    | some c => match hcond : (!(fn.name == "runtime.NumGoroutine") && Nat.ble fn.ntmps 512) with
      | false=>⟨fun _ _ _=>none,fun call hc args st v st' h=>by cases h⟩
      | true => match codeC P ⟨G, fn.ntmps, X⟩ hmix c, resC P ⟨G, fn.ntmps, X⟩ fn.results.toList with
        | ⟨r, hr⟩, ⟨q, hq⟩ => ⟨fnR (Nat.min fn.ntmps 24) (argsQ (Nat.min fn.ntmps 24) 0).run r q, fun call hc args st v st' h ρ w cargs hR hG hA => by
          simp only[Bool.and_eq_true,Bool.not_eq_true',ble_iff] at hcond
          refine⟨fun w=>enters_run hfn hcond.1 hbody cargs w,?_⟩
          unfold fnR at h
          cases hle:Nat.ble args.length (Nat.min fn.ntmps 24) with
          | false=>rw[hle] at h;cases h
          | true =>
            rw[hle] at h
            have hle0:=ble_iff.1 hle
            rw[(argsQ (Nat.min fn.ntmps 24) 0).ok args topF2 hle0] at h
            have hle:args.length≤fn.ntmps:=Nat.le_trans hle0 (Nat.min_le_left _ _)
            have hF:=argsN_QF (X:=X) hA hle hcond.2
            have key:∀ ex f1 st1,r call (argsN args 0 topF2) st=RX.of ex f1 st1→(ex=.normal∨ex=.ret)→q f1 st1 (oneK st1)=some (v,st') →
                Calls P f cargs w fun e w'=>∃ vc,e=.returned vc∧∃ ρ',VR ρ' v vc∧Good ρ st w ρ' st' w':=by
              intro ex f1 st1 he hex hq1
              obtain⟨l,h1,h2⟩:=hq f1 st1 _ _ hq1
              simp only[oneK,Option.some.injEq,Prod.mk.injEq] at h1
              obtain⟨rfl,rfl⟩:=h1
              refine callsIn_wide.1 (callsIn_of_wp (F:=Fence.wide) (n:=0) hfn hbody trivial ?_)
              refine wpIn_mono (show c.wpIn Fence.wide 0 P _ _ w from hr call hc _ st ex f1 st1 he ρ { tmps:=cargs++Array.replicate (fn.ntmps-cargs.size) undef,defers:=[] } w hF hR hG none) ?_
              rintro e a' w' ⟨rfl,ρ',hF',hg,hd⟩
              obtain⟨vs,g1,g2⟩:=h2 ρ' a'.tmps w' hF' hg.rel (hG.ext hg.ext)
              have hrun:(results fn a'.tmps).run P w'=.ok (if h:vs.toArray.size=1 then vs.toArray[0] else .tuple vs.toArray) w':=by
                rw[results_eq,Array.mapM_eq_mapM_toList]
                simp only[Sem.run_bind,Sem.run_map,g2,Sem.run_pure,Result.andThen_ok]
              rcases hex with rfl|rfl
              · exact⟨hd,_,hrun,_,rfl,ρ',oneA_sound _ _ g1,hg⟩
              · exact⟨hd,_,hrun,_,rfl,ρ',oneA_sound _ _ g1,hg⟩
            have h:fnK q (r call (argsN args 0 topF2) st)=some (v,st'):=h
            cases he:r call (argsN args 0 topF2) st with
            | no=>rw[he] at h;cases h
            | nrm f1 st1=>rw[he] at h;exact key .normal f1 st1 he (.inl rfl) h
            | ret f1 st1=>rw[he] at h;exact key .ret f1 st1 he (.inr rfl) h
            | ext j f1 st1=>rw[he] at h;cases h⟩
def lookN(l:List (Nat×Nat))(f:Nat):Nat:=List.rec (motive:=fun _=>Nat) 0 (fun p _ ih=>Prod.rec (motive:=fun _=>Nat) (fun a b=>Bool.rec (motive:=fun _=>Nat) ih b (Nat.beq a f)) p) l
def isLoopC:Code→Bool
  | .loop _=>true
  | _=>false
def outQ (S:Sta)(ds:List DA)(r:RX):Option (Ex×Fr×St):=
  RX.rec (motive:=fun _=>Option (Ex×Fr×St)) none (fun f st=>some (.normal,⟨S.lim,9,treeQ S f 9 0 1,ds⟩,st)) (fun f st=>some (.ret,⟨S.lim,9,treeQ S f 9 0 1,ds⟩,st))
    (fun j f st=>some (.exit j,⟨S.lim,9,treeQ S f 9 0 1,ds⟩,st)) r
def evQ (P:Program)(hmix:P.follows .mixedOrders=true)(G:Nat)(R:Nat→Nat)(call:CallF):EvF:=fun _ c fr st=>
  match fr with
  | ⟨n,_,t,ds⟩=>Bool.rec (motive:=fun _=>Option (Ex×Fr×St)) none (outQ ⟨G,n,R n⟩ ds ((codeC P ⟨G,n,R n⟩ hmix c).run call (f2of t) st)) (Nat.ble n 512 && !isLoopC c)
theorem evQ_ok{P:Program}{hmix:P.follows .mixedOrders=true}{G:Nat}{R:Nat→Nat}{call:CallF}(hc:CallOk P G call):EvOk P G (evQ P hmix G R call):=by
  intro roA c fr st ex fr' st' h ρ ro a w _ hF hR hG
  obtain⟨n,d,t,ds⟩:=fr
  simp only[evQ] at h
  cases hb:(Nat.ble n 512 && !isLoopC c) with
  | false=>rw[hb] at h;cases h
  | true =>
    rw[hb] at h
    simp only[Bool.and_eq_true,Bool.not_eq_true',ble_iff] at hb
    obtain⟨hn,hl⟩:=hb
    have hQ:QF n (R n) ρ (f2of t) a.tmps:=⟨hn,hF.size,fun i hi _=>by rw[f2of_at t i (by omega)];exact hF.val i hi⟩
    have key:∀ ex1 f1 st1,(codeC P ⟨G,n,R n⟩ hmix c).run call (f2of t) st=RX.of ex1 f1 st1→wpX ro P c (Post ρ st w ⟨n,d,t,ds⟩ a.defers ex1 ⟨n,9,treeQ ⟨G,n,R n⟩ f1 9 0 1,ds⟩ st1) a w:=by
      intro ex1 f1 st1 hr
      have hw:=(codeC P ⟨G,n,R n⟩ hmix c).ok call hc (f2of t) st ex1 f1 st1 hr ρ a w hQ hR hG ro
      have hw2:c.wpIn (fence ro) 0 P (Post ρ st w ⟨n,d,t,ds⟩ a.defers ex1 ⟨n,9,treeQ ⟨G,n,R n⟩ f1 9 0 1,ds⟩ st1) a w:=by
        refine wpIn_mono hw ?_
        rintro e a' w' ⟨rfl,ρ',g1,g2,g3⟩
        exact⟨rfl,ρ',(frQ_FR (S:=⟨G,n,R n⟩) g1).off ds,g2,Defs.same rfl g3⟩
      cases c<;>first | exact hw2 | (cases hl;done)
    have h:outQ ⟨G,n,R n⟩ ds ((codeC P ⟨G,n,R n⟩ hmix c).run call (f2of t) st)=some (ex,fr',st'):=h
    cases hr:(codeC P ⟨G,n,R n⟩ hmix c).run call (f2of t) st with
    | no=>rw[hr] at h;cases h
    | nrm f1 st1=>rw[hr] at h;cases h;exact key .normal f1 _ hr
    | ret f1 st1=>rw[hr] at h;cases h;exact key .ret f1 _ hr
    | ext j f1 st1=>rw[hr] at h;cases h;exact key (.exit j) f1 _ hr
def evB (x y:EvF):EvF:=fun ro c fr st=>match x ro c fr st with
  | some r=>some r
  | none=>y ro c fr st
theorem evB_ok{P:Program}{G:Nat}{x y:EvF}(hx:EvOk P G x)(hy:EvOk P G y):EvOk P G (evB x y):=by
  intro roA c fr st ex fr' st' h
  unfold evB at h
  split at h
  · rename_i r hr
    simp only[Option.some.injEq] at h
    subst h
    exact hx roA c fr st ex fr' st' hr
  · exact hy roA c fr st ex fr' st' h
structure Hint where
  X:FuncId→Nat
  slow:Nat
  R:Nat→Nat:=fun _=>0
def callF2(P:Program)(hmix:P.follows .mixedOrders=true)(G:Nat)(H:Hint)(ih:CallF)(f:FuncId)(args:List AV)(st:St):Option (AV×St):=
  Bool.rec (motive:=fun _=>Option (AV×St)) ((fnC P hmix G (H.X f) f).run ih args st) (funA P G (evN P G (fun f args st=>ih (.func f) args st) 4000) f args st) (Nat.testBit H.slow f)
def callF1(P:Program)(hmix:P.follows .mixedOrders=true)(G:Nat)(ext:ExtF)(H:Hint)(ih:CallF)(f:FuncId)(args:List AV)(st:St):Option (AV×St):=
  Option.rec (motive:=fun _=>Option (AV×St)) (callF2 P hmix G H ih f args st) (fun r=>some r) (ext f args st)
def callY(P:Program)(hmix:P.follows .mixedOrders=true)(G:Nat)(H:Hint)(ih:CallF)(i:Nat)(args:List AV)(st:St):Option (AV×St):=
  roundA (evB (evQ P hmix G H.R ih) (evN P G (fun f args st=>ih (.func f) args st) 4000)) i args st
def stepQ(P:Program)(hmix:P.follows .mixedOrders=true)(G:Nat)(ext:ExtF)(H:Hint)(ih:CallF):CallF:=fun k args st=>
  Fk.rec (motive:=fun _=>Option (AV×St)) (fun f=>callF1 P hmix G ext H ih f args st) (fun i=>callY P hmix G H ih i args st) k
def callQ(P:Program)(hmix:P.follows .mixedOrders=true)(G:Nat)(ext:ExtF)(H:Hint)(n:Nat):CallF:=
  Nat.rec (motive:=fun _=>CallF) (fun _ _ _=>none) (fun _ ih=>stepQ P hmix G ext H ih) n
theorem callQ_ok{P:Program}{hmix:P.follows .mixedOrders=true}{G:Nat}{ext:ExtF}(hext:ExtOk P G ext)(H:Hint):∀ n,CallOk P G (callQ P hmix G ext H n)
  | 0=>fun _ _ _ _ _ h=>by cases h
  | n + 1 => by
    have ih:=callQ_ok (hmix:=hmix) hext H n
    have hx:ExtOk P G (fun f args st=>callQ P hmix G ext H n (.func f) args st):=fun f args st v st' h ρ w cargs hR hG hA=>ih (.func f) args st v st' h ρ w cargs hR hG hA
    intro k args st v st' h ρ w cargs hR hG hA
    cases k with
    | func f =>
      have h:callF1 P hmix G ext H (callQ P hmix G ext H n) f args st=some (v,st'):=h
      unfold callF1 at h
      cases he:ext f args st with
      | some r =>
        rw[he] at h
        have h:some r=some (v,st'):=h
        simp only[Option.some.injEq] at h
        subst h
        exact hext f args st v st' he ρ w cargs hR hG hA
      | none =>
        rw[he] at h
        have h:callF2 P hmix G H (callQ P hmix G ext H n) f args st=some (v,st'):=h
        unfold callF2 at h
        cases hs:Nat.testBit H.slow f with
        | true =>
          rw[hs] at h
          exact .inl (funA_sound (evN_sound hx hmix 4000) h hR hG hA)
        | false =>
          rw[hs] at h
          exact .inl ((fnC P hmix G (H.X f) f).ok _ ih args st v st' h ρ w cargs hR hG hA)
    | yield i =>
      have h:callY P hmix G H (callQ P hmix G ext H n) i args st=some (v,st'):=h
      exact round_sound (evB_ok (evQ_ok ih) (evN_sound hx hmix 4000)) h hR hG hA
theorem closed_callsQ{P:Program}{ext:ExtF}(H:Hint)(G dep fuel f:Nat)(hext:ExtOk P G ext)(hmix:P.follows .mixedOrders=true)(hG:Nat.ble G (2 ^ dep)=true)(cargs:Array Value)(args:List AV)(hargs:VRs (renG G) args cargs.toList)
    (hent:enters P f=true) (h:isTrue (callQ P hmix G ext H fuel (.func f) args (St.init G dep))=true) (w:World) :
    Calls P f cargs w fun e w'=>e=.returned (.bool true)∧Below w.heap.size w w':=by
  unfold isTrue at h
  split at h
  · rename_i st' he
    rcases callQ_ok hext H fuel (.func f) _ _ _ _ he (renG G) w cargs (Rel.init G dep (Nat.le_of_ble_eq_true hG) w) (Glob.init G) hargs with⟨_,hc⟩|⟨z,w',h1,_⟩
    · refine hc.mono ?_
      rintro e w' ⟨vc,rfl,ρ',hv,hg⟩
      cases hv
      refine⟨rfl,hg.os,hg.tape,hg.output,hg.size,fun b hb=>hg.kept b hb ?_⟩
      intro i L _ hw
      simp only[St.init,T.get_full] at hw
      cases hw
    · rw[enters_spec hent] at h1;cases h1
  · cases h
end
end Go.Ev
namespace Go.Proofs.YtdbkocfbhpgpkaaGreat
open Go Go.Ev
def hintL:List (Nat×Nat):=[
  (2,1),(3,290763553243321159526883399936475136),(4,91343765220895500627483655420291707855622373504),
  (5,1512333049720503409274473117155104711408260318865226082888896271209640477112045993375586879914963147381984102349459879202690995387550798970912),(6,10060075086039346363064253331406976),
  (7,1190036354668310730600576),(8,9903517953097548826848790528),(9,25107640647008237367875920640570754532479959816847239413760),(10,20769182482379152796139858522284032),
  (11,4951760156853290723440590848),(12,65504),(13,63392),(14,130784),(15,8791788548096),(16,120),(17,248),(18,8936826148452480),(19,16240),(20,34326166976),(21,2008),
  (22,22835963083295358096932575511191922181033431042),(23,74044136893625423654744418560),(24,70300016179200),(25,523712),(26,69818450375680),(27,1046400),(28,266153745920),(29,113600),
  (30,144110652573547936),(31,3749705488),(32,130496),(33,35184237874688),(34,535821184),(35,894273716224),(36,2197945040896),(37,113600),(39,8761221574144),
  (40,34622426547925350535900692448),(41,24),(42,35862146068902114239800564513290740943055927664828953127113676840728849704070021198126037650068924792832),(43,33554424),(44,113600),
  (45,2008),(46,4193760),(47,4294965760),(48,7350943059976446481688923689070808239535928377755687038012417268310860246926491648),(49,45666350809817510998322084324575711952783806464),
  (50,1073741568),(51,374144419156711147060143317175368453031914377314432),(52,2008),(53,617763454430973311187680000),(54,32096),(55,4486007709761456),(56,7664),(57,142605056),
  (58,8160),(59,19807040611272195858585545728),(60,6151680),(61,64430927552),(62,624412698833974333213295875708159727163768832),(63,8184),(64,984),(65,88),(66,35167208734560),
  (67,130496),(68,2040),(69,6184957370368),(70,52758866493440),(71,68215103488),(72,4292804352),(73,8602320896),(74,134216640),(75,984),(76,77371251302449921176698304),
  (77,647762029529727326751976700476928),(78,245616),(79,130992),(80,8184),(81,520142848),(82,25769541120),(83,33521648),(84,480),(85,64448),(86,206091058176),(87,65456),
  (88,2250629535752192),(89,1152921504606842912),(90,70835492738345463701504),(91,245744),(92,984),(93,992),(94,24),(95,15872),(96,274844352512),(97,480),(98,16776064),(99,232),
  (100,130816),(101,541149159040),(102,2200665324288),(103,8),(104,67645470720),(105,2008),(106,16096),(107,480),(108,1072758464),(109,3520),(110,4080),(111,16368),
  (112,1099511627712),(113,268434880),(114,309466046563932591862874112),(115,1044464),(116,343614091264),(117,4949342305214076853975515136),(118,522112),(119,549218925568),
  (120,72057589742943232),(121,15808),(122,2040),(123,2040),(124,2008),(125,19035858749762341112340576),(126,120),(127,248),(128,274944752576),(129,2008),(130,4314444590420426752),
  (131,1162160639233786642432),(132,2351941853831163822080),(133,496),(134,8),(135,16513024),(136,580284391104604961849147392),(137,503283200),(138,1915001749504),(139,232),
  (140,496),(141,8188),(142,496),(143,16368),(144,232),(145,232),(146,120),(147,224),(148,1152921625670975264),(149,261120),(150,480),(151,480),(152,2040),(153,261984),
  (154,263979232),(155,1099835980430045867469638205312),(156,541165715456),(157,604462333310828153667584),(158,267907008),(159,2146434624),(160,147573952314294139904),(161,8184),
  (162,8184),(163,992),(164,33545728),(165,534773696),(166,992),(167,134152096),(168,73786941110464011264),(169,3936),(170,2093056),(171,472),(172,9407803444400983113728),
  (173,120),(174,8556364480),(175,48),(176,9443651574062636838912),(177,8184),(178,137438821312),(179,9965316060179100382726685695355650048),(180,2106866007799808),(181,33554336),
  (182,12884886016),(183,16776896),(184,1064419072),(185,805174272),(186,24915840),(187,76048823007779359670050648244224),(188,1984),(189,4194296),(190,2147336704),(191,134217600),
  (192,224),(193,4194176),(194,939458432),(195,24),(196,240),(197,261872),(198,16528287193634762121216),(199,230900109179911285543532544),(200,575264483718463744),(201,457792),
  (202,112),(203,3144640),(204,288225979178873088),(205,268172288),(206,918464),(207,16352),(208,302230878449502074698752),(209,34016141213632),(210,8587835264),(211,535821184),
  (212,35184237874688),(214,67556176253939712),(216,10060073925466466590182048069058560),(217,105690554971648),(218,24),(219,2040),(220,8016),(221,68215103488),(222,4080),
  (223,4397509111552),(224,2305807854839324352),(227,2146565632),(228,262112),(229,16240),(230,14675968),(231,984),(233,39606829509995329844303353856),(234,24),(235,112),(236,128),
  (237,8184),(238,120),(239,1205384067270543788734464),(240,137430560256),(241,1879031552),(242,130816),(243,1593696128),(244,16344),(246,70368473634816),(247,62914432),
  (248,274870041600),(249,56),(250,224),(251,39613779320789211888404593664),(252,75253493293226129350144),(253,8456699648),(254,154742504874626140860282880),(255,984),
  (256,4869008759247460867622849792638976),(257,135291461120),(258,8),(259,4289726208),(260,985161881868288),(261,268172032),(263,21778061098346035111418113921327262334976),(264,248),
  (265,134152096),(266,457792),(267,137437891576),(268,65216),(270,4056),(273,1044336),(274,4532287773239996380336128),(275,14855337139822342341368940704),(276,8184),(277,33026176),
  (280,1008),(281,522304),(282,6579889631232),(283,23372563608775016477365127793582665958387128729600),(284,2063872),(285,17313008974592),(286,1180590423950546165248),(287,34091294592),
  (288,301050286813382895740928),(289,124),(290,1971424314908672),(291,261872),(292,32752),(293,32752),(294,1066401408),(295,130816),(296,4222124633881600),(297,6442512128),
  (298,69805801739909120),(299,131932805363712),(300,123286018324422656),(301,4026539776),(302,70631906881722317310343994521600),(303,131040),(304,18738367497902098372100096),
  (305,187082913956467841398811267177040735202862828617728),(306,524008),(307,33537768),(308,3229747248128),(309,8),(310,60),(311,130912),(312,84987514981416837524327799219806011392),
  (313,16368),(314,2040),(315,64545299312689012736),(316,140737219917824),(317,992),(318,138534169853952),(319,130024192),(320,70368609950976),(321,71986675504248832),(323,4056),
  (324,992),(326,3824),(327,14),(328,206397505280),(329,37778931863369478634496),(330,120),(331,7516192768),(332,32640),(333,68719474688),(334,56),(335,273804164096),(336,8016),
  (337,15856),(338,68215103488),(339,16),(340,32),(341,248),(343,523232),(344,16773056),(345,16773056),(346,6756377584205312),(347,267911168),(348,134152096),(349,33554976),
  (351,60),(352,60),(354,2198989701120),(355,16773056),(356,34292105216),(357,992),(358,8124),(359,2031608),(362,274743425024),(367,696887611929481383112642913468285153442816),
  (370,8795017178848)]
noncomputable def hint:Hint:=⟨lookN hintL,8959047320296366311360001724022342480587199568558453127581008973641142620792719066457098448359257014272,fun _=>0⟩
end Go.Proofs.YtdbkocfbhpgpkaaGreat
namespace Go.Proofs.YtdbkocfbhpgpkaaGreat
open Go Go.RowKit Go.Ev
noncomputable section
set_option maxRecDepth 100000 in
theorem awake_run:isTrue (callQ Tryz.prog mixed 1 ext0 hint 200 (.func 22) [] (St.init 1 14))=true:=by kernel_rfl
theorem awake_any(w:World):Calls Tryz.prog 22 #[] w fun e w'=>e=.returned (.bool true)∧Below w.heap.size w w':=
  closed_callsQ (hmix:=mixed) hint 1 14 200 22 ext0_ok rfl #[] [] .nil (by kernel_rfl) awake_run w
end
end Go.Proofs.YtdbkocfbhpgpkaaGreat
