/-
  The pure operations, all together: 'opPure', and that it is right.
-/
import Derived.Test.YtdbkocfbhpgpkaaGreatm04
import Derived.Laws.Build
set_option linter.unusedVariables false
set_option linter.unusedSimpArgs false
namespace Go.Ev
open Go
noncomputable section
def Fr.get(f:Fr)(i:Nat):AV:=match f with | ⟨n,_,t,_⟩=>bif Nat.blt i n then t.get i else .top
def Fr.put(f:Fr)(dst:Option Tmp)(v:AV):Option Fr:=
  match dst with
  | none=>some f
  | some i=>match f with | ⟨n,d,t,ds⟩=>bif Nat.blt i n then some ⟨n,d,t.set i v,ds⟩ else none
def Fr.off(f:Fr)(ds:List DA):Fr:=match f with | ⟨n,d,t,_⟩=>⟨n,d,t,ds⟩
theorem Fr.get_eq(f:Fr)(i:Nat):f.get i=bif Nat.blt i f.lim then f.t.get i else .top:=rfl
theorem Fr.put_some(f:Fr)(i:Nat)(v:AV):f.put (some i) v=bif Nat.blt i f.lim then some ⟨f.lim,f.d,f.t.set i v,f.ds⟩ else none:=rfl
theorem FR.off{ρ:Ren}{f:Fr}{tmps:Array Value}(h:FR ρ f tmps)(ds:List DA):FR ρ (f.off ds) tmps:=⟨h.ok,h.lim,h.size,h.val⟩
theorem FR.get{ρ:Ren}{f:Fr}{tmps:Array Value}(h:FR ρ f tmps)(i:Nat):VR ρ (f.get i) (tmps.getD i undef):=by
  rw[Fr.get_eq]
  cases hb:Nat.blt i f.lim with
  | false=>exact .top _
  | true=>exact h.val i (blt_iff.1 hb)
theorem FR.put{ρ:Ren}{f f':Fr}{a:Act}(h:FR ρ f a.tmps){dst:Option Tmp}{x:AV}{v:Value}(hp:f.put dst x=some f')(hv:VR ρ x v) :
    FR ρ f' (a.put dst v).tmps:=by
  cases dst with
  | none=>simp only[Fr.put,Option.some.injEq] at hp;subst hp;exact h
  | some i =>
    rw[Fr.put_some] at hp
    cases hb:Nat.blt i f.lim with
    | false=>rw[hb] at hp;simp at hp
    | true =>
      rw[hb] at hp;simp only[cond_true,Option.some.injEq] at hp;subst hp
      have hi:=blt_iff.1 hb
      have hl:=h.lim
      have hs:=h.size
      refine⟨h.ok.set i x,h.lim,by simp only[Act.put,Array.size_setIfInBounds];exact h.size,?_⟩
      intro j hj
      simp only[Act.put]
      by_cases e:j=i
      · subst e
        rw[T.get_set_same]
        have:j<a.tmps.size:=by omega
        simp[Array.getD_eq_getD_getElem?,Array.getElem?_setIfInBounds,this];exact hv
      · rw[T.get_set_ne f.d f.t i j x h.ok (by omega) (by have:j<f.lim:=hj;omega) (Ne.symm e)]
        rw[Array.getD_eq_getD_getElem?,Array.getElem?_setIfInBounds]
        simp only[Ne.symm e,if_false]
        rw[← Array.getD_eq_getD_getElem?]
        exact h.val j hj
def valA (G:Nat)(f:Fr):Operand→AV
  | .tmp t=>f.get t
  | .const v=>constA v
  | .global g=>bif Nat.blt g G then .ptr g 0 else .top
  | .func f=>.func (.func f) [] []
def Glob (ρ:Ren)(G:Nat):Prop:=∀ g,g<G→∃ top,ρ g=some ⟨g,0,top⟩
theorem Glob.ext{ρ ρ':Ren}(e:Ext ρ ρ'){G:Nat}(h:Glob ρ G):Glob ρ' G:=fun g hg=>let ⟨t,ht⟩:=h g hg;⟨t,e _ _ ht⟩
theorem valA_VR{ρ:Ren}{f:Fr}{a:Act}{G:Nat}(h:FR ρ f a.tmps)(hg:Glob ρ G)(x:Operand):VR ρ (valA G f x) (a.eval x):=by
  cases x with
  | tmp t=>exact h.get t
  | const v=>exact constA_VR ρ v
  | func f=>exact .func _ _ _ _ _ .nil .nil
  | global g =>
    simp only[valA]
    cases hb:Nat.blt g G with
    | false=>exact .top _
    | true =>
      obtain⟨top,ht⟩:=hg g (blt_iff.1 hb)
      exact VR.ptr (ρ:=ρ) g 0 ⟨g,0,top⟩ ht
def bnd (x:Option AV)(d y:Nat):Option Nat:=
  match x with
  | none=>some d
  | some (.int _ (.ofNat i))=>bif Nat.ble i y then some i else none
  | _=>none
def boundsA(len cap:Nat)(lo hi mx:Option AV):Option (Nat×Nat×Nat):=
  match bnd mx cap cap with
  | none=>none
  | some m =>
    match (match hi,mx with | none,some _=>none | _,_=>bnd hi len m) with
    | none=>none
    | some h => match bnd lo 0 h with
      | none=>none
      | some l=>some (l,h,m)
inductive VRo(ρ:Ren):Option AV→Option Value→Prop where
  | none:VRo ρ none none
  | some {a:AV} {v:Value} (h:VR ρ a v):VRo ρ (some a) (some v)
theorem run_sliceBound{P:Program}{ρ:Ren}{x:AV}{v:Value}(hv:VR ρ x v){y i:Nat}(h:bnd (some x) 0 y=some i)(y':Nat)(hy:y≤y')(c:BoundsCode)(w:World) :
    (Instr.sliceBound v y' c).run P w=.ok i w∧i≤y:=by
  simp only[bnd] at h
  split at h
  · rename_i heq;cases heq
  · rename_i k j heq
    cases heq
    cases hv
    cases hb:Nat.ble j y with
    | false=>rw[hb] at h;simp at h
    | true =>
      rw[hb] at h;simp only[cond_true,Option.some.injEq] at h;subst h
      have:=ble_iff.1 hb
      refine⟨?_,this⟩
      have hc:(0:Int)≤Int.ofNat j∧Int.ofNat j≤(y':Int):=by simp only[Int.ofNat_eq_natCast];omega
      simp[Instr.sliceBound,asIntOf,hc]
      omega
  · cases h
theorem bnd_some_irrel(x:AV)(d e y:Nat):bnd (some x) d y=bnd (some x) e y:=by
  cases x with
  | int k n=>cases n<;>rfl
  | _=>rfl
theorem bounds_sound{P:Program}{ρ:Ren}{len cap cap' l h m:Nat}{lo hi mx:Option AV}{lo' hi' mx':Option Value}(hb:boundsA len cap lo hi mx=some (l,h,m))
    (hlo:VRo ρ lo lo') (hhi:VRo ρ hi hi') (hmx:VRo ρ mx mx') (hc:cap≤cap') (hlen:len≤cap) (b:Bool) (w:World) :
    (Instr.sliceBounds b len cap' lo' hi' mx').run P w=.ok (l,h,if mx.isSome then m else cap') w∧l≤h∧h≤m∧m≤cap∧(mx.isSome=false→m=cap):=by
  unfold boundsA at hb
  cases hm:bnd mx cap cap with
  | none=>rw[hm] at hb;simp at hb
  | some m0 =>
    rw[hm] at hb
    simp only[] at hb
    split at hb
    · cases hb
    · rename_i h0 hh
      cases hl:bnd lo 0 h0 with
      | none=>rw[hl] at hb;simp at hb
      | some l0 =>
        rw[hl] at hb
        simp only[Option.some.injEq,Prod.mk.injEq] at hb
        obtain⟨rfl,rfl,rfl⟩:=hb
        cases hmx with
        | none =>
          simp only[bnd,Option.some.injEq] at hm;subst hm
          have hh':bnd hi len cap=some h0:=by cases hi<;>exact hh
          have hle:h0≤cap:=by
            cases hhi with
            | none=>simp only[bnd,Option.some.injEq] at hh';omega
            | some hv=>exact(run_sliceBound (P:=P) hv (by rw[bnd_some_irrel _ 0 len];exact hh') cap (Nat.le_refl _) .index w).2
          have h2:l0≤h0:=by
            cases hlo with
            | none=>simp only[bnd,Option.some.injEq] at hl;omega
            | some hv=>exact(run_sliceBound (P:=P) hv hl h0 (Nat.le_refl _) .index w).2
          refine⟨?_,h2,hle,Nat.le_refl _,fun _=>rfl⟩
          cases hhi with
          | none =>
            simp only[bnd,Option.some.injEq] at hh';subst hh'
            cases hlo with
            | none=>simp only[bnd,Option.some.injEq] at hl;subst hl;simp[Instr.sliceBounds]
            | some hv=>simp[Instr.sliceBounds,(run_sliceBound (P:=P) hv hl len (Nat.le_refl _) _ w).1]
          | some hv =>
            have g:=fun c=>(run_sliceBound (P:=P) hv (by rw[bnd_some_irrel _ 0 len];exact hh') cap' hc c w).1
            cases hlo with
            | none=>simp only[bnd,Option.some.injEq] at hl;subst hl;simp[Instr.sliceBounds,g]
            | some hv=>simp[Instr.sliceBounds,g,(run_sliceBound (P:=P) hv hl h0 (Nat.le_refl _) _ w).1]
        | some hmv =>
          have hm':=run_sliceBound (P:=P) hmv (by rw[bnd_some_irrel _ 0 cap];exact hm)
          cases hhi with
          | none=>simp at hh
          | some hv =>
            have hh':=run_sliceBound (P:=P) hv (y:=m0) (i:=h0) (by rw[bnd_some_irrel _ 0 len];exact hh) m0 (Nat.le_refl _)
            have h2:l0≤h0:=by
              cases hlo with
              | none=>simp only[bnd,Option.some.injEq] at hl;omega
              | some hv=>exact(run_sliceBound (P:=P) hv hl h0 (Nat.le_refl _) .index w).2
            refine⟨?_,h2,(hh' .index w).2,(hm' cap (Nat.le_refl _) .index w).2,fun h=>by simp at h⟩
            have g1:=fun c=>(hm' cap' hc c w).1
            have g2:=fun c=>(hh' c w).1
            cases hlo with
            | none=>simp only[bnd,Option.some.injEq] at hl;subst hl;simp[Instr.sliceBounds,g1,g2]
            | some hv=>simp[Instr.sliceBounds,g1,g2,(run_sliceBound (P:=P) hv hl h0 (Nat.le_refl _) _ w).1]
def sliceA(es:Nat)(x:AV)(lo hi mx:Option AV):Option AV:=
  match x with
  | .snil => match boundsA 0 0 lo hi mx with
    | some _=>some .snil
    | none=>none
  | .slice i off len cap o => bif Nat.beq o 0 || Nat.beq o es then match boundsA len cap lo hi mx with
    | some (l,h,m)=>some (.slice i (off+l * es) (h-l) (m-l) (match mx with | none=>o | some _=>0))
    | none=>none
    else none
  | _=>none
def sliceArrA(n es:Nat)(x:AV)(lo hi mx:Option AV):Option AV:=
  match x with
  | .ptr i off => match boundsA n n lo hi mx with
    | some (l,h,m)=>some (.slice i (off+l * es) (h-l) (m-l) 0)
    | none=>none
  | _=>none
def sliceStrA(x:AV)(lo hi mx:Option AV):Option AV:=
  match x,mx with
  | .str n b, none => match boundsA n n lo hi none with
    | some (l,h,_)=>some (.str (h-l) (cutB b l (h-l)))
    | none=>none
  | _,_=>none
theorem slice_sound{P:Program}{ρ:Ren}{t e:TypeId}{es:Nat}{x r:AV}{v:Value}{lo hi mx:Option AV}{lo' hi' mx':Option Value}(ht:P.underlying t=some (.slice e))
    (hs:szOf P e=some es) (h:sliceA es x lo hi mx=some r) (hv:VR ρ x v) (hlo:VRo ρ lo lo') (hhi:VRo ρ hi hi') (hmx:VRo ρ mx mx') (w:World) :
    ∃ u,(Instr.slice t v lo' hi' mx').run P w=.ok u w∧VR ρ r u:=by
  unfold sliceA at h
  split at h
  · cases hv
    split at h
    · rename_i lhm hb
      obtain⟨l,hh,m⟩:=lhm
      cases h
      obtain⟨hr,h1,h2,h3,h4⟩:=bounds_sound (P:=P) hb hlo hhi hmx (Nat.le_refl 0) (Nat.le_refl 0) true w
      refine⟨.slice none 0 0,?_,.snil⟩
      have hl:l=0:=by omega
      have hhz:hh=0:=by omega
      have hm:(if mx.isSome then m else 0)=0:=by split<;>omega
      subst hl hhz
      simp only[Instr.slice,Sem.run_bind,run_underlying ht,Result.andThen_ok,hr,run_szOf hs,hm]
      simp
    · cases h
  · rename_i i off len cap o
    cases ho:(Nat.beq o 0 || Nat.beq o es) with
    | false=>rw[ho] at h;simp at h
    | true =>
      rw[ho] at h;simp only[cond_true] at h
      simp only[Bool.or_eq_true,beq_iff] at ho
      split at h
      · rename_i l hh m hb
        simp only[Option.some.injEq] at h;subst h
        cases hv with
        | slice _ _ _ _ _ cap' L hL hp hl h0 h1 =>
          have hc:cap≤cap':=by
            by_cases e0:o=0
            · rw[h0 e0];exact Nat.le_refl _
            · exact(h1 e0).1
          obtain⟨hr,b1,b2,b3,b4⟩:=bounds_sound (P:=P) hb hlo hhi hmx hc hl true w
          refine⟨_,by simp only[Instr.slice,Sem.run_bind,run_underlying ht,Result.andThen_ok,hr,run_szOf hs];rfl,?_⟩
          cases hmx with
          | none =>
            simp only[Option.isSome_none,Bool.false_eq_true,if_false]
            have hm:=b4 rfl
            subst hm
            by_cases z:m-l=0
            · have hz:hh-l=0:=by omega
              rw[z,hz]
              by_cases e0:o=0
              · subst e0
                have:=h0 rfl
                subst this
                rw[if_pos (by omega),show cap'-l=0 by omega]
                exact .slice0 _ _ _ _ _ (fun _=>rfl) (fun h=>absurd rfl h)
              · obtain⟨g1,g2⟩:=h1 e0
                have hoe:o=es:=by rcases ho with ho | ho<;>omega
                subst hoe
                have hcl:m=l:=by omega
                subst hcl
                by_cases hq:cap'=m
                · rw[if_pos hq]
                  refine .slice0 _ _ _ _ _ (fun h=>absurd h e0) (fun _=>⟨L,hL,rfl,rfl,by simp[Loc.at],?_⟩)
                  rw[hq]
                  simp only[Nat.sub_self,Nat.zero_mul,Loc.at,Nat.add_zero]
                  have:L.sh+off≤L.sh+off+cap' * o:=Nat.le_add_right _ _
                  omega
                · rw[if_neg hq,Option.map_some,L.at_add]
                  refine .slice0 _ _ _ _ _ (fun h=>absurd h e0) (fun _=>⟨L,hL,rfl,rfl,by simp only[Loc.at];omega,?_⟩)
                  simp only[Loc.at]
                  have:cap' * o=m * o+(cap'-m) * o:=by rw[← Nat.add_mul];congr 1;omega
                  omega
            · rw[if_neg (by omega),Option.map_some,L.at_add]
              refine .slice _ _ _ _ _ _ L hL (by omega) (by omega) (fun e0=>by rw[h0 e0]) (fun e0=>?_)
              obtain⟨g1,g2⟩:=h1 e0
              have hoe:o=es:=by rcases ho with ho | ho<;>omega
              subst hoe
              have:cap' * o=l * o+(cap'-l) * o:=by rw[← Nat.add_mul];congr 1;omega
              exact⟨by omega,by omega⟩
          | some _ =>
            simp only[Option.isSome_some,if_true]
            by_cases z:m-l=0
            · have hz:hh-l=0:=by omega
              rw[z,hz]
              rw[if_pos (by omega)]
              exact .slice0 _ _ _ _ _ (fun _=>rfl) (fun h=>absurd rfl h)
            · rw[if_neg (by omega),Option.map_some,L.at_add]
              exact .slice _ _ _ _ _ _ L hL (by omega) (by omega) (fun _=>rfl) (fun h=>absurd rfl h)
        | slice0 _ _ _ cap' a h0 h1 =>
          obtain⟨hr,b1,b2,b3,b4⟩:=bounds_sound (P:=P) hb hlo hhi hmx (Nat.zero_le cap') (Nat.le_refl 0) true w
          have hl:l=0:=by omega
          have hhz:hh=0:=by omega
          have hm:m=0:=by omega
          subst hl hhz hm
          refine⟨_,by simp only[Instr.slice,Sem.run_bind,run_underlying ht,Result.andThen_ok,hr,run_szOf hs];rfl,?_⟩
          have ha:∀ c:Nat,(if c=0 then(some a) else(some a).map (·.add (0 * es)))=some a:=by
            intro c;simp[Addr.add]
          rw[ha]
          cases hmx with
          | none =>
            simp only[Option.isSome_none,Bool.false_eq_true,if_false,Nat.sub_zero,Nat.sub_self]
            exact .slice0 _ _ _ _ _ h0 h1
          | some _ =>
            simp only[Option.isSome_some,if_true,Nat.sub_zero]
            exact .slice0 _ _ _ _ _ (fun _=>rfl) (fun h=>absurd rfl h)
      · cases h
  · cases h
theorem sliceArr_sound{P:Program}{ρ:Ren}{t e:TypeId}{n es:Nat}{x r:AV}{v:Value}{lo hi mx:Option AV}{lo' hi' mx':Option Value}(ht:P.underlying t=some (.array n e))
    (hs:szOf P e=some es) (h:sliceArrA n es x lo hi mx=some r) (hv:VR ρ x v) (hlo:VRo ρ lo lo') (hhi:VRo ρ hi hi') (hmx:VRo ρ mx mx') (w:World) :
    ∃ u,(Instr.sliceAt t v lo' hi' mx').run P w=.ok u w∧VR ρ r u:=by
  unfold sliceArrA at h
  split at h
  · rename_i i off
    split at h
    · rename_i l hh m hb
      simp only[Option.some.injEq] at h;subst h
      cases hv with | ptr _ _ L hL=>
      obtain⟨hr,b1,b2,b3,b4⟩:=bounds_sound (P:=P) hb hlo hhi hmx (Nat.le_refl n) (Nat.le_refl n) false w
      have hm:(if mx.isSome then m else n)=m:=by
        cases hx:mx.isSome with
        | true=>rfl
        | false=>simp[b4 hx]
      rw[hm] at hr
      refine⟨_,by simp only[Instr.sliceAt,Sem.run_bind,run_underlying ht,Result.andThen_ok,Instr.sureAddr,Sem.run_pure,hr,run_szOf hs];rfl,?_⟩
      by_cases z:m-l=0
      · have hz:hh-l=0:=by omega
        rw[z,hz]
        exact .slice0 _ _ _ _ _ (fun _=>rfl) (fun h=>absurd rfl h)
      · rw[if_neg (by omega),L.at_add]
        exact .slice _ _ _ _ _ _ L hL (by omega) (by omega) (fun _=>rfl) (fun h=>absurd rfl h)
    · cases h
  · cases h
theorem sliceStr_sound{P:Program}{ρ:Ren}{t:TypeId}{x r:AV}{v:Value}{lo hi mx:Option AV}{lo' hi' mx':Option Value}(ht:P.underlying t=some .string)
    (h:sliceStrA x lo hi mx=some r) (hv:VR ρ x v) (hlo:VRo ρ lo lo') (hhi:VRo ρ hi hi') (hmx:VRo ρ mx mx') (w:World) :
    ∃ u,(Instr.slice t v lo' hi' mx').run P w=.ok u w∧VR ρ r u:=by
  unfold sliceStrA at h
  split at h
  · rename_i n b
    split at h
    · rename_i l hh m hb
      simp only[Option.some.injEq] at h;subst h
      cases hmx
      cases hv with | str _ _ s hs=>
      have hn:s.size=n:=by
        have:=congrArg List.length hs
        rw[List.length_map,bytesL_length] at this
        rw[← this,← ByteArray.size_data];simp
      obtain⟨hr,b1,b2,b3,b4⟩:=bounds_sound (P:=P) hb hlo hhi .none (Nat.le_refl n) (Nat.le_refl n) false w
      refine⟨_,by simp only[Instr.slice,Sem.run_bind,run_underlying ht,Result.andThen_ok,Option.isSome_none,Bool.false_eq_true,if_false,Sem.run_ite,Sem.run_pure,hn,hr];rfl,?_⟩
      refine .str _ _ _ ?_
      rw[ByteArray.data_extract,Array.toList_extract]
      simp only[List.extract]
      rw[List.map_take,List.map_drop,hs]
      exact bytesL_cut b l (hh-l) n (by omega)
    · cases h
  · cases h
end
end Go.Ev
namespace Go.Ev
open Go
noncomputable section
def isC:Operand→Bool
  | .const _=>true
  | _=>false
def guardOk(P:Program)(t:TypeId)(x y:Operand)(a b:AV):Bool:=
  match a,b with
  | .inil,.inil=>isC x || isC y
  | .agg _,.agg _=>!P.eqGuardType P.depth t
  | _,_=>true
def binA (P:Program)(op:BinOp)(t:TypeId)(x y:Operand)(a b:AV):Option AV:=
  match a,b with
  | .int k m, .int k' n => match op with
    | .shl | .shr=>shiftA op k m n
    | _=>bif kindEq k k' then intA op k m n else none
  | .str n b,.str m c=>strA op n b m c
  | a, b => match op with
    | .eql=>bif guardOk P t x y a b then(eqA P 12 t a b).map .bool else none
    | .neq=>bif guardOk P t x y a b then(eqA P 12 t a b).map fun r=>.bool (!r) else none
    | _=>none
theorem intA_sound{P:Program}{ρ:Ren}{op:BinOp}{k:IntKind}{m n:Int}{r:AV}(h:intA op k m n=some r)(t:TypeId)(w:World) :
    ∃ v,(binOp op t (.int k m) (.int k n)).run P w=.ok v w∧VR ρ r v:=by
  cases op<;>simp only[intA,bitsA,Option.map_some,Option.some.injEq,reduceCtorEq] at h
  case add=>subst h;exact⟨_,by simp[binOp,Op.intArith];rfl,by rw[wrapA_eq];exact .int _ _⟩
  case sub=>subst h;exact⟨_,by simp[binOp,Op.intArith];rfl,by rw[wrapA_eq];exact .int _ _⟩
  case mul=>subst h;exact⟨_,by simp[binOp,Op.intArith];rfl,by rw[wrapA_eq];exact .int _ _⟩
  case quo=>
    cases hz:eqI n 0 with
    | true=>rw[hz] at h;simp at h
    | false =>
      rw[hz] at h;simp only[cond_false,Option.some.injEq] at h;subst h
      rw[eqI_eq] at hz
      have:¬n=0:=by simpa using hz
      exact⟨_,by simp[binOp,Op.intDiv,this];rfl,by rw[wrapA_eq];exact .int _ _⟩
  case rem=>
    cases hz:eqI n 0 with
    | true=>rw[hz] at h;simp at h
    | false =>
      rw[hz] at h;simp only[cond_false,Option.some.injEq] at h;subst h
      rw[eqI_eq] at hz
      have:¬n=0:=by simpa using hz
      exact⟨_,by simp[binOp,Op.intDiv,this],.int _ _⟩
  case and=>subst h;exact⟨_,by simp[binOp,Op.intBits],.int _ _⟩
  case or=>subst h;exact⟨_,by simp[binOp,Op.intBits],.int _ _⟩
  case xor=>subst h;exact⟨_,by simp[binOp,Op.intBits],.int _ _⟩
  case andNot=>subst h;exact⟨_,by simp[binOp,Op.intBits],.int _ _⟩
  case eql=>subst h;rw[eqI_eq];exact⟨_,by simp[binOp,Op.intCmp],.bool _⟩
  case neq=>subst h;rw[eqI_eq];exact⟨.bool (m != n),by simp[binOp,Op.intCmp],.bool _⟩
  case lss=>subst h;rw[ltA_eq];exact⟨_,by simp[binOp,Op.intCmp],.bool _⟩
  case leq=>subst h;rw[ltA_eq];exact⟨.bool (decide (m≤n)),by simp[binOp,Op.intCmp],by
    have:(!decide (n<m))=decide (m≤n):=by rw[← decide_not];congr 1;simp
    rw[this];exact .bool _⟩
  case gtr=>subst h;rw[ltA_eq];exact⟨.bool (decide (n<m)),by simp[binOp,Op.intCmp],.bool _⟩
  case geq=>subst h;rw[ltA_eq];exact⟨.bool (decide (n≤m)),by simp[binOp,Op.intCmp],by
    have:(!decide (m<n))=decide (n≤m):=by rw[← decide_not];congr 1;simp
    rw[this];exact .bool _⟩
theorem shiftA_sound{P:Program}{ρ:Ren}{op:BinOp}{k yk:IntKind}{m n:Int}{r:AV}(ho:op=.shl∨op=.shr)(h:shiftA op k m n=some r)(t:TypeId)(w:World) :
    ∃ v,(binOp op t (.int k m) (.int yk n)).run P w=.ok v w∧VR ρ r v:=by
  cases n with
  | negSucc j=>simp[shiftA] at h
  | ofNat j =>
    have hn:¬((j:Int)<0):=by omega
    rcases ho with rfl|rfl
    · simp only[shiftA,Option.some.injEq] at h;subst h
      refine⟨.int k (k.wrap (m * 2 ^ min j k.bits)),by simp[binOp,Op.shift,hn],?_⟩
      rw[wrapA_eq]
      rw[show(((2 ^ min j k.bits:Nat)):Int)=2 ^ min j k.bits by simp]
      exact .int _ _
    · simp only[shiftA,Option.some.injEq] at h;subst h
      refine⟨.int k (m.fdiv (2 ^ min j k.bits)),by simp[binOp,Op.shift,hn],?_⟩
      rw[show(((2 ^ min j k.bits:Nat)):Int)=2 ^ min j k.bits by simp]
      exact .int _ _
theorem strA_sound{P:Program}{ρ:Ren}{op:BinOp}{n b m c:Nat}{x y:ByteArray}{r:AV}(h:strA op n b m c=some r)(hx:x.data.toList.map UInt8.toNat=bytesL b n)(hy:y.data.toList.map UInt8.toNat=bytesL c m)(t:TypeId)(w:World) :
    ∃ v,(binOp op t (.string x) (.string y)).run P w=.ok v w∧VR ρ r v:=by
  have heq:(x.toList==y.toList)=strEq n b m c:=by
    rw[Bool.eq_iff_iff,strEq_iff,beq_iff_eq,ByteArray.toList_eq,ByteArray.toList_eq,← hx,← hy]
    exact⟨fun e=>by rw[e],map_toNat_inj⟩
  have hlt:Op.bytesLess x.toList y.toList=ltL (bytesL b n) (bytesL c m):=by
    rw[ltL_map,ByteArray.toList_eq,ByteArray.toList_eq,hx,hy]
  cases op<;>simp only[strA,Option.some.injEq,reduceCtorEq] at h
  case add=>
    cases hb:Nat.ble (n+m) 9223372036854775807 with
    | false=>rw[hb] at h;simp at h
    | true =>
      rw[hb] at h;simp only[cond_true,Option.some.injEq] at h;subst h
      have hle:=ble_iff.1 hb
      have hxs:x.size=n:=by
        have:=congrArg List.length hx
        rw[List.length_map,bytesL_length] at this
        rw[← this,← ByteArray.size_data];simp
      have hys:y.size=m:=by
        have:=congrArg List.length hy
        rw[List.length_map,bytesL_length] at this
        rw[← this,← ByteArray.size_data];simp
      have hno:¬(((x.size+y.size:Nat):Int) > IntKind.i64.max):=by
        rw[hxs,hys];simp[IntKind.max,IntKind.signed,IntKind.bits];omega
      refine⟨.string (x++y),?_,?_⟩
      · simp only[binOp,Op.stringOp,hno,if_false,Sem.run_pure,Sem.run_ite]
      · refine .str _ _ _ ?_
        rw[ByteArray.data_append,Array.toList_append,List.map_append,hx,hy,bytesL_join]
  all_goals (subst h;exact⟨_,by simp only[binOp,Op.stringOp,heq,hlt,Sem.run_pure],.bool _⟩)
theorem run_eqGuard_agg{P:Program}{t:TypeId}{x y:Operand}{a b:Value}{op:BinOp}(w:World)
    (h:(a=.nilIface→b=.nilIface→(isC x || isC y)=true)∧(∀ c d,a=.agg c→b=.agg d→P.eqGuardType P.depth t=false)) :
    (eqGuard op t x y a b).run P w=.ok () w:=by
  unfold eqGuard
  split
  case h_3=>rfl
  all_goals
    simp only[Bool.not_true,Bool.false_eq_true,if_false]
    split
    · have:=h.1 rfl rfl
      clear h
      cases x<;>cases y<;>first | rfl | (exact absurd this (by simp[isC]))
    · have:=h.2 _ _ rfl rfl
      simp[this]
    · rfl
theorem guardOk_spec{P:Program}{ρ:Ren}{t:TypeId}{x y:Operand}{a b:AV}{u v:Value}(h:guardOk P t x y a b=true)(hu:VR ρ a u)(hv:VR ρ b v)(ha:a≠.top)(hb:b≠.top) :
    (u=.nilIface→v=.nilIface→(isC x || isC y)=true)∧(∀ c d,u=.agg c→v=.agg d→P.eqGuardType P.depth t=false):=by
  constructor
  · rintro rfl rfl
    cases hu<;>first | (exact absurd rfl ha) | skip
    cases hv<;>first | (exact absurd rfl hb) | skip
    exact h
  · rintro c d rfl rfl
    cases hu<;>first | (exact absurd rfl ha) | skip
    cases hv<;>first | (exact absurd rfl hb) | skip
    simpa[guardOk] using h
theorem eqA_top{P:Program}{d:Nat}{t:TypeId}{a b:AV}{r:Bool}(h:eqA P d t a b=some r):a≠.top∧b≠.top:=by
  constructor<;>rintro rfl
  · cases d with
    | zero=>simp[eqA] at h
    | succ d=>unfold eqA at h;split at h<;>first | (cases h;done) | contradiction | skip
  · cases d with
    | zero=>simp[eqA] at h
    | succ d=>unfold eqA at h;split at h<;>first | (cases h;done) | contradiction | skip
theorem binOp_eql_of{ρ:Ren}{a b:AV}{u v:Value}(t:TypeId)(hu:VR ρ a u)(hv:VR ρ b v)(ta:a≠.top)(tb:b≠.top)
    (hni:∀ k m k' n,a=.int k m→b=.int k' n→False) (hns:∀ n c n' c',a=.str n c→b=.str n' c'→False) :
    binOp .eql t u v=(do pure (.bool (← Op.equal t u v)))∧binOp .neq t u v=(do pure (.bool (!(← Op.equal t u v)))):=by
  cases hu<;>first | (exact absurd rfl ta) | skip
  all_goals cases hv<;>first | (exact absurd rfl tb) | (exact⟨rfl,rfl⟩) | (exact(hni _ _ _ _ rfl rfl).elim) | (exact(hns _ _ _ _ rfl rfl).elim)
theorem binA_sound{P:Program}{ρ:Ren}{op:BinOp}{t:TypeId}{x y:Operand}{a b r:AV}{u v:Value}(h:binA P op t x y a b=some r)(hu:VR ρ a u)(hv:VR ρ b v)(w:World) :
    ∃ z,(do eqGuard op t x y u v;binOp op t u v:Sem Value).run P w=.ok z w∧VR ρ r z:=by
  unfold binA at h
  split at h
  · rename_i k m k' n
    cases hu;cases hv
    have hg:(eqGuard op t x y (.int k m) (.int k' n)).run P w=.ok () w:=run_eqGuard_agg w ⟨fun e=>(by cases e),fun _ _ e=>(by cases e)⟩
    simp only[Sem.run_bind,hg,Result.andThen_ok]
    split at h
    · exact shiftA_sound (.inl rfl) h t w
    · exact shiftA_sound (.inr rfl) h t w
    · cases hk:kindEq k k' with
      | false=>rw[hk] at h;simp at h
      | true =>
        rw[hk] at h;simp only[cond_true] at h
        simp only[kindEq,decide_eq_true_eq] at hk;subst hk
        exact intA_sound h t w
  · rename_i n b m c
    cases hu with | str _ _ s hs=>cases hv with | str _ _ s' hs'=>
    have hg:(eqGuard op t x y (.string s) (.string s')).run P w=.ok () w:=run_eqGuard_agg w ⟨fun e=>(by cases e),fun _ _ e=>(by cases e)⟩
    simp only[Sem.run_bind,hg,Result.andThen_ok]
    exact strA_sound h hs hs' t w
  · rename_i hni hns
    split at h
    · cases hg:guardOk P t x y a b with
      | false=>rw[hg] at h;simp at h
      | true =>
        rw[hg] at h;simp only[cond_true,Option.map_eq_some_iff] at h
        obtain⟨q,he,rfl⟩:=h
        obtain⟨ta,tb⟩:=eqA_top he
        have h1:=run_eqGuard_agg (op:=.eql) w (guardOk_spec hg hu hv ta tb)
        have h2:(Op.equal t u v).run P w=.ok q w:=eqA_sound w 12 t a b q he 9988 u v hu hv
        refine⟨.bool q,?_,.bool _⟩
        simp only[Sem.run_bind,h1,Result.andThen_ok]
        rw[(binOp_eql_of t hu hv ta tb hni hns).1]
        simp only[Sem.run_bind,h2,Result.andThen_ok,Sem.run_pure]
    · cases hg:guardOk P t x y a b with
      | false=>rw[hg] at h;simp at h
      | true =>
        rw[hg] at h;simp only[cond_true,Option.map_eq_some_iff] at h
        obtain⟨q,he,rfl⟩:=h
        obtain⟨ta,tb⟩:=eqA_top he
        have h1:=run_eqGuard_agg (op:=.neq) w (guardOk_spec hg hu hv ta tb)
        have h2:(Op.equal t u v).run P w=.ok q w:=eqA_sound w 12 t a b q he 9988 u v hu hv
        refine⟨.bool (!q),?_,.bool _⟩
        simp only[Sem.run_bind,h1,Result.andThen_ok]
        rw[(binOp_eql_of t hu hv ta tb hni hns).2]
        simp only[Sem.run_bind,h2,Result.andThen_ok,Sem.run_pure]
    · cases h
def unA (op:UnOp)(x:AV):Option AV:=
  match op,x with
  | .neg,.int k n=>some (.int k (wrapA k (0-n)))
  | .xor,.int k n=>(bitsA .xor k (if k.signed then -1 else k.max) n).map (.int k)
  | .not,.bool b=>some (.bool (!b))
  | _,_=>none
theorem unA_sound{P:Program}{ρ:Ren}{op:UnOp}{x r:AV}{u:Value}(h:unA op x=some r)(hu:VR ρ x u)(w:World) :
    ∃ z,(Op.unary op u).run P w=.ok z w∧VR ρ r z:=by
  unfold unA at h
  split at h
  · cases hu;simp only[Option.some.injEq] at h;subst h
    exact⟨_,rfl,by rw[wrapA_eq];exact .int _ _⟩
  · cases hu;simp only[bitsA,Option.map_some,Option.some.injEq] at h;subst h
    exact⟨_,by simp only[Op.unary,Op.intBits,Sem.run_pure],.int _ _⟩
  · cases hu;simp only[Option.some.injEq] at h;subst h
    exact⟨_,by simp only[Op.unary,Sem.run_pure],.bool _⟩
  · cases h
def convA(P:Program)(s d:TypeId)(x:AV):Option AV:=
  match P.underlying s,P.underlying d,x with
  | some _,some (.int k),.int _ n=>some (.int k (wrapA k n))
  | some _,some .string,.str n b=>some (.str n b)
  | _,_,_=>none
theorem convA_sound{P:Program}{ρ:Ren}{s d:TypeId}{x r:AV}{u:Value}(h:convA P s d x=some r)(hu:VR ρ x u)(w:World) :
    ∃ z,(convert s d u).run P w=.ok z w∧VR ρ r z:=by
  unfold convA at h
  split at h
  · rename_i ds k k' n hs hd
    cases hu;simp only[Option.some.injEq] at h;subst h
    refine⟨.int k (k.wrap n),?_,by rw[wrapA_eq];exact .int _ _⟩
    simp only[convert,Sem.run_bind,run_underlying hs,run_underlying hd,Result.andThen_ok]
    rfl
  · rename_i ds n b hs hd
    cases hu with | str _ _ t ht=>
    simp only[Option.some.injEq] at h;subst h
    refine⟨.string t,?_,.str _ _ _ ht⟩
    simp only[convert,Sem.run_bind,run_underlying hs,run_underlying hd,Result.andThen_ok]
    cases ds<;>rfl
  · cases h
end
end Go.Ev
