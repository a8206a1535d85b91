/-
  The operations that change memory, as the model runs them: 'opHeavy'.
-/
import Derived.Test.YtdbkocfbhpgpkaaGreatm08
set_option linter.unusedVariables false
set_option linter.unusedSimpArgs false
namespace Go.Ev
open Go
noncomputable section
def appT (P:Program)(ts:Array TypeId):Option (Nat×Nat×List AV×Bool):=
  match ts[0]?,ts[1]? with
  | some t, some t' => match P.underlying t, P.underlying t' with
    | some (.slice e), some d => match zeroL P e, P.info? e with
      | some zl,some i=>bif Nat.blt 0 i.size then some (i.size,i.bytes,zl,match d with | .int _=>true | _=>false) else none
      | _,_=>none
    | _,_=>none
  | _,_=>none
def appendOpA(P:Program)(ts:Array TypeId)(s x:AV)(st:St):Option (AV×St):=
  match appT P ts with
  | some (es, bytes, zl, false) => match lenOfA x with
    | some n => match srcA es x n st with
      | some b=>appendA es bytes s n b st
      | none=>none
    | none=>none
  | some (es, bytes, zl, true) => match x with
    | .int _ (.ofNat n)=>bif Nat.ble (n * bytes) 281474976710656 && Nat.ble n 4611686018427387904 then appendA es bytes s n (zeroRow zl n) st else none
    | _=>none
  | none=>none
theorem zeroRow_len(zl:List AV)(n:Nat):(zeroRow zl n).len=n * zl.length:=by
  rw[Blk.len_eq,zeroRow_toL,zerosA_length]
theorem zeroCells_toList(z:Array Value)(n:Nat):(Builtin.zeroCells z n).toList=zerosA z.toList n:=by
  rw[← madeCells_toList];rfl
theorem append_sound{P:Program}{ρ:Ren}{ts:Array TypeId}{ty:TypeId}{s x r:AV}{vs:Array Value}{u v:Value}{st st':St}{w:World}(h:appendOpA P ts s x st=some (r,st'))
    (h0:vs[0]? = some u) (h1:vs[1]? = some v) (hu:VR ρ s u) (hv:VR ρ x v) (hR:Rel ρ st w) :
    ∃ z w' ρ',(Builtin.append_ ts ty vs).run P w=.ok z w'∧Good ρ st w ρ' st' w'∧VR ρ' r z:=by
  have hus:∀ {es bytes n:Nat} {b:Blk},appendA es bytes s n b st=some (r,st')→∃ base sLen sCap,u=.slice base sLen sCap:=by
    intro es bytes n b hh
    cases hu<;>first | exact⟨_,_,_,rfl⟩ | (simp[appendA] at hh)
  unfold appendOpA at h
  split at h
  · rename_i es bytes zl ht
    unfold appT at ht
    split at ht
    · rename_i t t' h2 h3
      split at ht
      · rename_i e d hut hud
        split at ht
        · rename_i zl' i hzl hi
          cases hb:Nat.blt 0 i.size with
          | false=>rw[hb] at ht;simp at ht
          | true =>
            rw[hb] at ht
            simp only[cond_true,Option.some.injEq,Prod.mk.injEq] at ht
            obtain⟨rfl,rfl,rfl,hd⟩:=ht
            have hpos:=blt_iff.1 hb
            split at h
            · rename_i n hn
              split at h
              · rename_i b hsrc
                obtain⟨base,sLen,sCap,rfl⟩:=hus h
                obtain⟨vs0,_,_,_,hblen⟩:=src_sound (P:=P) hsrc hv hR (by rw[hn];simp)
                obtain⟨z,w',ρ',g1,g2,g3⟩:=append_core (P:=P) (zeros:=false) (x:=v) (appended:=Builtin.firstCells i.size n v) hi hzl rfl hpos h hu hR hblen
                  (fun w'' hw=>by
                    obtain⟨vs1,q1,q2,_,_⟩:=src_sound (P:=P) hsrc hv (w:=w'') ⟨hR.ok,hR.lt,hR.fresh,by rw[hw];exact hR.live,hR.inj⟩ (by rw[hn];simp)
                    exact⟨vs1,q1,q2⟩)
                refine⟨z,w',ρ',?_,g2,g3⟩
                rw[← g1]
                unfold Builtin.append_
                have hln:=lenOf_sound (P:=P) hn hv w
                clear g1 g2 g3
                cases d<;>first
                  | (simp at hd;done)
                  | (simp only[h2,h0,h1,Sem.run_bind,run_underlying hut,Result.andThen_ok,sizeOf,run_typeInfo w hi,Sem.run_pure,h3,run_underlying hud,Bool.false_eq_true,if_false,hln,Bool.not_false,if_true,tailOf];rfl)
              · cases h
            · cases h
        · cases ht
      · cases ht
    · cases ht
  · rename_i es bytes zl ht
    unfold appT at ht
    split at ht
    · rename_i t t' h2 h3
      split at ht
      · rename_i e d hut hud
        split at ht
        · rename_i zl' i hzl hi
          cases hb:Nat.blt 0 i.size with
          | false=>rw[hb] at ht;simp at ht
          | true =>
            rw[hb] at ht
            simp only[cond_true,Option.some.injEq,Prod.mk.injEq] at ht
            obtain⟨rfl,rfl,rfl,hd⟩:=ht
            have hpos:=blt_iff.1 hb
            split at h
            · rename_i k n
              cases hc:(Nat.ble (n * i.bytes) 281474976710656 && Nat.ble n 4611686018427387904) with
              | false=>rw[hc] at h;simp at h
              | true =>
                rw[hc] at h;simp only[cond_true] at h
                simp only[Bool.and_eq_true,ble_iff] at hc
                obtain⟨base,sLen,sCap,rfl⟩:=hus h
                cases hv
                obtain⟨i',zv,hi',hz,hvz,hzlen,hzsz⟩:=zeroL_some hzl ρ
                rw[hi] at hi';cases hi'
                have hwrap:IntKind.i64.wrap (Int.ofNat n)=(n:Int):=by rw[IntKind.wrap_i64];simp only[Int.ofNat_eq_natCast];omega
                have hti:∀ w:World,(typeInfo e).run P w=.ok i w:=fun w=>run_typeInfo w hi
                have hzv:∀ w:World,(zeroValue e).run P w=.ok zv w:=fun w=>by simp[zeroValue,hti,hz]
                obtain⟨z,w',ρ',g1,g2,g3⟩:=append_core (P:=P) (zeros:=true) (x:=.int k (Int.ofNat n))
                  (appended:=if n * i.size=0 then pure #[] else do pure (Builtin.zeroCells (← zeroValue e).cells n)) hi hzl rfl hpos h hu hR (by rw[zeroRow_len,hzlen])
                  (fun w'' hw=>by
                    refine⟨zerosA zv.cells.toList n,?_,by rw[zeroRow_toL];exact VRs_zeros hvz n⟩
                    by_cases hz0:n * i.size=0
                    · have:zerosA zv.cells.toList n=[]:=by
                        apply List.eq_nil_of_length_eq_zero;rw[zerosA_length];simp[hzsz,hz0]
                      simp[hz0,this]
                    · simp only[hz0,if_false,Sem.run_bind,hzv,Result.andThen_ok,Sem.run_pure,Sem.run_ite]
                      congr 1
                      apply Array.ext'
                      rw[zeroCells_toList])
                refine⟨z,w',ρ',?_,g2,g3⟩
                rw[← g1]
                unfold Builtin.append_
                have n1:¬((n:Int)<0):=by omega
                have n2:¬((n:Int) * (i.bytes:Int) > 2 ^ 48):=by
                  have h:((n * i.bytes:Nat):Int)≤281474976710656:=by omega
                  rw[Int.natCast_mul] at h;omega
                clear g1 g2 g3
                cases d<;>first
                  | (simp at hd;done)
                  | (simp only[h2,h0,h1,Sem.run_bind,run_underlying hut,Result.andThen_ok,sizeOf,hti,Sem.run_pure,h3,run_underlying hud,if_true,asInt,asIntOf,hwrap,n1,if_false,n2,Int.toNat_natCast,Bool.not_true,Bool.false_eq_true,Sem.run_ite,tailOf];rfl)
            · cases h
        · cases ht
      · cases ht
    · cases ht
  · cases h
def copyA(P:Program)(ts:Array TypeId)(d s:AV)(st:St):Option (AV×St):=
  match ts[0]? with
  | some t => match P.underlying t with
    | some (.slice e) => match szOf P e, lenOfA s with
      | some es, some n => match d with
        | .snil=>some (.int .i64 (.ofNat 0),st)
        | .slice i off len _ _ => let k := Nat.min n len
          bif Nat.beq k 0 then some (.int .i64 (.ofNat 0),st) else match srcA es s k st with
          | some b => match (st.obj i).store off b with
            | some o=>some (.int .i64 (.ofNat k),st.put i o)
            | none=>none
          | none=>none
        | _=>none
      | _,_=>none
    | _=>none
  | none=>none
theorem copy_sound{P:Program}{ρ:Ren}{ts:Array TypeId}{ty:TypeId}{d s r:AV}{vs:Array Value}{u v:Value}{st st':St}{w:World}(h:copyA P ts d s st=some (r,st'))
    (h0:vs[0]? = some u) (h1:vs[1]? = some v) (hu:VR ρ d u) (hv:VR ρ s v) (hR:Rel ρ st w) :
    ∃ z w',(Builtin.copy_ ts ty vs).run P w=.ok z w'∧Good ρ st w ρ st' w'∧VR ρ r z:=by
  unfold copyA at h
  split at h
  · rename_i t ht
    split at h
    · rename_i e hut
      split at h
      · rename_i es n hs hn
        have hlen:=lenOf_sound (P:=P) hn hv w
        split at h
        · simp only[Option.some.injEq,Prod.mk.injEq] at h
          obtain⟨rfl,rfl⟩:=h
          cases hu
          refine⟨.int .i64 0,w,?_,.refl hR,.int _ _⟩
          have hsrc:srcA es s 0 st=some (.l []):=by simp[srcA]
          obtain⟨vs',q1,_,q3,_⟩:=src_sound (P:=P) hsrc hv hR (by rw[hn];simp)
          have:vs'=[]:=List.eq_nil_of_length_eq_zero (by simpa using q3)
          subst this
          unfold Builtin.copy_
          simp only[ht,h0,h1,Sem.run_bind,run_underlying hut,Result.andThen_ok,hlen,run_szOf hs,Nat.min_zero,q1,Sem.run_pure,show n.min 0=0 from Nat.min_zero n]
          rfl
        · rename_i i off len cap o
          dsimp only at h
          cases hz:Nat.beq (Nat.min n len) 0 with
          | true =>
            rw[hz] at h;simp only[cond_true,Option.some.injEq,Prod.mk.injEq] at h
            obtain⟨rfl,rfl⟩:=h
            have hk:=beq_iff.1 hz
            obtain⟨a,cap',rfl⟩:∃ a cap',u=.slice (some a) len cap':=by cases hu<;>exact⟨_,_,rfl⟩
            refine⟨.int .i64 0,w,?_,.refl hR,.int _ _⟩
            have hsrc:srcA es s 0 st=some (.l []):=by simp[srcA]
            obtain⟨vs',q1,_,q3,_⟩:=src_sound (P:=P) hsrc hv hR (by rw[hn];simp)
            have:vs'=[]:=List.eq_nil_of_length_eq_zero (by simpa using q3)
            subst this
            unfold Builtin.copy_
            simp only[ht,h0,h1,Sem.run_bind,run_underlying hut,Result.andThen_ok,hlen,run_szOf hs,hk,q1,storeCells,Sem.run_pure]
            rfl
          | false =>
            rw[hz] at h;simp only[cond_false] at h
            have hk:Nat.min n len≠0:=fun e=>by rw[e] at hz;simp at hz
            split at h
            · rename_i b hsrc
              split at h
              · rename_i ob hob
                simp only[Option.some.injEq,Prod.mk.injEq] at h
                obtain⟨rfl,rfl⟩:=h
                obtain⟨vs',q1,q2,q3,_⟩:=src_sound (P:=P) hsrc hv hR (by rw[hn];simp)
                obtain⟨L,hL,w',hst,hg⟩:=hR.store P hob q2
                cases hu with
                | slice _ _ _ _ _ cap' L' hL' hp hl g0 g1 =>
                  rw[hL] at hL';cases hL'
                  refine⟨.int .i64 (Nat.min n len:Nat),w',?_,hg,.int _ _⟩
                  unfold Builtin.copy_
                  simp only[ht,h0,h1,Sem.run_bind,run_underlying hut,Result.andThen_ok,hlen,run_szOf hs,q1,hst,Sem.run_pure]
                  rfl
                | slice0=>exact absurd (Nat.min_zero n) hk
              · cases h
            · cases h
        · cases h
      · cases h
    · cases h
  · cases h
def clearA(P:Program)(ts:Array TypeId)(d:AV)(st:St):Option St:=
  match ts[0]?,d with
  | some t, .slice i off len _ _ => match P.underlying t with
    | some (.slice e) => bif Nat.beq len 0 then some st else match zeroL P e with
      | some zl => match (st.obj i).store off (zeroRow zl len) with
        | some o=>some (st.put i o)
        | none=>none
      | none=>none
    | _=>none
  | some t, .snil => match P.underlying t with
    | some _=>some st
    | none=>none
  | some t, .mnil => match P.underlying t with
    | some _=>some st
    | none=>none
  | some t, .map i => match P.underlying t, st.obj i with
    | some _,.map _=>some (st.put i (.map []))
    | _,_=>none
  | _,_=>none
theorem clear_sound{P:Program}{ρ:Ren}{ts:Array TypeId}{ty:TypeId}{d:AV}{vs:Array Value}{u:Value}{st st':St}{w:World}(h:clearA P ts d st=some st')
    (h0:vs[0]? = some u) (hu:VR ρ d u) (hR:Rel ρ st w) :
    ∃ w',(Builtin.clear_ ts ty vs).run P w=.ok (.tuple #[]) w'∧Good ρ st w ρ st' w':=by
  unfold clearA at h
  split at h
  · rename_i t i off len cap o ht
    split at h
    · rename_i e hut
      cases hz:Nat.beq len 0 with
      | true =>
        rw[hz] at h;simp only[cond_true,Option.some.injEq] at h;subst h
        have:=beq_iff.1 hz
        subst this
        obtain⟨a,cap',rfl⟩:∃ a cap',u=.slice (some a) 0 cap':=by cases hu<;>exact⟨_,_,rfl⟩
        exact⟨w,by simp[Builtin.clear_,ht,h0,run_underlying hut],.refl hR⟩
      | false =>
        rw[hz] at h;simp only[cond_false] at h
        have hk:len≠0:=fun e=>by rw[e] at hz;simp at hz
        split at h
        · rename_i zl hzl
          split at h
          · rename_i ob hob
            simp only[Option.some.injEq] at h;subst h
            obtain⟨inf,zv,hi,hz',hvz,hzlen,hzsz⟩:=zeroL_some hzl ρ
            obtain⟨L,hL,w',hst,hg⟩:=hR.store P hob (vs:=zerosA zv.cells.toList len) (by rw[zeroRow_toL];exact VRs_zeros hvz len)
            cases hu with
            | slice _ _ _ _ _ cap' L' hL' hp hl g0 g1 =>
              rw[hL] at hL';cases hL'
              refine⟨w',?_,hg⟩
              have hti:∀ w:World,(typeInfo e).run P w=.ok inf w:=fun w=>run_typeInfo w hi
              obtain⟨m,rfl⟩:∃ m,len=m+1:=⟨len-1,by omega⟩
              simp only[Builtin.clear_,ht,h0,Sem.run_bind,run_underlying hut,Result.andThen_ok,zeroValue,hti,hz',Sem.run_pure]
              rw[zeroCells_toList,hst]
              rfl
            | slice0=>exact absurd rfl hk
          · cases h
        · cases h
    · cases h
  · rename_i t ht
    split at h
    · rename_i dd hut
      simp only[Option.some.injEq] at h;subst h
      cases hu
      exact⟨w,by simp[Builtin.clear_,ht,h0,run_underlying hut],.refl hR⟩
    · cases h
  · rename_i t ht
    split at h
    · rename_i dd hut
      simp only[Option.some.injEq] at h;subst h
      cases hu
      exact⟨w,by simp[Builtin.clear_,ht,h0,run_underlying hut],.refl hR⟩
    · cases h
  · rename_i t i ht
    split at h
    · rename_i dd es hut hobj
      simp only[Option.some.injEq] at h;subst h
      obtain⟨hi,hg⟩:=St.obj_live (st:=st) (i:=i) (by rw[hobj];rfl)
      rw[hg] at hobj
      obtain⟨L,ob,hL,hob,hr⟩:=hR.live i hi (by rw[hobj];rfl)
      rw[hobj] at hr
      obtain⟨E,cl,rfl,_,_,_⟩:=hr
      cases hu with | map _ L' hL'=>
      rw[hL] at hL';cases hL'
      refine⟨{ w with heap:=w.heap.setIfInBounds L.b (.map #[] cl) },?_,hR.upd hi (by rw[hobj];rfl) hL (o:=.map []) (ob:=.map #[] cl) ⟨#[],cl,rfl,.nil,.nil,MapKept.stamped_empty cl⟩ rfl⟩
      simp only[Builtin.clear_,ht,h0,Sem.run_bind,run_underlying hut,Result.andThen_ok]
      cases dd<;>simp[getObj,setObj,Sem.run,hob]
    · cases h
  · cases h
theorem VRs.set{ρ:Ren}:∀ {l:List AV} {m:List Value},VRs ρ l m→∀ (j:Nat) {a:AV} {v:Value},VR ρ a v→VRs ρ (l.set j a) (m.set j v)
  | _,_,.nil,_,_,_,_=>.nil
  | _,_,.cons _ t,0,_,_,h=>.cons h t
  | _,_,.cons x t,j+1,_,_,h=>.cons x (VRs.set t j h)
theorem VRs.eraseIdx{ρ:Ren}:∀ {l:List AV} {m:List Value},VRs ρ l m→∀ (j:Nat),VRs ρ (l.eraseIdx j) (m.eraseIdx j)
  | _,_,.nil,_=>.nil
  | _,_,.cons _ t,0=>t
  | _,_,.cons x t,j+1=>.cons x (VRs.eraseIdx t j)
theorem map_modify{α β:Type}(g:α→β)(f:α→α)(E:Array α)(j:Nat)(e:α)(he:E.toList[j]? = some e):(E.modify j f).toList.map g=(E.toList.map g).set j (g (f e)):=by
  have he':E[j]? = some e:=by simpa using he
  apply List.ext_getElem?
  intro i
  simp only[List.getElem?_map,Array.getElem?_toList,Array.getElem?_modify,List.getElem?_set]
  by_cases h:j=i
  · subst h
    obtain⟨hlt,hge⟩:=Array.getElem?_eq_some_iff.1 he'
    simp[hlt,hge]
  · simp[h]
theorem map_set_pair{α β γ:Type}(g:α×β→γ)(es:List (α×β))(j:Nat)(x:α×β):(es.set j x).map g=(es.map g).set j (g x):=by
  apply List.ext_getElem?
  intro i
  simp only[List.getElem?_map,List.getElem?_set,List.length_map]
  by_cases h:j=i
  · subst h
    by_cases h2:j<es.length<;>simp[h2]
  · simp[h]
theorem map_eraseIdx{α β:Type}(g:α→β):∀ (l:List α) (j:Nat),(l.eraseIdx j).map g=(l.map g).eraseIdx j
  | [],_=>rfl
  | _::_,0=>rfl
  | x::l,j+1=>by simp only[List.eraseIdx_cons_succ,List.map_cons];rw[map_eraseIdx g l j]
theorem run_getObj_of{P:Program}{w:World}{b:Nat}{E:Array MapEntry}{c:Nat}(h:w.heap[b]? = some (.map E c)):(getObj b).run P w=.ok (.map E c) w:=by
  simp[getObj,Sem.run,h]
theorem run_setObj_of{P:Program}{w:World}{b:Nat}{E:Array MapEntry}{c:Nat}{ob':Obj}(h:w.heap[b]? = some (.map E c)):(setObj b ob').run P w=.ok () { w with heap:=w.heap.setIfInBounds b ob' }:=by
  simp[setObj,Sem.run,h]
def mapUpdateA(P:Program)(t:TypeId)(m k x:AV)(st:St):Option St:=
  match P.underlying t,m with
  | some (.map kt _),.map i=>bif intKey P kt then match st.obj i with
      | .map es => match findA k es 0 with
        | some (some (j,_))=>some (st.put i (.map (es.set j (k,x))))
        | some none=>some (st.put i (.map (es++[(k,x)])))
        | none=>none
      | _=>none
    else none
  | _,_=>none
theorem mapUpdate_sound{P:Program}{ρ:Ren}{t:TypeId}{m k x:AV}{mv kv xv:Value}{st st':St}{w:World}(h:mapUpdateA P t m k x st=some st')(hm:VR ρ m mv)(hk:VR ρ k kv)(hx:VR ρ x xv)(hR:Rel ρ st w) :
    ∃ w',(Instr.mapUpdate t mv kv xv).run P w=.ok () w'∧Good ρ st w ρ st' w':=by
  unfold mapUpdateA at h
  split at h
  · rename_i kt et i ht
    cases hi:intKey P kt with
    | false=>rw[hi] at h;simp at h
    | true =>
      rw[hi] at h
      simp only[cond_true] at h
      obtain⟨q,hq⟩:=intKey_iff hi
      split at h
      · rename_i es ho
        obtain⟨hn,hg,L,E,c,hL,hob,h1,h2,hst⟩:=hR.mapAt ho
        cases hm with | map _ L' hL'=>
        rw[hL] at hL';cases hL'
        split at h
        · rename_i j v hf
          simp only[Option.some.injEq] at h
          subst h
          rcases findA_sound (q:=q) hk es E.toList 0 _ hf h1 h2 with⟨a,_⟩|⟨j',v1,v',e,a,b,cc,d,f,g,kk,n,hkn⟩
          · cases a
          · simp only[Option.some.injEq,Prod.mk.injEq,Nat.zero_add] at a
            obtain⟨rfl,rfl⟩:=a
            rw[Nat.zero_add] at b
            have he:E[j]? = some e:=by simpa using d
            refine⟨{ w with heap:=w.heap.setIfInBounds L.b (.map (E.modify j fun e=>{ e with key:=kv,val:=xv }) c) },?_,hR.upd hn (by rw[hg];rfl) hL (o:=.map (es.set j (k,x))) (ob:=.map (E.modify j fun e=>{ e with key:=kv,val:=xv }) c) ⟨_,c,rfl,?_,?_,MapKept.stamped_modify hst j _ (fun _ _=>rfl) (fun e' _ he'=>by rw[he] at he';cases he';exact f.symm)⟩ rfl⟩
            · have hs:∀ w:World,(Instr.keyThatStays kv kv).run P w=.ok kv w:=by
                intro w
                subst hkn
                simp[Instr.keyThatStays,Instr.sameBits]
              have hks:((E[j]?).map (·.key)).getD kv=kv:=by rw[he];exact f
              unfold Instr.mapUpdate
              simp only[Sem.run_bind,run_underlying ht,Result.andThen_ok,run_getObj_of hob,run_checkKey_int hq,run_findKey_int hq b,hks,hs w,run_setObj_of hob]
            · rw[map_set_pair (·.1),map_modify (·.key) _ E j e (by simpa using he)]
              exact h1.set j hk
            · rw[map_set_pair (·.2),map_modify (·.val) _ E j e (by simpa using he)]
              exact h2.set j hx
        · rename_i hf
          simp only[Option.some.injEq] at h
          subst h
          rcases findA_sound (q:=q) hk es E.toList 0 _ hf h1 h2 with⟨_,b,bk⟩|⟨j',v1,v',e,a,_⟩
          · refine⟨{ w with heap:=w.heap.setIfInBounds L.b (.map (E.push { key:=kv,val:=xv,born:=c }) (c+1)) },?_,hR.upd hn (by rw[hg];rfl) hL (o:=.map (es++[(k,x)])) (ob:=.map (E.push { key:=kv,val:=xv,born:=c }) (c+1)) ⟨_,c+1,rfl,?_,?_,MapKept.stamped_push hst bk⟩ rfl⟩
            · unfold Instr.mapUpdate
              simp only[Sem.run_bind,run_underlying ht,Result.andThen_ok,run_getObj_of hob,run_checkKey_int hq,run_findKey_int hq b,run_setObj_of hob]
            · simp only[List.map_append,Array.toList_push,List.map_cons,List.map_nil]
              exact h1.append (.cons hk .nil)
            · simp only[List.map_append,Array.toList_push,List.map_cons,List.map_nil]
              exact h2.append (.cons hx .nil)
          · cases a
        · cases h
      · cases h
  · cases h
def deleteA(P:Program)(ts:Array TypeId)(m k:AV)(st:St):Option St:=
  match ts[0]? with
  | some t => match P.underlying t, m with
    | some (.map kt _),.map i=>bif intKey P kt then match st.obj i with
        | .map es => match findA k es 0 with
          | some (some (j,_))=>some (st.put i (.map (es.eraseIdx j)))
          | some none=>some (st.put i (.map es))
          | none=>none
        | _=>none
      else none
    | _,_=>none
  | none=>none
theorem delete_sound{P:Program}{ρ:Ren}{ts:Array TypeId}{ty:TypeId}{m k:AV}{vs:Array Value}{mv kv:Value}{st st':St}{w:World}(h:deleteA P ts m k st=some st')(h0:vs[0]? = some mv)(h1:vs[1]? = some kv)
    (hm:VR ρ m mv) (hk:VR ρ k kv) (hR:Rel ρ st w):∃ w',(Builtin.delete_ ts ty vs).run P w=.ok (.tuple #[]) w'∧Good ρ st w ρ st' w':=by
  unfold deleteA at h
  split at h
  · rename_i t ht0
    split at h
    · rename_i kt et i ht
      cases hi:intKey P kt with
      | false=>rw[hi] at h;simp at h
      | true =>
        rw[hi] at h
        simp only[cond_true] at h
        obtain⟨q,hq⟩:=intKey_iff hi
        split at h
        · rename_i es ho
          obtain⟨hn,hg,L,E,c,hL,hob,g1,g2,hst⟩:=hR.mapAt ho
          cases hm with | map _ L' hL'=>
          rw[hL] at hL';cases hL'
          split at h
          · rename_i j v hf
            simp only[Option.some.injEq] at h
            subst h
            rcases findA_sound (q:=q) hk es E.toList 0 _ hf g1 g2 with⟨a,_⟩|⟨j',v1,v',e,a,b,cc,d,f,g,_⟩
            · cases a
            · simp only[Option.some.injEq,Prod.mk.injEq,Nat.zero_add] at a
              obtain⟨rfl,rfl⟩:=a
              rw[Nat.zero_add] at b
              have hlt:j<E.size:=by
                have:=(List.getElem?_eq_some_iff.1 d).1
                simpa using this
              have hE:(E.eraseIdxIfInBounds j).toList=E.toList.eraseIdx j:=by
                simp[Array.eraseIdxIfInBounds,hlt,Array.toList_eraseIdx]
              refine⟨{ w with heap:=w.heap.setIfInBounds L.b (.map (E.eraseIdxIfInBounds j) c) },?_,hR.upd hn (by rw[hg];rfl) hL (o:=.map (es.eraseIdx j)) (ob:=.map (E.eraseIdxIfInBounds j) c) ⟨_,c,rfl,?_,?_,MapKept.stamped_erase hst j⟩ rfl⟩
              · unfold Builtin.delete_
                simp only[ht0,h0,h1,Sem.run_bind,run_underlying ht,Result.andThen_ok,run_getObj_of hob,run_checkKey_int hq,run_findKey_int hq b,run_setObj_of hob,Sem.run_pure]
              · rw[hE,map_eraseIdx,map_eraseIdx];exact g1.eraseIdx j
              · rw[hE,map_eraseIdx,map_eraseIdx];exact g2.eraseIdx j
          · rename_i hf
            simp only[Option.some.injEq] at h
            subst h
            rcases findA_sound (q:=q) hk es E.toList 0 _ hf g1 g2 with⟨_,b,_⟩|⟨j',v1,v',e,a,_⟩
            · refine⟨{ w with heap:=w.heap.setIfInBounds L.b (.map E c) },?_,hR.upd hn (by rw[hg];rfl) hL (o:=.map es) (ob:=.map E c) ⟨_,c,rfl,g1,g2,hst⟩ rfl⟩
              unfold Builtin.delete_
              simp only[ht0,h0,h1,Sem.run_bind,run_underlying ht,Result.andThen_ok,run_getObj_of hob,run_checkKey_int hq,run_findKey_int hq b,run_setObj_of hob,Sem.run_pure]
            · cases a
          · cases h
        · cases h
    · cases h
  · cases h
end
end Go.Ev
