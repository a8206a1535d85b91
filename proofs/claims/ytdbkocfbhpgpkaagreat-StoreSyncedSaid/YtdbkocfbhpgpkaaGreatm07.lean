/-
  The operations that make a new block.
-/
import Derived.Test.YtdbkocfbhpgpkaaGreatm06
import Derived.Laws.MakeOwn
import Derived.Laws.BytesString
import Derived.Laws.LoneSync
import Derived.Great.BuildSlice
set_option linter.unusedVariables false
set_option linter.unusedSimpArgs false
namespace Go.Ev
open Go
noncomputable section
def isU8 (P:Program)(e:TypeId):Bool:=
  match P.underlying e with
  | some (.int .u8)=>true
  | _=>false
def intKey(P:Program)(kt:TypeId):Bool:=
  match P.underlying kt with
  | some (.int _)=>true
  | _=>false
theorem intKey_iff{P:Program}{kt:TypeId}(h:intKey P kt=true):∃ q,P.underlying kt=some (.int q):=by
  unfold intKey at h
  split at h
  · exact⟨_,by assumption⟩
  · cases h
def keyEqA:AV→AV→Option Bool
  | .int k a,.int k' b=>bif kindEq k k' then some (eqI a b) else none
  | _,_=>none
def findA0(k:AV):List (AV×AV)→Nat→Option (Option (Nat×AV))
  | [],_=>some none
  | e :: es, i => match keyEqA k e.1 with
    | some true=>some (some (i,e.2))
    | some false=>findA0 k es (i+1)
    | none=>none
def findI(q a:Nat):List (AV×AV)→Nat→Option (Option (Nat×AV))
  | [],_=>some none
  | (.int k (.ofNat b),v)::es,i=>bif Nat.beq k.ctorIdx q then(bif Nat.beq a b then some (some (i,v)) else findI q a es (i+1)) else none
  | _,_=>none
def findA(k:AV)(es:List (AV×AV))(i:Nat):Option (Option (Nat×AV)):=
  match k with
  | .int q (.ofNat a) => match findI q.ctorIdx a es i with
    | some r=>some r
    | none=>findA0 k es i
  | _=>findA0 k es i
theorem findI_eq{q:IntKind}{a:Nat}:∀ {es:List (AV×AV)} {i:Nat} {r:Option (Nat×AV)},findI q.ctorIdx a es i=some r→findA0 (.int q (.ofNat a)) es i=some r
  | [],i,r,h=>by simpa[findI,findA0] using h
  | (.int k (.ofNat b), v) :: es, i, r, h => by
    unfold findI at h
    obtain⟨hk,h'⟩:=bif_some h
    have hk:k=q:=by
      have:=Nat.eq_of_beq_eq_true hk
      cases k<;>cases q<;>first | rfl | cases this
    subst hk
    have hq:kindEq k k=true:=by simp[kindEq]
    unfold findA0
    simp only[keyEqA,hq,cond_true,eqI]
    cases hab:Nat.beq a b with
    | true=>rw[hab] at h';exact h'
    | false=>rw[hab] at h';exact findI_eq h'
  | (.int _ (.negSucc _),_)::_,_,_,h=>by cases h
  | (.top,_)::_,_,_,h=>by cases h
  | (.bool _,_)::_,_,_,h=>by cases h
  | (.str _ _,_)::_,_,_,h=>by cases h
  | (.pnil,_)::_,_,_,h=>by cases h
  | (.ptr _ _,_)::_,_,_,h=>by cases h
  | (.snil,_)::_,_,_,h=>by cases h
  | (.slice ..,_)::_,_,_,h=>by cases h
  | (.mnil,_)::_,_,_,h=>by cases h
  | (.map _,_)::_,_,_,h=>by cases h
  | (.func ..,_)::_,_,_,h=>by cases h
  | (.fnil,_)::_,_,_,h=>by cases h
  | (.yield _,_)::_,_,_,h=>by cases h
  | (.iface ..,_)::_,_,_,h=>by cases h
  | (.inil,_)::_,_,_,h=>by cases h
  | (.agg _,_)::_,_,_,h=>by cases h
  | (.tup _,_)::_,_,_,h=>by cases h
theorem findA_eq{k:AV}{es:List (AV×AV)}{i:Nat}{r:Option (Nat×AV)}(h:findA k es i=some r):findA0 k es i=some r:=by
  unfold findA at h
  split at h
  · split at h
    · rename_i hf;cases h;exact findI_eq hf
    · exact h
  · exact h
theorem keyEqA_sound{ρ:Ren}{a b:AV}{u v:Value}{r:Bool}{q:IntKind}(h:keyEqA a b=some r)(ha:VR ρ a u)(hb:VR ρ b v) :
    Instr.sameNow (.int q) u v=some r∧(r=true→u=v)∧(∃ k n,u=.int k n)∧(r=false→u≠v):=by
  unfold keyEqA at h
  split at h
  · rename_i k x k' y
    cases ha;cases hb
    cases hk:kindEq k k' with
    | false=>rw[hk] at h;simp at h
    | true =>
      rw[hk] at h
      simp only[cond_true,Option.some.injEq] at h
      subst h
      have hkk:k=k':=by simpa[kindEq] using hk
      subst hkk
      refine⟨?_,?_,⟨_,_,rfl⟩,?_⟩
      · simp only[Instr.sameNow,if_true]
        rw[eqI_eq]
      · intro he
        rw[eqI_eq] at he
        have:x=y:=by simpa using he
        rw[this]
      · intro he hxy
        rw[eqI_eq] at he
        cases hxy
        simp at he
  · cases h
theorem findA0_sound{ρ:Ren}{q:IntKind}{k:AV}{kv:Value}(hk:VR ρ k kv):∀ (es:List (AV×AV)) (E:List MapEntry) (i:Nat) (r:Option (Nat×AV)),findA0 k es i=some r →
    VRs ρ (es.map (·.1)) (E.map (·.key))→VRs ρ (es.map (·.2)) (E.map (·.val)) →
    (r=none∧Instr.findNow (.int q) kv E i=some none∧∀ x∈E,x.key≠kv) ∨
    (∃ j v v' e,r=some (i+j,v)∧Instr.findNow (.int q) kv E i=some (some (i+j,v'))∧VR ρ v v'∧E[j]? = some e∧e.key=kv∧j<es.length∧∃ kk n,kv=.int kk n):=by
  intro es
  induction es with
  | nil =>
    intro E i r h h1 h2
    simp only[findA0,Option.some.injEq] at h
    subst h
    cases E with
    | nil=>exact .inl ⟨rfl,rfl,by simp⟩
    | cons e E=>simp only[List.map_nil,List.map_cons] at h1;cases h1
  | cons x es ih =>
    intro E i r h h1 h2
    cases E with
    | nil=>simp only[List.map_nil,List.map_cons] at h1;cases h1
    | cons e E =>
      simp only[List.map_cons] at h1 h2
      cases h1 with | cons hx1 h1=>
      cases h2 with | cons hx2 h2=>
      simp only[findA0] at h
      split at h
      · rename_i hq
        simp only[Option.some.injEq] at h
        subst h
        obtain⟨g1,g2,g3,_⟩:=keyEqA_sound (q:=q) hq hk hx1
        exact .inr ⟨0,_,e.val,e,rfl,by simp[Instr.findNow,g1],hx2,rfl,(g2 rfl).symm,by simp,g3⟩
      · rename_i hq
        obtain⟨g1,g2,g3,g4'⟩:=keyEqA_sound (q:=q) hq hk hx1
        have g4:=g4' rfl
        rcases ih E (i+1) r h h1 h2 with⟨a,b,cc⟩|⟨j,v,v',e',a,b,c,d,f,g,m⟩
        · refine .inl ⟨a,by simp[Instr.findNow,g1,b],?_⟩
          intro x hx
          rcases List.mem_cons.1 hx with rfl|hx
          · exact fun e=>g4 e.symm
          · exact cc x hx
        · refine .inr ⟨j+1,v,v',e',?_,?_,c,?_,f,?_,m⟩
          · rw[a,show i+1+j=i+(j+1) by omega]
          · simp only[Instr.findNow,g1];rw[b,show i+1+j=i+(j+1) by omega]
          · simpa using d
          · simp;omega
      · cases h
theorem findA_sound{ρ:Ren}{q:IntKind}{k:AV}{kv:Value}(hk:VR ρ k kv):∀ (es:List (AV×AV)) (E:List MapEntry) (i:Nat) (r:Option (Nat×AV)),findA k es i=some r →
    VRs ρ (es.map (·.1)) (E.map (·.key))→VRs ρ (es.map (·.2)) (E.map (·.val)) →
    (r=none∧Instr.findNow (.int q) kv E i=some none∧∀ x∈E,x.key≠kv) ∨
    (∃ j v v' e,r=some (i+j,v)∧Instr.findNow (.int q) kv E i=some (some (i+j,v'))∧VR ρ v v'∧E[j]? = some e∧e.key=kv∧j<es.length∧∃ kk n,kv=.int kk n):=
  fun es E i r h=>findA0_sound hk es E i r (findA_eq h)
theorem run_checkKey_int{P:Program}{kt:TypeId}{q:IntKind}(h:P.underlying kt=some (.int q))(b:Bool)(v:Value)(w:World):(Instr.checkKey b 10000 kt v).run P w=.ok () w:=by
  have key:∀ n:Nat,(Instr.checkKey b (n+1) kt v).run P w=.ok () w:=by
    intro n
    cases v<;>simp[Instr.checkKey,run_underlying h]
  exact key 9999
theorem run_findKey_int{P:Program}{kt:TypeId}{q:IntKind}(h:P.underlying kt=some (.int q)){v:Value}{E:List MapEntry}{r:Option (Nat×Value)}(hr:Instr.findNow (.int q) v E 0=some r)(w:World) :
    (Instr.findKey kt v E).run P w=.ok r w:=by
  simp[Instr.findKey,run_underlying h,hr]
def zeroA(P:Program)(t:TypeId):Option AV:=
  match P.info? t with
  | some i=>i.zero.map constA
  | none=>none
theorem zeroA_sound{P:Program}{t:TypeId}{z:AV}(h:zeroA P t=some z)(ρ:Ren)(w:World):∃ u,(zeroValue t).run P w=.ok u w∧VR ρ z u:=by
  unfold zeroA at h
  split at h
  · rename_i i hi
    simp only[Option.map_eq_some_iff] at h
    obtain⟨u,hu,rfl⟩:=h
    exact⟨u,by simp[zeroValue,typeInfo,hi,hu],constA_VR ρ u⟩
  · cases h
def mapOf(x:AV)(st:St):Option (List (AV×AV)):=
  match x with
  | .mnil=>some []
  | .map i => match st.obj i with
    | .map es=>some es
    | _=>none
  | _=>none
theorem Rel.mapAt{ρ:Ren}{st:St}{w:World}(hR:Rel ρ st w){i:Nat}{es:List (AV×AV)}(h:st.obj i=.map es) :
    i<st.next∧st.heap.get i=.map es∧∃ L E c,ρ i=some L∧w.heap[L.b]? = some (.map E c)∧VRs ρ (es.map (·.1)) (E.toList.map (·.key))∧VRs ρ (es.map (·.2)) (E.toList.map (·.val))∧MapKept.Stamped E c:=by
  obtain⟨hi,hg⟩:=St.obj_live (st:=st) (i:=i) (by rw[h];rfl)
  rw[hg] at h
  obtain⟨L,ob,hL,hob,hr⟩:=hR.live i hi (by rw[h];rfl)
  rw[h] at hr
  obtain⟨E,c,rfl,h1,h2,h3⟩:=hr
  exact⟨hi,h,L,E,c,hL,hob,h1,h2,h3⟩
def lookupA(P:Program)(t:TypeId)(x k:AV)(ok:Bool)(st:St):Option AV:=
  match P.underlying t with
  | some (.map kt et)=>bif intKey P kt then match mapOf x st with
      | some es => match findA k es 0 with
        | some (some (_,v))=>some (bif ok then .tup [v,.bool true] else v)
        | some none => match zeroA P et with
          | some z=>some (bif ok then .tup [z,.bool false] else z)
          | none=>none
        | none=>none
      | none=>none
    else none
  | _=>none
theorem lookup_sound{P:Program}{ρ:Ren}{t:TypeId}{x k:AV}{ok:Bool}{st:St}{r:AV}{u kv:Value}{w:World}(h:lookupA P t x k ok st=some r)(hx:VR ρ x u)(hk:VR ρ k kv)(hR:Rel ρ st w) :
    ∃ z,(Instr.lookup t u kv ok).run P w=.ok z w∧VR ρ r z:=by
  unfold lookupA at h
  split at h
  · rename_i kt et ht
    cases hi:intKey P kt with
    | false=>rw[hi] at h;simp at h
    | true =>
      rw[hi] at h
      simp only[cond_true] at h
      obtain⟨q,hq⟩:=intKey_iff hi
      split at h
      · rename_i es hes
        have key:∃ E:Array MapEntry,VRs ρ (es.map (·.1)) (E.toList.map (·.key))∧VRs ρ (es.map (·.2)) (E.toList.map (·.val)) ∧
            ∀ (K:Array MapEntry→Sem Value),(do
              let es ← match u with
                | .map none=>pure #[]
                | .map (some r) => do
                  let .map es _ ← getObj r | stuck "Lookup: map expected"
                  pure es
                | _=>stuck "Lookup: map expected"
              K es:Sem Value).run P w=(K E).run P w:=by
          unfold mapOf at hes
          split at hes
          · cases hx
            simp only[Option.some.injEq] at hes
            subst hes
            exact⟨#[],.nil,.nil,fun K=>by simp⟩
          · rename_i i
            split at hes
            · rename_i es' ho
              simp only[Option.some.injEq] at hes
              subst hes
              obtain⟨_,_,L,E,c,hL,hob,h1,h2,_⟩:=hR.mapAt ho
              cases hx with | map _ L' hL'=>
              rw[hL] at hL';cases hL'
              exact⟨E,h1,h2,fun K=>by simp[getObj,Sem.run,hob]⟩
            · cases hes
          · cases hes
        obtain⟨E,h1,h2,hrun⟩:=key
        have hgo:∀ (rv:Option (Nat×Value)),Instr.findNow (.int q) kv E.toList 0=some rv→(Instr.lookup t u kv ok).run P w=(do
            let (v,ok') ← match rv with
              | some (_,v)=>pure (v,true)
              | none=>pure (← zeroValue et,false)
            pure (if ok then .tuple #[v,.bool ok'] else v):Sem Value).run P w:=by
          intro rv hrv
          unfold Instr.lookup
          simp only[Sem.run_bind,run_underlying ht,Result.andThen_ok]
          have:=hrun (fun es=>do
            Instr.checkKey es.isEmpty 10000 kt kv
            let (v,ok') ← match ← Instr.findKey kt kv es.toList with
              | some (_,v)=>pure (v,true)
              | none=>pure (← zeroValue et,false)
            pure (if ok then .tuple #[v,.bool ok'] else v))
          simp only[Sem.run_bind] at this ⊢
          refine this.trans ?_
          simp only[run_checkKey_int hq,run_findKey_int hq hrv,Result.andThen_ok]
        split at h
        · rename_i p v hf
          simp only[Option.some.injEq] at h
          subst h
          rcases findA_sound (q:=q) hk es E.toList 0 _ hf h1 h2 with⟨a,_,_⟩|⟨j,v1,v',e,a,b,c,_⟩
          · cases a
          · simp only[Option.some.injEq,Prod.mk.injEq] at a
            obtain⟨_,rfl⟩:=a
            rw[hgo _ b]
            cases ok with
            | true=>exact⟨.tuple #[v',.bool true],by simp,.tup _ _ (.cons c (.cons (.bool _) .nil))⟩
            | false=>exact⟨v',by simp,c⟩
        · rename_i hf
          split at h
          · rename_i z hz
            simp only[Option.some.injEq] at h
            subst h
            obtain⟨zu,hz1,hz2⟩:=zeroA_sound hz ρ w
            rcases findA_sound (q:=q) hk es E.toList 0 _ hf h1 h2 with⟨_,b,_⟩|⟨j,v1,v',e,a,b,c,_⟩
            · rw[hgo _ b]
              cases ok with
              | true=>exact⟨.tuple #[zu,.bool false],by simp[hz1],.tup _ _ (.cons hz2 (.cons (.bool _) .nil))⟩
              | false=>exact⟨zu,by simp[hz1],hz2⟩
            · cases a
          · cases h
        · cases h
      · cases h
  · cases h
def lenMapA(P:Program)(t:TypeId)(x:AV)(st:St):Option AV:=
  match P.underlying t with
  | some (.map _ _) => match mapOf x st with
    | some es=>some (.int .i64 (Int.ofNat es.length))
    | none=>none
  | _=>none
theorem lenMap_sound{P:Program}{ρ:Ren}{t:TypeId}{x:AV}{st:St}{r:AV}{ts:Array TypeId}{ty:TypeId}{vs:Array Value}{u:Value}{w:World}(h:lenMapA P t x st=some r)(ht0:ts[0]? = some t)(h0:vs[0]? = some u)
    (hx:VR ρ x u) (hR:Rel ρ st w):∃ z,(Builtin.len_ ts ty vs).run P w=.ok z w∧VR ρ r z:=by
  unfold lenMapA at h
  split at h
  · rename_i kt et ht
    split at h
    · rename_i es hes
      simp only[Option.some.injEq] at h
      subst h
      refine⟨.int .i64 (Int.ofNat es.length),?_,.int _ _⟩
      unfold mapOf at hes
      split at hes
      · cases hx
        simp only[Option.some.injEq] at hes
        subst hes
        simp[Builtin.len_,ht0,h0,run_underlying ht,goInt]
      · rename_i i
        split at hes
        · rename_i es' ho
          simp only[Option.some.injEq] at hes
          subst hes
          obtain⟨_,_,L,E,c,hL,hob,h1,h2,_⟩:=hR.mapAt ho
          cases hx with | map _ L' hL'=>
          rw[hL] at hL';cases hL'
          have hl:=h1.length
          simp only[List.length_map,Array.length_toList] at hl
          simp only[Builtin.len_,ht0,h0,Sem.run_bind,run_underlying ht,Result.andThen_ok]
          simp[getObj,Sem.run,hob,goInt,hl]
        · cases hes
      · cases hes
    · cases h
  · cases h
def opRead(P:Program)(o:Op)(v:Operand→AV)(st:St):Option AV:=
  match o with
  | .load t x => match v x with
    | .ptr i off => match aggN P t with
      | some (some n)=>((st.obj i).blk off n).map fun b=>.agg b.toL
      | some none=>(st.obj i).cell? off
      | none=>none
    | _=>none
  | .convert s d x => match P.underlying s, P.underlying d with
    | some (.slice e),some .string=>bif isU8 P e then match v x with
        | .snil=>some (.str 0 0)
        | .slice i off len _ _ => bif Nat.beq len 0 then some (.str 0 0) else match (st.obj i).blk off len with
          | some b=>b.pack.map fun m=>.str len m
          | none=>none
        | _=>none
      else none
    | some (.pointer t), some .unsafePointer => match (P.info? t).map (fun i => decide (i.size = 0)), v x with
      | some false, .ptr i off => match (st.obj i).cell? off with
        | some _=>some (.ptr i off)
        | none=>none
      | _,_=>none
    | _,_=>none
  | .lookup t x k ok=>lookupA P t (v x) (v k) ok st
  | .call ⟨.builtin .len, args, ts⟩ => match ts[0]?, args[0]? with
    | some t,some x=>lenMapA P t (v x) st
    | _,_=>none
  | _=>none
theorem run_loadVar_agg{P:Program}{w:World}{t:TypeId}{n:Nat}(h:aggN P t=some (some n)){a:Addr}{cs:List Value}(hl:cs.length=n)
    (hc:∀ (j:Nat) (v:Value),cs[j]? = some v→w.cell? (a.add j)=some v):(loadVar t a).run P w=.ok (.agg cs.toArray) w:=by
  obtain⟨h1,h2⟩:=aggN_some h w
  have:=run_loadCells_list (P:=P) w a cs hc
  rw[hl] at this
  simp[loadVar,h1,h2 n rfl,this]
theorem run_loadVar_one{P:Program}{w:World}{t:TypeId}(h:aggN P t=some none){a:Addr}{v:Value}(hc:w.cell? a=some v):(loadVar t a).run P w=.ok v w:=by
  obtain⟨h1,_⟩:=aggN_some h w
  simp[loadVar,h1,hc]
theorem foldl_push:∀ (l:List Nat) (s:ByteArray),(∀ x∈l,x<256) →
    ((l.map Int.ofNat).foldl (fun(r:ByteArray) (n:Int)=>r.push (UInt8.ofNat n.toNat)) s).data.toList.map UInt8.toNat=s.data.toList.map UInt8.toNat++l:=by
  intro l
  induction l with
  | nil=>intro s _;simp
  | cons x l ih =>
    intro s hx
    simp only[List.map_cons,List.foldl_cons]
    rw[ih _ (fun y hy=>hx y (by simp[hy]))]
    have:(UInt8.ofNat x).toNat=x:=by
      have:=hx x (by simp)
      simp;omega
    simp[ByteArray.data_push,this]
theorem bytesL_lt{m len x:Nat}(hx:x∈bytesL m len):x<256:=by
  obtain⟨k,hk,rfl⟩:=List.getElem_of_mem hx
  have:=bytesL_get len m k (by rwa[bytesL_length] at hk)
  rw[List.getElem?_eq_getElem hk] at this
  rw[Option.some.inj this];exact byte_lt _ _
theorem run_bytesToString_of{P:Program}(w:World)(a:Addr)(len cap m:Nat)(h:∀ (j:Nat) (v:Value),(bytesV m len)[j]? = some v→w.cell? (a.add j)=some v) :
    ∃ s,(Conv.bytesToString (.slice (some a) len cap)).run P w=.ok (.string s) w∧s.data.toList.map UInt8.toNat=bytesL m len:=by
  have hl:=run_loadCells_list (P:=P) w a (bytesV m len) h
  rw[bytesV_length] at hl
  have he:bytesV m len=((bytesL m len).map Int.ofNat).map (Value.int .u8):=by simp[bytesV,List.map_map]
  rw[he] at hl
  refine⟨_,run_bytesToString w a len cap _ hl,?_⟩
  rw[foldl_push _ _ (fun x hx=>bytesL_lt hx)]
  simp
theorem opRead_sound{P:Program}{ρ:Ren}{o:Oper}{v:Operand→AV}{e:Operand→Value}{r:AV}{st:St}{w:World}(h:opRead P o.op v st=some r)
    (hv:∀ x,VR ρ (v x) (e x)) (hR:Rel ρ st w):∃ z,(execOp e o).run P w=.ok (.value z) w∧VR ρ r z:=by
  unfold execOp
  unfold opRead at h
  split at h
  · rename_i t x ho
    rw[ho]
    have hx':=hv x
    split at h
    · rename_i i off hx
      rw[hx] at hx'
      obtain⟨L,hea,hL⟩:∃ L:Loc,e x=.pointer (some (L.at off))∧ρ i=some L:=by
        generalize e x=ex at hx'
        cases hx' with | ptr _ _ L hL=>exact⟨L,rfl,hL⟩
      split at h
      · rename_i n hn
        simp only[Option.map_eq_some_iff] at h
        obtain⟨b,hb,rfl⟩:=h
        obtain⟨L',hL',vs,h1,h2,h3,_⟩:=hR.blk hb
        rw[hL] at hL';cases hL'
        refine⟨.agg vs.toArray,run_v ?_,.agg _ _ (by simpa using h1)⟩
        rw[hea]
        simp only[Instr.loadAt,Instr.sureAddr,Sem.run_bind,Sem.run_pure,Result.andThen_ok]
        exact run_loadVar_agg hn h2 (fun j u hj=>by rw[L.at_add];exact h3 j u hj)
      · rename_i hn
        obtain⟨L',hL',u,h1,h2⟩:=hR.cell h
        rw[hL] at hL';cases hL'
        refine⟨u,run_v ?_,h2⟩
        rw[hea]
        simp only[Instr.loadAt,Instr.sureAddr,Sem.run_bind,Sem.run_pure,Result.andThen_ok]
        exact run_loadVar_one hn h1
      · cases h
    · cases h
  · rename_i s d x ho
    rw[ho]
    have hx':=hv x
    split at h
    · rename_i el hs hd
      cases hu:isU8 P el with
      | false=>rw[hu] at h;simp at h
      | true =>
        rw[hu] at h;simp only[cond_true] at h
        have hel:P.underlying el=some (.int .u8):=by
          unfold isU8 at hu;split at hu
          · assumption
          · simp at hu
        have hconv:∀ y:Value,(match y with | .slice .. => True | _=>False)→(convert s d y).run P w=(Conv.bytesToString y).run P w:=by
          intro y hy
          cases y<;>simp at hy
          rename_i a l c
          simp only[convert,Sem.run_bind,run_underlying hs,run_underlying hd,run_underlying hel,Result.andThen_ok]
        split at h
        · rename_i hx
          rw[hx] at hx'
          cases h
          have hea:e x=.slice none 0 0:=by generalize e x=ex at hx';cases hx';rfl
          refine⟨.string .empty,run_v ?_,.str _ _ _ rfl⟩
          rw[hea,hconv _ trivial];rfl
        · rename_i i off len cap op hx
          rw[hx] at hx'
          cases hz:Nat.beq len 0 with
          | true =>
            rw[hz] at h;simp only[cond_true,Option.some.injEq] at h;subst h
            have hlen:=beq_iff.1 hz
            subst hlen
            obtain⟨a,c,hea⟩:∃ a c,e x=.slice (some a) 0 c:=by
              generalize e x=ex at hx';cases hx' <;> exact⟨_,_,rfl⟩
            refine⟨.string .empty,run_v ?_,.str _ _ _ rfl⟩
            rw[hea,hconv _ trivial]
            simp[Conv.bytesToString,loadCells,loadCellsFrom]
          | false =>
            rw[hz] at h;simp only[cond_false] at h
            have hlen:len≠0:=fun e=>by rw[e] at hz;simp at hz
            split at h
            · rename_i b hb
              simp only[Option.map_eq_some_iff] at h
              obtain⟨m,hm,rfl⟩:=h
              obtain⟨L',hL',vs,h1,h2,h3,h4⟩:=hR.blk hb
              obtain⟨c,hea⟩:∃ c,e x=.slice (some (L'.at off)) len c:=by
                generalize e x=ex at hx'
                cases hx' with
                | slice _ _ _ _ _ cap' L hL=>rw[hL] at hL';cases hL';exact⟨cap',rfl⟩
                | slice0=>exact absurd rfl hlen
              rw[Blk.pack_eq hm,h4] at h1
              have hvs:=VRs_bytesA h1
              obtain⟨str,hs1,hs2⟩:=run_bytesToString_of (P:=P) w (L'.at off) len c m (fun j u hj=>by rw[L'.at_add];exact h3 j u (by rw[hvs];exact hj))
              exact⟨.string str,run_v (by rw[hea,hconv _ trivial];exact hs1),.str _ _ _ hs2⟩
            · cases h
        · cases h
    · rename_i t hs hd
      split at h
      · rename_i i off hsz hx
        rw[hx] at hx'
        split at h
        · rename_i c hc
          simp only[Option.some.injEq] at h;subst h
          obtain⟨L',hL',u,h1,_⟩:=hR.cell hc
          obtain⟨L,hea,hL⟩:∃ L:Loc,e x=.pointer (some (L.at off))∧ρ i=some L:=by
            generalize e x=ex at hx'
            cases hx' with | ptr _ _ L hL=>exact⟨L,rfl,hL⟩
          rw[hL] at hL';cases hL'
          exact⟨.pointer (some (L'.at off)),run_v (by rw[hea];exact run_convert_to_unsafe hs hd hsz h1),.ptr _ _ L' hL⟩
        · cases h
      · cases h
    · cases h
  · rename_i t x k ok ho
    rw[ho]
    obtain⟨z,h1,h2⟩:=lookup_sound h (hv x) (hv k) hR
    exact⟨z,run_v h1,h2⟩
  · rename_i args ts ho
    rw[ho]
    split at h
    · rename_i t x ht hx
      obtain⟨z,h1,h2⟩:=lenMap_sound (ty:=o.type) (vs:=args.map e) h ht (by simp[hx]) (hv x) hR
      exact⟨z,run_v h1,h2⟩
    · cases h
  · cases h
end
end Go.Ev
namespace Go.Ev
open Go
noncomputable section
def zerosA{α:Type}(zl:List α):Nat→List α
  | 0=>[]
  | n+1=>zl++zerosA zl n
theorem zerosA_length{α:Type}(zl:List α)(n:Nat):(zerosA zl n).length=n * zl.length:=by
  induction n with
  | zero=>simp[zerosA]
  | succ n ih=>simp[zerosA,ih,Nat.add_mul];omega
theorem zerosA_get{α:Type}(zl:List α):∀ (n k:Nat),k<n * zl.length→(zerosA zl n)[k]? = zl[k % zl.length]?:=by
  intro n
  induction n with
  | zero=>intro k h;omega
  | succ n ih =>
    intro k h
    rw[Nat.add_mul] at h
    by_cases hk:k<zl.length
    · rw[zerosA,List.getElem?_append_left hk,Nat.mod_eq_of_lt hk]
    · rw[zerosA,List.getElem?_append_right (by omega),ih _ (by omega)]
      congr 1
      rw[← Nat.mod_eq_sub_mod (by omega)]
theorem madeCells_toList(z:Array Value)(n:Nat):(madeCells z (n * z.size)).toList=zerosA z.toList n:=by
  apply List.ext_getElem?
  intro k
  by_cases hk:k<n * z.size
  · rw[zerosA_get _ _ _ (by simpa using hk)]
    have hpos:0<z.size:=by
      rcases Nat.eq_zero_or_pos z.size with h|h
      · rw[h] at hk;omega
      · exact h
    have hm:k % z.size<z.size:=Nat.mod_lt _ hpos
    simp[madeCells,hk,hm]
  · rw[List.getElem?_eq_none (by simp[madeCells];omega),List.getElem?_eq_none (by rw[zerosA_length];simp;omega)]
theorem VRs_zeros{ρ:Ren}{l:List AV}{m:List Value}(h:VRs ρ l m):∀ n,VRs ρ (zerosA l n) (zerosA m n)
  | 0=>.nil
  | n+1=>h.append (VRs_zeros h n)
def zeroRow(zl:List AV)(n:Nat):Blk:=
  match zl with
  | [.int .u8 (.ofNat 0)]=>.b n 0
  | zl=>.l (zerosA zl n)
theorem bytesA_zero(n:Nat):bytesA 0 n=zerosA [.int .u8 (.ofNat 0)] n:=by
  induction n with
  | zero=>rfl
  | succ n ih =>
    have:bytesA 0 (n+1)=.int .u8 ((0:Nat):Int)::bytesA 0 n:=by simp[bytesA,bytesL]
    rw[this,ih];rfl
theorem zeroRow_toL(zl:List AV)(n:Nat):(zeroRow zl n).toL=zerosA zl n:=by
  unfold zeroRow
  split
  · exact bytesA_zero n
  · rfl
def rowOf(l:List AV):Blk:=
  match packA l with
  | some m=>.b l.length m
  | none=>.l l
theorem rowOf_toL(l:List AV):(rowOf l).toL=l:=by
  unfold rowOf
  split
  · rename_i m h;exact(packA_eq l m h).symm
  · rfl
def zeroL(P:Program)(t:TypeId):Option (List AV):=
  match P.info? t with
  | some i => match i.zero with
    | some z => match (constA z).cellsA with
      | some l=>bif Nat.beq l.length i.size then some l else none
      | none=>none
    | none=>none
  | none=>none
theorem zeroL_some{P:Program}{t:TypeId}{l:List AV}(h:zeroL P t=some l)(ρ:Ren) :
    ∃ i z,P.info? t=some i∧i.zero=some z∧VRs ρ l z.cells.toList∧l.length=i.size∧z.cells.size=i.size:=by
  unfold zeroL at h
  split at h
  · rename_i i hi
    split at h
    · rename_i z hz
      split at h
      · rename_i l' hl
        cases hb:Nat.beq l'.length i.size with
        | false=>rw[hb] at h;simp at h
        | true =>
          rw[hb] at h;simp only[cond_true,Option.some.injEq] at h;subst h
          have hv:=cellsA_sound hl (constA_VR ρ z)
          have h1:=beq_iff.1 hb
          have h2:=hv.length
          simp only[Array.length_toList] at h2
          exact⟨i,z,hi,hz,hv,h1,by omega⟩
      · cases h
    · cases h
  · cases h
def opAlloc(P:Program)(o:Op)(v:Operand→AV):Option (AO×(Nat→AV)):=
  match o with
  | .alloc t => match zeroL P t with
    | some l=>(mkRow (rowOf l)).map fun o=>(o,fun i=>.ptr i 0)
    | none=>none
  | .box t x => match (v x).cellsA with
    | some l=>(mkRow (rowOf l)).map fun o=>(o,fun i=>.ptr i 0)
    | none=>none
  | .buildSlice t len parts => match P.underlying t with
    | some (.slice e) => match zeroL P e with
      | some zl=>bif Nat.ble (len * zl.length) 16777216 then
          match fillA (fun i=>some (i * zl.length,zl.length)) (zerosA zl len) (parts.toList.map fun x=>(x.1,v x.2)) with
          | some l=>(mkRow (rowOf l)).map fun o=>(o,fun i=>.slice i 0 len len 0)
          | none=>none
        else none
      | none=>none
    | _=>none
  | .makeSlice t l c => match P.underlying t, v l, v c with
    | some (.slice e), .int _ (.ofNat l), .int _ (.ofNat c) => match zeroL P e, P.info? e with
      | some zl,some i=>bif Nat.ble l c && Nat.ble (i.bytes * c) 281474976710656 && Nat.ble c 9223372036854775807 then
          (mkRow (zeroRow zl c)).map fun o=>(o,fun i=>.slice i 0 l c 0)
        else none
      | _,_=>none
    | _,_,_=>none
  | .makeMap t none=>some (.map [],fun i=>.map i)
  | .convert s d x => match P.underlying s, P.underlying d, v x with
    | some .string,some (.slice e),.str n b=>bif isU8 P e then(mkRow (.b n b)).map fun o=>(o,fun i=>.slice i 0 n n 1) else none
    | _,_,_=>none
  | _=>none
structure SameOut(w w':World):Prop where
  os:w'.os=w.os
  tape:w'.tape=w.tape
  output:w'.output=w.output
theorem free_none(top:Nat):free (0,0) top:=⟨Nat.le_refl _,by intro o _;simp⟩
theorem mkRow_rel0{ρ:Ren}{x:Blk}{o:AO}(h:mkRow x=some o){C:Array Value}{e:TypeId}{b:Nat}(hv:VRs ρ x.toL C.toList):ORel ρ ⟨b,0,C.size⟩ o (.cells C e (0,0)):=by
  have:=mkRow_rel (ρ:=ρ) (b:=b) (e:=e) (fz:=(0,0)) h (rest:=[]) hv (free_none _) (fun _ _=>free_none _)
  simpa using this
theorem opAlloc_sound{P:Program}{ρ:Ren}{o:Oper}{v:Operand→AV}{e:Operand→Value}{ao:AO}{f:Nat→AV}(h:opAlloc P o.op v=some (ao,f))
    (hv:∀ x,VR ρ (v x) (e x)) (w:World) :
    ∃ z ob sh top w',(execOp e o).run P w=.ok (.value z) w'∧w'.heap=w.heap.push ob∧SameOut w w' ∧
      ∀ (id:Nat) (ρ':Ren),Ext ρ ρ'→ρ' id=some ⟨w.heap.size,sh,top⟩→ORel ρ' ⟨w.heap.size,sh,top⟩ ao ob∧VR ρ' (f id) z:=by
  unfold execOp
  unfold opAlloc at h
  split at h
  · rename_i t ho
    rw[ho]
    split at h
    · rename_i l hl
      simp only[Option.map_eq_some_iff,Prod.mk.injEq] at h
      obtain⟨ao',ha,rfl,rfl⟩:=h
      obtain⟨i,z,hi,hz,hvz,_,_⟩:=zeroL_some hl ρ
      refine⟨.pointer (some ⟨w.heap.size,0,none⟩),.cells z.cells t,0,z.cells.size,w.alloc (.cells z.cells t),run_v ?_,rfl,⟨rfl,rfl,rfl⟩,?_⟩
      · simp[Instr.alloc,zeroValue,typeInfo,hi,hz,newVar,newRow]
      · intro id ρ' he hid
        exact⟨mkRow_rel0 ha (by rw[rowOf_toL];exact hvz.ext he),.ptr id 0 _ hid⟩
    · cases h
  · rename_i t x ho
    rw[ho]
    split at h
    · rename_i l hl
      simp only[Option.map_eq_some_iff,Prod.mk.injEq] at h
      obtain⟨ao',ha,rfl,rfl⟩:=h
      have hvl:=cellsA_sound hl (hv x)
      refine⟨.pointer (some ⟨w.heap.size,0,none⟩),.cells (e x).cells t,0,(e x).cells.size,w.alloc (.cells (e x).cells t),run_v ?_,rfl,⟨rfl,rfl,rfl⟩,?_⟩
      · simp[Instr.box,newVar,newRow]
      · intro id ρ' he hid
        exact⟨mkRow_rel0 ha (by rw[rowOf_toL];exact hvl.ext he),.ptr id 0 _ hid⟩
    · cases h
  · rename_i t len parts ho
    rw[ho]
    split at h
    · rename_i el ht
      split at h
      · rename_i zl hzl
        cases hb:Nat.ble (len * zl.length) 16777216 with
        | false=>rw[hb] at h;simp at h
        | true =>
          rw[hb] at h;simp only[cond_true] at h
          have hsm:=ble_iff.1 hb
          split at h
          · rename_i l hl
            simp only[Option.map_eq_some_iff,Prod.mk.injEq] at h
            obtain⟨ao',ha,rfl,rfl⟩:=h
            obtain⟨i,z,hi,hz,hvz,hlen,hsz⟩:=zeroL_some hzl ρ
            have hmade:((Array.range (len * i.size)).map (z.cells[· % z.cells.size]!))=madeCells z.cells (len * i.size):=rfl
            have hzv:VRs ρ (zerosA zl len) (madeCells z.cells (len * z.cells.size)).toList:=by rw[madeCells_toList];exact VRs_zeros hvz len
            obtain⟨C,hC,hr⟩:=fill_sound (ρ:=ρ) (fun i=>some (i * zl.length,zl.length)) _ (parts.map fun x=>(x.1,e x.2)).toList _ l _ hl hzv
              (by simp) (by simp only[List.map_map,Array.toList_map];exact VRs_map (fun x=>hv x.2) parts.toList)
            have hrun:(Instr.buildSlice t len (parts.map fun x=>(x.1,e x.2))).run P w=.ok (.slice (some ⟨w.heap.size,0,none⟩) len len) (w.alloc (.cells C el)):=by
              by_cases hp:len * i.size=0
              · have hC':Instr.fill (fun i_1=>some (i_1 * i.size,i.size)) (#[]:Array Value) (parts.map fun x=>(x.1,e x.2)).toList=some C:=by
                  have:madeCells z.cells (len * z.cells.size)=#[]:=by rw[hsz,hp];simp[madeCells]
                  rw[← this,← hlen];exact hC
                have hpe:(Array.range (len * i.size)).map ((#[]:Array Value)[· % (#[]:Array Value).size]!)=#[]:=by rw[hp];simp
                simp only[Instr.buildSlice,Sem.run_bind,run_underlying ht,Result.andThen_ok,sizeOf,typeInfo,run_program,hi,Sem.run_pure]
                have hng:¬len * i.size > 2 ^ 24:=by rw[hp];omega
                simp only[hng,if_false,Sem.run_pure,Result.andThen_ok,hp,if_true,Sem.run_ite,Sem.run_bind]
                simp only[hC',Array.range_zero',Array.map_empty]
                rfl
              · refine run_buildSlice w t el len _ C i z ht hi hz (by rw[← hlen];omega) hp ?_
                rw[hmade,← hsz];rw[hsz,← hlen];rw[hsz,← hlen] at hC;exact hC
            refine⟨.slice (some ⟨w.heap.size,0,none⟩) len len,.cells C el,0,C.size,w.alloc (.cells C el),run_v hrun,rfl,⟨rfl,rfl,rfl⟩,?_⟩
            intro id ρ' he hid
            refine⟨mkRow_rel0 ha (by rw[rowOf_toL];exact hr.ext he),?_⟩
            by_cases hz0:len=0
            · subst hz0;exact .slice0 _ _ _ _ _ (fun _=>rfl) (fun h=>absurd rfl h)
            · exact .slice id 0 len len 0 len _ hid (by omega) (Nat.le_refl _) (fun _=>rfl) (fun h=>absurd rfl h)
          · cases h
      · cases h
    · cases h
  · rename_i t l c ho
    rw[ho]
    split at h
    · rename_i el kl ln kc cn ht hl hc
      split at h
      · rename_i zl i hzl hi
        cases hb:(Nat.ble ln cn && Nat.ble (i.bytes * cn) 281474976710656 && Nat.ble cn 9223372036854775807) with
        | false=>rw[hb] at h;simp at h
        | true =>
          rw[hb] at h;simp only[cond_true,Option.map_eq_some_iff,Prod.mk.injEq] at h
          obtain⟨ao',ha,rfl,rfl⟩:=h
          simp only[Bool.and_eq_true,ble_iff] at hb
          obtain⟨i',z,hi',hz,hvz,hlen,hsz⟩:=zeroL_some hzl ρ
          rw[hi] at hi';cases hi'
          have hel:e l=.int kl (ln:Int):=by
            have:=hv l;rw[hl] at this;generalize e l=x at this ⊢;cases this;rfl
          have hec:e c=.int kc (cn:Int):=by
            have:=hv c;rw[hc] at this;generalize e c=x at this ⊢;cases this;rfl
          have hbytes:(i.bytes:Int) * (cn:Int)≤281474976710656:=by
            have h:((i.bytes * cn:Nat):Int)≤281474976710656:=by omega
            rwa[Int.natCast_mul] at h
          have hrun:=run_make (P:=P) w t el i z ht hi hz kl kc (ln:Int) (cn:Int) (by omega) (by omega) hbytes (by omega)
          simp only[Int.toNat_natCast] at hrun
          refine⟨.slice (some ⟨w.heap.size,0,none⟩) ln cn,.cells (madeCells z.cells (cn * i.size)) el,0,(madeCells z.cells (cn * i.size)).size,w.alloc (.cells (madeCells z.cells (cn * i.size)) el),run_v (by rw[hel,hec];exact hrun),rfl,⟨rfl,rfl,rfl⟩,?_⟩
          intro id ρ' he hid
          refine⟨mkRow_rel0 ha (by rw[zeroRow_toL,← hsz,madeCells_toList];exact(VRs_zeros hvz cn).ext he),?_⟩
          by_cases hz0:cn=0
          · subst hz0
            have:ln=0:=by omega
            subst this
            exact .slice0 _ _ _ _ _ (fun _=>rfl) (fun h=>absurd rfl h)
          · exact .slice id 0 ln cn 0 cn _ hid (by omega) hb.1.1 (fun _=>rfl) (fun h=>absurd rfl h)
      · cases h
    · cases h
  · rename_i t ho
    rw[ho]
    simp only[Option.some.injEq,Prod.mk.injEq] at h
    obtain⟨rfl,rfl⟩:=h
    refine⟨.map (some w.heap.size),.map #[] 0,0,0,w.alloc (.map #[] 0),run_v rfl,rfl,⟨rfl,rfl,rfl⟩,?_⟩
    intro id ρ' he hid
    exact⟨⟨#[],0,rfl,.nil,.nil,MapKept.stamped_empty 0⟩,.map id _ hid⟩
  · rename_i s d x ho
    rw[ho]
    split at h
    · rename_i el n b hs hd hx
      cases hu:isU8 P el with
      | false=>rw[hu] at h;simp at h
      | true =>
        rw[hu] at h;simp only[cond_true,Option.map_eq_some_iff,Prod.mk.injEq] at h
        obtain⟨ao',ha,rfl,rfl⟩:=h
        have hel:P.underlying el=some (.int .u8):=by
          unfold isU8 at hu;split at hu
          · assumption
          · simp at hu
        obtain⟨str,hes,hstr⟩:∃ str:ByteArray,e x=.string str∧str.data.toList.map UInt8.toNat=bytesL b n:=by
          have:=hv x;rw[hx] at this;generalize e x=y at this ⊢
          cases this with | str _ _ s hs=>exact⟨s,rfl,hs⟩
        have hn:str.size=n:=by
          have:=congrArg List.length hstr
          rw[List.length_map,bytesL_length] at this
          rw[← this,← ByteArray.size_data];simp
        generalize hcap:(Question.appendCap str.size 0 el).cut (w.tape w.drawn (.appendCap str.size 0 el))=cap
        have hcn:n≤cap:=by
          rw[← hcap,← hn];simp only[Question.cut];omega
        let C:Array Value:=(str.data.map fun c=>Value.int .u8 c.toNat)++Array.replicate (cap-str.size) (.int .u8 0)
        have hCs:C.size=cap:=by simp[C];omega
        refine⟨.slice (some ⟨w.heap.size,0,none⟩) n cap,.cells C el (cap,cap+1),0,cap,{ w with heap:=w.heap.push (.cells C el (cap,cap+1)),drawn:=w.drawn+1 },run_v ?_,rfl,⟨rfl,rfl,rfl⟩,?_⟩
        · rw[hes]
          simp only[convert,Sem.run_bind,run_underlying hs,run_underlying hd,run_underlying hel,Result.andThen_ok]
          simp only[Conv.stringToBytes,Sem.run_bind,run_choose,Question.forced,Bool.false_eq_true,if_false,Result.andThen_ok,newRow,run_newObj,Sem.run_pure,hcap,markStringish,run_shape,run_freeze]
          have hsh:World.shape? { w with heap:=w.heap.push (.cells C el),drawn:=w.drawn+1 } w.heap.size=some (el,cap):=by
            simp[World.shape?,hCs]
          simp only[C] at hsh
          simp only[hsh]
          simp only[run_freeze,Result.andThen_ok,hn]
          congr 1
          simp only[World.freeze]
          simp only[Nat.succ_ne_zero,if_false,World.mk.injEq,and_true,true_and]
          rw[modify_eq _ _ (.cells C el) _ (by simp[C,hn])]
          apply Array.ext_getElem?
          intro k
          rw[Array.getElem?_setIfInBounds,Array.getElem?_push,Array.getElem?_push]
          by_cases hk:w.heap.size=k
          · subst hk;simp[C]
          · simp[hk,Ne.symm hk]
        · intro id ρ' he hid
          have hCl:C.toList=bytesV b n++List.replicate (cap-n) (.int .u8 0):=by
            simp only[C,Array.toList_append,Array.toList_map,Array.toList_replicate,hn]
            congr 1
            have:(str.data.toList.map fun c=>Value.int .u8 (c.toNat:Int))=(str.data.toList.map UInt8.toNat).map fun(x:Nat)=>Value.int .u8 (x:Int):=by simp
            rw[this,hstr]
            rfl
          constructor
          · have:=mkRow_rel (ρ:=ρ') (b:=w.heap.size) (e:=el) (fz:=(cap,cap+1)) ha (vs:=bytesV b n) (rest:=List.replicate (cap-n) (.int .u8 0)) (VRs.bytes _ _ _) (by
              refine⟨Nat.le_succ _,?_⟩
              intro o ho
              simp only[bytesV_length,List.length_replicate] at ho
              have:¬cap≤o:=by omega
              simp[this]) (fun y hy=>by cases hy)
            rw[bytesV_length,List.length_replicate,show n+(cap-n)=cap by omega] at this
            have h2:C=(bytesV b n++List.replicate (cap-n) (Value.int .u8 0)).toArray:=by
              apply Array.ext';simpa using hCl
            rw[h2];exact this
          · by_cases hz0:n=0
            · subst hz0
              exact .slice0 _ _ _ _ _ (fun h=>absurd h (by simp)) (fun _=>⟨_,hid,rfl,rfl,Nat.zero_le _,by simp⟩)
            · exact .slice id 0 n n 1 cap _ hid (by omega) (Nat.le_refl _) (fun h=>absurd h (by simp)) (fun _=>⟨hcn,by simp⟩)
    · cases h
  · cases h
end
end Go.Ev
