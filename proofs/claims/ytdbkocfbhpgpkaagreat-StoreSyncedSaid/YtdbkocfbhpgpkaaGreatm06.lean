/-
  'opPure': every operation that only reckons; and that every run of it gives what it says.
-/
import Derived.Test.YtdbkocfbhpgpkaaGreatm05
import Derived.Laws.Tables
set_option linter.unusedVariables false
set_option linter.unusedSimpArgs false
namespace Go.Ev
open Go
noncomputable section
def AV.cellsA:AV→Option (List AV)
  | .agg l=>some l
  | .top | .tup _=>none
  | v=>some [v]
theorem cellsA_sound{ρ:Ren}{x:AV}{v:Value}{l:List AV}(h:x.cellsA=some l)(hv:VR ρ x v):VRs ρ l v.cells.toList:=by
  cases hv<;>simp only[AV.cellsA,Option.some.injEq,reduceCtorEq] at h<;>subst h<;>simp only[Value.cells]
  case agg _ a hl=>exact hl
  all_goals refine .cons ?_ .nil
  case bool=>exact .bool _
  case int=>exact .int _ _
  case str hs=>exact .str _ _ _ hs
  case pnil=>exact .pnil
  case ptr L hL=>exact .ptr _ _ L hL
  case snil=>exact .snil
  case slice L hL hp hl h0 h1=>exact .slice _ _ _ _ _ _ L hL hp hl h0 h1
  case slice0 h0 h1=>exact .slice0 _ _ _ _ _ h0 h1
  case mnil=>exact .mnil
  case map L hL=>exact .map _ L hL
  case func hf hc=>exact .func _ _ _ _ _ hf hc
  case fnil=>exact .fnil
  case yield L hL=>exact .yield _ L hL
  case iface hh=>exact .iface _ _ _ hh
  case inil=>exact .inil
def fillA(place:Nat→Option (Nat×Nat)):List AV→List (Nat×AV)→Option (List AV)
  | cells,[]=>some cells
  | cells, (i, v) :: rest =>
    match place i,v.cellsA with
    | some (off,size),some vc=>bif Nat.beq vc.length size && Nat.ble (off+vc.length) cells.length
        then fillA place (cells.take off++(vc++cells.drop (off+vc.length))) rest else none
    | _,_=>none
theorem foldl_put(off:Nat):∀ (l:List Value) (k:Nat) (C:Array Value),
    (l.zipIdx k).foldl (fun cs (x:Value×Nat)=>cs.setIfInBounds (off+x.2) x.1) C=putL C (off+k) l:=by
  intro l
  induction l with
  | nil=>intros;rfl
  | cons v l ih =>
    intro k C
    simp only[List.zipIdx_cons,List.foldl_cons,putL]
    rw[ih (k+1)]
    rfl
theorem putL_toList(C:Array Value)(off:Nat)(vs:List Value)(h:off+vs.length≤C.size) :
    (putL C off vs).toList=C.toList.take off++(vs++C.toList.drop (off+vs.length)):=by
  apply List.ext_getElem?
  intro k
  rw[Array.getElem?_toList,putL_get vs C off k h]
  have hlen:(C.toList.take off).length=off:=by simp;omega
  by_cases h1:k<off
  · rw[if_neg (by omega),List.getElem?_append_left (by omega),List.getElem?_take_of_lt h1,Array.getElem?_toList]
  · rw[List.getElem?_append_right (by omega),hlen]
    by_cases h2:k<off+vs.length
    · rw[if_pos (by omega),List.getElem?_append_left (by omega)]
    · rw[if_neg (by omega),List.getElem?_append_right (by omega),List.getElem?_drop,Array.getElem?_toList]
      congr 1;omega
theorem fill_sound{ρ:Ren}(place:Nat→Option (Nat×Nat)):∀ (parts:List (Nat×AV)) (parts':List (Nat×Value)) (l r:List AV) (C:Array Value),
    fillA place l parts=some r→VRs ρ l C.toList→parts.map (·.1)=parts'.map (·.1)→VRs ρ (parts.map (·.2)) (parts'.map (·.2)) →
    ∃ C',Instr.fill place C parts'=some C'∧VRs ρ r C'.toList:=by
  intro parts
  induction parts with
  | nil =>
    intro parts' l r C h hC h1 h2
    cases parts' with
    | nil=>simp only[fillA,Option.some.injEq] at h;subst h;exact⟨C,rfl,hC⟩
    | cons _ _=>simp at h1
  | cons p parts ih =>
    intro parts' l r C h hC h1 h2
    cases parts' with
    | nil=>simp at h1
    | cons p' parts' =>
      obtain⟨i,x⟩:=p
      obtain⟨i',v⟩:=p'
      simp only[List.map_cons,List.cons.injEq] at h1 h2
      obtain⟨rfl,h1⟩:=h1
      cases h2 with
      | cons hx h2=>
      unfold fillA at h
      split at h
      · rename_i off size vc hp hc
        cases hb:(Nat.beq vc.length size && Nat.ble (off+vc.length) l.length) with
        | false=>rw[hb] at h;simp at h
        | true =>
          rw[hb] at h;simp only[cond_true] at h
          simp only[Bool.and_eq_true,beq_iff,ble_iff] at hb
          have hvc:=cellsA_sound hc hx
          have hl1:=hvc.length
          have hl2:=hC.length
          simp only[Array.length_toList] at hl1 hl2
          have hfold:v.cells.zipIdx.foldl (fun cs (x:Value×Nat)=>cs.setIfInBounds (off+x.2) x.1) C=putL C off v.cells.toList:=by
            rw[← Array.foldl_toList,Array.toList_zipIdx,foldl_put];rfl
          have hput:VRs ρ (l.take off++(vc++l.drop (off+vc.length))) (putL C off v.cells.toList).toList:=by
            rw[putL_toList C off v.cells.toList (by simp;omega)]
            refine(hC.take off).append (hvc.append ?_)
            have:=hC.drop (off+vc.length)
            rwa[hl1] at this ⊢
          obtain⟨C',hC',hr⟩:=ih parts' _ r _ h hput h1 h2
          refine⟨C',?_,hr⟩
          unfold Instr.fill
          have hcond:¬((decide (v.cells.size≠size) || decide (off+v.cells.size > C.size))=true):=by simp;omega
          simp only[hp,hcond,if_false]
          rw[hfold];exact hC'
      · cases h
def builtA(P:Program)(t:TypeId)(parts:List (Nat×AV)):Option (List AV):=
  match P.info? t,P.underlying t with
  | some it, some (.array _ e) =>
    match it.zero,P.info? e with
    | some z, some ie => match (constA z).cellsA with
      | some zl=>fillA (fun i=>some (i * ie.size,ie.size)) zl parts
      | none=>none
    | _,_=>none
  | some it, some (.struct fields) =>
    match it.zero,fields.toList.mapM (fun f=>(P.info? f.type).map fun i=>(f.offset,i.size)) with
    | some z, some places => match (constA z).cellsA with
      | some zl=>fillA (places.toArray[·]?) zl parts
      | none=>none
    | _,_=>none
  | _,_=>none
theorem build_sound{P:Program}{ρ:Ren}{t:TypeId}{parts:List (Nat×AV)}{parts':Array (Nat×Value)}{r:List AV}(h:builtA P t parts=some r)
    (h1:parts.map (·.1)=parts'.toList.map (·.1)) (h2:VRs ρ (parts.map (·.2)) (parts'.toList.map (·.2))) (w:World) :
    ∃ C,(Instr.build t parts').run P w=.ok (.agg C) w∧VRs ρ r C.toList:=by
  have key:∃ C,P.built t parts'.toList=some C∧VRs ρ r C.toList:=by
    unfold builtA at h
    unfold Program.built
    split at h
    · rename_i it n e hit hu
      split at h
      · rename_i z ie hz hie
        split at h
        · rename_i zl hzl
          rw[hit,hu];simp only[hz,hie]
          exact fill_sound _ parts parts'.toList zl r z.cells h (cellsA_sound hzl (constA_VR ρ z)) h1 h2
        · cases h
      · cases h
    · rename_i it fields hit hu
      split at h
      · rename_i z places hz hpl
        split at h
        · rename_i zl hzl
          rw[hit,hu];simp only[hz,hpl]
          exact fill_sound _ parts parts'.toList zl r z.cells h (cellsA_sound hzl (constA_VR ρ z)) h1 h2
        · cases h
      · cases h
    · cases h
  obtain⟨C,hC,hr⟩:=key
  exact⟨C,run_build w t parts' C hC,hr⟩
def sliceAtA(P:Program)(t:TypeId)(x:AV)(lo hi mx:Option AV):Option AV:=
  match P.underlying t with
  | some (.array n e) => match szOf P e with
    | some es=>sliceArrA n es x lo hi mx
    | none=>none
  | some (.slice e) => match szOf P e with
    | some es=>sliceA es x lo hi mx
    | none=>none
  | some .string=>sliceStrA x lo hi mx
  | _=>none
theorem sliceAt_sound{P:Program}{ρ:Ren}{t:TypeId}{x r:AV}{v:Value}{lo hi mx:Option AV}{lo' hi' mx':Option Value}
    (h:sliceAtA P t x lo hi mx=some r) (hv:VR ρ x v) (hlo:VRo ρ lo lo') (hhi:VRo ρ hi hi') (hmx:VRo ρ mx mx') (w:World) :
    ∃ u,(Instr.sliceAt t v lo' hi' mx').run P w=.ok u w∧VR ρ r u:=by
  unfold sliceAtA at h
  split at h
  · rename_i n e ht
    split at h
    · rename_i es hs;exact sliceArr_sound ht hs h hv hlo hhi hmx w
    · cases h
  · rename_i e ht
    split at h
    · rename_i es hs
      obtain⟨u,h1,h2⟩:=slice_sound ht hs h hv hlo hhi hmx w
      exact⟨u,by simp only[Instr.sliceAt,Sem.run_bind,run_underlying ht,Result.andThen_ok];exact h1,h2⟩
    · cases h
  · rename_i ht
    obtain⟨u,h1,h2⟩:=sliceStr_sound ht h hv hlo hhi hmx w
    exact⟨u,by simp only[Instr.sliceAt,Sem.run_bind,run_underlying ht,Result.andThen_ok];exact h1,h2⟩
  · cases h
def fieldOff(P:Program)(s:TypeId)(f:Nat):Option Nat:=
  match P.underlying s with
  | some (.struct fields) => match fields[f]? with
    | some fd => match szOf P fd.type with
      | some (_+1)=>some fd.offset
      | _=>none
    | none=>none
  | _=>none
theorem fieldAt_sound{P:Program}{ρ:Ren}{s:TypeId}{f off:Nat}{i o:Nat}{v:Value}(h:fieldOff P s f=some off)(hv:VR ρ (.ptr i o) v)(w:World) :
    ∃ u,(Instr.fieldAt s v f).run P w=.ok u w∧VR ρ (.ptr i (o+off)) u:=by
  unfold fieldOff at h
  split at h
  · rename_i fields ht
    split at h
    · rename_i fd hf
      split at h
      · rename_i n hs
        simp only[Option.some.injEq] at h;subst h
        cases hv with | ptr _ _ L hL=>
        refine⟨.pointer (some (L.at (o+fd.offset))),?_,.ptr _ _ L hL⟩
        simp only[Instr.fieldAt,Sem.run_bind,run_underlying ht,Result.andThen_ok,hf,Instr.sureAddr,Sem.run_pure,fieldPlace,run_szOf hs]
        simp[L.at_add]
      · cases h
    · cases h
  · cases h
def fieldA(P:Program)(t:TypeId)(x:AV)(f:Nat):Option AV:=
  match P.underlying t,x with
  | some (.struct fields), .agg l => match fields[f]? with
    | some fd=>partA P fd.type l fd.offset
    | none=>none
  | _,_=>none
theorem field_sound{P:Program}{ρ:Ren}{t:TypeId}{x r:AV}{f:Nat}{v:Value}(h:fieldA P t x f=some r)(hv:VR ρ x v)(w:World) :
    ∃ u,(Instr.field t v f).run P w=.ok u w∧VR ρ r u:=by
  unfold fieldA at h
  split at h
  · rename_i fields l ht
    cases hv with | agg _ a ha=>
    split at h
    · rename_i fd hf
      obtain⟨u,h1,h2⟩:=part_sound h ha w
      exact⟨u,by simp only[Instr.field,Sem.run_bind,run_underlying ht,Result.andThen_ok,hf,asAgg,Sem.run_pure,h1],h2⟩
    · cases h
  · cases h
def indexAtA(P:Program)(t:TypeId)(x ix:AV):Option AV:=
  match P.underlying t,x,ix with
  | some (.array n e), .ptr i o, .int _ (.ofNat k) => match szOf P e with
    | some es=>bif Nat.blt k n then some (.ptr i (o+k * es)) else none
    | none=>none
  | some (.slice e), .slice i o len _ _, .int _ (.ofNat k) => match szOf P e with
    | some es=>bif Nat.blt k len then some (.ptr i (o+k * es)) else none
    | none=>none
  | _,_,_=>none
theorem indexAt_sound{P:Program}{ρ:Ren}{t:TypeId}{x ix r:AV}{v vi:Value}(h:indexAtA P t x ix=some r)(hv:VR ρ x v)(hi:VR ρ ix vi)(w:World) :
    ∃ u,(Instr.indexAt t v vi).run P w=.ok u w∧VR ρ r u:=by
  unfold indexAtA at h
  split at h
  · rename_i n e i o kd k ht
    split at h
    · rename_i es hs
      cases hb:Nat.blt k n with
      | false=>rw[hb] at h;simp at h
      | true =>
        rw[hb] at h;simp only[cond_true,Option.some.injEq] at h;subst h
        have hlt:=blt_iff.1 hb
        cases hv with | ptr _ _ L hL=>
        cases hi
        refine⟨.pointer (some (L.at (o+k * es))),?_,.ptr _ _ L hL⟩
        have hc:(0:Int)≤Int.ofNat k∧Int.ofNat k<(n:Int):=by simp only[Int.ofNat_eq_natCast];omega
        simp only[Instr.indexAt,asIntOf,Sem.run_bind,Sem.run_pure,run_underlying ht,Result.andThen_ok,Instr.sureAddr,hc,and_self,if_true,run_szOf hs]
        simp[L.at_add]
    · cases h
  · rename_i e i o len cap op kd k ht
    split at h
    · rename_i es hs
      cases hb:Nat.blt k len with
      | false=>rw[hb] at h;simp at h
      | true =>
        rw[hb] at h;simp only[cond_true,Option.some.injEq] at h;subst h
        have hlt:=blt_iff.1 hb
        cases hi
        cases hv with
        | slice _ _ _ _ _ cap' L hL hp hl h0 h1 =>
          refine⟨.pointer (some (L.at (o+k * es))),?_,.ptr _ _ L hL⟩
          have hc:(0:Int)≤Int.ofNat k∧Int.ofNat k<(len:Int):=by simp only[Int.ofNat_eq_natCast];omega
          simp only[Instr.indexAt,asIntOf,Sem.run_bind,Sem.run_pure,run_underlying ht,Result.andThen_ok,hc,and_self,if_true,run_szOf hs]
          simp[L.at_add]
        | slice0=>omega
    · cases h
  · cases h
def indexA(P:Program)(t:TypeId)(x ix:AV):Option AV:=
  match P.underlying t,x,ix with
  | some (.array n e), .agg l, .int _ (.ofNat k) => match szOf P e with
    | some es=>bif Nat.blt k n then partA P e l (k * es) else none
    | none=>none
  | some .string,.str n b,.int _ (.ofNat k)=>bif Nat.blt k n then some (.int .u8 ((byte b k:Nat):Int)) else none
  | _,_,_=>none
theorem index_sound{P:Program}{ρ:Ren}{t:TypeId}{x ix r:AV}{v vi:Value}(h:indexA P t x ix=some r)(hv:VR ρ x v)(hi:VR ρ ix vi)(w:World) :
    ∃ u,(Instr.index t v vi).run P w=.ok u w∧VR ρ r u:=by
  unfold indexA at h
  split at h
  · rename_i n e l kd k ht
    split at h
    · rename_i es hs
      cases hb:Nat.blt k n with
      | false=>rw[hb] at h;simp at h
      | true =>
        rw[hb] at h;simp only[cond_true] at h
        have hlt:=blt_iff.1 hb
        cases hv with | agg _ a ha=>
        cases hi
        obtain⟨u,h1,h2⟩:=part_sound h ha w
        have hc:(0:Int)≤Int.ofNat k∧Int.ofNat k<(n:Int):=by simp only[Int.ofNat_eq_natCast];omega
        refine⟨u,?_,h2⟩
        simp only[Instr.index,asIntOf,Sem.run_bind,Sem.run_pure,run_underlying ht,Result.andThen_ok,hc,and_self,if_true,run_szOf hs,Sem.run_ite]
        simpa using h1
    · cases h
  · rename_i n b kd k ht
    cases hb:Nat.blt k n with
    | false=>rw[hb] at h;simp at h
    | true =>
      rw[hb] at h;simp only[cond_true,Option.some.injEq] at h;subst h
      have hlt:=blt_iff.1 hb
      cases hi
      cases hv with | str _ _ s hs=>
      have hg:(s.data.toList.map UInt8.toNat)[k]? = some (byte b k):=by rw[hs];exact bytesL_get n b k hlt
      rw[List.getElem?_map,Option.map_eq_some_iff] at hg
      obtain⟨c,hc1,hc2⟩:=hg
      have hsk:s[k]? = some c:=by
        rw[Array.getElem?_toList] at hc1
        exact hc1
      refine⟨.int .u8 c.toNat,?_,by rw[hc2];exact .int _ _⟩
      have h0:(0:Int)≤Int.ofNat k:=by simp only[Int.ofNat_eq_natCast];omega
      simp only[Instr.index,asIntOf,Sem.run_bind,Sem.run_pure,run_underlying ht,Result.andThen_ok,h0,if_true]
      rw[show(Int.ofNat k).toNat=k from rfl,hsk]
      rfl
  · cases h
def lenA (P:Program)(t:TypeId)(x:AV):Option AV:=
  match P.underlying t,x with
  | some .string,.str n _=>some (.int .i64 (.ofNat n))
  | some (.array n _),_=>some (.int .i64 (.ofNat n))
  | some (.slice _),.snil=>some (.int .i64 (.ofNat 0))
  | some (.slice _),.slice _ _ n _ _=>some (.int .i64 (.ofNat n))
  | _,_=>none
theorem len_sound{P:Program}{ρ:Ren}{ts:Array TypeId}{ty t:TypeId}{vs:Array Value}{x r:AV}{v:Value}(h:lenA P t x=some r)(hts:ts[0]? = some t)(hvs:vs[0]? = some v)(hv:VR ρ x v)(w:World) :
    ∃ u,(Builtin.len_ ts ty vs).run P w=.ok u w∧VR ρ r u:=by
  unfold lenA at h
  split at h
  · rename_i n b ht
    cases hv with | str _ _ s hs=>
    simp only[Option.some.injEq] at h;subst h
    have hn:s.size=n:=by
      have:=congrArg List.length hs
      rw[List.length_map,bytesL_length] at this
      rw[← this,← ByteArray.size_data];simp
    refine⟨.int .i64 n,?_,.int _ _⟩
    simp only[Builtin.len_,hts,hvs,Sem.run_bind,run_underlying ht,Result.andThen_ok,hn];rfl
  · rename_i n e ht
    simp only[Option.some.injEq] at h;subst h
    refine⟨.int .i64 n,?_,.int _ _⟩
    simp only[Builtin.len_,hts,hvs,Sem.run_bind,run_underlying ht,Result.andThen_ok]
    cases v<;>rfl
  · rename_i e ht
    cases hv
    simp only[Option.some.injEq] at h;subst h
    refine⟨.int .i64 0,?_,.int _ _⟩
    simp only[Builtin.len_,hts,hvs,Sem.run_bind,run_underlying ht,Result.andThen_ok];rfl
  · rename_i e i o n cap op ht
    simp only[Option.some.injEq] at h;subst h
    refine⟨.int .i64 n,?_,.int _ _⟩
    cases hv<;>(simp only[Builtin.len_,hts,hvs,Sem.run_bind,run_underlying ht,Result.andThen_ok];rfl)
  · cases h
def capA (P:Program)(t:TypeId)(x:AV):Option AV:=
  match P.underlying t,x with
  | some (.slice _),.snil=>some (.int .i64 (.ofNat 0))
  | some (.slice _),.slice _ _ _ n 0=>some (.int .i64 (.ofNat n))
  | _,_=>none
theorem cap_sound{P:Program}{ρ:Ren}{ts:Array TypeId}{ty t:TypeId}{vs:Array Value}{x r:AV}{v:Value}(h:capA P t x=some r)(hts:ts[0]? = some t)(hvs:vs[0]? = some v)(hv:VR ρ x v)(w:World) :
    ∃ u,(Builtin.cap_ ts ty vs).run P w=.ok u w∧VR ρ r u:=by
  unfold capA at h
  split at h
  · rename_i e ht
    cases hv
    simp only[Option.some.injEq] at h;subst h
    refine⟨.int .i64 0,?_,.int _ _⟩
    simp only[Builtin.cap_,hts,hvs,Sem.run_bind,run_underlying ht,Result.andThen_ok];rfl
  · rename_i e i o len n ht
    simp only[Option.some.injEq] at h;subst h
    refine⟨.int .i64 n,?_,.int _ _⟩
    cases hv with
    | slice _ _ _ _ _ cap' L hL hp hl h0 h1 =>
      rw[h0 rfl] at hvs
      simp only[Builtin.cap_,hts,hvs,Sem.run_bind,run_underlying ht,Result.andThen_ok];rfl
    | slice0 _ _ _ cap' a h0 h1 =>
      rw[h0 rfl] at hvs
      simp only[Builtin.cap_,hts,hvs,Sem.run_bind,run_underlying ht,Result.andThen_ok];rfl
  · cases h
def minA (isMin:Bool):List AV→Option AV
  | [.int k x,.int _ y]=>some (.int k (bif isMin then(bif ltA y x then y else x) else(bif ltA x y then y else x)))
  | _=>none
end
end Go.Ev
namespace Go.Ev
open Go
noncomputable section
def opPure(P:Program)(o:Op)(v:Operand→AV):Option AV:=
  match o with
  | .move x=>some (v x)
  | .assign x=>some (v x)
  | .pick c a b => match v c with
    | .bool true=>some (v a)
    | .bool false=>some (v b)
    | _=>none
  | .build t parts=>(builtA P t (parts.toList.map fun x=>(x.1,v x.2))).map .agg
  | .binOp op t x y _=>binA P op t x y (v x) (v y)
  | .unOp op _ x=>unA op (v x)
  | .convert s d x=>convA P s d (v x)
  | .slice t x lo hi mx=>sliceAtA P t (v x) (lo.map v) (hi.map v) (mx.map v)
  | .fieldAddr s x f => match v x with
    | .ptr i o=>(fieldOff P s f).map fun off=>.ptr i (o+off)
    | _=>none
  | .field t x f=>fieldA P t (v x) f
  | .indexAddr t x i=>indexAtA P t (v x) (v i)
  | .index t x i=>indexA P t (v x) (v i)
  | .extract x i => match v x with
    | .tup l=>l[i]?
    | _=>none
  | .makeFunc fn first captured=>some (.func fn (first.toList.map v) (captured.toList.map v))
  | .makeInterface t x=>bif P.concrete t then some (.iface t (v x)) else none
  | .nilCheck x => match v x with
    | .ptr i o=>some (.ptr i o)
    | .func (.func f) a b=>some (.func (.func f) a b)
    | _=>none
  | .sliceToArrayPointer t x => match P.underlying t, v x with
    | some (.array n _),.slice i off len _ _=>bif Nat.blt 0 n && Nat.ble n len then some (.ptr i off) else none
    | _,_=>none
  | .call ⟨.builtin .len, args, ts⟩ => match ts[0]?, args[0]? with
    | some t,some x=>lenA P t (v x)
    | _,_=>none
  | .call ⟨.builtin .cap, args, ts⟩ => match ts[0]?, args[0]? with
    | some t,some x=>capA P t (v x)
    | _,_=>none
  | .call ⟨.builtin .min,args,_⟩=>minA true (args.toList.map v)
  | .call ⟨.builtin .max,args,_⟩=>minA false (args.toList.map v)
  | _=>none
theorem run_v{P:Program}{s:Sem Value}{w w':World}{z:Value}(h:s.run P w=.ok z w'):(do pure (Next.value (← s)):Sem Next).run P w=.ok (.value z) w':=by
  simp[h]
theorem VRs_map{α:Type}{ρ:Ren}{v:α→AV}{e:α→Value}(h:∀ x,VR ρ (v x) (e x)):∀ l:List α,VRs ρ (l.map v) (l.map e)
  | []=>.nil
  | x::l=>.cons (h x) (VRs_map h l)
theorem VRo_map{ρ:Ren}{v:Operand→AV}{e:Operand→Value}(h:∀ x,VR ρ (v x) (e x)):∀ x:Option Operand,VRo ρ (x.map v) (x.map e)
  | none=>.none
  | some x=>.some (h x)
theorem min_sound{P:Program}{ρ:Ren}{b:Bool}{l:List AV}{r:AV}{vs:Array Value}(h:minA b l=some r)(hv:VRs ρ l vs.toList)(ts:Array TypeId)(ty:TypeId)(w:World) :
    ∃ u,((if b then Builtin.min_ ts ty vs else Builtin.max_ ts ty vs:Sem Value)).run P w=.ok u w∧VR ρ r u:=by
  unfold minA at h
  split at h
  · rename_i k x k' y
    simp only[Option.some.injEq] at h;subst h
    obtain⟨l⟩:=vs
    cases hv with | cons h1 hv=>
    cases hv with | cons h2 hv=>
    cases hv
    cases h1;cases h2
    cases b with
    | true =>
      refine⟨.int k (if y<x then y else x),?_,?_⟩
      · simp[Builtin.min_,Builtin.min2]
      · simp only[cond_true]
        rw[ltA_eq]
        by_cases hlt:y<x<;>simp[hlt]<;>exact .int _ _
    | false =>
      refine⟨.int k (if y > x then y else x),?_,?_⟩
      · simp[Builtin.max_,Builtin.max2]
      · simp only[cond_false]
        rw[ltA_eq]
        by_cases hlt:x<y<;>simp[hlt]<;>exact .int _ _
  · cases h
theorem opPure_sound{P:Program}{ρ:Ren}{o:Oper}{v:Operand→AV}{e:Operand→Value}{r:AV}(h:opPure P o.op v=some r)(hv:∀ x,VR ρ (v x) (e x))(w:World) :
    ∃ z,(execOp e o).run P w=.ok (.value z) w∧VR ρ r z:=by
  unfold execOp
  unfold opPure at h
  split at h
  · rename_i x ho;rw[ho];cases h;exact⟨_,rfl,hv x⟩
  · rename_i x ho;rw[ho];cases h;exact⟨_,rfl,hv x⟩
  · rename_i c a b ho
    rw[ho]
    have hc:=hv c
    split at h
    · rename_i hcv;rw[hcv] at hc;cases h
      have hce:e c=.bool true:=by generalize e c=ec at hc;cases hc;rfl
      exact⟨e a,by show(do let q ← asBool (e c);pure (Next.value (if q then e a else e b)):Sem Next).run P w=_;rw[hce];rfl,hv a⟩
    · rename_i hcv;rw[hcv] at hc;cases h
      have hce:e c=.bool false:=by generalize e c=ec at hc;cases hc;rfl
      exact⟨e b,by show(do let q ← asBool (e c);pure (Next.value (if q then e a else e b)):Sem Next).run P w=_;rw[hce];rfl,hv b⟩
    · cases h
  · rename_i t parts ho
    rw[ho]
    simp only[Option.map_eq_some_iff] at h
    obtain⟨l,hl,rfl⟩:=h
    obtain⟨C,h1,h2⟩:=build_sound (ρ:=ρ) (parts':=parts.map fun x=>(x.1,e x.2)) hl (by simp) (by
      simp only[List.map_map,Array.toList_map]
      exact VRs_map (fun x=>hv x.2) parts.toList) w
    exact⟨.agg C,run_v h1,.agg _ _ h2⟩
  · rename_i op t x y ty ho
    rw[ho]
    obtain⟨z,h1,h2⟩:=binA_sound h (hv x) (hv y) w
    exact⟨z,run_v h1,h2⟩
  · rename_i op ty x ho
    rw[ho]
    obtain⟨z,h1,h2⟩:=unA_sound (P:=P) h (hv x) w
    exact⟨z,run_v h1,h2⟩
  · rename_i s d x ho
    rw[ho]
    obtain⟨z,h1,h2⟩:=convA_sound h (hv x) w
    exact⟨z,run_v h1,h2⟩
  · rename_i t x lo hi mx ho
    rw[ho]
    obtain⟨z,h1,h2⟩:=sliceAt_sound h (hv x) (VRo_map hv lo) (VRo_map hv hi) (VRo_map hv mx) w
    exact⟨z,run_v h1,h2⟩
  · rename_i s x f ho
    rw[ho]
    split at h
    · rename_i i o' hx
      simp only[Option.map_eq_some_iff] at h
      obtain⟨off,hoff,rfl⟩:=h
      have hx':=hv x
      rw[hx] at hx'
      obtain⟨z,h1,h2⟩:=fieldAt_sound hoff hx' w
      exact⟨z,run_v h1,h2⟩
    · cases h
  · rename_i t x f ho
    rw[ho]
    obtain⟨z,h1,h2⟩:=field_sound h (hv x) w
    exact⟨z,run_v h1,h2⟩
  · rename_i t x i ho
    rw[ho]
    obtain⟨z,h1,h2⟩:=indexAt_sound h (hv x) (hv i) w
    exact⟨z,run_v h1,h2⟩
  · rename_i t x i ho
    rw[ho]
    obtain⟨z,h1,h2⟩:=index_sound h (hv x) (hv i) w
    exact⟨z,run_v h1,h2⟩
  · rename_i x i ho
    rw[ho]
    split at h
    · rename_i l hx
      have hx':=hv x
      rw[hx] at hx'
      obtain⟨a,hea,ha⟩:∃ a:Array Value,e x=.tuple a∧VRs ρ l a.toList:=by
        generalize e x=ex at hx'
        cases hx' with | tup _ a ha=>exact⟨a,rfl,ha⟩
      obtain⟨u,h1,h2⟩:=ha.get i r h
      have:a[i]? = some u:=by simpa using h1
      exact⟨u,run_v (by rw[hea];simp[Instr.extract,this]),h2⟩
    · cases h
  · rename_i fn first captured ho
    rw[ho]
    simp only[Option.some.injEq] at h;subst h
    refine⟨.func fn (first.map e) (captured.map e),rfl,.func _ _ _ _ _ ?_ ?_⟩
    · rw[Array.toList_map];exact VRs_map hv _
    · rw[Array.toList_map];exact VRs_map hv _
  · rename_i t x ho
    rw[ho]
    cases hc:P.concrete t with
    | false=>rw[hc] at h;simp at h
    | true =>
      rw[hc] at h;simp only[cond_true,Option.some.injEq] at h;subst h
      exact⟨_,run_v (run_makeInterface w t (e x) hc),.iface _ _ _ (hv x)⟩
  · rename_i x ho
    rw[ho]
    have hx':=hv x
    split at h
    · rename_i i o' hx
      rw[hx] at hx'
      simp only[Option.some.injEq] at h;subst h
      obtain⟨L,hea,hL⟩:∃ L:Loc,e x=.pointer (some (L.at o'))∧ρ i=some L:=by
        generalize e x=ex at hx'
        cases hx' with | ptr _ _ L hL=>exact⟨L,rfl,hL⟩
      exact⟨.pointer (some (L.at o')),by simp only[hea];rfl,.ptr _ _ L hL⟩
    · rename_i f a b hx
      rw[hx] at hx'
      simp only[Option.some.injEq] at h;subst h
      obtain⟨f',c',hea,hf,hc⟩:∃ f' c':Array Value,e x=.func (.func f) f' c'∧VRs ρ a f'.toList∧VRs ρ b c'.toList:=by
        generalize e x=ex at hx'
        cases hx' with | func _ _ _ f' c' hf hc=>exact⟨f',c',rfl,hf,hc⟩
      exact⟨.func (.func f) f' c',by simp only[hea];rfl,.func _ _ _ _ _ hf hc⟩
    · cases h
  · rename_i t x ho
    rw[ho]
    have hx':=hv x
    split at h
    · rename_i n el i off len cap es ht hx
      rw[hx] at hx'
      obtain⟨hb,h⟩:=bif_some h
      simp only[Bool.and_eq_true,blt_iff,ble_iff] at hb
      simp only[Option.some.injEq] at h;subst h
      obtain⟨L,c,hea,hL⟩:∃ (L:Loc) (c:Nat),e x=.slice (some (L.at off)) len c∧ρ i=some L:=by
        generalize e x=ex at hx'
        cases hx' with
        | slice _ _ _ _ _ cap' L hL=>exact⟨L,cap',rfl,hL⟩
        | slice0=>omega
      refine⟨.pointer (some (L.at off)),run_v ?_,.ptr _ _ L hL⟩
      rw[hea]
      simp[Instr.arrayAt,run_underlying ht,Nat.not_lt.2 hb.2]
    · cases h
  · rename_i args ts ho
    rw[ho]
    split at h
    · rename_i t x ht hx
      have hvs:(args.map e)[0]? = some (e x):=by simp[hx]
      obtain⟨z,h1,h2⟩:=len_sound (ty:=o.type) h ht hvs (hv x) w
      exact⟨z,run_v h1,h2⟩
    · cases h
  · rename_i args ts ho
    rw[ho]
    split at h
    · rename_i t x ht hx
      have hvs:(args.map e)[0]? = some (e x):=by simp[hx]
      obtain⟨z,h1,h2⟩:=cap_sound (ty:=o.type) h ht hvs (hv x) w
      exact⟨z,run_v h1,h2⟩
    · cases h
  · rename_i args ts ho
    rw[ho]
    obtain⟨z,h1,h2⟩:=min_sound (P:=P) (ρ:=ρ) (vs:=args.map e) h (by rw[Array.toList_map];exact VRs_map hv _) ts o.type w
    exact⟨z,run_v h1,h2⟩
  · rename_i args ts ho
    rw[ho]
    obtain⟨z,h1,h2⟩:=min_sound (P:=P) (ρ:=ρ) (vs:=args.map e) h (by rw[Array.toList_map];exact VRs_map hv _) ts o.type w
    exact⟨z,run_v h1,h2⟩
  · cases h
end
end Go.Ev
