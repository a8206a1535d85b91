/-
  snapshot.Table: what it is in memory; what a number is; who is open; conflicts.
-/
import Derived.Test.YtdbkocfbhpgpkaaGreatm09
import Derived.MapKept
import Derived.Test.YtdbkocfbhpgpkaaGreatm10
import Derived.Deep.QuietTactic
import Derived.BigQuiet
import Derived.StillTailTactics
import Derived.Lib.LazyBuf
import Derived.Deep.RegionHeld3
set_option linter.unusedVariables false
set_option linter.unusedSimpArgs false
namespace Go.Proofs.YtdbkocfbhpgpkaaGreat
open Go Go.RowKit
set_option maxRecDepth 100000
set_option maxHeartbeats 1600000
def MapI (w:World)(b:Nat)(m:List (Int×Value)):Prop:=
  ∃ E c,w.heap[b]? = some (.map E c)∧E.toList.map (fun e=>(e.key,e.val))=(m.map fun p=>(Value.int .i64 p.1,p.2))∧MapKept.Stamped E c
def mset (m:List (Int×Value))(k:Int)(v:Value):List (Int×Value):=
  match m with
  | []=>[(k,v)]
  | p::m=>if k=p.1 then(p.1,v)::m else p::mset m k v
def mdel (m:List (Int×Value))(k:Int):List (Int×Value):=
  match m with
  | []=>[]
  | p::m=>if k=p.1 then m else p::mdel m k
theorem MapI.lt{w:World}{b:Nat}{m:List (Int×Value)}(h:MapI w b m):b<w.heap.size:=by
  obtain⟨E,c,h,-⟩:=h
  exact(Array.getElem?_eq_some_iff.1 h).1
theorem MapI.keep{w w':World}{b:Nat}{m:List (Int×Value)}(h:MapI w b m)(hb:w'.heap[b]? = w.heap[b]?):MapI w' b m:=by
  obtain⟨E,c,h1,h2⟩:=h
  exact⟨E,c,hb.trans h1,h2⟩
def mfind(m:List (Int×Value))(k:Int)(i:Nat):Option (Nat×Value):=
  match m with
  | []=>none
  | p::m=>if k=p.1 then some (i,p.2) else mfind m k (i+1)
theorem mfind_lookup:∀ (m:List (Int×Value)) (k:Int) (i:Nat),(mfind m k i).map (·.2)=m.lookup k
  | [],_,_=>rfl
  | p :: m, k, i => by
    unfold mfind
    by_cases h:k=p.1
    · subst h;simp[List.lookup]
    · have hb:(k==p.1)=false:=by simpa using h
      rw[if_neg h,mfind_lookup m k (i+1)]
      simp[List.lookup,hb]
theorem findNow_int(k:Int):∀ (E:List MapEntry) (m:List (Int×Value)) (i:Nat),E.map (fun e=>(e.key,e.val))=m.map (fun p=>(Value.int .i64 p.1,p.2))→Instr.findNow (.int .i64) (.int .i64 k) E i=some (mfind m k i)
  | [],[],_,_=>rfl
  | e :: E, p :: m, i, h => by
    simp only[List.map_cons,List.cons.injEq,Prod.mk.injEq] at h
    unfold Instr.findNow mfind
    rw[h.1.1,h.1.2]
    by_cases hk:k=p.1
    · simp[Instr.sameNow,hk]
    · simp only[Instr.sameNow,if_pos,hk,if_false]
      have:(k==p.1)=false:=by simpa using hk
      rw[this]
      exact findNow_int k E m (i+1) h.2
  | [],_::_,_,h=>by simp at h
  | _::_,[],_,h=>by simp at h
theorem getM{P:Program}{w:World}{b:Nat}{E:Array MapEntry}{c:Nat}(h:w.heap[b]? = some (.map E c)):(getObj b).run P w=.ok (.map E c) w:=by
  simp[getObj,Sem.run,h]
theorem setM{P:Program}{w:World}{b:Nat}{E:Array MapEntry}{c:Nat}{ob':Obj}(h:w.heap[b]? = some (.map E c)):(setObj b ob').run P w=.ok () { w with heap:=w.heap.setIfInBounds b ob' }:=by
  simp[setObj,Sem.run,h]
theorem mset_none:∀ (m:List (Int×Value)) (k:Int) (v:Value) (i:Nat),mfind m k i=none→mset m k v=m++[(k,v)]
  | [],_,_,_,_=>rfl
  | p :: m, k, v, i, h => by
    unfold mfind at h
    unfold mset
    split at h
    · cases h
    · rename_i hp
      rw[if_neg hp,mset_none m k v (i+1) h]
      rfl
theorem mfind_mem:∀ (m:List (Int×Value)) (k:Int) (i:Nat),mfind m k i=none→∀ p∈m,p.1≠k
  | [],_,_,_,_,hp=>by simp at hp
  | q :: m, k, i, h, p, hp => by
    unfold mfind at h
    split at h
    · cases h
    · rename_i hq
      rcases List.mem_cons.1 hp with rfl|hp
      · exact fun e=>hq e.symm
      · exact mfind_mem m k (i+1) h p hp
theorem mset_some:∀ (m:List (Int×Value)) (k:Int) (v:Value) (i j:Nat) (u:Value),mfind m k i=some (j,u)→i≤j∧mset m k v=m.set (j-i) (k,v)∧(m[j-i]?).map (·.1)=some k
  | [],_,_,_,_,_,h=>by simp[mfind] at h
  | p :: m, k, v, i, j, u, h => by
    unfold mfind at h
    unfold mset
    split at h
    · rename_i hp
      cases h
      rw[if_pos hp,hp]
      simp
    · rename_i hp
      obtain⟨a,b,c⟩:=mset_some m k v (i+1) j u h
      have e:j-i=j-(i+1)+1:=by omega
      refine⟨by omega,?_,?_⟩
      · rw[if_neg hp,b,e];rfl
      · rw[e];simpa using c
section
variable {P:Program}{t kt et:TypeId}(ht:P.underlying t=some (.map kt et))(hk:P.underlying kt=some (.int .i64))
include ht hk
theorem run_lookup_int{w:World}{b:Nat}{m:List (Int×Value)}(h:MapI w b m)(k:Int){z:Value}(hz:(zeroValue et).run P w=.ok z w) :
    (Instr.lookup t (.map (some b)) (.int .i64 k) false).run P w=.ok ((m.lookup k).getD z) w:=by
  obtain⟨E,c,h1,h2,hst⟩:=h
  have hf:=findNow_int k E.toList m 0 h2
  rw[← mfind_lookup m k 0]
  unfold Instr.lookup
  simp only[Sem.run_bind,run_underlying ht,Result.andThen_ok,getM h1,Sem.run_pure,Go.Ev.run_checkKey_int hk]
  rw[Go.Ev.run_findKey_int hk hf]
  cases hm:mfind m k 0 with
  | none=>simp[hz]
  | some r=>simp
theorem run_lookup_int_ok{w:World}{b:Nat}{m:List (Int×Value)}(h:MapI w b m)(k:Int){z:Value}(hz:(zeroValue et).run P w=.ok z w) :
    (Instr.lookup t (.map (some b)) (.int .i64 k) true).run P w=.ok (.tuple #[(m.lookup k).getD z,.bool (m.lookup k).isSome]) w:=by
  obtain⟨E,c,h1,h2,hst⟩:=h
  have hf:=findNow_int k E.toList m 0 h2
  rw[← mfind_lookup m k 0]
  unfold Instr.lookup
  simp only[Sem.run_bind,run_underlying ht,Result.andThen_ok,getM h1,Sem.run_pure,Go.Ev.run_checkKey_int hk]
  rw[Go.Ev.run_findKey_int hk hf]
  cases hm:mfind m k 0 with
  | none=>simp[hz]
  | some r=>simp
theorem run_update_int{w:World}{b:Nat}{m:List (Int×Value)}(h:MapI w b m)(k:Int)(v:Value) :
    ∃ w',(Instr.mapUpdate t (.map (some b)) (.int .i64 k) v).run P w=.ok () w'∧MapI w' b (mset m k v)∧(∀ j,j≠b→w'.heap[j]? = w.heap[j]?)∧w'.heap.size=w.heap.size∧w'.os=w.os∧w'.tape=w.tape∧w'.output=w.output:=by
  obtain⟨E,c,h1,h2,hst⟩:=h
  have hlt:b<w.heap.size:=(Array.getElem?_eq_some_iff.1 h1).1
  have hf:=findNow_int k E.toList m 0 h2
  have hset:∀ o:Obj,({ w with heap:=w.heap.setIfInBounds b o }:World).heap[b]? = some o:=fun o=>by simp[hlt]
  have hoth:∀ (o:Obj) (j:Nat),j≠b→({ w with heap:=w.heap.setIfInBounds b o }:World).heap[j]? = w.heap[j]?:=fun o j hj=>by
    show(w.heap.setIfInBounds b o)[j]? = _
    rw[Array.getElem?_setIfInBounds_ne (Ne.symm hj)]
  have hsz:∀ o:Obj,({ w with heap:=w.heap.setIfInBounds b o }:World).heap.size=w.heap.size:=fun o=>by simp
  have h1':E.toList.map (·.key)=m.map fun p=>Value.int .i64 p.1:=by
    have:=congrArg (List.map Prod.fst) h2
    simpa only[List.map_map,Function.comp_def] using this
  have h2':E.toList.map (·.val)=m.map fun p=>p.2:=by
    have:=congrArg (List.map Prod.snd) h2
    simpa only[List.map_map,Function.comp_def] using this
  cases hm:mfind m k 0 with
  | none =>
    rw[hm] at hf
    refine⟨{ w with heap:=w.heap.setIfInBounds b (.map (E.push { key:=.int .i64 k,val:=v,born:=c }) (c+1)) },?_,⟨_,_,hset _,?_,MapKept.stamped_push hst ?_⟩,fun j hj=>hoth _ j hj,hsz _,rfl,rfl,rfl⟩
    · unfold Instr.mapUpdate
      simp only[Sem.run_bind,run_underlying ht,Result.andThen_ok,getM h1,Go.Ev.run_checkKey_int hk,Go.Ev.run_findKey_int hk hf,setM h1]
    · rw[mset_none m k v 0 hm]
      simp[h2]
    · intro x hx e
      have hx':x.key∈E.toList.map (·.key):=List.mem_map_of_mem hx
      rw[h1',e] at hx'
      obtain⟨p,hp,hpk⟩:=List.mem_map.1 hx'
      injection hpk with _ hpk
      exact mfind_mem m k 0 hm p hp hpk
  | some r =>
    obtain⟨j,u⟩:=r
    rw[hm] at hf
    obtain⟨-,hs,hkey⟩:=mset_some m k v 0 j u hm
    rw[Nat.sub_zero] at hs hkey
    have hEk:((E[j]?).map (·.key))=some (.int .i64 k):=by
      have:=congrArg (fun l=>l[j]?) h1'
      simp only[List.getElem?_map] at this
      rw[← Array.getElem?_toList,this]
      cases hmj:m[j]? with
      | none=>rw[hmj] at hkey;cases hkey
      | some p=>rw[hmj] at hkey;simp at hkey;simp[hkey]
    have hks:∀ w:World,(Instr.keyThatStays (.int .i64 k) (.int .i64 k)).run P w=.ok (.int .i64 k) w:=fun w=>by simp[Instr.keyThatStays,Instr.sameBits]
    refine⟨{ w with heap:=w.heap.setIfInBounds b (.map (E.modify j fun e=>{ e with key:=.int .i64 k,val:=v }) c) },?_,⟨_,_,hset _,?_,MapKept.stamped_modify hst j _ (fun _ _=>rfl) (fun e _ he=>?_)⟩,fun j hj=>hoth _ j hj,hsz _,rfl,rfl,rfl⟩
    · unfold Instr.mapUpdate
      simp only[Sem.run_bind,run_underlying ht,Result.andThen_ok,getM h1,Go.Ev.run_checkKey_int hk,Go.Ev.run_findKey_int hk hf,hEk,Option.getD_some,hks,setM h1]
    · rw[hs]
      apply List.ext_getElem?
      intro q
      have hq:=congrArg (fun l=>l[q]?) h2
      simp only[List.getElem?_map] at hq ⊢
      by_cases hqj:q=j
      · subst hqj
        cases hE:E.toList[q]? with
        | none =>
          rw[hE] at hq
          cases hmq:m[q]? with
          | none=>rw[hmq] at hkey;cases hkey
          | some p=>rw[hmq] at hq;cases hq
        | some e =>
          have hlq:q<m.length:=by
            rcases Nat.lt_or_ge q m.length with h|h
            · exact h
            · rw[List.getElem?_eq_none h] at hkey;cases hkey
          rw[List.getElem?_set_self hlq]
          have:(E.modify q fun e=>{ e with key:=.int .i64 k,val:=v }).toList[q]? = some { e with key:=.int .i64 k,val:=v }:=by
            rw[Array.getElem?_toList,Array.getElem?_modify,if_pos rfl]
            rw[Array.getElem?_toList] at hE
            rw[hE];rfl
          rw[this];rfl
      · rw[List.getElem?_set_ne (Ne.symm hqj)]
        have:(E.modify j fun e=>{ e with key:=.int .i64 k,val:=v }).toList[q]? = E.toList[q]?:=by
          rw[Array.getElem?_toList,Array.getElem?_modify,if_neg (Ne.symm hqj),Array.getElem?_toList]
        rw[this];exact hq
    · rw[he] at hEk
      simpa using hEk.symm
end
structure JR where
  first:Nat
  blocks:Nat
  epoch:Nat
  pos:Nat
  count:Nat
  used:Nat
  wv:Value
  waits:List UInt8
  last:Nat
  synced:Nat
def jV (j d:Nat)(J:JR):Array Value:=#[.pointer (some ⟨d,0,none⟩),.int .i64 (J.first:Int),.int .i64 (J.blocks:Int),.int .i64 (J.epoch:Int),.pointer (some ⟨j,0,none⟩),.int .i64 (J.pos:Int),.int .i64 (J.count:Int),.int .i64 (J.used:Int),J.wv,.int .i64 (J.last:Int),.int .i64 (J.synced:Int),.bool false]
def JB (w:World)(j d:Nat)(J:JR):Prop:=w.heap[j]? = some (.cells (jV j d J) 232 (0,0))
section
variable {w:World}{j d:Nat}{J:JR}
theorem JB.cell(h:JB w j d J)(k:Nat):w.cell? ⟨j,k,none⟩=(jV j d J)[k]?:=by unfold JB at h;simp[World.cell?,h]
theorem JB.frozen(h:JB w j d J)(k:Nat):w.frozen? ⟨j,k,none⟩=false:=by unfold JB at h;simp[World.frozen?,h]
theorem JB.lt(h:JB w j d J):j<w.heap.size:=(Array.getElem?_eq_some_iff.1 h).1
theorem infoJ:(Tryz.prog.info? 232).isSome=true:=by kernel_rfl
theorem eqlJ(w:World)(a:Addr):(binOp .eql 119 (.pointer (some a)) (.pointer (some a))).run Tryz.prog w=.ok (.bool true) w:=by
  obtain⟨j,hj⟩:=Option.isSome_iff_exists.1 infoJ
  exact run_eql_ptr_same w a Tryz.underlying119 hj
theorem jmade_any(h:JB w j d J):Calls Tryz.prog 161 #[.pointer (some ⟨j,0,none⟩)] w fun e w'=>e=.returned (.bool true)∧w'=w:=by
  have c4:w.cell? ⟨j,4,none⟩=some (.pointer (some ⟨j,0,none⟩)):=h.cell 4
  have he:=fun w=>eqlJ w ⟨j,0,none⟩
  go_enter Tryz.func161,Tryz.ntmps161
  go_wp2
  go_ret
  exact⟨rfl,rfl⟩
theorem jstands_any(h:JB w j d J):Calls Tryz.prog 171 #[.pointer (some ⟨j,0,none⟩)] w fun e w'=>e=.returned (.int .i64 0)∧w'=w:=by
  have c11:w.cell? ⟨j,11,none⟩=some (.bool false):=h.cell 11
  have M:=jmade_any h
  go_enter Tryz.func171,Tryz.ntmps171
  go_wp2_with (go_at_call 161;with_reducible refine M.mono ?_;rintro e w ⟨rfl,rfl⟩)
  go_ret
  exact⟨rfl,rfl⟩
theorem jlast_any(h:JB w j d J):Calls Tryz.prog 75 #[.pointer (some ⟨j,0,none⟩)] w fun e w'=>e=.returned (.int .i64 (J.last:Int))∧w'=w:=by
  have c:w.cell? ⟨j,9,none⟩=some (.int .i64 (J.last:Int)):=h.cell 9
  have M:=jmade_any h
  go_enter Tryz.func75,Tryz.ntmps75
  go_wp2_with (go_at_call 161;with_reducible refine M.mono ?_;rintro e w ⟨rfl,rfl⟩)
  go_ret
  exact⟨rfl,rfl⟩
theorem jsynced_any(h:JB w j d J):Calls Tryz.prog 64 #[.pointer (some ⟨j,0,none⟩)] w fun e w'=>e=.returned (.int .i64 (J.synced:Int))∧w'=w:=by
  have c:w.cell? ⟨j,10,none⟩=some (.int .i64 (J.synced:Int)):=h.cell 10
  have M:=jmade_any h
  go_enter Tryz.func64,Tryz.ntmps64
  go_wp2_with (go_at_call 161;with_reducible refine M.mono ?_;rintro e w ⟨rfl,rfl⟩)
  go_ret
  exact⟨rfl,rfl⟩
theorem jbroken_any(h:JB w j d J):Calls Tryz.prog 122 #[.pointer (some ⟨j,0,none⟩)] w fun e w'=>e=.returned (.bool false)∧w'=w:=by
  have c11:w.cell? ⟨j,11,none⟩=some (.bool false):=h.cell 11
  have M:=jmade_any h
  go_enter Tryz.func122,Tryz.ntmps122
  go_wp2_with (go_at_call 161;with_reducible refine M.mono ?_;rintro e w ⟨rfl,rfl⟩)
  go_ret
  exact⟨rfl,rfl⟩
theorem jroom_any(h:JB w j d J)(hu:J.used≤J.blocks)(hb:J.blocks≤100000):Calls Tryz.prog 234 #[.pointer (some ⟨j,0,none⟩)] w fun e w'=>e=.returned (.int .i64 ((J.blocks:Int)-(J.used:Int)))∧Below w.heap.size w w':=by
  have c2:w.cell? ⟨j,2,none⟩=some (.int .i64 (J.blocks:Int)):=h.cell 2
  have c7:w.cell? ⟨j,7,none⟩=some (.int .i64 (J.used:Int)):=h.cell 7
  have M:=jmade_any h
  have hw:wrap64 ((J.blocks:Int)-(J.used:Int))=(J.blocks:Int)-(J.used:Int):=IntWalk.wrap64_in _ (by omega)
  go_enter Tryz.func234,Tryz.ntmps234
  go_wp2_with (go_at_call 161;with_reducible refine M.mono ?_;rintro e w ⟨rfl,rfl⟩)
  go_quiet (fail)
  go_wp2
  go_ret
  exact⟨by first | rfl | (rw[hw];rfl),drewN_below _ _ _⟩
theorem jat_any(h:JB w j d J):Calls Tryz.prog 175 #[.pointer (some ⟨j,0,none⟩)] w fun e w'=>e=.returned (.tuple #[.int .i64 (J.pos:Int),.int .i64 (J.count:Int)])∧Below w.heap.size w w':=by
  have c5:w.cell? ⟨j,5,none⟩=some (.int .i64 (J.pos:Int)):=h.cell 5
  have c6:w.cell? ⟨j,6,none⟩=some (.int .i64 (J.count:Int)):=h.cell 6
  have M:=jmade_any h
  go_enter Tryz.func175,Tryz.ntmps175
  go_wp2_with (go_at_call 161;with_reducible refine M.mono ?_;rintro e w ⟨rfl,rfl⟩)
  go_quiet (fail)
  go_wp2
  go_ret2
  exact⟨rfl,drewN_below _ _ _⟩
end
def need (n:Nat):Nat:=(n+4075) / 4076
theorem needs_any(n:Nat)(hn:n≤1000000000)(w:World):Calls Tryz.prog 173 #[.int .i64 (n:Int)] w fun e w'=>e=.returned (.int .i64 ((need n:Nat):Int))∧w'=w:=by
  go_enter Tryz.func173,Tryz.ntmps173
  go_wp2
  have he:((n:Int)+4076-1) / 4076=((need n:Nat):Int):=by unfold need;omega
  rw[he]
  go_ret
  exact⟨rfl,rfl⟩
structure TR where
  first:Nat
  next:Nat
  last:Nat
  who:Nat
  ov:Value
def tV (t:Nat)(T:TR):Array Value:=#[.pointer (some ⟨t,0,none⟩),.int .i64 (T.first:Int),.int .i64 (T.next:Int),.int .i64 (T.last:Int),.map (some T.who),T.ov,.slice none 0 0]
def TB (w:World)(t:Nat)(T:TR):Prop:=w.heap[t]? = some (.cells (tV t T) 235 (0,0))
def mk (a:Int)(p:Nat):Value:=.agg #[.int .u8 a,.int .i64 (p:Int)]
section
variable {w:World}{t:Nat}{T:TR}
theorem TB.cell(h:TB w t T)(k:Nat):w.cell? ⟨t,k,none⟩=(tV t T)[k]?:=by unfold TB at h;simp[World.cell?,h]
theorem TB.frozen(h:TB w t T)(k:Nat):w.frozen? ⟨t,k,none⟩=false:=by unfold TB at h;simp[World.frozen?,h]
theorem TB.lt(h:TB w t T):t<w.heap.size:=(Array.getElem?_eq_some_iff.1 h).1
theorem TB.below{w':World}(h:TB w t T)(hb:Below w.heap.size w w'):TB w' t T:=(hb.block _ h.lt).trans h
theorem MapI.below{w w':World}{b:Nat}{m:List (Int×Value)}(h:MapI w b m)(hb:Below w.heap.size w w'):MapI w' b m:=h.keep (hb.block _ h.lt)
theorem infoT:(Tryz.prog.info? 235).isSome=true:=by kernel_rfl
theorem eqlT(w:World)(a:Addr):(binOp .eql 122 (.pointer (some a)) (.pointer (some a))).run Tryz.prog w=.ok (.bool true) w:=by
  obtain⟨j,hj⟩:=Option.isSome_iff_exists.1 infoT
  exact run_eql_ptr_same w a Tryz.underlying122 hj
theorem tmade_any(h:TB w t T):Calls Tryz.prog 162 #[.pointer (some ⟨t,0,none⟩)] w fun e w'=>e=.returned (.bool true)∧w'=w:=by
  have c0:w.cell? ⟨t,0,none⟩=some (.pointer (some ⟨t,0,none⟩)):=h.cell 0
  have he:=fun w=>eqlT w ⟨t,0,none⟩
  go_enter Tryz.func162,Tryz.ntmps162
  go_wp2
  go_ret
  exact⟨rfl,rfl⟩
theorem zero239(w:World):(zeroValue 239).run Tryz.prog w=.ok (.agg #[.int .u8 0,.int .i64 0]) w:=by
  have h:(Tryz.prog.info? 239).map (fun i=>i.zero)=some (some (.agg #[.int .u8 0,.int .i64 0])):=by kernel_rfl
  obtain⟨i,hi,hz⟩:=Option.map_eq_some_iff.1 h
  simp[zeroValue,typeInfo,hi,hz]
theorem agg239:Go.Ev.aggN Tryz.prog 239=some (some 2):=by kernel_rfl
theorem lookT{w:World}{b:Nat}{m:List (Int×Value)}(h:MapI w b m){n:Int}{v:Value}(hl:m.lookup n=some v):(Instr.lookup 233 (.map (some b)) (.int .i64 n) true).run Tryz.prog w=.ok (.tuple #[v,.bool true]) w:=by
  have:=run_lookup_int_ok (P:=Tryz.prog) Tryz.underlying233 Tryz.underlying3 h n (zero239 w)
  rw[hl] at this
  exact this
theorem of_tab(h:TB w t T){m:List (Int×Value)}(hm:MapI w T.who m)(n:Int)(a:Int)(p:Nat)(hl:m.lookup n=some (mk a p)) :
    Calls Tryz.prog 194 #[.pointer (some ⟨t,0,none⟩),.int .i64 n] w fun e w'=>e=.returned (mk a p)∧Below w.heap.size w w':=by
  unfold mk at *
  have c4:∀ o,(w.alloc o).cell? ⟨t,4,none⟩=some (.map (some T.who)):=fun o=>(h.below ((Below.refl _ _).alloc (Nat.le_refl _) o)).cell 4
  have L:=fun o=>lookT (hm.below ((Below.refl _ _).alloc (Nat.le_refl _) o)) hl
  go_enter Tryz.func194,Tryz.ntmps194
  go_wp2
  refine bodyPost_ret (ret_c1 rfl agg239 rfl (g:=w.heap.size) (t:=239) (V:=#[.int .u8 a,.int .i64 (p:Int)]) ?_ rfl) rfl ⟨rfl,?_⟩
  · rw[Below.heap_alloc _ _ _ (by simp)];exact heap_alloc_new _ _
  · exact((Below.refl _ _).alloc (Nat.le_refl _) _).alloc (by simp) _
theorem asked_tab(h:TB w t T){m:List (Int×Value)}(hm:MapI w T.who m)(n:Int)(p:Nat)(hl:m.lookup n=some (mk 2 p)) :
    Calls Tryz.prog 169 #[.pointer (some ⟨t,0,none⟩),.int .i64 n] w fun e w'=>e=.returned (.int .i64 0)∧Below w.heap.size w w':=by
  have M:=tmade_any h
  have O:=of_tab h hm n 2 p hl
  unfold mk at O
  have hfd:∀ w:World,(Instr.field 239 (.agg #[.int .u8 2,.int .i64 (p:Int)]) 0).run Tryz.prog w=.ok (.int .u8 2) w:=fun _=>by kernel_rfl
  go_enter Tryz.func169,Tryz.ntmps169
  go_wp2_with (first
    | (go_at_call 162;with_reducible refine M.mono ?_;rintro e w ⟨rfl,rfl⟩)
    | (go_at_call 194;with_reducible refine O.mono ?_;rintro e w2 ⟨rfl,b2⟩))
  go_ret
  exact⟨rfl,b2⟩
theorem isOpen_tab(h:TB w t T){m:List (Int×Value)}(hm:MapI w T.who m)(n:Int)(p:Nat)(hl:m.lookup n=some (mk 2 p)) :
    Calls Tryz.prog 84 #[.pointer (some ⟨t,0,none⟩),.int .i64 n] w fun e w'=>e=.returned (.bool true)∧Below w.heap.size w w':=by
  have A:=asked_tab h hm n p hl
  go_enter Tryz.func84,Tryz.ntmps84
  go_wp2_with (go_at_call 169;with_reducible refine A.mono ?_;rintro e w2 ⟨rfl,b2⟩)
  go_ret
  exact⟨rfl,b2⟩
theorem next_tab(h:TB w t T):Calls Tryz.prog 92 #[.pointer (some ⟨t,0,none⟩)] w fun e w'=>e=.returned (.int .i64 (T.next:Int))∧w'=w:=by
  have M:=tmade_any h
  have c2:w.cell? ⟨t,2,none⟩=some (.int .i64 (T.next:Int)):=h.cell 2
  go_enter Tryz.func92,Tryz.ntmps92
  go_wp2_with (first
    | (go_at_call 162;with_reducible refine M.mono ?_;rintro e w ⟨rfl,rfl⟩)
    | (go_at_call 146;with_reducible refine(Load_any c2).mono ?_;rintro e w1 ⟨rfl,rfl⟩))
  go_ret
  exact⟨rfl,rfl⟩
theorem dead_tab(h:TB w t T):Calls Tryz.prog 105 #[.pointer (some ⟨t,0,none⟩)] w fun e w'=>e=.returned (.slice none 0 0)∧w'=w:=by
  have M:=tmade_any h
  have c6:w.cell? ⟨t,6,none⟩=some (.slice none 0 0):=h.cell 6
  have C:Calls Tryz.prog 139 #[.slice none 0 0] w fun e w'=>e=.returned (.slice none 0 0)∧w'=w:=by
    have hq:(binOp .eql 22 (.slice none 0 0) (.slice none 0 0)).run Tryz.prog w=.ok (.bool true) w:=Go.run_eql_slice_nil (P:=Tryz.prog) w 22 3 none 0 0 Tryz.underlying22
    go_enter Tryz.func139,Tryz.ntmps139
    go_wp2
    go_ret
    exact⟨rfl,rfl⟩
  go_enter Tryz.func105,Tryz.ntmps105
  go_wp2_with (first
    | (go_at_call 162;with_reducible refine M.mono ?_;rintro e w ⟨rfl,rfl⟩)
    | (go_at_call 139;with_reducible refine C.mono ?_;rintro e w1 ⟨rfl,rfl⟩))
  go_ret
  exact⟨rfl,rfl⟩
theorem open_tab(h:TB w t T){A:Option Addr}{c:Nat}(ho:T.ov=.slice A 0 c):Calls Tryz.prog 124 #[.pointer (some ⟨t,0,none⟩)] w fun e w'=>(∃ B d,e=.returned (.slice B 0 d))∧Below w.heap.size w w':=by
  have M:=tmade_any h
  have c5:w.cell? ⟨t,5,none⟩=some (.slice A 0 c):=by rw[← ho];exact h.cell 5
  have C:Calls Tryz.prog 139 #[.slice A 0 c] w fun e w'=>(∃ B d,e=.returned (.slice B 0 d))∧Below w.heap.size w w':=by
    cases A with
    | none =>
      have hq:(binOp .eql 22 (.slice none 0 c) (.slice none 0 0)).run Tryz.prog w=.ok (.bool true) w:=Go.run_eql_slice_nil (P:=Tryz.prog) w 22 3 none 0 c Tryz.underlying22
      go_enter Tryz.func139,Tryz.ntmps139
      go_wp2
      go_ret
      exact⟨⟨_,_,rfl⟩,Below.refl _ _⟩
    | some A =>
      have hq:(binOp .eql 22 (.slice (some A) 0 c) (.slice none 0 0)).run Tryz.prog w=.ok (.bool false) w:=Go.run_eql_slice_nil (P:=Tryz.prog) w 22 3 (some A) 0 c Tryz.underlying22
      go_enter Tryz.func139,Tryz.ntmps139
      go_wp2
      go_ret
      exact⟨⟨_,_,rfl⟩,(Below.refl _ _).alloc (Nat.le_refl _) _⟩
  go_enter Tryz.func124,Tryz.ntmps124
  go_wp2_with (first
    | (go_at_call 162;with_reducible refine M.mono ?_;rintro e w ⟨rfl,rfl⟩)
    | (go_at_call 139;with_reducible refine C.mono ?_;rintro e w1 ⟨⟨B,d,rfl⟩,b1⟩))
  go_ret
  exact⟨⟨_,_,rfl⟩,b1⟩
theorem shown_tab(a:Int)(p q:Nat)(hpq:q≤p)(w:World)(u:Value):Calls Tryz.prog 193 #[u,mk a p,mk 3 q] w fun e w'=>e=.returned (.bool true)∧Below w.heap.size w w':=by
  have hq:(q:Int)≤(p:Int):=by omega
  unfold mk
  go_enter Tryz.func193,Tryz.ntmps193
  go_wp2
  go_ret
  exact⟨rfl,((Below.refl _ _).alloc (Nat.le_refl _) _).alloc (by simp) _⟩
theorem conflict_tab(h:TB w t T){m:List (Int×Value)}(hm:MapI w T.who m)(n k:Int)(p q:Nat)(hl:m.lookup n=some (mk 2 p))(hk:m.lookup k=some (mk 3 q))(hpq:q≤p) :
    Calls Tryz.prog 164 #[.pointer (some ⟨t,0,none⟩),.int .i64 n,.int .i64 k] w fun e w'=>e=.returned (.int .i64 0)∧Below w.heap.size w w':=by
  have A:=asked_tab h hm n p hl
  have O1:=fun w' (b:Below w.heap.size w w')=>of_tab (h.below b) (hm.below b) k 3 q hk
  have O2:=fun w' (b:Below w.heap.size w w')=>of_tab (h.below b) (hm.below b) n 2 p hl
  have S:=shown_tab 2 p q hpq
  unfold mk at O1 O2 S
  go_enter Tryz.func164,Tryz.ntmps164
  go_upto_region 4 with (go_at_call 169;with_reducible refine A.mono ?_;rintro e w2 ⟨rfl,b2⟩)
  have B0:=O1 w2 b2
  go_upto_region 5 with (go_at_call 194;with_reducible refine B0.mono ?_;rintro e w3 ⟨rfl,b3⟩)
  have b3':=b2.trans (b3.mono b2.size)
  obtain⟨W4,hW4,g4,b4,z4⟩:=box_alloc w3 (.cells #[.int .u8 3,.int .i64 (q:Int)] 239)
  have b4':=b3'.trans (b4.mono b3'.size)
  have b5':=b4'.trans ((below_drew W4).mono b4'.size)
  have B1:=O2 W4.drew b5'
  have g5:W4.drew.heap[w3.heap.size]? = _:=g4
  rw[hW4]
  have k0:W4.cell? ⟨w3.heap.size,0,none⟩=some (.int .u8 3):=cellD g4 0
  have k1:W4.cell? ⟨w3.heap.size,1,none⟩=some (.int .i64 (q:Int)):=cellD g4 1
  go_upto_region 7 with fail
  have kk:=And.intro k0 k1
  go_region_held3 (fun w'=>w'.cell? ⟨w3.heap.size,0,none⟩=some (.int .u8 3)∧w'.cell? ⟨w3.heap.size,1,none⟩=some (.int .i64 (q:Int)))
    (first | with_reducible exact kk | with_reducible exact kk5 | with_reducible exact kk6 | go_keep)
    (first
      | (go_at_call 194;with_reducible refine B1.mono ?_;rintro e w5 ⟨rfl,b5⟩;have kk5:=And.intro (cellD (keepB b5 g5) 0) (cellD (keepB b5 g5) 1))
      | (go_at_call 193;with_reducible refine(S _ _).mono ?_;rintro e w6 ⟨rfl,b6⟩;have kk6:=And.intro (cellD (keepB b6 (keepB b5 g5)) 0) (cellD (keepB b6 (keepB b5 g5)) 1))
      | fail)
  all_goals
    go_wp2
    go_ret
    exact⟨rfl,b5'.trans ((b5.mono b5'.size).trans (b6.mono (Nat.le_trans b5'.size b5.size)))⟩
end
end Go.Proofs.YtdbkocfbhpgpkaaGreat
