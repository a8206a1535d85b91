/-
  journal.Append, where there is room; journal.New.
-/
import Derived.Test.YtdbkocfbhpgpkaaGreatb03
import Derived.MapKept
import Derived.Test.YtdbkocfbhpgpkaaGreatb05
import Derived.Deep.QuietTactic
import Derived.BigQuiet
import Derived.StillTailTactics
import Derived.Lib.LazyBuf
import Derived.Deep.RegionHeld3
import Derived.Lib.SliceRun
set_option linter.unusedVariables false
set_option linter.unusedSimpArgs false
namespace Go.Proofs.YtdbkocfbhpgpkaaGreat
open Go Go.RowKit
set_option maxRecDepth 100000
set_option maxHeartbeats 1600000
def MapI (w:World)(b:Nat)(m:List (Int×Value)):Prop:=
  ∃ E c,w.heap[b]? = some (.map E c)∧E.toList.map (fun e=>(e.key,e.val))=(m.map fun p=>(Value.int .i64 p.1,p.2))∧MapKept.Stamped E c
def mset (m:List (Int×Value))(k:Int)(v:Value):List (Int×Value):=
  match m with
  | []=>[(k,v)]
  | p::m=>if k=p.1 then(p.1,v)::m else p::mset m k v
def mdel (m:List (Int×Value))(k:Int):List (Int×Value):=
  match m with
  | []=>[]
  | p::m=>if k=p.1 then m else p::mdel m k
theorem MapI.lt{w:World}{b:Nat}{m:List (Int×Value)}(h:MapI w b m):b<w.heap.size:=by
  obtain⟨E,c,h,-⟩:=h
  exact(Array.getElem?_eq_some_iff.1 h).1
theorem MapI.keep{w w':World}{b:Nat}{m:List (Int×Value)}(h:MapI w b m)(hb:w'.heap[b]? = w.heap[b]?):MapI w' b m:=by
  obtain⟨E,c,h1,h2⟩:=h
  exact⟨E,c,hb.trans h1,h2⟩
def mfind(m:List (Int×Value))(k:Int)(i:Nat):Option (Nat×Value):=
  match m with
  | []=>none
  | p::m=>if k=p.1 then some (i,p.2) else mfind m k (i+1)
theorem mfind_lookup:∀ (m:List (Int×Value)) (k:Int) (i:Nat),(mfind m k i).map (·.2)=m.lookup k
  | [],_,_=>rfl
  | p :: m, k, i => by
    unfold mfind
    by_cases h:k=p.1
    · subst h;simp[List.lookup]
    · have hb:(k==p.1)=false:=by simpa using h
      rw[if_neg h,mfind_lookup m k (i+1)]
      simp[List.lookup,hb]
theorem findNow_int(k:Int):∀ (E:List MapEntry) (m:List (Int×Value)) (i:Nat),E.map (fun e=>(e.key,e.val))=m.map (fun p=>(Value.int .i64 p.1,p.2))→Instr.findNow (.int .i64) (.int .i64 k) E i=some (mfind m k i)
  | [],[],_,_=>rfl
  | e :: E, p :: m, i, h => by
    simp only[List.map_cons,List.cons.injEq,Prod.mk.injEq] at h
    unfold Instr.findNow mfind
    rw[h.1.1,h.1.2]
    by_cases hk:k=p.1
    · simp[Instr.sameNow,hk]
    · simp only[Instr.sameNow,if_pos,hk,if_false]
      have:(k==p.1)=false:=by simpa using hk
      rw[this]
      exact findNow_int k E m (i+1) h.2
  | [],_::_,_,h=>by simp at h
  | _::_,[],_,h=>by simp at h
theorem getM{P:Program}{w:World}{b:Nat}{E:Array MapEntry}{c:Nat}(h:w.heap[b]? = some (.map E c)):(getObj b).run P w=.ok (.map E c) w:=by
  simp[getObj,Sem.run,h]
theorem setM{P:Program}{w:World}{b:Nat}{E:Array MapEntry}{c:Nat}{ob':Obj}(h:w.heap[b]? = some (.map E c)):(setObj b ob').run P w=.ok () { w with heap:=w.heap.setIfInBounds b ob' }:=by
  simp[setObj,Sem.run,h]
theorem mset_none:∀ (m:List (Int×Value)) (k:Int) (v:Value) (i:Nat),mfind m k i=none→mset m k v=m++[(k,v)]
  | [],_,_,_,_=>rfl
  | p :: m, k, v, i, h => by
    unfold mfind at h
    unfold mset
    split at h
    · cases h
    · rename_i hp
      rw[if_neg hp,mset_none m k v (i+1) h]
      rfl
theorem mfind_mem:∀ (m:List (Int×Value)) (k:Int) (i:Nat),mfind m k i=none→∀ p∈m,p.1≠k
  | [],_,_,_,_,hp=>by simp at hp
  | q :: m, k, i, h, p, hp => by
    unfold mfind at h
    split at h
    · cases h
    · rename_i hq
      rcases List.mem_cons.1 hp with rfl|hp
      · exact fun e=>hq e.symm
      · exact mfind_mem m k (i+1) h p hp
theorem mset_some:∀ (m:List (Int×Value)) (k:Int) (v:Value) (i j:Nat) (u:Value),mfind m k i=some (j,u)→i≤j∧mset m k v=m.set (j-i) (k,v)∧(m[j-i]?).map (·.1)=some k
  | [],_,_,_,_,_,h=>by simp[mfind] at h
  | p :: m, k, v, i, j, u, h => by
    unfold mfind at h
    unfold mset
    split at h
    · rename_i hp
      cases h
      rw[if_pos hp,hp]
      simp
    · rename_i hp
      obtain⟨a,b,c⟩:=mset_some m k v (i+1) j u h
      have e:j-i=j-(i+1)+1:=by omega
      refine⟨by omega,?_,?_⟩
      · rw[if_neg hp,b,e];rfl
      · rw[e];simpa using c
section
variable {P:Program}{t kt et:TypeId}(ht:P.underlying t=some (.map kt et))(hk:P.underlying kt=some (.int .i64))
include ht hk
theorem run_lookup_int{w:World}{b:Nat}{m:List (Int×Value)}(h:MapI w b m)(k:Int){z:Value}(hz:(zeroValue et).run P w=.ok z w) :
    (Instr.lookup t (.map (some b)) (.int .i64 k) false).run P w=.ok ((m.lookup k).getD z) w:=by
  obtain⟨E,c,h1,h2,hst⟩:=h
  have hf:=findNow_int k E.toList m 0 h2
  rw[← mfind_lookup m k 0]
  unfold Instr.lookup
  simp only[Sem.run_bind,run_underlying ht,Result.andThen_ok,getM h1,Sem.run_pure,Go.Ev.run_checkKey_int hk]
  rw[Go.Ev.run_findKey_int hk hf]
  cases hm:mfind m k 0 with
  | none=>simp[hz]
  | some r=>simp
theorem run_lookup_int_ok{w:World}{b:Nat}{m:List (Int×Value)}(h:MapI w b m)(k:Int){z:Value}(hz:(zeroValue et).run P w=.ok z w) :
    (Instr.lookup t (.map (some b)) (.int .i64 k) true).run P w=.ok (.tuple #[(m.lookup k).getD z,.bool (m.lookup k).isSome]) w:=by
  obtain⟨E,c,h1,h2,hst⟩:=h
  have hf:=findNow_int k E.toList m 0 h2
  rw[← mfind_lookup m k 0]
  unfold Instr.lookup
  simp only[Sem.run_bind,run_underlying ht,Result.andThen_ok,getM h1,Sem.run_pure,Go.Ev.run_checkKey_int hk]
  rw[Go.Ev.run_findKey_int hk hf]
  cases hm:mfind m k 0 with
  | none=>simp[hz]
  | some r=>simp
theorem run_update_int{w:World}{b:Nat}{m:List (Int×Value)}(h:MapI w b m)(k:Int)(v:Value) :
    ∃ w',(Instr.mapUpdate t (.map (some b)) (.int .i64 k) v).run P w=.ok () w'∧MapI w' b (mset m k v)∧(∀ j,j≠b→w'.heap[j]? = w.heap[j]?)∧w'.heap.size=w.heap.size∧w'.os=w.os∧w'.tape=w.tape∧w'.output=w.output:=by
  obtain⟨E,c,h1,h2,hst⟩:=h
  have hlt:b<w.heap.size:=(Array.getElem?_eq_some_iff.1 h1).1
  have hf:=findNow_int k E.toList m 0 h2
  have hset:∀ o:Obj,({ w with heap:=w.heap.setIfInBounds b o }:World).heap[b]? = some o:=fun o=>by simp[hlt]
  have hoth:∀ (o:Obj) (j:Nat),j≠b→({ w with heap:=w.heap.setIfInBounds b o }:World).heap[j]? = w.heap[j]?:=fun o j hj=>by
    show(w.heap.setIfInBounds b o)[j]? = _
    rw[Array.getElem?_setIfInBounds_ne (Ne.symm hj)]
  have hsz:∀ o:Obj,({ w with heap:=w.heap.setIfInBounds b o }:World).heap.size=w.heap.size:=fun o=>by simp
  have h1':E.toList.map (·.key)=m.map fun p=>Value.int .i64 p.1:=by
    have:=congrArg (List.map Prod.fst) h2
    simpa only[List.map_map,Function.comp_def] using this
  have h2':E.toList.map (·.val)=m.map fun p=>p.2:=by
    have:=congrArg (List.map Prod.snd) h2
    simpa only[List.map_map,Function.comp_def] using this
  cases hm:mfind m k 0 with
  | none =>
    rw[hm] at hf
    refine⟨{ w with heap:=w.heap.setIfInBounds b (.map (E.push { key:=.int .i64 k,val:=v,born:=c }) (c+1)) },?_,⟨_,_,hset _,?_,MapKept.stamped_push hst ?_⟩,fun j hj=>hoth _ j hj,hsz _,rfl,rfl,rfl⟩
    · unfold Instr.mapUpdate
      simp only[Sem.run_bind,run_underlying ht,Result.andThen_ok,getM h1,Go.Ev.run_checkKey_int hk,Go.Ev.run_findKey_int hk hf,setM h1]
    · rw[mset_none m k v 0 hm]
      simp[h2]
    · intro x hx e
      have hx':x.key∈E.toList.map (·.key):=List.mem_map_of_mem hx
      rw[h1',e] at hx'
      obtain⟨p,hp,hpk⟩:=List.mem_map.1 hx'
      injection hpk with _ hpk
      exact mfind_mem m k 0 hm p hp hpk
  | some r =>
    obtain⟨j,u⟩:=r
    rw[hm] at hf
    obtain⟨-,hs,hkey⟩:=mset_some m k v 0 j u hm
    rw[Nat.sub_zero] at hs hkey
    have hEk:((E[j]?).map (·.key))=some (.int .i64 k):=by
      have:=congrArg (fun l=>l[j]?) h1'
      simp only[List.getElem?_map] at this
      rw[← Array.getElem?_toList,this]
      cases hmj:m[j]? with
      | none=>rw[hmj] at hkey;cases hkey
      | some p=>rw[hmj] at hkey;simp at hkey;simp[hkey]
    have hks:∀ w:World,(Instr.keyThatStays (.int .i64 k) (.int .i64 k)).run P w=.ok (.int .i64 k) w:=fun w=>by simp[Instr.keyThatStays,Instr.sameBits]
    refine⟨{ w with heap:=w.heap.setIfInBounds b (.map (E.modify j fun e=>{ e with key:=.int .i64 k,val:=v }) c) },?_,⟨_,_,hset _,?_,MapKept.stamped_modify hst j _ (fun _ _=>rfl) (fun e _ he=>?_)⟩,fun j hj=>hoth _ j hj,hsz _,rfl,rfl,rfl⟩
    · unfold Instr.mapUpdate
      simp only[Sem.run_bind,run_underlying ht,Result.andThen_ok,getM h1,Go.Ev.run_checkKey_int hk,Go.Ev.run_findKey_int hk hf,hEk,Option.getD_some,hks,setM h1]
    · rw[hs]
      apply List.ext_getElem?
      intro q
      have hq:=congrArg (fun l=>l[q]?) h2
      simp only[List.getElem?_map] at hq ⊢
      by_cases hqj:q=j
      · subst hqj
        cases hE:E.toList[q]? with
        | none =>
          rw[hE] at hq
          cases hmq:m[q]? with
          | none=>rw[hmq] at hkey;cases hkey
          | some p=>rw[hmq] at hq;cases hq
        | some e =>
          have hlq:q<m.length:=by
            rcases Nat.lt_or_ge q m.length with h|h
            · exact h
            · rw[List.getElem?_eq_none h] at hkey;cases hkey
          rw[List.getElem?_set_self hlq]
          have:(E.modify q fun e=>{ e with key:=.int .i64 k,val:=v }).toList[q]? = some { e with key:=.int .i64 k,val:=v }:=by
            rw[Array.getElem?_toList,Array.getElem?_modify,if_pos rfl]
            rw[Array.getElem?_toList] at hE
            rw[hE];rfl
          rw[this];rfl
      · rw[List.getElem?_set_ne (Ne.symm hqj)]
        have:(E.modify j fun e=>{ e with key:=.int .i64 k,val:=v }).toList[q]? = E.toList[q]?:=by
          rw[Array.getElem?_toList,Array.getElem?_modify,if_neg (Ne.symm hqj),Array.getElem?_toList]
        rw[this];exact hq
    · rw[he] at hEk
      simpa using hEk.symm
end
structure JR where
  first:Nat
  blocks:Nat
  epoch:Nat
  pos:Nat
  count:Nat
  used:Nat
  wv:Value
  waits:List UInt8
  last:Nat
  synced:Nat
def jV (j d:Nat)(J:JR):Array Value:=#[.pointer (some ⟨d,0,none⟩),.int .i64 (J.first:Int),.int .i64 (J.blocks:Int),.int .i64 (J.epoch:Int),.pointer (some ⟨j,0,none⟩),.int .i64 (J.pos:Int),.int .i64 (J.count:Int),.int .i64 (J.used:Int),J.wv,.int .i64 (J.last:Int),.int .i64 (J.synced:Int),.bool false]
def JB (w:World)(j d:Nat)(J:JR):Prop:=w.heap[j]? = some (.cells (jV j d J) 232 (0,0))
section
variable {w:World}{j d:Nat}{J:JR}
theorem JB.cell(h:JB w j d J)(k:Nat):w.cell? ⟨j,k,none⟩=(jV j d J)[k]?:=by unfold JB at h;simp[World.cell?,h]
theorem JB.frozen(h:JB w j d J)(k:Nat):w.frozen? ⟨j,k,none⟩=false:=by unfold JB at h;simp[World.frozen?,h]
theorem JB.lt(h:JB w j d J):j<w.heap.size:=(Array.getElem?_eq_some_iff.1 h).1
theorem infoJ:(Tryz.prog.info? 232).isSome=true:=by kernel_rfl
theorem eqlJ(w:World)(a:Addr):(binOp .eql 119 (.pointer (some a)) (.pointer (some a))).run Tryz.prog w=.ok (.bool true) w:=by
  obtain⟨j,hj⟩:=Option.isSome_iff_exists.1 infoJ
  exact run_eql_ptr_same w a Tryz.underlying119 hj
theorem jmade_any(h:JB w j d J):Calls Tryz.prog 161 #[.pointer (some ⟨j,0,none⟩)] w fun e w'=>e=.returned (.bool true)∧w'=w:=by
  have c4:w.cell? ⟨j,4,none⟩=some (.pointer (some ⟨j,0,none⟩)):=h.cell 4
  have he:=fun w=>eqlJ w ⟨j,0,none⟩
  go_enter Tryz.func161,Tryz.ntmps161
  go_wp2
  go_ret
  exact⟨rfl,rfl⟩
theorem jstands_any(h:JB w j d J):Calls Tryz.prog 171 #[.pointer (some ⟨j,0,none⟩)] w fun e w'=>e=.returned (.int .i64 0)∧w'=w:=by
  have c11:w.cell? ⟨j,11,none⟩=some (.bool false):=h.cell 11
  have M:=jmade_any h
  go_enter Tryz.func171,Tryz.ntmps171
  go_wp2_with (go_at_call 161;with_reducible refine M.mono ?_;rintro e w ⟨rfl,rfl⟩)
  go_ret
  exact⟨rfl,rfl⟩
theorem jlast_any(h:JB w j d J):Calls Tryz.prog 75 #[.pointer (some ⟨j,0,none⟩)] w fun e w'=>e=.returned (.int .i64 (J.last:Int))∧w'=w:=by
  have c:w.cell? ⟨j,9,none⟩=some (.int .i64 (J.last:Int)):=h.cell 9
  have M:=jmade_any h
  go_enter Tryz.func75,Tryz.ntmps75
  go_wp2_with (go_at_call 161;with_reducible refine M.mono ?_;rintro e w ⟨rfl,rfl⟩)
  go_ret
  exact⟨rfl,rfl⟩
theorem jsynced_any(h:JB w j d J):Calls Tryz.prog 64 #[.pointer (some ⟨j,0,none⟩)] w fun e w'=>e=.returned (.int .i64 (J.synced:Int))∧w'=w:=by
  have c:w.cell? ⟨j,10,none⟩=some (.int .i64 (J.synced:Int)):=h.cell 10
  have M:=jmade_any h
  go_enter Tryz.func64,Tryz.ntmps64
  go_wp2_with (go_at_call 161;with_reducible refine M.mono ?_;rintro e w ⟨rfl,rfl⟩)
  go_ret
  exact⟨rfl,rfl⟩
theorem jbroken_any(h:JB w j d J):Calls Tryz.prog 122 #[.pointer (some ⟨j,0,none⟩)] w fun e w'=>e=.returned (.bool false)∧w'=w:=by
  have c11:w.cell? ⟨j,11,none⟩=some (.bool false):=h.cell 11
  have M:=jmade_any h
  go_enter Tryz.func122,Tryz.ntmps122
  go_wp2_with (go_at_call 161;with_reducible refine M.mono ?_;rintro e w ⟨rfl,rfl⟩)
  go_ret
  exact⟨rfl,rfl⟩
theorem jroom_any(h:JB w j d J)(hu:J.used≤J.blocks)(hb:J.blocks≤100000):Calls Tryz.prog 234 #[.pointer (some ⟨j,0,none⟩)] w fun e w'=>e=.returned (.int .i64 ((J.blocks:Int)-(J.used:Int)))∧Below w.heap.size w w':=by
  have c2:w.cell? ⟨j,2,none⟩=some (.int .i64 (J.blocks:Int)):=h.cell 2
  have c7:w.cell? ⟨j,7,none⟩=some (.int .i64 (J.used:Int)):=h.cell 7
  have M:=jmade_any h
  have hw:wrap64 ((J.blocks:Int)-(J.used:Int))=(J.blocks:Int)-(J.used:Int):=IntWalk.wrap64_in _ (by omega)
  go_enter Tryz.func234,Tryz.ntmps234
  go_wp2_with (go_at_call 161;with_reducible refine M.mono ?_;rintro e w ⟨rfl,rfl⟩)
  go_quiet (fail)
  go_wp2
  go_ret
  exact⟨by first | rfl | (rw[hw];rfl),drewN_below _ _ _⟩
theorem jat_any(h:JB w j d J):Calls Tryz.prog 175 #[.pointer (some ⟨j,0,none⟩)] w fun e w'=>e=.returned (.tuple #[.int .i64 (J.pos:Int),.int .i64 (J.count:Int)])∧Below w.heap.size w w':=by
  have c5:w.cell? ⟨j,5,none⟩=some (.int .i64 (J.pos:Int)):=h.cell 5
  have c6:w.cell? ⟨j,6,none⟩=some (.int .i64 (J.count:Int)):=h.cell 6
  have M:=jmade_any h
  go_enter Tryz.func175,Tryz.ntmps175
  go_wp2_with (go_at_call 161;with_reducible refine M.mono ?_;rintro e w ⟨rfl,rfl⟩)
  go_quiet (fail)
  go_wp2
  go_ret2
  exact⟨rfl,drewN_below _ _ _⟩
end
def need (n:Nat):Nat:=(n+4075) / 4076
theorem needs_any(n:Nat)(hn:n≤1000000000)(w:World):Calls Tryz.prog 173 #[.int .i64 (n:Int)] w fun e w'=>e=.returned (.int .i64 ((need n:Nat):Int))∧w'=w:=by
  go_enter Tryz.func173,Tryz.ntmps173
  go_wp2
  have he:((n:Int)+4076-1) / 4076=((need n:Nat):Int):=by unfold need;omega
  rw[he]
  go_ret
  exact⟨rfl,rfl⟩
structure TR where
  first:Nat
  next:Nat
  last:Nat
  who:Nat
  ov:Value
def tV (t:Nat)(T:TR):Array Value:=#[.pointer (some ⟨t,0,none⟩),.int .i64 (T.first:Int),.int .i64 (T.next:Int),.int .i64 (T.last:Int),.map (some T.who),T.ov,.slice none 0 0]
def TB (w:World)(t:Nat)(T:TR):Prop:=w.heap[t]? = some (.cells (tV t T) 235 (0,0))
def mk (a:Int)(p:Nat):Value:=.agg #[.int .u8 a,.int .i64 (p:Int)]
section
variable {w:World}{t:Nat}{T:TR}
theorem TB.cell(h:TB w t T)(k:Nat):w.cell? ⟨t,k,none⟩=(tV t T)[k]?:=by unfold TB at h;simp[World.cell?,h]
theorem TB.frozen(h:TB w t T)(k:Nat):w.frozen? ⟨t,k,none⟩=false:=by unfold TB at h;simp[World.frozen?,h]
theorem TB.lt(h:TB w t T):t<w.heap.size:=(Array.getElem?_eq_some_iff.1 h).1
theorem TB.below{w':World}(h:TB w t T)(hb:Below w.heap.size w w'):TB w' t T:=(hb.block _ h.lt).trans h
theorem MapI.below{w w':World}{b:Nat}{m:List (Int×Value)}(h:MapI w b m)(hb:Below w.heap.size w w'):MapI w' b m:=h.keep (hb.block _ h.lt)
theorem infoT:(Tryz.prog.info? 235).isSome=true:=by kernel_rfl
theorem eqlT(w:World)(a:Addr):(binOp .eql 122 (.pointer (some a)) (.pointer (some a))).run Tryz.prog w=.ok (.bool true) w:=by
  obtain⟨j,hj⟩:=Option.isSome_iff_exists.1 infoT
  exact run_eql_ptr_same w a Tryz.underlying122 hj
theorem tmade_any(h:TB w t T):Calls Tryz.prog 162 #[.pointer (some ⟨t,0,none⟩)] w fun e w'=>e=.returned (.bool true)∧w'=w:=by
  have c0:w.cell? ⟨t,0,none⟩=some (.pointer (some ⟨t,0,none⟩)):=h.cell 0
  have he:=fun w=>eqlT w ⟨t,0,none⟩
  go_enter Tryz.func162,Tryz.ntmps162
  go_wp2
  go_ret
  exact⟨rfl,rfl⟩
theorem zero239(w:World):(zeroValue 239).run Tryz.prog w=.ok (.agg #[.int .u8 0,.int .i64 0]) w:=by
  have h:(Tryz.prog.info? 239).map (fun i=>i.zero)=some (some (.agg #[.int .u8 0,.int .i64 0])):=by kernel_rfl
  obtain⟨i,hi,hz⟩:=Option.map_eq_some_iff.1 h
  simp[zeroValue,typeInfo,hi,hz]
theorem agg239:Go.Ev.aggN Tryz.prog 239=some (some 2):=by kernel_rfl
theorem lookT{w:World}{b:Nat}{m:List (Int×Value)}(h:MapI w b m){n:Int}{v:Value}(hl:m.lookup n=some v):(Instr.lookup 233 (.map (some b)) (.int .i64 n) true).run Tryz.prog w=.ok (.tuple #[v,.bool true]) w:=by
  have:=run_lookup_int_ok (P:=Tryz.prog) Tryz.underlying233 Tryz.underlying3 h n (zero239 w)
  rw[hl] at this
  exact this
theorem of_tab(h:TB w t T){m:List (Int×Value)}(hm:MapI w T.who m)(n:Int)(a:Int)(p:Nat)(hl:m.lookup n=some (mk a p)) :
    Calls Tryz.prog 194 #[.pointer (some ⟨t,0,none⟩),.int .i64 n] w fun e w'=>e=.returned (mk a p)∧Below w.heap.size w w':=by
  unfold mk at *
  have c4:∀ o,(w.alloc o).cell? ⟨t,4,none⟩=some (.map (some T.who)):=fun o=>(h.below ((Below.refl _ _).alloc (Nat.le_refl _) o)).cell 4
  have L:=fun o=>lookT (hm.below ((Below.refl _ _).alloc (Nat.le_refl _) o)) hl
  go_enter Tryz.func194,Tryz.ntmps194
  go_wp2
  refine bodyPost_ret (ret_c1 rfl agg239 rfl (g:=w.heap.size) (t:=239) (V:=#[.int .u8 a,.int .i64 (p:Int)]) ?_ rfl) rfl ⟨rfl,?_⟩
  · rw[Below.heap_alloc _ _ _ (by simp)];exact heap_alloc_new _ _
  · exact((Below.refl _ _).alloc (Nat.le_refl _) _).alloc (by simp) _
theorem asked_tab(h:TB w t T){m:List (Int×Value)}(hm:MapI w T.who m)(n:Int)(p:Nat)(hl:m.lookup n=some (mk 2 p)) :
    Calls Tryz.prog 169 #[.pointer (some ⟨t,0,none⟩),.int .i64 n] w fun e w'=>e=.returned (.int .i64 0)∧Below w.heap.size w w':=by
  have M:=tmade_any h
  have O:=of_tab h hm n 2 p hl
  unfold mk at O
  have hfd:∀ w:World,(Instr.field 239 (.agg #[.int .u8 2,.int .i64 (p:Int)]) 0).run Tryz.prog w=.ok (.int .u8 2) w:=fun _=>by kernel_rfl
  go_enter Tryz.func169,Tryz.ntmps169
  go_wp2_with (first
    | (go_at_call 162;with_reducible refine M.mono ?_;rintro e w ⟨rfl,rfl⟩)
    | (go_at_call 194;with_reducible refine O.mono ?_;rintro e w2 ⟨rfl,b2⟩))
  go_ret
  exact⟨rfl,b2⟩
theorem isOpen_tab(h:TB w t T){m:List (Int×Value)}(hm:MapI w T.who m)(n:Int)(p:Nat)(hl:m.lookup n=some (mk 2 p)) :
    Calls Tryz.prog 84 #[.pointer (some ⟨t,0,none⟩),.int .i64 n] w fun e w'=>e=.returned (.bool true)∧Below w.heap.size w w':=by
  have A:=asked_tab h hm n p hl
  go_enter Tryz.func84,Tryz.ntmps84
  go_wp2_with (go_at_call 169;with_reducible refine A.mono ?_;rintro e w2 ⟨rfl,b2⟩)
  go_ret
  exact⟨rfl,b2⟩
theorem next_tab(h:TB w t T):Calls Tryz.prog 92 #[.pointer (some ⟨t,0,none⟩)] w fun e w'=>e=.returned (.int .i64 (T.next:Int))∧w'=w:=by
  have M:=tmade_any h
  have c2:w.cell? ⟨t,2,none⟩=some (.int .i64 (T.next:Int)):=h.cell 2
  go_enter Tryz.func92,Tryz.ntmps92
  go_wp2_with (first
    | (go_at_call 162;with_reducible refine M.mono ?_;rintro e w ⟨rfl,rfl⟩)
    | (go_at_call 146;with_reducible refine(Load_any c2).mono ?_;rintro e w1 ⟨rfl,rfl⟩))
  go_ret
  exact⟨rfl,rfl⟩
theorem dead_tab(h:TB w t T):Calls Tryz.prog 105 #[.pointer (some ⟨t,0,none⟩)] w fun e w'=>e=.returned (.slice none 0 0)∧w'=w:=by
  have M:=tmade_any h
  have c6:w.cell? ⟨t,6,none⟩=some (.slice none 0 0):=h.cell 6
  have C:Calls Tryz.prog 139 #[.slice none 0 0] w fun e w'=>e=.returned (.slice none 0 0)∧w'=w:=by
    have hq:(binOp .eql 22 (.slice none 0 0) (.slice none 0 0)).run Tryz.prog w=.ok (.bool true) w:=Go.run_eql_slice_nil (P:=Tryz.prog) w 22 3 none 0 0 Tryz.underlying22
    go_enter Tryz.func139,Tryz.ntmps139
    go_wp2
    go_ret
    exact⟨rfl,rfl⟩
  go_enter Tryz.func105,Tryz.ntmps105
  go_wp2_with (first
    | (go_at_call 162;with_reducible refine M.mono ?_;rintro e w ⟨rfl,rfl⟩)
    | (go_at_call 139;with_reducible refine C.mono ?_;rintro e w1 ⟨rfl,rfl⟩))
  go_ret
  exact⟨rfl,rfl⟩
end
def OR (w:World)(n0:Nat)(v:Value)(l:List Int):Prop:=w.ownsRow n0 3 1 v l.length (l.map (Value.int .i64))
def TF (t:Nat)(T:TR)(k:Nat):Prop:=k=t∨k=T.who∨T.ov.ownBlock=some k
theorem Kp.grow{a b:World}{o:Option Nat}(h:a.grownBy b o):Kp (fun k=>o=some k) a b:=⟨h.os,h.tape,h.output,h.size,fun k hk hs=>h.block k hk fun e=>hs e.symm⟩
theorem info3':(Tryz.prog.info? 3).map (fun i=>(i.zero,i.size,i.bytes))=some (some (.int .i64 0),1,8):=by kernel_rfl
theorem zero3(w:World):(zeroValue 3).run Tryz.prog w=.ok (.int .i64 0) w:=by
  have h:(Tryz.prog.info? 3).map (fun i=>i.zero)=some (some (.int .i64 0)):=by kernel_rfl
  obtain⟨i,hi,hz⟩:=Option.map_eq_some_iff.1 h
  simp[zeroValue,typeInfo,hi,hz]
theorem TB.setC{w:World}{t:Nat}{T:TR}(h:TB w t T)(k:Nat)(v:Value):∃ W,w.setCell ⟨t,k,none⟩ v=W∧W.heap[t]? = some (.cells ((tV t T).set! k v) 235 (0,0))∧Kp (·=t) w W∧W.heap.size=w.heap.size:=set_name k h v
theorem MapI.kp{S:Nat→Prop}{w w':World}{b:Nat}{m:List (Int×Value)}(h:MapI w b m)(hk:Kp S w w')(hs:¬S b):MapI w' b m:=h.keep (hk.block _ h.lt hs)
theorem MapI.ne{w:World}{b g:Nat}{m:List (Int×Value)}(h:MapI w b m){cs:Array Value}{t:TypeId}{z:Nat×Nat}(hg:w.heap[g]? = some (.cells cs t z)):b≠g:=by
  rintro rfl
  obtain⟨E,c,h1,_⟩:=h
  rw[hg] at h1;cases h1
theorem OR.ne{w:World}{n0 g:Nat}{v:Value}{l:List Int}(h:OR w n0 v l){cs:Array Value}{t:TypeId}{z:Nat×Nat}(hg:w.heap[g]? = some (.cells cs t z))(ht:t≠3):v.ownBlock≠some g:=fun e=>by
  rcases h.2 with⟨rfl,_⟩|⟨b,cap,cur,rfl,_,hb,_⟩
  · simp[Value.ownBlock] at e
  · simp only[Value.ownBlock,Option.some.injEq] at e
    subst e
    rw[hg] at hb;injection hb with q;injection q with _ q _;exact ht q
theorem OR.nem{w:World}{n0 g:Nat}{v:Value}{l:List Int}(h:OR w n0 v l){m:List (Int×Value)}(hm:MapI w g m):v.ownBlock≠some g:=fun e=>by
  rcases h.2 with⟨rfl,_⟩|⟨b,cap,cur,rfl,_,hb,_⟩
  · simp[Value.ownBlock] at e
  · simp only[Value.ownBlock,Option.some.injEq] at e
    subst e
    obtain⟨E,c,h1,_⟩:=hm
    rw[hb] at h1;cases h1
theorem OR.lt{w:World}{n0:Nat}{v:Value}{l:List Int}(h:OR w n0 v l){k:Nat}(e:v.ownBlock=some k):k<w.heap.size∧n0≤k:=by
  rcases h.2 with⟨rfl,_⟩|⟨b,cap,cur,rfl,hn,hb,_⟩
  · simp[Value.ownBlock] at e
  · simp only[Value.ownBlock,Option.some.injEq] at e
    subst e
    exact⟨hlt hb,hn⟩
theorem OR.kp{S:Nat→Prop}{w w':World}{n0:Nat}{v:Value}{l:List Int}(h:OR w n0 v l)(hk:Kp S w w')(hs:∀ k,v.ownBlock=some k→¬S k):OR w' n0 v l:=by
  refine⟨h.1,?_⟩
  rcases h.2 with e|⟨g,cap,cur,rfl,h2,h3,h4⟩
  · exact .inl e
  · exact .inr ⟨g,cap,cur,rfl,h2,hk.keep h3 (hs g rfl),h4⟩
theorem OR.form{w:World}{n0:Nat}{v:Value}{l:List Int}(h:OR w n0 v l):∃ A c,v=.slice A l.length c:=by
  rcases h.2 with⟨rfl,e⟩|⟨g,c,_,rfl,_⟩
  · rw[e];exact⟨_,_,rfl⟩
  · exact⟨_,_,rfl⟩
section
variable {w:World}{t n0:Nat}{T:TR}{m:List (Int×Value)}
theorem end1_any{bx:Nat}{n:Int}(hb:w.cell? ⟨bx,0,none⟩=some (.int .i64 n)):Calls Tryz.prog 235 #[.int .i64 n,.pointer (some ⟨bx,0,none⟩)] w fun e w'=>e=.returned (.bool true)∧w'=w:=by
  go_enter Tryz.func235,Tryz.ntmps235
  go_wp2
  go_ret
  exact⟨rfl,rfl⟩
end
theorem dec_lt{a:Int}{b:Int}(h:b≤a):decide (a<b)=false:=by simp;omega
theorem JB.kp{S:Nat→Prop}{w w':World}{j d:Nat}{J:JR}(h:JB w j d J)(hk:Kp S w w')(hs:¬S j):JB w' j d J:=hk.keep h hs
theorem Own.kp{S:Nat→Prop}{w w':World}{B:Nat}{v:Value}{l:List UInt8}(h:Own w B v l)(hk:Kp S w w')(hs:∀ k,v.ownBlock=some k→¬S k):Own w' B v l:=h.blocks fun k e=>hk.block k (h.lt k e) (hs k e)
theorem Own.tag{w:World}{B:Nat}{v:Value}{l:List UInt8}(h:Own w B v l){g:Nat}{x:Array Value}{t:TypeId}{z:Nat×Nat}(hg:w.heap[g]? = some (.cells x t z))(ht:t≠5):v.ownBlock≠some g:=fun e=>by
  rcases h.2 with⟨rfl,_⟩|⟨b,cap,cur,rfl,_,hb,_⟩
  · simp[Value.ownBlock] at e
  · simp only[Value.ownBlock,Option.some.injEq] at e
    subst e
    rw[hg] at hb;injection hb with q;injection q with _ q _;exact ht q
theorem bigA{a b:Nat}(ha:a≤1000000)(hb:b≤1000000):a+b≤140737488355328:=by omega
theorem need_le5{n:Nat}(h:n≤500000):need n≤200:=by unfold need;omega
theorem wrapA{a b:Nat}(ha:a≤4000000000)(hb:b≤4000000000):wrap64 ((a:Int)+(b:Int))=(a:Int)+(b:Int):=IntWalk.wrap64_in _ (by omega)
theorem wrapB{a b:Nat}(ha:a≤4000000000)(hb:b≤4000000000):wrap64 ((a:Int)+(b:Int)-1)=(a:Int)+(b:Int)-1:=IntWalk.wrap64_in _ (by omega)
theorem wrapC{a:Nat}(ha:a≤4000000000):wrap64 ((a:Int)+1)=(a:Int)+1:=IntWalk.wrap64_in _ (by omega)
theorem need_mono{a b:Nat}(h:a≤b):need a≤need b:=by unfold need;omega
theorem jnew_any{Z:Nat→Prop}{w:World}{n0 d db f b ep:Nat}{pv:Value}{P:PD}(h:Dk Z w n0 d db pv P)(h1:1≤b)(h2:b≤1024)(h3:f+b≤P.bs.length)(hP:P.bs.length≤10000)(h4:1≤ep)(h5:ep≤1000000) :
    Calls Tryz.prog 156 #[.pointer (some ⟨d,0,none⟩),.int .i64 (f:Int),.int .i64 (b:Int),.int .i64 (ep:Int),.int .i64 0,.int .i64 1] w fun e w'=>(∃ j,e=.returned (.tuple #[.pointer (some ⟨j,0,none⟩),.int .i64 0])∧JB w' j d ⟨f,b,ep,0,1,0,.slice none 0 0,[],0,0⟩∧w.heap.size≤j)∧Below w.heap.size w w':=by
  have B:=fun w' (hb:Below w.heap.size w w')=>blocks_any (h.below hb).box
  have hp0:¬((P.bs.length:Int)=0):=by omega
  obtain⟨W1,hW1,g1,b1,s1⟩:=box_alloc w (.cells #[.pointer (some ⟨d,0,none⟩),.int .i64 (f:Int),.int .i64 (b:Int),.int .i64 (ep:Int),.pointer none,.int .i64 0,.int .i64 1,.int .i64 0,.slice none 0 0,.int .i64 0,.int .i64 0,.bool false] 232)
  have B0:=B w (Below.refl _ _)
  have B1:=fun n=>B (W1.drewN n) (b1.trans (drewN_below W1 _ n))
  obtain⟨N,hN⟩:∃ N,P.bs.length=N:=⟨_,rfl⟩
  rw[hN] at B0 hp0 h3 hP
  simp only[hN] at B1
  have c0:W1.cell? ⟨w.heap.size,0,none⟩=some (.pointer (some ⟨d,0,none⟩)):=cellD g1 0
  have c1:W1.cell? ⟨w.heap.size,1,none⟩=some (.int .i64 (f:Int)):=cellD g1 1
  have c2:W1.cell? ⟨w.heap.size,2,none⟩=some (.int .i64 (b:Int)):=cellD g1 2
  have c3:W1.cell? ⟨w.heap.size,3,none⟩=some (.int .i64 (ep:Int)):=cellD g1 3
  have q1:(1:Int)≤(b:Int):=by omega
  have q2:(b:Int)≤1024:=by omega
  have q3:(0:Int)≤(f:Int):=by omega
  have q4:(f:Int)≤(N:Int)-(b:Int):=by omega
  have q5:(1:Int)≤(ep:Int):=by omega
  have q6:(ep:Int)≤4294967295:=by omega
  have q7:(0:Int)<(b:Int):=by omega
  have f0:IntKind.i64.wrap ((N:Int)-(b:Int))=(N:Int)-(b:Int):=by rw[IntKind.wrap_i64];omega
  have MB:Calls Tryz.prog 215 #[.pointer (some ⟨w.heap.size,0,none⟩),.int .i64 0,.int .i64 1] W1 fun e w'=>e=.returned (.bool true)∧Below W1.heap.size W1 w':=by
    have q8:0<b:=by omega
    clear hN h1 h2 h3 h4 h5 hP hp0
    go_enter Tryz.func215,Tryz.ntmps215
    go_upto_region 1 with fail
    simp only[List.append_eq,List.cons_append,List.nil_append]
    go_quiet (first
      | (go_at_call 129;refine Calls.quiet_of_same (B1 _)))
    go_wp2
    go_ret
    exact⟨rfl,drewN_below _ _ _⟩
  clear s1 c0 c1 c2 c3 q1 q2 q3 q4 q5 q6 q7 f0 B
  have HN:=Lib.hid hN
  clear hN
  go_enter Tryz.func156,Tryz.ntmps156
  go_wp2_with (first
    | (go_at_call 129;(with_reducible refine B0.mono ?_);rintro e w ⟨rfl,rfl⟩)
    | (go_at_call 215;(with_reducible refine MB.mono ?_);rintro e w2 ⟨rfl,b2⟩;have g1':=keepB b2 g1;have d4:w2.cell? ⟨w.heap.size,4,none⟩=some (.pointer none):=cellD g1' 4;have x4:w2.frozen? ⟨w.heap.size,4,none⟩=false:=frozenD g1' 4;obtain⟨W2,hW2,g2,k2,s2⟩:=set_name 4 g1' (.pointer (some ⟨w.heap.size,0,none⟩));clear s2))
  go_ret2
  refine⟨⟨_,rfl,?_,Nat.le_refl _⟩,(b1.trans (b2.mono b1.size)).trans (k2.below (Nat.le_trans b1.size b2.size) fun k hk=>by omega)⟩
  unfold JB;rw[g2];rfl
end Go.Proofs.YtdbkocfbhpgpkaaGreat
