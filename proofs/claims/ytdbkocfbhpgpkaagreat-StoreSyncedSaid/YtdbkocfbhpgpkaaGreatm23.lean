/-
  slices.Sorted(maps.Keys(m)) at keys of kind int: what the evaluator makes of the two calls, given the contracts of the kit's shelf.
-/
import Derived.Test.YtdbkocfbhpgpkaaGreatm22
import Derived.Laws.LoneSync
import Derived.Lib.Bytealg
import Derived.Lib.SlKeysI
import Derived.Maps.Own
import Derived.Laws.AppendOwn
set_option linter.unusedVariables false
set_option linter.unusedSimpArgs false
namespace Go.Ev
open Go
noncomputable section
inductive Prim where
  | load (k:IntKind)
  | store
  | add (k:IntKind)
  | cas (k:IntKind)
  | compare
  | mark0
  | marked
def Prim.sem:Prim→(Array Value→Sem Value)→Prop
  | .load k,e=>e=Extern.Atomic.loadT (.int k)
  | .store,e=>e=Extern.Atomic.storeT
  | .add k,e=>e=Extern.Atomic.update (Op.intArith .add) k true
  | .cas k,e=>e=Extern.Atomic.casT (.int k)
  | .compare,e=>e=Extern.BytealgCompare.compare
  | .mark0,e=>∃ m,e=fun _=>do mark m;pure Extern.Race.none_
  | .marked,e=>∃ m,e=Extern.Race.marked m
def cmpN:List Nat→List Nat→Int
  | [],[]=>0
  | [],_::_=>-1
  | _::_,[]=>1
  | x::l,y::m=>bif Nat.blt x y then -1 else bif Nat.blt y x then 1 else cmpN l m
def bytesOfA(x:AV)(st:St):Option (Nat×Nat):=
  match x with
  | .str n b=>some (n,b)
  | .snil=>some (0,0)
  | .slice i off len _ _ => bif Nat.beq len 0 then some (0, 0) else match (st.obj i).blk off len with
    | some b => match b.pack with
      | some m=>some (len,m)
      | none=>none
    | none=>none
  | _=>none
def cellI(x:AV)(st:St):Option (IntKind×Int):=
  match x with
  | .ptr i off => match (st.obj i).cell? off with
    | some (.int k n)=>some (k,n)
    | _=>none
  | _=>none
def setI (x:AV)(k:IntKind)(n:Int)(st:St):Option St:=
  match x with
  | .ptr i off => match st.obj i with
    | .cells true sz d t=>bif Nat.blt off sz then some (st.put i (.cells true sz d (t.set off (.int k n)))) else none
    | _=>none
  | _=>none
def primA:Prim→List AV→St→Option (AV×St)
  | .load k, [a], st => match cellI a st with
    | some (k',n)=>bif kindEq k k' then some (.int k n,st) else none
    | none=>none
  | .store, [a, .int k n], st => match setI a k n st with
    | some st'=>some (.tup [],st')
    | none=>none
  | .add k, [a, .int k2 y], st => match cellI a st with
    | some (k',n)=>bif kindEq k k' && kindEq k k2 then match setI a k (wrapF k (n+y)) st with
        | some st'=>some (.int k (wrapF k (n+y)),st')
        | none=>none
      else none
    | none=>none
  | .cas k, [a, .int k2 x, .int k3 y], st => match cellI a st with
    | some (k',n)=>bif kindEq k k' && (kindEq k k2 && kindEq k k3) then match setI a k y st with
        | some st'=>bif eqI n x then some (.bool true,st') else some (.bool false,st)
        | none=>none
      else none
    | none=>none
  | .compare, [a, b], st => match bytesOfA a st, bytesOfA b st with
    | some (n,x),some (m,y)=>some (.int .i64 (bif strEq n x m y then 0 else cmpN (bytesL x n) (bytesL y m)),st)
    | _,_=>none
  | .mark0,[],st=>some (.tup [],st)
  | .marked,[.ptr _ _],st=>some (.tup [],st)
  | _,_,_=>none
theorem kindEq_iff{a b:IntKind}:kindEq a b=true↔a=b:=by simp[kindEq]
theorem cellI_sound{ρ:Ren}{x:AV}{k:IntKind}{n:Int}{st:St}{v:Value}{w:World}(h:cellI x st=some (k,n))(hv:VR ρ x v)(hR:Rel ρ st w) :
    ∃ a,v=.pointer (some a)∧w.cell? a=some (.int k n):=by
  unfold cellI at h
  split at h
  · rename_i i off
    cases hv with | ptr _ _ L hL=>
    split at h
    · rename_i k' n' hc
      simp only[Option.some.injEq,Prod.mk.injEq] at h
      obtain⟨rfl,rfl⟩:=h
      obtain⟨L',hL',u,h1,h2⟩:=hR.cell hc
      rw[hL] at hL';cases hL'
      cases h2
      exact⟨_,rfl,h1⟩
    · cases h
  · cases h
theorem setI_sound{ρ:Ren}{x:AV}{k:IntKind}{n:Int}{st st':St}{v:Value}{w:World}(h:setI x k n st=some st')(hv:VR ρ x v)(hR:Rel ρ st w) :
    ∃ a u,v=.pointer (some a)∧w.cell? a=some u∧w.frozen? a=false∧Good ρ st w ρ st' (w.setCell a (.int k n)):=by
  unfold setI at h
  split at h
  · rename_i i off
    cases hv with | ptr _ _ L hL=>
    split at h
    · rename_i sz d t ho
      obtain⟨hb,h⟩:=bif_some h
      have hb:=blt_iff.1 hb
      simp only[Option.some.injEq] at h
      subst h
      obtain⟨hi,hg⟩:=St.obj_live (st:=st) (i:=i) (by rw[ho];rfl)
      rw[hg] at ho
      obtain⟨L',ob,hL',hob,hr⟩:=hR.live i hi (by rw[ho];rfl)
      rw[hL] at hL';cases hL'
      rw[ho] at hr
      obtain⟨hok,hsz,C,e,fz,rfl,hle,htop,hc,hfz⟩:=hr
      obtain⟨u,hu,_⟩:=hc off hb
      refine⟨L.at off,u,rfl,by rw[Loc.at,cell?_of_block hob];exact hu,?_,?_⟩
      · rw[Loc.at,frozen?_of_block hob]
        exact(hfz rfl).2 _ (by omega)
      · refine hR.upd hi (by rw[ho];rfl) hL (o:=.cells true sz d (t.set off (.int k n))) (ob:=.cells (C.setIfInBounds (L.sh+off) (.int k n)) e fz) ?_ (setCell_block hob)
        refine⟨hok.set _ _,hsz,_,e,fz,rfl,hle,by simpa using htop,?_,fun q=>by simpa using hfz q⟩
        intro j hj
        by_cases e:j=off
        · subst e
          rw[T.get_set_same]
          refine⟨.int k n,?_,.int _ _⟩
          rw[Array.getElem?_setIfInBounds_self_of_lt (by omega)]
        · rw[T.get_set_ne d t off j _ hok (by omega) (by omega) (Ne.symm e),Array.getElem?_setIfInBounds_ne (by omega)]
          exact hc j hj
    · cases h
  · cases h
theorem run_loadBytes{P:Program}{w:World}:∀ (n:Nat) (a:Addr) (acc:ByteArray) (m:Nat),(∀ (j:Nat) (v:Value),(bytesV m n)[j]? = some v→w.cell? (a.add j)=some v) →
    ∃ s,(Extern.Bytes.loadBytes a n acc).run P w=.ok s w∧s.data.toList.map UInt8.toNat=acc.data.toList.map UInt8.toNat++bytesL m n:=by
  intro n
  induction n with
  | zero=>intro a acc m _;exact⟨acc,rfl,by simp[bytesL]⟩
  | succ n ih =>
    intro a acc m h
    have h0:=h 0 (.int .u8 ((m % 256:Nat):Int)) (by simp[bytesV,bytesL])
    rw[show a.add 0=a from rfl] at h0
    obtain⟨s,h1,h2⟩:=ih (a.add 1) (acc.push ((m % 256:Nat):Int).toNat.toUInt8) (m >>> 8) (by
      intro j v hj
      have:(a.add 1).add j=a.add (j+1):=by
        unfold Addr.add
        by_cases hj0:j=0
        · subst hj0;simp
        · simp[hj0];omega
      rw[this]
      exact h (j+1) v (by simpa[bytesV,bytesL] using hj))
    refine⟨s,?_,?_⟩
    · simp only[Extern.Bytes.loadBytes,Sem.run_bind]
      have hl:(load a:Sem Value).run P w=.ok (.int .u8 ((m % 256:Nat):Int)) w:=by simp[h0]
      rw[hl]
      simp only[Result.andThen_ok]
      exact h1
    · rw[h2]
      have:(((m % 256:Nat):Int).toNat.toUInt8).toNat=m % 256:=by
        have:m % 256<256:=Nat.mod_lt _ (by omega)
        rw[Int.toNat_natCast]
        simp
      simp only[ByteArray.data_push,Array.toList_push,List.map_append,List.map_cons,List.map_nil,List.append_assoc,List.cons_append,List.nil_append,this,bytesL]
theorem bytesOfA_sound{P:Program}{ρ:Ren}{x:AV}{n b:Nat}{st:St}{v:Value}{w:World}(h:bytesOfA x st=some (n,b))(hv:VR ρ x v)(hR:Rel ρ st w) :
    ∃ s,(Extern.Bytes.bytesOf v).run P w=.ok s w∧s.data.toList.map UInt8.toNat=bytesL b n:=by
  unfold bytesOfA at h
  split at h
  · simp only[Option.some.injEq,Prod.mk.injEq] at h
    obtain⟨rfl,rfl⟩:=h
    cases hv with | str _ _ s hs=>exact⟨s,rfl,hs⟩
  · simp only[Option.some.injEq,Prod.mk.injEq] at h
    obtain⟨rfl,rfl⟩:=h
    cases hv
    exact⟨.empty,rfl,rfl⟩
  · rename_i i off len cap es
    cases hb:Nat.beq len 0 with
    | true =>
      rw[hb] at h
      simp only[cond_true,Option.some.injEq,Prod.mk.injEq] at h
      obtain⟨rfl,rfl⟩:=h
      have hl:=beq_iff.1 hb
      subst hl
      cases hv with
      | slice _ _ _ _ _ cap' L=>exact⟨.empty,rfl,rfl⟩
      | slice0=>exact⟨.empty,rfl,rfl⟩
    | false =>
      rw[hb] at h
      simp only[cond_false] at h
      have hl:len≠0:=fun e=>by rw[beq_iff.2 e] at hb;cases hb
      split at h
      · rename_i x hx
        split at h
        · rename_i m hm
          simp only[Option.some.injEq,Prod.mk.injEq] at h
          obtain⟨rfl,rfl⟩:=h
          obtain⟨L,hL,vs,g1,g2,g3,g4⟩:=hR.blk hx
          rw[Blk.pack_eq hm] at g1
          have hvs:=VRs_bytesA g1
          rw[g4] at hvs
          cases hv with
          | slice0=>exact absurd rfl hl
          | slice _ _ _ _ _ cap' L' hL' =>
            rw[hL] at hL';cases hL'
            obtain⟨s,h1,h2⟩:=run_loadBytes (P:=P) (w:=w) len (L.at off) .empty m (fun j v hj=>by rw[L.at_add];exact g3 j v (by rw[hvs];exact hj))
            exact⟨s,h1,by simpa using h2⟩
        · cases h
      · cases h
  · cases h
theorem cmpN_eq:∀ (x y:List UInt8),cmpN (x.map UInt8.toNat) (y.map UInt8.toNat)=Lib.compareBytes x y
  | [],[]=>rfl
  | [],_::_=>rfl
  | _::_,[]=>rfl
  | a :: l, b :: m => by
    simp only[List.map_cons,cmpN,Lib.compareBytes,cmpN_eq l m]
    have h1:Nat.blt a.toNat b.toNat=decide (a<b):=by
      by_cases h:a<b
      · rw[decide_eq_true h];exact blt_iff.2 (UInt8.lt_iff_toNat_lt.1 h)
      · rw[decide_eq_false h]
        cases hb:Nat.blt a.toNat b.toNat with
        | false=>rfl
        | true=>exact(h (UInt8.lt_iff_toNat_lt.2 (blt_iff.1 hb))).elim
    have h2:Nat.blt b.toNat a.toNat=decide (b<a):=by
      by_cases h:b<a
      · rw[decide_eq_true h];exact blt_iff.2 (UInt8.lt_iff_toNat_lt.1 h)
      · rw[decide_eq_false h]
        cases hb:Nat.blt b.toNat a.toNat with
        | false=>rfl
        | true=>exact(h (UInt8.lt_iff_toNat_lt.2 (blt_iff.1 hb))).elim
    rw[h1,h2]
    by_cases c1:a<b<;>by_cases c2:b<a<;>simp[c1,c2]
theorem cmpN_refl:∀ l:List Nat,cmpN l l=0
  | []=>rfl
  | x :: l => by
    have:Nat.blt x x=false:=by
      cases hb:Nat.blt x x with
      | false=>rfl
      | true=>exact absurd (blt_iff.1 hb) (Nat.lt_irrefl _)
    simp[cmpN,this,cmpN_refl l]
theorem primA_sound{P:Program}{p:Prim}{e:Array Value→Sem Value}(hp:p.sem e){f:FuncId}{fn:Func}(hf:P.funcs[f]? = some fn)(hname:(fn.name == "runtime.NumGoroutine")=false)(hb:fn.body.isNone=true)(hn:Extern.findNext fn=none)(he:Extern.find fn=some e)
    {args:List AV} {st st':St} {v:AV} (h:primA p args st=some (v,st')) {ρ:Ren} {w:World} {cargs:Array Value} (hR:Rel ρ st w) (hA:VRs ρ args cargs.toList) :
    FkOk P ρ w cargs (fun vc w'=>∃ ρ',VR ρ' v vc∧Good ρ st w ρ' st' w') (.func f):=by
  right
  obtain⟨cl⟩:=cargs
  simp only[] at hA
  unfold primA at h
  split at h
  · rename_i k a
    cases hp
    cases hA with | cons h1 hA=>
    cases hA
    split at h
    · rename_i k' n hc
      have h9:=bif_some h
      clear h
      obtain⟨hk,h⟩:=h9
      have hk:=kindEq_iff.1 hk;subst hk
      simp only[Option.some.injEq,Prod.mk.injEq] at h
      obtain⟨rfl,rfl⟩:=h
      obtain⟨ad,rfl,hcell⟩:=cellI_sound hc h1 hR
      exact⟨_,w,run_call_load hf hname hb hn k he hcell,ρ,.int _ _,.refl hR⟩
    · cases h
  · rename_i a k n
    cases hp
    cases hA with | cons h1 hA=>
    cases hA with | cons h2 hA=>
    cases hA
    cases h2
    split at h
    · rename_i s1 hs
      simp only[Option.some.injEq,Prod.mk.injEq] at h
      obtain⟨rfl,rfl⟩:=h
      obtain⟨ad,u,rfl,hcell,hfz,hg⟩:=setI_sound hs h1 hR
      exact⟨_,_,run_call_store hf hname hb hn he hcell hfz,ρ,.tup _ _ .nil,hg⟩
    · cases h
  · rename_i k a k2 y
    cases hp
    cases hA with | cons h1 hA=>
    cases hA with | cons h2 hA=>
    cases hA
    cases h2
    split at h
    · rename_i k' n hc
      have h9:=bif_some h
      clear h
      obtain⟨hk,h⟩:=h9
      simp only[Bool.and_eq_true] at hk
      have hk1:=kindEq_iff.1 hk.1;have hk2:=kindEq_iff.1 hk.2
      subst hk1;subst hk2
      split at h
      · rename_i s1 hs
        simp only[Option.some.injEq,Prod.mk.injEq] at h
        obtain⟨rfl,rfl⟩:=h
        obtain⟨ad,rfl,hcell⟩:=cellI_sound hc h1 hR
        obtain⟨ad',u,had,_,hfz,hg⟩:=setI_sound hs h1 hR
        cases had
        exact⟨_,_,run_call_add hf hname hb hn k he hcell hfz (by simp[Op.intArith,wrapF_eq,wrapA_eq]),ρ,.int _ _,hg⟩
      · cases h
    · cases h
  · rename_i k a k2 x k3 y
    cases hp
    cases hA with | cons h1 hA=>
    cases hA with | cons h2 hA=>
    cases hA with | cons h3 hA=>
    cases hA
    cases h2;cases h3
    split at h
    · rename_i k' n hc
      have h9:=bif_some h
      clear h
      obtain⟨hk,h⟩:=h9
      simp only[Bool.and_eq_true] at hk
      have hk1:=kindEq_iff.1 hk.1;have hk2:=kindEq_iff.1 hk.2.1;have hk3:=kindEq_iff.1 hk.2.2
      subst hk1;subst hk2;subst hk3
      split at h
      · rename_i s1 hs
        obtain⟨ad,rfl,hcell⟩:=cellI_sound hc h1 hR
        obtain⟨ad',u,had,_,hfz,hg⟩:=setI_sound hs h1 hR
        cases had
        rw[eqI_eq] at h
        by_cases hnx:n=x
        · subst hnx
          simp only[beq_self_eq_true,cond_true,Option.some.injEq,Prod.mk.injEq] at h
          obtain⟨rfl,rfl⟩:=h
          exact⟨_,_,run_call_cas_hit hf hname hb hn k he hcell hfz,ρ,.bool _,hg⟩
        · have:(n==x)=false:=by simpa using hnx
          rw[this] at h
          simp only[cond_false,Option.some.injEq,Prod.mk.injEq] at h
          obtain⟨rfl,rfl⟩:=h
          exact⟨_,_,run_call_cas_miss hf hname hb hn k he hcell hfz hnx,ρ,.bool _,.refl hR⟩
      · cases h
    · cases h
  · rename_i a b
    cases hp
    cases hA with | cons h1 hA=>
    cases hA with | cons h2 hA=>
    cases hA
    split at h
    · rename_i n x m y ha hb'
      simp only[Option.some.injEq,Prod.mk.injEq] at h
      obtain⟨rfl,rfl⟩:=h
      obtain⟨s,g1,g2⟩:=bytesOfA_sound (P:=P) ha h1 hR
      obtain⟨s',g3,g4⟩:=bytesOfA_sound (P:=P) hb' h2 hR
      refine⟨.int .i64 (Lib.compareBytes s.data.toList s'.data.toList),w,?_,ρ,?_,.refl hR⟩
      · rw[run_callFunc_extern hf hname hb hn he]
        have:∀ u u':Value,(Extern.BytealgCompare.compare #[u,u'])=(do pure (goInt (Extern.BytealgCompare.cmp (← Extern.Bytes.bytesOf u) (← Extern.Bytes.bytesOf u'))):Sem Value):=fun _ _=>rfl
        rw[this]
        simp only[Sem.run_bind,g1,g3,Result.andThen_ok,Sem.run_pure,Lib.cmp_eq]
        rfl
      · have hc:(bif strEq n x m y then(0:Int) else cmpN (bytesL x n) (bytesL y m))=Lib.compareBytes s.data.toList s'.data.toList:=by
          rw[← cmpN_eq,g2,g4]
          cases hse:strEq n x m y with
          | false=>rfl
          | true=>rw[(strEq_iff n x m y).1 hse,cmpN_refl];rfl
        rw[hc]
        exact .int _ _
    · cases h
  · obtain⟨m,rfl⟩:=hp
    cases hA
    simp only[Option.some.injEq,Prod.mk.injEq] at h
    obtain⟨rfl,rfl⟩:=h
    exact⟨_,w,run_call_mark0 hf hname hb hn m he w,ρ,.tup _ _ .nil,.refl hR⟩
  · obtain⟨m,rfl⟩:=hp
    cases hA with | cons h1 hA=>
    cases hA
    cases h1 with | ptr _ _ L hL=>
    simp only[Option.some.injEq,Prod.mk.injEq] at h
    obtain⟨rfl,rfl⟩:=h
    exact⟨_,w,run_call_marked hf hname hb hn m he _ w,ρ,.tup _ _ .nil,.refl hR⟩
  · cases h
abbrev PrimT:=List (FuncId×Prim)
def primE(T:PrimT):ExtF:=fun f args st=>match T.lookup f with
  | some p=>primA p args st
  | none=>none
def PrimOk(P:Program)(x:FuncId×Prim):Prop:=
  ∃ fn e,P.funcs[x.1]? = some fn∧(fn.name == "runtime.NumGoroutine")=false∧fn.body.isNone=true∧Extern.findNext fn=none∧Extern.find fn=some e∧x.2.sem e
theorem primE_ok{P:Program}{G:Nat}:∀ {T:PrimT},(∀ x∈T,PrimOk P x)→ExtOk P G (primE T):=by
  intro T hT f args st v st' h ρ w cargs hR hG hA
  unfold primE at h
  split at h
  · rename_i p hp
    have hm:(f,p)∈T:=by
      clear h hT
      induction T with
      | nil=>simp at hp
      | cons x T ih =>
        rw[List.lookup_cons] at hp
        split at hp
        · rename_i he
          have:f=x.1:=by simpa using he
          cases hp
          subst this
          simp
        · exact List.mem_cons_of_mem _ (ih hp)
    obtain⟨fn,e,h1,h2,h3,h4,h5,h6⟩:=hT _ hm
    exact primA_sound h6 h1 h2 h3 h4 h5 h hR hA
  · cases h
end
end Go.Ev
namespace Go.Ev
open Go Go.RowKit
noncomputable section
theorem Good.named{ρ:Ren}{st:St}{w w':World}(h:Rel ρ st w)(hb:Below w.heap.size w w')(hr:st.room=true){L:Loc}(hL:w.heap.size≤L.b){o:AO}{ob:Obj}(hob:w'.heap[L.b]? = some ob)(ho:ORel (ρ.set st.next L) L o ob) :
    Good ρ st w (ρ.set st.next L) (st.alloc o) w':=by
  have hn:st.next<2 ^ st.dep:=blt_iff.1 hr
  have hext:Ext ρ (ρ.set st.next L):=Ren.ext_set (h.fresh _ (Nat.le_refl _))
  have hget:∀ j,j<st.next→(st.alloc o).heap.get j=st.heap.get j:=fun j hj=>
    T.get_set_ne st.dep st.heap st.next j o h.ok hn (Nat.lt_trans hj hn) (by omega)
  have hgn:(st.alloc o).heap.get st.next=o:=T.get_set_same st.heap st.next o
  have hold:∀ j,j<st.next→ρ.set st.next L j=ρ j:=fun j hj=>Ren.set_ne (by omega)
  have hlt:∀ j M,j<st.next→(st.heap.get j).live=true→ρ j=some M→M.b<w.heap.size:=fun j M hj hl hM=>h.lt_size hj hl hM
  refine⟨hext,⟨h.ok.set _ _,by show st.next+1≤2 ^ st.dep;omega,?_,?_,?_⟩,rfl,by show st.next≤st.next+1;omega,hb.size,hb.os,hb.tape,hb.output,?_,?_,?_,hold⟩
  · intro i hi
    have hi':st.next+1≤i:=hi
    rw[Ren.set_ne (by omega)]
    exact h.fresh i (by omega)
  · intro i hi hl
    have hi':i<st.next+1:=hi
    by_cases e:i=st.next
    · subst e
      exact⟨L,ob,Ren.set_same _ _ _,hob,by rw[hgn];exact ho⟩
    · rw[hget i (by omega)] at hl ⊢
      obtain⟨M,om,hM,hom,hr⟩:=h.live i (by omega) hl
      refine⟨M,om,hext _ _ hM,?_,hr.ext hext⟩
      rw[hb.block _ (hlt i M (by omega) hl hM)];exact hom
  · intro i j M N hi hj hne hl hjw hM hN
    have hi':i<st.next+1:=hi
    have hj':j<st.next+1:=hj
    by_cases e:i=st.next
    · subst e
      rw[hget j (by omega)] at hjw
      rw[hold j (by omega)] at hN
      rw[Ren.set_same] at hM;cases hM
      have:=hlt j N (by omega) (AO.live_of_writable hjw) hN
      omega
    · rw[hget i (by omega)] at hl
      rw[hold i (by omega)] at hM
      by_cases e':j=st.next
      · subst e'
        rw[Ren.set_same] at hN;cases hN
        have:=hlt i M (by omega) hl hM
        omega
      · rw[hget j (by omega)] at hjw
        rw[hold j (by omega)] at hN
        exact h.inj i j M N (by omega) (by omega) hne hl hjw hM hN
  · intro b hb' _
    exact hb.block b hb'
  · intro i M hi hw hρ hLb
    have hi':i<st.next+1:=hi
    by_cases e:i=st.next
    · subst e;rw[Ren.set_same] at hρ;cases hρ;omega
    · rw[hget i (by omega)] at hw ⊢
      rw[hold i (by omega)] at hρ
      exact⟨i,M,by omega,hw,hρ,rfl,id⟩
  · intro i hi hd
    rw[hget i hi];exact hd
theorem Good.below{ρ:Ren}{st:St}{w w':World}(h:Rel ρ st w)(hb:Below w.heap.size w w'):Good ρ st w ρ st w':=by
  refine⟨.refl ρ,⟨h.ok,h.lt,h.fresh,?_,h.inj⟩,rfl,Nat.le_refl _,hb.size,hb.os,hb.tape,hb.output,fun b hb' _=>hb.block b hb',fun i L a b c _=>⟨i,L,a,b,c,rfl,id⟩,fun _ _ h=>h,fun _ _=>rfl⟩
  intro i hi hl
  obtain⟨M,om,hM,hom,hr⟩:=h.live i hi hl
  exact⟨M,om,hM,by rw[hb.block _ (h.lt_size hi hl hM)];exact hom,hr⟩
def insI (x:Int):List Int→List Int
  | []=>[x]
  | y::l=>bif ltA y x then y::insI x l else x::y::l
def sortI:List Int→List Int
  | []=>[]
  | x::l=>insI x (sortI l)
theorem insI_perm(x:Int):∀ l,(insI x l).Perm (x::l)
  | []=>.refl _
  | y :: l => by
    simp only[insI]
    cases ltA y x with
    | true=>exact(List.Perm.cons y (insI_perm x l)).trans (.swap x y l)
    | false=>exact .refl _
theorem sortI_perm:∀ l,(sortI l).Perm l
  | []=>.refl _
  | x::l=>(insI_perm x _).trans (.cons x (sortI_perm l))
theorem insI_sorted(x:Int):∀ l:List Int,l.Pairwise (·≤·)→(insI x l).Pairwise (·≤·)
  | [],_=>by simp[insI]
  | y :: l, h => by
    obtain⟨h1,h2⟩:=List.pairwise_cons.1 h
    simp only[insI]
    cases hb:ltA y x with
    | true =>
      rw[ltA_eq] at hb
      have hlt:=of_decide_eq_true hb
      refine List.pairwise_cons.2 ⟨?_,insI_sorted x l h2⟩
      intro z hz
      rcases List.mem_cons.1 ((insI_perm x l).mem_iff.1 hz) with rfl|hz
      · omega
      · exact h1 z hz
    | false =>
      rw[ltA_eq] at hb
      have hlt:=of_decide_eq_false hb
      refine List.pairwise_cons.2 ⟨?_,h⟩
      intro z hz
      rcases List.mem_cons.1 hz with rfl|hz
      · omega
      · have:=h1 z hz;omega
theorem sortI_sorted:∀ l,(sortI l).Pairwise (·≤·)
  | []=>.nil
  | x::l=>insI_sorted x _ (sortI_sorted l)
theorem sortI_eq{l ss:List Int}(h:ss.Perm l):ss.mergeSort (fun x y=>decide (x≤y))=sortI l:=by
  have tr:∀ a b c:Int,leI a b=true→leI b c=true→leI a c=true:=fun a b c h1 h2=>by simp only[leI,decide_eq_true_eq] at *;exact Int.le_trans h1 h2
  have to:∀ a b:Int,(leI a b || leI b a)=true:=fun a b=>by simp only[leI,Bool.or_eq_true,decide_eq_true_eq];exact Int.le_total a b
  refine List.Perm.eq_of_pairwise (le:=fun a b=>leI a b=true) (fun a b _ _ h1 h2=>?_) (List.pairwise_mergeSort tr to ss) ?_ (((List.mergeSort_perm ss leI).trans h).trans (sortI_perm l).symm)
  · simp only[leI,decide_eq_true_eq] at h1 h2
    exact Int.le_antisymm h1 h2
  · exact(sortI_sorted l).imp (fun hab=>by simpa[leI] using hab)
def inI64(n:Int):Bool:=match n with
  | .ofNat m=>Nat.ble m 9223372036854775807
  | .negSucc m=>Nat.ble m 9223372036854775807
theorem inI64_wf{n:Int}(h:inI64 n=true):(Lit.int .i64 n).wf=true:=by
  unfold inI64 at h
  have h1:IntKind.min .i64=-9223372036854775808:=rfl
  have h2:IntKind.max .i64=9223372036854775807:=rfl
  split at h
  · rename_i m
    have:=Nat.le_of_ble_eq_true h
    simp only[Lit.wf,h1,h2,Bool.and_eq_true,decide_eq_true_eq,Int.ofNat_eq_natCast]
    omega
  · rename_i m
    have:=Nat.le_of_ble_eq_true h
    simp only[Lit.wf,h1,h2,Bool.and_eq_true,decide_eq_true_eq,Int.negSucc_eq]
    omega
def keysI:List (AV×AV)→Option (List Int)
  | []=>some []
  | (.int .i64 n,_)::l=>bif inI64 n then match keysI l with
      | some r=>some (n::r)
      | none=>none
    else none
  | _=>none
theorem keysI_sound{ρ:Ren}:∀ (es:List (AV×AV)) (l:List Int) (ks:List Value),keysI es=some l→VRs ρ (es.map (·.1)) ks→ks=l.map encZ∧∀ n∈l,(Lit.int .i64 n).wf=true
  | [], l, _, h, .nil => by
    simp only[keysI,Option.some.injEq] at h
    subst h
    simp
  | (k, v) :: es, l, _, h, .cons (v := u) (m := m) h1 h2 => by
    unfold keysI at h
    split at h
    · rename_i heq;cases heq
    · rename_i n a b heq
      cases heq
      obtain⟨hb,h'⟩:=bif_some h
      split at h'
      · rename_i r hr
        simp only[Option.some.injEq] at h'
        subst h'
        obtain⟨g1,g2⟩:=keysI_sound _ r m hr h2
        cases h1
        refine⟨by rw[g1];rfl,?_⟩
        intro x hx
        rcases List.mem_cons.1 hx with rfl|hx
        · exact inI64_wf hb
        · exact g2 x hx
      · cases h'
    · cases h
structure KeysAt(P:Program)(fK fS g kt mt:Nat):Prop where
  key:P.underlying kt=some (.int .i64)
  enterK:enters P fK=true
  enterS:enters P fS=true
  keys:∀ (mb:Option Nat) (W:World),Calls P fK #[.map mb] W fun e w'=>e=.returned (.func (.func g) #[] #[.pointer (some ⟨W.heap.size,0,none⟩)])∧w'=W.alloc (.cells #[.map mb] mt)
  sorted:∀ (b nn:Nat) (D0:DataW Unit) (R:Value→Option (DataW Unit×List MemPlace)) (w:World) (Bm:Nat),Bm<w.heap.size→w.cell? ⟨Bm,0,none⟩=some (.map (some b))→w.ownsMap P kt R b nn D0 →
    Maps.size D0≤maxLen→Maps.size D0 * 8≤140737488355328→Calls P fS #[.func (.func g) #[] #[.pointer (some ⟨Bm,0,none⟩)]] w fun e w'=>∃ (v:Value) (ss:List Int),e=.returned v∧ss.Perm (intKeys D0) ∧
      w'.ownsRow w.heap.size kt 1 v ss.length ((ss.mergeSort (fun x y=>decide (x≤y))).map encZ)∧(v=.slice none 0 0↔ss=[])∧Below w.heap.size w w'
  sorted0:∀ (w:World) (Bm:Nat),Bm<w.heap.size→w.cell? ⟨Bm,0,none⟩=some (.map none)→Calls P fS #[.func (.func g) #[] #[.pointer (some ⟨Bm,0,none⟩)]] w fun e w'=>e=.returned (.slice none 0 0)∧Below w.heap.size w w'
def sortedRow(l:List Int)(st:St):Option (AV×St):=
  match sortI l with
  | []=>some (.snil,st)
  | x :: r => match mkRow (.l ((x :: r).map (AV.int .i64))) with
    | some o=>bif st.room && Nat.ble (Nat.succ r.length) 4294967296 then some (.slice st.top 0 (Nat.succ r.length) (Nat.succ r.length) 1,st.alloc o) else none
    | none=>none
abbrev KeysT:=List (FuncId×FuncId×FuncId)
def keysE:KeysT→ExtF
  | [],_,_,_=>none
  | (fK,fS,g)::T,f,args,st=>bif Nat.beq f fK then
      match args with
      | [m] => match m with
        | .map _=>bif st.room then some (.func (.func g) [] [.ptr st.top 0],st.alloc (.box m)) else none
        | .mnil=>bif st.room then some (.func (.func g) [] [.ptr st.top 0],st.alloc (.box m)) else none
        | _=>none
      | _=>none
    else bif Nat.beq f fS then
      match args with
      | [.func (.func g') [] [.ptr i off]]=>bif Nat.beq g' g then
          match (bif Nat.beq off 0 then st.obj i else .dead) with
          | .box .mnil=>some (.snil,st)
          | .box (.map j) => match st.obj j with
            | .map es => match keysI es with
              | some l=>sortedRow l st
              | none=>none
            | _=>none
          | _=>none
        else keysE T f args st
      | _=>none
    else keysE T f args st
theorem map_inj_of{α β:Type}{f:α→β}(hf:∀ {a b},f a=f b→a=b):∀ {l m:List α},l.map f=m.map f→l=m
  | [],[],_=>rfl
  | [],_::_,h=>by simp at h
  | _::_,[],h=>by simp at h
  | a :: l, b :: m, h => by
    simp only[List.map_cons,List.cons.injEq] at h
    rw[hf h.1,map_inj_of hf h.2]
theorem VRs_ints{ρ:Ren}:∀ l:List Int,VRs ρ (l.map (AV.int .i64)) (l.map encZ)
  | []=>.nil
  | x::l=>.cons (.int .i64 x) (VRs_ints l)
theorem sortedRow_sound{P:Program}{fS kt:Nat}{ρ:Ren}{st st':St}{w:World}{l:List Int}{v:AV}(h:sortedRow l st=some (v,st'))(hR:Rel ρ st w){cargs:Array Value}
    (hc:(fun l'=>l'.length≤4294967296) l→Calls P fS cargs w fun e w'=>∃ (v:Value) (ss:List Int),e=.returned v∧ss.Perm l ∧
      w'.ownsRow w.heap.size kt 1 v ss.length ((ss.mergeSort (fun x y=>decide (x≤y))).map encZ)∧(v=.slice none 0 0↔ss=[])∧Below w.heap.size w w') :
    Calls P fS cargs w fun e w'=>∃ vc,e=.returned vc∧∃ ρ',VR ρ' v vc∧Good ρ st w ρ' st' w':=by
  have hlen:(sortI l).length=l.length:=(sortI_perm l).length_eq
  unfold sortedRow at h
  split at h
  · rename_i hs
    simp only[Option.some.injEq,Prod.mk.injEq] at h
    obtain⟨rfl,rfl⟩:=h
    rw[hs] at hlen
    have hl0:l=[]:=List.eq_nil_of_length_eq_zero hlen.symm
    subst hl0
    refine(hc (by simp)).mono ?_
    rintro e w' ⟨v,ss,rfl,hp,hrow,hnil,hb⟩
    have hss:ss=[]:=hp.eq_nil
    exact⟨v,rfl,ρ,by rw[hnil.2 hss];exact .snil,Good.below hR hb⟩
  · rename_i x r hs
    split at h
    · rename_i o ho
      obtain⟨hcond,h'⟩:=bif_some h
      simp only[Bool.and_eq_true] at hcond
      obtain⟨hroom,hle⟩:=hcond
      have hle:=Nat.le_of_ble_eq_true hle
      simp only[Option.some.injEq,Prod.mk.injEq] at h'
      obtain⟨rfl,rfl⟩:=h'
      rw[hs] at hlen
      simp only[List.length_cons] at hlen
      refine(hc (by simp only[];omega)).mono ?_
      rintro e w' ⟨v,ss,rfl,hp,hrow,hnil,hb⟩
      rw[sortI_eq hp,hs] at hrow
      have hsl:ss.length=r.length+1:=by rw[hp.length_eq];omega
      obtain⟨_,hrow⟩:=hrow
      rcases hrow with⟨_,h0⟩|⟨g,cap,cur,rfl,hbase,hgb,r1,r2,r3,r4⟩
      · omega
      · have htop:st.top=st.next:=rfl
        rw[htop,hsl]
        refine⟨_,rfl,ρ.set st.next ⟨g,0,cap⟩,?_,?_⟩
        · refine .slice st.next 0 (Nat.succ r.length) (Nat.succ r.length) 1 cap ⟨g,0,cap⟩ (Ren.set_same _ _ _) (by omega) (Nat.le_refl _) (by simp) (fun _=>⟨by omega,by simp⟩)
        · refine Good.named (L:=⟨g,0,cap⟩) hR hb hroom hbase hgb ?_
          refine mkRow_rel_at ho (vs:=(x::r).map encZ) (VRs_ints _) ?_ ?_ ?_ (free_none _) (fun _ _=>free_none _)
          · intro k v hk
            have hkl:k<(x::r).length:=by
              have:=(List.getElem?_eq_some_iff.1 hk).1
              simpa using this
            rw[← r4] at hk
            rw[List.getElem?_take] at hk
            split at hk
            · simpa using hk
            · cases hk
          · simp only[List.length_map,List.length_cons];omega
          · omega
    · cases h
theorem run_cell_box{ρ:Ren}{st:St}{w:World}(hR:Rel ρ st w){i:Nat}{m:AV}(h:st.obj i=.box m):∃ L u,ρ i=some L∧L.sh=0∧L.b<w.heap.size∧w.cell? ⟨L.b,0,none⟩=some u∧VR ρ m u:=by
  obtain⟨hi,hg⟩:=St.obj_live (st:=st) (i:=i) (by rw[h];rfl)
  rw[hg] at h
  obtain⟨L,ob,hL,hob,hr⟩:=hR.live i hi (by rw[h];rfl)
  rw[h] at hr
  obtain⟨h0,C,e,fz,u,rfl,h1,h2⟩:=hr
  exact⟨L,u,hL,h0,(Array.getElem?_eq_some_iff.1 hob).1,by rw[cell?_of_block hob];exact h1,h2⟩
theorem keysE_ok{P:Program}{G:Nat}:∀ {T:KeysT},(∀ x∈T,∃ kt mt,KeysAt P x.1 x.2.1 x.2.2 kt mt)→ExtOk P G (keysE T):=by
  intro T
  induction T with
  | nil=>intro _ f args st v st' h;cases h
  | cons x T ih =>
    obtain⟨fK,fS,g⟩:=x
    intro hT f args st v st' h ρ w cargs hR hG hA
    have hT':=ih (fun x hx=>hT x (by simp[hx]))
    obtain⟨kt,mt,K⟩:=hT (fK,fS,g) (by simp)
    simp only[] at K
    unfold keysE at h
    cases hfK:Nat.beq f fK with
    | true =>
      rw[hfK] at h
      simp only[cond_true] at h
      have:=Nat.eq_of_beq_eq_true hfK
      subst this
      refine .inl ⟨enters_spec K.enterK cargs,?_⟩
      obtain⟨cl⟩:=cargs
      split at h
      · rename_i m
        cases hA with | cons hm hA=>
        cases hA
        have key:∀ mb:Option Nat,VR ρ m (.map mb)→(bif st.room then some (AV.func (.func g) [] [.ptr st.top 0],st.alloc (.box m)) else none)=some (v,st')→Calls P f #[.map mb] w fun e w'=>∃ vc,e=.returned vc∧∃ ρ',VR ρ' v vc∧Good ρ st w ρ' st' w':=by
          intro mb hmv h
          obtain⟨hroom,h'⟩:=bif_some h
          simp only[Option.some.injEq,Prod.mk.injEq] at h'
          obtain⟨rfl,rfl⟩:=h'
          refine(K.keys mb w).mono ?_
          rintro e w' ⟨rfl,rfl⟩
          have hg:Good ρ st w (ρ.set st.next ⟨w.heap.size,0,0⟩) (st.alloc (.box m)) (w.alloc (.cells #[.map mb] mt)):=
            hR.alloc hroom ⟨rfl,#[.map mb],mt,(0,0),.map mb,rfl,rfl,hmv.ext (Ren.ext_set (hR.fresh _ (Nat.le_refl _)))⟩
          refine⟨_,rfl,_,?_,hg⟩
          refine .func _ _ _ _ _ .nil (.cons ?_ .nil)
          exact .ptr st.next 0 ⟨w.heap.size,0,0⟩ (Ren.set_same _ _ _)
        split at h
        · cases hm with | map _ L hL=>exact key (some L.b) (.map _ L hL) h
        · cases hm;exact key none .mnil h
        · cases h
      · cases h
    | false =>
      rw[hfK] at h
      simp only[cond_false] at h
      cases hfS:Nat.beq f fS with
      | false =>
        rw[hfS] at h
        exact hT' f args st v st' h ρ w cargs hR hG hA
      | true =>
        rw[hfS] at h
        simp only[cond_true] at h
        have:=Nat.eq_of_beq_eq_true hfS
        subst this
        split at h
        · rename_i g' i off
          cases hgg:Nat.beq g' g with
          | false =>
            rw[hgg] at h
            exact hT' f _ st v st' h ρ w cargs hR hG hA
          | true =>
            rw[hgg] at h
            simp only[cond_true] at h
            have:=Nat.eq_of_beq_eq_true hgg
            subst this
            refine .inl ⟨enters_spec K.enterS cargs,?_⟩
            obtain⟨cl⟩:=cargs
            cases hA with | cons hm hA=>
            cases hA
            cases hm with | func _ _ _ f' c' hf hc=>
            obtain⟨fl⟩:=f'
            obtain⟨cl'⟩:=c'
            cases hf
            cases hc with | cons hp hc=>
            cases hc
            cases hp with | ptr _ _ L hL=>
            split at h
            · rename_i hbox
              cases hoff:Nat.beq off 0 with
              | false=>rw[hoff] at hbox;cases hbox
              | true =>
                rw[hoff] at hbox
                simp only[cond_true] at hbox
                have h0:=Nat.eq_of_beq_eq_true hoff
                subst h0
                simp only[Option.some.injEq,Prod.mk.injEq] at h
                obtain⟨rfl,rfl⟩:=h
                obtain⟨L',u,hL',hsh,hlt,hcell,hu⟩:=run_cell_box hR hbox
                rw[hL] at hL';cases hL'
                cases hu
                have hat:L.at 0=⟨L.b,0,none⟩:=by simp[Loc.at,hsh]
                rw[hat]
                refine(K.sorted0 w L.b hlt hcell).mono ?_
                rintro e w' ⟨rfl,hb⟩
                exact⟨_,rfl,ρ,.snil,Good.below hR hb⟩
            · rename_i j hbox
              cases hoff:Nat.beq off 0 with
              | false=>rw[hoff] at hbox;cases hbox
              | true =>
                rw[hoff] at hbox
                simp only[cond_true] at hbox
                have h0:=Nat.eq_of_beq_eq_true hoff
                subst h0
                obtain⟨L',u,hL',hsh,hlt,hcell,hu⟩:=run_cell_box hR hbox
                rw[hL] at hL';cases hL'
                cases hu with | map _ M hM=>
                have hat:L.at 0=⟨L.b,0,none⟩:=by simp[Loc.at,hsh]
                rw[hat]
                split at h
                · rename_i es ho
                  split at h
                  · rename_i l hl
                    obtain⟨_,_,M',E,c,hM',hob,hk,hv,hst⟩:=hR.mapAt ho
                    rw[hM] at hM';cases hM'
                    obtain⟨hkeys,hwf⟩:=keysI_sound es l _ hl hk
                    refine sortedRow_sound (kt:=kt) h hR ?_
                    intro hlen
                    have hEl:E.size=l.length:=by
                      have:=congrArg List.length hkeys
                      simpa using this
                    let R:Value→Option (DataW Unit×List MemPlace):=fun _=>some (.lit (.bool true),[])
                    have hread:∀ x∈E.toList,∃ n,x.key=encZ n∧n∈l∧WideElems.rd P kt R x=some (.int .i64 n,.lit (.bool true)):=by
                      intro x hx
                      have:x.key∈l.map encZ:=by rw[← hkeys];exact List.mem_map_of_mem hx
                      obtain⟨n,hn,he⟩:=List.mem_map.1 this
                      refine⟨n,he.symm,hn,?_⟩
                      have hkl:keyOf P kt x.key=some (.int .i64 n):=by
                        rw[← he]
                        simp[keyOf,K.key,mapKey,hwf n hn]
                      simp[WideElems.rd,hkl,R]
                    have hml:(4294967296:Nat)≤maxLen:=by decide
                    have hown:w.ownsMap P kt R M.b E.size (.map ((E.toList.map (WideElems.rg P kt R)).foldr DataW.insert [])):=
                      ⟨E,c,hob,⟨by have hlen':l.length≤4294967296:=hlen;omega,hst,fun x hx=>by obtain⟨n,_,_,hr⟩:=hread x hx;exact⟨_,hr⟩⟩,Nat.le_refl _,rfl⟩
                    have hperm:(intKeys (.map ((E.toList.map (WideElems.rg P kt R)).foldr DataW.insert []):DataW Unit)).Perm l:=by
                      have h1:((E.toList.map (WideElems.rg P kt R)).foldr DataW.insert []).Perm (E.toList.map (WideElems.rg P kt R)):=WideShapes.sorted_perm _
                      have h2:=h1.map (fun p:Lit×DataW Unit=>intOf p.1)
                      have h3:(E.toList.map (WideElems.rg P kt R)).map (fun p:Lit×DataW Unit=>intOf p.1)=l:=by
                        have hinj:(E.toList.map fun x=>encZ (intOf (WideElems.rg P kt R x).1))=l.map encZ:=by
                          rw[← hkeys]
                          apply List.map_congr_left
                          intro x hx
                          obtain⟨n,he,_,hr⟩:=hread x hx
                          rw[WideElems.rg_of hr,he];rfl
                        have:((E.toList.map (WideElems.rg P kt R)).map (fun p:Lit×DataW Unit=>intOf p.1)).map encZ=l.map encZ:=by
                          rw[← hinj];simp[List.map_map,Function.comp_def]
                        exact map_inj_of encZ_inj this
                      rw[h3] at h2
                      exact h2
                    have hsz:Maps.size (.map ((E.toList.map (WideElems.rg P kt R)).foldr DataW.insert []):DataW Unit)=l.length:=by
                      rw[Maps.size_eq,length_sorted,List.length_map,Array.length_toList,hEl]
                    refine(K.sorted M.b E.size _ R w L.b hlt hcell hown (by have hlen':l.length≤4294967296:=hlen;rw[hsz];omega) (by have hlen':l.length≤4294967296:=hlen;rw[hsz];omega)).mono ?_
                    rintro e w' ⟨v,ss,rfl,hp,hrest⟩
                    exact⟨v,ss,rfl,hp.trans hperm,hrest⟩
                  · cases h
                · cases h
            · cases h
        · cases h
def orE (a b:ExtF):ExtF:=fun f args st=>match a f args st with
  | some r=>some r
  | none=>b f args st
theorem orE_ok{P:Program}{G:Nat}{a b:ExtF}(ha:ExtOk P G a)(hb:ExtOk P G b):ExtOk P G (orE a b):=by
  intro f args st v st' h
  unfold orE at h
  split at h
  · rename_i r hr
    simp only[Option.some.injEq] at h
    subst h
    exact ha f args st v st' hr
  · exact hb f args st v st' h
end
end Go.Ev
