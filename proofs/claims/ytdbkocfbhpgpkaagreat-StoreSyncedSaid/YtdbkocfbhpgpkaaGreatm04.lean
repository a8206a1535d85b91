/-
  The operations that only reckon: what the evaluator makes of them, and that every run makes the same.
-/
import Derived.Test.YtdbkocfbhpgpkaaGreatm03
import Derived.Laws.StructEq
import Derived.ChangeKeysEq
import GoSem.Dispatch
set_option linter.unusedVariables false
set_option linter.unusedSimpArgs false
namespace Go.Ev
open Go
noncomputable section
inductive Blk where
  | l (x:List AV)
  | b (n m:Nat)
def bytesA(m n:Nat):List AV:=(bytesL m n).map fun x=>.int .u8 (x:Nat)
def bytesV(m n:Nat):List Value:=(bytesL m n).map fun x=>.int .u8 (x:Nat)
def Blk.toL:Blk→List AV
  | .l x=>x
  | .b n m=>bytesA m n
def Blk.len:Blk→Nat
  | .l x=>x.length
  | .b n _=>n
theorem bytesA_length(m n:Nat):(bytesA m n).length=n:=by simp[bytesA,bytesL_length]
theorem bytesV_length(m n:Nat):(bytesV m n).length=n:=by simp[bytesV,bytesL_length]
theorem bytesA_get(m n k:Nat)(h:k<n):(bytesA m n)[k]? = some (byteA m k):=by simp[bytesA,bytesL_get n m k h,byteA]
theorem bytesV_get(m n k:Nat)(h:k<n):(bytesV m n)[k]? = some (byteV m k):=by simp[bytesV,bytesL_get n m k h,byteV]
theorem Blk.len_eq(x:Blk):x.len=x.toL.length:=by cases x<;>simp[Blk.len,Blk.toL,bytesA_length]
theorem VRs.bytes(ρ:Ren)(m n:Nat):VRs ρ (bytesA m n) (bytesV m n):=by
  apply VRs.of_get (by rw[bytesA_length,bytesV_length])
  intro k a v ha hv
  have hk:k<n:=by
    have:=(List.getElem?_eq_some_iff.1 ha).1
    rwa[bytesA_length] at this
  rw[bytesA_get m n k hk] at ha
  rw[bytesV_get m n k hk] at hv
  cases ha;cases hv
  exact .int _ _
def AO.cell?:AO→Nat→Option AV
  | .cells _ sz _ t,k=>bif Nat.blt k sz then some (t.get k) else none
  | .bytes _ sz n,k=>bif Nat.blt k sz then some (.int .u8 ((byte n k:Nat):Int)) else none
  | .box v,k=>bif Nat.beq k 0 then some v else none
  | _,_=>none
def AO.blk:AO→Nat→Nat→Option Blk
  | .cells _ sz _ t,off,n=>bif Nat.ble (off+n) sz then some (.l (t.getL off n)) else none
  | .bytes _ sz m,off,n=>bif Nat.ble (off+n) sz then some (.b n (cutB m off n)) else none
  | _,_,_=>none
def AV.one:AV→Bool
  | .top | .agg _ | .tup _=>false
  | _=>true
def packA:List AV→Option Nat
  | []=>some 0
  | .int .u8 (.ofNat x)::l=>bif Nat.blt x 256 then(packA l).map fun m=>x ||| (m <<< 8) else none
  | _=>none
def Blk.pack:Blk→Option Nat
  | .b _ m=>some m
  | .l x=>packA x
def AO.store:AO→Nat→Blk→Option AO
  | .cells true sz d t,off,x=>bif Nat.ble (off+x.len) sz && x.toL.all AV.one then some (.cells true sz d (t.setL off x.toL)) else none
  | .bytes true sz n, off, x => match x.pack with
    | some m=>bif Nat.ble (off+x.len) sz then some (.bytes true sz (splice n off x.len m)) else none
    | none=>none
  | _,_,_=>none
theorem ble_iff{a b:Nat}:Nat.ble a b=true↔a≤b:=by rw[Nat.ble_eq]
theorem Loc.at_add(L:Loc)(off n:Nat):(L.at off).add n=L.at (off+n):=by
  unfold Loc.at Addr.add
  split
  · subst_vars;rfl
  · simp[Nat.add_assoc]
theorem cell?_of_block{w:World}{b o:Nat}{C:Array Value}{e:TypeId}{fz:Nat×Nat}(h:w.heap[b]? = some (.cells C e fz)):w.cell? ⟨b,o,none⟩=C[o]?:=by
  simp[World.cell?,h]
theorem frozen?_of_block{w:World}{b o:Nat}{C:Array Value}{e:TypeId}{fz:Nat×Nat}(h:w.heap[b]? = some (.cells C e fz)) :
    w.frozen? ⟨b,o,none⟩=(decide (fz.1≤o) && decide (o<fz.2)):=by
  simp[World.frozen?,h]
theorem Rel.blk{ρ:Ren}{st:St}{w:World}(h:Rel ρ st w){i off n:Nat}{x:Blk}(hx:(st.obj i).blk off n=some x) :
    ∃ L,ρ i=some L∧∃ vs:List Value,VRs ρ x.toL vs∧vs.length=n∧(∀ (j:Nat) (v:Value),vs[j]? = some v→w.cell? (L.at (off+j))=some v)∧x.len=n:=by
  have hl:(st.obj i).live=true:=by
    cases ho:st.obj i<;>rw[ho] at hx<;>simp_all[AO.blk,AO.live]
  obtain⟨hi,hg⟩:=St.obj_live hl
  rw[hg] at hx hl
  obtain⟨L,ob,hρ,hob,hr⟩:=h.live i hi hl
  refine⟨L,hρ,?_⟩
  cases ho:st.heap.get i with
  | dead=>rw[ho] at hx;simp[AO.blk] at hx
  | map es=>rw[ho] at hx;simp[AO.blk] at hx
  | loop _ _ _ _ _ _=>rw[ho] at hx;simp[AO.blk] at hx
  | box _=>rw[ho] at hx;simp[AO.blk] at hx
  | cells rw sz d t =>
    rw[ho] at hx hr
    obtain⟨_,_,C,e,fz,rfl,_,_,hc,_⟩:=hr
    simp only[AO.blk] at hx
    cases hb:Nat.ble (off+n) sz with
    | false=>rw[hb] at hx;simp at hx
    | true =>
      rw[hb] at hx;simp only[cond_true,Option.some.injEq] at hx;subst hx
      have hle:=ble_iff.1 hb
      have hC:∀ k,k<n→∃ v,C[L.sh+(off+k)]? = some v∧VR ρ (t.get (off+k)) v:=fun k hk=>hc (off+k) (by omega)
      refine⟨(List.range n).map fun k=>C[L.sh+(off+k)]?.getD undef,?_,by simp,?_,by simp[Blk.len,T.getL_length]⟩
      · apply VRs.of_get (by simp[Blk.toL,T.getL_length])
        intro k a v ha hv
        have hk:k<n:=by
          have:=(List.getElem?_eq_some_iff.1 ha).1
          simpa[Blk.toL,T.getL_length] using this
        simp only[Blk.toL] at ha
        rw[T.getL_get t n off k hk] at ha
        cases ha
        obtain⟨v',hv',hr'⟩:=hC k hk
        simp[hk,hv'] at hv
        subst hv;exact hr'
      · intro j v hv
        have hj:j<n:=by
          have:=(List.getElem?_eq_some_iff.1 hv).1
          simpa using this
        obtain⟨v',hv',_⟩:=hC j hj
        simp[hj,hv'] at hv
        subst hv
        rw[Loc.at,cell?_of_block hob];exact hv'
  | bytes rw sz m =>
    rw[ho] at hx hr
    obtain⟨C,e,fz,rfl,_,_,hc,_⟩:=hr
    simp only[AO.blk] at hx
    cases hb:Nat.ble (off+n) sz with
    | false=>rw[hb] at hx;simp at hx
    | true =>
      rw[hb] at hx;simp only[cond_true,Option.some.injEq] at hx;subst hx
      have hle:=ble_iff.1 hb
      refine⟨bytesV (cutB m off n) n,VRs.bytes _ _ _,bytesV_length _ _,?_,rfl⟩
      intro j v hv
      have hj:j<n:=by
        have:=(List.getElem?_eq_some_iff.1 hv).1
        simpa[bytesV_length] using this
      rw[bytesV_get _ _ _ hj] at hv
      cases hv
      rw[Loc.at,cell?_of_block hob,hc (off+j) (by omega)]
      simp[byteV,byte_cutB,hj]
theorem Rel.cell{ρ:Ren}{st:St}{w:World}(h:Rel ρ st w){i off:Nat}{x:AV}(hx:(st.obj i).cell? off=some x) :
    ∃ L,ρ i=some L∧∃ v,w.cell? (L.at off)=some v∧VR ρ x v:=by
  have hl:(st.obj i).live=true:=by
    cases ho:st.obj i<;>rw[ho] at hx<;>simp_all[AO.cell?,AO.live]
  obtain⟨hi,hg⟩:=St.obj_live hl
  rw[hg] at hx hl
  obtain⟨L,ob,hρ,hob,hr⟩:=h.live i hi hl
  refine⟨L,hρ,?_⟩
  cases ho:st.heap.get i with
  | dead=>rw[ho] at hx;simp[AO.cell?] at hx
  | map es=>rw[ho] at hx;simp[AO.cell?] at hx
  | loop _ _ _ _ _ _=>rw[ho] at hx;simp[AO.cell?] at hx
  | box v =>
    rw[ho] at hx hr
    obtain⟨hz,C,e,fz,u,rfl,h1,h2⟩:=hr
    simp only[AO.cell?] at hx
    cases hb:Nat.beq off 0 with
    | false=>rw[hb] at hx;simp at hx
    | true =>
      rw[hb] at hx;simp only[cond_true,Option.some.injEq] at hx;subst hx
      have h0:off=0:=Nat.eq_of_beq_eq_true hb
      subst h0
      exact⟨u,by rw[Loc.at,cell?_of_block hob,hz];exact h1,h2⟩
  | cells rw sz d t =>
    rw[ho] at hx hr
    obtain⟨_,_,C,e,fz,rfl,_,_,hc,_⟩:=hr
    simp only[AO.cell?] at hx
    cases hb:Nat.blt off sz with
    | false=>rw[hb] at hx;simp at hx
    | true =>
      rw[hb] at hx;simp only[cond_true,Option.some.injEq] at hx;subst hx
      obtain⟨v,hv,hr⟩:=hc off (blt_iff.1 hb)
      exact⟨v,by rw[Loc.at,cell?_of_block hob];exact hv,hr⟩
  | bytes rw sz m =>
    rw[ho] at hx hr
    obtain⟨C,e,fz,rfl,_,_,hc,_⟩:=hr
    simp only[AO.cell?] at hx
    cases hb:Nat.blt off sz with
    | false=>rw[hb] at hx;simp at hx
    | true =>
      rw[hb] at hx;simp only[cond_true,Option.some.injEq] at hx;subst hx
      exact⟨_,by rw[Loc.at,cell?_of_block hob];exact hc off (blt_iff.1 hb),.int _ _⟩
def putL:Array Value→Nat→List Value→Array Value
  | C,_,[]=>C
  | C,o,v::vs=>putL (C.setIfInBounds o v) (o+1) vs
theorem putL_size:∀ (vs:List Value) (C:Array Value) (o:Nat),(putL C o vs).size=C.size:=by
  intro vs
  induction vs with
  | nil=>intros;rfl
  | cons v vs ih=>intro C o;simp[putL,ih]
theorem putL_get:∀ (vs:List Value) (C:Array Value) (o k:Nat),o+vs.length≤C.size →
    (putL C o vs)[k]? = if o≤k∧k<o+vs.length then vs[k-o]? else C[k]?:=by
  intro vs
  induction vs with
  | nil=>intro C o k _;rw[if_neg (by simp)];rfl
  | cons v vs ih =>
    intro C o k h
    simp only[List.length_cons] at h
    rw[putL,ih _ _ _ (by simp;omega)]
    by_cases h1:o+1≤k∧k<o+1+vs.length
    · rw[if_pos h1,if_pos (by simp only[List.length_cons];omega)]
      have:k-o=(k-(o+1))+1:=by omega
      rw[this,List.getElem?_cons_succ]
    · rw[if_neg h1]
      by_cases h2:k=o
      · subst h2
        rw[if_pos (by simp only[List.length_cons];omega)]
        rw[Array.getElem?_setIfInBounds]
        have:k<C.size:=by omega
        simp[this]
      · rw[if_neg (by simp only[List.length_cons];omega),Array.getElem?_setIfInBounds]
        simp[Ne.symm h2]
theorem modify_eq{α:Type}(A:Array α)(b:Nat)(o:α)(f:α→α)(h:A[b]? = some o):A.modify b f=A.setIfInBounds b (f o):=by
  apply Array.ext_getElem?
  intro k
  rw[Array.getElem?_modify,Array.getElem?_setIfInBounds]
  by_cases e:b=k
  · subst e
    obtain⟨hb,rfl⟩:=Array.getElem?_eq_some_iff.1 h
    simp[hb]
  · simp[e]
theorem setCell_block{w:World}{b o:Nat}{C:Array Value}{e:TypeId}{fz:Nat×Nat}{v:Value}(h:w.heap[b]? = some (.cells C e fz)) :
    w.setCell ⟨b,o,none⟩ v={ w with heap:=w.heap.setIfInBounds b (.cells (C.setIfInBounds o v) e fz) }:=by
  unfold World.setCell
  rw[modify_eq w.heap b _ _ h]
  rfl
theorem setIfInBounds_twice{α:Type}(A:Array α)(b:Nat)(x y:α):(A.setIfInBounds b x).setIfInBounds b y=A.setIfInBounds b y:=by
  apply Array.ext_getElem?
  intro k
  simp only[Array.getElem?_setIfInBounds,Array.size_setIfInBounds]
  by_cases e:b=k<;>simp[e]
theorem setIfInBounds_self{α:Type}(A:Array α)(b:Nat)(x:α)(h:A[b]? = some x):A.setIfInBounds b x=A:=by
  apply Array.ext_getElem?
  intro k
  rw[Array.getElem?_setIfInBounds]
  by_cases e:b=k
  · subst e
    have hb:b<A.size:=(Array.getElem?_eq_some_iff.1 h).1
    rw[if_pos rfl,if_pos hb,h]
  · rw[if_neg e]
theorem run_storeCells_block{P:Program}(b o:Nat)(e:TypeId)(fz:Nat×Nat):∀ (vs:List Value) (i:Nat) (C:Array Value) (w:World),
    w.heap[b]? = some (.cells C e fz)→o+i+vs.length≤C.size→(∀ v∈vs,v.oneCell'=true) →
    (∀ k,o+i≤k→k<o+i+vs.length→(decide (fz.1≤k) && decide (k<fz.2))=false) →
    (storeCells ⟨b,o,none⟩ vs i).run P w=.ok () { w with heap:=w.heap.setIfInBounds b (.cells (putL C (o+i) vs) e fz) }:=by
  intro vs
  induction vs with
  | nil =>
    intro i C w h _ _ _
    simp only[storeCells,Sem.run_pure,putL]
    rw[setIfInBounds_self _ _ _ h]
  | cons v vs ih =>
    intro i C w h hlen hone hfz
    simp only[List.length_cons] at hlen hfz
    have hb:b<w.heap.size:=(Array.getElem?_eq_some_iff.1 h).1
    have hadd:(⟨b,o,none⟩:Addr).add i=⟨b,o+i,none⟩:=by
      unfold Addr.add;split
      · subst_vars;rfl
      · rfl
    have hcell:∃ u,w.cell? ⟨b,o+i,none⟩=some u:=by
      rw[cell?_of_block h];exact⟨_,Array.getElem?_eq_getElem (by omega)⟩
    obtain⟨u,hu⟩:=hcell
    have hfr:w.frozen? ⟨b,o+i,none⟩=false:=by
      rw[frozen?_of_block h];exact hfz (o+i) (by omega) (by omega)
    have h1:(store ⟨b,o+i,none⟩ v).run P w=.ok () (w.setCell ⟨b,o+i,none⟩ v):=by
      rw[run_store P w _ v .plain (hone v (by simp))]
      simp[hu,hfr]
    have hblk:(w.setCell ⟨b,o+i,none⟩ v).heap[b]? = some (.cells (C.setIfInBounds (o+i) v) e fz):=by
      rw[setCell_block h];simp[hb]
    have h2:=ih (i+1) (C.setIfInBounds (o+i) v) (w.setCell ⟨b,o+i,none⟩ v) hblk (by simp;omega) (fun x hx=>hone x (by simp[hx]))
      (fun k h1 h2=>hfz k (by omega) (by omega))
    simp only[storeCells,Sem.run_bind,hadd,h1,Result.andThen_ok]
    rw[h2]
    congr 1
    rw[setCell_block h]
    simp only[World.mk.injEq,and_true]
    rw[setIfInBounds_twice]
    rfl
theorem one_of_VR{ρ:Ren}{a:AV}{v:Value}(h:VR ρ a v)(ha:a.one=true):v.oneCell'=true:=by
  cases h<;>simp_all[AV.one,Value.oneCell']
theorem one_of_VRs{ρ:Ren}:∀ {l:List AV} {vs:List Value},VRs ρ l vs→l.all AV.one=true→∀ v∈vs,v.oneCell'=true
  | _,_,.nil,_,v,hv=>by simp at hv
  | _, _, .cons h t, ha, v, hv => by
    simp only[List.all_cons,Bool.and_eq_true] at ha
    rcases List.mem_cons.1 hv with rfl|hv
    · exact one_of_VR h ha.1
    · exact one_of_VRs t ha.2 v hv
theorem packA_eq:∀ (l:List AV) (m:Nat),packA l=some m→l=bytesA m l.length:=by
  intro l
  induction l with
  | nil=>intro m _;rfl
  | cons a l ih =>
    intro m h
    unfold packA at h
    split at h
    · simp at *
    · rename_i x l' heq
      simp only[List.cons.injEq] at heq
      obtain⟨rfl,rfl⟩:=heq
      cases hb:Nat.blt x 256 with
      | false=>rw[hb] at h;simp at h
      | true =>
        rw[hb] at h
        have hx:=blt_iff.1 hb
        simp only[cond_true,Option.map_eq_some_iff] at h
        obtain⟨m',hm',rfl⟩:=h
        have:=ih m' hm'
        have e1:(x ||| m' <<< 8) % 256=x:=by
          apply eq_of_testBit256 (Nat.mod_lt _ (by omega)) hx
          intro i hi
          rw[show(256:Nat)=2 ^ 8 from rfl,Nat.testBit_mod_two_pow,Nat.testBit_or,Nat.testBit_shiftLeft]
          have:¬8≤i:=by omega
          simp[hi,this]
        have e2:(x ||| m' <<< 8) >>> 8=m':=by
          apply Nat.eq_of_testBit_eq
          intro i
          rw[Nat.testBit_shiftRight,Nat.testBit_or,Nat.testBit_shiftLeft]
          have h3:x.testBit (8+i)=false:=Nat.testBit_lt_two_pow (Nat.lt_of_lt_of_le hx (by
            have:(2:Nat) ^ 8≤2 ^ (8+i):=Nat.pow_le_pow_right (by omega) (by omega)
            simpa using this))
          simp[h3]
        simp only[List.length_cons,bytesA,bytesL,List.map_cons,e1,e2]
        congr 1
    · simp at h
theorem Blk.pack_eq{x:Blk}{m:Nat}(h:x.pack=some m):x.toL=bytesA m x.len:=by
  cases x with
  | l x=>exact packA_eq x m h
  | b n k=>simp only[Blk.pack,Option.some.injEq] at h;subst h;rfl
theorem VRs_bytesA{ρ:Ren}{m n:Nat}{vs:List Value}(h:VRs ρ (bytesA m n) vs):vs=bytesV m n:=by
  apply List.ext_getElem?
  intro k
  by_cases hk:k<n
  · obtain⟨v,hv,hr⟩:=h.get k _ (bytesA_get m n k hk)
    rw[hv,bytesV_get m n k hk]
    unfold byteA at hr
    cases hr;rfl
  · have h1:=h.length
    rw[bytesA_length] at h1
    rw[List.getElem?_eq_none (by omega),List.getElem?_eq_none (by rw[bytesV_length];omega)]
theorem Rel.store{ρ:Ren}{st:St}{w:World}(P:Program)(h:Rel ρ st w){i off:Nat}{x:Blk}{o:AO}(hx:(st.obj i).store off x=some o){vs:List Value}(hv:VRs ρ x.toL vs) :
    ∃ L,ρ i=some L∧∃ w',(storeCells (L.at off) vs).run P w=.ok () w'∧Good ρ st w ρ (st.put i o) w':=by
  have hwr:(st.obj i).writable=true:=by
    cases ho:st.obj i with
    | cells rw sz d t=>rw[ho] at hx;cases rw<;>simp_all[AO.store,AO.writable]
    | bytes rw sz n=>rw[ho] at hx;cases rw<;>simp_all[AO.store,AO.writable]
    | dead=>rw[ho] at hx;simp[AO.store] at hx
    | map es=>rw[ho] at hx;simp[AO.store] at hx
    | loop _ _ _ _ _ _=>rw[ho] at hx;simp[AO.store] at hx
    | box _=>rw[ho] at hx;simp[AO.store] at hx
  obtain⟨hi,hg⟩:=St.obj_live (AO.live_of_writable hwr)
  rw[hg] at hx hwr
  obtain⟨L,ob,hρ,hob,hr⟩:=h.live i hi (AO.live_of_writable hwr)
  refine⟨L,hρ,?_⟩
  have hlen:vs.length=x.len:=by rw[Blk.len_eq,hv.length]
  cases ho:st.heap.get i with
  | dead=>rw[ho] at hx;simp[AO.store] at hx
  | map es=>rw[ho] at hx;simp[AO.store] at hx
  | loop _ _ _ _ _ _=>rw[ho] at hx;simp[AO.store] at hx
  | box _=>rw[ho] at hx;simp[AO.store] at hx
  | cells rw sz d t =>
    rw[ho] at hx hr hwr
    cases rw with
    | false=>simp[AO.writable] at hwr
    | true=>
    obtain⟨hok,hsz,C,e,fz,rfl,hle,htop,hc,hfz⟩:=hr
    simp only[AO.store] at hx
    cases hb:(Nat.ble (off+x.len) sz && x.toL.all AV.one) with
    | false=>rw[hb] at hx;simp at hx
    | true =>
      rw[hb] at hx;simp only[cond_true,Option.some.injEq] at hx;subst hx
      simp only[Bool.and_eq_true] at hb
      have hb1:=ble_iff.1 hb.1
      have hrun:=run_storeCells_block (P:=P) L.b (L.sh+off) e fz vs 0 C w hob (by omega) (one_of_VRs hv hb.2) (fun k h1 h2=>(hfz rfl).2 k (by omega))
      refine⟨_,hrun,?_⟩
      refine h.upd hi (by rw[ho];rfl) hρ (ob:=.cells (putL C (L.sh+off+0) vs) e fz) ?_ rfl
      refine⟨hok.setL,hsz,_,e,fz,rfl,hle,by rw[putL_size];exact htop,?_,fun q=>by rw[putL_size];exact hfz q⟩
      intro k hk
      rw[putL_get _ _ _ _ (by omega)]
      rw[T.get_setL x.toL t off k hok (by rw[← Blk.len_eq];omega) (by omega)]
      by_cases hin:off≤k∧k<off+x.toL.length
      · rw[dif_pos hin,if_pos (by rw[← hv.length];omega)]
        have hlt:k-off<x.toL.length:=by omega
        obtain⟨v,hv1,hv2⟩:=hv.get (k-off) _ (List.getElem?_eq_getElem hlt)
        exact⟨v,by rw[show L.sh+k-(L.sh+off+0)=k-off by omega];exact hv1,hv2⟩
      · rw[dif_neg hin,if_neg (by rw[← hv.length];omega)]
        exact hc k hk
  | bytes rw sz n =>
    rw[ho] at hx hr hwr
    cases rw with
    | false=>simp[AO.writable] at hwr
    | true=>
    obtain⟨C,e,fz,rfl,hle,htop,hc,hfz⟩:=hr
    simp only[AO.store] at hx
    cases hp:x.pack with
    | none=>rw[hp] at hx;simp at hx
    | some m=>
    rw[hp] at hx
    cases hb:Nat.ble (off+x.len) sz with
    | false=>simp[hb] at hx
    | true =>
      simp only[hb,cond_true,Option.some.injEq] at hx;subst hx
      have hb1:=ble_iff.1 hb
      rw[Blk.pack_eq hp] at hv
      have hvs:=VRs_bytesA hv
      have hone:∀ v∈vs,v.oneCell'=true:=by
        rw[hvs];intro v hv
        simp only[bytesV,List.mem_map] at hv
        obtain⟨_,_,rfl⟩:=hv;rfl
      have hrun:=run_storeCells_block (P:=P) L.b (L.sh+off) e fz vs 0 C w hob (by omega) hone (fun k h1 h2=>(hfz rfl).2 k (by omega))
      refine⟨_,hrun,?_⟩
      refine h.upd hi (by rw[ho];rfl) hρ (ob:=.cells (putL C (L.sh+off+0) vs) e fz) ?_ rfl
      refine⟨_,e,fz,rfl,hle,by rw[putL_size];exact htop,?_,hfz⟩
      intro k hk
      rw[putL_get _ _ _ _ (by omega)]
      by_cases hin:off≤k∧k<off+x.len
      · rw[if_pos (by omega),hvs,show L.sh+k-(L.sh+off+0)=k-off by omega,bytesV_get _ _ _ (by omega)]
        simp[byteV,byte_splice,hin]
      · rw[if_neg (by omega),hc k hk]
        simp[byteV,byte_splice,hin]
def depthOf:Nat→Nat→Nat
  | 0,_=>0
  | f+1,n=>bif Nat.ble n 1 then 0 else depthOf f ((n+1) / 2)+1
def mkCells(l:List AV):AO:=.cells true l.length (depthOf 64 l.length) ((T.full (depthOf 64 l.length) .top).setL 0 l)
def mkRow(x:Blk):Option AO:=
  match x with
  | .l y=>bif Nat.ble y.length (2 ^ depthOf 64 y.length) then some (mkCells y) else none
  | .b n m=>some (.bytes true n m)
theorem mkRow_rel{ρ:Ren}{x:Blk}{o:AO}(h:mkRow x=some o){vs rest:List Value}{e:TypeId}{fz:Nat×Nat}{b:Nat}(hv:VRs ρ x.toL vs)
    (hfz:free fz (vs.length+rest.length)) (hnf:∀ y,x=.l y→free fz (vs.length+rest.length+1)):ORel ρ ⟨b,0,vs.length+rest.length⟩ o (.cells (vs++rest).toArray e fz):=by
  cases x with
  | l y =>
    simp only[mkRow] at h
    cases hb:Nat.ble y.length (2 ^ depthOf 64 y.length) with
    | false=>rw[hb] at h;simp at h
    | true =>
      rw[hb] at h;simp only[cond_true,Option.some.injEq] at h;subst h
      have hb1:=ble_iff.1 hb
      have hl:=hv.length
      simp only[Blk.toL] at hl hv
      refine⟨(T.Ok_full _ _).setL,hb1,_,e,fz,rfl,by simp;omega,by simp,?_,fun _=>by simpa using hnf y rfl⟩
      intro k hk
      rw[T.get_setL y _ 0 k (T.Ok_full _ _) (by omega) (by omega),dif_pos (by omega)]
      obtain⟨v,h1,h2⟩:=hv.get k _ (List.getElem?_eq_getElem hk)
      refine⟨v,?_,by simpa using h2⟩
      simp only[Nat.zero_add,List.getElem?_toArray]
      rw[List.getElem?_append_left (by omega)];exact h1
  | b n m =>
    simp only[mkRow,Option.some.injEq] at h;subst h
    have hvs:=VRs_bytesA (by simpa[Blk.toL] using hv)
    have hl:vs.length=n:=by rw[hvs,bytesV_length]
    refine⟨_,e,fz,rfl,by simp;omega,by simp,?_,fun _=>hfz⟩
    intro k hk
    simp only[Nat.zero_add,List.getElem?_toArray]
    rw[List.getElem?_append_left (by omega),hvs,bytesV_get _ _ _ hk]
end
end Go.Ev
namespace Go.Ev
open Go
noncomputable section
def strJoin(n b m c:Nat):Nat:=(b % 2 ^ (8 * n)) ||| (c <<< (8 * n))
theorem byte_strJoin(n b m c k:Nat):byte (strJoin n b m c) k=if k<n then byte b k else byte c (k-n):=by
  apply eq_of_testBit256 (byte_lt _ _)
  · split<;>exact byte_lt _ _
  · intro i hi
    rw[byte_testBit _ _ _ hi]
    unfold strJoin
    simp only[Nat.testBit_or,Nat.testBit_shiftLeft,Nat.testBit_mod_two_pow]
    split
    · rename_i h
      rw[byte_testBit _ _ _ hi]
      have h1:8 * k+i<8 * n:=by omega
      have h2:¬8 * n≤8 * k+i:=by omega
      simp[h1,h2]
    · rename_i h
      rw[byte_testBit _ _ _ hi]
      have h1:¬8 * k+i<8 * n:=by omega
      have h2:8 * n≤8 * k+i:=by omega
      have h3:8 * k+i-8 * n=8 * (k-n)+i:=by omega
      simp[h1,h2,h3]
theorem bytesL_ext{n:Nat}{l:List Nat}{b:Nat}(hl:l.length=n)(h:∀ k,k<n→l[k]? = some (byte b k)):l=bytesL b n:=by
  apply List.ext_getElem?
  intro k
  by_cases hk:k<n
  · rw[h k hk,bytesL_get n b k hk]
  · rw[List.getElem?_eq_none (by omega),List.getElem?_eq_none (by rw[bytesL_length];omega)]
theorem bytesL_join(n b m c:Nat):bytesL b n++bytesL c m=bytesL (strJoin n b m c) (n+m):=by
  apply bytesL_ext (by simp[bytesL_length])
  intro k hk
  by_cases h:k<n
  · rw[List.getElem?_append_left (by rw[bytesL_length];exact h),bytesL_get _ _ _ h,byte_strJoin,if_pos h]
  · rw[List.getElem?_append_right (by rw[bytesL_length];omega),bytesL_length,bytesL_get _ _ _ (by omega),byte_strJoin,if_neg h]
theorem bytesL_cut(b off len:Nat)(n:Nat)(h:off+len≤n):((bytesL b n).drop off).take len=bytesL (cutB b off len) len:=by
  apply bytesL_ext (by simp[bytesL_length];omega)
  intro k hk
  rw[List.getElem?_take_of_lt hk,List.getElem?_drop,bytesL_get _ _ _ (by omega),byte_cutB,if_pos hk]
theorem bytesL_pack(l:List Nat)(h:∀ x∈l,x<256):l=bytesL (packL l) l.length:=by
  apply bytesL_ext rfl
  intro k hk
  rw[List.getElem?_eq_getElem hk,byte_packL,List.getElem?_eq_getElem hk]
  simp only[Option.getD_some,Option.some.injEq]
  exact(Nat.mod_eq_of_lt (h _ (List.getElem_mem hk))).symm
theorem mod_eq_of_bytes:∀ (n b c:Nat),bytesL b n=bytesL c n→b % 2 ^ (8 * n)=c % 2 ^ (8 * n):=by
  intro n b c h
  apply Nat.eq_of_testBit_eq
  intro i
  rw[Nat.testBit_mod_two_pow,Nat.testBit_mod_two_pow]
  by_cases hi:i<8 * n
  · have hk:i / 8<n:=by omega
    have e:byte b (i / 8)=byte c (i / 8):=by
      have h1:=bytesL_get n b (i / 8) hk
      rw[h,bytesL_get n c (i / 8) hk] at h1
      exact(Option.some.inj h1).symm
    have h3:i % 8<8:=by omega
    have h4:=byte_testBit b (i / 8) (i % 8) h3
    have h5:=byte_testBit c (i / 8) (i % 8) h3
    rw[show 8 * (i / 8)+i % 8=i by omega] at h4 h5
    simp only[hi,decide_true,Bool.true_and]
    rw[← h4,← h5,e]
  · simp[hi]
theorem bytes_eq_of_mod(n b c:Nat)(h:b % 2 ^ (8 * n)=c % 2 ^ (8 * n)):bytesL b n=bytesL c n:=by
  apply bytesL_ext (bytesL_length n b)
  intro k hk
  rw[bytesL_get n b k hk]
  congr 1
  apply eq_of_testBit256 (byte_lt _ _) (byte_lt _ _)
  intro i hi
  rw[byte_testBit _ _ _ hi,byte_testBit _ _ _ hi]
  have h1:=congrArg (fun x=>x.testBit (8 * k+i)) h
  simp only[Nat.testBit_mod_two_pow] at h1
  have:8 * k+i<8 * n:=by omega
  simpa[this] using h1
def strEq(n b m c:Nat):Bool:=Nat.beq n m && Nat.beq (b % 2 ^ (8 * n)) (c % 2 ^ (8 * n))
theorem beq_iff{a b:Nat}:Nat.beq a b=true↔a=b:=Nat.beq_eq▸Iff.rfl
theorem strEq_iff(n b m c:Nat):strEq n b m c=true↔bytesL b n=bytesL c m:=by
  unfold strEq
  rw[Bool.and_eq_true,beq_iff,beq_iff]
  constructor
  · rintro⟨rfl,h⟩;exact bytes_eq_of_mod _ _ _ h
  · intro h
    have:n=m:=by rw[← bytesL_length n b,h,bytesL_length]
    subst this
    exact⟨rfl,mod_eq_of_bytes _ _ _ h⟩
def ltL:List Nat→List Nat→Bool
  | _,[]=>false
  | [],_::_=>true
  | a::x,b::y=>Nat.blt a b || (Nat.beq a b && ltL x y)
theorem ltL_map:∀ (x y:List UInt8),Op.bytesLess x y=ltL (x.map UInt8.toNat) (y.map UInt8.toNat):=by
  intro x
  induction x with
  | nil=>intro y;cases y<;>rfl
  | cons a x ih =>
    intro y
    cases y with
    | nil=>rfl
    | cons b y =>
      simp only[Op.bytesLess,ltL,List.map_cons,ih]
      congr 1
      · rw[Bool.eq_iff_iff,blt_iff];simp[UInt8.lt_iff_toNat_lt]
      · congr 1
        rw[Bool.eq_iff_iff,beq_iff];simp[UInt8.toNat_inj]
theorem map_toNat_inj:∀ {x y:List UInt8},x.map UInt8.toNat=y.map UInt8.toNat→x=y
  | [],[],_=>rfl
  | [],_::_,h=>by simp at h
  | _::_,[],h=>by simp at h
  | a :: x, b :: y, h => by
    simp only[List.map_cons,List.cons.injEq] at h
    rw[UInt8.toNat_inj.1 h.1,map_toNat_inj h.2]
def wrapA(k:IntKind)(n:Int):Int:=
  match k,n with
  | .i64,.ofNat m=>bif Nat.blt m 9223372036854775808 then .ofNat m else IntKind.i64.wrap n
  | .u8,.ofNat m=>.ofNat (m % 256)
  | .u16,.ofNat m=>.ofNat (m % 65536)
  | .u32,.ofNat m=>.ofNat (m % 4294967296)
  | .u64,.ofNat m=>.ofNat (m % 18446744073709551616)
  | k,n=>k.wrap n
theorem wrapA_eq(k:IntKind)(n:Int):wrapA k n=k.wrap n:=by
  unfold wrapA
  split
  · rename_i m
    cases hb:Nat.blt m 9223372036854775808 with
    | false=>rfl
    | true =>
      have:=blt_iff.1 hb
      simp only[cond_true]
      rw[IntKind.wrap_i64]
      simp only[Int.ofNat_eq_natCast]
      omega
  all_goals first | rfl | (simp[IntKind.wrap,IntKind.bits,IntKind.signed])
def ltA:Int→Int→Bool
  | .ofNat a,.ofNat b=>Nat.blt a b
  | .negSucc _,.ofNat _=>true
  | .ofNat _,.negSucc _=>false
  | .negSucc a,.negSucc b=>Nat.blt b a
theorem ltA_eq(a b:Int):ltA a b=decide (a<b):=by
  rw[Bool.eq_iff_iff,decide_eq_true_iff]
  cases a<;>cases b<;>simp only[ltA,blt_iff,Int.ofNat_eq_natCast,Int.negSucc_eq,true_iff,Bool.false_eq_true,false_iff]<;>omega
def eqI:Int→Int→Bool
  | .ofNat a,.ofNat b=>Nat.beq a b
  | .negSucc a,.negSucc b=>Nat.beq a b
  | _,_=>false
theorem eqI_eq(a b:Int):eqI a b=(a==b):=by
  rw[Bool.eq_iff_iff,beq_iff_eq]
  cases a<;>cases b<;>simp only[eqI,beq_iff,Int.ofNat_eq_natCast,Int.negSucc_eq,Bool.false_eq_true,false_iff]<;>omega
def bitsA(op:BinOp)(k:IntKind)(x y:Int):Option Int:=
  let a:=BitVec.ofInt k.bits x
  let b:=BitVec.ofInt k.bits y
  match op with
  | .and=>some (k.wrap (a &&& b).toNat)
  | .or=>some (k.wrap (a ||| b).toNat)
  | .xor=>some (k.wrap (a ^^^ b).toNat)
  | .andNot=>some (k.wrap (a &&& ~~~b).toNat)
  | _=>none
def kindEq(a b:IntKind):Bool:=decide (a=b)
def intA (op:BinOp)(k:IntKind)(a b:Int):Option AV:=
  match op with
  | .add=>some (.int k (wrapA k (a+b)))
  | .sub=>some (.int k (wrapA k (a-b)))
  | .mul=>some (.int k (wrapA k (a * b)))
  | .quo=>bif eqI b 0 then none else some (.int k (wrapA k (a.tdiv b)))
  | .rem=>bif eqI b 0 then none else some (.int k (a.tmod b))
  | .eql=>some (.bool (eqI a b))
  | .neq=>some (.bool (!eqI a b))
  | .lss=>some (.bool (ltA a b))
  | .leq=>some (.bool (!ltA b a))
  | .gtr=>some (.bool (ltA b a))
  | .geq=>some (.bool (!ltA a b))
  | .shl | .shr=>none
  | op=>(bitsA op k a b).map (.int k)
def shiftA(op:BinOp)(k:IntKind)(x y:Int):Option AV:=
  match y with
  | .negSucc _=>none
  | .ofNat m =>
    let n:=min m k.bits
    match op with
    | .shl=>some (.int k (wrapA k (x * ((2 ^ n:Nat):Int))))
    | .shr=>some (.int k (x.fdiv ((2 ^ n:Nat):Int)))
    | _=>none
def strA (op:BinOp)(n b m c:Nat):Option AV:=
  match op with
  | .add=>bif Nat.ble (n+m) 9223372036854775807 then some (.str (n+m) (strJoin n b m c)) else none
  | .eql=>some (.bool (strEq n b m c))
  | .neq=>some (.bool (!strEq n b m c))
  | .lss=>some (.bool (ltL (bytesL b n) (bytesL c m)))
  | .leq=>some (.bool (ltL (bytesL b n) (bytesL c m) || strEq n b m c))
  | .gtr=>some (.bool (!(ltL (bytesL b n) (bytesL c m) || strEq n b m c)))
  | .geq=>some (.bool (!ltL (bytesL b n) (bytesL c m)))
  | _=>none
def aggN (P:Program)(t:TypeId):Option (Option Nat):=
  match P.info? t,P.underlying t with
  | some i,some d=>some (match d with | .struct _ | .array _ _=>some i.size | _=>none)
  | _,_=>none
def szOf (P:Program)(t:TypeId):Option Nat:=(P.info? t).map (·.size)
def partA(P:Program)(t:TypeId)(l:List AV)(off:Nat):Option AV:=
  match aggN P t with
  | some (some n)=>some (.agg ((l.drop off).take n))
  | some none=>l[off]?
  | none=>none
theorem run_szOf{P:Program}{t:TypeId}{n:Nat}(h:szOf P t=some n)(w:World):(sizeOf t).run P w=.ok n w:=by
  unfold szOf at h
  cases hi:P.info? t with
  | none=>rw[hi] at h;simp at h
  | some i=>rw[hi] at h;simp at h;rw[run_sizeOf w hi];simp[Program.cellsOf,hi,h]
theorem run_isAgg_of{P:Program}{t:TypeId}{d:TypeDesc}(h:P.underlying t=some d)(w:World) :
    (isAgg t).run P w=.ok (match d with | .struct _ | .array _ _=>true | _=>false) w:=by
  simp only[isAgg,Sem.run_bind,run_underlying h,Result.andThen_ok]
  cases d<;>rfl
theorem aggN_some{P:Program}{t:TypeId}{r:Option Nat}(h:aggN P t=some r)(w:World) :
    (isAgg t).run P w=.ok r.isSome w∧∀ n,r=some n→(sizeOf t).run P w=.ok n w:=by
  unfold aggN at h
  cases hi:P.info? t with
  | none=>rw[hi] at h;simp at h
  | some i =>
    cases hu:P.underlying t with
    | none=>rw[hi,hu] at h;simp at h
    | some d =>
      rw[hi,hu] at h
      simp only[Option.some.injEq] at h
      refine⟨?_,fun n hn=>?_⟩
      · rw[run_isAgg_of hu];cases d<;>simp at h<;>subst h<;>rfl
      · rw[run_sizeOf w hi]
        cases d<;>simp only[] at h<;>subst h<;>simp only[reduceCtorEq,Option.some.injEq] at hn<;>simp[Program.cellsOf,hi,hn]
theorem part_sound{P:Program}{ρ:Ren}{t:TypeId}{l:List AV}{cs:Array Value}{off:Nat}{x:AV}(h:partA P t l off=some x)(hv:VRs ρ l cs.toList)(w:World) :
    ∃ v,(part t cs off).run P w=.ok v w∧VR ρ x v:=by
  unfold partA at h
  split at h
  · rename_i n hn
    obtain⟨h1,h2⟩:=aggN_some hn w
    simp only[Option.some.injEq] at h;subst h
    refine⟨.agg (cs.extract off (off+n)),?_,?_⟩
    · simp[part,h1,h2 n rfl]
    · refine .agg _ _ ?_
      rw[Array.toList_extract]
      have:=(hv.drop off).take n
      simpa[List.extract] using this
  · rename_i hn
    obtain⟨h1,_⟩:=aggN_some hn w
    obtain⟨v,hv1,hv2⟩:=hv.get off x h
    refine⟨v,?_,hv2⟩
    have:cs[off]? = some v:=by simpa using hv1
    simp[part,h1,this]
  · simp at h
def constAt:Nat→Value→AV
  | 0,_=>.top
  | f + 1, v => match v with
    | .bool b=>.bool b
    | .int k n=>.int k n
    | .string s=>.str s.data.toList.length (packL (s.data.toList.map UInt8.toNat))
    | .pointer none=>.pnil
    | .slice none 0 0=>.snil
    | .map none=>.mnil
    | .nilFunc=>.fnil
    | .nilIface=>.inil
    | .func fn a b=>.func fn (a.toList.map (constAt f)) (b.toList.map (constAt f))
    | .iface t x=>.iface t (constAt f x)
    | .agg a=>.agg (a.toList.map (constAt f))
    | .tuple a=>.tup (a.toList.map (constAt f))
    | _=>.top
theorem constAt_VR(ρ:Ren):∀ (f:Nat) (v:Value),VR ρ (constAt f v) v:=by
  intro f
  induction f with
  | zero=>intro v;exact .top v
  | succ f ih =>
    have all:∀ l:List Value,VRs ρ (l.map (constAt f)) l:=by
      intro l
      induction l with
      | nil=>exact .nil
      | cons a l ihl=>exact .cons (ih a) ihl
    intro v
    unfold constAt
    split
    · exact .bool _
    · exact .int _ _
    · rename_i s
      refine .str _ _ _ ?_
      have:=bytesL_pack (s.data.toList.map UInt8.toNat) (by intro x hx;simp only[List.mem_map] at hx;obtain⟨a,_,rfl⟩:=hx;exact a.toNat_lt)
      rw[List.length_map] at this
      exact this
    · exact .pnil
    · exact .snil
    · exact .mnil
    · exact .fnil
    · exact .inil
    · exact .func _ _ _ _ _ (all _) (all _)
    · exact .iface _ _ _ (ih _)
    · exact .agg _ _ (all _)
    · exact .tup _ _ (all _)
    · exact .top _
def constA(v:Value):AV:=constAt 8 v
theorem constA_VR(ρ:Ren)(v:Value):VR ρ (constA v) v:=constAt_VR ρ 8 v
def eqA (P:Program):Nat→TypeId→AV→AV→Option Bool
  | 0,_,_,_=>none
  | d + 1, t, x, y =>
    match P.underlying t,x,y with
    | some .bool,.bool a,.bool b=>some (a==b)
    | some (.int _),.int k a,.int k' b=>bif kindEq k k' then some (eqI a b) else none
    | some .string,.str n b,.str m c=>some (strEq n b m c)
    | some (.pointer _),.pnil,.pnil=>some true
    | some (.pointer _),.pnil,.ptr _ _=>some false
    | some (.pointer _),.ptr _ _,.pnil=>some false
    | some (.pointer e), .ptr i o, .ptr j p => match szOf P e with
      | some (_+1)=>bif Nat.beq i j then some (Nat.beq o p) else none
      | _=>none
    | some (.interface _),.inil,.inil=>some true
    | some (.interface _),.inil,.iface _ _=>some false
    | some (.interface _),.iface _ _,.inil=>some false
    | some (.slice _),.snil,.snil=>some true
    | some (.slice _),.snil,.slice .. => some false
    | some (.slice _),.slice ..,.snil=>some false
    | some (.map _ _),.mnil,.mnil=>some true
    | some (.map _ _),.mnil,.map _=>some false
    | some (.map _ _),.map _,.mnil=>some false
    | some (.func ..),.fnil,.fnil=>some true
    | some (.func ..),.fnil,.func .. => some false
    | some (.func ..),.func ..,.fnil=>some false
    | some (.array n e), .agg xs, .agg ys => match szOf P e with
      | some s => (List.range n).foldr (fun i rest => match partA P e xs (i * s), partA P e ys (i * s) with
        | some a, some b => match eqA P d e a b with
          | some true=>rest
          | some false=>some false
          | none=>none
        | _,_=>none) (some true)
      | none=>none
    | some (.struct fs), .agg xs, .agg ys => bif P.stoodInHeld t then none else
      fs.toList.foldr (fun f rest=>bif f.name == "_" then rest else match partA P f.type xs f.offset,partA P f.type ys f.offset with
        | some a, some b => match eqA P d f.type a b with
          | some true=>rest
          | some false=>some false
          | none=>none
        | _,_=>none) (some true)
    | _,_,_=>none
theorem run_sameAddr_block{P:Program}{w:World}{a b:Addr}(h:a.block=b.block):(sameAddr a b).run P w=.ok (a==b) w:=by
  simp[sameAddr,h]
theorem eqA_sound{P:Program}{ρ:Ren}(w:World):∀ (d:Nat) (t:TypeId) (x y:AV) (r:Bool),eqA P d t x y=some r →
    ∀ (D:Nat) (u v:Value),VR ρ x u→VR ρ y v→(Op.equalIn (D+d) t u v).run P w=.ok r w:=by
  intro d
  induction d with
  | zero=>intro t x y r h;simp[eqA] at h
  | succ d ih =>
    intro t x y r h D u v hu hv
    rw[show D+(d+1)=(D+d)+1 by omega]
    unfold eqA at h
    split at h
    · rename_i a b ht;cases hu;cases hv;simp only[Option.some.injEq] at h;subst h;exact run_equalIn_bool w _ t _ _ ht
    · rename_i k0 k a k' b ht
      cases hu;cases hv
      cases hk:kindEq k k' with
      | false=>rw[hk] at h;simp at h
      | true =>
        rw[hk] at h;simp only[cond_true,Option.some.injEq] at h;subst h
        simp only[kindEq,decide_eq_true_eq] at hk;subst hk
        rw[eqI_eq];exact run_equalIn_int w _ t _ _ _ _ ht
    · rename_i n b m c ht
      cases hu with | str _ _ s hs=>cases hv with | str _ _ s' hs'=>
      simp only[Option.some.injEq] at h;subst h
      rw[run_equalIn_string w _ t s s' ht,ByteArray.toList_eq,ByteArray.toList_eq]
      congr 1
      rw[Bool.eq_iff_iff,strEq_iff,beq_iff_eq,← hs,← hs']
      exact⟨fun e=>by rw[e],map_toNat_inj⟩
    · rename_i e ht;cases hu;cases hv;cases h;simp[Op.equalIn,run_underlying ht]
    · rename_i e _ _ ht;cases hu;cases hv;cases h;simp[Op.equalIn,run_underlying ht]
    · rename_i e _ _ ht;cases hu;cases hv;cases h;simp[Op.equalIn,run_underlying ht]
    · rename_i e i o j p ht
      split at h
      · rename_i s hs
        cases hu with | ptr _ _ L hL=>cases hv with | ptr _ _ M hM=>
        cases hb:Nat.beq i j with
        | false=>rw[hb] at h;simp at h
        | true =>
          rw[hb] at h;simp only[cond_true,Option.some.injEq] at h;subst h
          obtain rfl:=beq_iff.1 hb
          rw[hL] at hM;cases hM
          have hblk:(L.at o).block=(L.at p).block:=rfl
          simp only[Op.equalIn,Sem.run_bind,run_underlying ht,Result.andThen_ok,run_szOf hs]
          simp only[ne_eq,Nat.add_eq_zero_iff,Nat.succ_ne_self,and_false,not_false_eq_true,if_true,Sem.run_ite]
          rw[run_sameAddr_block hblk,if_pos (Nat.succ_ne_zero s)]
          congr 1
          rw[Bool.eq_iff_iff,beq_iff]
          simp[Loc.at]
      · simp at h
    · rename_i ms ht;cases hu;cases hv;cases h;simp[Op.equalIn,run_underlying ht]
    · rename_i ms _ _ ht;cases hu;cases hv;cases h;simp[Op.equalIn,run_underlying ht]
    · rename_i ms _ _ ht;cases hu;cases hv;cases h;simp[Op.equalIn,run_underlying ht]
    · rename_i e ht;cases hu;cases hv;cases h;simp[Op.equalIn,run_underlying ht]
    · rename_i e _ _ _ _ _ ht;cases hu;cases hv<;>cases h<;>simp[Op.equalIn,run_underlying ht]
    · rename_i e _ _ _ _ _ ht;cases hv;cases hu<;>cases h<;>simp[Op.equalIn,run_underlying ht]
    · rename_i ht;cases hu;cases hv;cases h;simp[Op.equalIn,run_underlying ht]
    · rename_i ht;cases hu;cases hv;cases h;simp[Op.equalIn,run_underlying ht]
    · rename_i ht;cases hu;cases hv;cases h;simp[Op.equalIn,run_underlying ht]
    · rename_i ht;cases hu;cases hv;cases h;simp[Op.equalIn,run_underlying ht]
    · rename_i ht;cases hu;cases hv;cases h;simp[Op.equalIn,run_underlying ht]
    · rename_i ht;cases hu;cases hv;cases h;simp[Op.equalIn,run_underlying ht]
    · rename_i n e xs ys ht
      cases hu with | agg _ ax hx=>cases hv with | agg _ ay hy=>
      split at h
      · rename_i s hs
        obtain⟨i,hi⟩:∃ i,P.info? e=some i:=by
          unfold szOf at hs;cases hi:P.info? e with
          | none=>rw[hi] at hs;simp at hs
          | some i=>exact⟨i,rfl⟩
        rw[run_equalIn_array w _ ax ay ht hi]
        have hsz:P.cellsOf e=s:=by unfold szOf at hs;rw[hi] at hs;simp at hs;simp[Program.cellsOf,hi,hs]
        rw[hsz]
        clear hs hsz hi
        revert h
        generalize List.range n=is
        intro h
        induction is generalizing r with
        | nil=>simp at h;subst h;simp[Op.eqItems]
        | cons j is ihl =>
          simp only[List.foldr_cons] at h
          split at h
          · rename_i a b ha hb
            obtain⟨u,hu1,hu2⟩:=part_sound ha hx w
            obtain⟨v,hv1,hv2⟩:=part_sound hb hy w
            simp only[Op.eqItems,Sem.run_bind,hu1,hv1,Result.andThen_ok]
            split at h
            · rename_i he
              rw[ih e a b true he D u v hu2 hv2]
              simp only[Result.andThen_ok,Bool.not_true,Bool.false_eq_true,if_false]
              exact ihl r h
            · rename_i he
              rw[ih e a b false he D u v hu2 hv2]
              simp at h;subst h
              simp
            · simp at h
          · simp at h
      · simp at h
    · rename_i fs xs ys ht
      cases hu with | agg _ ax hx=>cases hv with | agg _ ay hy=>
      cases hp:P.stoodInHeld t with
      | true=>rw[hp] at h;simp at h
      | false =>
        rw[hp] at h;simp only[cond_false] at h
        have hf:P.fieldsOf t=fs:=by simp[Program.fieldsOf,ht]
        rw[run_equalIn_struct w _ t ax ay (by rw[hf];exact ht) hp,hf]
        clear hf
        revert h
        generalize fs.toList=l
        intro h
        induction l generalizing r with
        | nil=>simp at h;subst h;simp[Op.eqFields]
        | cons f l ihl =>
          simp only[List.foldr_cons] at h
          cases hn:(f.name == "_") with
          | true =>
            rw[hn] at h;simp only[cond_true] at h
            have:¬f.name ≠ "_":=by simpa using hn
            simp only[Op.eqFields,this,if_false]
            exact ihl r h
          | false =>
            rw[hn] at h;simp only[cond_false] at h
            have:f.name ≠ "_":=by simpa using hn
            simp only[Op.eqFields,this,if_true,ne_eq,not_false_eq_true]
            split at h
            · rename_i a b ha hb
              obtain⟨u,hu1,hu2⟩:=part_sound ha hx w
              obtain⟨v,hv1,hv2⟩:=part_sound hb hy w
              simp only[Sem.run_bind,hu1,hv1,Result.andThen_ok]
              split at h
              · rename_i he
                rw[ih f.type a b true he D u v hu2 hv2]
                simp only[Result.andThen_ok,Bool.not_true,Bool.false_eq_true,if_false]
                exact ihl r h
              · rename_i he
                rw[ih f.type a b false he D u v hu2 hv2]
                simp at h;subst h
                simp
              · simp at h
            · simp at h
    · simp at h
end
end Go.Ev
