/-
  The law's writes: Put, Drop of a small key by an open transaction.
-/
import Derived.Test.YtdbkocfbhpgpkaaGreatb42
import Derived.Test.YtdbkocfbhpgpkaaGreatb41
import Derived.Test.YtdbkocfbhpgpkaaGreatb39
set_option linter.unusedVariables false
set_option linter.unusedSimpArgs false
namespace Go.Proofs.YtdbkocfbhpgpkaaGreat
open Go Go.RowKit Go.Shelf
open Go.Ev (PgM PageOk CellsOut rowsOf rowsV rowV rowsOf_len BelowIs)
set_option maxRecDepth 100000
set_option maxHeartbeats 4000000
def VOk (l:List UInt8):Prop:=l=[0]∨∃ r,l=1::r
structure CsI(S:List (List UInt8))(nx:Nat)(cs:List NC):Prop where
  ok:PageOk 1 0 cs
  v:∀ c∈cs,1≤c.vn∧c.vn≤86
  k:∀ c∈cs,c.kn≤13∧∃ key n,c.key=vkey key n∧1≤key.length∧key.length≤3∧1≤n∧n<nx
  s:∀ c∈cs,c.key∈S
  f:∀ c∈cs,VOk c.val
def Has (cs:List NC)(K:List UInt8):Prop:=∃ c∈cs,c.key=K
theorem nodup_len{α:Type}[BEq α][LawfulBEq α]:∀ {l S:List α},l.Nodup→(∀ x∈l,x∈S)→l.length≤S.length
  | [],S,_,_=>Nat.zero_le _
  | a :: l, S, h, hs => by
    have ha:a∈S:=hs a (by simp)
    have hl:=List.nodup_cons.1 h
    have:=nodup_len (l:=l) (S:=S.erase a) hl.2 (fun x hx=>(List.mem_erase_of_ne (a:=x) (b:=a) (fun e:x=a=>hl.1 (by rw[← e];exact hx))).2 (hs x (by simp[hx])))
    rw[List.length_erase_of_mem ha] at this
    have:=List.length_pos_of_mem ha
    simp only[List.length_cons];omega
theorem rises_nodup{cs:List NC}(h:Rises cs):(cs.map NC.key).Nodup:=by
  refine List.pairwise_iff_getElem.2 fun i j hi hj hij=>?_
  rw[List.getElem_map,List.getElem_map]
  exact cmp_ne (rises_at h hij (by simpa using hj))
theorem rises_of{cs:List NC}(h:cs.Pairwise fun a b=>Lib.compareBytes a.key b.key=-1):Rises cs:=fun i hi=>List.pairwise_iff_getElem.1 h i (i+1) (by omega) hi (by omega)
theorem rises_pw{cs:List NC}(h:Rises cs):cs.Pairwise fun a b=>Lib.compareBytes a.key b.key=-1:=List.pairwise_iff_getElem.2 fun _ _ _ hj hij=>rises_at h hij hj
theorem rises_map{cs ds:List NC}(h:Rises cs)(e:cs.map NC.key=ds.map NC.key):Rises ds:=fun i hi=>by
  have hl:cs.length=ds.length:=by simpa using congrArg List.length e
  have g:∀ j (h1:j<cs.length) (h2:j<ds.length),cs[j].key=ds[j].key:=fun j h1 h2=>by
    have:=List.getElem_of_eq e (i:=j) (by simpa using h1)
    simpa using this
  rw[← g i (by omega) (by omega),← g (i+1) (by omega) hi]
  exact h i (by omega)
theorem size_le:∀ {cs:List NC},(∀ c∈cs,c.kn≤13∧c.vn≤86)→bodyS cs≤103 * cs.length
  | [],_=>Nat.le_refl _
  | c :: cs, h => by
    have h1:=h c (by simp)
    have ih:=size_le (cs:=cs) fun c hc=>h c (by simp[hc])
    have:bodyS (c::cs)=c.sz+bodyS cs:=by unfold bodyS;simp
    rw[this]
    unfold NC.sz
    simp only[List.length_cons];omega
theorem page_of{cs:List NC}(h1:∀ c∈cs,c.Ok)(h2:Rises cs)(h3:∀ c∈cs,c.kn≤13∧c.vn≤86)(h4:cs.length≤38):PageOk 1 0 cs:=
  ⟨.inl rfl,by decide,h1,h2,by have:=size_le h3;omega⟩
theorem below_at{cs:List NC}(h:Rises cs){i:Nat}(hi:i<cs.length):BelowIs cs cs[i].key (i+1):=by
  refine⟨hi,fun j hj hji=>?_,fun hj=>?_⟩
  · rcases Nat.lt_or_eq_of_le (Nat.le_of_lt_succ hji) with q|q
    · have:=rises_at h q hi;omega
    · subst q;rw[cmp_self];decide
  · have:=h i hj
    rw[cmp_swap];omega
theorem nc_eq{c:NC}(h:c.Ok):ncOf c.key c.val=c:=by
  obtain⟨kn,K,vn,V⟩:=c
  have e1:(bl kn K).length=kn:=bl_length _ _
  have e2:(bl vn V).length=vn:=bl_length _ _
  have hk:K<2 ^ (8 * kn):=h.k
  have hv:V<2 ^ (8 * vn):=h.v
  have f:∀ n N,N<2 ^ (8 * n)→leN (bl n N)=N:=fun n N hN=>by
    rw[← pow256'] at hN
    rw[← bl_le,leN_small _ _ hN]
  show NC.mk (bl kn K).length (leN (bl kn K)) (bl vn V).length (leN (bl vn V))=_
  rw[e1,e2,f _ _ hk,f _ _ hv]
section
variable {S:List (List UInt8)}{nx:Nat}{cs:List NC}
theorem CsI.sm(h:CsI S nx cs):∀ c∈cs,c.kn≤13∧c.vn≤86:=fun c hc=>⟨(h.k c hc).1,(h.v c hc).2⟩
theorem CsI.isv(h:CsI S nx cs)(hn:nx≤1000000):∀ c∈cs,IsV c:=fun c hc=>by
  obtain⟨-,key,n,e,h1,h2,h3,h4⟩:=h.k c hc
  exact⟨key,n,e,h1,by omega,by omega⟩
theorem CsI.len(h:CsI S nx cs):cs.length≤S.length:=by
  have:=nodup_len (rises_nodup h.ok.rise) (S:=S) (fun x hx=>by
    obtain⟨c,hc,rfl⟩:=List.mem_map.1 hx
    exact h.s c hc)
  simpa using this
theorem CsI.more{S':List (List UInt8)}{nx':Nat}(h:CsI S nx cs)(hS:∀ x∈S,x∈S')(hn:nx≤nx'):CsI S' nx' cs:=
  ⟨h.ok,h.v,fun c hc=>by
    obtain⟨h0,key,n,e,h1,h2,h3,h4⟩:=h.k c hc
    exact⟨h0,key,n,e,h1,h2,h3,by omega⟩,fun c hc=>hS _ (h.s c hc),h.f⟩
theorem CsI.g(h:CsI S nx cs)(hn:nx≤1000000)(hl:S.length≤38):CsG cs:=⟨h.ok,fun c hc=>(h.v c hc).1,h.isv hn,by have:=h.len;omega⟩
theorem CsI.nil(S:List (List UInt8))(nx:Nat):CsI S nx []:=⟨pageOk_nil,fun c h=>by simp at h,fun c h=>by simp at h,fun c h=>by simp at h,fun c h=>by simp at h⟩
theorem put_ex(h:CsI S nx cs){key v:List UInt8}{n:Nat}(hk1:1≤key.length)(hk3:key.length≤3)(hn:1≤n)(hnx:n<nx)(hv1:1≤v.length)(hv:v.length≤86)(hvf:VOk v)(hkl:(vkey key n).length≤13)(hS:vkey key n∈S)(hl:S.length≤38) :
    ∃ cs',PutTo cs (ncOf (vkey key n) v) cs'∧CsI S nx cs'∧(∀ K,Has cs K→Has cs' K)∧Has cs' (vkey key n)∧(∀ c∈cs',c.key=vkey key n∨c∈cs)∧(∀ c∈cs,c.key≠vkey key n→c∈cs') ∧
      ∀ was,((∀ c∈cs,c.key≠vkey key n)∧was=[])∨(∃ c∈cs,c.key=vkey key n∧was=c.val)→BackTo cs' (vkey key n,was) cs:=by
  have hk0:1≤(vkey key n).length:=by rw[vkey_len];omega
  have nk:(ncOf (vkey key n) v).key=vkey key n:=nc_key _ _
  have nf:VOk (ncOf (vkey key n) v).val:=by rw[nc_val];exact hvf
  have nok:(ncOf (vkey key n) v).Ok:=nc_ok hk0 (by omega) (by omega)
  by_cases hx:∃ c∈cs,c.key=vkey key n
  · obtain⟨c0,h0,e0⟩:=hx
    obtain⟨i,hi,rfl⟩:=List.getElem_of_mem h0
    have hb:=below_at h.ok.rise hi
    rw[e0] at hb
    have hmap:cs.map NC.key=(cs.set i (ncOf (vkey key n) v)).map NC.key:=by
      rw[List.map_set,nk,← e0]
      refine List.ext_getElem (by simp) fun j h1 h2=>?_
      rw[List.getElem_set]
      split
      · rename_i q;subst q;simp
      · rfl
    have hr:=rises_map h.ok.rise hmap
    have mem:∀ c∈cs.set i (ncOf (vkey key n) v),c∈cs∨c=ncOf (vkey key n) v:=fun c hc=>List.mem_or_eq_of_mem_set hc
    have hI:CsI S nx (cs.set i (ncOf (vkey key n) v)):=by
      have hv':∀ c∈cs.set i (ncOf (vkey key n) v),1≤c.vn∧c.vn≤86:=fun c hc=>by
        rcases mem c hc with e|e
        · exact h.v c e
        · subst e;exact⟨hv1,hv⟩
      have hk':∀ c∈cs.set i (ncOf (vkey key n) v),c.kn≤13∧∃ key n,c.key=vkey key n∧1≤key.length∧key.length≤3∧1≤n∧n<nx:=fun c hc=>by
        rcases mem c hc with e|e
        · exact h.k c e
        · subst e;exact⟨hkl,key,n,nk,hk1,hk3,hn,hnx⟩
      refine⟨page_of (fun c hc=>?_) hr (fun c hc=>⟨(hk' c hc).1,(hv' c hc).2⟩) (by have:=h.len;simp;omega),hv',hk',fun c hc=>?_,fun c hc=>?_⟩
      · rcases mem c hc with e|e
        · exact h.ok.ok c e
        · subst e;exact nok
      · rcases mem c hc with e|e
        · exact h.s c e
        · subst e;rw[nk];exact hS
      · rcases mem c hc with e|e
        · exact h.f c e
        · subst e;exact nf
    have hi':i<(cs.set i (ncOf (vkey key n) v)).length:=by simpa using hi
    have gi:(cs.set i (ncOf (vkey key n) v))[i]=ncOf (vkey key n) v:=by simp
    have keep:∀ c∈cs,c.key≠vkey key n→c∈cs.set i (ncOf (vkey key n) v):=fun c hc hne=>by
      obtain⟨j,hj,rfl⟩:=List.getElem_of_mem hc
      have hji:i≠j:=fun q=>by subst q;exact hne e0
      have:(cs.set i (ncOf (vkey key n) v))[j]'(by simpa using hj)=cs[j]:=by rw[List.getElem_set,if_neg hji]
      rw[← this];exact List.getElem_mem _
    refine⟨_,.inr ⟨i,by rw[nk];exact hb,fun _=>by rw[nk];exact e0,rfl⟩,hI,fun K hK=>?_,⟨_,List.getElem_mem hi',by rw[gi,nk]⟩,fun c hc=>?_,keep,fun was hw=>?_⟩
    · obtain⟨c,hc,e⟩:=hK
      by_cases q:c.key=vkey key n
      · exact⟨_,List.getElem_mem hi',by rw[gi,nk,← q,e]⟩
      · exact⟨c,keep c hc q,e⟩
    · rcases mem c hc with e|e
      · exact .inr e
      · subst e;exact .inl nk
    · rcases hw with⟨a,-⟩|⟨c,hc,e,rfl⟩
      · exact absurd e0 (a _ h0)
      · obtain⟨j,hj,rfl⟩:=List.getElem_of_mem hc
        have:j=i:=rises_inj h.ok.rise hj hi (e.trans e0.symm)
        subst this
        have hvl:cs[j].val≠[]:=fun q=>by
          have:=(h.v _ h0).1
          have e2:cs[j].val.length=cs[j].vn:=bl_length _ _
          rw[q] at e2;simp at e2;omega
        refine .inr ⟨hvl,.inr ⟨j,?_,fun _=>?_,?_⟩,fun q=>by rw[q] at hi';simp at hi'⟩
        · show BelowIs _ (ncOf (vkey key n) cs[j].val).key _
          rw[nc_key]
          have:=below_at hr hi'
          rw[gi,nk] at this
          exact this
        · show _=(ncOf (vkey key n) cs[j].val).key
          rw[nc_key,gi,nk]
        · show cs=(cs.set j _).set j (ncOf (vkey key n) cs[j].val)
          rw[← e0,nc_eq (h.ok.ok _ h0),List.set_set]
          exact(List.set_getElem_self hj).symm
  · have hx:∀ c∈cs,c.key≠vkey key n:=fun c hc e=>hx ⟨c,hc,e⟩
    obtain⟨i,hb⟩:=below_ex (vkey key n) cs
    have hlen:cs.length+1≤S.length:=by
      have:=nodup_len (l:=vkey key n::cs.map NC.key) (S:=S) (List.nodup_cons.2 ⟨fun q=>by
        obtain⟨c,hc,e⟩:=List.mem_map.1 q
        exact hx c hc e,rises_nodup h.ok.rise⟩) (fun x hx=>by
        rcases List.mem_cons.1 hx with e|e
        · rw[e];exact hS
        · obtain⟨c,hc,rfl⟩:=List.mem_map.1 e
          exact h.s c hc)
      simpa using this
    have hsz:=size_le h.sm
    have hok':PageOk 1 0 (cs.take i++ncOf (vkey key n) v::cs.drop i):=pageOk_ins h.ok (by rw[nk];exact hb) (fun c hc=>by rw[nk];exact hx c hc) nok (by
      have:(ncOf (vkey key n) v).sz≤103:=by show 4+(vkey key n).length+v.length≤103;omega
      omega)
    have hlt:(cs.take i).length=i:=by rw[List.length_take];exact Nat.min_eq_left hb.1
    have hi':i<(cs.take i++ncOf (vkey key n) v::cs.drop i).length:=by rw[ins_len _ _ _ hb.1];have:=hb.1;omega
    have gi:(cs.take i++ncOf (vkey key n) v::cs.drop i)[i]=ncOf (vkey key n) v:=by
      rw[List.getElem_append_right (by omega)];simp[hlt]
    have keep:∀ c∈cs,c∈cs.take i++ncOf (vkey key n) v::cs.drop i:=fun c hc=>by
      rw[← List.take_append_drop i cs] at hc
      rcases List.mem_append.1 hc with q|q
      · exact List.mem_append.2 (.inl q)
      · exact List.mem_append.2 (.inr (List.mem_cons_of_mem _ q))
    refine⟨_,.inl ⟨i,by rw[nk];exact hb,fun c hc=>by rw[nk];exact hx c hc,rfl⟩,⟨hok',fun c hc=>?_,fun c hc=>?_,fun c hc=>?_,fun c hc=>?_⟩,fun K ⟨c,hc,e⟩=>⟨c,keep c hc,e⟩,⟨_,List.getElem_mem hi',by rw[gi,nk]⟩,fun c hc=>?_,fun c hc _=>keep c hc,fun was hw=>?_⟩
    · rcases ins_mem hc with e|e
      · exact h.v c e
      · subst e;exact⟨hv1,hv⟩
    · rcases ins_mem hc with e|e
      · exact h.k c e
      · subst e;exact⟨hkl,key,n,nk,hk1,hk3,hn,hnx⟩
    · rcases ins_mem hc with e|e
      · exact h.s c e
      · subst e;rw[nk];exact hS
    · rcases ins_mem hc with e|e
      · exact h.f c e
      · subst e;exact nf
    · rcases ins_mem hc with e|e
      · exact .inr e
      · subst e;exact .inl nk
    · rcases hw with⟨-,rfl⟩|⟨c,hc,e,-⟩
      · refine .inl ⟨rfl,i,?_,fun _=>by rw[gi,nk],?_⟩
        · have:=below_at hok'.rise hi'
          rw[gi,nk] at this
          exact this
        · have e1:(cs.take i++ncOf (vkey key n) v::cs.drop i).take i=cs.take i:=List.take_left' hlt
          have e2:(cs.take i++ncOf (vkey key n) v::cs.drop i).drop (i+1)=cs.drop i:=by
            rw[← List.drop_drop,List.drop_left' hlt];rfl
          rw[e1,e2,List.take_append_drop]
      · exact absurd e (hx c hc)
theorem drop_ex(h:CsI S nx cs){K:List UInt8}(hK:Has cs K)(hl:S.length≤38):∃ cs',DropTo cs K cs'∧CsI S nx cs'∧(∀ c∈cs,c.key≠K→c∈cs')∧∀ c∈cs',c∈cs:=by
  obtain⟨c0,h0,rfl⟩:=hK
  obtain⟨i,hi,rfl⟩:=List.getElem_of_mem h0
  have e:cs.take i++cs.drop (i+1)=cs.eraseIdx i:=(List.eraseIdx_eq_take_drop_succ cs i).symm
  have sub:(cs.eraseIdx i).Sublist cs:=List.eraseIdx_sublist cs i
  have mem:∀ c∈cs.eraseIdx i,c∈cs:=fun c hc=>sub.subset hc
  refine⟨cs.eraseIdx i,⟨i,below_at h.ok.rise hi,fun _=>rfl,e.symm⟩,⟨page_of (fun c hc=>h.ok.ok c (mem c hc)) (rises_of ((rises_pw h.ok.rise).sublist sub)) (fun c hc=>h.sm c (mem c hc)) ?_,fun c hc=>h.v c (mem c hc),fun c hc=>h.k c (mem c hc),fun c hc=>h.s c (mem c hc),fun c hc=>h.f c (mem c hc)⟩,fun c hc hne=>?_,mem⟩
  · have:=h.len
    have:=sub.length_le
    omega
  · obtain⟨j,hj,rfl⟩:=List.getElem_of_mem hc
    have hij:j≠i:=fun q=>by subst q;exact hne rfl
    exact List.mem_eraseIdx_iff_getElem.2 ⟨j,hj,hij,rfl⟩
structure UI(tx:Nat)(cs:List NC)(us:Us):Prop where
  a:∀ u∈us,Has cs u.1
  b:us.Pairwise fun x y=>y.2=[]→x.1≠y.1
  s:∀ u∈us,(∃ key,u.1=vkey key tx∧1≤key.length∧key.length≤3)∧u.1.length≤13∧u.2.length≤86∧(u.2=[]∨VOk u.2)
theorem UI.nil(tx:Nat)(cs:List NC):UI tx cs []:=⟨fun u h=>by simp at h,List.Pairwise.nil,fun u h=>by simp at h⟩
theorem UI.keep{tx:Nat}{us:Us}{cs':List NC}(h:UI tx cs us)(hk:∀ key,Has cs (vkey key tx)→Has cs' (vkey key tx)):UI tx cs' us:=
  ⟨fun u hu=>by
    obtain⟨⟨key,e,-⟩,-⟩:=h.s u hu
    have:=h.a u hu
    rw[e] at this ⊢
    exact hk key this,h.b,h.s⟩
theorem backs_ex{tx:Nat}(hnx:nx≤1000000)(hl:S.length≤38)(htx:1≤tx)(htn:tx<nx):∀ (N:Nat) (us:Us) (cs:List NC),us.length=N→CsI S nx cs→UI tx cs us →
    ∃ cs',Backs cs us cs'∧CsI S nx cs'∧∀ c∈cs,(∀ key,c.key≠vkey key tx)→c∈cs':=by
  intro N
  induction N with
  | zero =>
    intro us cs e h _
    obtain rfl:=List.eq_nil_of_length_eq_zero e
    exact⟨cs,.nil _,h,fun c hc _=>hc⟩
  | succ N ih =>
    intro us cs e h hu
    obtain⟨us0,u,rfl⟩:∃ us0 u,us=us0++[u]:=⟨us.dropLast,us.getLast (by intro q;subst q;simp at e),(List.dropLast_concat_getLast _).symm⟩
    have hs:=hu.s u (by simp)
    obtain⟨⟨key,ek,hk1,hk3⟩,hkl,hvl,hvf⟩:=hs
    have hb:=List.pairwise_append.1 hu.b
    have hk0:1≤u.1.length:=by rw[ek,vkey_len];omega
    have key2:∃ cs1,BackTo cs u cs1∧CsI S nx cs1∧(∀ c∈cs,c.key≠u.1→c∈cs1)∧UI tx cs1 us0:=by
      have hH:Has cs u.1:=hu.a u (by simp)
      by_cases hw:u.2=[]
      · obtain⟨cs1,h1,h2,h3,h4⟩:=drop_ex h hH hl
        refine⟨cs1,.inl ⟨hw,h1⟩,h2,h3,fun x hx=>?_,hb.1,fun x hx=>hu.s x (by simp[hx])⟩
        obtain⟨c,hc,e⟩:=hu.a x (by simp[hx])
        exact⟨c,h3 c hc (by rw[e];exact hb.2.2 x hx u (by simp) hw),e⟩
      · obtain⟨cs1,h1,h2,h3,h4,-,h6,-⟩:=put_ex h (key:=key) (v:=u.2) (n:=tx) hk1 hk3 htx htn (List.length_pos_iff.2 hw) hvl (hvf.resolve_left hw) (by rw[← ek];exact hkl) (by
          obtain⟨c,hc,e⟩:=hH
          rw[← ek,← e];exact h.s c hc) hl
        rw[← ek] at h1 h6
        refine⟨cs1,.inr ⟨hw,h1,fun q=>by obtain⟨c,hc,-⟩:=hH;rw[q] at hc;simp at hc⟩,h2,h6,fun x hx=>h3 _ (hu.a x (by simp[hx])),hb.1,fun x hx=>hu.s x (by simp[hx])⟩
    obtain⟨cs1,h1,h2,h3,h4⟩:=key2
    obtain⟨cs2,g1,g2,g3⟩:=ih us0 cs1 (by simpa using e) h2 h4
    exact⟨cs2,.snoc h1 (h2.g hnx hl) ⟨hk0,by omega⟩ (by omega) g1,g2,fun c hc hne=>g3 c (h3 c hc (by rw[ek];exact hne key)) hne⟩
end
def bOf:Value→Int
  | .agg a => match (a[0]? : Option Value) with
    | some (.int _ b)=>b
    | _=>0
  | _=>0
def pOf:Value→Nat
  | .agg a => match (a[1]? : Option Value) with
    | some (.int _ p)=>p.toNat
    | _=>0
  | _=>0
theorem bOf_mk(b:Int)(q:Nat):bOf (mk b q)=b:=rfl
theorem pOf_mk(b:Int)(q:Nat):pOf (mk b q)=q:=by show((q:Int)).toNat=q;omega
def vfOf (tm:List (Int×Value))(tx p n:Nat):Bool:=decide ((n:Int)=(tx:Int)) || visB (bOf ((tm.lookup (n:Int)).getD (.slice none 0 0))) (pOf ((tm.lookup (n:Int)).getD (.slice none 0 0))) p
def cfOf (tm:List (Int×Value))(tx p n:Nat):Int:=confN (decide ((n:Int)=(tx:Int))) (bOf ((tm.lookup (n:Int)).getD (.slice none 0 0))) (pOf ((tm.lookup (n:Int)).getD (.slice none 0 0))) p
def MkOk (b:Int):Prop:=b=2∨b=3∨b=5
structure PI(D:SD)(cs:List NC)(U:Int→Option Us)(S:List (List UInt8))(M:Nat):Prop where
  of ::
  c:CsI S D.T.next cs
  nx:D.T.next≤900000
  m:∀ n:Nat,1≤n→n<D.T.next→∃ (b:Int) (q:Nat),MkOk b∧D.tm.lookup (n:Int)=some (mk b q)
  o:∀ x∈D.ov,∃ tx p:Nat,x=(tx:Int)∧1≤tx∧tx<D.T.next∧D.tm.lookup x=some (mk 2 p)
  u:∀ n us,U n=some us→∃ tx:Nat,n=(tx:Int)∧1≤tx∧tx<D.T.next∧UI tx cs us∧us.length≤M
section
variable {D D':SD}{cs cs':List NC}{U:Int→Option Us}{S S':List (List UInt8)}{M M':Nat}
theorem PI.more(h:PI D cs U S M)(hS:∀ x∈S,x∈S')(hM:M≤M'):PI D cs U S' M':=
  ⟨h.c.more hS (Nat.le_refl _),h.nx,h.m,h.o,fun n us e=>by
    obtain⟨tx,h1,h2,h3,h4,h5⟩:=h.u n us e
    exact⟨tx,h1,h2,h3,h4,by omega⟩⟩
theorem PI.same(h:PI D cs U S M)(hT:D'.T=D.T)(hm:D'.tm=D.tm)(ho:D'.ov=D.ov):PI D' cs U S M:=
  ⟨by rw[hT];exact h.c,by rw[hT];exact h.nx,by rw[hT,hm];exact h.m,by rw[hT,hm,ho];exact h.o,by rw[hT];exact h.u⟩
theorem PI.num(h:PI D cs U S M){c:NC}(hc:c∈cs):∃ key n,c.key=vkey key n∧nOf c=n∧1≤n∧n<D.T.next:=by
  obtain⟨-,key,n,e,-,-,h1,h2⟩:=h.c.k c hc
  exact⟨key,n,e,nOf_eq e (by have:=h.nx;omega),h1,h2⟩
theorem PI.marks(h:PI D cs U S M)(tx p:Nat):Marks D cs tx p (cfOf D.tm tx p):=fun c hc=>by
  obtain⟨key,n,e,en,h1,h2⟩:=h.num hc
  obtain⟨b,q,hb,hl⟩:=h.m n h1 h2
  rw[en]
  refine⟨b,q,hb,hl,?_⟩
  unfold cfOf
  rw[hl,Option.getD_some,bOf_mk,pOf_mk]
theorem PI.marksV(h:PI D cs U S M)(tx p:Nat):MarksV D cs tx p (vfOf D.tm tx p):=fun c hc=>by
  obtain⟨key,n,e,en,h1,h2⟩:=h.num hc
  obtain⟨b,q,hb,hl⟩:=h.m n h1 h2
  rw[en]
  refine⟨b,q,hb,hl,?_⟩
  unfold vfOf
  rw[hl,Option.getD_some,bOf_mk,pOf_mk]
theorem PI.fresh(h:PI D cs U S M):U (D.T.next:Int)=none:=by
  cases e:U (D.T.next:Int) with
  | none=>rfl
  | some us =>
    obtain⟨tx,h1,h2,h3,-⟩:=h.u _ _ e
    omega
theorem PI.begin(h:PI D cs U S M)(hn:D.T.next≤800000)(hx:D'.T.next=D.T.next+1)(hm:D'.tm=mset D.tm (D.T.next:Int) (mk 2 D.T.last))(ho:D'.ov=D.ov++[(D.T.next:Int)])(h1:1≤D.T.next):PI D' cs U S M:=by
  refine⟨h.c.more (fun _ h=>h) (by omega),by omega,fun n a b=>?_,fun x hx'=>?_,fun n us e=>?_⟩
  · rw[hm,lookup_mset]
    by_cases e:(n:Int)=(D.T.next:Int)
    · rw[if_pos e];exact⟨2,_,.inl rfl,rfl⟩
    · rw[if_neg e];exact h.m n a (by omega)
  · rw[ho] at hx'
    rcases List.mem_append.1 hx' with e|e
    · obtain⟨tx,p,e1,e2,e3,e4⟩:=h.o x e
      refine⟨tx,p,e1,e2,by omega,?_⟩
      rw[hm,lookup_mset,if_neg (by omega)]
      exact e4
    · simp at e
      refine⟨D.T.next,D.T.last,e,h1,by omega,?_⟩
      rw[hm,lookup_mset,if_pos e]
  · obtain⟨tx,e1,e2,e3,e4,e5⟩:=h.u n us e
    exact⟨tx,e1,e2,by omega,e4,e5⟩
theorem PI.end_{tx:Nat}{la lb:List Int}{b:Int}{q:Nat}(h:PI D cs U S M)(htx:tx<D.T.next)(hb:MkOk b)(hx:D'.T.next=D.T.next)(hm:D'.tm=mset D.tm (tx:Int) (mk b q))(ho:D.ov=la++(tx:Int)::lb)(ho':D'.ov=la++lb)(hna:∀ x∈la,x≠(tx:Int))(hnb:∀ x∈lb,x≠(tx:Int))
    (hc:CsI S D.T.next cs') (hk:∀ c∈cs,(∀ key,c.key≠vkey key tx)→c∈cs'):PI D' cs' (delU U tx) S M:=by
  refine⟨by rw[hx];exact hc,by rw[hx];exact h.nx,fun n a b'=>?_,fun x hx'=>?_,fun n us e=>?_⟩
  · rw[hm,lookup_mset]
    by_cases e:(n:Int)=(tx:Int)
    · rw[if_pos e];exact⟨b,q,hb,rfl⟩
    · rw[if_neg e];exact h.m n a (by omega)
  · rw[ho'] at hx'
    have hne:x≠(tx:Int):=by
      rcases List.mem_append.1 hx' with e|e
      · exact hna x e
      · exact hnb x e
    have hin:x∈D.ov:=by
      rw[ho]
      rcases List.mem_append.1 hx' with e|e
      · exact List.mem_append.2 (.inl e)
      · exact List.mem_append.2 (.inr (List.mem_cons_of_mem _ e))
    obtain⟨tx',p,e1,e2,e3,e4⟩:=h.o x hin
    exact⟨tx',p,e1,e2,by omega,by rw[hm,lookup_mset,if_neg hne];exact e4⟩
  · unfold delU at e
    by_cases hn:n=(tx:Int)
    · rw[if_pos hn] at e;cases e
    · rw[if_neg hn] at e
      obtain⟨tx',e1,e2,e3,e4,e5⟩:=h.u n us e
      refine⟨tx',e1,e2,by omega,e4.keep fun key ⟨c,hc1,hc2⟩=>⟨c,hk c hc1 fun key' q=>?_,hc2⟩,e5⟩
      rw[hc2] at q
      have h9:=h.nx
      have:=vkey_num (by omega) (by omega) q
      omega
theorem UI.push{tx i:Nat}{us:Us}{key v:List UInt8}(h:UI tx cs us)(hk1:1≤key.length)(hk3:key.length≤3)(hkl:(vkey key tx).length≤13)(hk:∀ K,Has cs K→Has cs' K)(hp:Has cs' (vkey key tx)){was:List UInt8}(hw:((∀ c∈cs,c.key≠vkey key tx)∧was=[])∨∃ c∈cs,c.key=vkey key tx∧was=c.val)
    (hv:∀ c∈cs,1≤c.vn∧c.vn≤86) (hf:∀ c∈cs,VOk c.val):UI tx cs' (us++[(vkey key tx,was)]):=by
  refine⟨fun u hu=>?_,List.pairwise_append.2 ⟨h.b,List.pairwise_singleton _ _,fun x hx y hy e=>?_⟩,fun u hu=>?_⟩
  · rcases List.mem_append.1 hu with q|q
    · exact hk _ (h.a u q)
    · simp at q;subst q;exact hp
  · simp at hy;subst hy
    rcases hw with⟨a,-⟩|⟨c,hc,e1,e2⟩
    · obtain⟨c,hc,e3⟩:=h.a x hx
      exact fun q=>a c hc (e3.trans q)
    · exfalso
      have e:was=[]:=e
      have:=(hv c hc).1
      have e4:c.val.length=c.vn:=bl_length _ _
      rw[← e2,e] at e4
      simp at e4;omega
  · rcases List.mem_append.1 hu with q|q
    · exact h.s u q
    · simp at q;subst q
      refine⟨⟨key,rfl,hk1,hk3⟩,hkl,?_⟩
      rcases hw with⟨-,e⟩|⟨c,hc,e1,e2⟩
      · show was.length≤86∧(was=[]∨VOk was);rw[e];exact⟨by simp,.inl rfl⟩
      · show was.length≤86∧(was=[]∨VOk was)
        rw[e2]
        have e4:c.val.length=c.vn:=bl_length _ _
        rw[e4];exact⟨(hv c hc).2,.inr (hf c hc)⟩
theorem PI.push{tx:Nat}{key was:List UInt8}(h:PI D cs U S M)(htx:1≤tx)(htn:tx<D.T.next)(hc:CsI S D.T.next cs')(hT:D'.T=D.T)(hm:D'.tm=D.tm)(ho:D'.ov=D.ov)
    (hk1:1≤key.length) (hk3:key.length≤3) (hkl:(vkey key tx).length≤13) (hk:∀ K,Has cs K→Has cs' K) (hp:Has cs' (vkey key tx)) (hw:((∀ c∈cs,c.key≠vkey key tx)∧was=[])∨∃ c∈cs,c.key=vkey key tx∧was=c.val) :
    PI D' cs' (pushU U tx (vkey key tx,was)) S (M+1):=by
  refine⟨by rw[hT];exact hc,by rw[hT];exact h.nx,by rw[hT,hm];exact h.m,by rw[hT,hm,ho];exact h.o,fun n us e=>?_⟩
  unfold pushU at e
  rw[hT]
  by_cases hn:n=(tx:Int)
  · rw[if_pos hn] at e
    injection e with e
    subst e
    refine⟨tx,hn,htx,htn,?_,?_⟩
    · cases hu:U n with
      | none=>exact(UI.nil tx cs).push (i:=0) (v:=[]) hk1 hk3 hkl hk hp hw h.c.v h.c.f
      | some us =>
        obtain⟨tx',e1,-,-,e4,-⟩:=h.u n us hu
        have:tx'=tx:=by omega
        subst this
        exact e4.push (i:=0) (v:=[]) hk1 hk3 hkl hk hp hw h.c.v h.c.f
    · cases hu:U n with
      | none=>simp
      | some us =>
        obtain⟨tx',-,-,-,-,e5⟩:=h.u n us hu
        simp;omega
  · rw[if_neg hn] at e
    obtain⟨tx',e1,e2,e3,e4,e5⟩:=h.u n us e
    exact⟨tx',e1,e2,e3,e4.keep fun key hK=>hk _ hK,by omega⟩
end
def Wrote(U U':Int→Option Us)(cs cs':List NC)(tx:Nat)(K:List UInt8):Prop:=(cs'=cs∧U'=U)∨∃ was,U'=pushU U tx (K,was)∧BackTo cs' (K,was) cs∧was.length≤86
section
variable {X:ST}{D D':SD}{w w':World}{k:Nat}{cs cs':List NC}{U:Int→Option Us}{S:List (List UInt8)}{M:Nat}
theorem key13(b:UInt8)(n:Nat):(vkey [107,b] n).length≤13:=by
  have h1:(esc [107,b]).length≤3:=by
    have:=esc1_len b
    show(esc1 107++(esc1 b++[])).length≤3
    rw[List.length_append,List.length_append]
    have e:(esc1 107).length=1:=rfl
    rw[e];simp;omega
  rw[vkey_len,txt_len];omega
theorem was_le(h:CsI S D.T.next cs){was K:List UInt8}(hw:((∀ c∈cs,c.key≠K)∧was=[])∨∃ c∈cs,c.key=K∧was=c.val):was.length≤86:=by
  rcases hw with⟨-,e⟩|⟨c,hc,-,e⟩
  · rw[e];simp
  · rw[e]
    have e4:c.val.length=c.vn:=bl_length _ _
    rw[e4];exact(h.v c hc).2
theorem PI.list(h:PI D cs U S M)(tx:Nat):((U (tx:Int)).getD []).length≤M:=by
  cases e:U (tx:Int) with
  | none=>simp
  | some us =>
    obtain⟨-,-,-,-,-,h5⟩:=h.u _ _ e
    exact h5
theorem put_l{kn kc vn vc tx p:Nat}{kA vA:Option Addr}{b:UInt8}{val:List UInt8}(g:GS X D w k cs U)(h:PI D cs U S M)(hkb:k≤3500)(hM:M≤50000)(hS:S.length≤38)(hK:vkey [107,b] tx∈S)
    (hl:D.tm.lookup (tx:Int)=some (mk 2 p)) (htx:1≤tx) (htn:tx<D.T.next) (hrk:SRd X D w kA [107,b]) (hkn:kn=2) (hrv:SRd X D w vA val) (hvn:vn=val.length) (hv:val.length≤85) :
    Calls Tryz.prog 15 #[.pointer (some ⟨X.s,0,none⟩),.int .i64 (tx:Int),.slice kA kn kc,.slice vA vn vc] w fun e w'=>(∃ ec:Int,e=.returned (.int .i64 ec))∧∃ D' cs' U',Lf X D D' w w'∧GS X D' w' (k+2) cs' U'∧PI D' cs' U' S (M+1)∧Wrote U U' cs cs' tx (vkey [107,b] tx):=by
  have hnx:=h.nx
  obtain⟨i,hi⟩:=below_ex (txt [107,b] 0) cs
  obtain⟨cs',hj,hc',hhas,hhK,-,-,hback⟩:=put_ex h.c (key:=[107,b]) (v:=1::val) (n:=tx) (by simp) (by simp) htx htn (by simp) (by simp;omega) (.inr ⟨_,rfl⟩) (key13 b tx) hK hS
  have wk:=was_key (tx:=tx) g.ok.rise hi g.isv (by omega)
  refine(put_g (kc:=kc) (vc:=vc) (kn:=kn) (vn:=vn) g (by omega) hl (h.marks tx p) hrk (by rw[hkn];rfl) (by simp) (by simp) hrv hvn (by omega) hi hj hc'.ok (fun c hc=>(hc'.v c hc).1) (hc'.isv (by omega)) (by have:=hc'.len;omega) (by omega) (by have:=h.list tx;omega)).mono ?_
  rintro e w' ⟨rfl,D',lf,h1,h2,-⟩
  refine⟨⟨_,rfl⟩,D',?_⟩
  by_cases hz:claimN (cfOf D.tm tx p) ((scanTo cs i (txt [107,b] 1)).map nOf)=0
  · exact⟨cs',_,lf,h2 hz,h.push htx htn hc' lf.T lf.tm lf.ov (by simp) (by simp) (key13 b tx) hhas hhK wk,.inr ⟨_,rfl,hback _ wk,was_le h.c wk⟩⟩
  · exact⟨cs,U,lf,h1 hz,(h.more (fun _ h=>h) (Nat.le_succ _)).same lf.T lf.tm lf.ov,.inl ⟨rfl,rfl⟩⟩
theorem drop_l{kn kc tx p:Nat}{kA:Option Addr}{b:UInt8}(g:GS X D w k cs U)(h:PI D cs U S M)(hkb:k≤3500)(hM:M≤50000)(hS:S.length≤38)(hK:vkey [107,b] tx∈S)
    (hl:D.tm.lookup (tx:Int)=some (mk 2 p)) (htx:1≤tx) (htn:tx<D.T.next) (hrk:SRd X D w kA [107,b]) (hkn:kn=2) :
    Calls Tryz.prog 26 #[.pointer (some ⟨X.s,0,none⟩),.int .i64 (tx:Int),.slice kA kn kc] w fun e w'=>(∃ ec:Int,e=.returned (.int .i64 ec))∧∃ D' cs' U',Lf X D D' w w'∧GS X D' w' (k+2) cs' U'∧PI D' cs' U' S (M+1)∧Wrote U U' cs cs' tx (vkey [107,b] tx):=by
  have hnx:=h.nx
  obtain⟨i,hi⟩:=below_ex (txt [107,b] 0) cs
  obtain⟨cs',hj,hc',hhas,hhK,-,-,hback⟩:=put_ex h.c (key:=[107,b]) (v:=[0]) (n:=tx) (by simp) (by simp) htx htn (by simp) (by simp) (.inl rfl) (key13 b tx) hK hS
  have wk:=was_key (tx:=tx) g.ok.rise hi g.isv (by omega)
  refine(drop_g (kc:=kc) (kn:=kn) g (by omega) hl (h.marks tx p) (h.marksV tx p) hrk (by rw[hkn];rfl) (by simp) (by simp) hi hj hc'.ok (fun c hc=>(hc'.v c hc).1) (hc'.isv (by omega)) (by have:=hc'.len;omega) (by omega) (by have:=h.list tx;omega)).mono ?_
  rintro e w' ⟨rfl,D',lf,h1,h2⟩
  refine⟨⟨_,rfl⟩,D',?_⟩
  by_cases hz:claimN (cfOf D.tm tx p) ((scanTo cs i (txt [107,b] 1)).map nOf)=0
  · by_cases hs:seenOf (vfOf D.tm tx p) (scanTo cs i (txt [107,b] 1))=none
    · exact⟨cs,U,lf,h1 (.inr hs),(h.more (fun _ h=>h) (Nat.le_succ _)).same lf.T lf.tm lf.ov,.inl ⟨rfl,rfl⟩⟩
    · exact⟨cs',_,lf,h2 hz hs,h.push htx htn hc' lf.T lf.tm lf.ov (by simp) (by simp) (key13 b tx) hhas hhK wk,.inr ⟨_,rfl,hback _ wk,was_le h.c wk⟩⟩
  · exact⟨cs,U,lf,h1 (.inl hz),(h.more (fun _ h=>h) (Nat.le_succ _)).same lf.T lf.tm lf.ov,.inl ⟨rfl,rfl⟩⟩
theorem abort_l{tx p:Nat}{la lb:List Int}(g:GS X D w k cs U)(h:PI D cs U S M)(hM:M≤40)(hkb:k≤3400)(hS:S.length≤38)(hl:D.tm.lookup (tx:Int)=some (mk 2 p))(htx:1≤tx)(htn:tx<D.T.next)(ho:D.ov=la++(tx:Int)::lb)(hna:∀ x∈la,x≠(tx:Int))(hnb:∀ x∈lb,x≠(tx:Int)) :
    Calls Tryz.prog 30 #[.pointer (some ⟨X.s,0,none⟩),.int .i64 (tx:Int)] w fun e w'=>e=.returned (.int .i64 0)∧∃ D' cs',GS X D' w' (k+82) cs' (delU U tx)∧PI D' cs' (delU U tx) S M∧Mv X D D' w w'∧D'.T.next=D.T.next∧D'.T.last=D.T.last∧D'.ov=la++lb:=by
  have hnx:=h.nx
  have hui:UI tx cs ((U (tx:Int)).getD []):=by
    cases e:U (tx:Int) with
    | none=>exact UI.nil _ _
    | some us =>
      obtain⟨tx',e1,-,-,e4,-⟩:=h.u _ _ e
      have:tx'=tx:=by omega
      subst this;exact e4
  have hll:=h.list tx
  obtain⟨N,hN⟩:∃ N,((U (tx:Int)).getD []).length=N:=⟨_,rfl⟩
  obtain⟨cs',hB,hc',hkeep⟩:=backs_ex (by omega) hS htx htn N _ cs hN h.c hui
  refine(abort_s (N:=N) g (by omega) hl ho hna hnb (by omega) rfl hB hN (by omega)).mono ?_
  rintro e w' ⟨rfl,D',g',mv,e1,e2,e3,e4⟩
  exact⟨rfl,D',cs',g'.mono (by omega),h.end_ htn (.inr (.inr rfl)) e1 e3 ho e4 hna hnb hc' hkeep,mv,e1,e2,e4⟩
theorem commit_l{tx p:Nat}{la lb:List Int}(g:GS X D w k cs U)(h:PI D cs U S M)(hkb:k≤3600)(hl:D.tm.lookup (tx:Int)=some (mk 2 p))(htn:tx<D.T.next)(ho:D.ov=la++(tx:Int)::lb)(hna:∀ x∈la,x≠(tx:Int))(hnb:∀ x∈lb,x≠(tx:Int))(hlast:D.T.last≤900000) :
    Calls Tryz.prog 18 #[.pointer (some ⟨X.s,0,none⟩),.int .i64 (tx:Int)] w fun e w'=>(∃ n:Nat,e=.returned (.tuple #[.int .i64 (n:Int),.int .i64 0]))∧∃ D',GS X D' w' (k+2) cs (delU U tx)∧PI D' cs (delU U tx) S M∧Mv X D D' w w'∧D'.T.next=D.T.next∧D'.T.last=D.T.last+1∧D'.ov=la++lb:=by
  have hnx:=h.nx
  refine(commit_s g hkb hl ho hna hnb hlast (by omega)).mono ?_
  rintro e w' ⟨hn,D',g',mv,e1,e2,e3,e4⟩
  exact⟨hn.imp fun _ h=>h.1,D',g',h.end_ htn (.inr (.inl rfl)) e1 e3 ho e4 hna hnb h.c (fun c hc _=>hc),mv,e1,e2,e4⟩
theorem begin_l(g:GS X D w k cs U)(h:PI D cs U S M)(hL:D.ov.length≤15)(hn:D.T.next≤800000) :
    Calls Tryz.prog 14 #[.pointer (some ⟨X.s,0,none⟩)] w fun e w'=>e=.returned (.tuple #[.int .i64 (D.T.next:Int),.int .i64 0])∧∃ D',GS X D' w' k cs U∧PI D' cs U S M∧Mv X D D' w w'∧D'.T.next=D.T.next+1∧D'.T.last=D.T.last∧D'.tm=mset D.tm (D.T.next:Int) (mk 2 D.T.last)∧D'.ov=D.ov++[(D.T.next:Int)]:=by
  refine(begin_s g hL (by omega)).mono ?_
  rintro e w' ⟨rfl,D',g',mv,e1,e2,e3,e4,-⟩
  exact⟨rfl,D',g',h.begin hn e1 e3 e4 g.tok.n1,mv,e1,e2,e3,e4⟩
theorem rise_lt{lim:Int}:∀ {l:List Int} {a:Int},rise lim a l=true→∀ {i j:Nat} (_:i<j) (hj:j<l.length),l[i] < l[j]
  | [],a,h,i,j,hi,hj=>by simp at hj
  | b::l,a,h,i,0,hi,hj=>absurd hi (Nat.not_lt_zero _)
  | b :: l, a, h, 0, j + 1, hi, hj => by
    simp only[rise,Bool.and_eq_true,decide_eq_true_eq] at h
    exact(rise_mem h.2.2 _ (List.getElem_mem (by simpa using hj))).1
  | b :: l, a, h, i + 1, j + 1, hi, hj => by
    simp only[rise,Bool.and_eq_true,decide_eq_true_eq] at h
    exact rise_lt h.2.2 (Nat.lt_of_succ_lt_succ hi) (by simpa using hj)
theorem PI.cut(h:PI D cs U S M)(t:TOk D){j:Nat}(hj:j<D.ov.length):∃ (tx p:Nat) (la lb:List Int),D.ov[j]=(tx:Int)∧1≤tx∧tx<D.T.next∧D.tm.lookup (tx:Int)=some (mk 2 p)∧D.ov=la++(tx:Int)::lb∧(∀ x∈la,x≠(tx:Int))∧(∀ x∈lb,x≠(tx:Int))∧la.length+lb.length+1=D.ov.length:=by
  obtain⟨tx,p,e1,e2,e3,e4⟩:=h.o _ (List.getElem_mem hj)
  refine⟨tx,p,D.ov.take j,D.ov.drop (j+1),e1,e2,e3,by rw[← e1];exact e4,?_,?_,?_,by simp;omega⟩
  · rw[← e1,← List.drop_eq_getElem_cons hj,List.take_append_drop]
  · intro x hx
    obtain⟨i,hi,rfl⟩:=List.getElem_of_mem hx
    rw[List.getElem_take,← e1]
    have hi':i<j:=by simp at hi;omega
    have:=rise_lt t.ov hi' hj
    omega
  · intro x hx
    obtain⟨i,hi,rfl⟩:=List.getElem_of_mem hx
    rw[List.getElem_drop,← e1]
    have:=rise_lt t.ov (show j<j+1+i by omega) (by simp at hi;omega)
    omega
end
end Go.Proofs.YtdbkocfbhpgpkaaGreat
