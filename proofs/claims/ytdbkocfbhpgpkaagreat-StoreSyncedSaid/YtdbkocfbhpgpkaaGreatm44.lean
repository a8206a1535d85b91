/-
  A round of the law: Flush, Checkpoint.
-/
import Derived.Test.YtdbkocfbhpgpkaaGreatm43
set_option linter.unusedVariables false
set_option linter.unusedSimpArgs false
namespace Go.Proofs.YtdbkocfbhpgpkaaGreat
open Go Go.RowKit Go.Shelf
open Go.Ev (PgM PageOk CellsOut BelowIs)
set_option maxRecDepth 100000
set_option maxHeartbeats 4000000
theorem mset_same:∀ (m:List (Int×Value)) (k:Int) (v:Value),(mset m k v).lookup k=some v
  | [],k,v=>by simp[mset,List.lookup]
  | p :: m, k, v => by
    unfold mset
    split
    · rename_i h;simp[List.lookup,h]
    · rename_i h
      have:(k==p.1)=false:=by simpa using h
      simp[List.lookup,this,mset_same m k v]
theorem mset_other:∀ (m:List (Int×Value)) (k j:Int) (v:Value),j≠k→(mset m k v).lookup j=m.lookup j
  | [], k, j, v, h => by
    have:(j==k)=false:=by simpa using h
    simp[mset,List.lookup,this]
  | p :: m, k, j, v, h => by
    unfold mset
    split
    · rename_i h2
      have:(j==p.1)=false:=by simpa[← h2] using h
      simp[List.lookup,this]
    · simp only[List.lookup]
      split
      · rfl
      · exact mset_other m k j v h
theorem vkey_num{k k':List UInt8}{n n':Nat}(hn:n≤18446744073709551615)(hn':n'≤18446744073709551615)(h:vkey k n=vkey k' n'):n=n':=by
  unfold vkey at h
  have h2:=(List.append_inj' h (by rw[le_len,le_len])).2
  have h3:=congrArg leN h2
  rw[leN_le8 (by have:=vnum_le n;omega),leN_le8 (by have:=vnum_le n';omega)] at h3
  have h4:revB (BitVec.ofNat 64 (18446744073709551615-n))=revB (BitVec.ofNat 64 (18446744073709551615-n')):=BitVec.eq_of_toNat_eq h3
  have h5:=congrArg revB h4
  rw[revB_two,revB_two] at h5
  have h6:=congrArg BitVec.toNat h5
  rw[BitVec.toNat_ofNat,BitVec.toNat_ofNat,Nat.mod_eq_of_lt (by omega),Nat.mod_eq_of_lt (by omega)] at h6
  omega
theorem cmp_swap:∀ l k:List UInt8,Lib.compareBytes k l=- Lib.compareBytes l k
  | [],[]=>rfl
  | [],_::_=>rfl
  | _::_,[]=>rfl
  | a :: l, b :: k => by
    unfold Lib.compareBytes
    by_cases h1:a<b
    · have h2:¬b<a:=by intro h;exact absurd (UInt8.lt_trans h1 h) (UInt8.lt_irrefl _)
      simp[h1,h2]
    · by_cases h2:b<a
      · simp[h1,h2]
      · simp[h1,h2,cmp_swap l k]
theorem cmp_val:∀ l k:List UInt8,Lib.compareBytes l k=-1∨Lib.compareBytes l k=0∨Lib.compareBytes l k=1
  | [],[]=>.inr (.inl rfl)
  | [],_::_=>.inl rfl
  | _::_,[]=>.inr (.inr rfl)
  | a :: l, b :: k => by
    unfold Lib.compareBytes
    by_cases h1:a<b
    · simp[h1]
    · by_cases h2:b<a
      · simp[h1,h2]
      · simpa[h1,h2] using cmp_val l k
theorem bodyS_ins(cs:List NC)(nc:NC)(j:Nat):bodyS (cs.take j++nc::cs.drop j)=bodyS cs+nc.sz:=by
  have e:bodyS cs=bodyS (cs.take j)+bodyS (cs.drop j):=by
    unfold bodyS
    rw[← List.sum_append,← List.map_append,List.take_append_drop]
  have e2:bodyS (cs.take j++nc::cs.drop j)=bodyS (cs.take j)+(nc.sz+bodyS (cs.drop j)):=by
    unfold bodyS
    rw[List.map_append,List.sum_append,List.map_cons,List.sum_cons]
  rw[e,e2];omega
theorem ins_len(cs:List NC)(nc:NC)(j:Nat)(h:j≤cs.length):(cs.take j++nc::cs.drop j).length=cs.length+1:=by simp;omega
theorem ins_mem{cs:List NC}{nc c:NC}{j:Nat}(h:c∈cs.take j++nc::cs.drop j):c∈cs∨c=nc:=by
  rcases List.mem_append.1 h with h|h
  · exact .inl (List.mem_of_mem_take h)
  · rcases List.mem_cons.1 h with h|h
    · exact .inr h
    · exact .inl (List.mem_of_mem_drop h)
theorem pageOk_ins{cs:List NC}{nc:NC}{j:Nat}(hok:PageOk 1 0 cs)(hj:BelowIs cs nc.key j)(hno:∀ c∈cs,c.key≠nc.key)(hnc:nc.Ok)(hf:8+2 * (cs.length+1)+(bodyS cs+nc.sz)≤4080):PageOk 1 0 (cs.take j++nc::cs.drop j):=by
  obtain⟨h1,h2,h3⟩:=hj
  refine⟨.inl rfl,by decide,fun c hc=>?_,fun i hi=>?_,by rw[ins_len _ _ _ h1,bodyS_ins];exact hf⟩
  · rcases ins_mem hc with h|h
    · exact hok.ok c h
    · rw[h];exact hnc
  · rw[ins_len _ _ _ h1] at hi
    have hlt:(cs.take j).length=j:=by simp;omega
    have get_lo:∀ (q:Nat) (h:q<(cs.take j++nc::cs.drop j).length),(hq:q<j)→(cs.take j++nc::cs.drop j)[q]=cs[q]'(by omega):=fun q h hq=>by
      rw[List.getElem_append_left (by omega)];simp
    have get_mid:∀ (h:j<(cs.take j++nc::cs.drop j).length),(cs.take j++nc::cs.drop j)[j]=nc:=fun h=>by
      rw[List.getElem_append_right (by omega)];simp[hlt]
    have get_hi:∀ (q:Nat) (h:q<(cs.take j++nc::cs.drop j).length),(hq:j<q)→(cs.take j++nc::cs.drop j)[q]=cs[q-1]'(by rw[ins_len _ _ _ h1] at h;omega):=fun q h hq=>by
      rw[List.getElem_append_right (by omega)]
      simp only[hlt]
      rw[List.getElem_cons,dif_neg (by omega)]
      simp[show j+(q-j-1)=q-1 by omega]
    have hne:∀ c∈cs,Lib.compareBytes c.key nc.key≠0:=fun c hc e=>hno c hc ((compareBytes_zero _ _).1 e)
    rcases Nat.lt_trichotomy i j with q|q|q
    · rw[get_lo i _ q]
      rcases Nat.lt_or_ge (i+1) j with q2|q2
      · rw[get_lo (i+1) _ q2]
        exact hok.rise i (by omega)
      · have:i+1=j:=by omega
        subst this
        rw[get_mid]
        have a:=h2 i (by omega) (by omega)
        have b:=hne cs[i] (List.getElem_mem _)
        rcases cmp_val cs[i].key nc.key with c|c|c<;>omega
    · subst q
      rw[get_mid,get_hi (i+1) _ (by omega)]
      simp only[Nat.add_sub_cancel]
      have a:=h3 (by omega)
      rw[cmp_swap]
      rcases cmp_val cs[i].key nc.key with c|c|c<;>omega
    · rw[get_hi i _ q,get_hi (i+1) _ (by omega)]
      have:=hok.rise (i-1) (by omega)
      simpa[show i-1+1=i by omega] using this
theorem mid2{A B C:List UInt8}(ha:A.length=2)(hb:B.length=2):((A++(B++C)).drop 2).take 2=B:=by
  rw[List.drop_left' ha,List.take_left' hb]
theorem pgL_ne{cs cs':List NC}(h1:cs.length<65536)(h2:cs'.length<65536)(h:cs.length≠cs'.length):pgL 1 0 cs≠pgL 1 0 cs':=fun e=>by
  have e2:=congrArg (fun l=>(l.drop 2).take 2) e
  have f:∀ ds:List NC,((pgL 1 0 ds).drop 2).take 2=le 2 ds.length:=fun ds=>by
    unfold pgL pkL frontL
    simp only[List.append_assoc]
    exact mid2 (le_len _ _) (le_len _ _)
  have e3:le 2 cs.length=le 2 cs'.length:=by rw[← f cs,← f cs'];exact e2
  have e4:=congrArg leN e3
  rw[leN_small 2 _ (by omega),leN_small 2 _ (by omega)] at e4
  exact h e4
def ncOf (k v:List UInt8):NC:=⟨k.length,leN k,v.length,leN v⟩
theorem bl_leN(l:List UInt8):bl l.length (leN l)=l:=by
  rw[← bl_le]
  refine leN_inj (by rw[le_len]) ?_
  rw[leN_small _ _ (leN_lt l)]
theorem nc_key(k v:List UInt8):(ncOf k v).key=k:=bl_leN k
theorem nc_val(k v:List UInt8):(ncOf k v).val=v:=bl_leN v
theorem pow256'(n:Nat):256 ^ n=2 ^ (8 * n):=by rw[Nat.pow_mul]
theorem nc_ok{k v:List UInt8}(h1:1≤k.length)(h2:k.length≤320)(h3:v.length≤576):(ncOf k v).Ok:=
  ⟨h1,h2,h3,by have:=leN_lt k;rw[pow256'] at this;exact this,by have:=leN_lt v;rw[pow256'] at this;exact this⟩
structure CsOk(i:Nat)(cs:List NC):Prop where
  len:cs.length=i
  ok:PageOk 1 0 cs
  vn:∀ c∈cs,1≤c.vn
  key:∀ c∈cs,∃ k n,c.key=vkey k n∧1≤k.length∧k.length≤3∧1≤n∧n≤i
  sz:bodyS cs≤150 * i
theorem cs_nil:CsOk 0 []:=⟨rfl,pageOk_nil,fun c h=>by simp at h,fun c h=>by simp at h,Nat.le_refl _⟩
theorem cs_ins{i:Nat}{cs:List NC}{k val:List UInt8}(h:CsOk i cs)(hi:i<12)(hk1:1≤k.length)(hk3:k.length≤3)(hv:val.length≤85) :
    ∃ j,BelowIs cs (ncOf (vkey k (i+1)) (1::val)).key j∧(∀ c∈cs,c.key≠(ncOf (vkey k (i+1)) (1::val)).key)∧CsOk (i+1) (cs.take j++ncOf (vkey k (i+1)) (1::val)::cs.drop j)∧pgL 1 0 cs≠pgL 1 0 (cs.take j++ncOf (vkey k (i+1)) (1::val)::cs.drop j):=by
  obtain⟨j,hj⟩:=below_ex (ncOf (vkey k (i+1)) (1::val)).key cs
  have el:=esc_len k
  have hkl:(vkey k (i+1)).length≤16:=by rw[vkey_len,txt_len];omega
  have hkl1:1≤(vkey k (i+1)).length:=by rw[vkey_len];omega
  have hno:∀ c∈cs,c.key≠(ncOf (vkey k (i+1)) (1::val)).key:=fun c hc e=>by
    obtain⟨k',n',e1,-,-,-,e2⟩:=h.key c hc
    rw[nc_key,e1] at e
    have:=vkey_num (by omega) (by omega) e
    omega
  have hsz:(ncOf (vkey k (i+1)) (1::val)).sz≤110:=by
    unfold NC.sz ncOf
    simp only[List.length_cons]
    omega
  have hl:=h.len
  have hs:=h.sz
  refine⟨j,hj,hno,⟨by rw[ins_len _ _ _ hj.1,hl],pageOk_ins h.ok hj hno (nc_ok hkl1 (by omega) (by simp;omega)) (by omega),fun c hc=>?_,fun c hc=>?_,by rw[bodyS_ins];omega⟩,pgL_ne (by omega) (by rw[ins_len _ _ _ hj.1];omega) (by rw[ins_len _ _ _ hj.1];omega)⟩
  · rcases ins_mem hc with e|e
    · exact h.vn c e
    · rw[e];simp[ncOf]
  · rcases ins_mem hc with e|e
    · obtain⟨k',n',e1,e2,e3,e4,e5⟩:=h.key c e
      exact⟨k',n',e1,e2,e3,e4,by omega⟩
    · exact⟨k,i+1,by rw[e,nc_key],hk1,hk3,by omega,Nat.le_refl _⟩
structure LD(X:ST)(i:Nat)(D:SD)(cs:List NC):Prop where
  held:(D.R.held=none∧D.pv=.slice none 0 0∧cs=[]∧∃ st,D.P.bs[63]? = some (sealed (pgL 1 0 []) st))∨∃ f,D.R.held=some f∧f.bytes=pgL 1 0 cs∧f.lsn≤D.J.last∧X.n0≤f.fr
  cs:CsOk i cs
  next:D.T.next=i+1
  tl:D.T.last=i
  tm:∀ n:Nat,1≤n→n≤i→∃ q,q≤i∧D.tm.lookup (n:Int)=some (mk 3 q)
  ov:D.ov=[]
  wm:D.wm=[]
  jf:D.J.first=2
  jb:D.J.blocks=60
  jp:D.J.pos<60
  jc1:1≤D.J.count
  jc:D.J.count+need D.J.waits.length≤1+2 * i
  ju:D.J.used+need D.J.waits.length≤2 * i
  jw:D.J.waits.length≤4130 * i
  jl:D.J.last=2 * i
  js:D.J.synced≤D.J.last
  fine:D.P.Fine
  ws:D.P.ws=[]
  pl:D.P.bs.length=142
  base:D.R.base=62
  wal:D.R.wal=.func (.func 158) #[.pointer (some ⟨X.s,0,none⟩)] #[]
  cnt:D.R.cnt≤2+i
  lg:D.S.log=60
  ep:D.S.epoch=1
  gen:D.S.gen≤1+i
  asked:D.S.asked≤i
def mid (D:SD)(v:Value):SD:={ D with T:={ D.T with next:=D.T.next+1,ov:=v },tm:=mset D.tm (D.T.next:Int) (mk 2 D.T.last),ov:=[(D.T.next:Int)] }
theorem need_up(a:Nat):need (a+4115)≤need a+2:=by unfold need;omega
theorem lbegin{X:ST}{D:SD}{w:World}{i:Nat}{cs:List NC}(h:StW X D w)(L:LD X i D cs)(hi:i<12)(hx:Hi X) :
    Calls Tryz.prog 14 #[.pointer (some ⟨X.s,0,none⟩)] w fun e w'=>e=.returned (.tuple #[.int .i64 ((i:Int)+1),.int .i64 0])∧(∃ v,StW X (mid D v) w')∧Below X.n0 w w':=by
  refine(begin_st h L.ov (by rw[L.next];omega)).mono ?_
  rintro e w' ⟨rfl,⟨v,st⟩,k⟩
  refine⟨by rw[L.next];rfl,⟨v,st⟩,k.below h.dk.base fun g hg e=>?_⟩
  rcases tf_ge h e with e|e|e
  · have:=hx.t;omega
  · have:=hx.who;omega
  · omega
theorem room_of{X:ST}{D:SD}{i:Nat}{cs:List NC}(L:LD X i D cs)(hi:i<12):Room D:=by
  have:=L.jw
  have:=L.ju
  have:=L.jb
  have:=L.jc
  have:=L.jl
  have:=need_up D.J.waits.length
  exact⟨by omega,by omega,by omega,by omega,by omega⟩
structure PutD(X:ST)(i:Nat)(D0 D:SD)(cs':List NC):Prop where
  ex:∃ v0 f D' v1,(D0.R.held=some f∨D0.R.held=none∧X.n0≤f.fr)∧DnD ((mid D0 v0).hold f) D' (pgL 1 0 cs')∧D={ D' with wm:=[(((i+1:Nat):Int),v1)] }
  cs:CsOk (i+1) cs'
theorem lput{X:ST}{D:SD}{w:World}{i gk ck gv cv m:Nat}{cs:List NC}{v0:Value}{k val:List UInt8}(h:StW X (mid D v0) w)(L:LD X i D cs)(hi:i<12)(hx:Hi X)(hkl:k.length=2)(hvl:val.length=m)(hv85:m≤85)
    (hok:∀ w',Kp (SG X (mid D v0)) w w'→Rd w' w.heap.size (some ⟨gk,0,none⟩) k) (hov:∀ w',Kp (SG X (mid D v0)) w w'→Rd w' w.heap.size (some ⟨gv,0,none⟩) val) :
    Calls Tryz.prog 15 #[.pointer (some ⟨X.s,0,none⟩),.int .i64 ((i:Int)+1),.slice (some ⟨gk,0,none⟩) 2 ck,.slice (some ⟨gv,0,none⟩) m cv] w fun e w'=>e=.returned (.int .i64 0)∧(∃ D2 cs',PutD X i D D2 cs'∧StW X D2 w')∧Below X.n0 w w':=by
  obtain⟨j,hj,hno,hcs',hne⟩:=cs_ins (k:=k) (val:=val) L.cs hi (by omega) (by omega) (by omega)
  have hR:=room_of L hi
  have el:=esc_len k
  have hhf:HiF X (mid D v0):=fun f hf=>by
    rcases L.held with⟨e,-⟩|⟨f',e,-,-,e2⟩
    · rw[show(mid D v0).R.held=none from e] at hf;cases hf
    · rw[show(mid D v0).R.held=some f' from e] at hf;injection hf with hf;subst hf;exact e2
  have hp:PgIs (mid D v0) (pgL 1 0 cs):=by
    rcases L.held with⟨e1,e2,e3,st,e4⟩|⟨f,e1,e2,-⟩
    · refine .inr ⟨e1,e2,st,?_⟩
      rw[e3]
      show D.P.bs[D.R.base+1]? = _
      rw[L.base];exact e4
    · exact .inl ⟨f,e1,e2⟩
  have key:=put_store (kc:=ck) (vc:=cv) (kn:=2) (vn:=m) (i:=j) (tx:=i+1) (p:=i) (kA:=some ⟨gk,0,none⟩) (vA:=some ⟨gv,0,none⟩) (k:=k) (val:=val) (cs:=cs) (nc:=ncOf (vkey k (i+1)) (1::val)) (Good:=fun n=>1≤n∧n≤i) h hx hhf L.wm
    (by show(mset D.tm (D.T.next:Int) (mk 2 D.T.last)).lookup ((i+1:Nat):Int)=_;rw[L.next,L.tl];exact mset_same _ _ _)
    (fun n hn=>⟨by omega,by
      obtain⟨q,q1,q2⟩:=L.tm n hn.1 hn.2
      refine⟨q,q1,?_⟩
      show(mset D.tm (D.T.next:Int) (mk 2 D.T.last)).lookup (n:Int)=_
      rw[L.next,mset_other _ _ _ _ (by omega)]
      exact q2⟩)
    hp L.cs.ok L.cs.vn (by show D.R.base+1<D.P.bs.length;rw[L.base,L.pl];decide) (by show D.R.base≤_;rw[L.base];decide) (by rw[L.cs.len];omega)
    (fun c hc=>by obtain⟨k',n',e1,e2,e3,e4,e5⟩:=L.cs.key c hc;exact⟨k',n',e1,e2,by omega,by omega,e4,e5⟩)
    hok hkl.symm (by omega) (by omega) hov hvl.symm (by omega) (nc_key _ _) (nc_val _ _) hj hno hcs'.ok hne (by show 1≤(vkey k (i+1)).length;rw[vkey_len];omega) (by show(vkey k (i+1)).length≤320;rw[vkey_len,txt_len];omega) (by show 1≤(1::val).length;simp) (by show(1::val).length≤576;simp;omega)
    ⟨hR.w1,hR.w2,hR.w3,hR.w4,hR.w5⟩ (by omega) (by show D.S.asked≤_;have:=L.asked;omega) (by show D.R.cnt≤_;have:=L.cnt;omega)
  refine key.mono ?_
  rintro e w' ⟨rfl,⟨f,D',v1,hf,hD,st⟩,b⟩
  exact⟨rfl,⟨_,_,⟨⟨v0,f,D',v1,hf,hD,rfl⟩,hcs'⟩,st⟩,b⟩
theorem need_up2(a b:Nat)(h:b≤a+4130):need b≤need a+2:=by unfold need;omega
structure AfC(i:Nat)(D:SD):Prop where
  page:∃ f,D.R.held=some f∧f.dirty=true∧f.lsn≤D.J.last
  w0:0<D.J.waits.length
  js:D.J.synced≤2 * i
  cnt:D.R.cnt≤2+i
  asked:D.S.asked≤i
  gen:D.S.gen≤1+i
theorem lcommit{X:ST}{D0 D2:SD}{w:World}{i:Nat}{cs cs':List NC}(h:StW X D2 w)(P:PutD X i D0 D2 cs')(L:LD X i D0 cs)(hi:i<12)(hx:Hi X) :
    Calls Tryz.prog 18 #[.pointer (some ⟨X.s,0,none⟩),.int .i64 ((i:Int)+1)] w fun e w'=>e=.returned (.tuple #[.int .i64 (2 * (i:Int)+2),.int .i64 0])∧(∃ D3,LD X (i+1) D3 cs'∧AfC i D3∧StW X D3 w')∧Below X.n0 w w':=by
  obtain⟨v0,f,D',v1,hf,hD,rfl⟩:=P.ex
  obtain⟨v',l',f',rfl,e1,e2,e3,e4,e5,e6,e7⟩:=hD.ex
  have e4':D0.J.waits.length+15≤l'.length:=e4
  have e5':l'.length≤D0.J.waits.length+4115:=e5
  have e2':f'.lsn=D0.J.last+1:=e2
  have q1:=L.jw
  have q2:=L.ju
  have q3:=L.jb
  have q4:=L.jc
  have q5:=L.jl
  have q6:=need_up2 D0.J.waits.length l'.length (by omega)
  have q7:=need_up2 l'.length (l'.length+4115) (by omega)
  have hR:Room { ({ (mid D0 v0).hold f with J:={ ((mid D0 v0).hold f).J with wv:=v',waits:=l',last:=((mid D0 v0).hold f).J.last+1 },R:={ ((mid D0 v0).hold f).R with held:=some f' },b:=true }:SD) with wm:=[(((i+1:Nat):Int),v1)] }:=by
    refine⟨?_,?_,?_,?_,?_⟩
    · show l'.length+4115≤500000;omega
    · show need (l'.length+4115)+D0.J.used≤D0.J.blocks;omega
    · show D0.J.blocks≤_;omega
    · show D0.J.count≤_;omega
    · show D0.J.last+1≤_;omega
  refine(commit_st (tx:=i+1) (p:=i) h hx (by omega) hR rfl (by show(mset D0.tm (D0.T.next:Int) (mk 2 D0.T.last)).lookup ((i+1:Nat):Int)=_;rw[L.next,L.tl];exact mset_same _ _ _) (by show[(D0.T.next:Int)]=_;rw[L.next]) (by show D0.T.last≤_;rw[L.tl];omega)).mono ?_
  rintro e w' ⟨rfl,⟨v3,l3,u,st,c1,c2⟩,b⟩
  have c1':l'.length+15≤l3.length:=c1
  have c2':l3.length≤l'.length+15:=c2
  have q8:=need_up2 D0.J.waits.length l3.length (by omega)
  refine⟨?_,⟨_,?_,?_,st⟩,b⟩
  · show Ending.returned (.tuple #[.int .i64 (((D0.J.last+1:Nat):Int)+1),.int .i64 0])=_
    rw[L.jl]
    congr 4
  · have hfr:X.n0≤f'.fr:=by
      rw[e7 f rfl]
      rcases hf with hf|⟨-,hf⟩
      · rcases L.held with⟨a,-⟩|⟨f2,a,-,-,a2⟩
        · rw[a] at hf;cases hf
        · rw[a] at hf;injection hf with hf;rw[← hf];exact a2
      · exact hf
    exact {
      held:=.inr ⟨f',rfl,e1,by show f'.lsn≤D0.J.last+1+1;omega,hfr⟩
      cs:=P.cs
      next:=by show D0.T.next+1=_;rw[L.next]
      tl:=by show D0.T.last+1=_;rw[L.tl]
      tm:=fun n n1 n2=>by
        show ∃ q,q≤i+1∧(mset (mset D0.tm (D0.T.next:Int) (mk 2 D0.T.last)) ((i+1:Nat):Int) (mk 3 (D0.T.last+1))).lookup (n:Int)=_
        rcases Nat.lt_or_ge i n with g|g
        · have:n=i+1:=by omega
          subst this
          exact⟨i+1,Nat.le_refl _,by rw[L.tl];exact mset_same _ _ _⟩
        · obtain⟨q,p1,p2⟩:=L.tm n n1 g
          exact⟨q,by omega,by rw[mset_other _ _ _ _ (by omega),L.next,mset_other _ _ _ _ (by omega)];exact p2⟩
      ov:=rfl
      wm:=rfl
      jf:=L.jf
      jb:=L.jb
      jp:=L.jp
      jc1:=L.jc1
      jc:=by show D0.J.count+need l3.length≤_;omega
      ju:=by show D0.J.used+need l3.length≤_;omega
      jw:=by show l3.length≤_;omega
      jl:=by show D0.J.last+1+1=_;omega
      js:=by show D0.J.synced≤D0.J.last+1+1;have:=L.js;omega
      fine:=L.fine
      ws:=L.ws
      pl:=L.pl
      base:=L.base
      wal:=L.wal
      cnt:=by show D0.R.cnt≤_;have:=L.cnt;omega
      lg:=L.lg
      ep:=L.ep
      gen:=by show D0.S.gen≤_;have:=L.gen;omega
      asked:=by show D0.S.asked≤_;have:=L.asked;omega }
  · exact⟨⟨f',rfl,e3,by show f'.lsn≤D0.J.last+1+1;omega⟩,by show 0<l3.length;omega,by show D0.J.synced≤_;have:=L.js;omega,L.cnt,L.asked,L.gen⟩
theorem diskOk_of{X:ST}{D:SD}{i:Nat}{cs:List NC}(L:LD X (i+1) D cs)(A:AfC i D)(hi:i<12):DiskOk D:=by
  have:=L.jw
  have:=L.jf
  have:=L.jb
  have:=L.jp
  have:=L.jc
  have:=L.ju
  have:=L.pl
  exact⟨L.fine,L.ws,by omega,by omega,by omega,by omega,by omega,by omega,by omega,A.w0⟩
theorem held_of{X:ST}{D:SD}{i:Nat}{cs:List NC}(L:LD X (i+1) D cs)(A:AfC i D):∃ f,D.R.held=some f∧f.bytes=pgL 1 0 cs∧f.lsn≤D.J.last∧X.n0≤f.fr∧f.dirty=true:=by
  obtain⟨f,e,e1,e2⟩:=A.page
  rcases L.held with⟨a,-⟩|⟨f2,a,a1,a2,a3⟩
  · rw[a] at e;cases e
  · rw[a] at e;injection e with e;subst e
    exact⟨f2,a,a1,a2,a3,e1⟩
theorem need0:need 0=0:=by decide
theorem lflush{X:ST}{D:SD}{w:World}{i:Nat}{cs:List NC}(h:StW X D w)(L:LD X (i+1) D cs)(A:AfC i D)(hi:i<12)(hx:Hi X) :
    Calls Tryz.prog 19 #[.pointer (some ⟨X.s,0,none⟩)] w fun e w'=>e=.returned (.int .i64 0)∧(∃ D',LD X (i+1) D' cs∧D'.J.synced=2 * i+2∧StW X D' w')∧Below X.n0 w w':=by
  refine(sflush_st h hx (diskOk_of L A hi)).mono ?_
  rintro e w' ⟨rfl,⟨D',hF,st⟩,b⟩
  obtain⟨pv',P',rfl,p1,p2,p3⟩:=hF.ex
  obtain⟨f,f1,f2,f3,f4,f5⟩:=held_of L A
  have:=L.jc
  have:=L.ju
  have hl:=L.jl
  refine⟨rfl,⟨_,?_,by show D.J.last=_;omega,st⟩,b⟩
  exact {
    held:=.inr ⟨f,f1,f2,f3,f4⟩
    cs:=L.cs
    next:=L.next
    tl:=L.tl
    tm:=L.tm
    ov:=L.ov
    wm:=L.wm
    jf:=L.jf
    jb:=L.jb
    jp:=by show(D.J.pos+need D.J.waits.length) % D.J.blocks<60;rw[L.jb];exact Nat.mod_lt _ (by decide)
    jc1:=by show 1≤D.J.count+need D.J.waits.length;have:=L.jc1;omega
    jc:=by show D.J.count+need D.J.waits.length+need 0≤_;rw[need0];omega
    ju:=by show D.J.used+need D.J.waits.length+need 0≤_;rw[need0];omega
    jw:=Nat.zero_le _
    jl:=L.jl
    js:=Nat.le_refl _
    fine:=p1
    ws:=p2
    pl:=p3.trans L.pl
    base:=L.base
    wal:=L.wal
    cnt:=L.cnt
    lg:=L.lg
    ep:=L.ep
    gen:=L.gen
    asked:=L.asked }
theorem lcheck{X:ST}{D:SD}{w:World}{i:Nat}{cs:List NC}(h:StW X D w)(L:LD X (i+1) D cs)(A:AfC i D)(hi:i<12)(hx:Hi X) :
    Calls Tryz.prog 20 #[.pointer (some ⟨X.s,0,none⟩)] w fun e w'=>e=.returned (.int .i64 0)∧(∃ D',LD X (i+1) D' cs∧D'.J.synced=2 * i+2∧StW X D' w')∧Below X.n0 w w':=by
  obtain⟨f,f1,f2,f3,f4,f5⟩:=held_of L A
  have hhf:HiF X D:=fun f' e=>by rw[f1] at e;injection e with e;subst e;exact f4
  have:=L.jc
  have:=L.ju
  have hl:=L.jl
  have hn:=L.next
  have hg:=A.gen
  have hb:=L.base
  have hp:=L.pl
  have hcn:=A.cnt
  have has:=A.asked
  refine(checkpoint_st h hx hhf (diskOk_of L A hi) ⟨f1,f5,L.wal,f3,by omega,by omega,by omega⟩ ⟨L.lg,L.ep,L.jb,L.jc1,by omega,by omega,by omega,by omega,by omega,L.ov⟩).mono ?_
  rintro e w' ⟨rfl,⟨D',hC,st⟩,b⟩
  obtain⟨c,a,pv',P',rfl,c1,c2,p1,p2,p3⟩:=hC.ex
  refine⟨rfl,⟨_,?_,by show D.J.last=_;omega,st⟩,b⟩
  exact {
    held:=.inr ⟨{ f with dirty:=false },by show D.R.held.map (fun f=>{ f with dirty:=false })=_;rw[f1];rfl,f2,f3,f4⟩
    cs:=L.cs
    next:=L.next
    tl:=L.tl
    tm:=L.tm
    ov:=L.ov
    wm:=L.wm
    jf:=L.jf
    jb:=L.jb
    jp:=by show(D.J.pos+need D.J.waits.length) % D.J.blocks<60;rw[L.jb];exact Nat.mod_lt _ (by decide)
    jc1:=by show 1≤D.J.count+need D.J.waits.length;have:=L.jc1;omega
    jc:=by show D.J.count+need D.J.waits.length+need 0≤_;rw[need0];omega
    ju:=by show 0+need 0≤_;rw[need0];omega
    jw:=Nat.zero_le _
    jl:=L.jl
    js:=Nat.le_refl _
    fine:=p1
    ws:=p2
    pl:=p3.trans L.pl
    base:=L.base
    wal:=L.wal
    cnt:=by show c≤_;omega
    lg:=L.lg
    ep:=L.ep
    gen:=by show D.S.gen+1≤_;omega
    asked:=by show a≤_;omega }
end Go.Proofs.YtdbkocfbhpgpkaaGreat
