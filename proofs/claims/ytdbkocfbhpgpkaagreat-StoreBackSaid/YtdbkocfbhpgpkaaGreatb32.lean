/-
  atom.Atom.Done and store.finish with a log that may be full.
-/
import Derived.Test.YtdbkocfbhpgpkaaGreatb30
import Derived.Test.YtdbkocfbhpgpkaaGreatb31
set_option linter.unusedVariables false
set_option linter.unusedSimpArgs false
namespace Go.Proofs.YtdbkocfbhpgpkaaGreat
open Go Go.RowKit Go.Shelf
set_option maxRecDepth 100000
set_option maxHeartbeats 4000000
def PU (X:ST)(D:SD)(w:World)(k:Nat):Prop:=CX X w k∨k=X.m∨D.J.wv.ownBlock=some k
structure Pv(X:ST)(D D':SD)(w w':World):Prop where
  kp:Kp (PU X D w) w w'
  wv:∀ k,k<w.heap.size→D'.J.wv.ownBlock=some k→D.J.wv.ownBlock=some k
  T:D'.T=D.T
  tm:D'.tm=D.tm
  ov:D'.ov=D.ov
  wm:D'.wm=D.wm
theorem cx_back{X:ST}{S:Nat→Prop}{a b:World}(h:Kp S a b)(hS:∀ k,CX X a k→S k){k:Nat}(hk:k<a.heap.size)(e:CX X b k):S k:=by
  rcases e with e|e|e|e|e|e|⟨hn,cs,t,e,ht⟩
  · exact hS k (.inl e)
  · exact hS k (.inr (.inl e))
  · exact hS k (.inr (.inr (.inl e)))
  · exact hS k (.inr (.inr (.inr (.inl e))))
  · exact hS k (.inr (.inr (.inr (.inr (.inl e)))))
  · exact hS k (.inr (.inr (.inr (.inr (.inr (.inl e))))))
  · by_cases q:S k
    · exact q
    · exact hS k (.inr (.inr (.inr (.inr (.inr (.inr ⟨hn,cs,t,(h.block k hk q)▸e,ht⟩))))))
theorem Pv.back{X:ST}{D D':SD}{w w':World}(h:Pv X D D' w w'){k:Nat}(hk:k<w.heap.size)(e:PU X D' w' k):PU X D w k:=by
  rcases e with e|e|e
  · exact cx_back h.kp (fun _ e=>.inl e) hk e
  · exact .inr (.inl e)
  · exact .inr (.inr (h.wv k hk e))
theorem Pv.trans{X:ST}{D D' D'':SD}{w w' w'':World}(h:Pv X D D' w w')(g:Pv X D' D'' w' w''):Pv X D D'' w w'':=
  ⟨h.kp.trans g.kp fun k hk e=>h.back hk e,fun k hk e=>h.wv k hk (g.wv k (Nat.lt_of_lt_of_le hk h.kp.size) e),g.T.trans h.T,g.tm.trans h.tm,g.ov.trans h.ov,g.wm.trans h.wm⟩
theorem Pv.refl(X:ST)(D:SD)(w:World):Pv X D D w w:=⟨Kp.refl _ _,fun _ _ e=>e,rfl,rfl,rfl,rfl⟩
theorem Pv.below{X:ST}{D:SD}{w w':World}(h:Below w.heap.size w w'):Pv X D D w w':=⟨Kp.of h,fun _ _ e=>e,rfl,rfl,rfl,rfl⟩
structure Ivt(X:ST)(D:SD)(k:Nat)(l:List UInt8):Prop where
  pg:PgIs D l
  ll:l.length=4080
  fine:D.P.Fine
  ws:D.P.ws=[]
  blen:D.P.bs.length=142
  first:D.J.first=2
  blocks:D.J.blocks=60
  pos:D.J.pos<60
  c1:1≤D.J.count
  cnt:D.J.count≤1+200 * k
  room:need D.J.waits.length+D.J.used≤60
  sy:D.J.waits=[]→D.J.synced=D.J.last
  last:D.J.last≤2 * k
  wal:D.R.wal=.func (.func 158) #[.pointer (some ⟨X.s,0,none⟩)] #[]
  lsn:∀ f,D.R.held=some f→f.lsn≤D.J.last
  base:D.R.base=62
  rc:D.R.cnt≤k
  asked:D.S.asked≤k
  log:D.S.log=60
  ep:D.S.epoch=1
  gen:D.S.gen≤1+k
  p0:∃ st,D.P.bs[62]? = some (sealed (padP taken) st)
  pages:D.R.pages=80
structure TOk(D:SD):Prop where
  n1:1≤D.T.next
  n2:D.T.next≤1000000
  ovl:D.ov.length≤16
  ov:rise (D.T.next:Int) 0 D.ov=true
section
variable {X:ST}{D D':SD}{w w':World}{k:Nat}{l:List UInt8}
theorem need_250{n:Nat}(h:need n≤60):n≤250000:=by unfold need at h;omega
theorem Ivt.mono{k':Nat}(h:Ivt X D k l)(hk:k≤k'):Ivt X D k' l:=⟨h.pg,h.ll,h.fine,h.ws,h.blen,h.first,h.blocks,h.pos,h.c1,by have:=h.cnt;omega,h.room,h.sy,by have:=h.last;omega,h.wal,h.lsn,h.base,by have:=h.rc;omega,by have:=h.asked;omega,h.log,h.ep,by have:=h.gen;omega,h.p0,h.pages⟩
theorem Ivt.disk(h:Ivt X D k l)(hk:k≤4000):DiskG D:=
  ⟨h.fine,h.ws,by rw[h.first,h.blocks,h.blen];decide,by rw[h.blen];decide,by rw[h.blocks];exact h.pos,by rw[h.blocks];decide,by have:=h.cnt;omega,by have:=h.room;omega,need_250 (by have:=h.room;omega),h.sy⟩
theorem Ivt.page(h:Ivt X D k l)(hk:k≤4000):PageG X D:=
  ⟨h.wal,h.lsn,by rw[h.base,h.blen];decide,by have:=h.rc;omega,by have:=h.asked;omega⟩
theorem Ivt.head(h:Ivt X D k l)(hk:k≤4000)(t:TOk D):HeadG D:=
  ⟨h.log,h.ep,h.blocks,h.c1,by have:=h.cnt;omega,t.n1,t.n2,by have:=h.gen;omega,by rw[h.blen];decide,t.ovl,t.ov⟩
theorem Ivt.ck{f:FR}(h:Ivt X D k l)(hf:D.R.held=some f)(ck:CkG D D'):Ivt X D' (k+1) l∧D'.R.held=some { f with dirty:=false }∧D'.J.waits=[]∧D'.J.used=0∧D'.J.last=D.J.last∧(∃ A c,D'.J.wv=.slice A 0 c)∧D'.b=false:=by
  obtain⟨J',c,a,pv',P',rfl,jf,hu,c1,c2,c3,c4,c5⟩:=ck.ex
  have hh:(D.R.clean c).held=some { f with dirty:=false }:=by show D.R.held.map _=_;rw[hf];rfl
  have jc:=jf.count
  have jp:=jf.pos
  rw[h.blocks] at jp
  refine⟨⟨.inl ⟨_,hh,?_⟩,h.ll,c3,c4,c5.len.trans h.blen,jf.first.trans h.first,jf.blocks.trans h.blocks,jp,by have:=h.c1;show 1≤J'.count;omega,by have:=h.cnt;show J'.count≤_;omega,?_,fun _=>jf.synced.trans jf.last.symm,?_,h.wal,?_,h.base,?_,?_,h.log,h.ep,?_,by obtain⟨st,e⟩:=h.p0;exact⟨st,(c5.p0 (by rw[h.first,h.blocks];decide) h.base).trans e⟩,h.pages⟩,hh,jf.waits,hu,jf.last,jf.wv,rfl⟩
  · rcases h.pg with⟨g,e,r⟩|⟨e,-⟩
    · rw[hf] at e;injection e with e;subst e;exact r
    · rw[hf] at e;cases e
  · show need J'.waits.length+J'.used≤60
    rw[jf.waits,hu];decide
  · have:=h.last;show J'.last≤_;rw[jf.last];omega
  · intro g e
    rw[show(D.R.clean c).held=some g from e] at hh
    injection hh with hh
    have:=h.lsn f hf
    show g.lsn≤J'.last
    rw[hh,jf.last];exact this
  · show c≤k+1
    have:=h.rc;omega
  · show a≤k+1
    have:=h.asked;omega
  · show D.S.gen+1≤_
    have:=h.gen;omega
theorem CkG.pv(ck:CkG D D')(hk:Kp (CX X w) w w'):Pv X D D' w w':=by
  obtain⟨J',c,a,pv',P',rfl,jf,-⟩:=ck.ex
  exact⟨hk.weaken fun _ e=>.inl e,fun k _ e=>jf.own k e,rfl,rfl,rfl,rfl⟩
theorem StW.ncx{g:Nat}{cs:Array Value}{t:TypeId}(h:StW X D w)(hg:w.heap[g]? = some (.cells cs t (0,0)))(t1:t≠125)(t2:t≠232)(t3:t≠318)(t4:t≠147)(t5:t≠33)(t6:t≠364)(t7:t≠203):¬CX X w g:=fun q=>by
  rcases q with q|q|q|q|q|q|⟨-,cs',t',q,ht⟩
  · exact tag_ne hg h.sb t1 q
  · exact tag_ne hg h.jb t2 q
  · exact tag_ne hg h.pb.box t3 q
  · exact h.ab.map.ne hg q.symm
  · exact tag_ne hg h.dk.box t4 q
  · obtain⟨cs',hc,-⟩:=h.dk.row
    exact tag_ne hg hc t5 q
  · rw[hg] at q;injection q with q;injection q with _ q
    subst q
    rcases ht with e|e
    · exact t6 e
    · exact t7 e
theorem StW.ncx_free{g:Nat}{cs:Array Value}{t:TypeId}(h:StW X D w)(hg:w.heap[g]? = some (.cells cs t (0,0)))(f:Free t):¬CX X w g:=h.ncx hg f.t1 f.t2 f.t4 f.t7 f.t8 f.t5 f.t9
theorem StW.npu{g:Nat}{cs:Array Value}{t:TypeId}(h:StW X D w)(hg:w.heap[g]? = some (.cells cs t (0,0)))(f:Free t):¬PU X D w g:=fun q=>by
  rcases q with q|q|q
  · exact h.ncx_free hg f q
  · exact h.pb.map.ne hg q.symm
  · exact h.jo.tag hg f.t3 q
theorem StW.ncxm{g:Nat}{m:List (Int×Value)}(h:StW X D w)(hg:MapI w g m)(hi:g≠X.im):¬CX X w g:=fun q=>by
  rcases q with q|q|q|q|q|q|⟨-,cs',t',q,ht⟩
  · exact hg.ne h.sb q
  · exact hg.ne h.jb q
  · exact hg.ne h.pb.box q
  · exact hi q
  · exact hg.ne h.dk.box q
  · obtain⟨cs',hc,-⟩:=h.dk.row
    exact hg.ne hc q
  · exact hg.ne q rfl
theorem StW.ncx_own{g B:Nat}{v:Value}{l':List UInt8}(h:StW X D w)(o:Own w B v l')(e:v.ownBlock=some g):¬CX X w g:=fun q=>by
  rcases q with q|q|q|q|q|q|⟨-,cs',t',q,ht⟩
  · subst q;exact o.tag h.sb (by decide) e
  · subst q;exact o.tag h.jb (by decide) e
  · subst q;exact o.tag h.pb.box (by decide) e
  · subst q;exact o.tagm h.ab.map e
  · subst q;exact o.tag h.dk.box (by decide) e
  · subst q
    obtain⟨cs',hc,-⟩:=h.dk.row
    exact o.tag hc (by decide) e
  · refine o.tag q ?_ e
    rcases ht with rfl|rfl<;>decide
theorem TOk.pv(t:TOk D)(p:Pv X D D' w w'):TOk D':=⟨by rw[p.T];exact t.n1,by rw[p.T];exact t.n2,by rw[p.ov];exact t.ovl,by rw[p.T,p.ov];exact t.ov⟩
end
theorem rightK_any(kd:UInt8)(hkd:kd=2∨kd=3)(tx:Nat)(htx:tx≤1000000)(w:World) :
    Calls Tryz.prog 267 #[.agg #[.int .u8 (kd.toNat:Int),.int .i64 (tx:Int),.slice none 0 0]] w fun e w'=>e=.returned (.bool true)∧Below w.heap.size w w':=by
  rcases hkd with rfl|rfl
  · exact rightC_any tx htx w
  · rw[show(((3:UInt8)).toNat:Int)=3 from rfl]
    have f1:¬(tx:Int)<0:=by omega
    have f2:decide ((4611686018427387904:Int)<(tx:Int))=false:=by simp;omega
    go_enter Tryz.func267,Tryz.ntmps267
    go_wp2
    go_ret
    exact⟨rfl,(Below.refl _ _).alloc (Nat.le_refl _) _⟩
section
variable {X:ST}{D D':SD}{w w':World}{k:Nat}{l:List UInt8}
theorem Ivt.app{v':Value}{l':List UInt8}(h:Ivt X D k l)(h1:D.J.waits.length+15≤l'.length)(h2:need l'.length+D.J.used≤D.J.blocks):Ivt X { D with J:={ D.J with wv:=v',waits:=l',last:=D.J.last+1 } } (k+1) l:=
  ⟨h.pg,h.ll,h.fine,h.ws,h.blen,h.first,h.blocks,h.pos,h.c1,by have:=h.cnt;show D.J.count≤_;omega,by rw[h.blocks] at h2;exact h2,fun e=>by have e:l'=[]:=e;rw[e] at h1;simp at h1,by have:=h.last;show D.J.last+1≤_;omega,h.wal,fun f e=>Nat.le_succ_of_le (h.lsn f e),h.base,by have:=h.rc;show D.R.cnt≤_;omega,by have:=h.asked;show D.S.asked≤_;omega,h.log,h.ep,by have:=h.gen;show D.S.gen≤_;omega,h.p0,h.pages⟩
theorem two_ends{fn:FuncId}{args:Array Value}{a:Int}{P Q:World→Prop}(h:Calls Tryz.prog fn args w fun e w'=>(e=.returned (.tuple #[.int .i64 a,.int .i64 0])∧P w')∨(e=.returned (.tuple #[.int .i64 0,.int .i64 5])∧Q w')) :
    Calls Tryz.prog fn args w fun e w'=>∃ b ec:Int,e=.returned (.tuple #[.int .i64 b,.int .i64 ec])∧((ec=0∧P w')∨(ec=5∧Q w')):=
  h.mono fun e w' q=>by
    rcases q with⟨e,q⟩|⟨e,q⟩
    · exact⟨_,_,e,.inl ⟨rfl,q⟩⟩
    · exact⟨_,_,e,.inr ⟨rfl,q⟩⟩
theorem append_g{kd:UInt8}{tx:Nat}(hkd:kd=2∨kd=3)(h:StW X D w)(iv:Ivt X D k l)(hk:k≤3900)(htx:tx≤1000000) :
    Calls Tryz.prog 168 #[.pointer (some ⟨X.B.j,0,none⟩),.agg #[.int .u8 (kd.toNat:Int),.int .i64 (tx:Int),.slice none 0 0]] w fun e w'=>
      (e=.returned (.tuple #[.int .i64 ((D.J.last:Int)+1),.int .i64 0])∧∃ D',Ivt X D' (k+1) l∧Pv X D D' w w'∧StW X D' w'∧D'.R=D.R∧D'.J.last=D.J.last+1)∨(e=.returned (.tuple #[.int .i64 0,.int .i64 5])∧Below w.heap.size w w'∧60<need (D.J.waits.length+15)+D.J.used):=by
  have hr:=iv.room
  have h25:=need_250 (show need D.J.waits.length≤60 by omega)
  have hbl:=iv.blocks
  have hcn:=iv.cnt
  have hla:=iv.last
  refine(jappend_g (x:=kd) (tx:=tx) (n:=0) (c:=0) (A:=none) (M:=15) h.jb h.jo h.dk.base (by omega) (by omega) (by omega) (by omega) (by omega) (fun w3 b3=>by
    have E:=enc_any kd tx htx none 0 0 [] w3 (fun hne=>absurd rfl hne) rfl (by decide) (fun x hx=>absurd hx (by simp)) (fun w4 b4=>rightK_any kd hkd tx htx w4)
    exact E.mono fun e w5 ⟨⟨v,l,h1,h2,h3,h4⟩,h5⟩=>⟨⟨v,l,h1,h2,h3,by omega⟩,h5⟩)).mono ?_
  rintro e w' (⟨rfl,v',l',j3,o3,q1,q2,qb,qr,k3⟩|⟨rfl,b,hf⟩)
  · refine .inl ⟨rfl,_,iv.app q1 qr,⟨k3.weaken fun g e=>?_,fun g hg e=>?_,rfl,rfl,rfl,rfl⟩,h.jour k3 j3 o3 qb,rfl,rfl⟩
    · rcases e with e|e
      · exact .inl (.inr (.inl e))
      · exact .inr (.inr e)
    · rcases qb g e with q|q
      · exact q
      · omega
  · exact .inr ⟨rfl,b,by rw[← hbl];exact hf⟩
theorem record_g{kd:UInt8}{tx:Nat}{f:FR}(hkd:kd=2∨kd=3)(h:StW X D w)(iv:Ivt X D k l)(hk:k≤3800)(t:TOk D)(hf:D.R.held=some f)(htx:tx≤1000000) :
    Calls Tryz.prog 73 #[.pointer (some ⟨X.s,0,none⟩),.agg #[.int .u8 (kd.toNat:Int),.int .i64 (tx:Int),.slice none 0 0]] w fun e w'=>e=.returned (.int .i64 0)∧∃ D',Ivt X D' (k+2) l∧Pv X D D' w w'∧StW X D' w'∧D'.J.last=D.J.last+1∧∃ f',D'.R.held=some f':=by
  obtain⟨kv,hkv⟩:∃ kv,(kd.toNat:Int)=kv:=⟨_,rfl⟩
  obtain⟨W1,hW1,g1,b1,s1⟩:=box_alloc w (.cells #[.int .u8 kv,.int .i64 (tx:Int),.slice none 0 0] 139)
  have b2:=below_drew W1
  have b12:=b1.trans (b2.mono b1.size)
  have h2:=h.below b12
  have c10:W1.drew.cell? ⟨X.s,10,none⟩=some (.pointer (some ⟨X.B.j,0,none⟩)):=cellD h2.sb 10
  have g2:=keepB b2 g1
  have y0:W1.drew.cell? ⟨w.heap.size,0,none⟩=some (.int .u8 kv):=cellD g2 0
  have y1:W1.drew.cell? ⟨w.heap.size,1,none⟩=some (.int .i64 (tx:Int)):=cellD g2 1
  have y2:W1.drew.cell? ⟨w.heap.size,2,none⟩=some (.slice none 0 0):=cellD g2 2
  have AP:=append_g (tx:=tx) hkd h2 iv (by omega) htx
  have CK:=fun w1 (bb:Below W1.drew.heap.size W1.drew w1)=>checkpoint_g (h2.below bb) (iv.disk (by omega)) (iv.page (by omega)) (iv.head (by omega) t)
  have AP2:=fun w1 D1 (h1:StW X D1 w1) (i1:Ivt X D1 (k+1) l)=>append_g (tx:=tx) hkd h1 i1 (by omega) htx
  rw[hkv] at AP
  simp only[hkv] at AP2
  rw[hkv]
  have HH:=Lib.hid h2
  have HB:=Lib.hid b12
  have HI:=Lib.hid iv
  have HF:=Lib.hid hf
  have HCK:=Lib.hid CK
  have HA2:=Lib.hid AP2
  have HS1:=Lib.hid s1
  have HG2:=Lib.hid g2
  have h1:StW X D w:=h
  have HH1:=Lib.hid h1
  clear s1 h2 b12 htx h g1 g2 b1 b2 hkd hkv iv hf t CK AP2 hk h1
  go_enter Tryz.func73,Tryz.ntmps73
  go_upto_region 1 with fail
  go_region_law (first
    | (go_simp;go_at_call 168;(with_reducible refine(two_ends AP).mono ?_);rintro e w3 ⟨a3,ec,rfl,hAP⟩)
    | fail)
  all_goals
    have HAP:=Lib.hid hAP
    clear hAP
    rcases HAP.out with⟨rfl,D1,i1,p1,s1,r1,j1⟩|⟨rfl,b3,hfull⟩
    · go_wp2
      go_ret
      exact⟨rfl,D1,i1.mono (by omega),(Pv.below HB.out).trans p1,s1,j1,f,by rw[r1];exact HF.out⟩
    · have CK3:=HCK.out w3 b3
      have g3:=keepB b3 HG2.out
      have n3:=(HH.out.below b3).ncx g3 (by decide) (by decide) (by decide) (by decide) (by decide) (by decide) (by decide)
      clear hfull AP HCK
      go_upto_region 7 with (go_at_call 20;(with_reducible refine CK3.mono ?_);rintro e w4 ⟨rfl,⟨D1,hck,h4⟩,k4⟩)
      obtain⟨i4,hf4,hw4,hu4,hl4,hv4,hb4⟩:=HI.out.ck HF.out hck
      have p4:Pv X D D1 w w4:=((Pv.below HB.out).trans (Pv.below b3)).trans (hck.pv k4)
      have g4:=k4.keep g3 n3
      have bd4:=below_drew w4
      have h4:=h4.below bd4
      have g4:=keepB bd4 g4
      have p4:=p4.trans (Pv.below bd4)
      have c10':w4.drew.cell? ⟨X.s,10,none⟩=some (.pointer (some ⟨X.B.j,0,none⟩)):=cellD h4.sb 10
      have y0':w4.drew.cell? ⟨w.heap.size,0,none⟩=some (.int .u8 kv):=cellD g4 0
      have y1':w4.drew.cell? ⟨w.heap.size,1,none⟩=some (.int .i64 (tx:Int)):=cellD g4 1
      have y2':w4.drew.cell? ⟨w.heap.size,2,none⟩=some (.slice none 0 0):=cellD g4 2
      have A4:=HA2.out w4.drew D1 h4 i4
      have HP4:=Lib.hid p4
      have HN4:=Lib.hid (show ¬60<need (D1.J.waits.length+15)+D1.J.used by rw[hw4,hu4];decide)
      have HF4:=Lib.hid hf4
      have HL4:=Lib.hid hl4
      clear p4 g4 g3 n3 hck k4 i4 hf4 hw4 hu4 hl4 hv4 hb4 h4 CK3 bd4
      go_region_law (first
        | (go_simp;go_at_call 168;(with_reducible refine(two_ends A4).mono ?_);rintro e w5 ⟨a5,ec5,rfl,hA5⟩)
        | fail)
      all_goals
        rcases hA5 with⟨rfl,D2,i2,p2,s2,r2,j2⟩|⟨-,-,hfull⟩
        · go_wp2
          go_ret
          exact⟨rfl,D2,i2,HP4.out.trans p2,s2,by rw[j2,HL4.out],_,by rw[r2];exact HF4.out⟩
        · exact absurd hfull HN4.out
end
theorem free_atom:Free 276:=⟨by decide,by decide,by decide,by decide,by decide,by decide,by decide,by decide,by decide,by decide,by decide⟩
structure Px(X:ST)(x:Nat)(D D':SD)(w w':World):Prop where
  kp:Kp (fun k=>PU X D w k∨k=x) w w'
  wv:∀ k,k<w.heap.size→D'.J.wv.ownBlock=some k→D.J.wv.ownBlock=some k
  T:D'.T=D.T
  tm:D'.tm=D.tm
  ov:D'.ov=D.ov
  wm:D'.wm=D.wm
section
variable {X:ST}{D D' D'':SD}{w w' w'':World}{k x sx:Nat}{l l0:List UInt8}
theorem Px.pv{Da:SD}{w0:World}(h:Px X x D D' w w')(p:Pv X Da D w0 w)(hx:w0.heap.size≤x):Pv X Da D' w0 w':=
  ⟨p.kp.trans h.kp fun k hk e=>by
    rcases e with e|e
    · exact p.back hk e
    · omega,fun k hk e=>p.wv k hk (h.wv k (Nat.lt_of_lt_of_le hk p.kp.size) e),h.T.trans p.T,h.tm.trans p.tm,h.ov.trans p.ov,h.wm.trans p.wm⟩
theorem Pv.px(h:Pv X D D' w w')(g:Px X x D' D'' w' w''):Px X x D D'' w w'':=
  ⟨(h.kp.weaken fun _ e => .inl e).trans g.kp fun k hk e => by
    rcases e with e|e
    · exact .inl (h.back hk e)
    · exact .inr e,fun k hk e=>h.wv k hk (g.wv k (Nat.lt_of_lt_of_le hk h.kp.size) e),g.T.trans h.T,g.tm.trans h.tm,g.ov.trans h.ov,g.wm.trans h.wm⟩
theorem Px.px'(h:Px X x D D' w w')(g:Below w'.heap.size w' w''):Px X x D D' w w'':=
  ⟨h.kp.then (Kp.of g),h.wv,h.T,h.tm,h.ov,h.wm⟩
def DnG (X:ST)(D:SD)(x k:Nat)(l:List UInt8)(w w':World):Prop:=∃ D',Ivt X D' k l∧Px X x D D' w w'∧StW X D' w'∧∃ f',D'.R.held=some f'∧(¬PgIs D l→D'.J.last=D.J.last+1)
theorem Ivt.page'{f':FR}{v':Value}{l':List UInt8}(h:Ivt X D k l0)(h1:D.J.waits.length+15≤l'.length)(h2:need l'.length+D.J.used≤D.J.blocks)(hl:l.length=4080)(hb:f'.bytes=l)(hn:f'.lsn=D.J.last+1):Ivt X { D with J:={ D.J with wv:=v',waits:=l',last:=D.J.last+1 },R:={ D.R with held:=some f' },b:=true } (k+1) l:=
  ⟨.inl ⟨f',rfl,hb⟩,hl,h.fine,h.ws,h.blen,h.first,h.blocks,h.pos,h.c1,by have:=h.cnt;show D.J.count≤_;omega,by rw[h.blocks] at h2;exact h2,fun e=>by have e:l'=[]:=e;rw[e] at h1;simp at h1,by have:=h.last;show D.J.last+1≤_;omega,h.wal,fun f e=>by have e:some f'=some f:=e;injection e with e;subst e;exact Nat.le_of_eq hn,h.base,by have:=h.rc;show D.R.cnt≤_;omega,by have:=h.asked;show D.S.asked≤_;omega,h.log,h.ep,by have:=h.gen;show D.S.gen≤_;omega,h.p0,h.pages⟩
theorem done_g{tx:Nat}{v:Value}{f:FR}(h:StW X D w)(iv:Ivt X D k l0)(hk:k≤3900)(hx:XB (Zj D.J) w x X.B.a sx (some (v,l)))(hf:D.R.held=some f)(hsi:sx≠X.im)(htx:tx≤1000000) :
    Calls Tryz.prog 256 #[.pointer (some ⟨x,0,none⟩),.int .i64 (tx:Int)] w fun e w'=>∃ b ec:Int,e=.returned (.tuple #[.int .i64 b,.int .i64 ec])∧((ec=0∧DnG X D x (k+1) l w w') ∨
      (ec=5∧60<need (D.J.waits.length+4115)+D.J.used∧XB (Zj D.J) w' x X.B.a sx (some (v,l))∧StW X D w'∧Pv X D D w w')):=by
  have hl:l.length=4080:=(hx.pay _ rfl).2.1
  have hF:=h.pb.fr f hf
  obtain⟨cur,hfr,-⟩:=hF.row
  have fT:∀ g,g=f.fr→g<w.heap.size→g=X.B.p∨g=X.m∨∃ cs,w.heap[g]? = some (.cells cs 364 (0,0)):=fun g e _=>.inr (.inr ⟨cur,by rw[e];exact hfr⟩)
  have fP:∀ g,g=f.fr→PU X D w g:=fun g e=>.inl (.inr (.inr (.inr (.inr (.inr (.inr ⟨by rw[e];exact h.hi f hf,cur,_,by rw[e];exact hfr,.inl rfl⟩))))))
  by_cases heq:f.bytes=l
  · refine(xdone_same hx h.ab h.pb hf heq h.jb htx).mono ?_
    rintro e w' ⟨rfl,w1,p1,k1,k2⟩
    have s1:StW X D w1:=h.pool k1 fT p1 h.hi
    have nx:=tag_ne hx.box hfr (by decide)
    have s2:=s1.soft k2 (k1.keep hx.box nx) free_atom
    refine⟨_,_,rfl,.inl ⟨rfl,D,?_,⟨(k1.weaken fun g e=>.inl (fP g e)).trans k2 fun _ _ e=>.inr e,fun _ _ e=>e,rfl,rfl,rfl,rfl⟩,s2,f,hf,fun q=>absurd (.inl ⟨f,hf,heq⟩) q⟩⟩
    have:l=l0:=by
      rcases iv.pg with⟨g,e,r⟩|⟨e,-⟩
      · rw[hf] at e;injection e with e;subst e;exact heq.symm.trans r
      · rw[hf] at e;cases e
    rw[this];exact iv.mono (by omega)
  · have hr:=iv.room
    have h25:=need_250 (show need D.J.waits.length≤60 by omega)
    have hbl:=iv.blocks
    have hcn:=iv.cnt
    have hla:=iv.last
    refine(xdone_g hx h.ab h.pb hf heq h.jb h.jo h.dk.base hsi h.d1 (by omega) (by omega) (by omega) (by omega) (by omega) htx).mono ?_
    rintro e w' (⟨rfl,v',l',pv,j',o',q1,q2,qb,qr,p',a',kk⟩|⟨rfl,hfull,x',a',p',kk⟩)
    · have ne:∀ {g:Nat} {y:Array Value} {u:TypeId} {z:Nat×Nat},w.heap[g]? = some (.cells y u z)→u≠364→u≠232→u≠5→u≠276→¬WD D.J f X.B.j X.im x g:=fun {g y u z} e h1 h2 h3 h4 q=>by
        rcases q with q|q|q|q|q
        · exact tag_ne e hfr h1 q
        · exact tag_ne e h.jb h2 q
        · exact h.jo.tag e h3 q
        · exact h.ab.map.ne e q.symm
        · exact tag_ne e hx.box h4 q
      have nm:∀ {g:Nat} {m:List (Int×Value)},MapI w g m→X.im≠g→¬WD D.J f X.B.j X.im x g:=fun {g m} e h1 q=>by
        rcases q with q|q|q|q|q
        · exact e.ne hfr q
        · exact e.ne h.jb q
        · exact h.jo.tagm e q
        · exact h1 q.symm
        · exact e.ne hx.box q
      refine⟨_,_,rfl,.inl ⟨rfl,_,iv.page' (f':=f.turn pv l (D.J.last+1) true) (v':=v') q1 qr hl rfl rfl,⟨kk.weaken fun g e=>?_,fun g hg e=>?_,rfl,rfl,rfl,rfl⟩,?_,_,rfl,fun _=>rfl⟩⟩
      · rcases e with e|e|e|e|e
        · exact .inl (fP g e)
        · exact .inl (.inl (.inr (.inl e)))
        · exact .inl (.inr (.inr e))
        · exact .inl (.inl (.inr (.inr (.inr (.inl e)))))
        · exact .inr e
      · rcases qb g e with q|q
        · exact q
        · omega
      · refine⟨kk.keep h.sb (ne h.sb (by decide) (by decide) (by decide) (by decide)),j',o',p',a',h.dk.other kk (fun g o e q=>?_) (fun g hg e=>?_) (fun g e=>o'.lt g e),kk.keep h.tb (ne h.tb (by decide) (by decide) (by decide) (by decide)),h.tw,h.tm.kp kk (nm h.tm h.d4),h.tr.kp kk (fun g e q=>?_),h.wk.kp kk (nm h.wk h.d5),h.d1,h.d2,h.d3,h.d4,h.d5,h.d6,fun f' e=>by injection e with e;subst e;exact h.hi f hf⟩
        · rcases e with e|e|e|e|e
          · rw[e,hfr] at q;injection q with q;subst q
            exact⟨NoD.cells (by decide) (by decide) (by decide),.inr fun y e=>by injection e with _ e;exact absurd e (by decide)⟩
          · rw[e] at q;rw[show w.heap[X.B.j]? = _ from h.jb] at q;injection q with q;subst q
            exact⟨NoD.cells (by decide) (by decide) (by decide),.inr fun y e=>by injection e with _ e;exact absurd e (by decide)⟩
          · refine⟨?_,.inl e⟩
            rcases h.jo.2 with⟨e1,-⟩|⟨g',cap,cur',e1,-,hg',-⟩
            · rw[e1] at e;cases e
            · rw[e1] at e;injection e with e;dsimp only at e;subst e
              rw[hg'] at q;injection q with q;subst q
              exact NoD.cells (by decide) (by decide) (by decide)
          · subst e
            obtain⟨E,c,hE,-⟩:=h.ab.map
            rw[hE] at q;injection q with q;subst q
            exact⟨NoD.map _ _,.inr fun x e=>nomatch e⟩
          · rw[e,hx.box] at q;injection q with q;subst q
            exact⟨NoD.cells (by decide) (by decide) (by decide),.inr fun y e=>by injection e with _ e;exact absurd e (by decide)⟩
        · rcases qb g e with e|e
          · exact e
          · omega
        · rcases q with q|q|q|q|q
          · exact h.tr.ne hfr (by decide) (q▸e)
          · exact h.tr.ne h.jb (by decide) (q▸e)
          · rcases h.jo.2 with⟨e1,-⟩|⟨g',cap,cur',e1,-,hg',-⟩
            · rw[e1] at q;cases q
            · rw[e1] at q;injection q with q;dsimp only at q;subst q
              exact h.tr.ne hg' (by decide) e
          · exact h.tr.nem h.ab.map (q▸e)
          · exact h.tr.ne hx.box (by decide) (q▸e)
    · refine⟨_,_,rfl,.inr ⟨rfl,by rw[← hbl];exact hfull,x',h.pool kk fT p' h.hi,⟨kk.weaken fP,fun _ _ e=>e,rfl,rfl,rfl,rfl⟩⟩⟩
theorem finish_g{tx:Nat}{v:Value}{f:FR}(h:StW X D w)(iv:Ivt X D k l0)(hk:k≤3800)(t:TOk D)(hx:XB (Zj D.J) w x X.B.a sx (some (v,l)))(hf:D.R.held=some f)(hsi:sx≠X.im)(htx:tx≤1000000) :
    Calls Tryz.prog 200 #[.pointer (some ⟨X.s,0,none⟩),.pointer (some ⟨x,0,none⟩),.int .i64 (tx:Int)] w fun e w'=>e=.returned (.int .i64 0)∧DnG X D x (k+2) l w w':=by
  have c15:w.cell? ⟨X.s,15,none⟩=some (.int .i64 (D.S.asked:Int)):=cellD h.sb 15
  have c11:w.cell? ⟨X.s,11,none⟩=some (.pointer (some ⟨X.B.p,0,none⟩)):=cellD h.sb 11
  have PC:=fun n=>pcount_any (h.below (drewN_below w _ n)).pb
  have ha:=iv.asked
  have hc:=iv.rc
  have DN:=fun n=>done_g (h.below (drewN_below w w.heap.size n)) iv (by omega) (hx.below (drewN_below w _ n)) hf hsi htx
  have DN2:=fun D1 w1 i1 f1 (h1:StW X D1 w1) (x1:XB (Zj D1.J) w1 x X.B.a sx (some (v,l))) (e1:D1.R.held=some f1)=>done_g (k:=k+1) (l0:=l0) h1 i1 (by omega) x1 e1 hsi htx
  have CK:=fun w1 (h1:StW X D w1)=>checkpoint_g h1 (iv.disk (by omega)) (iv.page (by omega)) (iv.head (by omega) t)
  have BR:=fun w1 (h1:StW X D w1)=>sbroken_st h1
  have PC2:=fun w1 (h1:StW X D w1)=>pcount_any h1.pb
  have HDN:=Lib.hid DN
  have HDN2:=Lib.hid DN2
  have HCK:=Lib.hid CK
  have HBR:=Lib.hid BR
  have HPC2:=Lib.hid PC2
  have HI:=Lib.hid iv
  have HF:=Lib.hid hf
  have HSI:=Lib.hid hsi
  have hw:IntKind.i64.wrap ((D.S.asked:Int)-(D.R.cnt:Int))=(D.S.asked:Int)-(D.R.cnt:Int):=by rw[IntKind.wrap_i64];omega
  clear hx hsi htx ha hc DN DN2 CK BR PC2 iv hf t hk
  go_enter Tryz.func200,Tryz.ntmps200
  go_upto_region 1 with fail
  go_quiet (first
      | (go_at_call 255;refine Calls.quiet_of_same (PC _)))
  have b1:=drewN_below w w.heap.size nq
  have DN:=HDN.out nq
  obtain⟨W1,hW1⟩:∃ W1,w.drewN nq=W1:=⟨_,rfl⟩
  rw[hW1] at b1 DN ⊢
  clear PC hW1
  go_upto_region 3 with (go_at_call 256;(with_reducible refine DN.mono ?_);rintro e w3 ⟨bb,ec,rfl,hD⟩)
  rcases hD with⟨rfl,hD⟩|⟨rfl,hfull,x3,h3,p3⟩
  · obtain⟨D1,i1,q1,s1,f1,e1⟩:=hD
    have HB:=Lib.hid ((Pv.below (X:=X) (D:=D) b1).px q1)
    clear b1 DN HDN c15 c11
    go_quiet (fail)
    go_wp2
    go_ret
    exact⟨rfl,_,i1.mono (by omega),(HB.out.px' (drewN_below _ _ _)),s1.below (drewN_below _ _ _),f1,e1⟩
  · have bd3:=below_drew w3
    have h3d:=h3.below bd3
    have BR3:=HBR.out w3.drew h3d
    have s15:w3.drew.cell? ⟨X.s,15,none⟩=some (.int .i64 (D.S.asked:Int)):=cellD h3d.sb 15
    have s11:w3.drew.cell? ⟨X.s,11,none⟩=some (.pointer (some ⟨X.B.p,0,none⟩)):=cellD h3d.sb 11
    have kt:=And.intro s15 s11
    have HP3:=Lib.hid ((Pv.below (X:=X) (D:=D) b1).trans (p3.trans (Pv.below bd3)))
    have HX3:=Lib.hid (x3.below bd3)
    have H3:=Lib.hid h3d
    have KT:=Lib.hid (fun w4 (b4:Below w3.drew.heap.size w3.drew w4)=>And.intro (show w4.cell? ⟨X.s,15,none⟩=some (.int .i64 (D.S.asked:Int)) from cellD (h3d.below b4).sb 15) (And.intro (show w4.cell? ⟨X.s,11,none⟩=some (.pointer (some ⟨X.B.p,0,none⟩)) from cellD (h3d.below b4).sb 11) (HPC2.out w4 (h3d.below b4))))
    clear hfull x3 h3 p3 DN HDN b1 c15 c11 s15 s11 HBR HPC2 h3d bd3
    go_region_held3 (fun w'=>w'.cell? ⟨X.s,15,none⟩=some (.int .i64 (D.S.asked:Int))∧w'.cell? ⟨X.s,11,none⟩=some (.pointer (some ⟨X.B.p,0,none⟩)))
      (first | with_reducible exact kt | with_reducible exact kt2 | go_keep)
      (first
        | (go_at_call 43;(with_reducible refine BR3.mono ?_);rintro e w4 ⟨rfl,b4⟩;obtain⟨q15,q11,PC4⟩:=KT.out w4 b4;have kt2:=And.intro q15 q11)
        | (go_at_call 255;(with_reducible refine PC4.mono ?_);rintro e w4 ⟨rfl,rfl⟩)
        | fail)
    all_goals
      have h4:=H3.out.below b4
      have CK4:=HCK.out w4 h4
      have hx4:=HX3.out.below b4
      have HP4:=Lib.hid (HP3.out.trans (Pv.below (X:=X) (D:=D) b4))
      have HX4:=Lib.hid hx4
      have H4:=Lib.hid h4
      clear h4 hx4 HX3 H3 HP3 KT kt kt2 q15 q11 PC4 BR3 hw HCK
      go_upto_region 7 with (go_at_call 20;(with_reducible refine CK4.mono ?_);rintro e w6 ⟨rfl,⟨D1,hck,h6⟩,k6⟩)
      obtain⟨i6,hf6,hw6,hu6,hl6,hv6,hb6⟩:=HI.out.ck HF.out hck
      have p6:=HP4.out.trans (hck.pv k6)
      have hx6:XB (Zj D1.J) w6 x X.B.a sx (some (v,l)):=HX4.out.kp k6 (H4.out.ncx_free HX4.out.box free_atom) (H4.out.ncxm HX4.out.map HSI.out) (fun u e g q=>by injection e with e;subst e;exact H4.out.ncx_own (HX4.out.pay _ rfl).1 q) (fun g hg e=>(hck.pv k6).wv g hg e)
      have DN6:=HDN2.out D1 w6 i6 _ h6 hx6 hf6
      have HN6:=Lib.hid (show ¬60<need (D1.J.waits.length+4115)+D1.J.used by rw[hw6,hu6];decide)
      have HP6:=Lib.hid p6
      have hp6:PgIs D1 l→PgIs D l:=fun q=>by
        rcases q with⟨g,e,r⟩|⟨e,-⟩
        · rw[hf6] at e;injection e with e;subst e;exact .inl ⟨f,HF.out,r⟩
        · rw[hf6] at e;cases e
      have HJ6:=Lib.hid (And.intro hp6 hl6)
      clear hp6
      clear hck k6 i6 hf6 hw6 hu6 hl6 hv6 hb6 h6 CK4 p6 hx6 HDN2
      go_wp2_with (go_at_call 256;(with_reducible refine DN6.mono ?_);rintro e w7 ⟨b7,ec7,rfl,hD7⟩)
      go_ret
      rcases hD7 with⟨rfl,D2,i2,q2,s2,f2,e2⟩|⟨-,hfull,-⟩
      · exact⟨rfl,D2,i2,HP6.out.px q2,s2,f2,e2.1,fun q=>by rw[e2.2 fun r=>q (HJ6.out.1 r),HJ6.out.2]⟩
      · exact absurd hfull HN6.out
end
end Go.Proofs.YtdbkocfbhpgpkaaGreat
