/-
  store.set: the version written, how it is taken back put behind the others.
-/
import Derived.Test.YtdbkocfbhpgpkaaGreatb36
set_option linter.unusedVariables false
set_option linter.unusedSimpArgs false
namespace Go.Proofs.YtdbkocfbhpgpkaaGreat
open Go Go.RowKit Go.Shelf
open Go.Ev (PgM PageOk CellsOut rowsOf rowsV rowV rowsOf_len BelowIs)
set_option maxRecDepth 100000
set_option maxHeartbeats 4000000
def lastBy(tx:Nat)(vs:List VR):Option VR:=vs.foldl (fun o x=>if x.by_=tx then some x else o) none
def wasV:Option VR→Value
  | none=>.slice none 0 0
  | some x=>.slice x.sA x.sn x.sc
theorem lastBy_snoc{tx q:Nat}{vs:List VR}(h:q<vs.length):lastBy tx (vs.take (q+1))=if vs[q].by_=tx then some vs[q] else lastBy tx (vs.take q):=by
  unfold lastBy
  rw[List.take_succ_eq_append_getElem h,List.foldl_append]
  rfl
def pushU(U:Int→Option Us)(tx:Nat)(u:List UInt8×List UInt8):Int→Option Us:=fun n=>if n=(tx:Int) then some ((U n).getD []++[u]) else U n
section
variable {X:ST}{D D':SD}{w w':World}
theorem own_srd{U:Int→Option Us}{B n c:Nat}{A:Option Addr}{l:List UInt8}(st:StW X D w)(u:Undos X D w U)(m:Mv X D D' w w')(hD:D'=D∨∃ f,D'=D.hold f)(o:Own w' B (.slice A n c) l)(hB:w.heap.size≤B):SRd X D' w' A l:=fun hne=>by
  obtain⟨A',c',e,-,-,r⟩:=o.slice
  injection e with e1 e2 e3
  rw[e1]
  obtain⟨b,o',e4,hb,hc⟩:=r hne
  have eb:(Value.slice A n c).ownBlock=some b:=by rw[e1,e4];rfl
  have hg:=o.blk b eb
  refine⟨b,o',e4,hb,?_,hc⟩
  rcases o.2 with⟨e5,-⟩|⟨g,cap,cur,e5,-,hcur,-⟩
  · rw[e5] at eb;cases eb
  · rw[e5] at eb;injection eb with eb;dsimp only at eb;subst eb
    exact fu_new st u m (by omega) hD hcur (by decide) (by decide)
theorem sx_new{U:Int→Option Us}{b:Nat}{cs:Array Value}{t:TypeId}(st:StW X D w)(u:Undos X D w U)(m:Mv X D D' w w')(hD:D'=D∨∃ f,D'=D.hold f)(hb:w.heap.size≤b)(hg:w'.heap[b]? = some (.cells cs t (0,0)))(h1:t≠364)(h2:t≠203):SX X D' w' b (.cells cs t (0,0)):=
  ⟨hg,fu_new st u m hb hD hg h1 h2⟩
theorem lookup_mset:∀ (m:List (Int×Value)) (k:Int) (v:Value) (n:Int),(mset m k v).lookup n=if n=k then some v else m.lookup n
  | [], k, v, n => by
    by_cases e:n=k
    · subst e;simp[mset,List.lookup]
    · have:(n==k)=false:=by simpa using e
      simp[mset,List.lookup,e,this]
  | (a, u) :: m, k, v, n => by
    by_cases e:k=a
    · subst e
      by_cases e2:n=k
      · subst e2;simp[mset,List.lookup]
      · have:(n==k)=false:=by simpa using e2
        simp[mset,List.lookup,e2,this]
    · have ih:=lookup_mset m k v n
      by_cases e2:n=a
      · subst e2
        have:¬n=k:=fun q=>e q.symm
        simp[mset,List.lookup,e,this]
      · have h2:(n==a)=false:=by simpa using e2
        simp[mset,List.lookup,e,h2,ih]
theorem StW.row{tx:Nat}{v:Value}{us:Us}(h:StW X D w)(u:UL X D w tx v us)(k:Kp (fun g=>v.ownBlock=some g) w w'):StW X D w':=by
  cases e:v.ownBlock with
  | none=>exact h.below (k.below (Nat.le_refl _) fun g _ q=>by rw[e] at q;cases q)
  | some N =>
    obtain⟨-,cur,hc⟩:=u.blk e
    exact h.soft (k.weaken fun g q=>by rw[e] at q;injection q with q;exact q.symm) hc free_fn
theorem undos_ul{U:Int→Option Us}{tx:Nat}{v0:Value}{us:Us}(hU:Undos X D w U)(hv0:v0=(D.wm.lookup (tx:Int)).getD (.slice none 0 0))(hus:us=(U (tx:Int)).getD []):UL X D w tx v0 us:=by
  cases e:D.wm.lookup (tx:Int) with
  | none =>
    have:=hU.non _ e
    rw[e] at hv0;rw[this] at hus
    subst hv0 hus
    exact⟨[],rfl,World.ownsRow_nil _ _ _ _,fun i h=>by simp at h⟩
  | some v =>
    obtain⟨tx',us',h1,h2,h3⟩:=hU.one _ _ e
    have:tx'=tx:=by omega
    subst this
    rw[e] at hv0;rw[h2] at hus
    simp only[Option.getD_some] at hv0 hus
    subst hv0 hus
    exact h3
theorem undos_blk{tx g:Nat}{v0:Value}(hv0:v0=(D.wm.lookup (tx:Int)).getD (.slice none 0 0))(hg:v0.ownBlock=some g):D.wm.lookup (tx:Int)=some v0:=by
  cases e:D.wm.lookup (tx:Int) with
  | none=>rw[e] at hv0;subst hv0;cases hg
  | some v=>rw[e] at hv0;subst hv0;rfl
theorem grow_kp{w w4:World}{o:Obj}{v:Value}(h:(w.alloc o).drew.grownBy w4 v.ownBlock):Kp (fun g=>v.ownBlock=some g) w.drew w4:=
  (Kp.of (show Below w.drew.heap.size w.drew (w.drew.alloc o) from(Below.refl _ _).alloc (Nat.le_refl _) o)).then (Kp.grow h)
theorem row_uniq{w:World}{n₀ e s k:Nat}{v:Value}{xs ys:List Value}(h:w.ownsRow n₀ e s v k xs)(g:w.ownsRow n₀ e s v k ys):xs=ys:=by
  rcases h.2 with⟨e1,h0⟩|⟨b,cap,cur,e1,-,hb,-,-,-,h6⟩
  · have a:xs=[]:=List.eq_nil_of_length_eq_zero (by have:=h.1;rw[h0] at this;simpa using this)
    have b:ys=[]:=List.eq_nil_of_length_eq_zero (by have:=g.1;rw[h0] at this;simpa using this)
    rw[a,b]
  · rcases g.2 with⟨e2,-⟩|⟨b',cap',cur',e2,-,hb',-,-,-,h6'⟩
    · rw[e1] at e2;cases e2
    · rw[e1] at e2
      injection e2 with e2 e3 e4
      injection e2 with e2
      injection e2 with e2
      subst e2
      rw[hb] at hb';injection hb' with hb';injection hb' with hb'
      subst hb'
      exact h6.symm.trans h6'
theorem Ivt.wm{k:Nat}{l:List UInt8}(i1:Ivt X D k l)(m:List (Int×Value)):Ivt X { D with wm:=m } k l:=⟨i1.pg,i1.ll,i1.fine,i1.ws,i1.blen,i1.first,i1.blocks,i1.pos,i1.c1,i1.cnt,i1.room,i1.sy,i1.last,i1.wal,i1.lsn,i1.base,i1.rc,i1.asked,i1.log,i1.ep,i1.gen,i1.p0,i1.pages⟩
theorem undos_push{w4:World}{U:Int→Option Us}{tx g4 c4:Nat}{v0 fv:Value}{us:Us}{at_ was:List UInt8}(st:StW X D w)(hU:Undos X D w U)(hv0:v0=(D.wm.lookup (tx:Int)).getD (.slice none 0 0))(hus:us=(U (tx:Int)).getD [])
    (hfv:UE X D w tx at_ was fv) (k4:Kp (fun g=>v0.ownBlock=some g) w w4) (hg4:v0.ownBlock=some g4∨w.heap.size≤g4) (hlt4:g4<w4.heap.size)
    (hrow:∀ fs,w.ownsRow X.n0 36 1 v0 us.length fs→fs.length=us.length→w4.ownsRow X.n0 36 1 (.slice (some ⟨g4,0,none⟩) (us.length+1) c4) (us.length+1) (fs++[fv]))
    (kk:Kp (·=X.B.wk) w4 w') (m5:MapI w' X.B.wk (mset D.wm (tx:Int) (.slice (some ⟨g4,0,none⟩) (us.length+1) c4))) :
    StW X { D with wm:=mset D.wm (tx:Int) (.slice (some ⟨g4,0,none⟩) (us.length+1) c4) } w'∧Mv X D { D with wm:=mset D.wm (tx:Int) (.slice (some ⟨g4,0,none⟩) (us.length+1) c4) } w w'∧Undos X { D with wm:=mset D.wm (tx:Int) (.slice (some ⟨g4,0,none⟩) (us.length+1) c4) } w' (pushU U tx (at_,was)):=by
  have UL0:=undos_ul hU hv0 hus
  have hv0b:=fun g hg=>undos_blk (g:=g) hv0 hg
  have st4:=st.row UL0 k4
  have nwk:∀ {tx':Nat} {v:Value} {us':Us},UL X D w tx' v us'→∀ g,v.ownBlock=some g→g≠X.B.wk:=fun u g hg e=>by
    obtain⟨-,cur,hc⟩:=u.blk hg
    exact st.wk.ne hc e.symm
  have kall:Kp (fun g=>v0.ownBlock=some g∨g=X.B.wk) w w':=(k4.weaken fun _ e=>.inl e).then (kk.weaken fun _ e=>.inr e)
  have MV:Mv X D { D with wm:=mset D.wm (tx:Int) (.slice (some ⟨g4,0,none⟩) (us.length+1) c4) } w w':=by
    have kf:Kp (FU X D w) w w':=kall.weaken fun g e=>by
      rcases e with e|e
      · exact .inr (.inr (.inr (.inr (.inr ⟨_,_,hv0b g e,e⟩))))
      · exact .inr (.inr (.inr (.inl e)))
    refine⟨kf,fun g hg e=>?_⟩
    rcases e with (e|e|e)|e|e|e|e|⟨t,v,e1,e2⟩
    · exact cx_back kf (fun _ q=>.inl (.inl q)) hg e
    · exact .inl (.inr (.inl e))
    · exact .inl (.inr (.inr e))
    · exact .inr (.inl e)
    · exact .inr (.inr (.inl e))
    · exact .inr (.inr (.inr (.inl e)))
    · exact .inr (.inr (.inr (.inr (.inl e))))
    · have e1:(mset D.wm (tx:Int) (.slice (some ⟨g4,0,none⟩) (us.length+1) c4)).lookup t=some v:=e1
      rw[lookup_mset] at e1
      by_cases ht:t=(tx:Int)
      · rw[if_pos ht] at e1;injection e1 with e1;subst e1
        injection e2 with e2;dsimp only at e2;subst e2
        rcases hg4 with q|q
        · exact .inr (.inr (.inr (.inr (.inr ⟨_,_,hv0b _ q,q⟩))))
        · omega
      · rw[if_neg ht] at e1
        exact .inr (.inr (.inr (.inr (.inr ⟨t,v,e1,e2⟩))))
  refine⟨st4.work kk m5,MV,fun n v e=>?_,fun n e=>?_,fun n m v u g e1 e2 hnm hg hg2=>?_,mset_nodup hU.nd⟩
  · have e:(mset D.wm (tx:Int) (.slice (some ⟨g4,0,none⟩) (us.length+1) c4)).lookup n=some v:=e
    rw[lookup_mset] at e
    by_cases ht:n=(tx:Int)
    · rw[if_pos ht] at e;injection e with e;subst e
      obtain⟨fs,hfl,hr0,hue⟩:=UL0
      refine⟨tx,us++[(at_,was)],ht,by unfold pushU;rw[if_pos ht,ht,← hus],fs++[fv],by simp[hfl],?_,fun i hi hg=>?_⟩
      · rw[List.length_append]
        refine row_same (hrow fs hr0 hfl) fun g hg=>kk.block g ?_ ?_
        · injection hg with hg;dsimp only at hg;omega
        · intro e
          have e:g=X.B.wk:=e
          injection hg with hg;dsimp only at hg;subst hg
          rcases hg4 with q|q
          · exact nwk ⟨fs,hfl,hr0,hue⟩ _ q e
          · have:=st.wk.lt;omega
      · by_cases hil:i<us.length
        · rw[List.getElem_append_left hil,List.getElem_append_left (by omega)]
          exact(hue i hil (by omega)).mv MV
        · have e3:i=us.length:=by simp at hi;omega
          subst e3
          rw[List.getElem_concat_length (by rfl),List.getElem_concat_length (by omega)]
          exact hfv.mv MV
    · rw[if_neg ht] at e
      obtain⟨tx',us',h1,h2,h3⟩:=hU.one n v e
      refine⟨tx',us',h1,by unfold pushU;rw[if_neg ht];exact h2,h3.mv MV fun g hg=>kall.block g ?_ ?_⟩
      · obtain⟨-,cur,hc⟩:=h3.blk hg
        exact hlt hc
      · rintro (q|q)
        · exact hU.apart n tx v v0 g e (hv0b g q) ht hg q
        · exact nwk h3 g hg q
  · have e:(mset D.wm (tx:Int) (.slice (some ⟨g4,0,none⟩) (us.length+1) c4)).lookup n=none:=e
    rw[lookup_mset] at e
    by_cases ht:n=(tx:Int)
    · rw[if_pos ht] at e;cases e
    · rw[if_neg ht] at e
      unfold pushU;rw[if_neg ht];exact hU.non n e
  · have e1:(mset D.wm (tx:Int) (.slice (some ⟨g4,0,none⟩) (us.length+1) c4)).lookup n=some v:=e1
    have e2:(mset D.wm (tx:Int) (.slice (some ⟨g4,0,none⟩) (us.length+1) c4)).lookup m=some u:=e2
    rw[lookup_mset] at e1 e2
    have key:∀ {m:Int} {u:Value},D.wm.lookup m=some u→m≠(tx:Int)→u.ownBlock≠some g4:=fun {m u} q1 q2 q3=>by
      obtain⟨tx',us',-,-,h3⟩:=hU.one m u q1
      obtain⟨-,cur,hc⟩:=h3.blk q3
      rcases hg4 with q|q
      · exact hU.apart m tx u v0 g4 q1 (hv0b _ q) q2 q3 q
      · have:=hlt hc;omega
    by_cases ht:n=(tx:Int)
    · have hm:m≠(tx:Int):=fun q=>hnm (ht.trans q.symm)
      rw[if_pos ht] at e1;rw[if_neg hm] at e2
      injection e1 with e1;subst e1
      injection hg with hg;dsimp only at hg;subst hg
      exact key e2 hm hg2
    · rw[if_neg ht] at e1
      by_cases hm:m=(tx:Int)
      · rw[if_pos hm] at e2
        injection e2 with e2;subst e2
        injection hg2 with hg2;dsimp only at hg2;subst hg2
        exact key e1 ht hg
      · rw[if_neg hm] at e2
        exact hU.apart n m v u g e1 e2 hnm hg hg2
theorem set_g{kn kc vc sc tx n k:Nat}{kA va sA:Option Addr}{key was:List UInt8}{f:FR}{cs cs':List NC}{nc:NC}{vs:List VR}{U:Int→Option Us}(h:StW X D w)(iv:Ivt X D k (pgL 1 0 cs))(hkb:k≤3800)(t:TOk D)(hf:D.R.held=some f)(hU:Undos X D w U)
    (hr:Rd w w.heap.size kA key) (hkn:kn=key.length) (hk1:1≤key.length) (hk2:key.length≤128)
    (hrow:w.ownsRow n 158 4 (.slice sA vs.length sc) vs.length (vX vs)) (hvl:vs.length≤60)
    (hwas:∃ A c,wasV (lastBy tx vs)=.slice A was.length c∧SRd X D w A was)
    (hok:PageOk 1 0 cs) (hv1:∀ c∈cs,1≤c.vn) (hkey:nc.key=vkey key tx) (hv:SRd X D w va nc.val)
    (hj:PutTo cs nc cs') (hok':PageOk 1 0 cs') (h1:1≤nc.kn) (h2:nc.kn≤320) (hv2:1≤nc.vn) (h3:nc.vn≤576) (hn:cs.length≤2000) (htx:tx≤1000000) (hul:((U (tx:Int)).getD []).length≤100000) :
    Calls Tryz.prog 70 #[.pointer (some ⟨X.s,0,none⟩),.int .i64 (tx:Int),.slice kA kn kc,.slice va nc.vn vc,.slice sA vs.length sc] w fun e w'=>e=.returned (.int .i64 0)∧∃ D',Ivt X D' (k+2) (pgL 1 0 cs')∧Mv X D D' w w'∧StW X D' w'∧Undos X D' w' (pushU U tx (vkey key tx,was))∧D'.T=D.T∧D'.tm=D.tm∧D'.ov=D.ov∧∃ f',D'.R.held=some f'∧(¬PgIs D (pgL 1 0 cs')→D'.J.last=D.J.last+1):=by
  have hmf:∀ (fn:Fn) (first cap:Array Value) (w:World),(Instr.makeFunc fn first cap).run Tryz.prog w=.ok (.func fn first cap) w:=fun _ _ _ _=>rfl
  obtain⟨W1,hW1,g1,b1,s1⟩:=box_alloc w (.cells #[.pointer (some ⟨X.s,0,none⟩)] 24)
  obtain⟨W2,hW2,g2,b2,s2⟩:=box_alloc W1 (.cells #[.int .i64 (tx:Int)] 3)
  have b12:=b1.trans (b2.mono b1.size)
  have g12:=keepB b2 g1
  have y1:W2.cell? ⟨w.heap.size,0,none⟩=some (.pointer (some ⟨X.s,0,none⟩)):=cellD g12 0
  have y2:W2.cell? ⟨W1.heap.size,0,none⟩=some (.int .i64 (tx:Int)):=cellD g2 0
  have JN:=join_any kA kn kc tx key W2 ((hr.below b12).more b12.size) hkn hk1 hk2 (by omega)
  have WR:∀ w5,Below w.heap.size w w5→∀ {ka:Option Addr} {kc:Nat},SRd X D w5 ka nc.key→_:=fun w5 b5 ka kc hk=>
    write_put (kc:=kc) (vc:=vc) (va:=va) (h.below b5) iv hkb t hf hok hv1 (hk.sg (h.below b5)) ((hv.mv (Mv.below b5)).sg (h.below b5)) hj hok' h1 h2 hv2 h3 hn htx
  have HW:=Lib.hid @WR
  have HH:=Lib.hid h
  have HUU:=Lib.hid hU
  have HWAS:=Lib.hid hwas
  have HKY:=Lib.hid hkey
  have HRW:=Lib.hid hrow
  have HUL:=Lib.hid hul
  have HB12:=Lib.hid b12
  have HS1:=Lib.hid s1
  have HS2:=Lib.hid s2
  have hkl:nc.kn=(vkey key tx).length:=by rw[← hkey];simp[NC.key,bl]
  have HKL:=Lib.hid hkl
  obtain⟨L,hL⟩:∃ L,vs.length=L:=⟨_,rfl⟩
  have HL:=Lib.hid hL
  have hL60:L≤60:=by omega
  rw[hL]
  clear hul h hU hwas hr hkn hk1 hk2 hrow hvl hf hok hv1 hkey hv hj hok' h1 h2 hv2 h3 hn htx iv t hkb WR b12 s1 s2 hkl hL
  go_enter Tryz.func70,Tryz.ntmps70
  go_upto_region 5 with (go_at_call 165;(with_reducible refine JN.mono ?_);rintro e w3 ⟨⟨u,rfl,o3⟩,b3⟩;obtain⟨ka,kc3,rfl,-⟩:=o3.sl HKL.out.symm)
  obtain⟨W4,hW4,g4,b4,s4⟩:=box_alloc w3 (.cells #[.slice ka nc.kn kc3] 33)
  obtain⟨W5,hW5,g5,b5,s5⟩:=box_alloc W4 (.cells #[.slice none 0 0] 33)
  rw[← s4,hW4,hW5]
  have z1:=HS1.out
  have z2:=HS2.out
  have z3:=b3.size
  have b25:=(b3.trans (b4.mono z3)).trans (b5.mono (Nat.le_trans z3 b4.size))
  have o5:=((o3.belowS b4).belowS b5).down HB12.out.size
  have g15:W5.heap[w.heap.size]? = some (.cells #[.pointer (some ⟨X.s,0,none⟩)] 24 (0,0)):=keepB b25 g12
  have g25:=keepB b25 g2
  have g45:=keepB b5 g4
  have HO5:=Lib.hid o5
  have HZ:=Lib.hid (And.intro z1 (And.intro z2 (And.intro z3 (And.intro s4 s5))))
  have HB05:=Lib.hid (HB12.out.trans (b25.mono HB12.out.size))
  have hform:=row_ver HRW.out
  have HF:=Lib.hid hform
  have n1:w.heap.size≠W4.heap.size:=by omega
  have n2:W1.heap.size≠W4.heap.size:=by omega
  have n4:w3.heap.size≠W4.heap.size:=by omega
  have nn:w.heap.size<W4.heap.size:=by omega
  have HNN:=Lib.hid (And.intro n1 (And.intro n2 (And.intro n4 nn)))
  clear o3 o5 s4 s5 z1 z2 z3 hW1 hW2 hW4 hW5 y1 y2 g1 g2 g12 b1 b2 b3 b4 b5 b25 g4 JN hform n1 n2 n4 nn
  go_wp2
  go_loopw [27] (fun kq wr=>∃ q:Nat,q≤L∧kq=.int .i64 (q:Nat)∧wr.heap[W4.heap.size]? = some (.cells #[wasV (lastBy tx (vs.take q))] 33 (0,0))∧Kp (·=W4.heap.size) W5 wr) (fun kq _=>L-(RowKit.intOf kq).toNat)
  case atStart=>exact⟨0,Nat.zero_le _,rfl,g5,Kp.refl _ _⟩
  case round=>
    obtain⟨q,hq,rfl,hbx,k6⟩:=hrel
    by_cases hlq:q<L
    · have hqv:q<vs.length:=by rw[HL.out];exact hlq
      rcases HF.out with⟨-,e⟩|⟨g,c',eg,hg,-,hc⟩
      · subst e;simp at hqv
      injection eg with eg e2 e3
      subst eg e3
      obtain⟨⟨aA,an,ac,vA,vn',vc',by_,sA',sn,scc⟩,hX⟩:∃ X,vs[q]=X:=⟨_,rfl⟩
      have hls:=lastBy_snoc (tx:=tx) hqv
      rw[hX] at hls
      have hgb:g≠W4.heap.size:=by have:=HNN.out.2.2.2;omega
      have z05:=HB05.out.size
      have ck:∀ j,wr.cell? ⟨g,j,none⟩=w.cell? ⟨g,j,none⟩:=fun j=>(cellK (k6.block g (by omega) hgb)).trans (HB05.out.cell (p:=⟨g,j,none⟩) hg)
      have c0:wr.cell? ⟨g,q * 4,none⟩=some (.slice aA an ac):=(ck _).trans (by have:=hc q hqv 0 (by decide);rw[hX] at this;exact this)
      have c1:wr.cell? ⟨g,q * 4+1,none⟩=some (.slice vA vn' vc'):=(ck _).trans (by have:=hc q hqv 1 (by decide);rw[hX] at this;exact this)
      have c2:wr.cell? ⟨g,q * 4+2,none⟩=some (.int .i64 (by_:Int)):=(ck _).trans (by have:=hc q hqv 2 (by decide);rw[hX] at this;exact this)
      have c3:wr.cell? ⟨g,q * 4+3,none⟩=some (.slice sA' sn scc):=(ck _).trans (by have:=hc q hqv 3 (by decide);rw[hX] at this;exact this)
      obtain⟨W7,hW7,g7,b7,s7⟩:=box_alloc wr (.cells #[.slice aA an ac,.slice vA vn' vc',.int .i64 (by_:Int),.slice sA' sn scc] 158)
      have x2:W7.cell? ⟨wr.heap.size,2,none⟩=some (.int .i64 (by_:Int)):=cellD g7 2
      have x3:W7.cell? ⟨wr.heap.size,3,none⟩=some (.slice sA' sn scc):=cellD g7 3
      have x6:W7.cell? ⟨W1.heap.size,0,none⟩=some (.int .i64 (tx:Int)):=cellD (keepB b7 (k6.keep g25 HNN.out.2.1)) 0
      have gb7:=keepB b7 hbx
      have k67:Kp (·=W4.heap.size) W5 W7:=k6.then (Kp.of b7)
      have HLS:=Lib.hid hls
      clear s7 hX hc e2 hg hqv ck hls z05
      by_cases hby:by_=tx
      · subst hby
        have f1:((by_:Int)==(by_:Int))=true:=by simp
        have zb:W7.frozen? ⟨W4.heap.size,0,none⟩=false:=frozenD gb7 0
        have xb:W7.cell? ⟨W4.heap.size,0,none⟩=some (wasV (lastBy by_ (vs.take q))):=cellD gb7 0
        obtain⟨W8,hW8,g8,k8,s8⟩:=set_name 0 gb7 (.slice sA' sn scc)
        clear s8
        go_wp2
        refine⟨⟨q+1,by omega,rfl,?_,k67.then k8⟩,?_⟩
        · rw[HLS.out,if_pos rfl];exact g8
        · simp[RowKit.intOf];omega
      · have f1:((by_:Int)==(tx:Int))=false:=by simp;omega
        have f2:¬((by_:Int)=(tx:Int)):=by omega
        go_wp2
        refine⟨⟨q+1,by omega,rfl,?_,k67⟩,?_⟩
        · rw[HLS.out,if_neg hby];exact gb7
        · simp[RowKit.intOf];omega
    · obtain rfl:q=L:=by omega
      clear hlq hq
      rw[← HL.out,List.take_length] at hbx
      obtain⟨Aw,cw,hwv,hsw⟩:=HWAS.out
      rw[hwv] at hbx
      have st:=HH.out
      have uu:=HUU.out
      have b0r:Below w.heap.size w wr:=HB05.out.trans (k6.below HB05.out.size fun g hg e=>by have:=HNN.out.2.2.2;have e:g=W4.heap.size:=e;omega)
      have m0r:=Mv.below (X:=X) (D:=D) b0r
      have or:=HO5.out.kp k6 (fun g e1 e2=>HO5.out.tag g5 (by decide) (by have e2:g=_:=e2;rw[← e2];exact e1))
      have sat:SRd X D wr ka (vkey key tx):=own_srd st uu m0r (.inl rfl) or (Nat.le_refl _)
      have WC:=HW.out wr b0r (kc:=kc3) (HKY.out▸sat)
      have t1:=k6.keep g15 HNN.out.1
      have t2:=k6.keep g25 HNN.out.2.1
      have t4:=k6.keep g45 HNN.out.2.2.1
      obtain⟨z1,z2,z3,z4,z5⟩:=HZ.out
      have X1:=sx_new st uu m0r (.inl rfl) (Nat.le_refl _) t1 (by decide) (by decide)
      have X2:=sx_new st uu m0r (.inl rfl) (by omega) t2 (by decide) (by decide)
      have X4:=sx_new st uu m0r (.inl rfl) (by omega) t4 (by decide) (by decide)
      have X5:=sx_new st uu m0r (.inl rfl) (by omega) hbx (by decide) (by decide)
      have sw:=hsw.mv m0r
      have x5:wr.cell? ⟨w.heap.size,0,none⟩=some (.pointer (some ⟨X.s,0,none⟩)):=cellD t1 0
      have x6:wr.cell? ⟨W1.heap.size,0,none⟩=some (.int .i64 (tx:Int)):=cellD t2 0
      have x11:wr.cell? ⟨w3.heap.size,0,none⟩=some (.slice ka nc.kn kc3):=cellD t4 0
      have HX:=Lib.hid (And.intro X1 (And.intro X2 (And.intro X4 (And.intro sat (And.intro X5 sw)))))
      have HB0:=Lib.hid b0r
      clear X1 X2 X4 X5 sat sw t1 t2 t4 or m0r b0r hbx hwv hsw k6 HW g15 g25 g45 g5 st uu z1 z2 z3 z4 z5
      go_upto_region 14 with (go_at_call 104;(with_reducible refine WC.mono ?_);rintro e w7 ⟨rfl,D1,i1,p1,st1,f1,e1⟩)
      have b8:=below_drew w7
      have h8:=st1.below b8
      have m17:Mv X D D1 wr w7.drew:=p1.mv.trans (Mv.below b8)
      have m07:Mv X D D1 w w7.drew:=(Mv.below HB0.out).trans m17
      have st0:=HH.out
      have u8:Undos X D1 w7.drew U:=((HUU.out.pv st0 (Pv.below HB0.out)).pv (st0.below HB0.out) p1).pv st1 (Pv.below b8)
      obtain⟨X1,X2,X4,sat,X5,sw⟩:=HX.out
      have Y1:=X1.mv m17
      have Y2:=X2.mv m17
      have hue:UE X D1 w7.drew tx (vkey key tx) was (.func (.func 166) #[] #[.pointer (some ⟨w.heap.size,0,none⟩),.pointer (some ⟨W1.heap.size,0,none⟩),.pointer (some ⟨w3.heap.size,0,none⟩),.pointer (some ⟨W4.heap.size,0,none⟩)]):=
        ⟨_,_,_,_,ka,kc3,Aw,cw,rfl,Y1,Y2,by have:=X4.mv m17;rw[HKL.out] at this;exact this,sat.mv m17,X5.mv m17,sw.mv m17⟩
      obtain⟨us,hus⟩:∃ us,us=(U (tx:Int)).getD []:=⟨_,rfl⟩
      obtain⟨v0,hv0⟩:∃ v0,v0=(D1.wm.lookup (tx:Int)).getD (.slice none 0 0):=⟨_,rfl⟩
      have y5:w7.drew.cell? ⟨w.heap.size,0,none⟩=some (.pointer (some ⟨X.s,0,none⟩)):=cellD Y1.1 0
      have y6:w7.drew.cell? ⟨W1.heap.size,0,none⟩=some (.int .i64 (tx:Int)):=cellD Y2.1 0
      have y14:w7.drew.cell? ⟨X.s,14,none⟩=some (.map (some X.B.wk)):=cellD h8.sb 14
      have LK:(Instr.lookup 123 (.map (some X.B.wk)) (.int .i64 (tx:Int)) false).run Tryz.prog w7.drew=.ok v0 w7.drew:=by rw[hv0];exact run_lookup_int (P:=Tryz.prog) Tryz.underlying123 Tryz.underlying3 h8.wk (tx:Int) (zeroFn _)
      have LK1:∀ o,(Instr.lookup 123 (.map (some X.B.wk)) (.int .i64 (tx:Int)) false).run Tryz.prog (w7.alloc o).drew=.ok v0 (w7.alloc o).drew:=fun o=>by rw[hv0];exact run_lookup_int (P:=Tryz.prog) Tryz.underlying123 Tryz.underlying3 (h8.wk.below (w':=(w7.alloc o).drew) ((show Below w7.drew.heap.size w7.drew (w7.drew.alloc o) from(Below.refl _ _).alloc (Nat.le_refl _) o))) (tx:Int) (zeroFn _)
      obtain⟨i0,hi,hz0,hs0,hb0⟩:=info_parts infoFn
      have UL0:=undos_ul u8 hv0 hus
      have hf0:∀ g,v0.ownBlock=some g→FU X D1 w7.drew g:=fun g hg=>.inr (.inr (.inr (.inr (.inr ⟨_,_,undos_blk hv0 hg,hg⟩))))
      obtain⟨fs,hfl,hrow0,-⟩:=id UL0
      have ROW:∀ o,(w7.alloc o).drew.ownsRow X.n0 36 1 v0 us.length fs:=fun o=>row_same hrow0 fun g hg=>((show Below w7.drew.heap.size w7.drew (w7.drew.alloc o) from(Below.refl _ _).alloc (Nat.le_refl _) o)).block g (by
        obtain⟨-,cur,hc⟩:=UL0.blk hg
        exact hlt hc)
      have KEEP:∀ W,Kp (fun g=>v0.ownBlock=some g) w7.drew W→(W.cell? ⟨w.heap.size,0,none⟩=some (.pointer (some ⟨X.s,0,none⟩))∧W.cell? ⟨W1.heap.size,0,none⟩=some (.int .i64 (tx:Int))∧W.cell? ⟨X.s,14,none⟩=some (.map (some X.B.wk))):=fun W kp=>⟨cellD (kp.keep Y1.1 fun q=>Y1.2 (hf0 _ q)) 0,cellD (kp.keep Y2.1 fun q=>Y2.2 (hf0 _ q)) 0,cellD (h8.row UL0 kp).sb 14⟩
      have HK:=Lib.hid KEEP
      have S0:=And.intro y5 (And.intro y6 y14)
      have HNE:=Lib.hid (And.intro (fun e=>h8.wk.ne Y1.1 e.symm) (And.intro (fun e=>h8.wk.ne Y2.1 e.symm) (fun e=>h8.wk.ne h8.sb e.symm)):w.heap.size≠X.B.wk∧W1.heap.size≠X.B.wk∧X.s≠X.B.wk)
      have S1:∀ o,((w7.alloc o).drew.cell? ⟨w.heap.size,0,none⟩=some (.pointer (some ⟨X.s,0,none⟩))∧(w7.alloc o).drew.cell? ⟨W1.heap.size,0,none⟩=some (.int .i64 (tx:Int))∧(w7.alloc o).drew.cell? ⟨X.s,14,none⟩=some (.map (some X.B.wk))):=fun o=>KEEP (w7.drew.alloc o) (Kp.of ((Below.refl _ _).alloc (Nat.le_refl _) o))
      have FW:=Lib.hid (fun(w4:World) (k4:Kp (fun g=>v0.ownBlock=some g) w7.drew w4) (v:Value)=>run_update_int (P:=Tryz.prog) Tryz.underlying123 Tryz.underlying3 (h8.row UL0 k4).wk (tx:Int) v)
      have HH8:=Lib.hid h8
      have HU8:=Lib.hid u8
      have HM07:=Lib.hid m07
      have HUE:=Lib.hid hue
      have HV0:=Lib.hid hv0
      have HUS:=Lib.hid hus
      have HI1:=Lib.hid i1
      have HP1:=Lib.hid p1
      have HE1:=Lib.hid e1
      have hul:us.length≤100000:=by rw[hus];exact HUL.out
      have hn0:X.n0≤w7.heap.size:=h8.dk.base
      clear x5 x6 x11 WC st1 h8 KEEP hf0 UL0 hrow0 m17 m07 u8 X1 X2 X4 sat X5 sw Y1 Y2 hue hv0 hus i1 p1 e1 st0
      go_region_held3 (fun W=>W.cell? ⟨w.heap.size,0,none⟩=some (.pointer (some ⟨X.s,0,none⟩))∧W.cell? ⟨W1.heap.size,0,none⟩=some (.int .i64 (tx:Int))∧W.cell? ⟨X.s,14,none⟩=some (.map (some X.B.wk)))
        (first | with_reducible exact S0 | with_reducible exact S1 _ | with_reducible exact S2 | with_reducible exact S3 | go_keep)
        (first
          | (refine step_append_lies _ rfl (.tmp 56) (.tmp 58) 133 rfl X.n0 36 i0 _ 1 8 Tryz.underlying133 hi hz0 hs0 hb0 rfl (by decide) v0 us.length fs rfl (ROW _) ⟨w7.heap.size, 0, none⟩ 1 1 [.func (.func 166) #[] #[.pointer (some ⟨w.heap.size, 0, none⟩), .pointer (some ⟨W1.heap.size, 0, none⟩), .pointer (some ⟨w3.heap.size, 0, none⟩), .pointer (some ⟨W4.heap.size, 0, none⟩)]] rfl rfl ?_ ?_ (by decide) ?_ ?_ ?_ _ rfl ?_
             · exact one_new w7 _ _
             · exact one_fn _ rfl
             · simp[maxLen];omega
             · omega
             · show X.n0≤(w7.alloc _).heap.size;rw[World.size_alloc];omega
             intro g4 c4 w4 own4 grow4 at4 lt4
             have k4:=grow_kp grow4
             have S2:=HK.out w4 k4
             obtain⟨W5',hU,m5,o5,s5,os5,t5,u5⟩:=FW.out w4 k4 (.slice (some ⟨g4,0,none⟩) (us.length+1) c4)
             have S3:(W5'.cell? ⟨w.heap.size,0,none⟩=some (.pointer (some ⟨X.s,0,none⟩))∧W5'.cell? ⟨W1.heap.size,0,none⟩=some (.int .i64 (tx:Int))∧W5'.cell? ⟨X.s,14,none⟩=some (.map (some X.B.wk))):=⟨(cell_same (o5 _ HNE.out.1) 0).trans S2.1,(cell_same (o5 _ HNE.out.2.1) 0).trans S2.2.1,(cell_same (o5 _ HNE.out.2.2) 14).trans S2.2.2⟩)
          | fail)
      all_goals
        go_wp2
        go_ret
        have kk:Kp (·=X.B.wk) w4 W5':=⟨os5,t5,u5,Nat.le_of_eq s5.symm,fun k _ hk=>o5 k hk⟩
        obtain⟨stF,mF,uF⟩:=undos_push HH8.out HU8.out HV0.out HUS.out HUE.out k4 (at4.imp id fun e=>by rw[e];show w7.heap.size≤(w7.alloc _).heap.size;rw[World.size_alloc];omega) lt4 (fun fs' hr hl=>by
          have hr':=row_same hr fun g hg=>(show Below w7.drew.heap.size w7.drew (w7.drew.alloc (.cells #[.func (.func 166) #[] #[.pointer (some ⟨w.heap.size,0,none⟩),.pointer (some ⟨W1.heap.size,0,none⟩),.pointer (some ⟨w3.heap.size,0,none⟩),.pointer (some ⟨W4.heap.size,0,none⟩)]] 36)) from(Below.refl _ _).alloc (Nat.le_refl _) _).block g (by
            obtain⟨-,cur,hc⟩:=(undos_ul HU8.out HV0.out HUS.out).blk hg
            exact hlt hc)
          rw[row_uniq hr' (ROW _)]
          exact own4) kk m5
        exact⟨rfl,_,HI1.out.wm _,HM07.out.trans mF,stF,uF,HP1.out.T,HP1.out.tm,HP1.out.ov,f1,HE1.out⟩
end
end Go.Proofs.YtdbkocfbhpgpkaaGreat
