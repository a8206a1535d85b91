/-
  StoreBack's own writes.
-/
import Derived.Test.YtdbkocfbhpgpkaaGreatb46
import Derived.Test.YtdbkocfbhpgpkaaGreatb45
set_option linter.unusedVariables false
set_option linter.unusedSimpArgs false
namespace Go.Proofs.YtdbkocfbhpgpkaaGreat
open Go Go.RowKit Go.Shelf
open Go.Ev (PgM PageOk CellsOut rowsOf rowsV rowV rowsOf_len BelowIs)
set_option maxRecDepth 100000
set_option maxHeartbeats 4000000
section
variable {X:ST}{D D' D2:SD}{w w' w2:World}{k:Nat}{cs cs':List NC}{U:Int→Option Us}{S:List (List UInt8)}{M:Nat}
theorem fu_typed{g:Nat}{cu:Array Value}{t:TypeId}(hc:w'.heap[g]? = some (.cells cu t (0,0)))(t1:t≠364)(t2:t≠203)(e:FU X D w' g):FU X D w g:=by
  rcases e with (e|e|e)|e|e|e|e|e
  · rcases e with e|e|e|e|e|e|⟨hn,cs,t,e,ht⟩
    · exact .inl (.inl (.inl e))
    · exact .inl (.inl (.inr (.inl e)))
    · exact .inl (.inl (.inr (.inr (.inl e))))
    · exact .inl (.inl (.inr (.inr (.inr (.inl e)))))
    · exact .inl (.inl (.inr (.inr (.inr (.inr (.inl e))))))
    · exact .inl (.inl (.inr (.inr (.inr (.inr (.inr (.inl e)))))))
    · rw[hc] at e;injection e with e;injection e with _ e;subst e
      rcases ht with e|e
      · exact absurd e t1
      · exact absurd e t2
  · exact .inl (.inr (.inl e))
  · exact .inl (.inr (.inr e))
  · exact .inr (.inl e)
  · exact .inr (.inr (.inl e))
  · exact .inr (.inr (.inr (.inl e)))
  · exact .inr (.inr (.inr (.inr (.inl e))))
  · exact .inr (.inr (.inr (.inr (.inr e))))
theorem GS.again(g:GS X D2 w2 k cs U)(p:Pv X D2 D' w2 w')(st:StW X D' w')(iv:Ivt X D' k (pgL 1 0 cs))(hd:(cs≠[]∨∃ n us,U n=some us)→∃ f,D'.R.held=some f):GS X D' w' k cs U:=
  ⟨st,iv,g.tok.pv p,g.us.pv g.st p,g.ok,g.v1,g.isv,g.len,hd⟩
theorem view_app{n₀:Nat}{vv lv v5:Value}{L:List Prs}{ps:Prs}{vs:List Value}(g2:GS X D2 w2 k cs U)(g:GS X D w k cs U)(p:Pv X D2 D w2 w)(hn:n₀=w2.heap.size)(h1:w.ownsRow n₀ 50 1 vv L.length vs)(h2:∀ g,vv.ownBlock=some g→¬FU X D w g)(h3:vs.length=L.length)(h4:∀ i (h:i<vs.length) (g:i<L.length),SPs X D w n₀ vs[i] L[i])
    (hl:SPs X D w n₀ lv ps) (own5:w'.ownsRow n₀ 50 1 v5 (L.length+1) (vs++[lv])) (grow:w.grownBy w' vv.ownBlock) (at5:v5.ownBlock=vv.ownBlock∨v5.ownBlock=some w.heap.size) :
    GS X D w' k cs U∧Pv X D2 D w2 w'∧VW X D w' n₀ v5 (L++[ps])∧∀ {b:Nat} {cu:Array Value} {t:TypeId},w.heap[b]? = some (.cells cu t (0,0))→t≠50→w'.heap[b]? = w.heap[b]?:=by
  have kk:=Kp.grow grow
  have hz:=p.kp.size
  have blk:∀ N,vv.ownBlock=some N→n₀≤N∧∃ cur,w.heap[N]? = some (.cells cur 50 (0,0)):=fun N e=>by
    rcases h1.2 with⟨e1,-⟩|⟨g',cap,cur,e1,hb,hcur,-⟩
    · rw[e1] at e;cases e
    · rw[e1] at e;injection e with e;dsimp only at e;subst e;exact⟨hb,cur,hcur⟩
  have st':StW X D w'∧(∀ {lv:Value} {ps:Prs},SPs X D w n₀ lv ps→SPs X D w' n₀ lv ps):=by
    cases e:vv.ownBlock with
    | none =>
      have b:Below w.heap.size w w':=kk.below (Nat.le_refl _) fun b _ q=>by rw[e] at q;cases q
      exact⟨g.st.below b,fun h=>h.mv (Mv.below b)⟩
    | some N =>
      obtain⟨-,cur,hc⟩:=blk N e
      have kN:Kp (·=N) w w':=kk.weaken fun b q=>by rw[e] at q;injection q with q;exact q.symm
      exact⟨g.st.soft kN hc free_pairs,fun h=>h.row kN hc⟩
  have p':Pv X D2 D w2 w':=⟨p.kp.trans kk fun b hb q=>by have:=(blk b q).1;omega,fun b hb e=>p.wv b hb e,p.T,p.tm,p.ov,p.wm⟩
  have iv':Ivt X D k (pgL 1 0 cs):=g.iv
  refine⟨g2.again p' st'.1 iv' g.hd,p',⟨vs++[lv],by simpa using own5,fun N e q=>?_,by simp[h3],fun j hj hg=>?_⟩,fun hb ht=>kk.block _ (hlt hb) fun q=>by
    obtain⟨-,cur,hc⟩:=blk _ q
    rw[hb] at hc;injection hc with hc;injection hc with _ hc;exact ht hc⟩
  · obtain⟨cur5,hc5⟩:∃ cur,w'.heap[N]? = some (.cells cur 50 (0,0)):=by
      rcases own5.2 with⟨e1,-⟩|⟨g',cap,cur,e1,hb,hcur,-⟩
      · rw[e1] at e;cases e
      · rw[e1] at e;injection e with e;dsimp only at e;subst e;exact⟨cur,hcur⟩
    have q':=fu_typed (w:=w) hc5 (by decide) (by decide) q
    rcases at5 with e5|e5
    · exact h2 N (e5▸e) q'
    · rw[e5] at e;injection e with e
      have:=fu_lt g.st g.us q'
      omega
  · by_cases hjl:j<vs.length
    · rw[List.getElem_append_left hjl,List.getElem_append_left (by omega)]
      exact st'.2 (h4 j hjl (by omega))
    · have hje:j=vs.length:=by simp at hj;omega
      subst hje
      have e1:(vs++[lv])[vs.length]=lv:=by simp
      have e2:(L++[ps])[vs.length]'hg=ps:=by rw[List.getElem_append_right (by omega)];simp[h3]
      rw[e1,e2]
      exact st'.2 hl
theorem sees_eq{tm:List (Int×Value)}{tx p:Nat}(h:tm.lookup (tx:Int)=some (mk 2 p)):seesL tm cs (tx:Int)=(tells (vfOf tm tx p) 99 cs).2:=by
  unfold seesL
  rw[h,Option.getD_some,pOf_mk,Int.toNat_natCast]
theorem views_g(hx:Hi X)(g:GS X D w k cs U)(h:PI D cs U S M)(hk:k≤3300)(hov:D.ov.length≤14)(hnx:D.T.next≤800000) :
    Calls Tryz.prog 24 #[.pointer (some ⟨X.s,0,none⟩)] w fun e w'=>∃ vv D',e=.returned (.tuple #[vv,.bool true])∧GS X D' w' (k+2) cs U∧PI D' cs U S M∧Mv X D D' w w'∧VW X D' w' w.heap.size vv (viewL D cs)∧D'.T.next=D.T.next+1∧D'.T.last=D.T.last∧D'.tm=mset (mset D.tm (D.T.next:Int) (mk 2 D.T.last)) (D.T.next:Int) (mk 5 0)∧D'.ov=D.ov:=by
  have BG:=begin_l g h (by omega) (by omega)
  have HG:=Lib.hid g
  have HP:=Lib.hid h
  obtain⟨nx,hnxe⟩:∃ nx,D.T.next=nx:=⟨_,rfl⟩
  rw[hnxe] at BG
  go_enter Tryz.func24,Tryz.ntmps24
  go_upto_region 5 with (go_at_call 14;(with_reducible refine BG.mono ?_);rintro e w2 ⟨rfl,D2,g2,p2,mv2,e1,e2,e3,e4⟩)
  have OP:=open_s g2
  go_upto_region 6 with (go_at_call 45;(with_reducible refine OP.mono ?_);rintro e w3 ⟨⟨v,rfl,o3⟩,b3⟩)
  obtain⟨Av,cv,hv,si⟩:=o3.sis g2 b3
  obtain⟨L,hL⟩:∃ L,D2.ov.length=L:=⟨_,rfl⟩
  rw[hL] at hv
  subst hv
  have hL15:L≤15:=by rw[← hL,e4];simp;omega
  have g3:=g2.below b3
  have q3:=Pv.below (X:=X) (D:=D2) b3
  have HH:=Lib.hid (And.intro mv2 (And.intro e1 (And.intro e2 (And.intro e3 (And.intro e4 b3)))))
  have HG2:=Lib.hid g2
  have HP2:=Lib.hid p2
  have HL:=Lib.hid hL
  have HNX:=Lib.hid (And.intro hnx hnxe)
  clear BG OP mv2 e1 e2 e3 e4 o3 g h hov hnx hnxe g2 hL p2
  go_wp2
  go_loopw [4,8] (fun vv iv wr=>∃ i Dr,i≤L∧iv=.int .i64 (i:Nat)∧(Dr=D2∨∃ f,Dr=D2.hold f)∧GS X Dr wr k cs U∧Pv X D2 Dr w2 wr∧SIs X Dr wr Av D2.ov∧VW X Dr wr w2.heap.size vv ((D2.ov.take i).map (seesL D2.tm cs))) (fun _ iv _=>L-(RowKit.intOf iv).toNat)
  case atStart=>exact⟨0,D2,Nat.zero_le _,rfl,.inl rfl,g3,q3,si,VW.nil _ _ _ _⟩
  case round=>
    obtain⟨i,Dr,hi,rfl,hDr,gr,pr,sr,vr⟩:=hrel
    have hlen:((D2.ov.take i).map (seesL D2.tm cs)).length=i:=by rw[List.length_map,List.length_take,HL.out];exact Nat.min_eq_left hi
    obtain⟨A4,c4,hv4⟩:=vr.form
    rw[hlen] at hv4
    subst hv4
    by_cases hin:i<L
    · have hiv:i<D2.ov.length:=by rw[HL.out];exact hin
      obtain⟨b,o,cu3,rfl,hb,hnf,hc⟩:=sr (fun e=>by rw[e] at hiv;simp at hiv)
      have cell:=hc i hiv
      obtain⟨tx,p,la,lb,h1,h2,h3,h4,-⟩:=HP2.out.cut HG2.out.tok hiv
      rw[h1] at cell
      have SC:=scan_s (most:=99) gr (tx:=tx) (p:=p) (by rw[pr.tm];exact h4) ((HP2.out.same pr.T pr.tm pr.ov).marksV tx p) (by decide)
      rw[pr.tm,← sees_eq h4,show((99:Nat):Int)=99 from rfl] at SC
      have f1:(i:Int)<(L:Int):=by omega
      have HIN:=Lib.hid (And.intro hin h1)
      have HV:=Lib.hid vr
      have HP:=Lib.hid pr
      have HS:=Lib.hid (show SIs X Dr wr (some ⟨b,o,none⟩) D2.ov from sr)
      have HLEN:=Lib.hid hlen
      have HD:=Lib.hid hDr
      clear hc hnf hb vr sr pr gr h1 h2 h3 h4 hlen hDr q3 g3 si
      go_upto_region 12 with (go_at_call 35;(with_reducible refine SC.mono ?_);rintro e w8 ⟨lv,f8,rfl,p8,g8,sp8⟩)
      have hz8:w2.heap.size≤w8.heap.size:=(HP.out.trans p8).kp.size
      have hz8':wr.heap.size≤w8.heap.size:=p8.kp.size
      have hz2:w2.heap.size≤wr.heap.size:=HP.out.kp.size
      obtain⟨AL,nL,cL,hlv⟩:∃ A n c,lv=.slice A n c:=by
        obtain⟨cv,r1,-⟩:=sp8
        rcases r1.2 with⟨e,-⟩|⟨g',cap,cur,e,-⟩
        · exact⟨_,_,_,e⟩
        · exact⟨_,_,_,e⟩
      subst hlv
      obtain⟨W9,hW9,g9,b9,s9⟩:=box_alloc w8 (.cells #[.slice AL nL cL] 50)
      have hnw:∀ j u,[Value.slice AL nL cL][j]? = some u→W9.cell? ((⟨w8.heap.size,0,none⟩:Addr).add j)=some u:=fun j u hu=>by
        have:((⟨w8.heap.size,0,none⟩:Addr).add j)=⟨w8.heap.size,j,none⟩:=by unfold Addr.add;split<;>simp_all
        rw[this,cellD g9]
        simpa using hu
      have p9:=(HP.out.trans p8).trans (Pv.below b9)
      have gg9:=g8.below b9
      have v9:=(HV.out.mv p8.mv).mv (Mv.below b9)
      obtain⟨vs,r1,r2,r3,r4⟩:=v9
      have r1':W9.ownsRow w2.heap.size 50 1 (.slice A4 i c4) i vs:=by have:=r1;rw[HLEN.out] at this;exact this
      have sp9:=(sp8.mv (Mv.below b9)).down hz2
      have si9:=(HS.out.mv p8.mv).mv (Mv.below b9)
      have hz9:w2.heap.size≤W9.heap.size:=Nat.le_trans hz8 b9.size
      have HX:=Lib.hid (And.intro p9 (And.intro gg9 (And.intro r1 (And.intro r2 (And.intro r3 (And.intro r4 (And.intro sp9 si9)))))))
      have i60:i≤60:=by omega
      clear p9 gg9 r1 r2 r3 r4 sp9 si9 sp8 p8 g8 SC s9 hz8 hz8' hz2 cell
      go_wp2_with (at_builtin;refine apG rfl (.tmp 37) (.tmp 39) 41 50 (.slice none 0 0) 1 24 Tryz.underlying41 infoPP rfl (by decide) rfl w2.heap.size (.slice A4 i c4) i vs rfl r1' ⟨w8.heap.size,0,none⟩ 1 1 [.slice AL nL cL] rfl rfl hnw ?c1 (by show i+1≤maxLen;unfold maxLen;omega) (by omega) ?c2 ?_)
      case c1=>intro u hu;simp at hu;subst hu;rfl
      case c2=>exact hz9
      intro v5 W5 own5 grow5 at5
      obtain⟨p9,gg9,r1,r2,r3,r4,sp9,si9⟩:=HX.out
      obtain⟨g5,p5,v5w,keep5⟩:=view_app HG2.out gg9 p9 rfl r1 r2 r3 r4 sp9 (by rw[HLEN.out];exact own5) grow5 at5
      have hd8:Dr.hold f8=D2.hold f8:=by rcases HD.out with e | ⟨f,e⟩<;>rw[e]<;>rfl
      have sn:(D2.ov.take (i+1)).map (seesL D2.tm cs)=(D2.ov.take i).map (seesL D2.tm cs)++[seesL D2.tm cs (tx:Int)]:=by
        have hiv:i<D2.ov.length:=by rw[HL.out];exact HIN.out.1
        rw[List.take_succ_eq_append_getElem hiv,List.map_append,HIN.out.2];rfl
      have s5:SIs X (Dr.hold f8) W5 (some ⟨b,o,none⟩) D2.ov:=fun hne=>by
        obtain⟨b',o',cu',e',q1,q2,q3⟩:=si9 hne
        have e2:=keep5 q1 (by decide)
        exact⟨b',o',cu',e',e2.trans q1,fun q=>q2 (fu_same e2 q),fun j hj=>(cell_same e2 _).trans (q3 j hj)⟩
      go_wp2
      refine⟨⟨i+1,Dr.hold f8,by omega,by simp,.inr ⟨f8,hd8⟩,g5,p5,s5,by rw[sn];exact v5w⟩,?_⟩
      simp[RowKit.intOf];omega
    · obtain rfl:i=L:=by omega
      obtain⟨mv2,e1,e2,e3,e4,b3⟩:=HH.out
      obtain⟨hnx,hnxe⟩:=HNX.out
      have tk:=HG.out.tok
      have hU:=HP.out.fresh
      rw[hnxe] at hU
      have AB:=abort_0 (tx:=nx) (p:=D.T.last) (la:=D.ov) gr (by omega) (by rw[pr.tm,e3];exact mset_same _ _ _) (by rw[pr.ov,e4]) (fun x hx'=>by have:=rise_mem tk.ov x hx';rw[hnxe] at this;omega) (by omega) hU
      have HR:=Lib.hid (And.intro pr (And.intro vr (And.intro hU (And.intro mv2 (And.intro e1 (And.intro e2 (And.intro e3 e4)))))))
      clear hlen hDr gr pr sr vr hU mv2 e1 e2 e3 e4 tk q3 g3 si hin hi
      go_wp2_with (go_at_call 30;(with_reducible refine AB.mono ?_);rintro e w6 ⟨rfl,D6,g6,mv6,a1,a2,a3,a4⟩)
      go_ret2
      obtain⟨pr,vr,hU,mv2,e1,e2,e3,e4⟩:=HR.out
      have tk:=HG.out.tok
      have hal:(D2.ov.take i).map (seesL D2.tm cs)=viewL D cs:=by
        rw[← HL.out,List.take_length,e4,e3]
        unfold viewL
        rw[hnxe]
      rw[hal] at vr
      have p6:=(HP2.out.same (D':=Dr) pr.T pr.tm pr.ov).end_ (D':=D6) (tx:=nx) (la:=D.ov) (lb:=[]) (by rw[pr.T,e1];omega) (.inr (.inr rfl)) a1 a3 (by rw[pr.ov,e4]) (by rw[a4];simp) (fun x hx'=>by have:=rise_mem tk.ov x hx';rw[hnxe] at this;omega) (fun x h=>by simp at h) (by rw[pr.T];exact HP2.out.c) (fun c hc _=>hc)
      rw[delU_none hU] at p6
      have vr6:=vr.mv mv6
      have hz:w.heap.size≤w2.heap.size:=mv2.kp.size
      refine⟨_,D6,rfl,g6,p6,(mv2.trans pr.mv).trans mv6,?_,by rw[a1,pr.T,e1,← hnxe],by rw[a2,pr.T,e2],by rw[a3,pr.tm,e3,← hnxe],a4⟩
      obtain⟨vs,r1,r2,r3,r4⟩:=vr6
      refine⟨vs,⟨r1.1,?_⟩,r2,r3,fun j h g=>(r4 j h g).down hz⟩
      rcases r1.2 with q|⟨g,cap,cur,e,hb,r⟩
      · exact .inl q
      · exact .inr ⟨g,cap,cur,e,Nat.le_trans hz hb,r⟩
end
def RdPs (w:World)(lv:Value)(ps:Prs):Prop:=∃ A c,∃ cv:List CV,lv=.slice A ps.length c∧RdC w w.heap.size A cv∧cv.length=ps.length∧∀ i (h:i<cv.length) (g:i<ps.length),cv[i].kn=ps[i].1.length∧cv[i].vn=ps[i].2.length∧Rd w w.heap.size cv[i].ka ps[i].1∧Rd w w.heap.size cv[i].va ps[i].2
theorem SPs.rd{X:ST}{D:SD}{w:World}{n₀:Nat}{lv:Value}{ps:Prs}(h:SPs X D w n₀ lv ps):RdPs w lv ps:=by
  obtain⟨cv,h1,-,h3,h4⟩:=h
  obtain⟨A,c,e,r⟩:=row_rdc h1 h3.symm
  exact⟨A,c,cv,e,r,h3,fun i a b=>by
    obtain⟨p,q,s,t⟩:=h4 i a b
    exact⟨p,q,s.rd,t.rd⟩⟩
theorem pairs_same{w:World}{lv lu:Value}{ps:Prs}(h1:RdPs w lv ps)(h2:RdPs w lu ps)(hn:ps.length≤100000):Calls Tryz.prog 37 #[lv,lu] w fun e w'=>e=.returned (.bool true)∧∃ q,w'=w.drewN q:=by
  obtain⟨A,c,cv,rfl,r1,l1,m1⟩:=h1
  obtain⟨B,d,cu,rfl,r2,l2,m2⟩:=h2
  obtain⟨n,hnn⟩:∃ n,ps.length=n:=⟨_,rfl⟩
  rw[hnn] at l1 l2 hn ⊢
  have H1:=Lib.hid (And.intro r1 (And.intro l1 m1))
  have H2:=Lib.hid (And.intro r2 (And.intro l2 m2))
  have HN:=Lib.hid hnn
  clear r1 l1 m1 r2 l2 m2 hnn
  go_enter Tryz.func37,Tryz.ntmps37
  go_wp2
  go_loopw [5] (fun iv wr=>∃ i q:Nat,i≤n∧iv=.int .i64 (i:Nat)∧wr=w.drewN q) (fun iv _=>n-(RowKit.intOf iv).toNat)
  case atStart=>exact⟨0,0,Nat.zero_le _,rfl,rfl⟩
  case round=>
    obtain⟨i,q,hi,rfl,rfl⟩:=hrel
    by_cases hin:i<n
    · obtain⟨r1,l1,m1⟩:=H1.out
      obtain⟨r2,l2,m2⟩:=H2.out
      have i1:i<cv.length:=by omega
      have i2:i<cu.length:=by omega
      have ip:i<ps.length:=by rw[HN.out];exact hin
      obtain⟨b1,o1,rfl,-,x1⟩:=r1 (fun e=>by rw[e] at i1;simp at i1)
      obtain⟨b2,o2,rfl,-,x2⟩:=r2 (fun e=>by rw[e] at i2;simp at i2)
      obtain⟨u1,u2⟩:=x1 i i1
      obtain⟨u3,u4⟩:=x2 i i2
      obtain⟨n1,n2,s1,s2⟩:=m1 i i1 ip
      obtain⟨n3,n4,s3,s4⟩:=m2 i i2 ip
      obtain⟨⟨ka,kn,kc,va,vn,vc⟩,hX⟩:∃ X,cv[i]=X:=⟨_,rfl⟩
      obtain⟨⟨ka2,kn2,kc2,va2,vn2,vc2⟩,hX2⟩:∃ X,cu[i]=X:=⟨_,rfl⟩
      rw[hX] at u1 u2 n1 n2 s1 s2
      rw[hX2] at u3 u4 n3 n4 s3 s4
      have y1:w.cell? ⟨b1,o1+i * 2,none⟩=some (.slice ka kn kc):=u1
      have y2:w.cell? ⟨b1,o1+i * 2+1,none⟩=some (.slice va vn vc):=u2
      have y3:w.cell? ⟨b2,o2+i * 2,none⟩=some (.slice ka2 kn2 kc2):=u3
      have y4:w.cell? ⟨b2,o2+i * 2+1,none⟩=some (.slice va2 vn2 vc2):=u4
      have SK:=fun m=>(same_any ka ka2 kc kc2 kn kn2 ps[i].1 ps[i].1 (w.drewN (q+m)) s1 s3 n1 n3).mono (R':=fun e w'=>e=.returned (.bool true)∧∃ n,w'=w.drewN (q+n)) fun e w' h=>⟨by rw[h.1];simp,m,h.2.symm⟩
      have SV:=fun m=>(same_any va va2 vc vc2 vn vn2 ps[i].2 ps[i].2 (w.drewN (q+m)) s2 s4 n2 n4).mono (R':=fun e w'=>e=.returned (.bool true)∧∃ n,w'=w.drewN (q+n)) fun e w' h=>⟨by rw[h.1];simp,m,h.2.symm⟩
      have f1:(i:Int)<(n:Int):=by omega
      have f0:(0:Int)≤(i:Int):=by omega
      clear u1 u2 u3 u4 x1 x2 r1 r2 m1 m2 l1 l2 hX hX2 n1 n2 n3 n4 s1 s2 s3 s4 i1 i2
      go_upto_region 6 with fail
      go_quiet (first
        | (go_at_call 93;with_reducible exact SK _)
        | (go_at_call 93;with_reducible exact SV _))
      go_wp2
      refine⟨⟨i+1,q+nq,by omega,by simp,by simp⟩,?_⟩
      simp[RowKit.intOf];omega
    · obtain rfl:i=n:=by omega
      clear hin hi
      go_wp2
      go_ret
      exact⟨rfl,q,rfl⟩
def RdVs (w:World)(vv:Value)(L:List Prs):Prop:=∃ (A:Option Addr) (c:Nat) (vs:List Value),vv=.slice A L.length c∧vs.length=L.length∧(vs≠[]→∃ b o,A=some ⟨b,o,none⟩∧∀ i (h:i<vs.length),w.cell? ⟨b,o+i,none⟩=some vs[i])∧∀ i (h:i<vs.length) (g:i<L.length),RdPs w vs[i] L[i]
theorem VW.rd{X:ST}{D:SD}{w:World}{n₀:Nat}{vv:Value}{L:List Prs}(h:VW X D w n₀ vv L):RdVs w vv L:=by
  obtain⟨vs,h1,-,h3,h4⟩:=h
  rcases h1.2 with⟨e,h0⟩|⟨g,cap,cur,e,hb,hc,-,-,-,ht⟩
  · have:vs=[]:=List.eq_nil_of_length_eq_zero (by omega)
    exact⟨none,0,vs,by rw[e,h0],h3,fun q=>absurd this q,fun i a b=>(h4 i a b).rd⟩
  · refine⟨_,cap,vs,e,h3,fun _=>⟨g,0,rfl,fun i hi=>?_⟩,fun i a b=>(h4 i a b).rd⟩
    rw[cellD hc,Nat.zero_add,← Array.getElem?_toList]
    have:(cur.toList.take (L.length * 1))[i]? = vs[i]?:=by rw[ht]
    rw[List.getElem?_take_of_lt (by omega)] at this
    rw[this,List.getElem?_eq_getElem hi]
theorem views_same{w:World}{vv uu:Value}{L:List Prs}(h1:RdVs w vv L)(h2:RdVs w uu L)(hn:L.length≤100000)(hL:∀ ps∈L,ps.length≤100000):Calls Tryz.prog 29 #[vv,uu] w fun e w'=>e=.returned (.bool true)∧∃ q,w'=w.drewN q:=by
  obtain⟨A,c,vs,rfl,l1,r1,m1⟩:=h1
  obtain⟨B,d,us,rfl,l2,r2,m2⟩:=h2
  obtain⟨n,hnn⟩:∃ n,L.length=n:=⟨_,rfl⟩
  rw[hnn] at l1 l2 hn ⊢
  have H1:=Lib.hid (And.intro r1 (And.intro l1 m1))
  have H2:=Lib.hid (And.intro r2 (And.intro l2 m2))
  have HN:=Lib.hid hnn
  have HL:=Lib.hid hL
  clear r1 l1 m1 r2 l2 m2 hnn hL
  go_enter Tryz.func29,Tryz.ntmps29
  go_wp2
  go_loopw [5] (fun iv wr=>∃ i q:Nat,i≤n∧iv=.int .i64 (i:Nat)∧wr=w.drewN q) (fun iv _=>n-(RowKit.intOf iv).toNat)
  case atStart=>exact⟨0,0,Nat.zero_le _,rfl,rfl⟩
  case round=>
    obtain⟨i,q,hi,rfl,rfl⟩:=hrel
    by_cases hin:i<n
    · obtain⟨r1,l1,m1⟩:=H1.out
      obtain⟨r2,l2,m2⟩:=H2.out
      have i1:i<vs.length:=by omega
      have i2:i<us.length:=by omega
      have ip:i<L.length:=by rw[HN.out];exact hin
      obtain⟨b1,o1,rfl,x1⟩:=r1 (fun e=>by rw[e] at i1;simp at i1)
      obtain⟨b2,o2,rfl,x2⟩:=r2 (fun e=>by rw[e] at i2;simp at i2)
      have y1:=x1 i i1
      have y2:=x2 i i2
      have p1:=m1 i i1 ip
      have p2:=m2 i i2 ip
      obtain⟨lv,hX⟩:∃ X,vs[i]=X:=⟨_,rfl⟩
      obtain⟨lu,hX2⟩:∃ X,us[i]=X:=⟨_,rfl⟩
      rw[hX] at y1 p1
      rw[hX2] at y2 p2
      have SK:=fun m=>(pairs_same (w:=w.drewN (q+m)) (show RdPs (w.drewN (q+m)) lv L[i] from p1) (show RdPs (w.drewN (q+m)) lu L[i] from p2) (HL.out _ (List.getElem_mem ip))).mono (R':=fun e w'=>e=.returned (.bool true)∧∃ n,w'=w.drewN (q+n)) fun e w' h=>⟨h.1,by obtain⟨z,hz⟩:=h.2;exact⟨m+z,by rw[hz];simp[Nat.add_assoc]⟩⟩
      have f1:(i:Int)<(n:Int):=by omega
      have f0:(0:Int)≤(i:Int):=by omega
      clear x1 x2 r1 r2 m1 m2 l1 l2 hX hX2 i1 i2 p1 p2
      go_upto_region 6 with fail
      go_quiet (first | (go_at_call 37;with_reducible exact SK _))
      go_wp2
      refine⟨⟨i+1,q+nq,by omega,by simp,by simp⟩,?_⟩
      simp[RowKit.intOf];omega
    · obtain rfl:i=n:=by omega
      clear hin hi
      go_wp2
      go_ret
      exact⟨rfl,q,rfl⟩
section
variable {X:ST}{D D' D0:SD}{w w' w0:World}{k k0:Nat}{cs cs' cs0:List NC}{U U' U0:Int→Option Us}{S:List (List UInt8)}{M M0:Nat}
theorem pushU_at{tx:Nat}{u:List UInt8×List UInt8}:(pushU U tx u (tx:Int)).getD []=(U (tx:Int)).getD []++[u]:=by unfold pushU;rw[if_pos rfl];rfl
structure Chain(tx:Nat)(us0:Us)(cs0 cs:List NC)(U0 U:Int→Option Us)(N:Nat):Prop where
  ex:∃ us1,(U (tx:Int)).getD []=us0++us1∧Backs cs us1 cs0∧us1.length≤N
  oth:∀ n,n≠(tx:Int)→U n=U0 n
theorem Chain.start{tx:Nat}:Chain tx ((U (tx:Int)).getD []) cs cs U U 0:=⟨⟨[],by simp,.nil _,Nat.le_refl _⟩,fun _ _=>rfl⟩
theorem Chain.step{tx N:Nat}{us0:Us}{K:List UInt8}(h:Chain tx us0 cs0 cs U0 U N)(hw:Wrote U U' cs cs' tx K)(hg:CsG cs)(hK:1≤K.length∧K.length≤320):Chain tx us0 cs0 cs' U0 U' (N+1):=by
  obtain⟨us1,h1,h2,h3⟩:=h.ex
  rcases hw with⟨rfl,rfl⟩|⟨was,rfl,hb,hl⟩
  · exact⟨⟨us1,h1,h2,by omega⟩,h.oth⟩
  · refine⟨⟨us1++[(K,was)],?_,.snoc hb hg hK (by show was.length≤576;omega) h2,by simp;omega⟩,fun n hn=>by unfold pushU;rw[if_neg hn];exact h.oth n hn⟩
    rw[pushU_at,h1,List.append_assoc]
structure SJ(X:ST)(w0:World)(D0:SD)(cs0:List NC)(U0:Int→Option Us)(tx k0 M0:Nat)(S:List (List UInt8))(i:Nat)(D:SD)(cs:List NC)(U:Int→Option Us)(k:Nat)(w:World):Prop where
  of ::
  g:GS X D w k cs U
  p:PI D cs U S (M0+i)
  lf:Lf X D0 D w0 w
  k:k≤k0+2 * i
  c:Chain tx ((U0 (tx:Int)).getD []) cs0 cs U0 U i
theorem SJ.put{tx p i kn kc vn vc:Nat}{kA vA:Option Addr}{b:UInt8}{val:List UInt8}(h:SJ X w0 D0 cs0 U0 tx k0 M0 S i D cs U k w)(hk0:k0≤3300)(hi:i≤20)(hM:M0≤40000)(hS:S.length≤38)(hK:vkey [107,b] tx∈S)(hl:D0.tm.lookup (tx:Int)=some (mk 2 p))(htx:1≤tx)(htn:tx<D0.T.next)(hrk:SRd X D w kA [107,b])(hkn:kn=2)(hrv:SRd X D w vA val)(hvn:vn=val.length)(hv:val.length≤85) :
    Calls Tryz.prog 15 #[.pointer (some ⟨X.s,0,none⟩),.int .i64 (tx:Int),.slice kA kn kc,.slice vA vn vc] w fun e w'=>(∃ ec:Int,e=.returned (.int .i64 ec))∧∃ D' cs' U' k',SJ X w0 D0 cs0 U0 tx k0 M0 S (i+1) D' cs' U' k' w'∧Lf X D D' w w':=by
  have hkk:=h.k
  refine(put_l (kc:=kc) (vc:=vc) (M:=M0+i) h.g h.p (by omega) (by omega) hS hK (by rw[h.lf.tm];exact hl) htx (by rw[h.lf.T];exact htn) hrk hkn hrv hvn hv).mono ?_
  rintro e w' ⟨he,D',cs',U',lf,g',p',hw⟩
  exact⟨he,D',cs',U',_,⟨g',p',h.lf.trans lf,by omega,h.c.step hw (h.p.c.g (by have:=h.p.nx;omega) hS) ⟨by rw[vkey_len];omega,by have:=key13 b tx;omega⟩⟩,lf⟩
theorem SJ.drop{tx p i kn kc:Nat}{kA:Option Addr}{b:UInt8}(h:SJ X w0 D0 cs0 U0 tx k0 M0 S i D cs U k w)(hk0:k0≤3300)(hi:i≤20)(hM:M0≤40000)(hS:S.length≤38)(hK:vkey [107,b] tx∈S)(hl:D0.tm.lookup (tx:Int)=some (mk 2 p))(htx:1≤tx)(htn:tx<D0.T.next)(hrk:SRd X D w kA [107,b])(hkn:kn=2) :
    Calls Tryz.prog 26 #[.pointer (some ⟨X.s,0,none⟩),.int .i64 (tx:Int),.slice kA kn kc] w fun e w'=>(∃ ec:Int,e=.returned (.int .i64 ec))∧∃ D' cs' U' k',SJ X w0 D0 cs0 U0 tx k0 M0 S (i+1) D' cs' U' k' w'∧Lf X D D' w w':=by
  have hkk:=h.k
  refine(drop_l (kc:=kc) (M:=M0+i) h.g h.p (by omega) (by omega) hS hK (by rw[h.lf.tm];exact hl) htx (by rw[h.lf.T];exact htn) hrk hkn).mono ?_
  rintro e w' ⟨he,D',cs',U',lf,g',p',hw⟩
  exact⟨he,D',cs',U',_,⟨g',p',h.lf.trans lf,by omega,h.c.step hw (h.p.c.g (by have:=h.p.nx;omega) hS) ⟨by rw[vkey_len];omega,by have:=key13 b tx;omega⟩⟩,lf⟩
theorem SJ.below{tx i:Nat}(h:SJ X w0 D0 cs0 U0 tx k0 M0 S i D cs U k w)(b:Below w.heap.size w w'):SJ X w0 D0 cs0 U0 tx k0 M0 S i D cs U k w':=⟨h.g.below b,h.p,h.lf.trans (Pv.below b).lf,h.k,h.c⟩
theorem some_g{A:Option Addr}{n c tx p b1 b2:Nat}{xs:List Int}(hx:Hi X)(g:GS X D0 w k0 cs0 U0)(h:PI D0 cs0 U0 S M0)(hk0:k0≤3300)(hM:M0≤40000)(hS:S.length≤38)(hK:∀ r,r<9→vkey [107,UInt8.ofNat r] tx∈S)(hl:D0.tm.lookup (tx:Int)=some (mk 2 p))(htx:1≤tx)(htn:tx<D0.T.next)
    (hb1:SX X D0 w b1 (.cells #[.pointer (some ⟨X.s,0,none⟩)] 24 (0,0))) (hb2:SX X D0 w b2 (.cells #[.int .i64 (tx:Int)] 3 (0,0)))
    (hr:RdI w X.n0 A xs) (hn:n=xs.length) (hn20:n≤20) (hxs:∀ x∈xs,-9223372036854775808≤x∧x≤9223372036854775807) :
    Calls Tryz.prog 25 #[.slice A n c,.pointer (some ⟨b1,0,none⟩),.pointer (some ⟨b2,0,none⟩)] w fun e w'=>e=.returned (.tuple #[])∧∃ D cs U k,SJ X w D0 cs0 U0 tx k0 M0 S n D cs U k w':=by
  have HN:=Lib.hid hn
  have HX:=Lib.hid hxs
  have HR:=Lib.hid hr
  have HG:=Lib.hid g
  have HP:=Lib.hid h
  have HL:=Lib.hid (And.intro hl (And.intro htx htn))
  have HB:=Lib.hid (And.intro hb1 hb2)
  have HK:=Lib.hid hK
  have HS:=Lib.hid (And.intro hk0 (And.intro hM hS))
  clear hn hxs hr g h hl htx htn hb1 hb2 hK hk0 hM hS
  go_enter Tryz.func25,Tryz.ntmps25
  go_wp2
  go_loopw [4] (fun iv wr=>∃ i D cs U k,i≤n∧iv=.int .i64 (i:Nat)∧SJ X w D0 cs0 U0 tx k0 M0 S i D cs U k wr) (fun iv _=>n-(RowKit.intOf iv).toNat)
  case atStart=>exact⟨0,D0,cs0,U0,k0,Nat.zero_le _,rfl,HG.out,HP.out,⟨Mv.refl _ _ _,rfl,rfl,rfl⟩,by omega,Chain.start⟩
  case round=>
    obtain⟨i,D,cs,U,k,hi,rfl,hj⟩:=hrel
    by_cases hin:i<n
    · have hb:=HG.out.up hx hj.lf.mv
      obtain⟨b,o,rfl,hbb,hc⟩:=(HR.out.below hb).at_ (k:=i) (by rw[← HN.out];exact hin)
      have PI:=pick_any _ (HX.out _ (List.getElem_mem (show i<xs.length by rw[← HN.out];exact hin))) wr
      have f1:(i:Int)<(n:Int):=by omega
      have x1:=HB.out.1.mv hj.lf.mv
      have x2:=HB.out.2.mv hj.lf.mv
      have HJ:=Lib.hid hj
      clear hj hb
      go_upto_region 4 with (go_at_call 13;(with_reducible refine PI.mono ?_);rintro e wr ⟨⟨nn,hnn,rfl⟩,rfl⟩)
      obtain⟨q40,hq40e⟩:∃ q40,nn / 40=q40:=⟨_,rfl⟩
      have hq40:q40<1000003:=by omega
      have e40:(nn:Int).tdiv 40=(q40:Int):=by rw[Int.tdiv_eq_ediv_of_nonneg (Int.natCast_nonneg _)];omega
      have w40:wrap64 (q40:Int)=(q40:Int):=IntWalk.wrap64_in _ (by omega)
      have w41:IntKind.i64.wrap (q40:Int)=(q40:Int):=by rw[IntKind.wrap_i64];omega
      have bd:=below_drew wr
      have jD:=HJ.out.below bd
      have x1':=x1.mv (Mv.below (X:=X) (D:=D) bd)
      have x2':=x2.mv (Mv.below (X:=X) (D:=D) bd)
      have HJD:=Lib.hid jD
      have HXX:=Lib.hid (And.intro x1' x2')
      have S0:wr.drew.cell? ⟨b1,0,none⟩=some (.pointer (some ⟨X.s,0,none⟩))∧wr.drew.cell? ⟨b2,0,none⟩=some (.int .i64 (tx:Int)):=⟨cellD x1'.1 0,cellD x2'.1 0⟩
      have FX:=Lib.hid (fun(D4:SD) (w4:World) (m:Mv X D D4 wr.drew w4)=>show w4.cell? ⟨b1,0,none⟩=some (.pointer (some ⟨X.s,0,none⟩))∧w4.cell? ⟨b2,0,none⟩=some (.int .i64 (tx:Int)) from⟨cellD (HXX.out.1.mv m).1 0,cellD (HXX.out.2.mv m).1 0⟩)
      have KY:=key_any q40 hq40 wr.drew
      have hq9:q40 % 9<9:=Nat.mod_lt _ (by decide)
      have i20:i≤20:=by omega
      have DR:=Lib.hid (fun w4 gk ck (b4:Below wr.drew.heap.size wr.drew w4) (o4:Own w4 wr.drew.heap.size (.slice (some ⟨gk,0,none⟩) 2 ck) [107,UInt8.ofNat (q40 % 9)])=>
        SJ.drop (kc:=ck) (kn:=2) (kA:=some ⟨gk,0,none⟩) (HJD.out.below b4) HS.out.1 i20 HS.out.2.1 HS.out.2.2 (HK.out _ hq9) HL.out.1 HL.out.2.1 HL.out.2.2 (own_srd HJD.out.g.st HJD.out.g.us (Mv.below (X:=X) (D:=D) b4) (.inl rfl) o4 (Nat.le_refl _)) rfl)
      have VA:=Lib.hid (fun w4=>value_any nn hnn w4)
      have PU:=Lib.hid (fun w4 w5 gk ck gv cv m val (b4:Below wr.drew.heap.size wr.drew w4) (o4:Own w4 wr.drew.heap.size (.slice (some ⟨gk,0,none⟩) 2 ck) [107,UInt8.ofNat (q40 % 9)]) (b5:Below w4.heap.size w4 w5) (hl:val.length=m) (h85:m≤85) (o5:Own w5 w4.heap.size (.slice (some ⟨gv,0,none⟩) m cv) val)=>
        have b45:=b4.trans (b5.mono b4.size)
        have mv:=Mv.below (X:=X) (D:=D) b45
        SJ.put (kc:=ck) (vc:=cv) (kn:=2) (vn:=m) (kA:=some ⟨gk,0,none⟩) (vA:=some ⟨gv,0,none⟩) (HJD.out.below b45) HS.out.1 i20 HS.out.2.1 HS.out.2.2 (HK.out _ hq9) HL.out.1 HL.out.2.1 HL.out.2.2 (own_srd HJD.out.g.st HJD.out.g.us mv (.inl rfl) (o4.belowS b5) (Nat.le_refl _)) rfl (own_srd HJD.out.g.st HJD.out.g.us mv (.inl rfl) o5 b4.size) hl.symm (by omega))
      clear x1 x2 x1' x2' jD bd hq40 hq9 hq40e
      by_cases h3:nn % 3=0
      · have e3:(nn:Int) % 3=0:=by omega
        have e3':(nn:Int).tmod 3=0:=by rw[Int.tmod_eq_emod_of_nonneg (Int.natCast_nonneg _)];exact e3
        clear PU VA hnn h3
        go_upto_region 5 with fail
        clear e3 e3' hc PI
        go_region_held3 (fun w7=>w7.cell? ⟨b1,0,none⟩=some (.pointer (some ⟨X.s,0,none⟩))∧w7.cell? ⟨b2,0,none⟩=some (.int .i64 (tx:Int)))
          (first | with_reducible exact S0 | with_reducible exact S1 | with_reducible exact S2 | go_keep)
          (first
            | (go_simp;go_at_call 16;(with_reducible refine KY.mono ?_);rintro e w4 ⟨⟨gk,ck,rfl,o4⟩,b4⟩;have P4:=DR.out w4 gk ck b4 o4;have S1:=FX.out D w4 (Mv.below b4))
            | (go_at_call 26;(with_reducible refine P4.mono ?_);rintro e w6 ⟨⟨ec,rfl⟩,D',cs',U',k',j6,l6⟩;have S2:=FX.out D' w6 ((Mv.below b4).trans l6.mv))
            | fail)
        all_goals
          go_wp2
          refine⟨⟨i+1,D',cs',U',k',by omega,by simp,j6⟩,?_⟩
          simp[RowKit.intOf];omega
      · have e3:¬((nn:Int) % 3=0):=by omega
        have e3':¬((nn:Int).tmod 3=0):=by rw[Int.tmod_eq_emod_of_nonneg (Int.natCast_nonneg _)];exact e3
        clear DR hnn h3
        go_upto_region 6 with fail
        clear e3 e3' hc PI
        go_region_held3 (fun w7=>w7.cell? ⟨b1,0,none⟩=some (.pointer (some ⟨X.s,0,none⟩))∧w7.cell? ⟨b2,0,none⟩=some (.int .i64 (tx:Int)))
          (first | with_reducible exact S0 | with_reducible exact S1 | with_reducible exact S2 | with_reducible exact S3 | go_keep)
          (first
            | (go_simp;go_at_call 16;(with_reducible refine KY.mono ?_);rintro e w4 ⟨⟨gk,ck,rfl,o4⟩,b4⟩;have V4:=VA.out w4;have S1:=FX.out D w4 (Mv.below b4))
            | (go_at_call 17;(with_reducible refine V4.mono ?_);rintro e w5 ⟨⟨gv,cv,val,m,rfl,hvl,hv85,o5⟩,b5⟩;have P5:=PU.out w4 w5 gk ck gv cv m val b4 o4 b5 hvl hv85 o5;have S2:=FX.out D w5 (Mv.below (b4.trans (b5.mono b4.size))))
            | (go_at_call 15;(with_reducible refine P5.mono ?_);rintro e w6 ⟨⟨ec,rfl⟩,D',cs',U',k',j6,l6⟩;have S3:=FX.out D' w6 ((Mv.below (b4.trans (b5.mono b4.size))).trans l6.mv))
            | fail)
        all_goals
          go_wp2
          refine⟨⟨i+1,D',cs',U',k',by omega,by simp,j6⟩,?_⟩
          simp[RowKit.intOf];omega
    · obtain rfl:i=n:=by omega
      have HJ:=Lib.hid hj
      clear hj hin hi
      go_wp2
      go_end0
      exact⟨rfl,D,cs,U,k,HJ.out⟩
end
end Go.Proofs.YtdbkocfbhpgpkaaGreat
