/-
  store.write: a version put (new, or over one that is there) or taken away.
-/
import Derived.Test.YtdbkocfbhpgpkaaGreatb33
import Derived.Test.YtdbkocfbhpgpkaaGreatb32
set_option linter.unusedVariables false
set_option linter.unusedSimpArgs false
namespace Go.Proofs.YtdbkocfbhpgpkaaGreat
open Go Go.RowKit Go.Shelf
open Go.Ev (PgM PageOk CellsOut rowsOf rowsV rowV rowsOf_len BelowIs putL putL_get putL_size)
set_option maxRecDepth 100000
set_option maxHeartbeats 4000000
theorem tput_yes{Z S:Nat→Prop}{Q:World→Prop}{Pr:PR→Prop}{w:World}{a x s p dd mm j0 im kc vc i:Nat}{ka va:Option Addr}{b:Bool}{cs:List NC}{nc:NC}
    (DN:Calls Tryz.prog 246 #[.pointer (some ⟨x,0,none⟩),.slice ka nc.kn kc] w fun e w'=>(∃ g c A d zs,e=.returned (.tuple #[.slice (some ⟨g,0,none⟩) 1 c,.int .i64 0])∧w.heap.size≤g∧w'.heap[g]? = some (.cells (#[.int .i64 1,.int .u8 1,.int .i64 0,.slice A cs.length d,.int .i64 0]++zs) 260 (0,0))∧CellsOut 219 w.heap.size w' (.slice A cs.length d) cs)∧Q w'∧Kp S w w')
    (hQ:∀ w',Q w'→XB Z w' x a s none∧AB w' a p j0 im b∧∃ R,Pr R∧PB Z w' p dd mm R) (hk:∀ w',Kp S w w'→Rd w' w.heap.size ka nc.key) (hv:∀ w',Kp S w w'→Rd w' w.heap.size va nc.val) (hz:∀ k,Z k→k<w.heap.size)
    (hj:BelowIs cs nc.key (i+1)) (hyes:∀ h:i<cs.length,cs[i].key=nc.key) (hok:PageOk 1 0 (cs.set i nc)) (h1:1≤nc.kn) (h2:nc.kn≤320) (h3:nc.vn≤576) (hn:cs.length≤2000) :
    Calls Tryz.prog 198 #[.pointer (some ⟨x,0,none⟩),.slice ka nc.kn kc,.slice va nc.vn vc] w fun e w'=>e=.returned (.int .i64 0)∧∃ w8,AB w8 a p j0 im b∧(∃ R,Pr R∧PB Z w8 p dd mm R)∧Kp S w w8∧TW Z x a s (cs.set i nc) w8 w':=by
  have f1:decide ((nc.kn:Int)<1)=false:=by simp;omega
  have f2:decide ((320:Int)<(nc.kn:Int))=false:=by simp;omega
  have f3:decide ((576:Int)<(nc.vn:Int))=false:=by simp;omega
  have f4:decide (nc.kn<1)=false:=by simp;omega
  have f5:decide (320<nc.kn)=false:=by simp;omega
  have f6:decide (576<nc.vn)=false:=by simp;omega
  have HN:=Lib.hid hn
  have H1:=Lib.hid h1
  have H2:=Lib.hid h2
  have H3:=Lib.hid h3
  have hil:i<cs.length:=hj.1
  have HIL:=Lib.hid hil
  clear h1 h2 h3 hn hil
  obtain⟨kn,hkn⟩:∃ kn,kn=nc.kn:=⟨_,rfl⟩
  go_enter Tryz.func198,Tryz.ntmps198
  go_upto_region 8 with (go_at_call 246;(with_reducible refine DN.mono ?_);rintro e w2 ⟨⟨g,c,A,d,zs,rfl,hg,hgr,hout⟩,hq,k2⟩)
  obtain⟨W3,hW3,g3,b3,s3⟩:=box_alloc w2 (.cells #[.slice ka nc.kn kc,.slice va nc.vn vc] 219)
  rw[hW3]
  have cellz:∀ (w':World),w'.heap[g]? = some (.cells (#[.int .i64 1,.int .u8 1,.int .i64 0,.slice A cs.length d,.int .i64 0]++zs) 260 (0,0))→w'.cell? ⟨g,1,none⟩=some (.int .u8 1)∧w'.cell? ⟨g,2,none⟩=some (.int .i64 0)∧w'.cell? ⟨g,3,none⟩=some (.slice A cs.length d):=fun w' h=>by
    refine⟨?_,?_,?_⟩<;>(rw[cellD h,Array.getElem?_append_left (by simp)];rfl)
  obtain⟨y1,y2,y3⟩:=cellz W3 (keepB b3 hgr)
  have z2:=k2.size
  have z3:=b3.size
  have hout3:=out_kp hout (Kp.of (S:=fun _=>False) b3) (fun _ h=>h.elim)
  have hkr:=hk w2 k2
  have hvr:=hv w2 k2
  have hp3:PgM W3 W3.heap.size A cs:=by
    obtain⟨A',c',e,h⟩:=out_pgm hout3
    injection e with e1 e2 e3
    rw[e1];exact h
  have PL:=tplace_yes cs A ka cs.length d nc.kn kc i nc.key W3 rfl (by have:=HN.out;omega) hp3 ((hkr.below (b3.mono z2)).more (Nat.le_trans z2 z3)) (by simp[NC.key,bl]) hj hyes
  have HS3:=Lib.hid s3
  clear s3 DN hyes hp3
  go_upto_region 10 with (go_at_call 247;(with_reducible refine PL.mono ?_);rintro e w4 ⟨rfl,b4⟩)
  have b34:Below w2.heap.size w2 w4:=b3.trans (b4.mono z3)
  have z4:=b4.size
  have hg4:=keepB b4 (keepB b3 hgr)
  have g4:=keepB b4 g3
  have bD:Below w4.heap.size w4 w4.drew:=below_drew w4
  obtain⟨W5,hW5,-,b5⟩:=drew_name w4
  have hg5:=keepB b5 hg4
  have gc5:=keepB b5 g4
  have b25:=b34.trans (b5.mono (Nat.le_trans z3 z4))
  have hout5:=out_kp hout (Kp.of (S:=fun _=>False) b25) (fun _ h=>h.elim)
  obtain⟨gr,cur,hA,hgr0,hrow,hcs,hcd⟩:=out_blk hout5 rfl (by have:=HIL.out;omega)
  subst hA
  have u3:W5.cell? ⟨g,3,none⟩=some (.slice (some ⟨gr,0,none⟩) cs.length d):=(cellz _ hg5).2.2
  have k0:W5.cell? ⟨w2.heap.size,0,none⟩=some (.slice ka nc.kn kc):=cellD gc5 0
  have k1:W5.cell? ⟨w2.heap.size,1,none⟩=some (.slice va nc.vn vc):=cellD gc5 1
  have q1:i<cs.length:=HIL.out
  have q2:(i:Int)<(cs.length:Int):=by omega
  have HZ:=Lib.hid (And.intro z2 (And.intro z3 z4))
  have HCZ:=Lib.hid cellz
  clear y1 y2 y3 PL z2 z3 z4 cellz
  refine stillW 7 (by kernel_rfl) (by kernel_rfl) W5 hW5 ?_
  simp only[List.take_succ_cons,List.take_zero,List.drop_succ_cons,List.drop_zero]
  repeat still_step
  refine wpStill_nil ?_
  refine stP rfl 219 (.tmp 59) (.tmp 58) rfl rfl gr (i * 2) rfl 2 szCell cur (.agg #[.slice ka nc.kn kc,.slice va nc.vn vc]) 219 hrow rfl (by omega) rfl (by intro u hu;simp[Value.cells] at hu;rcases hu with rfl | rfl<;>rfl) ?_
  intro w6 g6 o6 b6 z6
  have b60:=b6 0 (Nat.zero_le _)
  have k6:Kp (·=gr) W5 w6:=⟨b60.os,b60.tape,b60.output,by omega,fun k _ hk=>o6 k hk⟩
  obtain⟨z2,z3,z4⟩:=HZ.out
  obtain⟨hx2,ha2,RR,hPr,hp2⟩:=hQ w2 hq
  have hx5:=hx2.below b25
  have ha5:=ha2.below b25
  have hp5:=hp2.below b25
  have hx6:=hx5.kp k6 (tag_ne hx5.box hrow (by decide)) (hx5.map.ne hrow) (fun u e=>nomatch e) (fun _ _ h=>h)
  have ha6:=ha5.kp k6 (tag_ne ha5.box hrow (by decide)) (ha5.map.ne hrow)
  have hp6:=hp5.kp k6 (tag_ne hp5.box hrow (by decide)) (hp5.map.ne hrow) (fun f hf=>by
    obtain⟨cur,e,-⟩:=(hp5.fr f hf).row
    exact⟨tag_ne e hrow (by decide),fun q q1 q2=>(hp5.fr f hf).pay.tag hrow (by decide) (q2▸q1)⟩) (fun _ _ h=>h)
  have hgr6:¬g=gr:=tag_ne hg5 hrow (by decide)
  have hg6:=k6.keep hg5 hgr6
  have bel6:Below w.heap.size w2 w6:=(b25.mono z2).trans (b6 _ hgr0)
  have hpg6:=set_pgm hout5 rfl q1 hrow g6 k6 ((hkr.below bel6).more (Nat.le_trans z2 bel6.size)) ((hvr.below bel6).more (Nat.le_trans z2 bel6.size))
  obtain⟨t1,t2,t4⟩:=HCZ.out _ hg6
  have kw6:Kp S w w6:=k2.base bel6
  have ST:=tsettle_any (c:=d) (c2:=c) hx6 ha6 hp6 hok hpg6 (by simp) (fun k e=>Nat.lt_of_lt_of_le (hz k e) kw6.size) t1 t2 t4
  have HK:=Lib.hid kw6
  clear kw6 z6 z2 z3 z4
  go_wp2_with (go_at_call 252;(with_reducible refine ST.mono ?_);rintro e w9 ⟨rfl,hT⟩)
  go_ret
  exact⟨rfl,w6,ha6,⟨RR,hPr,hp6⟩,HK.out,hT⟩
theorem tdrop_any{Z S:Nat→Prop}{Q:World→Prop}{Pr:PR→Prop}{w:World}{a x s p dd mm j0 im kn kc i N:Nat}{ka:Option Addr}{b:Bool}{cs:List NC}{key:List UInt8}
    (DN:Calls Tryz.prog 246 #[.pointer (some ⟨x,0,none⟩),.slice ka kn kc] w fun e w'=>(∃ g c A d zs,e=.returned (.tuple #[.slice (some ⟨g,0,none⟩) 1 c,.int .i64 0])∧w.heap.size≤g∧w'.heap[g]? = some (.cells (#[.int .i64 1,.int .u8 1,.int .i64 0,.slice A cs.length d,.int .i64 0]++zs) 260 (0,0))∧CellsOut 219 w.heap.size w' (.slice A cs.length d) cs)∧Q w'∧Kp S w w')
    (hQ:∀ w',Q w'→XB Z w' x a s none∧AB w' a p j0 im b∧∃ R,Pr R∧PB Z w' p dd mm R) (hk:∀ w',Kp S w w'→Rd w' w.heap.size ka key) (hkn:kn=key.length) (hz:∀ k,Z k→k<w.heap.size)
    (hj:BelowIs cs key (i+1)) (hyes:∀ h:i<cs.length,cs[i].key=key) (hok:PageOk 1 0 (cs.take i++cs.drop (i+1))) (hl:cs.length=N+1) (hn:N≤2000) :
    Calls Tryz.prog 199 #[.pointer (some ⟨x,0,none⟩),.slice ka kn kc] w fun e w'=>e=.returned (.tuple #[.bool true,.int .i64 0])∧∃ w8,AB w8 a p j0 im b∧(∃ R,Pr R∧PB Z w8 p dd mm R)∧Kp S w w8∧TW Z x a s (cs.take i++cs.drop (i+1)) w8 w':=by
  have HN:=Lib.hid hn
  have HKN:=Lib.hid hkn
  have hil:i<cs.length:=hj.1
  have HIL:=Lib.hid hil
  have HL:=Lib.hid hl
  rw[hl] at DN
  clear hn hkn hil hl
  go_enter Tryz.func199,Tryz.ntmps199
  go_upto_region 5 with (go_at_call 246;(with_reducible refine DN.mono ?_);rintro e w2 ⟨⟨g,c,A,d,zs,rfl,hg,hgr,hout⟩,hq,k2⟩)
  have cellz:∀ (w':World) (v:Value),w'.heap[g]? = some (.cells ((#[.int .i64 1,.int .u8 1,.int .i64 0,v,.int .i64 0]:Array Value)++zs) 260 (0,0))→w'.cell? ⟨g,1,none⟩=some (.int .u8 1)∧w'.cell? ⟨g,2,none⟩=some (.int .i64 0)∧w'.cell? ⟨g,3,none⟩=some v:=fun w' v h=>by
    refine⟨?_,?_,?_⟩<;>(rw[cellD h,Array.getElem?_append_left (by simp)];rfl)
  obtain⟨y1,y2,y3⟩:=cellz w2 _ hgr
  have z2:=k2.size
  have hkr:=hk w2 k2
  have hp2:PgM w2 w2.heap.size A cs:=by
    have:=out_pgm hout
    obtain⟨A',c',e,h⟩:=this
    rw[HL.out] at e
    injection e with e1 e2 e3
    rw[e1];exact h
  have PL:=tplace_yes cs A ka (N+1) d kn kc i key w2 HL.out.symm (by have:=HN.out;omega) hp2 (hkr.more z2) HKN.out hj hyes
  clear DN hyes hp2
  go_upto_region 8 with (go_at_call 247;(with_reducible refine PL.mono ?_);rintro e w4 ⟨rfl,b4⟩)
  have hg4:=keepB b4 hgr
  have z4:=b4.size
  have hout4:=out_kp hout (Kp.of (S:=fun _=>False) b4) (fun _ h=>h.elim)
  have u3:w4.cell? ⟨g,3,none⟩=some (.slice A (N+1) d):=(cellz _ _ hg4).2.2
  have DL:=tdel_pgm hout4 HL.out (i:=i) (by have:=HIL.out;have:=HL.out;omega) HN.out (Nat.le_trans z2 z4)
  have hw:wrap64 ((i:Int)+1)=(i:Int)+1:=IntWalk.wrap64_in _ (by have:=HIL.out;have:=HL.out;have:=HN.out;omega)
  have out_row4:∀ (k:Nat),(Value.slice A (N+1) d).ownBlock=some k→∃ cur,w4.heap[k]? = some (.cells cur 219 (0,0)):=fun k e=>by
    have h4':=hout4
    obtain⟨gs,-,hrow,-⟩:=h4'
    rcases hrow.2 with⟨e1,-⟩|⟨g',cap,cur,e1,hb,hg2,-⟩
    · rw[e1] at e;cases e
    · rw[e1] at e
      injection e with e
      dsimp only at e
      subst e
      exact⟨_,hg2⟩
  have AFT:∀ w7,Kp (fun k=>(Value.slice A (N+1) d).ownBlock=some k) w4 w7→w7.heap[g]? = some (.cells (#[.int .i64 1,.int .u8 1,.int .i64 0,.slice A (N+1) d,.int .i64 0]++zs) 260 (0,0)):=fun w7 kk=>kk.keep hg4 fun e=>by
    obtain⟨cur,hc⟩:=out_row4 _ e
    rw[hg4] at hc
    injection hc with hc
    injection hc with _ hc
    exact absurd hc (by decide)
  have HA:=Lib.hid AFT
  have HR:=Lib.hid out_row4
  have HCZ:=Lib.hid cellz
  have HZ:=Lib.hid (And.intro z2 z4)
  clear AFT y1 y2 y3 PL z2 z4 out_row4 cellz
  go_upto_region 9 with (go_at_call 253;(with_reducible refine DL.mono ?_);rintro e w7 ⟨g7,rfl,hp7,b7,k7,pk7⟩;have h7:=HA.out w7 k7;have t3:w7.cell? ⟨g,3,none⟩=some (.slice A (N+1) d):=(HCZ.out _ _ h7).2.2;have x3:w7.frozen? ⟨g,3,none⟩=false:=frozenD h7 3)
  obtain⟨W8,hW8,g8,k8,s8⟩:=set_name 3 h7 (.slice (some ⟨g7,0,none⟩) N d)
  rw[hW8]
  obtain⟨z2,z4⟩:=HZ.out
  have hout_row:=HR.out
  obtain⟨hx2,ha2,RR,hPr,hp2'⟩:=hQ w2 hq
  have hx4:=hx2.below b4
  have ha4:=ha2.below b4
  have hp4:=hp2'.below b4
  have nT:∀ {k:Nat} {x:Array Value} {t:TypeId},w4.heap[k]? = some (.cells x t (0,0))→t≠219→¬(Value.slice A (N+1) d).ownBlock=some k:=fun {k x t} e t1 q=>by
    obtain⟨cur,hc⟩:=hout_row _ q
    exact tag_ne e hc t1 rfl
  have nM:∀ {k:Nat} {l:List (Int×Value)},MapI w4 k l→¬(Value.slice A (N+1) d).ownBlock=some k:=fun {k l} e q=>by
    obtain⟨cur,hc⟩:=hout_row _ q
    exact e.ne hc rfl
  have nO:∀ {v:Value} {l:List UInt8} {k:Nat},Own w4 0 v l→v.ownBlock=some k→¬(Value.slice A (N+1) d).ownBlock=some k:=fun {v l k} o e q=>by
    obtain⟨cur,hc⟩:=hout_row _ q
    exact o.tag hc (by decide) e
  have hx7:=hx4.kp k7 (nT hx4.box (by decide)) (nM hx4.map) (fun u e=>nomatch e) (fun _ _ h=>h)
  have ha7:=ha4.kp k7 (nT ha4.box (by decide)) (nM ha4.map)
  have hp7':=hp4.kp k7 (nT hp4.box (by decide)) (nM hp4.map) (fun f hf=>by
    obtain⟨cur,e,-⟩:=(hp4.fr f hf).row
    exact⟨nT e (by decide),fun q q1 q2=>nO (hp4.fr f hf).pay q1 q2⟩) (fun _ _ h=>h)
  have hx8:=hx7.kp k8 (tag_ne hx7.box h7 (by decide)) (hx7.map.ne h7) (fun u e=>nomatch e) (fun _ _ h=>h)
  have ha8:=ha7.kp k8 (tag_ne ha7.box h7 (by decide)) (ha7.map.ne h7)
  have hp8:=hp7'.kp k8 (tag_ne hp7'.box h7 (by decide)) (hp7'.map.ne h7) (fun f hf=>by
    obtain⟨cur,e,-⟩:=(hp7'.fr f hf).row
    exact⟨tag_ne e h7 (by decide),fun q q1 q2=>(hp7'.fr f hf).pay.tag h7 (by decide) (q2▸q1)⟩) (fun _ _ h=>h)
  have hpg8:=pk7 g W8 _ _ hg h7 (by decide) (by decide) k8
  have z7:=b7.size
  have t1:W8.cell? ⟨g,1,none⟩=some (.int .u8 1):=by rw[cellD g8];simp;rw[Array.getElem?_append_left (by simp)];rfl
  have t2:W8.cell? ⟨g,2,none⟩=some (.int .i64 0):=by rw[cellD g8];simp;rw[Array.getElem?_append_left (by simp)];rfl
  have t4:W8.cell? ⟨g,3,none⟩=some (.slice (some ⟨g7,0,none⟩) N d):=by rw[cellD g8];simp;rw[Array.getElem?_append_left (by simp)];rfl
  have kw8:Kp S w W8:=k2.base (((b4.mono z2).trans b7).trans (k8.below (Nat.le_trans (Nat.le_trans z2 z4) k7.size) fun k hk e=>by omega))
  have ST:=tsettle_any (c:=d) (c2:=c) hx8 ha8 hp8 hok hpg8 (by have:=HL.out;have:=HIL.out;simp;omega) (fun k e=>Nat.lt_of_lt_of_le (hz k e) kw8.size) t1 t2 t4
  have HK:=Lib.hid kw8
  clear s8 kw8 z7 z2 z4 DL
  go_wp2_with (go_at_call 252;(with_reducible refine ST.mono ?_);rintro e w9 ⟨rfl,hT⟩)
  go_ret2
  exact⟨rfl,W8,ha8,⟨RR,hPr,hp8⟩,HK.out,hT⟩
end Go.Proofs.YtdbkocfbhpgpkaaGreat
namespace Go.Proofs.YtdbkocfbhpgpkaaGreat
open Go Go.RowKit Go.Shelf
open Go.Ev (PgM PageOk CellsOut rowsOf rowsV rowV rowsOf_len BelowIs)
set_option maxRecDepth 100000
set_option maxHeartbeats 4000000
def PutTo(cs:List NC)(nc:NC)(cs':List NC):Prop:=
  (∃ i,BelowIs cs nc.key i∧(∀ c∈cs,c.key≠nc.key)∧cs'=cs.take i++nc::cs.drop i)∨(∃ i,BelowIs cs nc.key (i+1)∧(∀ h:i<cs.length,cs[i].key=nc.key)∧cs'=cs.set i nc)
def DropTo(cs:List NC)(key:List UInt8)(cs':List NC):Prop:=∃ i,BelowIs cs key (i+1)∧(∀ h:i<cs.length,cs[i].key=key)∧cs'=cs.take i++cs.drop (i+1)
section
variable {X:ST}{D:SD}{w w':World}{l:List UInt8}
theorem treeop_st{fn:FuncId}{args:Array Value}{ret:Ending}{w0:World}{x sx:Nat}{f:FR}{cs':List NC}(h0:StW X D w0)(hb0:Below w0.heap.size w0 w)(hsl:w0.heap.size≤sx)(hf:D.R.held=some f)
    (TP:Calls Tryz.prog fn args w fun e w'=>e=ret∧∃ w8,AB w8 X.B.a X.B.p X.B.j X.im D.b∧(∃ R,R=D.R∧PB (Zj D.J) w8 X.B.p X.B.d X.m R)∧Kp (SG X D) w w8∧TW (Zj D.J) x X.B.a sx cs' w8 w') :
    Calls Tryz.prog fn args w fun e w'=>e=ret∧(∃ v,XB (Zj D.J) w' x X.B.a sx (some (v,pgL 1 0 cs')))∧StW X D w'∧Kp (SG X D) w0 w':=by
  refine TP.mono ?_
  rintro e w' ⟨rfl,w8,ha8,⟨R,rfl,hp8⟩,k8,⟨v,hx',-⟩,kt⟩
  have k08:Kp (SG X D) w0 w8:=(Kp.of hb0).then k8
  have k0:Kp (SG X D) w0 w':=k08.trans kt fun k hk e=>by have:k=sx:=e;omega
  have hF:=h0.pb.fr f hf
  have pb':PB (Zj D.J) w' X.B.p X.B.d X.m D.R:=hp8.kp kt (fun e=>by have:=hlt h0.pb.box;have:X.B.p=sx:=e;omega) (fun e=>by have:=h0.pb.map.lt;have:X.m=sx:=e;omega) (fun f' hf'=>by
    rw[hf] at hf';injection hf' with hf';subst hf'
    exact⟨fun e=>by have:=hF.lt;have:f.fr=sx:=e;omega,fun g e1 e2=>by have:=hF.pay.lt g e1;have:g=sx:=e2;omega⟩) (fun _ _ h=>h)
  exact⟨rfl,⟨v,hx'⟩,h0.pool k0 h0.sgT pb' h0.hi,k0⟩
theorem qs_at{x sx:Nat}{f:FR}{l:List UInt8}(hf:D.R.held=some f)(q:Qs (Zj D.J) X D l x sx w):XB (Zj D.J) w x X.B.a sx none∧AB w X.B.a X.B.p X.B.j X.im D.b∧∃ R,R=D.R∧PB (Zj D.J) w X.B.p X.B.d X.m R:=by
  refine⟨q.1,?_⟩
  obtain⟨f',e1,e2,e3⟩:=q.2
  have:D.hold f'=D:=by
    rcases e2 with e2|⟨e2,-⟩
    · exact SD.hold_self e2
    · rw[hf] at e2;cases e2
  rw[this] at e3
  exact⟨e3.ab,_,rfl,e3.pb⟩
theorem putto_st{w0:World}{x sx kc vc:Nat}{ka va:Option Addr}{f:FR}{cs cs':List NC}{nc:NC}(h0:StW X D w0)(hb0:Below w0.heap.size w0 w)(hx:XB (Zj D.J) w x X.B.a sx none)(hsl:w0.heap.size≤sx)
    (hf:D.R.held=some f) (hp:PgIs D (pgL 1 0 cs)) (hok:PageOk 1 0 cs) (hv1:∀ c∈cs,1≤c.vn) (hb:D.R.base+1<D.P.bs.length) (hB:D.R.base≤100000)
    (hk:∀ w',Kp (SG X D) w w'→Rd w' w.heap.size ka nc.key) (hv:∀ w',Kp (SG X D) w w'→Rd w' w.heap.size va nc.val)
    (hj:PutTo cs nc cs') (hok':PageOk 1 0 cs') (h1:1≤nc.kn) (h2:nc.kn≤320) (h3:nc.vn≤576) (hn:cs.length≤2000) :
    Calls Tryz.prog 198 #[.pointer (some ⟨x,0,none⟩),.slice ka nc.kn kc,.slice va nc.vn vc] w fun e w'=>e=.returned (.int .i64 0)∧(∃ v,XB (Zj D.J) w' x X.B.a sx (some (v,pgL 1 0 cs')))∧StW X D w'∧Kp (SG X D) w0 w':=by
  have h:=h0.below hb0
  have hl:=pg_len hok
  have Q:=stb_qs (Zj D.J) X D (pgL 1 0 cs) x sx
  have LD:=load_any (S:=SG X D) (x:=x) hok hv1 Q (fun k e=>h.sg e) (fun w2 b2=>xget_st (h.below b2) (hx.below b2) (fun e=>by have:=h0.pb.map.lt;omega) hp hl hb hB)
  have DN:=down_any (key:=.slice ka nc.kn kc) Q LD
  refine treeop_st h0 hb0 hsl hf ?_
  rcases hj with⟨i,j1,j2,rfl⟩|⟨i,j1,j2,rfl⟩
  · exact tput_any (p:=X.B.p) (dd:=X.B.d) (mm:=X.m) (j0:=X.B.j) (im:=X.im) (b:=D.b) (Pr:=fun R=>R=D.R) DN (fun w' q=>qs_at hf q) hk hv (fun k e=>h.jo.lt k e) j1 j2 hok' h1 h2 h3 hn
  · exact tput_yes (p:=X.B.p) (dd:=X.B.d) (mm:=X.m) (j0:=X.B.j) (im:=X.im) (b:=D.b) (Pr:=fun R=>R=D.R) DN (fun w' q=>qs_at hf q) hk hv (fun k e=>h.jo.lt k e) j1 j2 hok' h1 h2 h3 hn
theorem dropto_st{w0:World}{x sx kn kc:Nat}{ka:Option Addr}{f:FR}{cs cs':List NC}{key:List UInt8}(h0:StW X D w0)(hb0:Below w0.heap.size w0 w)(hx:XB (Zj D.J) w x X.B.a sx none)(hsl:w0.heap.size≤sx)
    (hf:D.R.held=some f) (hp:PgIs D (pgL 1 0 cs)) (hok:PageOk 1 0 cs) (hv1:∀ c∈cs,1≤c.vn) (hb:D.R.base+1<D.P.bs.length) (hB:D.R.base≤100000)
    (hk:∀ w',Kp (SG X D) w w'→Rd w' w.heap.size ka key) (hkn:kn=key.length) (hj:DropTo cs key cs') (hok':PageOk 1 0 cs') (hn:cs.length≤2000) :
    Calls Tryz.prog 199 #[.pointer (some ⟨x,0,none⟩),.slice ka kn kc] w fun e w'=>e=.returned (.tuple #[.bool true,.int .i64 0])∧(∃ v,XB (Zj D.J) w' x X.B.a sx (some (v,pgL 1 0 cs')))∧StW X D w'∧Kp (SG X D) w0 w':=by
  have h:=h0.below hb0
  have hl:=pg_len hok
  have Q:=stb_qs (Zj D.J) X D (pgL 1 0 cs) x sx
  have LD:=load_any (S:=SG X D) (x:=x) hok hv1 Q (fun k e=>h.sg e) (fun w2 b2=>xget_st (h.below b2) (hx.below b2) (fun e=>by have:=h0.pb.map.lt;omega) hp hl hb hB)
  have DN:=down_any (key:=.slice ka kn kc) Q LD
  refine treeop_st h0 hb0 hsl hf ?_
  obtain⟨i,j1,j2,rfl⟩:=hj
  obtain⟨N,hN⟩:∃ N,cs.length=N+1:=⟨cs.length-1,by have:=j1.1;omega⟩
  exact tdrop_any (p:=X.B.p) (dd:=X.B.d) (mm:=X.m) (j0:=X.B.j) (im:=X.im) (b:=D.b) (Pr:=fun R=>R=D.R) DN (fun w' q=>qs_at hf q) hk hkn (fun k e=>h.jo.lt k e) j1 j2 hok' hN (by omega)
theorem pu_sg(h:StW X D w){k:Nat}(e:SG X D k):PU X D w k:=by
  rcases e with e|e|⟨f,hf,e⟩
  · exact .inl (.inr (.inr (.inl e)))
  · exact .inr (.inl e)
  · obtain⟨cur,hc,-⟩:=(h.pb.fr f hf).row
    exact .inl (.inr (.inr (.inr (.inr (.inr (.inr ⟨by rw[e];exact h.hi f hf,_,_,by rw[e];exact hc,.inl rfl⟩))))))
theorem pv_sg(h:StW X D w)(kk:Kp (SG X D) w w'):Pv X D D w w':=⟨kk.weaken fun _ e=>pu_sg h e,fun _ _ e=>e,rfl,rfl,rfl,rfl⟩
def WrG (X:ST)(D:SD)(k:Nat)(l:List UInt8)(w w':World):Prop:=∃ D',Ivt X D' k l∧Pv X D D' w w'∧StW X D' w'∧∃ f',D'.R.held=some f'∧(¬PgIs D l→D'.J.last=D.J.last+1)
theorem write_put{k kc vc tx:Nat}{ka va:Option Addr}{f:FR}{cs cs':List NC}{nc:NC}(h:StW X D w)(iv:Ivt X D k (pgL 1 0 cs))(hkb:k≤3800)(t:TOk D)
    (hf:D.R.held=some f) (hok:PageOk 1 0 cs) (hv1:∀ c∈cs,1≤c.vn)
    (hk:∀ w',Kp (SG X D) w w'→Rd w' w.heap.size ka nc.key) (hv:∀ w',Kp (SG X D) w w'→Rd w' w.heap.size va nc.val)
    (hj:PutTo cs nc cs') (hok':PageOk 1 0 cs') (h1:1≤nc.kn) (h2:nc.kn≤320) (hv2:1≤nc.vn) (h3:nc.vn≤576) (hn:cs.length≤2000) (htx:tx≤1000000) :
    Calls Tryz.prog 104 #[.pointer (some ⟨X.s,0,none⟩),.int .i64 (tx:Int),.slice ka nc.kn kc,.slice va nc.vn vc] w fun e w'=>e=.returned (.int .i64 0)∧WrG X D (k+2) (pgL 1 0 cs') w w':=by
  have BG:=abegin_any (Z:=Zj D.J) h.ab
  have c12:w.cell? ⟨X.s,12,none⟩=some (.pointer (some ⟨X.B.a,0,none⟩)):=cellD h.sb 12
  have PT:∀ w1 x sx,Below w.heap.size w w1→XB (Zj D.J) w1 x X.B.a sx none→w.heap.size≤x→w.heap.size≤sx→_:=fun w1 x sx b1 hx hxl hsl=>
    putto_st (kc:=kc) (vc:=vc) (ka:=ka) (va:=va) h b1 hx hsl hf iv.pg hok hv1 (by rw[iv.base,iv.blen];decide) (by rw[iv.base];decide) (fun w' kk=>(hk w' ((Kp.of b1).then kk)).more b1.size) (fun w' kk=>(hv w' ((Kp.of b1).then kk)).more b1.size) hj hok' h1 h2 h3 hn
  have FN:∀ (w2:World) x sx v,StW X D w2→XB (Zj D.J) w2 x X.B.a sx (some (v,pgL 1 0 cs'))→w.heap.size≤sx→_:=fun w2 x sx v h2 hx hsl=>
    finish_g h2 iv hkb t hx hf (fun e=>by have:=h.ab.map.lt;omega) htx
  have HP:=Lib.hid PT
  have HF:=Lib.hid FN
  have HH:=Lib.hid h
  have f1:(0:Int)<(nc.vn:Int):=by omega
  have f2:0<nc.vn:=hv2
  clear hf hok hv1 hk hv hj hok' h1 h2 hv2 h3 hn htx PT FN iv t hkb h
  go_enter Tryz.func104,Tryz.ntmps104
  go_wp2_with (first
    | (go_at_call 87;(with_reducible refine BG.mono ?_);rintro e w1 ⟨⟨x,sx,rfl,hx1,hxl,hsl⟩,b1⟩;have P1:=HP.out w1 x sx b1 hx1 hxl hsl)
    | (go_at_call 198;(with_reducible refine P1.mono ?_);rintro e w2 ⟨rfl,⟨v,hx2⟩,h2,k2⟩;have F2:=HF.out w2 x sx v h2 hx2 hsl)
    | (go_at_call 200;(with_reducible refine F2.mono ?_);rintro e w3 ⟨rfl,hD⟩))
  go_ret
  obtain⟨D1,i1,q1,s1,f1,e1⟩:=hD
  exact⟨rfl,D1,i1,q1.pv (pv_sg HH.out k2) hxl,s1,f1,e1⟩
theorem write_drop{k kn kc vc tx:Nat}{ka va:Option Addr}{f:FR}{cs cs':List NC}{key:List UInt8}(h:StW X D w)(iv:Ivt X D k (pgL 1 0 cs))(hkb:k≤3800)(t:TOk D)
    (hf:D.R.held=some f) (hok:PageOk 1 0 cs) (hv1:∀ c∈cs,1≤c.vn)
    (hk:∀ w',Kp (SG X D) w w'→Rd w' w.heap.size ka key) (hkn:kn=key.length)
    (hj:DropTo cs key cs') (hok':PageOk 1 0 cs') (hn:cs.length≤2000) (htx:tx≤1000000) :
    Calls Tryz.prog 104 #[.pointer (some ⟨X.s,0,none⟩),.int .i64 (tx:Int),.slice ka kn kc,.slice va 0 vc] w fun e w'=>e=.returned (.int .i64 0)∧WrG X D (k+2) (pgL 1 0 cs') w w':=by
  have BG:=abegin_any (Z:=Zj D.J) h.ab
  have c12:w.cell? ⟨X.s,12,none⟩=some (.pointer (some ⟨X.B.a,0,none⟩)):=cellD h.sb 12
  have PT:∀ w1 x sx,Below w.heap.size w w1→XB (Zj D.J) w1 x X.B.a sx none→w.heap.size≤x→w.heap.size≤sx→_:=fun w1 x sx b1 hx hxl hsl=>
    dropto_st (kc:=kc) (ka:=ka) h b1 hx hsl hf iv.pg hok hv1 (by rw[iv.base,iv.blen];decide) (by rw[iv.base];decide) (fun w' kk=>(hk w' ((Kp.of b1).then kk)).more b1.size) hkn hj hok' hn
  have FN:∀ (w2:World) x sx v,StW X D w2→XB (Zj D.J) w2 x X.B.a sx (some (v,pgL 1 0 cs'))→w.heap.size≤sx→_:=fun w2 x sx v h2 hx hsl=>
    finish_g h2 iv hkb t hx hf (fun e=>by have:=h.ab.map.lt;omega) htx
  have HP:=Lib.hid PT
  have HF:=Lib.hid FN
  have HH:=Lib.hid h
  clear hf hok hv1 hk hj hok' hn htx PT FN iv t hkb h hkn
  go_enter Tryz.func104,Tryz.ntmps104
  go_wp2_with (first
    | (go_at_call 87;(with_reducible refine BG.mono ?_);rintro e w1 ⟨⟨x,sx,rfl,hx1,hxl,hsl⟩,b1⟩;have P1:=HP.out w1 x sx b1 hx1 hxl hsl)
    | (go_at_call 199;(with_reducible refine P1.mono ?_);rintro e w2 ⟨rfl,⟨v,hx2⟩,h2,k2⟩;have F2:=HF.out w2 x sx v h2 hx2 hsl)
    | (go_at_call 200;(with_reducible refine F2.mono ?_);rintro e w3 ⟨rfl,hD⟩))
  go_ret
  obtain⟨D1,i1,q1,s1,f1,e1⟩:=hD
  exact⟨rfl,D1,i1,q1.pv (pv_sg HH.out k2) hxl,s1,f1,e1⟩
end
end Go.Proofs.YtdbkocfbhpgpkaaGreat
