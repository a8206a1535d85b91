/-
  atom.New.
-/
import Derived.Test.YtdbkocfbhpgpkaaGreatb18
import Derived.Test.YtdbkocfbhpgpkaaGreatb19
import Derived.Test.YtdbkocfbhpgpkaaGreatb16
import Derived.Test.YtdbkocfbhpgpkaaGreatb17
import Derived.Test.YtdbkocfbhpgpkaaGreatb06
set_option linter.unusedVariables false
set_option linter.unusedSimpArgs false
namespace Go.Proofs.YtdbkocfbhpgpkaaGreat
open Go Go.RowKit
set_option maxRecDepth 100000
set_option maxHeartbeats 1600000
def WF (n0 d db p fr s:Nat)(w:World)(k:Nat):Prop:=k=p∨k=fr∨k=s∨k=d∨k=db∨(n0≤k∧∃ x,w.heap[k]? = some (Obj.cells x 203 (0,0)))
theorem pwrite_any{Z:Nat→Prop}{w:World}{p m s n0 db:Nat}{pv:Value}{R:PR}{f:FR}{B:SPt}{S:SR}{J:JR}{P:PD}(h:PB Z w p B.d m R)(hf:R.held=some f)(hw:R.wal=.func (.func 158) #[.pointer (some ⟨s,0,none⟩)] #[])
    (hs:SB w s B S) (hj:JB w B.j B.d J) (hl:f.lsn≤J.synced) (D:Dk Z w n0 B.d db pv P) (hfi:P.Fine) (hws:P.ws.length≤90) (hb:R.base+1<P.bs.length) (hB:P.bs.length≤100000) (hc:R.cnt≤1000000) (ha:S.asked≤1000000) :
    Calls Tryz.prog 239 #[.pointer (some ⟨p,0,none⟩),.int .i64 0] w fun e w'=>e=.returned (.int .i64 0)∧PB Z w' p B.d m { R with held:=some { f with dirty:=false },cnt:=R.cnt+1 }∧SB w' s B { S with asked:=S.asked+1 } ∧
      (∃ pv',Dk Z w' n0 B.d db pv' { P with ws:=P.ws++[(R.base+1,sealed f.bytes (ofS (R.epoch:Int) (R.cnt:Int)))] })∧Kp (WF n0 B.d db p f.fr s w) w w':=by
  have F:=h.fr f hf
  obtain⟨cur,e1,e2,e3,e4,e5,e6,e7⟩:=F.row
  have htv:R.tv=.slice (some ⟨f.fr,0,none⟩) 1 f.c:=by unfold PR.tv;rw[hf]
  have c8:w.cell? ⟨p,8,none⟩=some (.slice (some ⟨f.fr,0,none⟩) 1 f.c):=(cellD h.box 8).trans (congrArg some htv)
  have x2:w.cell? ⟨f.fr,2,none⟩=some (.int .i64 (f.lsn:Int)):=(cellD e1 2).trans e5
  have hsp:s≠p:=tag_ne hs h.box (by decide)
  have hsf:s≠f.fr:=tag_ne hs e1 (by decide)
  have hjp:B.j≠p:=tag_ne hj h.box (by decide)
  have hpf:p≠f.fr:=tag_ne h.box e1 (by decide)
  have AK:=ask_any (S:=(·=s)) (PP:=fun w2=>SB w2 s B { S with asked:=S.asked+1 }) (lsn:=f.lsn) h hw (fun e=>hsp e.symm) (fun k e=>by subst e;exact hlt hs) (fun w' k'=>(ahead_any (k'.keep hs hsp) (k'.keep hj hjp) hl ha))
  go_enter Tryz.func239,Tryz.ntmps239
  go_upto_region 5 with (go_at_call 272;(with_reducible refine AK.mono ?_);rintro e w2 ⟨rfl,hp2,⟨w1,hs1,k12⟩,k2⟩)
  have hsw:=hlt hs
  have hs2:SB w2 s B { S with asked:=S.asked+1 }:=k12.keep hs1 (by rintro (e | e)<;>omega)
  have hsm:s≠m:=fun e=>h.map.ne hs e.symm
  have hpm:p≠m:=fun e=>h.map.ne h.box e.symm
  have hpvp:∀ g,f.pv.ownBlock=some g→g≠p∧g≠s:=fun g e=>⟨fun q=>F.pay.tag h.box (by decide) (by rw[e,q]),fun q=>F.pay.tag hs (by decide) (by rw[e,q])⟩
  have F2:FB Z w2 f:=F.kp k2 (by rintro (e | e);exact hpf e.symm;exact hsf e.symm) (fun g e=>by rintro (q | q);exact(hpvp g e).1 q;exact(hpvp g e).2 q) (fun _ _ h=>h)
  have D2:Dk Z w2 n0 B.d db pv P:=D.apart k2 fun k o e q=>by
    rcases e with e|e
    · subst e
      rw[h.box] at q;injection q with q;subst q
      exact⟨NoD.cells (by decide) (by decide) (by decide),.inr fun x e=>by injection e with _ e _;exact absurd e (by decide)⟩
    · subst e
      rw[show w.heap[k]? = _ from hs] at q;injection q with q;subst q
      exact⟨NoD.cells (by decide) (by decide) (by decide),.inr fun x e=>by injection e with _ e _;exact absurd e (by decide)⟩
  have m2:MapI w2 m R.m:=h.map.kp k2 (by rintro (e | e);exact hpm e.symm;exact hsm e.symm)
  have e1':w2.heap[f.fr]? = some (.cells cur 364 (0,0)):=k2.keep e1 (by rintro (e | e);exact hpf e.symm;exact hsf e.symm)
  have d8:w2.cell? ⟨p,8,none⟩=some (.slice (some ⟨f.fr,0,none⟩) 1 f.c):=(cellD hp2 8).trans (congrArg some htv)
  have d2:w2.cell? ⟨f.fr,2,none⟩=some (.int .i64 (f.lsn:Int)):=(cellD e1' 2).trans e5
  clear AK c8 x2 hpvp
  go_upto_region 8 with fail
  obtain⟨A1,c1,hA1,-,-,r1⟩:=F2.pay.sl F.len
  have h2:PB Z w2 p B.d m R:=⟨hp2,m2,fun f' e=>by rw[hf] at e;injection e with e;subst e;exact F2,h.pg⟩
  have p5:w2.drew.cell? ⟨p,5,none⟩=some (.int .i64 (R.epoch:Int)):=cellD (w:=w2.drew) hp2 5
  have q1:w2.drew.cell? ⟨f.fr,1,none⟩=some (.slice A1 4080 c1):=by rw[← hA1];exact(cellD (w:=w2.drew) e1' 1).trans e4
  have CO:=pcount_any (w:=w2.drew) (h2.below (below_drew w2))
  obtain⟨SS,hSS,hSSl⟩:∃ SS:Nat,SS=ofS (R.epoch:Int) (R.cnt:Int)∧SS≤18446744073709551615:=⟨_,rfl,ofS_le _ _⟩
  have OF:=of_any (R.epoch:Int) (R.cnt:Int) w2.drew
  have SE:=seal_any (Z:=Z) A1 4080 c1 SS f.bytes w2.drew r1 F.len.symm (by rw[F.len];omega) (by rw[F.len];omega) hSSl D2.wet
  rw[padP_full F.len] at SE
  rw[← hSS] at OF
  have HSS:=Lib.hid hSS
  have kk:=And.intro p5 q1
  clear hSS d8 d2 p5 q1 m2
  go_region_held3 (fun w'=>w'.cell? ⟨p,5,none⟩=some (.int .i64 (R.epoch:Int))∧w'.cell? ⟨f.fr,1,none⟩=some (.slice A1 4080 c1))
    (first | with_reducible exact kk | with_reducible exact kk2 | go_keep)
    (first
      | (go_at_call 255;(with_reducible refine CO.mono ?_);rintro e w3 ⟨rfl,rfl⟩)
      | (go_at_call 58;(with_reducible refine OF.mono ?_);rintro e w3 ⟨rfl,rfl⟩)
      | (go_at_call 57;(with_reducible refine SE.mono ?_);rintro e w4 ⟨⟨g,rfl,K4,hg4⟩,b4⟩;have kk2:w4.cell? ⟨p,5,none⟩=some (.int .i64 (R.epoch:Int))∧w4.cell? ⟨f.fr,1,none⟩=some (.slice A1 4080 c1):=And.intro (cellD (keepB b4 (show w2.drew.heap[p]? = _ from hp2)) 5) ((cellD (keepB b4 (show w2.drew.heap[f.fr]? = _ from e1')) 1).trans (e4.trans (congrArg some hA1))))
      | fail)
  all_goals
    have b24:=(below_drew w2).trans b4
    have h4:=h2.below b24
    have hp4:w4.drew.heap[p]? = some (.cells (pV p B.d m R) 318 (0,0)):=h4.box
    have e4':w4.drew.heap[f.fr]? = some (.cells cur 364 (0,0)):=keepB b24 e1'
    have D4:Dk Z w4.drew n0 B.d db pv P:=(D2.below b24).below (below_drew w4)
    have K4d:Bk Z w4.drew (.slice (some ⟨g,0,none⟩) 4096 4096) (sealed f.bytes SS):=K4
    have WR:=write_any D4 (R.base+1) hb (some ⟨g,0,none⟩) 4096 _ K4d.rdg (sealed_len F.len) (by omega)
    rw[hfi.put_eq] at WR
    have f0:IntKind.i64.wrap ((R.base:Int)+1)=(R.base:Int)+1:=by rw[IntKind.wrap_i64];omega
    rw[show((R.base+1:Nat):Int)=(R.base:Int)+1 from rfl] at WR
    have t1:w4.drew.cell? ⟨p,1,none⟩=some (.pointer (some ⟨B.d,0,none⟩)):=cellD hp4 1
    have t2:w4.drew.cell? ⟨p,2,none⟩=some (.int .i64 (R.base:Int)):=cellD hp4 2
    have t3:w4.drew.cell? ⟨f.fr,0,none⟩=some (.int .i64 1):=(cellD e4' 0).trans e3
    have kt:=And.intro t1 (And.intro t2 t3)
    have KT:∀ w5,Fr n0 B.d db w4.drew w5→w5.cell? ⟨p,1,none⟩=some (.pointer (some ⟨B.d,0,none⟩))∧w5.cell? ⟨p,2,none⟩=some (.int .i64 (R.base:Int))∧w5.cell? ⟨f.fr,0,none⟩=some (.int .i64 1):=fun w5 q=>
      ⟨cellD (D4.keepT q hp4 (by decide) (by decide) (by decide)) 1,cellD (D4.keepT q hp4 (by decide) (by decide) (by decide)) 2,(cellD (D4.keepT q e4' (by decide) (by decide) (by decide)) 0).trans e3⟩
    clear kk kk2 CO OF SE K4 t1 t2 t3 F2
    go_upto_region 11 with fail
    go_region_held3 (fun w'=>w'.cell? ⟨p,1,none⟩=some (.pointer (some ⟨B.d,0,none⟩))∧w'.cell? ⟨p,2,none⟩=some (.int .i64 (R.base:Int))∧w'.cell? ⟨f.fr,0,none⟩=some (.int .i64 1))
      (first | with_reducible exact kt | with_reducible exact kt2 | go_keep)
      (first
        | (go_at_call 60;(with_reducible refine WR.mono ?_);rintro e w5 ⟨rfl,⟨pv5,D5⟩,F5⟩;have kt2:=KT w5 F5)
        | fail)
    all_goals
      have p5h:=D4.keepT F5 hp4 (by decide) (by decide) (by decide)
      have e5h:=D4.keepT F5 e4' (by decide) (by decide) (by decide)
      have s4h:w4.drew.heap[s]? = some (.cells (sV s B { S with asked:=S.asked+1 }) 125 (0,0)):=keepB b24 hs2
      have s5h:=D4.keepT F5 s4h (by decide) (by decide) (by decide)
      have y3:w5.cell? ⟨f.fr,3,none⟩=some (.bool f.dirty):=(cellD e5h 3).trans e6
      have z3:w5.frozen? ⟨f.fr,3,none⟩=false:=frozenD e5h 3
      obtain⟨W6,hW6,g6,k6,s6⟩:=set_name 3 e5h (.bool false)
      have p6h:=k6.keep p5h hpf
      have y11:W6.cell? ⟨p,11,none⟩=some (.int .i64 (R.cnt:Int)):=cellD p6h 11
      have AD:=Add_any (y:=1) y11 (frozenD p6h 11)
      rw[wrapC (show R.cnt≤4000000000 by omega)] at AD
      obtain⟨W7,hW7,g7,k7,s7⟩:=set_name 11 p6h (.int .i64 ((R.cnt:Int)+1))
      rw[hW7] at AD
      have HW7:=Lib.hid hW7
      have HS6:=Lib.hid s6
      clear hW7 s6 s7 WR kt kt2 KT f0
      go_wp2_with (go_at_call 163;(with_reducible refine AD.mono ?_);rintro e w7 ⟨rfl,rfl⟩)
      go_ret
      have F2:FB Z w2 f:=h2.fr f hf
      have nP:∀ (x:Nat) (cs:Array Value) (t:TypeId) (ww:World),ww.heap[x]? = some (.cells cs t (0,0))→t≠147→t≠33→t≠203→t≠5→∀ o,ww.heap[x]? = some o→NoD o∧(Z x∨∀ y,o≠.cells y 5 (0,0)):=by
        intro x cs t ww e h1 h2 h3 h4 o eo
        rw[e] at eo;injection eo with eo;subst eo
        exact⟨NoD.cells h1 h2 h3,.inr fun y q=>by injection q with _ q _;exact h4 q⟩
      have O4:Own w4.drew 0 f.pv f.bytes:=(F2.pay.belowS b24).belowS (below_drew w4)
      have O5:Own w5 0 f.pv f.bytes:=O4.kp F5.kp fun k q1 q2=>by
        rcases q2 with q|q|⟨-,x,q⟩
        · rw[q] at q1;exact O4.tag D4.box (by decide) q1
        · rw[q] at q1
          obtain⟨cs,hr,_⟩:=D4.row
          exact O4.tag hr (by decide) q1
        · exact O4.tag q (by decide) q1
      have O6:Own W6 0 f.pv f.bytes:=O5.kp k6 fun k q1 q2=>O5.tag e5h (by decide) (by rw[q1,q2])
      have O7:=O6.kp k7 fun k q1 q2=>O6.tag p6h (by decide) (by rw[q1,q2])
      have m5:MapI w5 m R.m:=(h4.map.below (below_drew w4)).kp F5.kp fun q2=>by
        rcases q2 with q|q|⟨-,x,q⟩
        · exact(h4.map.below (below_drew w4)).ne D4.box q
        · obtain⟨cs,hr,_⟩:=D4.row
          exact(h4.map.below (below_drew w4)).ne hr q
        · exact(h4.map.below (below_drew w4)).ne q rfl
      have m6:=m5.kp k6 (m5.ne e5h)
      have m7:=m6.kp k7 (m6.ne p6h)
      have D6:=D5.apart k6 fun k o q e=>by subst q;exact nP _ _ _ w5 e5h (by decide) (by decide) (by decide) (by decide) o e
      have D7:=D6.apart k7 fun k o q e=>by subst q;exact nP _ _ _ W6 p6h (by decide) (by decide) (by decide) (by decide) o e
      refine⟨rfl,⟨?_,?_,fun f' hf'=>?_,h.pg⟩,k7.keep (k6.keep s5h hsf) hsp,⟨pv5,by rw[← HSS.out];exact D7⟩,?_⟩
      · rw[g7]
        have:pV p B.d m { R with held:=some { f with dirty:=false },cnt:=R.cnt+1 }=(pV p B.d m R).set! 11 (.int .i64 ((R.cnt:Int)+1)):=by simp only[pV,PR.tv,hf];rfl
        rw[this]
      · have:PR.m { R with held:=some { f with dirty:=false },cnt:=R.cnt+1 }=R.m:=by simp only[PR.m,hf]
        rw[this];exact m7
      · injection hf' with hf'
        subst hf'
        refine⟨⟨_,k7.keep g6 (fun e=>hpf e.symm),by simpa using e2,by simpa using e3,by simpa using e4,by simpa using e5,?_,by simpa using e7⟩,O7,F.len,F.dry,F.c1⟩
        simp[show 3<cur.size by omega]
      · have kA:Kp (WF n0 B.d db p f.fr s w) w w2:=k2.weaken fun k e=>by
          rcases e with e|e
          · exact .inl e
          · exact .inr (.inr (.inl e))
        have kB:=kA.then (Kp.of (S:=WF n0 B.d db p f.fr s w) (b24.trans ((below_drew w4).mono b24.size)))
        have kC:=kB.trans F5.kp fun k hk e=>by
          rcases e with e|e|⟨h0,x,e⟩
          · exact .inr (.inr (.inr (.inl e)))
          · exact .inr (.inr (.inr (.inr (.inl e))))
          · refine Classical.byContradiction fun hn=>hn (.inr (.inr (.inr (.inr (.inr ⟨h0,x,?_⟩)))))
            rw[← kB.block k hk hn];exact e
        exact(kC.then (k6.weaken fun k e=>.inr (.inl e))).then (k7.weaken fun k e=>.inl e)
def PR.clean(R:PR)(c:Nat):PR:={ R with held:=R.held.map fun f=>{ f with dirty:=false },cnt:=c }
def WP (n0 d db p s:Nat)(R:PR)(w:World)(k:Nat):Prop:=k=p∨(∃ f,R.held=some f∧k=f.fr)∨k=s∨k=d∨k=db∨(n0≤k∧∃ x,w.heap[k]? = some (Obj.cells x 203 (0,0)))
structure PFl(Z:Nat→Prop)(n0 db p m s:Nat)(B:SPt)(R:PR)(S:SR)(P:PD)(w w':World):Prop where
  st:∃ c a P',PB Z w' p B.d m (R.clean c)∧c≤R.cnt+1∧SB w' s B { S with asked:=a }∧a≤S.asked+1∧Dk Z w' n0 B.d db (.slice none 0 0) P'∧P'.Fine∧P'.ws=[]∧P'.bs.length=P.bs.length∧∀ i,i≠R.base+1→P'.bs[i]? = P.vis[i]?
  kp:Kp (WP n0 B.d db p s R w) w w'
theorem clean_self{R:PR}(h:∀ f,R.held=some f→f.dirty=false):R.clean R.cnt=R:=by
  obtain⟨a,b,c,d,e,f⟩:=R
  cases f with
  | none=>rfl
  | some f =>
    have:=h f rfl
    obtain⟨x1,x2,x3,x4,x5,x6⟩:=f
    dsimp only at this
    subst this
    rfl
theorem sync_st{Z:Nat→Prop}{w:World}{p m s n0 db:Nat}{pv:Value}{R:PR}{B:SPt}{S:SR}{P:PD}(h:PB Z w p B.d m R)(hs:SB w s B S)(D:Dk Z w n0 B.d db pv P)(hfi:P.Fine)(hws:P.ws.length≤100) :
    Calls Tryz.prog 61 #[.pointer (some ⟨B.d,0,none⟩)] w fun e w'=>e=.returned (.int .i64 0)∧(PB Z w' p B.d m R∧SB w' s B S∧∃ P',Dk Z w' n0 B.d db (.slice none 0 0) P'∧P'.Fine∧P'.ws=[]∧P'.bs=P.vis)∧Fr n0 B.d db w w':=by
  have SY:=sync_any D hws
  rw[hfi.sync_eq] at SY
  refine SY.mono ?_
  rintro e w' ⟨rfl,⟨pv',D',hpv⟩,F⟩
  have hpv':=hpv rfl
  subst hpv'
  have nm:∀ {k:Nat} {mm:List (Int×Value)},MapI w k mm→¬(k=B.d∨k=db∨(n0≤k∧∃ x,w.heap[k]? = some (Obj.cells x 203 (0,0)))):=by
    rintro k mm hm (q|q|⟨-,x,q⟩)
    · exact hm.ne D.box q
    · obtain⟨cs,hr,_⟩:=D.row
      exact hm.ne hr q
    · exact hm.ne q rfl
  have no:∀ {v:Value} {l:List UInt8},Own w 0 v l→∀ k,v.ownBlock=some k→¬(k=B.d∨k=db∨(n0≤k∧∃ x,w.heap[k]? = some (Obj.cells x 203 (0,0)))):=by
    rintro v l ho k q1 (q|q|⟨-,x,q⟩)
    · rw[q] at q1;exact ho.tag D.box (by decide) q1
    · rw[q] at q1
      obtain⟨cs,hr,_⟩:=D.row
      exact ho.tag hr (by decide) q1
    · exact ho.tag q (by decide) q1
  refine⟨rfl,⟨⟨D.keepT F h.box (by decide) (by decide) (by decide),h.map.kp F.kp (nm h.map),fun f hf=>?_,h.pg⟩,D.keepT F hs (by decide) (by decide) (by decide),_,D',⟨hfi.ft,hfi.wh⟩,rfl,rfl⟩,F⟩
  have FF:=h.fr f hf
  obtain⟨cur,e1,r⟩:=FF.row
  exact⟨⟨cur,D.keepT F e1 (by decide) (by decide) (by decide),r⟩,FF.pay.kp F.kp (no FF.pay),FF.len,FF.dry,FF.c1⟩
theorem pflushC_any{Z:Nat→Prop}{w:World}{p m s n0 db:Nat}{pv:Value}{R:PR}{B:SPt}{S:SR}{P:PD}(h:PB Z w p B.d m R)(hc:∀ f,R.held=some f→f.dirty=false)(hs:SB w s B S)(D:Dk Z w n0 B.d db pv P)(hfi:P.Fine)(hws:P.ws.length≤100) :
    Calls Tryz.prog 174 #[.pointer (some ⟨p,0,none⟩)] w fun e w'=>e=.returned (.int .i64 0)∧PFl Z n0 db p m s B R S P w w':=by
  have M:=pmade_any h
  have DI:Calls Tryz.prog 238 #[.pointer (some ⟨p,0,none⟩)] w fun e w'=>(∃ A c,e=.returned (.slice A 0 c))∧Below w.heap.size w w':=by
    cases hh:R.held with
    | none=>exact(pdirty0_any h hh).mono fun e w' ⟨a,b⟩=>⟨⟨_,_,a⟩,b⟩
    | some f=>exact(pdirtyF_any h hh (hc f hh)).mono fun e w' ⟨⟨q,c,a⟩,b⟩=>⟨⟨_,_,a⟩,b⟩
  go_enter Tryz.func174,Tryz.ntmps174
  go_wp2_with (first
    | (go_at_call 237;(with_reducible refine M.mono ?_);rintro e w ⟨rfl,rfl⟩)
    | (go_at_call 238;(with_reducible refine DI.mono ?_);rintro e w2 ⟨⟨A,c,rfl⟩,b2⟩))
  have h2:=h.below b2
  have s2:SB w2 s B S:=keepB b2 hs
  have SY:=sync_st h2 s2 (D.below b2) hfi hws
  have c1:w2.cell? ⟨p,1,none⟩=some (.pointer (some ⟨B.d,0,none⟩)):=cellD h2.box 1
  go_loopw [12] (fun i wr=>i=.int .i64 0∧wr=w2) (fun i _=>1)
  case atStart=>exact⟨rfl,rfl⟩
  case round=>
    obtain⟨rfl,rfl⟩:=hrel
    go_wp2_with (go_at_call 61;(with_reducible refine SY.mono ?_);rintro e w3 ⟨rfl,⟨h3,s3,P',D3,f3,ws3,l3⟩,F3⟩)
    go_ret
    refine⟨rfl,⟨R.cnt,S.asked,P',by rw[clean_self hc];exact h3,by omega,s3,by omega,D3,f3,ws3,by rw[l3];exact PD.vis_len _,fun i _=>by rw[l3]⟩,?_⟩
    exact(Kp.of (S:=WP n0 B.d db p s R w) b2).trans F3.kp fun k hk e=>by
      rcases e with e|e|⟨h0,x,e⟩
      · exact .inr (.inr (.inr (.inl e)))
      · exact .inr (.inr (.inr (.inr (.inl e))))
      · exact .inr (.inr (.inr (.inr (.inr ⟨h0,x,by rw[← b2.block k hk];exact e⟩))))
theorem pflushD_any{Z:Nat→Prop}{w:World}{p m s n0 db:Nat}{pv:Value}{R:PR}{f:FR}{B:SPt}{S:SR}{J:JR}{P:PD}(h:PB Z w p B.d m R)(hf:R.held=some f)(hd:f.dirty=true)(hw:R.wal=.func (.func 158) #[.pointer (some ⟨s,0,none⟩)] #[])
    (hs:SB w s B S) (hj:JB w B.j B.d J) (hl:f.lsn≤J.synced) (D:Dk Z w n0 B.d db pv P) (hfi:P.Fine) (hws:P.ws.length≤90) (hb:R.base+1<P.bs.length) (hB:P.bs.length≤100000) (hc:R.cnt≤1000000) (ha:S.asked≤1000000) :
    Calls Tryz.prog 174 #[.pointer (some ⟨p,0,none⟩)] w fun e w'=>e=.returned (.int .i64 0)∧PFl Z n0 db p m s B R S P w w':=by
  have M:=pmade_any h
  have DI:=pdirtyT_any h hf hd
  have hm:∀ w',PB Z w' p B.d m R→MapI w' m [(1,.int .i64 0)]:=fun w' h=>by have:=h.map;unfold PR.m at this;rw[hf] at this;exact this
  go_enter Tryz.func174,Tryz.ntmps174
  go_wp2_with (first
    | (go_at_call 237;(with_reducible refine M.mono ?_);rintro e w ⟨rfl,rfl⟩)
    | (go_at_call 238;(with_reducible refine DI.mono ?_);rintro e w2 ⟨⟨q,c,rfl,hq,cur,hcur,hc0⟩,b2⟩))
  have h2:=h.below b2
  have s2:SB w2 s B S:=keepB b2 hs
  have j2:JB w2 B.j B.d J:=keepB b2 hj
  have WR:=pwrite_any h2 hf hw s2 j2 hl (D.below b2) hfi hws hb hB hc ha
  have L:=run_lookup_int (P:=Tryz.prog) Tryz.underlying252 Tryz.underlying3 (hm w2 h2) 1 (zero3 w2)
  have L2:(Instr.lookup 252 (.map (some m)) (.int .i64 1) false).run Tryz.prog w2=.ok (.int .i64 0) w2:=L
  clear L
  have c9:w2.cell? ⟨p,9,none⟩=some (.map (some m)):=cellD h2.box 9
  have q0:w2.cell? ⟨q,0,none⟩=some (.int .i64 1):=(cellD hcur 0).trans hc0
  go_loopw [12] (fun i wr=>(i=.int .i64 0∧wr=w2)∨(i=.int .i64 1∧PB Z wr p B.d m { R with held:=some { f with dirty:=false },cnt:=R.cnt+1 }∧SB wr s B { S with asked:=S.asked+1 } ∧
      (∃ pv',Dk Z wr n0 B.d db pv' { P with ws:=P.ws++[(R.base+1,sealed f.bytes (ofS (R.epoch:Int) (R.cnt:Int)))] })∧Kp (WF n0 B.d db p f.fr s w2) w2 wr)) (fun i _=>2-(RowKit.intOf i).toNat)
  case atStart=>exact .inl ⟨rfl,rfl⟩
  case round=>
    rcases hrel with⟨rfl,rfl⟩|⟨rfl,h3,s3,⟨pv3,D3⟩,k3⟩
    · go_wp2_with (go_at_call 239;(with_reducible refine WR.mono ?_);rintro e w3 ⟨rfl,h3,s3,D3,k3⟩)
      go_roundw
      case rel=>exact .inr ⟨rfl,h3,s3,D3,k3⟩
      case measure=>decide
    · have hws3:({ P with ws:=P.ws++[(R.base+1,sealed f.bytes (ofS (R.epoch:Int) (R.cnt:Int)))] }:PD).ws.length≤100:=by simp;omega
      have SY:=sync_st h3 s3 D3 ⟨hfi.ft,hfi.wh⟩ hws3
      have c1:wr.cell? ⟨p,1,none⟩=some (.pointer (some ⟨B.d,0,none⟩)):=cellD h3.box 1
      clear WR hws3
      go_wp2_with (go_at_call 61;(with_reducible refine SY.mono ?_);rintro e w4 ⟨rfl,⟨h4,s4,P',D4,f4,ws4,l4⟩,F4⟩)
      go_ret
      have hcl:({ R with held:=some { f with dirty:=false },cnt:=R.cnt+1 }:PR)=R.clean (R.cnt+1):=by unfold PR.clean;rw[hf];rfl
      refine⟨rfl,⟨R.cnt+1,S.asked+1,P',by rw[← hcl];exact h4,by omega,s4,by omega,D4,f4,ws4,by rw[l4];exact PD.vis_len _,fun i hi=>by rw[l4,PD.put_vis,List.getElem?_set_ne (fun e=>hi e.symm)]⟩,?_⟩
      have kA:Kp (WP n0 B.d db p s R w) w wr:=(Kp.of (S:=WP n0 B.d db p s R w) b2).trans k3 fun k hk e=>by
        rcases e with e|e|e|e|e|⟨h0,x,e⟩
        · exact .inl e
        · exact .inr (.inl ⟨f,hf,e⟩)
        · exact .inr (.inr (.inl e))
        · exact .inr (.inr (.inr (.inl e)))
        · exact .inr (.inr (.inr (.inr (.inl e))))
        · exact .inr (.inr (.inr (.inr (.inr ⟨h0,x,by rw[← b2.block k hk];exact e⟩))))
      exact kA.trans F4.kp fun k hk e=>by
        rcases e with e|e|⟨h0,x,e⟩
        · exact .inr (.inr (.inr (.inl e)))
        · exact .inr (.inr (.inr (.inr (.inl e))))
        · refine Classical.byContradiction fun hn=>hn (.inr (.inr (.inr (.inr (.inr ⟨h0,x,?_⟩)))))
          rw[← kA.block k hk hn];exact e
def Zj (J:JR):Nat→Prop:=fun g=>J.wv.ownBlock=some g
def WD (J:JR)(f:FR)(j im x:Nat):Nat→Prop:=fun k=>k=f.fr∨k=j∨J.wv.ownBlock=some k∨k=im∨k=x
section
variable {w:World}{n0 p d m a j im x s:Nat}{R:PR}{J:JR}
theorem RdCh.one{w:World}{B g:Nat}{ch:CH}(h:RdCh w B (some ⟨g,0,none⟩) [ch]):g<B∧w.cell? ⟨g,0,none⟩=some (.int .i64 (ch.pg:Int))∧w.cell? ⟨g,1,none⟩=some (.slice ch.ia ch.il ch.ic)∧w.cell? ⟨g,2,none⟩=some (.slice ch.pa ch.pn ch.pc):=by
  obtain⟨b,o,e,hb,hc⟩:=h (by simp)
  injection e with e
  injection e with e1 e2
  subst e1 e2
  have:=hc 0 (by simp)
  simp only[Nat.zero_mul,Nat.zero_add,List.getElem_cons_zero] at this
  exact⟨hb,this.1,this.2.1,this.2.2.1⟩
end
theorem anew_any{Z:Nat→Prop}{w:World}{p d m j:Nat}{R:PR}{J:JR}(h:PB Z w p d m R)(hj:JB w j d J)(hc:1≤J.count) :
    Calls Tryz.prog 159 #[.pointer (some ⟨p,0,none⟩),.pointer (some ⟨j,0,none⟩)] w fun e w'=>(∃ a im,e=.returned (.tuple #[.pointer (some ⟨a,0,none⟩),.int .i64 0])∧AB w' a p j im false∧w.heap.size≤a∧w.heap.size≤im)∧Below w.heap.size w w':=by
  have AT:=jat_any hj
  have PG:=fun w' (b:Below w.heap.size w w')=>ppages_any (h.below b)
  have hp:=h.pg
  have f1:((R.pages:Int)==0)=false:=by simp;omega
  have f2:((J.count:Int)==0)=false:=by simp;omega
  have f3:(R.pages==0)=false:=by simp;omega
  have f4:(J.count==0)=false:=by simp;omega
  have f5:¬(R.pages=0):=by omega
  have f6:¬(J.count=0):=by omega
  have hmm:=@run_makeMap Tryz.prog
  have HP:=Lib.hid hp
  have HC:=Lib.hid hc
  clear hp hc
  go_enter Tryz.func159,Tryz.ntmps159
  go_upto_region 4 with (first
    | (go_at_call 175;(with_reducible refine AT.mono ?_);rintro e w1 ⟨rfl,b1⟩;have PG1:=PG w1 b1)
    | (go_at_call 231;(with_reducible refine PG1.mono ?_);rintro e w1 ⟨rfl,rfl⟩))
  obtain⟨W1,hW1,g1,b2,s1⟩:=box_alloc w1 (.map #[] 0)
  have m1:MapI W1 w1.heap.size []:=by rw[← hW1];exact⟨#[],0,heap_alloc_new _ _,rfl,MapKept.stamped_empty 0⟩
  obtain⟨W2,hW2,g2,b3,s2⟩:=box_alloc W1 (.cells #[.pointer none,.pointer (some ⟨p,0,none⟩),.pointer (some ⟨j,0,none⟩),.map (some w1.heap.size),.bool false] 251)
  have c0:W2.cell? ⟨W1.heap.size,0,none⟩=some (.pointer none):=cellD g2 0
  have z0:W2.frozen? ⟨W1.heap.size,0,none⟩=false:=frozenD g2 0
  obtain⟨W3,hW3,g3,k3,s3⟩:=set_name 0 g2 (.pointer (some ⟨W1.heap.size,0,none⟩))
  have HS1:=Lib.hid s1
  have HS2:=Lib.hid s2
  clear s1 s2 s3
  go_wp2
  go_ret2
  have z1:=b1.size
  have z2:=b2.size
  exact⟨⟨_,_,rfl,⟨g3,((m1.below b3).kp k3 ((m1.below b3).ne g2))⟩,Nat.le_trans z1 z2,z1⟩,b1.trans (((b2.trans (b3.mono z2)).mono z1).trans (k3.below (Nat.le_trans z1 (Nat.le_trans z2 b3.size)) fun k hk e=>by omega))⟩
end Go.Proofs.YtdbkocfbhpgpkaaGreat
