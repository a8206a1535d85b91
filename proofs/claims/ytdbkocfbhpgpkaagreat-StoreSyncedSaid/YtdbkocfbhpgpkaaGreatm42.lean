/-
  store.Checkpoint.
-/
import Derived.Test.YtdbkocfbhpgpkaaGreatm31
import Derived.Test.YtdbkocfbhpgpkaaGreatm09
import Derived.Test.YtdbkocfbhpgpkaaGreatm10
import Derived.Test.YtdbkocfbhpgpkaaGreatm41
set_option linter.unusedVariables false
set_option linter.unusedSimpArgs false
namespace Go.Proofs.YtdbkocfbhpgpkaaGreat
open Go Go.RowKit
set_option maxRecDepth 100000
set_option maxHeartbeats 1600000
variable {Z:Nat→Prop}
theorem tmod_nat(a b c:Nat):((a:Int)+(b:Int)).tmod (c:Int)=(((a+b) % c:Nat):Int):=by
  rw[Int.tmod_eq_emod_of_nonneg (by omega),Int.natCast_emod,Int.natCast_add]
theorem div_rem(x:Int)(b m:Nat)(hb:0<b)(h:x.tmod (b:Int)=(m:Int))(w:World):(Op.intDiv .rem .i64 x (b:Int)).run Tryz.prog w=.ok (.int .i64 (m:Int)) w:=by
  unfold Op.intDiv
  rw[if_neg (by omega),h]
  rfl
def JR.flushed(J:JR)(m:Nat):JR:={ J with pos:=(J.pos+m) % J.blocks,count:=J.count+m,used:=J.used+m,wv:=.slice none 0 0,waits:=[],synced:=J.last }
theorem jflush_any{w:World}{n0 d db j g n c:Nat}{pv:Value}{P:PD}{J:JR}{l:List UInt8}(h:Dk Z w n0 d db pv P)(hf:P.Fine)(hws:P.ws=[])(hj:JB w j d J)
    (hv:J.wv=.slice (some ⟨g,0,none⟩) n c) (hS:Sl w g n c l) (hn0:0<n) (hn:n≤200000) (h1:J.first+J.blocks≤P.bs.length) (h2:P.bs.length≤100000) (h3:J.pos≤90000) (h5:J.count≤4000000000) (h6:0<J.blocks) (h7:J.used≤90000) :
    Calls Tryz.prog 76 #[.pointer (some ⟨j,0,none⟩)] w fun e w'=>e=.returned (.int .i64 0) ∧
      (∃ pv' P',Dk Z w' n0 d db pv' P'∧P'.Fine∧P'.ws=[]∧P'.bs.length=P.bs.length∧Off J.first (J.first+J.blocks) P.vis P'.vis)∧JB w' j d (J.flushed (need n))∧∃ w1,Fr n0 d db w w1∧Kp (·=j) w1 w':=by
  have hneed:=need_le hn
  have M:=jstands_any hj
  have c0:w.cell? ⟨j,0,none⟩=some (.pointer (some ⟨d,0,none⟩)):=hj.cell 0
  have c5:w.cell? ⟨j,5,none⟩=some (.int .i64 (J.pos:Int)):=hj.cell 5
  have c6:w.cell? ⟨j,6,none⟩=some (.int .i64 (J.count:Int)):=hj.cell 6
  have c8:w.cell? ⟨j,8,none⟩=some (.slice (some ⟨g,0,none⟩) n c):=by rw[← hv];exact hj.cell 8
  have N:=fun w=>needs_any n (by omega) w
  have hRB:∀ w',w'.heap[j]? = w.heap[j]?→RB w' j ⟨d,J.first,J.blocks,J.epoch⟩:=fun w' e=>by
    have hj':JB w' j d J:=e.trans hj
    exact⟨hj'.cell 0,hj'.cell 1,hj'.cell 2,hj'.cell 3⟩
  have hne:¬n=0:=by omega
  go_enter Tryz.func76,Tryz.ntmps76
  go_wp2_with (go_at_call 171;with_reducible refine M.mono ?_;rintro e w ⟨rfl,rfl⟩)
  have DD:Below w.heap.size w w.drew:=⟨rfl,rfl,rfl,Nat.le_refl _,fun _ _=>rfl⟩
  have RW:=rwrite_any (w:=w.drew) (R:=⟨d,J.first,J.blocks,J.epoch⟩) (j:=j) (s:=J.pos) (q:=J.count) (h.below DD) hf hws hj (fun w' e=>hRB w' e) rfl (hS.same rfl) hn h1 h2 h3 h5 h6
  have HD:=h.below DD
  have hjD:w.drew.heap[j]? = some (.cells (jV j d J) 232 (0,0)):=hj
  have k:=And.intro c5 (And.intro c6 c8)
  have AJ:∀ w2,Fr n0 d db w.drew w2→JB w2 j d J:=fun w2 F2=>HD.keepT F2 hjD (by decide) (by decide) (by decide)
  have AK:∀ w2,JB w2 j d J→w2.cell? ⟨j,5,none⟩=some (.int .i64 (J.pos:Int))∧w2.cell? ⟨j,6,none⟩=some (.int .i64 (J.count:Int))∧w2.cell? ⟨j,8,none⟩=some (.slice (some ⟨g,0,none⟩) n c):=fun w2 j2=>⟨j2.cell 5,j2.cell 6,(j2.cell 8).trans (by rw[← hv];rfl)⟩
  obtain⟨PP,hPP⟩:∃ PP:World→Prop,PP=fun w'=>(∃ pv' P',Dk Z w' n0 d db pv' P'∧P'.Fine∧P'.ws=[]∧P'.bs.length=P.bs.length∧Off J.first (J.first+J.blocks) P.vis P'.vis)∧JB w' j d J∧Fr n0 d db w w':=⟨_,rfl⟩
  have HPP:=Lib.hid hPP
  have DW:Fr n0 d db w w.drew:=Fr.below DD
  clear hPP
  go_cut [4] from 6 (fun s4 w'=>s4=.int .i64 0∧PP w')
  case first=>
    go_region_held3 (fun w'=>w'.cell? ⟨j,5,none⟩=some (.int .i64 (J.pos:Int))∧w'.cell? ⟨j,6,none⟩=some (.int .i64 (J.count:Int))∧w'.cell? ⟨j,8,none⟩=some (.slice (some ⟨g,0,none⟩) n c))
      (first | with_reducible exact k | with_reducible exact k2 | go_keep)
      (first
        | (go_at_call 172;with_reducible refine RW.mono ?_;rintro e w2 ⟨rfl,X2,F2⟩;have j2:=AJ w2 F2;have k2:=AK w2 j2)
        | fail)
    all_goals
      go_wp2
      go_meet
      exact⟨rfl,by rw[HPP.out];exact⟨X2,j2,DW.then F2⟩⟩
  case rest=>
    obtain⟨rfl,hp⟩:=hcut
    rw[HPP.out] at hp
    obtain⟨X2,j2,F2⟩:=hp
    clear RW HD hjD k c0 c5 c6 c8 M hRB AJ AK HPP DW DD hj h hS
    have c8':wc.cell? ⟨j,8,none⟩=some (.slice (some ⟨g,0,none⟩) n c):=(j2.cell 8).trans (congrArg some hv)
    obtain⟨nd,hnd⟩:∃ nd,nd=need n:=⟨_,rfl⟩
    rw[← hnd] at N
    have hnd50:nd≤50:=by omega
    have HND:=Lib.hid hnd
    clear hnd hneed
    have hi:¬J.blocks=0:=by omega
    have hr:=tmod_nat J.pos nd J.blocks
    obtain⟨m,hm,hml⟩:∃ m:Nat,m=(J.pos+nd) % J.blocks∧m<J.blocks:=⟨_,rfl,Nat.mod_lt _ h6⟩
    rw[← hm] at hr
    have hw1:wrap64 ((J.pos:Int)+(nd:Int))=(J.pos:Int)+(nd:Int):=IntWalk.wrap64_in _ (by omega)
    have hw2:wrap64 ((J.count:Int)+(nd:Int))=(J.count:Int)+(nd:Int):=IntWalk.wrap64_in _ (by omega)
    have hw3:wrap64 ((J.used:Int)+(nd:Int))=(J.used:Int)+(nd:Int):=IntWalk.wrap64_in _ (by omega)
    have hdv:=fun w=>div_rem _ J.blocks m h6 hr w
    have HM:=Lib.hid hm
    clear hm
    go_upto_region 11 with (go_at_call 173;with_reducible refine(N _).mono ?_;rintro e w2 ⟨rfl,rfl⟩)
    obtain⟨W3,hW3,e3,b3⟩:=drew_name w2
    have j3:JB W3 j d J:=(b3.block _ j2.lt).trans j2
    have c2:W3.cell? ⟨j,2,none⟩=some (.int .i64 (J.blocks:Int)):=j3.cell 2
    have c5:W3.cell? ⟨j,5,none⟩=some (.int .i64 (J.pos:Int)):=j3.cell 5
    have z5:W3.frozen? ⟨j,5,none⟩=false:=j3.frozen 5
    obtain⟨W4,hW4,g4,k4,s4⟩:=set_name 5 j3 (.int .i64 (m:Int))
    have d6:W4.cell? ⟨j,6,none⟩=some (.int .i64 (J.count:Int)):=cellD g4 6
    have y6:W4.frozen? ⟨j,6,none⟩=false:=frozenD g4 6
    obtain⟨W5,hW5,g5,k5,s5⟩:=set_name 6 g4 (.int .i64 ((J.count:Int)+(nd:Int)))
    have d7:W5.cell? ⟨j,7,none⟩=some (.int .i64 (J.used:Int)):=cellD g5 7
    have y7:W5.frozen? ⟨j,7,none⟩=false:=frozenD g5 7
    obtain⟨W6,hW6,g6,k6,s6⟩:=set_name 7 g5 (.int .i64 ((J.used:Int)+(nd:Int)))
    have d8:W6.cell? ⟨j,8,none⟩=some (.slice (some ⟨g,0,none⟩) n c):=(cellD g6 8).trans (congrArg some hv)
    have y8:W6.frozen? ⟨j,8,none⟩=false:=frozenD g6 8
    obtain⟨W7,hW7,g7,k7,s7⟩:=set_name 8 g6 (.slice none 0 0)
    have d9:W7.cell? ⟨j,9,none⟩=some (.int .i64 (J.last:Int)):=cellD g7 9
    have d10:W7.cell? ⟨j,10,none⟩=some (.int .i64 (J.synced:Int)):=cellD g7 10
    have y10:W7.frozen? ⟨j,10,none⟩=false:=frozenD g7 10
    obtain⟨W8,hW8,g8,k8,s8⟩:=set_name 10 g7 (.int .i64 (J.last:Int))
    have K8:Kp (·=j) W3 W8:=((((k4.then k5).then k6).then k7).then k8)
    have J8:JB W8 j d (J.flushed nd):=by
      unfold JB;rw[g8];unfold JR.flushed;simp only[HM.out];rfl
    have HJ8:=Lib.hid J8
    clear g4 g5 g6 g7 g8 k4 k5 k6 k7 k8 s4 s5 s6 s7 s8 e3 J8
    refine stillW 14 (by kernel_rfl) (by kernel_rfl) W3 hW3 ?_
    simp only[List.take_succ_cons,List.take_zero,List.drop_succ_cons,List.drop_zero]
    repeat still_step
    refine wpStill_nil ?_
    go_wp2
    go_ret
    obtain⟨pv',P',D2,f2,w2',b2,o2⟩:=X2
    have D3:=D2.below b3
    have j3':JB W3 j d J:=(b3.block _ j2.lt).trans j2
    refine⟨rfl,⟨pv',P',D3.apart K8 fun k o e1 e2=>?_,f2,w2',b2,o2⟩,HND.out▸HJ8.out,W3,F2.then (Fr.below b3),K8⟩
    subst e1
    rw[j3'] at e2
    injection e2 with e2
    subst e2
    exact⟨NoD.cells (by decide) (by decide) (by decide),.inr fun x e=>by injection e with _ e _;exact absurd e (by decide)⟩
theorem jfree_any{w:World}{j d c:Nat}{A:Option Addr}{J:JR}(h:JB w j d J)(hw:J.wv=.slice A 0 c):Calls Tryz.prog 78 #[.pointer (some ⟨j,0,none⟩)] w fun e w'=>e=.returned (.int .i64 0)∧JB w' j d { J with used:=0 }∧Kp (·=j) w w':=by
  have c8:w.cell? ⟨j,8,none⟩=some (.slice A 0 c):=by rw[← hw];exact h.cell 8
  have c7:w.cell? ⟨j,7,none⟩=some _:=h.cell 7
  have z7:w.frozen? ⟨j,7,none⟩=false:=h.frozen 7
  have M:=jstands_any h
  obtain⟨W1,hW1,g1,k1,s1⟩:=set_name 7 h (.int .i64 0)
  clear s1
  go_enter Tryz.func78,Tryz.ntmps78
  go_wp2_with (go_at_call 171;with_reducible refine M.mono ?_;rintro e w ⟨rfl,rfl⟩)
  go_ret
  refine⟨rfl,?_,k1⟩
  unfold JB;rw[g1];rfl
end Go.Proofs.YtdbkocfbhpgpkaaGreat
namespace Go.Proofs.YtdbkocfbhpgpkaaGreat
open Go Go.RowKit Go.Shelf
set_option maxRecDepth 100000
set_option maxHeartbeats 4000000
structure Hard(t:TypeId):Prop where
  t1:t≠251
  t2:t≠235
  t3:t≠3
section
variable {X:ST}{D:SD}{w w':World}
theorem StW.core{Sx:Nat→Prop}{S':SR}{J':JR}{R':PR}{P':PD}{pv':Value}(h:StW X D w)(k:Kp Sx w w')(hS:∀ g,Sx g→g<w.heap.size→∃ cs t,w.heap[g]? = some (.cells cs t (0,0))∧Hard t)
    (sb:SB w' X.s X.B S') (jb:JB w' X.B.j X.B.d J') (jo:Own w' X.n0 J'.wv J'.waits) (pb:PB (Zj J') w' X.B.p X.B.d X.m R') (dk:Dk (Zj J') w' X.n0 X.B.d X.db pv' P'):StW X { D with S:=S',J:=J',R:=R',P:=P',pv:=pv' } w':=by
  have nm:∀ {g:Nat} {m:List (Int×Value)},MapI w g m→¬Sx g:=fun {g m} e q=>by
    obtain⟨cs,t,hg,-⟩:=hS g q e.lt
    exact e.ne hg rfl
  refine⟨sb,jb,jo,pb,h.ab.kp k (fun q=>?_) (nm h.ab.map),dk,k.keep h.tb (fun q=>?_),h.tw,h.tm.kp k (nm h.tm),h.tr.kp k (fun g e q=>?_),h.wk.kp k (nm h.wk),h.d1,h.d2,h.d3,h.d4,h.d5,h.d6⟩
  · obtain⟨cs,t,hg,ht⟩:=hS _ q (hlt h.ab.box)
    exact tag_ne h.ab.box hg (fun e=>ht.t1 e.symm) rfl
  · obtain⟨cs,t,hg,ht⟩:=hS _ q (hlt h.tb)
    exact tag_ne h.tb hg (fun e=>ht.t2 e.symm) rfl
  · obtain⟨cs,t,hg,ht⟩:=hS _ q (h.tr.lt e).1
    exact h.tr.ne hg ht.t3 e
def DF (X:ST)(w:World)(k:Nat):Prop:=k=X.B.j∨k=X.B.d∨k=X.db∨(X.n0≤k∧∃ x,w.heap[k]? = some (Obj.cells x 203 (0,0)))
theorem StW.dfT(h:StW X D w):∀ g,DF X w g→g<w.heap.size→∃ cs t,w.heap[g]? = some (.cells cs t (0,0))∧(t=232∨t=147∨t=33∨t=203):=fun g e _=>by
  rcases e with e|e|e|⟨-,x,e⟩
  · exact⟨_,_,by rw[e];exact h.jb,.inl rfl⟩
  · exact⟨_,_,by rw[e];exact h.dk.box,.inr (.inl rfl)⟩
  · obtain⟨cs,hc,-⟩:=h.dk.row
    exact⟨_,_,by rw[e];exact hc,.inr (.inr (.inl rfl))⟩
  · exact⟨_,_,e,.inr (.inr (.inr rfl))⟩
theorem df_hi(hx:Hi X){k:Nat}(e:DF X w k):X.n0≤k:=by
  rcases e with e|e|e|⟨e,-⟩
  · rw[e];exact hx.j
  · rw[e];exact hx.d
  · rw[e];exact hx.db
  · exact e
structure FlD(D D':SD):Prop where
  ex:∃ pv' P',D'={ D with J:=D.J.flushed (need D.J.waits.length),pv:=pv',P:=P' }∧P'.Fine∧P'.ws=[]∧P'.bs.length=D.P.bs.length
structure DiskOk(D:SD):Prop where
  fine:D.P.Fine
  ws:D.P.ws=[]
  first:D.J.first+D.J.blocks≤D.P.bs.length
  len:D.P.bs.length≤10000
  pos:D.J.pos≤90000
  cnt:D.J.count≤4000000000
  bl:0<D.J.blocks
  used:D.J.used≤90000
  wl:D.J.waits.length≤200000
  w0:0<D.J.waits.length
theorem lflush_st(h:StW X D w)(ok:DiskOk D):Calls Tryz.prog 76 #[.pointer (some ⟨X.B.j,0,none⟩)] w fun e w'=>e=.returned (.int .i64 0)∧(∃ D',FlD D D'∧StW X D' w')∧Kp (DF X w) w w':=by
  rcases h.jo.form with⟨-,e⟩|⟨g,c,hv,-,-,-,-,-⟩
  · have:=ok.w0;rw[e] at this;exact absurd this (by decide)
  have jo:Own w X.n0 (.slice (some ⟨g,0,none⟩) D.J.waits.length c) D.J.waits:=hv▸h.jo
  refine(jflush_any h.dk ok.fine ok.ws h.jb hv (jo.toSl rfl) ok.w0 ok.wl ok.first (Nat.le_trans ok.len (by decide)) ok.pos ok.cnt ok.bl ok.used).mono ?_
  rintro e w' ⟨rfl,⟨pv',P',dk,hf,hws,hlen,-⟩,jb,w1,F,kj⟩
  have k:Kp (DF X w) w w':=by
    refine(F.kp.weaken (T:=DF X w) fun g e=>?_).trans kj fun g hg e=>.inl e
    rcases e with e|e|e
    · exact .inr (.inl e)
    · exact .inr (.inr (.inl e))
    · exact .inr (.inr (.inr e))
  have nz:∀ g,¬Zj (D.J.flushed (need D.J.waits.length)) g:=fun g e=>by cases (show(Value.slice none 0 0).ownBlock=some g from e)
  have sg:=h.dfT
  have neg:∀ {g:Nat} {y:Array Value} {u:TypeId} {z:Nat×Nat},w.heap[g]? = some (.cells y u z)→u≠232→u≠147→u≠33→u≠203→¬DF X w g:=fun {g y u z} e h1 h2 h3 h4 q=>by
    obtain⟨cs,t,hg,ht⟩:=sg g q (hlt e)
    refine tag_ne e hg (fun e=>?_) rfl
    subst e
    rcases ht with e|e|e|e
    · exact h1 e
    · exact h2 e
    · exact h3 e
    · exact h4 e
  have hard:∀ g,DF X w g→g<w.heap.size→∃ cs t,w.heap[g]? = some (.cells cs t (0,0))∧Hard t:=fun g q hg=>by
    obtain⟨cs,t,e,ht⟩:=sg g q hg
    refine⟨cs,t,e,?_⟩
    rcases ht with rfl|rfl|rfl|rfl<;>exact⟨by decide,by decide,by decide⟩
  refine⟨rfl,⟨_,⟨pv',P',rfl,hf,hws,hlen⟩,h.core k hard (k.keep h.sb (neg h.sb (by decide) (by decide) (by decide) (by decide))) jb (Own.nil _ _) ?_ ?_⟩,k⟩
  · refine h.pb.kp k (neg h.pb.box (by decide) (by decide) (by decide) (by decide)) (fun q=>?_) (fun f hf=>?_) (fun g _ e=>absurd e (nz g))
    · obtain⟨cs,t,hg,-⟩:=sg _ q h.pb.map.lt
      exact h.pb.map.ne hg rfl
    · obtain⟨cur,e,-⟩:=(h.pb.fr f hf).row
      refine⟨neg e (by decide) (by decide) (by decide) (by decide),fun g e1 q=>?_⟩
      obtain⟨cs,t,hg,ht⟩:=sg g q ((h.pb.fr f hf).pay.lt g e1)
      exact(h.pb.fr f hf).pay.tag hg (by rcases ht with rfl | rfl | rfl | rfl<;>decide) e1
  · exact dk.other (Kp.refl (fun _=>False) w') (fun g o e=>e.elim) (fun g _ e=>absurd e (nz g)) (fun g e=>absurd e (nz g))
theorem sflush_st(h:StW X D w)(hx:Hi X)(ok:DiskOk D):Calls Tryz.prog 19 #[.pointer (some ⟨X.s,0,none⟩)] w fun e w'=>e=.returned (.int .i64 0)∧(∃ D',FlD D D'∧StW X D' w')∧Below X.n0 w w':=by
  have WH:=whole_st h
  have LF:=fun w1 (b1:Below w.heap.size w w1)=>lflush_st (h.below b1) ok
  have c10:∀ w',Below w.heap.size w w'→w'.cell? ⟨X.s,10,none⟩=some (.pointer (some ⟨X.B.j,0,none⟩)):=fun w' b=>cellD (h.below b).sb 10
  have HL:=Lib.hid LF
  have HC:=Lib.hid c10
  have HH:=Lib.hid h
  clear LF c10 h
  go_enter Tryz.func19,Tryz.ntmps19
  go_wp2_with (first
    | (go_at_call 65;(with_reducible refine WH.mono ?_);rintro e w1 ⟨rfl,b1⟩;have L1:=HL.out w1 b1;have x10:=HC.out w1 b1)
    | (go_at_call 76;(with_reducible refine L1.mono ?_);rintro e w2 ⟨rfl,hD,k2⟩))
  go_ret
  have hn0:=HH.out.dk.base
  exact⟨rfl,hD,(b1.mono hn0).trans (k2.below (Nat.le_trans hn0 b1.size) fun g hg e=>by have:=df_hi hx e;omega)⟩
end
section
variable {X:ST}{D:SD}{w w':World}
def WPX (X:ST)(D:SD)(w:World)(k:Nat):Prop:=WP X.n0 X.B.d X.db X.B.p X.s D.R w k
theorem StW.wpT(h:StW X D w):∀ g,WPX X D w g→g<w.heap.size→∃ cs t,w.heap[g]? = some (.cells cs t (0,0))∧(t=318∨t=364∨t=125∨t=147∨t=33∨t=203):=fun g e _=>by
  rcases e with e|⟨f,hf,e⟩|e|e|e|⟨-,x,e⟩
  · exact⟨_,_,by rw[e];exact h.pb.box,.inl rfl⟩
  · obtain⟨cur,hc,-⟩:=(h.pb.fr f hf).row
    exact⟨_,_,by rw[e];exact hc,.inr (.inl rfl)⟩
  · exact⟨_,_,by rw[e];exact h.sb,.inr (.inr (.inl rfl))⟩
  · exact⟨_,_,by rw[e];exact h.dk.box,.inr (.inr (.inr (.inl rfl)))⟩
  · obtain⟨cs,hc,-⟩:=h.dk.row
    exact⟨_,_,by rw[e];exact hc,.inr (.inr (.inr (.inr (.inl rfl))))⟩
  · exact⟨_,_,e,.inr (.inr (.inr (.inr (.inr rfl))))⟩
theorem wp_hi(hx:Hi X)(hf:HiF X D){k:Nat}(e:WPX X D w k):X.n0≤k:=by
  rcases e with e|⟨f,h,e⟩|e|e|e|⟨e,-⟩
  · rw[e];exact hx.p
  · rw[e];exact hf f h
  · rw[e];exact hx.s
  · rw[e];exact hx.d
  · rw[e];exact hx.db
  · exact e
structure PlD(D D':SD):Prop where
  ex:∃ c a pv' P',D'={ D with S:={ D.S with asked:=a },R:=D.R.clean c,pv:=pv',P:=P' }∧c≤D.R.cnt+1∧a≤D.S.asked+1∧P'.Fine∧P'.ws=[]∧P'.bs.length=D.P.bs.length
theorem plflush_st{f:FR}(h:StW X D w)(hf:D.R.held=some f)(hd:f.dirty=true)(hw:D.R.wal=.func (.func 158) #[.pointer (some ⟨X.s,0,none⟩)] #[])(hl:f.lsn≤D.J.synced)(hfi:D.P.Fine)(hws:D.P.ws=[])(hb:D.R.base+1<D.P.bs.length)(hB:D.P.bs.length≤10000)(hc:D.R.cnt≤1000000)(ha:D.S.asked≤1000000) :
    Calls Tryz.prog 174 #[.pointer (some ⟨X.B.p,0,none⟩)] w fun e w'=>e=.returned (.int .i64 0)∧(∃ D',PlD D D'∧StW X D' w')∧Kp (WPX X D w) w w':=by
  refine(pflushD_any h.pb hf hd hw h.sb h.jb hl h.dk hfi (by rw[hws];exact Nat.zero_le _) hb (Nat.le_trans hB (by decide)) hc ha).mono ?_
  rintro e w' ⟨rfl,⟨c,a,P',pb,hc',sb,ha',dk,hf',hws',hlen⟩,k⟩
  have sg:=h.wpT
  have neg:∀ {g:Nat} {y:Array Value} {u:TypeId} {z:Nat×Nat},w.heap[g]? = some (.cells y u z)→u≠318→u≠364→u≠125→u≠147→u≠33→u≠203→¬WPX X D w g:=fun {g y u z} e h1 h2 h3 h4 h5 h6 q=>by
    obtain⟨cs,t,hg,ht⟩:=sg g q (hlt e)
    refine tag_ne e hg (fun e=>?_) rfl
    subst e
    rcases ht with e|e|e|e|e|e
    · exact h1 e
    · exact h2 e
    · exact h3 e
    · exact h4 e
    · exact h5 e
    · exact h6 e
  have hard:∀ g,WPX X D w g→g<w.heap.size→∃ cs t,w.heap[g]? = some (.cells cs t (0,0))∧Hard t:=fun g q hg=>by
    obtain⟨cs,t,e,ht⟩:=sg g q hg
    refine⟨cs,t,e,?_⟩
    rcases ht with rfl|rfl|rfl|rfl|rfl|rfl<;>exact⟨by decide,by decide,by decide⟩
  refine⟨rfl,⟨_,⟨c,a,_,P',rfl,hc',ha',hf',hws',hlen⟩,h.core k hard sb (k.keep h.jb (neg h.jb (by decide) (by decide) (by decide) (by decide) (by decide) (by decide))) (h.jo.kp k fun g e q=>?_) pb dk⟩,k⟩
  obtain⟨cs,t,hg,ht⟩:=sg g q (h.jo.lt g e)
  exact h.jo.tag hg (by rcases ht with rfl | rfl | rfl | rfl | rfl | rfl<;>decide) e
end
structure PageOkD(X:ST)(D:SD)(f:FR):Prop where
  held:D.R.held=some f
  dirty:f.dirty=true
  wal:D.R.wal=.func (.func 158) #[.pointer (some ⟨X.s,0,none⟩)] #[]
  lsn:f.lsn≤D.J.last
  base:D.R.base+1<D.P.bs.length
  cnt:D.R.cnt≤900000
  asked:D.S.asked≤900000
structure HeadOkD(D:SD):Prop where
  log:D.S.log=60
  ep:D.S.epoch=1
  bl:D.J.blocks=60
  c1:1≤D.J.count
  c2:D.J.count≤1000000
  n1:1≤D.T.next
  n2:D.T.next≤1000000
  gen:D.S.gen≤1000000
  len:2≤D.P.bs.length
  ov:D.ov=[]
section
variable {X:ST}{D:SD}{w w':World}
structure FpD(D D':SD):Prop where
  ex:∃ c a pv' P',D'={ D with J:=D.J.flushed (need D.J.waits.length),S:={ D.S with asked:=a },R:=D.R.clean c,pv:=pv',P:=P' }∧c≤D.R.cnt+1∧a≤D.S.asked+1∧P'.Fine∧P'.ws=[]∧P'.bs.length=D.P.bs.length
theorem StW.fr{P':PD}{pv':Value}(h:StW X D w)(F:Fr X.n0 X.B.d X.db w w')(dk:Dk (Zj D.J) w' X.n0 X.B.d X.db pv' P'):StW X { D with P:=P',pv:=pv' } w':=by
  have hT:∀ g,(g=X.B.d∨g=X.db∨(X.n0≤g∧∃ x,w.heap[g]? = some (Obj.cells x 203 (0,0))))→g<w.heap.size→∃ cs t,w.heap[g]? = some (.cells cs t (0,0))∧(t=147∨t=33∨t=203):=fun g e hg=>by
    obtain⟨cs,t,e1,e2⟩:=h.dfT g (.inr e) hg
    refine⟨cs,t,e1,?_⟩
    rcases e2 with e2|e2
    · subst e2
      rcases e with e|e|⟨-,x,e⟩
      · subst e;exact absurd rfl (tag_ne e1 h.dk.box (by decide))
      · obtain⟨cs',hc,-⟩:=h.dk.row
        subst e;exact absurd rfl (tag_ne e1 hc (by decide))
      · rw[e] at e1;injection e1 with e1;injection e1 with _ e1;exact absurd e1 (by decide)
    · exact e2
  have neg:∀ {g:Nat} {y:Array Value} {u:TypeId} {z:Nat×Nat},w.heap[g]? = some (.cells y u z)→u≠147→u≠33→u≠203→¬(g=X.B.d∨g=X.db∨(X.n0≤g∧∃ x,w.heap[g]? = some (Obj.cells x 203 (0,0)))):=fun {g y u z} e h2 h3 h4 q=>by
    obtain⟨cs,t,hg,ht⟩:=hT g q (hlt e)
    refine tag_ne e hg (fun e=>?_) rfl
    subst e
    rcases ht with e|e|e
    · exact h2 e
    · exact h3 e
    · exact h4 e
  refine h.core F.kp (fun g q hg=>by
    obtain⟨cs,t,e,ht⟩:=hT g q hg
    refine⟨cs,t,e,?_⟩
    rcases ht with rfl|rfl|rfl<;>exact⟨by decide,by decide,by decide⟩) (F.kp.keep h.sb (neg h.sb (by decide) (by decide) (by decide))) (F.kp.keep h.jb (neg h.jb (by decide) (by decide) (by decide))) (h.jo.kp F.kp fun g e q=>?_) (h.pb.kp F.kp (neg h.pb.box (by decide) (by decide) (by decide)) (fun q=>?_) (fun f hf=>?_) (fun _ _ h=>h)) dk
  · obtain⟨cs,t,hg,ht⟩:=hT g q (h.jo.lt g e)
    exact h.jo.tag hg (by rcases ht with rfl | rfl | rfl<;>decide) e
  · obtain⟨cs,t,hg,-⟩:=hT _ q h.pb.map.lt
    exact h.pb.map.ne hg rfl
  · obtain⟨cur,e,-⟩:=(h.pb.fr f hf).row
    refine⟨neg e (by decide) (by decide) (by decide),fun g e1 q=>?_⟩
    obtain⟨cs,t,hg,ht⟩:=hT g q ((h.pb.fr f hf).pay.lt g e1)
    exact(h.pb.fr f hf).pay.tag hg (by rcases ht with rfl | rfl | rfl<;>decide) e1
theorem StW.sset{S':SR}(h:StW X D w)(k:Kp (·=X.s) w w')(sb:SB w' X.s X.B S'):StW X { D with S:=S' } w':=by
  have ne:∀ {g:Nat} {y:Array Value} {u:TypeId} {z:Nat×Nat},w.heap[g]? = some (.cells y u z)→u≠125→¬g=X.s:=fun e h2 q=>tag_ne e h.sb h2 q
  refine h.core k (fun g q hg=>by have q:g=X.s:=q;subst q;exact⟨_,_,h.sb,⟨by decide,by decide,by decide⟩⟩) sb (k.keep h.jb (ne h.jb (by decide))) (h.jo.kp k fun g e q=>h.jo.tag h.sb (by decide) (by have q:g=X.s:=q;rw[← q];exact e)) (h.pb.kp k (ne h.pb.box (by decide)) (fun q=>h.pb.map.ne h.sb q) (fun f hf=>?_) (fun _ _ h=>h)) (h.dk.apart k (fun g o e q=>?_))
  · obtain⟨cur,e,-⟩:=(h.pb.fr f hf).row
    exact⟨ne e (by decide),fun g e1 q=>(h.pb.fr f hf).pay.tag h.sb (by decide) (by have q:g=X.s:=q;rw[← q];exact e1)⟩
  · have e:g=X.s:=e
    rw[e,show w.heap[X.s]? = _ from h.sb] at q;injection q with q;subst q
    exact⟨NoD.cells (by decide) (by decide) (by decide),.inr fun y e=>by injection e with _ e;exact absurd e (by decide)⟩
theorem hdN_ok{pos cnt nx:Nat}(h1:pos<60)(h2:1≤cnt)(h3:cnt≤4294967295)(h4:1≤nx)(h5:nx≤1000000):OkH ⟨60,1,(pos:Int),(cnt:Int),(nx:Int),[],[]⟩:=
  ⟨by dsimp only;decide,by dsimp only;decide,by dsimp only;omega,by dsimp only;omega,by dsimp only;decide,by dsimp only;decide,by dsimp only;omega,by dsimp only;omega,by dsimp only;omega,by dsimp only;omega,by simp,by simp,rfl,rfl,by simp⟩
theorem puthead_any{f:FR}(h:StW X D w)(hx:Hi X)(hhf:HiF X D)(ok:DiskOk D)(pg:PageOkD X D f)(hd:HeadOkD D) :
    Calls Tryz.prog 77 #[.pointer (some ⟨X.s,0,none⟩)] w fun e w'=>e=.returned (.int .i64 0)∧(∃ D' D'',FpD D D'∧D''={ D' with S:={ D'.S with gen:=D'.S.gen+1 },pv:=D''.pv,P:=D''.P }∧D''.P.Fine∧D''.P.ws=[]∧D''.P.bs.length=D.P.bs.length∧StW X D'' w')∧Below X.n0 w w':=by
  have LF:=lflush_st h ok
  have c10:w.cell? ⟨X.s,10,none⟩=some (.pointer (some ⟨X.B.j,0,none⟩)):=cellD h.sb 10
  have PF:∀ w1 D1,FlD D D1→StW X D1 w1→Calls Tryz.prog 174 #[.pointer (some ⟨X.B.p,0,none⟩)] w1 fun e w'=>e=.returned (.int .i64 0)∧(∃ D',PlD D1 D'∧StW X D' w')∧Kp (WPX X D1 w1) w1 w':=fun w1 D1 hF h1=>by
    obtain⟨pv',P',rfl,a1,a2,a3⟩:=hF.ex
    exact plflush_st h1 pg.held pg.dirty pg.wal pg.lsn a1 a2 (by show _<P'.bs.length;rw[a3];exact pg.base) (by show P'.bs.length≤_;rw[a3];exact ok.len) (Nat.le_trans pg.cnt (by decide)) (Nat.le_trans pg.asked (by decide))
  have HP:=Lib.hid PF
  have HH:=Lib.hid h
  have HO:=Lib.hid ok
  have HG:=Lib.hid pg
  have HD:=Lib.hid hd
  clear PF h ok pg hd
  go_enter Tryz.func77,Tryz.ntmps77
  go_upto_region 7 with (first
    | (go_at_call 76;(with_reducible refine LF.mono ?_);rintro e w1 ⟨rfl,⟨D1,hF1,h1⟩,k1⟩;have P1:=HP.out w1 D1 hF1 h1;have x11:w1.cell? ⟨X.s,11,none⟩=some (.pointer (some ⟨X.B.p,0,none⟩)):=cellD h1.sb 11;have HH1:=Lib.hid h1;clear h1)
    | (go_at_call 174;(with_reducible refine P1.mono ?_);rintro e w2 ⟨rfl,⟨D2,hP2,h2⟩,k2⟩))
  have b12:Below X.n0 w w2:=by
    have hn:=HH.out.dk.base
    have b1:Below X.n0 w w1:=k1.below hn fun g hg e=>by have:=df_hi hx e;omega
    exact b1.trans (k2.below (Nat.le_trans hn b1.size) fun g hg e=>by
      have hf1:HiF X D1:=by
        obtain⟨pv',P',rfl,-⟩:=hF1.ex
        exact hhf
      have:=wp_hi hx hf1 e;omega)
  have hFp:FpD D D2:=by
    obtain⟨pv',P',rfl,a1,a2,a3⟩:=hF1.ex
    obtain⟨c,a,pv2,P2,rfl,c1,c2,c3,c4,c5⟩:=hP2.ex
    exact⟨c,a,pv2,P2,rfl,c1,c2,c3,c4,c5.trans a3⟩
  have NUM:D2.S.log=60∧D2.S.epoch=1∧D2.J.pos<60∧1≤D2.J.count∧D2.J.count≤2000000∧D2.T=D.T∧D2.ov=[]∧D2.S.gen=D.S.gen∧D2.P.Fine∧D2.P.ws=[]∧D2.P.bs.length=D.P.bs.length:=by
    obtain⟨c,a,pv2,P2,rfl,c1,c2,c3,c4,c5⟩:=hFp.ex
    have hd:=HD.out
    have hb:=hd.bl
    have hn:=need_le HO.out.wl
    have:=hd.c2
    have:=hd.c1
    refine⟨hd.log,hd.ep,?_,?_,?_,rfl,hd.ov,rfl,c3,c4,c5⟩
    · show(D.J.pos+need D.J.waits.length) % D.J.blocks<60
      rw[hb];exact Nat.mod_lt _ (by decide)
    · show 1≤D.J.count+need D.J.waits.length
      omega
    · show D.J.count+need D.J.waits.length≤2000000
      omega
  obtain⟨n1,n2,n3,n4,n5,n6,n7,n8,n9,n10,n11⟩:=NUM
  have y2:w2.cell? ⟨X.s,2,none⟩=some (.int .i64 60):=(cellD h2.sb 2).trans (by show some (Value.int .i64 (D2.S.log:Int))=_;rw[n1];rfl)
  have y3:w2.cell? ⟨X.s,3,none⟩=some (.int .i64 1):=(cellD h2.sb 3).trans (by show some (Value.int .i64 (D2.S.epoch:Int))=_;rw[n2];rfl)
  have y4:w2.cell? ⟨X.s,4,none⟩=some (.int .i64 0):=cellD h2.sb 4
  have y5:w2.cell? ⟨X.s,5,none⟩=some (.int .i64 0):=cellD h2.sb 5
  have y6:w2.cell? ⟨X.s,6,none⟩=some (.int .i64 0):=cellD h2.sb 6
  have y7:w2.cell? ⟨X.s,7,none⟩=some (.slice none 0 0):=cellD h2.sb 7
  have y8:w2.cell? ⟨X.s,8,none⟩=some (.slice none 0 0):=cellD h2.sb 8
  have HK:=Lib.hid (And.intro k1 k2)
  clear k1 k2 P1 x11 c10 LF
  go_upto_region 8 with fail
  obtain⟨W3,hW3,g3,b3,s3⟩:=box_alloc w2 (.cells #[.int .i64 60,.int .i64 1,.int .i64 0,.int .i64 0,.int .i64 0,.slice none 0 0,.slice none 0 0] 73)
  rw[hW3]
  clear hW3 y2 y3 y4 y5 y6 y7 y8
  have h3:=h2.below b3
  have z10:W3.cell? ⟨X.s,10,none⟩=some (.pointer (some ⟨X.B.j,0,none⟩)):=cellD h3.sb 10
  obtain⟨pos,hpos⟩:∃ pos,D2.J.pos=pos:=⟨_,rfl⟩
  obtain⟨cnt,hcnt⟩:∃ cnt,D2.J.count=cnt:=⟨_,rfl⟩
  have AT:=jat_any h3.jb
  rw[hpos,hcnt] at AT
  have HH2:=Lib.hid h2
  have HN:=Lib.hid (And.intro n1 (And.intro n2 (And.intro n3 (And.intro n4 (And.intro n5 (And.intro n6 (And.intro n7 (And.intro n8 (And.intro n9 (And.intro n10 n11))))))))))
  have HPC:=Lib.hid (And.intro hpos hcnt)
  have HS3:=Lib.hid s3
  clear s3 n1 n2 n3 n4 n5 n6 n7 n8 n9 n10 n11 hpos hcnt h2 h3
  go_upto_region 9 with (go_at_call 175;(with_reducible refine AT.mono ?_);rintro e w4 ⟨rfl,b4⟩;have g4:=keepB b4 g3;have q2:w4.cell? ⟨w2.heap.size,2,none⟩=some (.int .i64 0):=cellD g4 2;have f2:w4.frozen? ⟨w2.heap.size,2,none⟩=false:=frozenD g4 2;obtain⟨W5,hW5,g5,k5,s5⟩:=set_name 2 g4 (.int .i64 (pos:Int));have q3:W5.cell? ⟨w2.heap.size,3,none⟩=some (.int .i64 0):=cellD g5 3;have f3:W5.frozen? ⟨w2.heap.size,3,none⟩=false:=frozenD g5 3;obtain⟨W6,hW6,g6,k6,s6⟩:=set_name 3 g5 (.int .i64 (cnt:Int)))
  have z3:=b3.size
  have z4:=b4.size
  have b26:Below w2.heap.size w2 W6:=((b3.trans (b4.mono z3)).trans (k5.below (Nat.le_trans z3 z4) fun k hk e=>by have:k=w2.heap.size:=e;omega)).trans (k6.below (Nat.le_trans (Nat.le_trans z3 z4) k5.size) fun k hk e=>by have:k=w2.heap.size:=e;omega)
  have bD:=below_drew W6
  have b2D:=b26.trans (bD.mono b26.size)
  have hD:=HH2.out.below b2D
  have g6D:=keepB bD g6
  have S0:W6.drew.cell? ⟨X.s,13,none⟩=some (.pointer (some ⟨X.B.t,0,none⟩)):=cellD hD.sb 13
  have NX:=next_tab hD.tb
  rw[HN.out.2.2.2.2.2.1] at NX
  obtain⟨Ao,co,hov⟩:∃ A c,D2.T.ov=.slice A 0 c:=by
    obtain⟨A,c,e⟩:=hD.tr.form
    rw[HN.out.2.2.2.2.2.2.1] at e
    exact⟨A,c,e⟩
  have OP:=open_tab hD.tb hov
  have AFD:=Lib.hid (fun w7 (b7:Below W6.drew.heap.size W6.drew w7)=>And.intro (dead_tab (hD.below b7).tb) (And.intro (keepB b7 g6D) (show w7.cell? ⟨X.s,13,none⟩=some (.pointer (some ⟨X.B.t,0,none⟩)) from cellD (hD.below b7).sb 13)))
  have HB26:=Lib.hid b2D
  have HSH:=Lib.hid (show X.s≠w2.heap.size from fun e=>by have:=hlt HH2.out.sb;omega)
  have HSL:=Lib.hid (fun w7 (b7:Below W6.drew.heap.size W6.drew w7)=>hlt (hD.below b7).sb)
  have HOV:=Lib.hid hov
  obtain⟨nx,hnx⟩:∃ nx,D.T.next=nx:=⟨_,rfl⟩
  rw[hnx] at NX
  have HNX:=Lib.hid hnx
  clear hov hD bD b2D b26 z3 z4 hnx q2 f2 q3 f3 hW5 hW6 k5 k6 s5 s6 AT z10 b3 b4 g3 g4 g5
  go_region_held3 (fun w7=>w7.cell? ⟨X.s,13,none⟩=some (.pointer (some ⟨X.B.t,0,none⟩)))
    (first | with_reducible exact S0 | with_reducible exact S2 | with_reducible exact S3 | with_reducible exact S4 | with_reducible exact S5)
    (first
      | (go_at_call 92;(with_reducible refine NX.mono ?_);rintro e w7 ⟨rfl,rfl⟩)
      | (go_at_call 124;(with_reducible refine OP.mono ?_);rintro e w7 ⟨⟨B,dd,rfl⟩,b7⟩;obtain⟨DE,g7,S2⟩:=AFD.out w7 b7)
      | (go_at_call 105;(with_reducible refine DE.mono ?_);rintro e w7 ⟨rfl,rfl⟩;have r4:w7.cell? ⟨w2.heap.size,4,none⟩=some (.int .i64 0):=cellD g7 4;have e4:w7.frozen? ⟨w2.heap.size,4,none⟩=false:=frozenD g7 4;obtain⟨W8,hW8,g8,k8,s8⟩:=set_name 4 g7 (.int .i64 (nx:Int));have r5:W8.cell? ⟨w2.heap.size,5,none⟩=some (.slice none 0 0):=cellD g8 5;have e5:W8.frozen? ⟨w2.heap.size,5,none⟩=false:=frozenD g8 5;obtain⟨W9,hW9,g9,k9,s9⟩:=set_name 5 g8 (.slice B 0 dd);have r6:W9.cell? ⟨w2.heap.size,6,none⟩=some (.slice none 0 0):=cellD g9 6;have e6:W9.frozen? ⟨w2.heap.size,6,none⟩=false:=frozenD g9 6;obtain⟨W10,hW10,g10,k10,s10⟩:=set_name 6 g9 (.slice none 0 0);have sh:X.s≠w2.heap.size:=HSH.out;have S3:W8.cell? ⟨X.s,13,none⟩=some (.pointer (some ⟨X.B.t,0,none⟩)):=(cell_same (k8.block _ (HSL.out w7 b7) sh) 13).trans S2;have S4:W9.cell? ⟨X.s,13,none⟩=some (.pointer (some ⟨X.B.t,0,none⟩)):=(cell_same (k9.block _ (Nat.lt_of_lt_of_le (HSL.out w7 b7) k8.size) sh) 13).trans S3;have S5:W10.cell? ⟨X.s,13,none⟩=some (.pointer (some ⟨X.B.t,0,none⟩)):=(cell_same (k10.block _ (Nat.lt_of_lt_of_le (Nat.lt_of_lt_of_le (HSL.out w7 b7) k8.size) k9.size) sh) 13).trans S4)
      | fail)
  all_goals
    have zw7:=b7.size
    have b210:Below w2.heap.size w2 W10:=by
      have b27:Below w2.heap.size w2 w7:=HB26.out.trans (b7.mono HB26.out.size)
      have z:=b27.size
      exact((b27.trans (k8.below z fun k hk e=>by have:k=w2.heap.size:=e;omega)).trans (k9.below (Nat.le_trans z k8.size) fun k hk e=>by have:k=w2.heap.size:=e;omega)).trans (k10.below (Nat.le_trans (Nat.le_trans z k8.size) k9.size) fun k hk e=>by have:k=w2.heap.size:=e;omega)
    have h10:=HH2.out.below b210
    have p0:W10.cell? ⟨w2.heap.size,0,none⟩=some (.int .i64 60):=cellD g10 0
    have p1:W10.cell? ⟨w2.heap.size,1,none⟩=some (.int .i64 1):=cellD g10 1
    have p2:W10.cell? ⟨w2.heap.size,2,none⟩=some (.int .i64 (pos:Int)):=cellD g10 2
    have p3:W10.cell? ⟨w2.heap.size,3,none⟩=some (.int .i64 (cnt:Int)):=cellD g10 3
    have p4:W10.cell? ⟨w2.heap.size,4,none⟩=some (.int .i64 (nx:Int)):=cellD g10 4
    have p5:W10.cell? ⟨w2.heap.size,5,none⟩=some (.slice B 0 dd):=cellD g10 5
    have p6:W10.cell? ⟨w2.heap.size,6,none⟩=some (.slice none 0 0):=cellD g10 6
    obtain⟨n1,n2,n3,n4,n5,n6,n7,n8,n9,n10,n11⟩:=HN.out
    obtain⟨hpos,hcnt⟩:=HPC.out
    have hok:OkH ⟨60,1,(pos:Int),(cnt:Int),(nx:Int),[],[]⟩:=by
      have hnx:=HNX.out
      have h1:=HD.out.n1
      have h2:=HD.out.n2
      exact hdN_ok (by omega) (by omega) (by omega) (by omega) (by omega)
    have HBY:Calls Tryz.prog 176 #[.agg #[.int .i64 60,.int .i64 1,.int .i64 (pos:Int),.int .i64 (cnt:Int),.int .i64 (nx:Int),.slice B 0 dd,.slice none 0 0]] W10 fun e w'=>(∃ v,e=.returned (.tuple #[v,.int .i64 0])∧Own w' W10.heap.size v (headB ⟨60,1,(pos:Int),(cnt:Int),(nx:Int),[],[]⟩))∧Below W10.heap.size W10 w':=headbytes_ok ⟨60,1,(pos:Int),(cnt:Int),(nx:Int),[],[]⟩ hok B none 0 dd 0 0 W10 (RdI.nil _ _ _) (RdI.nil _ _ _) rfl rfl
    have hlen:(headB ⟨60,1,(pos:Int),(cnt:Int),(nx:Int),[],[]⟩).length=4080:=by unfold headB;rw[List.length_append,head3_len];simp
    have HLN:=Lib.hid hlen
    have HB210:=Lib.hid b210
    clear hlen hok b210 h10 n1 n2 n3 n4 n5 n6 n7 n8 n9 n10 n11 hpos hcnt r4 e4 r5 e5 r6 e6 hW8 hW9 hW10 g8 g9 g7 g10 k8 k9 k10 s8 s9 s10 S0 S2 S3 S4 S5 NX OP DE zw7 b7 sh
    go_upto_region 13 with (go_at_call 176;(with_reducible refine HBY.mono ?_);rintro e w11 ⟨⟨v,rfl,o11⟩,b11⟩;obtain⟨A11,c11,rfl,-,-,r11⟩:=o11.sl HLN.out)
  all_goals
    have b211:=HB210.out.trans (b11.mono HB210.out.size)
    have h11:=HH2.out.below b211
    obtain⟨gn,hgn⟩:∃ gn,D2.S.gen=gn:=⟨_,rfl⟩
    have hgl:gn≤1000000:=by have:=HN.out.2.2.2.2.2.2.2.1;have:=HD.out.gen;omega
    have c9:w11.cell? ⟨X.s,9,none⟩=some (.int .i64 (gn:Int)):=(cellD h11.sb 9).trans (by show some (Value.int .i64 (D2.S.gen:Int))=_;rw[hgn])
    have u1:IntKind.u64.wrap (gn:Int)=(gn:Int):=by rw[IntKind.wrap_u64];omega
    have u2:IntKind.u64.wrap ((gn:Int)+1)=(gn:Int)+1:=by rw[IntKind.wrap_u64];omega
    have SE:=seal_any (Z:=Zj D2.J) A11 4080 c11 (gn+1) _ w11 r11 HLN.out.symm (by rw[HLN.out];decide) (by rw[HLN.out];decide) (by omega) (fun g e=>h11.jo.lt g e)
    rw[show((gn+1:Nat):Int)=(gn:Int)+1 from rfl] at SE
    have HGN:=Lib.hid (And.intro hgn hgl)
    have HB211:=Lib.hid b211
    clear hgn hgl h11 b211 b11 p0 p1 p2 p3 p4 p5 p6 HBY o11 r11
    go_upto_region 16 with (go_at_call 57;(with_reducible refine SE.mono ?_);rintro e w12 ⟨⟨gb,rfl,bk,gbl⟩,b12s⟩)
  all_goals
    obtain⟨W13,hW13,-,b13⟩:=drew_name w12
    have b213:=(HB211.out.trans (b12s.mono HB211.out.size)).trans (b13.mono (Nat.le_trans HB211.out.size b12s.size))
    have h13:=HH2.out.below b213
    have c1:W13.cell? ⟨X.s,1,none⟩=some (.pointer (some ⟨X.B.d,0,none⟩)):=cellD h13.sb 1
    have c9':W13.cell? ⟨X.s,9,none⟩=some (.int .i64 (gn:Int)):=(cellD h13.sb 9).trans (by show some (Value.int .i64 (D2.S.gen:Int))=_;rw[HGN.out.1])
    have hgl:=HGN.out.2
    obtain⟨md,hmd,hm2⟩:∃ md:Nat,(gn+1) % 2=md∧md<2:=⟨_,rfl,Nat.mod_lt _ (by decide)⟩
    have v1:IntKind.i64.wrap ((gn:Int)+1)=(gn:Int)+1:=by rw[IntKind.wrap_i64];omega
    have em:((gn:Int)+1) % 2=(md:Int):=by omega
    obtain⟨n1,n2,n3,n4,n5,n6,n7,n8,n9,n10,n11⟩:=HN.out
    obtain⟨A12,eA,rb⟩:=bk.rd
    injection eA with eA
    subst eA
    obtain⟨bl,hbl⟩:∃ bl,sealed (padP (headB ⟨60,1,(pos:Int),(cnt:Int),(nx:Int),[],[]⟩)) (gn+1)=bl:=⟨_,rfl⟩
    rw[hbl] at rb
    have hbll:bl.length=4096:=by rw[← hbl];exact sealed_len (padP_len (by rw[HLN.out];decide))
    have WR:=write_any h13.dk md (by rw[n11];have:=HD.out.len;omega) (some ⟨gb,0,none⟩) 4096 bl ((rb.below b13).more b13.size) hbll (by rw[n10];exact Nat.zero_le _)
    rw[n9.put_eq,← em] at WR
    have HW:=Lib.hid b213
    have HNN:=Lib.hid (And.intro n9 (And.intro n10 n11))
    have HH13:=Lib.hid h13
    have HML:=Lib.hid (And.intro hm2 hbll)
    clear em b213 h13 n1 n2 n3 n4 n5 n6 n7 n8 n9 n10 n11 rb bk hbll hbl hgl hmd hm2 b13 b12s c9 SE
    refine stillW 11 (by kernel_rfl) (by kernel_rfl) W13 hW13 ?_
    simp only[List.take_succ_cons,List.take_zero,List.drop_succ_cons,List.drop_zero]
    repeat still_step
    refine wpStill_nil ?_
    go_upto_region 19 with (go_at_call 60;(with_reducible refine WR.mono ?_);rintro e w14 ⟨rfl,⟨pv14,d14⟩,f14⟩)
  all_goals
    obtain⟨n9,n10,n11⟩:=HNN.out
    have h14:=HH13.out.fr f14 d14
    have c1:w14.cell? ⟨X.s,1,none⟩=some (.pointer (some ⟨X.B.d,0,none⟩)):=cellD h14.sb 1
    have SY:=sync_any h14.dk (by show(D2.P.ws++[(md,bl)]).length≤100;rw[n10];simp)
    have fine14:({ D2.P with ws:=D2.P.ws++[(md,bl)] }:PD).Fine:=⟨n9.ft,n9.wh⟩
    rw[fine14.sync_eq] at SY
    have HF14:=Lib.hid fine14
    have HH14:=Lib.hid h14
    have HFr14:=Lib.hid f14
    clear n9 n10 n11 h14 fine14 f14 d14 c9' v1 WR
    go_upto_region 22 with (go_at_call 61;(with_reducible refine SY.mono ?_);rintro e w15 ⟨rfl,⟨pv15,d15,-⟩,f15⟩)
    have h15:=HH14.out.fr f15 d15
    have c9:w15.cell? ⟨X.s,9,none⟩=some (.int .i64 (gn:Int)):=(cellD h15.sb 9).trans (by show some (Value.int .i64 (D2.S.gen:Int))=_;rw[HGN.out.1])
    have z9:w15.frozen? ⟨X.s,9,none⟩=false:=frozenD h15.sb 9
    have hgl:=HGN.out.2
    obtain⟨W16,hW16,g16,k16,s16⟩:=set_name 9 h15.sb (.int .i64 ((gn:Int)+1))
    have HH15:=Lib.hid h15
    clear SY c1 h15 s16
    go_wp2
    go_ret
    have h16:=HH15.out.sset (S':={ D2.S with gen:=D2.S.gen+1 }) k16 (by
      unfold SB;rw[g16]
      have e:=HGN.out.1
      rw[← e];rfl)
    have hF:=HF14.out
    have hn0:=HH.out.dk.base
    have zz:X.n0≤w2.heap.size:=Nat.le_trans hn0 b12.size
    have hn13:X.n0≤W13.heap.size:=Nat.le_trans zz HW.out.size
    have fr_hi:∀ {w w':World},Fr X.n0 X.B.d X.db w w'→X.n0≤w.heap.size→Below X.n0 w w':=fun {w w'} F hn=>F.kp.below hn fun g hg e=>by
      rcases e with e|e|⟨e,-⟩
      · have:=hx.d;omega
      · have:=hx.db;omega
      · omega
    have hn14:=Nat.le_trans hn13 HFr14.out.size
    have hn15:=Nat.le_trans hn14 f15.size
    refine⟨rfl,⟨D2,hFp,({ D2 with S:={ D2.S with gen:=D2.S.gen+1 },pv:=pv15,P:={ ({ D2.P with ws:=D2.P.ws++[(md,bl)] }:PD) with bs:=({ D2.P with ws:=D2.P.ws++[(md,bl)] }:PD).vis,ws:=[] } }:SD),rfl,⟨hF.ft,hF.wh⟩,rfl,?_,h16⟩,(((b12.trans (HW.out.mono zz)).trans (fr_hi HFr14.out hn13)).trans (fr_hi f15 hn14)).trans (k16.below hn15 fun g hg e=>by have:g=X.s:=e;have:=hx.s;omega)⟩
    rw[← HNN.out.2.2]
    exact PD.vis_len _
end
section
variable {X:ST}{D:SD}{w w':World}
theorem StW.fresh{b':Bool}(h:StW X D w)(k:Kp (·=X.im) w w')(a:AB w' X.B.a X.B.p X.B.j X.im b'):StW X { D with b:=b' } w':=by
  have ne:∀ {g:Nat} {x:Array Value} {u:TypeId} {z:Nat×Nat},w.heap[g]? = some (.cells x u z)→¬g=X.im:=fun e q=>h.ab.map.ne e q.symm
  refine⟨k.keep h.sb (ne h.sb),k.keep h.jb (ne h.jb),h.jo.kp k (fun g e q=>h.jo.tagm h.ab.map (q▸e)),h.pb.kp k (ne h.pb.box) h.d1 (fun f hf=>?_) (fun _ _ h=>h),a,h.dk.apart k (fun g o e q=>?_),k.keep h.tb (ne h.tb),h.tw,h.tm.kp k h.d4.symm,h.tr.kp k (fun g e q=>h.tr.nem h.ab.map (q▸e)),h.wk.kp k h.d5.symm,h.d1,h.d2,h.d3,h.d4,h.d5,h.d6⟩
  · obtain⟨cur,e,-⟩:=(h.pb.fr f hf).row
    exact⟨ne e,fun g e1 e2=>(h.pb.fr f hf).pay.tagm h.ab.map (e2▸e1)⟩
  · have e:g=X.im:=e
    subst e
    obtain⟨E,c,hE,-⟩:=h.ab.map
    rw[hE] at q;injection q with q;subst q
    exact⟨NoD.map _ _,.inr fun x e=>nomatch e⟩
structure CkD(D D':SD):Prop where
  ex:∃ c a pv' P',D'={ D with J:={ D.J.flushed (need D.J.waits.length) with used:=0 },S:={ D.S with asked:=a,gen:=D.S.gen+1 },R:=D.R.clean c,pv:=pv',P:=P',b:=false }∧c≤D.R.cnt+1∧a≤D.S.asked+1∧P'.Fine∧P'.ws=[]∧P'.bs.length=D.P.bs.length
theorem checkpoint_st{f:FR}(h:StW X D w)(hx:Hi X)(hhf:HiF X D)(ok:DiskOk D)(pg:PageOkD X D f)(hd:HeadOkD D) :
    Calls Tryz.prog 20 #[.pointer (some ⟨X.s,0,none⟩)] w fun e w'=>e=.returned (.int .i64 0)∧(∃ D',CkD D D'∧StW X D' w')∧Below X.n0 w w':=by
  have WH:=whole_st h
  have PH:=Lib.hid (fun w1 (b1:Below w.heap.size w w1)=>puthead_any (h.below b1) hx hhf ok pg hd)
  have HH:=Lib.hid h
  clear h ok pg hd
  go_enter Tryz.func20,Tryz.ntmps20
  go_upto_region 8 with (first
    | (go_at_call 65;(with_reducible refine WH.mono ?_);rintro e w1 ⟨rfl,b1⟩;have P1:=PH.out w1 b1)
    | (go_at_call 77;(with_reducible refine P1.mono ?_);rintro e w2 ⟨rfl,⟨D1,D2,hF,hD2,hf2,hws2,hl2,h2⟩,b2⟩))
  have hwv:D2.J.wv=.slice none 0 0:=by
    obtain⟨c,a,pv',P',rfl,-⟩:=hF.ex
    rw[hD2];rfl
  have c10:w2.cell? ⟨X.s,10,none⟩=some (.pointer (some ⟨X.B.j,0,none⟩)):=cellD h2.sb 10
  have FR:=jfree_any h2.jb hwv
  have HH2:=Lib.hid h2
  have HD2:=Lib.hid hD2
  have HWV:=Lib.hid hwv
  clear h2 hD2 hwv P1
  go_upto_region 12 with (go_at_call 78;(with_reducible refine FR.mono ?_);rintro e w3 ⟨rfl,j3,k3⟩)
  have h3:StW X { D2 with J:={ D2.J with used:=0 } } w3:=HH2.out.jour (k3.weaken fun k e=>.inl e) j3 (HH2.out.jo.kp k3 fun g e q=>by rw[show D2.J.wv=_ from HWV.out] at e;cases e) (fun g e=>.inl e)
  have c12:w3.cell? ⟨X.s,12,none⟩=some (.pointer (some ⟨X.B.a,0,none⟩)):=cellD h3.sb 12
  have FH:=afresh_any h3.ab
  have HH3:=Lib.hid h3
  clear h3 j3 FR c10
  go_wp2_with (go_at_call 79;(with_reducible refine FH.mono ?_);rintro e w4 ⟨⟨n,rfl⟩,a4,k4⟩)
  go_ret
  have h4:=HH3.out.fresh k4 a4
  have hn:=HH.out.dk.base
  have hn2:=HH2.out.dk.base
  refine⟨rfl,⟨_,?_,h4⟩,((b1.mono hn).trans b2).trans ((k3.below hn2 fun g hg e=>by have:g=X.B.j:=e;have:=hx.j;omega).trans (k4.below (Nat.le_trans hn2 k3.size) fun g hg e=>by have:g=X.im:=e;have:=hx.im;omega))⟩
  obtain⟨c,a,pv',P',rfl,c1,c2,c3,c4,c5⟩:=hF.ex
  have e:=HD2.out
  refine⟨c,a,D2.pv,D2.P,?_,c1,c2,hf2,hws2,hl2⟩
  rw[e]
end
end Go.Proofs.YtdbkocfbhpgpkaaGreat
