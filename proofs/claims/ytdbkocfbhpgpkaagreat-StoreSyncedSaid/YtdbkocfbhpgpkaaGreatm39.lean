/-
  Page 1 as an atom gets it; versions of a key, of the whole store.
-/
import Derived.Test.YtdbkocfbhpgpkaaGreatm38
import Derived.Test.YtdbkocfbhpgpkaaGreatm02
set_option linter.unusedVariables false
set_option linter.unusedSimpArgs false
namespace Go.Proofs.YtdbkocfbhpgpkaaGreat
open Go Go.RowKit Go.Shelf
open Go.Ev (PgM PageOk CellsOut rowsOf rowsV rowV rowsOf_len BelowIs)
set_option maxRecDepth 100000
set_option maxHeartbeats 4000000
theorem each_any{w:World}{s bx:Nat}{f t:Value}{Pw:World→Prop}
    (PR:∀ W1,w.alloc (.cells #[.func (.func 196) #[] #[.pointer (some ⟨bx,0,none⟩)]] 165)=W1→Calls Tryz.prog 88 #[.pointer (some ⟨s,0,none⟩),f,t,.func (.func 191) #[] #[.pointer (some ⟨w.heap.size,0,none⟩)]] W1 fun e w'=>e=.returned (.int .i64 0)∧Pw w') :
    Calls Tryz.prog 95 #[.pointer (some ⟨s,0,none⟩),f,t,.func (.func 196) #[] #[.pointer (some ⟨bx,0,none⟩)]] w fun e w'=>e=.returned (.int .i64 0)∧Pw w':=by
  have hmf:∀ (fn:Fn) (first cap:Array Value) (w:World),(Instr.makeFunc fn first cap).run Tryz.prog w=.ok (.func fn first cap) w:=fun _ _ _ _=>rfl
  obtain⟨W1,hW1,g1,b1,s1⟩:=box_alloc w (.cells #[.func (.func 196) #[] #[.pointer (some ⟨bx,0,none⟩)]] 165)
  have P1:=PR W1 hW1
  clear s1 PR
  go_enter Tryz.func95,Tryz.ntmps95
  go_wp2_with (go_at_call 88;(with_reducible refine P1.mono ?_);rintro e w3 ⟨rfl,h3⟩)
  go_ret
  exact⟨rfl,h3⟩
theorem versions_any{Z S:Nat→Prop}{Q:World→Prop}{Good:Nat→Prop}{w:World}{s a p j im kn kc:Nat}{kA:Option Addr}{k:List UInt8}{b:Bool}{cs:List NC}{sc:Array Value}
    (hs:w.heap[s]? = some (.cells sc 125 (0,0))) (h12:sc[12]? = some (.pointer (some ⟨a,0,none⟩))) (ha:AB w a p j im b)
    (hr:Rd w w.heap.size kA k) (hk:kn=k.length) (hkl:k.length≤128) (hS:∀ k,S k→k<w.heap.size)
    (SC:∀ w1 x sx fa fc ta tc,Below w.heap.size w w1→XB Z w1 x a sx none→w.heap.size≤x→w.heap.size≤sx→Own w1 w.heap.size (.slice fa (txt k 0).length fc) (txt k 0)→Own w1 w.heap.size (.slice ta (txt k 1).length tc) (txt k 1)→Calls Tryz.prog 187 #[.pointer (some ⟨x,0,none⟩),.slice fa (txt k 0).length fc,.slice ta (txt k 1).length tc,.int .i64 64] w1 fun e w'=>(∃ A c ps,e=.returned (.tuple #[.slice A ps.length c,.int .i64 0])∧PgM w' w'.heap.size A ps∧(∀ p∈ps,p∈cs)∧ps.length≤60)∧Q w'∧Kp S w1 w')
    (hcs:∀ c∈cs,∃ k n,c.key=vkey k n∧1≤k.length∧k.length≤128∧n≤4611686018427387904∧Good n)
    (hQ:∀ bx a b,Q a→Kp (·=bx) a b→a.heap[bx]? = some (.cells #[.slice none 0 0] 127 (0,0))→Q b) :
    Calls Tryz.prog 100 #[.pointer (some ⟨s,0,none⟩),.slice kA kn kc] w fun e w'=>(∃ v n vs,e=.returned (.tuple #[v,.int .i64 0])∧w'.ownsRow n 158 4 v vs.length (vX vs)∧(∀ x∈vs,Good x.by_)∧vs.length≤60)∧Q w'∧Kp S w w':=by
  have hmf:∀ (fn:Fn) (first cap:Array Value) (w:World),(Instr.makeFunc fn first cap).run Tryz.prog w=.ok (.func fn first cap) w:=fun _ _ _ _=>rfl
  obtain⟨W1,hW1,g1,b1,s1⟩:=box_alloc w (.cells #[.slice none 0 0] 127)
  have F1:=first_any kA kn kc k W1 ((hr.below b1).more b1.size) hk (by omega)
  have B1:=fun w2 (b2:Below W1.heap.size W1 w2)=>behind_any kA kn kc k w2 ((hr.below (b1.trans (b2.mono b1.size))).more (Nat.le_trans b1.size b2.size)) hk (by omega)
  have HB:=Lib.hid B1
  have EA:∀ w3,Below W1.heap.size W1 w3→∀ f t,Own w3 W1.heap.size f (txt k 0)→Own w3 W1.heap.size t (txt k 1)→Calls Tryz.prog 95 #[.pointer (some ⟨s,0,none⟩),f,t,.func (.func 196) #[] #[.pointer (some ⟨w.heap.size,0,none⟩)]] w3 fun e w'=>e=.returned (.int .i64 0)∧(∃ n vs,(∀ v∈vs,Good v.by_)∧vs.length≤60∧VB w' n w.heap.size vs)∧Q w'∧Kp (fun k=>S k∨k=w.heap.size) w w':=fun w3 b3 f t hf ht=>by
    obtain⟨fa,fc,rfl,-⟩:=hf.slice
    obtain⟨ta,tc,rfl,-⟩:=ht.slice
    refine each_any fun W4 hW4=>?_
    obtain⟨W4',hW4',g4,b4,s4⟩:=box_alloc w3 (.cells #[.func (.func 196) #[] #[.pointer (some ⟨w.heap.size,0,none⟩)]] 165)
    obtain rfl:W4'=W4:=hW4'.symm.trans hW4
    have b13:=b1.trans (b3.mono b1.size)
    have b14:=b13.trans (b4.mono b13.size)
    have hs4:=keepB b14 hs
    have g14:W4'.heap[w.heap.size]? = some (.cells #[.slice none 0 0] 127 (0,0)):=keepB b4 (keepB b3 g1)
    refine(pairs_any (Z:=Z) (S:=S) (Q:=Q) (Good:=Good) (cs:=cs) ((cellD hs4 12).trans h12) (ha.below b14) (fun w1 x sx bb hx h1 h2=>?_) g14 g4 (fun e=>by have:=hS _ e;omega) (fun e=>by have:=hS _ e;have:=b13.size;omega) hcs (hQ _)).mono ?_
    · refine SC w1 x sx fa fc ta tc (b14.trans (bb.mono b14.size)) hx (Nat.le_trans b14.size h1) (Nat.le_trans b14.size h2) ?_ ?_
      · exact((hf.belowS b4).belowS bb).down b1.size
      · exact((ht.belowS b4).belowS bb).down b1.size
    · rintro e w' ⟨rfl,h5,h6,h7⟩
      exact⟨rfl,h5,h6,(Kp.of b14).then h7⟩
  have HE:=Lib.hid EA
  have HS1:=Lib.hid s1
  clear B1 EA s1 hcs hQ SC hr hk
  go_enter Tryz.func100,Tryz.ntmps100
  go_wp2_with (first
    | (go_at_call 94;(with_reducible refine F1.mono ?_);rintro e w2 ⟨⟨u1,rfl,o1⟩,b2⟩;have B2:=HB.out w2 b2)
    | (go_at_call 195;(with_reducible refine B2.mono ?_);rintro e w3 ⟨⟨u2,rfl,o2⟩,b3⟩;have E3:=HE.out w3 (b2.trans (b3.mono b2.size)) u1 u2 (o1.belowS b3) (o2.down b2.size))
    | (go_at_call 95;(with_reducible refine E3.mono ?_);rintro e w4 ⟨rfl,⟨n4,vs,hg4,hl4,v4,hv4,hr4⟩,hq4,k4⟩;have c4:w4.cell? ⟨w.heap.size,0,none⟩=some v4:=cellD hv4 0))
  go_ret2
  refine⟨⟨v4,n4,vs,rfl,hr4,hg4,hl4⟩,hq4,⟨k4.os,k4.tape,k4.output,k4.size,fun k hk hs=>k4.block k hk fun e=>?_⟩⟩
  rcases e with e|e
  · exact hs e
  · omega
theorem row_ver{w:World}{n:Nat}{v:Value}{vs:List VR}(h:w.ownsRow n 158 4 v vs.length (vX vs)):(v=.slice none 0 0∧vs=[])∨∃ g c,v=.slice (some ⟨g,0,none⟩) vs.length c∧g<w.heap.size∧n≤g∧∀ i (hi:i<vs.length) j,j<4→w.cell? ⟨g,i * 4+j,none⟩=(vs[i].cs)[j]?:=by
  rcases h.2 with⟨e,h0⟩|⟨g,cap,cur,e,h1,h2,h3,h4,h5,h6⟩
  · exact .inl ⟨e,List.eq_nil_of_length_eq_zero h0⟩
  · refine .inr ⟨g,cap,e,hlt h2,h1,fun i hi j hj=>?_⟩
    rw[cellD h2]
    have:=vX_at vs i hi j hj
    rw[← h6,List.getElem?_take,if_pos (by omega)] at this
    simpa using this
theorem row_vform{w:World}{n:Nat}{v:Value}{vs:List VR}(h:w.ownsRow n 158 4 v vs.length (vX vs)):∃ A c,v=.slice A vs.length c:=by
  rcases h.2 with⟨rfl,h0⟩|⟨g,cap,cur,rfl,-⟩
  · exact⟨none,0,by rw[h0]⟩
  · exact⟨_,_,rfl⟩
theorem claim_any{S:Nat→Prop}{Q:World→Prop}{Good:Nat→Prop}{w:World}{s t kn kc tx p:Nat}{kA:Option Addr}{T:TR}{m:List (Int×Value)}
    (VC:Calls Tryz.prog 100 #[.pointer (some ⟨s,0,none⟩),.slice kA kn kc] w fun e w'=>(∃ v n vs,e=.returned (.tuple #[v,.int .i64 0])∧w'.ownsRow n 158 4 v vs.length (vX vs)∧(∀ x∈vs,Good x.by_)∧vs.length≤60)∧Q w'∧Kp S w w')
    (hQb:∀ a b,Below a.heap.size a b→Q a→Q b) (hT:∀ w',Q w'→(∃ sc,w'.heap[s]? = some (.cells sc 125 (0,0))∧sc[13]? = some (.pointer (some ⟨t,0,none⟩)))∧TB w' t T∧MapI w' T.who m)
    (hl:m.lookup (tx:Int)=some (mk 2 p)) (hG:∀ n:Nat,Good n→∃ q,q≤p∧m.lookup (n:Int)=some (mk 3 q)) :
    Calls Tryz.prog 69 #[.pointer (some ⟨s,0,none⟩),.int .i64 (tx:Int),.slice kA kn kc] w fun e w'=>(∃ v n vs,e=.returned (.tuple #[v,.int .i64 0])∧w'.ownsRow n 158 4 v vs.length (vX vs)∧(∀ x∈vs,Good x.by_)∧vs.length≤60)∧Q w'∧Kp S w w':=by
  have HG:=Lib.hid hG
  have HT:=Lib.hid hT
  have HQ:=Lib.hid hQb
  have HL:=Lib.hid hl
  clear hG hT hQb hl
  go_enter Tryz.func69,Tryz.ntmps69
  go_wp2_with (go_at_call 100;(with_reducible refine VC.mono ?_);rintro e w2 ⟨⟨v,n,vs,rfl,hrow,hgd,hlen⟩,hq2,k2⟩;obtain⟨A,c,rfl⟩:=row_vform hrow)
  obtain⟨L,hL⟩:∃ L,vs.length=L:=⟨_,rfl⟩
  have HR:=Lib.hid hrow
  have HGD:=Lib.hid hgd
  have HLV:=Lib.hid hL
  have hL60:L≤60:=by omega
  have HLN:=Lib.hid hlen
  have hform:=row_ver hrow
  have HF:=Lib.hid hform
  rw[hL]
  clear hrow hgd hL hlen hform VC
  go_loopw [24,10] (fun k late wr=>∃ q,q≤L∧k=.int .i64 (q:Nat)∧late=.bool false∧Below w2.heap.size w2 wr) (fun k _ _=>L-(RowKit.intOf k).toNat)
  case atStart=>exact⟨0,Nat.zero_le _,rfl,rfl,Below.refl _ _⟩
  case round=>
    obtain⟨q,hq,rfl,rfl,b3⟩:=hrel
    by_cases hlq:q<L
    · have hqv:q<vs.length:=by rw[HLV.out];exact hlq
      rcases HF.out with⟨-,e⟩|⟨g,c',eg,hg,-,hc⟩
      · subst e;simp at hqv
      injection eg with eg e2 e3
      subst eg e3
      obtain⟨⟨aA,an,ac,vA,vn,vc,by_,sA,sn,scc⟩,hX⟩:∃ X,vs[q]=X:=⟨_,rfl⟩
      have hgq:=HGD.out vs[q] (List.getElem_mem hqv)
      rw[hX] at hgq
      have c0:wr.cell? ⟨g,q * 4,none⟩=some (.slice aA an ac):=(b3.cell (p:=⟨g,q * 4,none⟩) hg).trans (by have:=hc q hqv 0 (by decide);rw[hX] at this;exact this)
      have c1:wr.cell? ⟨g,q * 4+1,none⟩=some (.slice vA vn vc):=(b3.cell (p:=⟨g,q * 4+1,none⟩) hg).trans (by have:=hc q hqv 1 (by decide);rw[hX] at this;exact this)
      have c2:wr.cell? ⟨g,q * 4+2,none⟩=some (.int .i64 (by_:Int)):=(b3.cell (p:=⟨g,q * 4+2,none⟩) hg).trans (by have:=hc q hqv 2 (by decide);rw[hX] at this;exact this)
      have c3:wr.cell? ⟨g,q * 4+3,none⟩=some (.slice sA sn scc):=(b3.cell (p:=⟨g,q * 4+3,none⟩) hg).trans (by have:=hc q hqv 3 (by decide);rw[hX] at this;exact this)
      have hgq':Good by_:=hgq
      obtain⟨pq,hpq,hlk⟩:=HG.out by_ hgq'
      obtain⟨W4,hW4,g4,b4,s4⟩:=box_alloc wr (.cells #[.slice aA an ac,.slice vA vn vc,.int .i64 (by_:Int),.slice sA sn scc] 158)
      have z3:=b3.size
      obtain⟨W5,hW5,e5,b5⟩:=drew_name W4
      have b34:=(b3.trans (b4.mono z3)).trans (b5.mono (Nat.le_trans z3 b4.size))
      obtain⟨⟨sc,hs4,h13⟩,ht4,hm4⟩:=HT.out _ (HQ.out _ _ b34 hq2)
      have x13:W5.cell? ⟨s,13,none⟩=some (.pointer (some ⟨t,0,none⟩)):=(cellD hs4 13).trans h13
      have y2:W5.cell? ⟨wr.heap.size,2,none⟩=some (.int .i64 (by_:Int)):=cellD (keepB b5 g4) 2
      have CF:=conflict_tab ht4 hm4 (tx:Int) (by_:Int) p pq HL.out hlk hpq
      have HS4:=Lib.hid s4
      clear s4 hX hgq hgq' hc e2 hlk hpq h13 hg hqv e5
      go_upto_region 8 with fail
      refine stillW 7 (by kernel_rfl) (by kernel_rfl) W5 hW5 ?_
      simp only[List.take_succ_cons,List.take_zero,List.drop_succ_cons,List.drop_zero]
      repeat still_step
      refine wpStill_nil ?_
      go_wp2_with (go_at_call 164;(with_reducible refine CF.mono ?_);rintro e w6 ⟨rfl,b6⟩)
      refine⟨⟨q+1,by omega,rfl,rfl,b34.trans (b6.mono b34.size)⟩,?_⟩
      simp[RowKit.intOf];omega
    · obtain rfl:q=L:=by omega
      clear hlq hq
      go_wp2
      go_ret2
      have:=HLV.out
      subst this
      exact⟨⟨_,n,vs,rfl,row_keep HR.out b3,HGD.out,HLN.out⟩,HQ.out _ _ b3 hq2,k2.then (Kp.of b3)⟩
structure ST where
  s:Nat
  B:SPt
  m:Nat
  im:Nat
  db:Nat
  n0:Nat
  who:Nat
structure SD where
  S:SR
  J:JR
  R:PR
  b:Bool
  T:TR
  tm:List (Int×Value)
  ov:List Int
  wm:List (Int×Value)
  pv:Value
  P:PD
def SD.hold(D:SD)(f:FR):SD:={ D with R:={ D.R with held:=some f } }
structure StW(X:ST)(D:SD)(w:World):Prop where
  sb:SB w X.s X.B D.S
  jb:JB w X.B.j X.B.d D.J
  jo:Own w X.n0 D.J.wv D.J.waits
  pb:PB (Zj D.J) w X.B.p X.B.d X.m D.R
  ab:AB w X.B.a X.B.p X.B.j X.im D.b
  dk:Dk (Zj D.J) w X.n0 X.B.d X.db D.pv D.P
  tb:TB w X.B.t D.T
  tw:D.T.who=X.who
  tm:MapI w X.who D.tm
  tr:OR w X.n0 D.T.ov D.ov
  wk:MapI w X.B.wk D.wm
  d1:X.m≠X.im
  d2:X.m≠X.who
  d3:X.m≠X.B.wk
  d4:X.im≠X.who
  d5:X.im≠X.B.wk
  d6:X.who≠X.B.wk
structure Free(t:TypeId):Prop where
  t1:t≠125
  t2:t≠232
  t3:t≠5
  t4:t≠318
  t5:t≠364
  t6:t≠251
  t7:t≠147
  t8:t≠33
  t9:t≠203
  t10:t≠235
  t11:t≠3
theorem free_page:Free 116:=⟨by decide,by decide,by decide,by decide,by decide,by decide,by decide,by decide,by decide,by decide,by decide⟩
theorem free_step:Free 260:=⟨by decide,by decide,by decide,by decide,by decide,by decide,by decide,by decide,by decide,by decide,by decide⟩
theorem free_vers:Free 127:=⟨by decide,by decide,by decide,by decide,by decide,by decide,by decide,by decide,by decide,by decide,by decide⟩
theorem free_soft{t:TypeId}(h:Soft t):Free t:=by
  rcases h with rfl|rfl
  · exact free_page
  · exact free_step
section
variable {X:ST}{D:SD}{w w':World}
theorem StW.below(h:StW X D w)(hb:Below w.heap.size w w'):StW X D w':=
  ⟨keepB hb h.sb,keepB hb h.jb,h.jo.belowS hb,h.pb.below hb,h.ab.below hb,h.dk.below hb,h.tb.below hb,h.tw,h.tm.below hb,h.tr.kp (Kp.of (S:=fun _=>False) hb) (fun _ _ h=>h),h.wk.below hb,h.d1,h.d2,h.d3,h.d4,h.d5,h.d6⟩
theorem StW.soft{N:Nat}{cs:Array Value}{t:TypeId}(h:StW X D w)(k:Kp (·=N) w w')(hg:w.heap[N]? = some (.cells cs t (0,0)))(ht:Free t):StW X D w':=by
  have ne:∀ {g:Nat} {x:Array Value} {u:TypeId} {z:Nat×Nat},w.heap[g]? = some (.cells x u z)→t≠u→¬g=N:=fun e hu q=>tag_ne e hg (fun q=>hu q.symm) q
  have nm:∀ {g:Nat} {l:List (Int×Value)},MapI w g l→¬g=N:=fun e q=>e.ne hg q
  refine⟨k.keep h.sb (ne h.sb ht.t1),k.keep h.jb (ne h.jb ht.t2),h.jo.kp k (fun g e q=>h.jo.tag hg ht.t3 (q▸e)),h.pb.kp k (ne h.pb.box ht.t4) (nm h.pb.map) (fun f hf=>?_) (fun _ _ h=>h),h.ab.kp k (ne h.ab.box ht.t6) (nm h.ab.map),h.dk.apart k (fun g o e q=>?_),k.keep h.tb (ne h.tb ht.t10),h.tw,h.tm.kp k (nm h.tm),h.tr.kp k (fun g e q=>h.tr.ne hg ht.t11 (q▸e)),h.wk.kp k (nm h.wk),h.d1,h.d2,h.d3,h.d4,h.d5,h.d6⟩
  · obtain⟨cur,e,-⟩:=(h.pb.fr f hf).row
    exact⟨ne e ht.t5,fun g e1 e2=>(h.pb.fr f hf).pay.tag hg ht.t3 (e2▸e1)⟩
  · rw[show g=N from e,hg] at q
    injection q with q
    subst q
    exact⟨NoD.cells ht.t7 ht.t8 ht.t9,.inr fun x e=>by injection e with _ e;exact ht.t3 e⟩
theorem StW.pool{S:Nat→Prop}{R':PR}(h:StW X D w)(k:Kp S w w')(hS:∀ g,S g→g<w.heap.size→g=X.B.p∨g=X.m∨∃ cs,w.heap[g]? = some (.cells cs 364 (0,0)))(pb:PB (Zj D.J) w' X.B.p X.B.d X.m R'):StW X { D with R:=R' } w':=by
  have ne:∀ {g:Nat} {x:Array Value} {u:TypeId} {z:Nat×Nat},w.heap[g]? = some (.cells x u z)→u≠318→u≠364→¬S g:=fun {g x u z} e h1 h2 q=>by
    rcases hS g q (hlt e) with q|q|⟨cs,q⟩
    · exact tag_ne e h.pb.box h1 q
    · exact h.pb.map.ne e q.symm
    · exact tag_ne e q h2 rfl
  have nm:∀ {g:Nat} {l:List (Int×Value)},MapI w g l→X.m≠g→¬S g:=fun {g l} e h1 q=>by
    rcases hS g q e.lt with q|q|⟨cs,q⟩
    · exact e.ne h.pb.box q
    · exact h1 q.symm
    · exact e.ne q rfl
  have no:∀ {B:Nat} {v:Value} {l:List UInt8} {g:Nat},Own w B v l→v.ownBlock=some g→¬S g:=fun {B v l g} o e q=>by
    rcases hS g q (o.lt g e) with q|q|⟨cs,q⟩
    · subst q;exact o.tag h.pb.box (by decide) e
    · subst q;exact o.tagm h.pb.map e
    · exact o.tag q (by decide) e
  refine⟨k.keep h.sb (ne h.sb (by decide) (by decide)),k.keep h.jb (ne h.jb (by decide) (by decide)),h.jo.kp k (fun g e=>no h.jo e),pb,h.ab.kp k (ne h.ab.box (by decide) (by decide)) (nm h.ab.map h.d1),h.dk.apart k (fun g o e q=>?_),k.keep h.tb (ne h.tb (by decide) (by decide)),h.tw,h.tm.kp k (nm h.tm h.d2),h.tr.kp k (fun g e q=>?_),h.wk.kp k (nm h.wk h.d3),h.d1,h.d2,h.d3,h.d4,h.d5,h.d6⟩
  · rcases hS g e (hlt q) with e|e|⟨cs,e⟩
    · subst e;rw[h.pb.box] at q;injection q with q;subst q
      exact⟨NoD.cells (by decide) (by decide) (by decide),.inr fun x e=>by injection e with _ e;exact absurd e (by decide)⟩
    · subst e
      obtain⟨E,c,hE,-⟩:=h.pb.map
      rw[hE] at q;injection q with q;subst q
      exact⟨NoD.map _ _,.inr fun x e=>nomatch e⟩
    · rw[e] at q;injection q with q;subst q
      exact⟨NoD.cells (by decide) (by decide) (by decide),.inr fun x e=>by injection e with _ e;exact absurd e (by decide)⟩
  · rcases hS g q (h.tr.lt e).1 with q|q|⟨cs,q⟩
    · subst q;exact h.tr.ne h.pb.box (by decide) e
    · subst q;exact h.tr.nem h.pb.map e
    · exact h.tr.ne q (by decide) e
end
theorem below_ex(l:List UInt8):∀ cs:List NC,∃ j,BelowIs cs l j
  | []=>⟨0,Nat.le_refl _,fun i h=>absurd h (by simp),fun h=>absurd h (by simp)⟩
  | c :: cs => by
    by_cases h0:0<Lib.compareBytes c.key l
    · exact⟨0,Nat.zero_le _,fun i _ h=>absurd h (by omega),fun _=>h0⟩
    · obtain⟨j,h1,h2,h3⟩:=below_ex l cs
      refine⟨j+1,by simpa using h1,fun i hi hij=>?_,fun h=>?_⟩
      · match i with
        | 0=>exact Int.not_lt.1 h0
        | i+1=>exact h2 i (by simpa using hi) (by omega)
      · exact h3 (by simpa using h)
def SG (X:ST)(D:SD)(k:Nat):Prop:=k=X.B.p∨k=X.m∨∃ f,D.R.held=some f∧k=f.fr
def PgIs (D:SD)(l:List UInt8):Prop:=(∃ f,D.R.held=some f∧f.bytes=l)∨(D.R.held=none∧D.pv=.slice none 0 0∧∃ st,D.P.bs[D.R.base+1]? = some (sealed l st))
def Qh (X:ST)(D:SD)(l:List UInt8)(w:World):Prop:=∃ f,f.bytes=l∧(D.R.held=some f∨D.R.held=none∧f.lsn=0∧f.dirty=false∧X.n0≤f.fr)∧StW X (D.hold f) w
theorem SD.hold_self{D:SD}{f:FR}(h:D.R.held=some f):D.hold f=D:=by
  obtain⟨S,J,⟨a,b,c,d,e,g⟩,b',T,tm,ov,wm,pv,P⟩:=D
  have:g=some f:=h
  subst this;rfl
section
variable {X:ST}{D:SD}{w w':World}{l:List UInt8}
theorem StW.sg(h:StW X D w){k:Nat}(e:SG X D k):k<w.heap.size:=by
  rcases e with e|e|⟨f,hf,e⟩
  · rw[e];exact hlt h.pb.box
  · rw[e];exact h.pb.map.lt
  · rw[e];exact(h.pb.fr f hf).lt
theorem StW.sgT(h:StW X D w):∀ g,SG X D g→g<w.heap.size→g=X.B.p∨g=X.m∨∃ cs,w.heap[g]? = some (.cells cs 364 (0,0)):=fun g e _=>by
  rcases e with e|e|⟨f,hf,e⟩
  · exact .inl e
  · exact .inr (.inl e)
  · obtain⟨cur,hc,-⟩:=(h.pb.fr f hf).row
    exact .inr (.inr ⟨cur,by rw[e];exact hc⟩)
theorem get_pool(h:StW X D w)(hp:PgIs D l)(hl:l.length=4080)(hb:D.R.base+1<D.P.bs.length)(hB:D.R.base≤100000) :
    Calls Tryz.prog 274 #[.pointer (some ⟨X.B.p,0,none⟩),.int .i64 1] w fun e w'=>(∃ v,e=.returned (.tuple #[v,.int .i64 0])∧Own w' 0 v l)∧Qh X D l w'∧Kp (SG X D) w w':=by
  rcases hp with⟨f,hf,hfl⟩|⟨hn,hpv,st,hd⟩
  · refine(pget1_any h.pb hf).mono ?_
    rintro e w' ⟨⟨v,rfl,ho⟩,hpb,k⟩
    have k':Kp (SG X D) w w':=k.weaken fun g e=>.inr (.inr ⟨f,hf,e⟩)
    refine⟨⟨v,rfl,hfl▸ho.down (Nat.zero_le _)⟩,⟨f,hfl,.inl hf,?_⟩,k'⟩
    rw[SD.hold_self hf]
    exact h.pool k' h.sgT hpb
  · have dk:=h.dk
    rw[hpv] at dk
    refine(pget0_any h.pb hn dk hb hB hd hl).mono ?_
    rintro e w' ⟨⟨v,rfl,ho⟩,⟨f,hpb,f1,f2,f3,f4,-⟩,k⟩
    have k':Kp (SG X D) w w':=k.weaken fun g e=>e.elim .inl fun e=>.inr (.inl e)
    exact⟨⟨v,rfl,ho.down (Nat.zero_le _)⟩,⟨f,f1,.inr ⟨hn,f2,f3,Nat.le_trans h.dk.base f4⟩,h.pool k' h.sgT hpb⟩,k'⟩
def Qs (Z:Nat→Prop)(X:ST)(D:SD)(l:List UInt8)(x sx:Nat)(w:World):Prop:=XB Z w x X.B.a sx none∧Qh X D l w
theorem Qh.below(h:Qh X D l w)(hb:Below w.heap.size w w'):Qh X D l w':=by
  obtain⟨f,h1,h2,h3⟩:=h
  exact⟨f,h1,h2,h3.below hb⟩
theorem Qh.soft{N:Nat}{cs:Array Value}{t:TypeId}(h:Qh X D l w)(k:Kp (·=N) w w')(hg:w.heap[N]? = some (.cells cs t (0,0)))(ht:Free t):Qh X D l w':=by
  obtain⟨f,h1,h2,h3⟩:=h
  exact⟨f,h1,h2,h3.soft k hg ht⟩
theorem stb_qs(Z:Nat→Prop)(X:ST)(D:SD)(l:List UInt8)(x sx:Nat):Stb (Qs Z X D l x sx):=
  ⟨fun _ _ b q=>⟨q.1.below b,q.2.below b⟩,fun _ _ N cs t ht hg k q=>⟨q.1.kp k (tag_ne q.1.box hg (by rcases ht with rfl | rfl<;>decide)) (q.1.map.ne hg) (fun u e=>nomatch e) (fun _ _ h=>h),q.2.soft k hg (free_soft ht)⟩⟩
theorem xget_st{Z:Nat→Prop}{x sx:Nat}(h:StW X D w)(hx:XB Z w x X.B.a sx none)(hm:sx≠X.m)(hp:PgIs D l)(hl:l.length=4080)(hb:D.R.base+1<D.P.bs.length)(hB:D.R.base≤100000) :
    Calls Tryz.prog 240 #[.pointer (some ⟨x,0,none⟩),.int .i64 1] w fun e w'=>(∃ v,e=.returned (.tuple #[v,.int .i64 0])∧Own w' 0 v l)∧Qs Z X D l x sx w'∧Kp (SG X D) w w':=by
  refine(xget_pool (Q:=fun v w'=>Own w' 0 v l∧Qh X D l w'∧Kp (SG X D) w w') hx h.ab ((get_pool h hp hl hb hB).mono ?_)).mono ?_
  · rintro e w' ⟨⟨v,rfl,ho⟩,hq,k⟩
    exact⟨v,rfl,ho,hq,k⟩
  · rintro e w' ⟨v,rfl,ho,hq,k⟩
    refine⟨⟨v,rfl,ho⟩,⟨hx.kp k (fun e=>?_) (fun e=>?_) (fun u e=>nomatch e) (fun _ _ h=>h),hq⟩,k⟩
    · rcases h.sgT _ e (hlt hx.box) with e|e|⟨cs,e⟩
      · exact tag_ne hx.box h.pb.box (by decide) e
      · exact h.pb.map.ne hx.box e.symm
      · exact tag_ne hx.box e (by decide) rfl
    · rcases h.sgT _ e hx.map.lt with e|e|⟨cs,e⟩
      · exact hx.map.ne h.pb.box e
      · exact hm e
      · exact hx.map.ne e rfl
end
theorem vkey_len(k:List UInt8)(n:Nat):(vkey k n).length=(txt k 0).length+8:=by unfold vkey;rw[List.length_append,le_len]
theorem vers_st{X:ST}{D:SD}{w:World}{kn kc:Nat}{kA:Option Addr}{k:List UInt8}{cs:List NC}{Good:Nat→Prop}(h:StW X D w)(hp:PgIs D (pgL 1 0 cs))(hok:PageOk 1 0 cs)(hv1:∀ c∈cs,1≤c.vn)(hb:D.R.base+1<D.P.bs.length)(hB:D.R.base≤100000)(hn:cs.length≤60)
    (hr:Rd w w.heap.size kA k) (hk:kn=k.length) (hk3:k.length≤3)
    (hcs:∀ c∈cs,∃ k n,c.key=vkey k n∧1≤k.length∧k.length≤128∧n≤4611686018427387904∧Good n) :
    Calls Tryz.prog 100 #[.pointer (some ⟨X.s,0,none⟩),.slice kA kn kc] w fun e w'=>(∃ v n vs,e=.returned (.tuple #[v,.int .i64 0])∧w'.ownsRow n 158 4 v vs.length (vX vs)∧(∀ x∈vs,Good x.by_)∧vs.length≤60)∧Qh X D (pgL 1 0 cs) w'∧Kp (SG X D) w w':=by
  have hl:=pg_len hok
  have et:(txt k 0).length≤8:=by have:=esc_len k;rw[txt_len];omega
  refine versions_any (Z:=fun _=>False) (S:=SG X D) h.sb rfl h.ab hr hk (by omega) (fun k e=>h.sg e) (fun w1 x sx fa fc ta tc b1 hx hxl hsl o1 o2=>?_) hcs (fun bx a b q kk hg=>q.soft kk hg free_vers)
  obtain⟨i,hi⟩:=below_ex (txt k 0) cs
  have h1:=h.below b1
  have LD:=load_any (S:=SG X D) (x:=x) hok hv1 (stb_qs (fun _=>False) X D (pgL 1 0 cs) x sx) (fun k e=>h1.sg e) (fun w2 b2=>xget_st (h1.below b2) (hx.below b2) (fun e=>by have:=h.pb.map.lt;omega) hp hl hb hB)
  have DN:=down_any (key:=.slice fa (txt k 0).length fc) (stb_qs (fun _=>False) X D (pgL 1 0 cs) x sx) LD
  have rd:∀ {A:Option Addr} {n c:Nat} {l:List UInt8},Own w1 w.heap.size (.slice A n c) l→∀ w',Kp (SG X D) w1 w'→Rd w' w1.heap.size A l:=fun {A n c l} o w' kk=>by
    obtain⟨A',c',e,-,-,r⟩:=(o.kp kk fun g e q=>by have:=o.blk g e;have:=h.sg q;omega).slice
    injection e with e1 e2 e3
    subst e1
    intro hne
    obtain⟨b,o',e4,-,hc⟩:=r hne
    exact⟨b,o',e4,o.lt b (by rw[e4];rfl),hc⟩
  refine(scan_any DN (stb_qs (fun _=>False) X D (pgL 1 0 cs) x sx) (rd o1) rfl (rd o2) rfl (by rw[txt_len];omega) hi (fun c hc e=>?_) hn).mono ?_
  · obtain⟨k',n',e1,-⟩:=hcs c hc
    rw[e1] at e
    have:=congrArg List.length e
    rw[vkey_len,txt_len] at this
    omega
  · rintro e w' ⟨h5,h6,h7⟩
    exact⟨h5,h6.2,h7⟩
end Go.Proofs.YtdbkocfbhpgpkaaGreat
