/-
  What any call upon the store may turn; what is kept to take writes back.
-/
import Derived.Test.YtdbkocfbhpgpkaaGreatb35
set_option linter.unusedVariables false
set_option linter.unusedSimpArgs false
namespace Go.Proofs.YtdbkocfbhpgpkaaGreat
open Go Go.RowKit Go.Shelf
open Go.Ev (PgM PageOk CellsOut rowsOf rowsV rowV rowsOf_len BelowIs)
set_option maxRecDepth 100000
set_option maxHeartbeats 4000000
theorem pairs_g{Z:Nat→Prop}{w:World}{s a p j im be fn fc tn tc:Nat}{fa ta:Option Addr}{b:Bool}(I:Option Addr→List CV→World→Nat→World→Prop)
    (c6:w.cell? ⟨s,12,none⟩=some (.pointer (some ⟨a,0,none⟩))) (ha:AB w a p j im b)
    (SC:∀ w1 x sx,Below w.heap.size w w1→XB Z w1 x a sx none→w.heap.size≤x→w.heap.size≤sx→Calls Tryz.prog 187 #[.pointer (some ⟨x,0,none⟩),.slice fa fn fc,.slice ta tn tc,.int .i64 64] w1 fun e w2=>∃ A c cv,e=.returned (.tuple #[.slice A cv.length c,.int .i64 0])∧cv.length≤60∧I A cv w2 0 w2)
    (RD:∀ A cv w2 q wr,I A cv w2 q wr→RdC wr wr.heap.size A cv)
    (SB:∀ A cv w2 q wr wr',I A cv w2 q wr→Below wr.heap.size wr wr'→I A cv w2 q wr')
    (ST:∀ A cv w2 q wr (h:q<cv.length),I A cv w2 q wr→Calls Tryz.prog 191 #[.agg #[cv[q].k,cv[q].v],.pointer (some ⟨be,0,none⟩)] wr fun e w'=>e=.returned (.bool true)∧I A cv w2 (q+1) w') :
    Calls Tryz.prog 88 #[.pointer (some ⟨s,0,none⟩),.slice fa fn fc,.slice ta tn tc,.func (.func 191) #[] #[.pointer (some ⟨be,0,none⟩)]] w fun e w'=>e=.returned (.int .i64 0)∧∃ A cv w2,I A cv w2 cv.length w':=by
  have BG:=abegin_any (Z:=Z) ha
  have HSC:=Lib.hid SC
  have HRD:=Lib.hid RD
  have HSB:=Lib.hid SB
  have HST:=Lib.hid ST
  clear SC RD SB ST
  go_enter Tryz.func88,Tryz.ntmps88
  go_wp2
  go_loopw [1] (fun f wr=>f=.slice fa fn fc∧wr=w) (fun _ _=>0)
  case atStart=>exact⟨rfl,rfl⟩
  case round=>
    obtain⟨rfl,rfl⟩:=hrel
    obtain⟨w0,rfl⟩:∃ w0,w0=wr:=⟨_,rfl⟩
    go_upto_region 4 with (first
      | (go_at_call 87;(with_reducible refine BG.mono ?_);rintro e w1 ⟨⟨x,sx,rfl,hx1,hxl,hsl⟩,b1⟩;have SC1:=HSC.out w1 x sx b1 hx1 hxl hsl)
      | (go_at_call 187;(with_reducible refine SC1.mono ?_);rintro e w2 ⟨A,c,cv,rfl,hlen,hI⟩))
    obtain⟨L,hL⟩:∃ L,cv.length=L:=⟨_,rfl⟩
    have HL:=Lib.hid hL
    have hL60:L≤60:=by omega
    rw[hL]
    clear hlen hL b1
    go_wp2
    go_loopw [29] (fun k wr=>∃ q,q≤L∧k=.int .i64 (q:Nat)∧I A cv w2 q wr) (fun k _=>L-(RowKit.intOf k).toNat)
    case atStart=>exact⟨0,Nat.zero_le _,rfl,hI⟩
    case round=>
      obtain⟨q,hqL,rfl,hq⟩:=hrel
      by_cases hlt:q<L
      · have hqv:q<cv.length:=by rw[HL.out];exact hlt
        obtain⟨bb,oo,rfl,hbb,hcc⟩:=HRD.out _ _ _ _ _ hq (by rintro rfl;simp at hqv)
        obtain⟨c1,c2⟩:=hcc q hqv
        obtain⟨⟨ka,kn,kc,va,vn,vc⟩,hX⟩:∃ X,cv[q]=X:=⟨_,rfl⟩
        rw[hX] at c1 c2
        have d1:wr.cell? ⟨bb,oo+q * 2,none⟩=some (.slice ka kn kc):=c1
        have d2:wr.cell? ⟨bb,oo+q * 2+1,none⟩=some (.slice va vn vc):=c2
        obtain⟨W6,hW6,g6,b6,s6⟩:=box_alloc wr (.cells #[.slice ka kn kc,.slice va vn vc] 68)
        have y0:W6.cell? ⟨wr.heap.size,0,none⟩=some (.slice ka kn kc):=cellD g6 0
        have y1:W6.cell? ⟨wr.heap.size,1,none⟩=some (.slice va vn vc):=cellD g6 1
        have EA:=HST.out _ _ _ _ _ hqv (HSB.out _ _ _ _ _ _ hq b6)
        rw[hX] at EA
        have EA':Calls Tryz.prog 191 #[.agg #[.slice ka kn kc,.slice va vn vc],.pointer (some ⟨be,0,none⟩)] W6 fun e w'=>e=.returned (.bool true)∧I (some ⟨bb,oo,none⟩) cv w2 (q+1) w':=EA
        clear c1 c2 hX hcc hbb s6 EA
        go_wp2_with (go_at_call 191;(with_reducible refine EA'.mono ?_);rintro e w7 ⟨rfl,hq7⟩)
        refine⟨⟨q+1,by omega,rfl,hq7⟩,?_⟩
        simp[RowKit.intOf];omega
      · obtain rfl:q=L:=by omega
        clear hlt hqL
        go_wp2
        go_ret
        exact⟨rfl,A,cv,w2,by rw[HL.out];exact hq⟩
theorem each_g{w:World}{s id:Nat}{f t:Value}{caps:Array Value}{Pw:World→Prop}
    (PR:∀ W1,w.alloc (.cells #[.func (.func id) #[] caps] 165)=W1→Calls Tryz.prog 88 #[.pointer (some ⟨s,0,none⟩),f,t,.func (.func 191) #[] #[.pointer (some ⟨w.heap.size,0,none⟩)]] W1 fun e w'=>e=.returned (.int .i64 0)∧Pw w') :
    Calls Tryz.prog 95 #[.pointer (some ⟨s,0,none⟩),f,t,.func (.func id) #[] caps] w fun e w'=>e=.returned (.int .i64 0)∧Pw w':=by
  have hmf:∀ (fn:Fn) (first cap:Array Value) (w:World),(Instr.makeFunc fn first cap).run Tryz.prog w=.ok (.func fn first cap) w:=fun _ _ _ _=>rfl
  obtain⟨W1,hW1,g1,b1,s1⟩:=box_alloc w (.cells #[.func (.func id) #[] caps] 165)
  have P1:=PR W1 hW1
  clear s1 PR
  go_enter Tryz.func95,Tryz.ntmps95
  go_wp2_with (go_at_call 88;(with_reducible refine P1.mono ?_);rintro e w3 ⟨rfl,h3⟩)
  go_ret
  exact⟨rfl,h3⟩
theorem veach_g{w:World}{m bx be:Nat}{vs:List VR}{cv:CV}{n:Nat}{k:List UInt8}(h:VB w m bx vs)(hn:vs.length≤1000)(hmw:m≤w.heap.size)(hbe:w.heap[be]? = some (.cells #[.func (.func 196) #[] #[.pointer (some ⟨bx,0,none⟩)]] 165 (0,0)))
    (hr:Rd w w.heap.size cv.ka (vkey k n)) (hkn:cv.kn=(vkey k n).length) (h1:1≤k.length) (h2:k.length≤128) (hnn:n≤4611686018427387904) :
    Calls Tryz.prog 191 #[.agg #[cv.k,cv.v],.pointer (some ⟨be,0,none⟩)] w fun e w'=>e=.returned (.bool true)∧(∃ x:VR,x.by_=n∧x.sA=cv.va∧x.sn=cv.vn∧x.sc=cv.vc∧VB w' m bx (vs++[x]))∧Kp (fun k=>k=bx∨m≤k) w w':=by
  obtain⟨ka,kn,kc,va,vn,vc⟩:=cv
  show Calls Tryz.prog 191 #[.agg #[.slice ka kn kc,.slice va vn vc],.pointer (some ⟨be,0,none⟩)] w _
  dsimp only at hr hkn
  obtain⟨W1,hW1,g1,b1,s1⟩:=box_alloc w (.cells #[.slice ka kn kc,.slice va vn vc] 68)
  have PT:=part_any ka kn kc n k W1 ((hr.below b1).more b1.size) hkn h1 h2 hnn
  have y0:W1.cell? ⟨w.heap.size,0,none⟩=some (.slice ka kn kc):=cellD g1 0
  have y1:W1.cell? ⟨w.heap.size,1,none⟩=some (.slice va vn vc):=cellD g1 1
  have AF:=fun(w2:World) (b2:Below W1.heap.size W1 w2) (B:Option Addr) (d:Nat)=>vsee_any (x:=⟨ka,kn,kc,B,k.length,d,n,va,vn,vc⟩) (h.below (b1.trans (b2.mono b1.size))) hn (Nat.le_trans hmw (Nat.le_trans b1.size b2.size))
  have HA:=Lib.hid AF
  have HS1:=Lib.hid s1
  clear AF s1 hr hkn h1 h2 hnn hn
  go_enter Tryz.func191,Tryz.ntmps191
  go_upto_region 2 with (go_at_call 90;(with_reducible refine PT.mono ?_);rintro e w2 ⟨⟨B,d,rfl,-⟩,b2⟩;have V:=HA.out w2 b2 B d;have x0:w2.cell? ⟨w.heap.size,0,none⟩=some (.slice ka kn kc):=cellD (keepB b2 g1) 0;have x1:w2.cell? ⟨w.heap.size,1,none⟩=some (.slice va vn vc):=cellD (keepB b2 g1) 1;have xb:w2.cell? ⟨be,0,none⟩=some (.func (.func 196) #[] #[.pointer (some ⟨bx,0,none⟩)]):=cellD (keepB b2 (keepB b1 hbe)) 0)
  have b12:=b1.trans (b2.mono b1.size)
  go_wp2_with (go_at_call 196;(with_reducible refine V.mono ?_);rintro e w3 ⟨rfl,hv3,k3⟩)
  go_ret
  exact⟨rfl,⟨⟨ka,kn,kc,B,k.length,d,n,va,vn,vc⟩,rfl,rfl,rfl,rfl,hv3⟩,(Kp.of b12).then k3⟩
def IsV (c:NC):Prop:=∃ k n,c.key=vkey k n∧1≤k.length∧k.length≤128∧n≤4611686018427387904
structure VOf(w:World)(n₀:Nat)(x:VR)(c:NC):Prop where
  by_:∃ k,c.key=vkey k x.by_∧1≤k.length∧k.length≤128∧x.by_≤4611686018427387904
  sn:x.sn=c.vn
  s:Own w n₀ (.slice x.sA x.sn x.sc) c.val
def VsOf (w:World)(n₀:Nat)(vs:List VR)(ps:List NC):Prop:=vs.length=ps.length∧∀ j (h:j<vs.length) (g:j<ps.length),VOf w n₀ vs[j] ps[j]
theorem VOf.kp{S:Nat→Prop}{w w':World}{n₀:Nat}{x:VR}{c:NC}(h:VOf w n₀ x c)(k:Kp S w w')(hS:∀ g,(Value.slice x.sA x.sn x.sc).ownBlock=some g→¬S g):VOf w' n₀ x c:=⟨h.by_,h.sn,h.s.kp k hS⟩
theorem versions_g{Z S:Nat→Prop}{Q:World→Prop}{w:World}{s a p j im kn kc:Nat}{kA:Option Addr}{k:List UInt8}{b:Bool}{ps:List NC}{sc:Array Value}
    (hs:w.heap[s]? = some (.cells sc 125 (0,0))) (h12:sc[12]? = some (.pointer (some ⟨a,0,none⟩))) (ha:AB w a p j im b)
    (hr:Rd w w.heap.size kA k) (hk:kn=k.length) (hkl:k.length≤128) (hS:∀ k,S k→k<w.heap.size)
    (SC:∀ w1 x sx fa fc ta tc,Below w.heap.size w w1→XB Z w1 x a sx none→w.heap.size≤x→w.heap.size≤sx→Own w1 w.heap.size (.slice fa (txt k 0).length fc) (txt k 0)→Own w1 w.heap.size (.slice ta (txt k 1).length tc) (txt k 1)→Calls Tryz.prog 187 #[.pointer (some ⟨x,0,none⟩),.slice fa (txt k 0).length fc,.slice ta (txt k 1).length tc,.int .i64 64] w1 fun e w'=>ScO w1 ps e w'∧Q w'∧Kp S w1 w')
    (hn:ps.length≤60) (hcs:∀ c∈ps,IsV c)
    (hQ:∀ bx a b,Q a→Kp (·=bx) a b→a.heap[bx]? = some (.cells #[.slice none 0 0] 127 (0,0))→Q b) :
    Calls Tryz.prog 100 #[.pointer (some ⟨s,0,none⟩),.slice kA kn kc] w fun e w'=>(∃ v n vs,e=.returned (.tuple #[v,.int .i64 0])∧w'.ownsRow n 158 4 v vs.length (vX vs)∧w.heap.size≤n∧VsOf w' w.heap.size vs ps)∧Q w'∧Kp S w w':=by
  have hmf:∀ (fn:Fn) (first cap:Array Value) (w:World),(Instr.makeFunc fn first cap).run Tryz.prog w=.ok (.func fn first cap) w:=fun _ _ _ _=>rfl
  obtain⟨W1,hW1,g1,b1,s1⟩:=box_alloc w (.cells #[.slice none 0 0] 127)
  have F1:=first_any kA kn kc k W1 ((hr.below b1).more b1.size) hk (by omega)
  have B1:=fun w2 (b2:Below W1.heap.size W1 w2)=>behind_any kA kn kc k w2 ((hr.below (b1.trans (b2.mono b1.size))).more (Nat.le_trans b1.size b2.size)) hk (by omega)
  have HB:=Lib.hid B1
  have EA:∀ w3,Below W1.heap.size W1 w3→∀ f t,Own w3 W1.heap.size f (txt k 0)→Own w3 W1.heap.size t (txt k 1)→Calls Tryz.prog 95 #[.pointer (some ⟨s,0,none⟩),f,t,.func (.func 196) #[] #[.pointer (some ⟨w.heap.size,0,none⟩)]] w3 fun e w'=>e=.returned (.int .i64 0)∧(∃ n vs,w.heap.size≤n∧VsOf w' w.heap.size vs ps∧VB w' n w.heap.size vs)∧Q w'∧Kp (fun k=>S k∨k=w.heap.size) w w':=fun w3 b3 f t hf ht=>by
    obtain⟨fa,fc,rfl,-⟩:=hf.slice
    obtain⟨ta,tc,rfl,-⟩:=ht.slice
    refine each_g fun W4 hW4=>?_
    obtain⟨W4',hW4',g4,b4,s4⟩:=box_alloc w3 (.cells #[.func (.func 196) #[] #[.pointer (some ⟨w.heap.size,0,none⟩)]] 165)
    obtain rfl:W4'=W4:=hW4'.symm.trans hW4
    have b13:=b1.trans (b3.mono b1.size)
    have b14:=b13.trans (b4.mono b13.size)
    have hs4:=keepB b14 hs
    have g14:W4'.heap[w.heap.size]? = some (.cells #[.slice none 0 0] 127 (0,0)):=keepB b4 (keepB b3 g1)
    have nb:w3.heap.size≠w.heap.size:=by have:=b13.size;have:=b1.size;have:=b3.size;omega
    refine(pairs_g (Z:=Z) (I:=fun A cv w2 q wr=>Q w2∧Kp S W4' w2∧RdC w2 w2.heap.size A cv∧cv.length=ps.length∧(∀ j (h:j<cv.length) (g:j<ps.length),CVO w2 w.heap.size cv[j] ps[j]) ∧
      w2.heap[w.heap.size]? = some (.cells #[.slice none 0 0] 127 (0,0))∧w2.heap[w3.heap.size]? = some (.cells #[.func (.func 196) #[] #[.pointer (some ⟨w.heap.size,0,none⟩)]] 165 (0,0)) ∧
      ∃ vs,vs.length=q∧(∀ j (h:j<vs.length) (g:j<ps.length),VOf w2 w.heap.size vs[j] ps[j])∧VB wr w2.heap.size w.heap.size vs∧Kp (·=w.heap.size) w2 wr)
      ((cellD hs4 12).trans h12) (ha.below b14) (fun w1 x sx bb hx h1 h2=>?_) (fun A cv w2 q wr hI=>?_) (fun A cv w2 q wr wr' hI hb=>?_) (fun A cv w2 q wr hq hI=>?_)).mono ?_
    · refine(SC w1 x sx fa fc ta tc (b14.trans (bb.mono b14.size)) hx (Nat.le_trans b14.size h1) (Nat.le_trans b14.size h2) ?_ ?_).mono ?_
      · exact((hf.belowS b4).belowS bb).down b1.size
      · exact((ht.belowS b4).belowS bb).down b1.size
      · rintro e w2 ⟨⟨A,c,cv,rfl,hrd,hl,hcv⟩,hq2,k2⟩
        have z1:=b14.size
        have z2:=bb.size
        have z3:=b4.size
        have n1:¬S w.heap.size:=fun e=>by have:=hS _ e;omega
        have n3:¬S w3.heap.size:=fun e=>by have:=hS _ e;have:=b13.size;omega
        refine⟨A,c,cv,rfl,by omega,hq2,(Kp.of bb).then k2,hrd,hl,fun j h g=>?_,k2.keep (keepB bb g14) n1,k2.keep (keepB bb g4) n3,[],rfl,fun j h=>by simp at h,⟨_,k2.keep (keepB bb g14) n1,World.ownsRow_nil _ _ _ _⟩,Kp.refl _ _⟩
        have o:=hcv j h g
        exact⟨o.kn,o.vn,o.k.down (by omega),o.v.down (by omega)⟩
    · obtain⟨-,-,hrd,-,-,g2,-,vs,-,-,-,k3⟩:=hI
      exact fun hne=>by
        obtain⟨bb,oo,e,hbb,hcc⟩:=hrd.kbx (Nat.le_refl _) k3 g2 hne
        exact⟨bb,oo,e,by have:=k3.size;omega,hcc⟩
    · obtain⟨a1,a2,a3,a4,a5,a6,a7,vs,a8,a9,a10,k3⟩:=hI
      exact⟨a1,a2,a3,a4,a5,a6,a7,vs,a8,a9,a10.below hb,k3.then (Kp.of hb)⟩
    · obtain⟨a1,a2,a3,a4,a5,a6,a7,vs,a8,a9,a10,k3⟩:=hI
      have hqp:q<ps.length:=by omega
      obtain⟨kk,n,hkey,h1,h2,h3⟩:=hcs ps[q] (List.getElem_mem hqp)
      have o:=a5 q hq hqp
      have nk:∀ {v:Value} {l:List UInt8} {B:Nat},Own w2 B v l→∀ g,v.ownBlock=some g→¬g=w.heap.size:=fun o g e1 e2=>o.tag a6 (by decide) (e2▸e1)
      have ok:=o.k.kp k3 (nk o.k)
      have rk:Rd wr wr.heap.size cv[q].ka (vkey kk n):=by
        rw[← hkey]
        obtain⟨A',c',e,-,-,r⟩:=ok.slice
        injection e with e
        rw[e];exact r
      have z3:=k3.size
      refine(veach_g a10 (by omega) z3 (k3.keep a7 nb) rk (by rw[← hkey,o.kn];simp[NC.key,bl]) h1 h2 h3).mono ?_
      rintro e w7 ⟨rfl,⟨x,hx1,hx2,hx3,hx4,hv7⟩,k7⟩
      have k37:Kp (·=w.heap.size) w2 w7:=k3.trans k7 fun g hg e=>by
        rcases e with e|e
        · exact e
        · omega
      refine⟨rfl,a1,a2,a3,a4,a5,a6,a7,vs++[x],by simp[a8],fun j hj hg=>?_,hv7,k37⟩
      by_cases hjq:j<vs.length
      · rw[List.getElem_append_left hjq]
        exact a9 j hjq hg
      · have:j=vs.length:=by simp at hj;omega
        subst this
        rw[List.getElem_concat_length (by rfl)]
        have e5:ps[vs.length]=ps[q]:=by congr 1
        rw[e5]
        refine⟨⟨kk,by rw[hx1];exact hkey,h1,h2,by rw[hx1];exact h3⟩,by rw[hx3];exact o.vn,?_⟩
        rw[hx2,hx3,hx4]
        exact o.v
    · rintro e w' ⟨rfl,A,cv,w2,a1,a2,a3,a4,a5,a6,a7,vs,a8,a9,a10,k3⟩
      refine⟨rfl,⟨_,vs,by have:=a2.size;have:=b14.size;omega,⟨by omega,fun j h g=>(a9 j h g).kp k3 fun g' e1 e2=>(a9 j h g).s.tag a6 (by decide) (e2▸e1)⟩,a10⟩,hQ _ _ _ a1 k3 a6,((Kp.of b14).then (a2.weaken fun _ e=>.inl e)).then (k3.weaken fun _ e=>.inr e)⟩
  have HE:=Lib.hid EA
  have HS1:=Lib.hid s1
  clear B1 EA s1 hcs hQ SC hr hk hn
  go_enter Tryz.func100,Tryz.ntmps100
  go_wp2_with (first
    | (go_at_call 94;(with_reducible refine F1.mono ?_);rintro e w2 ⟨⟨u1,rfl,o1⟩,b2⟩;have B2:=HB.out w2 b2)
    | (go_at_call 195;(with_reducible refine B2.mono ?_);rintro e w3 ⟨⟨u2,rfl,o2⟩,b3⟩;have E3:=HE.out w3 (b2.trans (b3.mono b2.size)) u1 u2 (o1.belowS b3) (o2.down b2.size))
    | (go_at_call 95;(with_reducible refine E3.mono ?_);rintro e w4 ⟨rfl,⟨n4,vs,hg4,hl4,v4,hv4,hr4⟩,hq4,k4⟩;have c4:w4.cell? ⟨w.heap.size,0,none⟩=some v4:=cellD hv4 0))
  go_ret2
  refine⟨⟨v4,n4,vs,rfl,hr4,hg4,hl4⟩,hq4,⟨k4.os,k4.tape,k4.output,k4.size,fun k hk hs=>k4.block k hk fun e=>?_⟩⟩
  rcases e with e|e
  · exact hs e
  · omega
theorem vers_g{X:ST}{D:SD}{w:World}{kn kc:Nat}{kA:Option Addr}{k:List UInt8}{cs:List NC}{i:Nat}(h:StW X D w)(hp:PgIs D (pgL 1 0 cs))(hok:PageOk 1 0 cs)(hv1:∀ c∈cs,1≤c.vn)(hb:D.R.base+1<D.P.bs.length)(hB:D.R.base≤100000)(hn:cs.length≤60)
    (hr:Rd w w.heap.size kA k) (hk:kn=k.length) (hk3:k.length≤3)
    (hcs:∀ c∈cs,IsV c) (hi:BelowIs cs (txt k 0) i) :
    Calls Tryz.prog 100 #[.pointer (some ⟨X.s,0,none⟩),.slice kA kn kc] w fun e w'=>(∃ v n vs,e=.returned (.tuple #[v,.int .i64 0])∧w'.ownsRow n 158 4 v vs.length (vX vs)∧w.heap.size≤n∧VsOf w' w.heap.size vs (scanTo cs i (txt k 1)))∧Qh X D (pgL 1 0 cs) w'∧Kp (SG X D) w w':=by
  have hl:=pg_len hok
  have et:(txt k 0).length≤8:=by have:=esc_len k;rw[txt_len];omega
  have hsub:∀ c∈scanTo cs i (txt k 1),c∈cs:=fun c hc=>List.mem_of_mem_drop (List.takeWhile_subset _ hc)
  have hsl:(scanTo cs i (txt k 1)).length≤60:=by
    have h1:(scanTo cs i (txt k 1)).length≤(cs.drop i).length:=List.Sublist.length_le (List.takeWhile_sublist _)
    rw[List.length_drop] at h1;omega
  refine versions_g (Z:=fun _=>False) (S:=SG X D) h.sb rfl h.ab hr hk (by omega) (fun k e=>h.sg e) (fun w1 x sx fa fc ta tc b1 hx hxl hsl o1 o2=>?_) hsl (fun c hc=>hcs c (hsub c hc)) (fun bx a b q kk hg=>q.soft kk hg free_vers)
  have h1:=h.below b1
  have LD:=load_any (S:=SG X D) (x:=x) hok hv1 (stb_qs (fun _=>False) X D (pgL 1 0 cs) x sx) (fun k e=>h1.sg e) (fun w2 b2=>xget_st (h1.below b2) (hx.below b2) (fun e=>by have:=h.pb.map.lt;omega) hp hl hb hB)
  have DN:=down_any (key:=.slice fa (txt k 0).length fc) (stb_qs (fun _=>False) X D (pgL 1 0 cs) x sx) LD
  have rd:∀ {A:Option Addr} {n c:Nat} {l:List UInt8},Own w1 w.heap.size (.slice A n c) l→∀ w',Kp (SG X D) w1 w'→Rd w' w1.heap.size A l:=fun {A n c l} o w' kk=>by
    obtain⟨A',c',e,-,-,r⟩:=(o.kp kk fun g e q=>by have:=o.blk g e;have:=h.sg q;omega).slice
    injection e with e1 e2 e3
    subst e1
    intro hne
    obtain⟨b,o',e4,-,hc⟩:=r hne
    exact⟨b,o',e4,o.lt b (by rw[e4];rfl),hc⟩
  refine(scan_g1 DN (stb_qs (fun _=>False) X D (pgL 1 0 cs) x sx) (rd o1) rfl (rd o2) rfl (by rw[txt_len];omega) hi (fun c hc e=>?_) hn).mono ?_
  · obtain⟨k',n',e1,-⟩:=hcs c hc
    rw[e1] at e
    have:=congrArg List.length e
    rw[vkey_len,txt_len] at this
    omega
  · rintro e w' ⟨h5,h6,h7⟩
    exact⟨h5,h6.2,h7⟩
def claimN(cf:Nat→Int):List Nat→Int
  | []=>0
  | n::l=>if cf n=7 then 7 else if claimN cf l=7 then 7 else if cf n=8 then 8 else claimN cf l
theorem claimN_busy(cf:Nat→Int):∀ (l:List Nat) (q:Nat) (h:q<l.length),cf l[q]=7→claimN cf l=7
  | n::l,0,h,e=>by simp at e;simp[claimN,e]
  | n :: l, q + 1, h, e => by
    have:=claimN_busy cf l q (by simpa using h) (by simpa using e)
    unfold claimN
    split
    · rfl
    · simp[this]
theorem claimN_rest(cf:Nat→Int)(l:List Nat)(h:∀ n∈l,cf n≠7):claimN cf l=if ∃ n∈l,cf n=8 then 8 else 0:=by
  induction l with
  | nil=>simp[claimN]
  | cons n l ih =>
    have ih:=ih fun m hm=>h m (List.mem_cons_of_mem _ hm)
    have h0:=h n List.mem_cons_self
    unfold claimN
    rw[if_neg h0,ih]
    by_cases e:∃ m∈l,cf m=8
    · rw[if_pos e]
      have:∃ m∈n::l,cf m=8:=by obtain⟨m,h1,h2⟩:=e;exact⟨m,List.mem_cons_of_mem _ h1,h2⟩
      rw[if_pos this]
      split
      · omega
      split<;>rfl
    · rw[if_neg e]
      by_cases e8:cf n=8
      · have:∃ m∈n::l,cf m=8:=⟨n,List.mem_cons_self,e8⟩
        rw[if_pos this,if_pos e8];simp
      · have:¬ ∃ m∈n::l,cf m=8:=by
          rintro⟨m,h1,h2⟩
          rcases List.mem_cons.1 h1 with rfl|h1
          · exact e8 h2
          · exact e ⟨m,h1,h2⟩
        rw[if_neg this,if_neg e8];simp
theorem claim_g{S:Nat→Prop}{Q:World→Prop}{P:World→List VR→Prop}{w:World}{s t kn kc tx p N0:Nat}{kA:Option Addr}{T:TR}{m:List (Int×Value)}(cf:Nat→Int)
    (VC:Calls Tryz.prog 100 #[.pointer (some ⟨s,0,none⟩),.slice kA kn kc] w fun e w'=>(∃ v n vs,e=.returned (.tuple #[v,.int .i64 0])∧w'.ownsRow n 158 4 v vs.length (vX vs)∧N0≤n∧P w' vs∧vs.length≤60)∧Q w'∧Kp S w w')
    (hP:∀ a b vs,Below a.heap.size a b→P a vs→P b vs) (hQb:∀ a b,Below a.heap.size a b→Q a→Q b) (hT:∀ w',Q w'→(∃ sc,w'.heap[s]? = some (.cells sc 125 (0,0))∧sc[13]? = some (.pointer (some ⟨t,0,none⟩)))∧TB w' t T∧MapI w' T.who m)
    (hl:m.lookup (tx:Int)=some (mk 2 p)) (hG:∀ w' vs,P w' vs→∀ x∈vs,∃ b q,(b=2∨b=3∨b=5)∧m.lookup (x.by_:Int)=some (mk b q)∧cf x.by_=confN (decide ((x.by_:Int)=(tx:Int))) b q p) :
    Calls Tryz.prog 69 #[.pointer (some ⟨s,0,none⟩),.int .i64 (tx:Int),.slice kA kn kc] w fun e w'=>(∃ v vs,P w' vs∧vs.length≤60∧e=.returned (.tuple #[v,.int .i64 (claimN cf (vs.map VR.by_))])∧(claimN cf (vs.map VR.by_)=0→∃ n,N0≤n∧w'.ownsRow n 158 4 v vs.length (vX vs)))∧Q w'∧Kp S w w':=by
  have HG:=Lib.hid hG
  have HT:=Lib.hid hT
  have HQ:=Lib.hid hQb
  have HL:=Lib.hid hl
  have HPB:=Lib.hid hP
  clear hG hT hQb hl hP
  go_enter Tryz.func69,Tryz.ntmps69
  go_wp2_with (go_at_call 100;(with_reducible refine VC.mono ?_);rintro e w2 ⟨⟨v,n,vs,rfl,hrow,hnn,hgd,hlen⟩,hq2,k2⟩;obtain⟨A,c,rfl⟩:=row_vform hrow)
  obtain⟨L,hL⟩:∃ L,vs.length=L:=⟨_,rfl⟩
  have HR:=Lib.hid hrow
  have HGD:=Lib.hid hgd
  have HLV:=Lib.hid hL
  have hL60:L≤60:=by omega
  have HLN:=Lib.hid hlen
  have hform:=row_ver hrow
  have HF:=Lib.hid hform
  have HNN:=Lib.hid hnn
  have HGX:=Lib.hid (HG.out w2 vs hgd)
  rw[hL]
  clear hrow hgd hL hlen hform VC hnn HG
  go_loopw [24,10] (fun k late wr=>∃ q,q≤L∧k=.int .i64 (q:Nat)∧late=.bool (decide (∃ j,∃ h:j<vs.length,j<q∧cf (vs[j]).by_=8))∧(∀ j (h:j<vs.length),j<q→cf (vs[j]).by_≠7)∧Below w2.heap.size w2 wr) (fun k _ _=>L-(RowKit.intOf k).toNat)
  case atStart=>exact⟨0,Nat.zero_le _,rfl,by simp,fun j _ h=>absurd h (Nat.not_lt_zero _),Below.refl _ _⟩
  case round=>
    obtain⟨q,hq,rfl,hlate,hn7,b3⟩:=hrel
    have HN7:=Lib.hid hn7
    have HLT:=Lib.hid hlate
    clear hn7 hlate
    by_cases hlq:q<L
    · have hqv:q<vs.length:=by rw[HLV.out];exact hlq
      rcases HF.out with⟨-,e⟩|⟨g,c',eg,hg,-,hc⟩
      · subst e;simp at hqv
      injection eg with eg e2 e3
      subst eg e3
      obtain⟨⟨aA,an,ac,vA,vn,vc,by_,sA,sn,scc⟩,hX⟩:∃ X,vs[q]=X:=⟨_,rfl⟩
      have hgq:=HGX.out vs[q] (List.getElem_mem hqv)
      rw[hX] at hgq
      have HQV:=Lib.hid hqv
      have hX':∀ h:q<vs.length,vs[q]=⟨aA,an,ac,vA,vn,vc,by_,sA,sn,scc⟩:=fun _=>hX
      have HX':=Lib.hid hX'
      clear hX'
      have c0:wr.cell? ⟨g,q * 4,none⟩=some (.slice aA an ac):=(b3.cell (p:=⟨g,q * 4,none⟩) hg).trans (by have:=hc q hqv 0 (by decide);rw[hX] at this;exact this)
      have c1:wr.cell? ⟨g,q * 4+1,none⟩=some (.slice vA vn vc):=(b3.cell (p:=⟨g,q * 4+1,none⟩) hg).trans (by have:=hc q hqv 1 (by decide);rw[hX] at this;exact this)
      have c2:wr.cell? ⟨g,q * 4+2,none⟩=some (.int .i64 (by_:Int)):=(b3.cell (p:=⟨g,q * 4+2,none⟩) hg).trans (by have:=hc q hqv 2 (by decide);rw[hX] at this;exact this)
      have c3:wr.cell? ⟨g,q * 4+3,none⟩=some (.slice sA sn scc):=(b3.cell (p:=⟨g,q * 4+3,none⟩) hg).trans (by have:=hc q hqv 3 (by decide);rw[hX] at this;exact this)
      obtain⟨bq,pq,hbq,hlk,hcf⟩:=hgq
      have hlk:m.lookup (by_:Int)=some (mk bq pq):=hlk
      have hcf:cf by_=confN (decide ((by_:Int)=(tx:Int))) bq pq p:=hcf
      obtain⟨W4,hW4,g4,b4,s4⟩:=box_alloc wr (.cells #[.slice aA an ac,.slice vA vn vc,.int .i64 (by_:Int),.slice sA sn scc] 158)
      have z3:=b3.size
      obtain⟨W5,hW5,e5,b5⟩:=drew_name W4
      have b34:=(b3.trans (b4.mono z3)).trans (b5.mono (Nat.le_trans z3 b4.size))
      obtain⟨⟨sc,hs4,h13⟩,ht4,hm4⟩:=HT.out _ (HQ.out _ _ b34 hq2)
      have x13:W5.cell? ⟨s,13,none⟩=some (.pointer (some ⟨t,0,none⟩)):=(cellD hs4 13).trans h13
      have y2:W5.cell? ⟨wr.heap.size,2,none⟩=some (.int .i64 (by_:Int)):=cellD (keepB b5 g4) 2
      have CF:=conflict_g ht4 hm4 (tx:Int) (by_:Int) p pq bq hbq HL.out hlk
      rw[← hcf] at CF
      obtain⟨cb,hcb⟩:∃ cb,cf by_=cb:=⟨_,rfl⟩
      have hc3:cb=7∨cb=8∨cb=0:=by rw[← hcb,hcf];unfold confN;split;exact .inl rfl;split;exact .inr (.inl rfl);exact .inr (.inr rfl)
      rw[hcb] at CF
      have HCB:=Lib.hid hcb
      have HS4:=Lib.hid s4
      clear s4 hX hbq hcf hcb hc e2 hlk h13 hg hqv e5
      go_upto_region 8 with fail
      refine stillW 7 (by kernel_rfl) (by kernel_rfl) W5 hW5 ?_
      simp only[List.take_succ_cons,List.take_zero,List.drop_succ_cons,List.drop_zero]
      repeat still_step
      refine wpStill_nil ?_
      have hby:∀ hqv:q<vs.length,cf (vs[q]).by_=cb:=fun hqv=>by rw[HX'.out hqv];exact HCB.out
      have HBY:=Lib.hid hby
      clear hby
      rcases hc3 with rfl|rfl|rfl
      · go_wp2_with (go_at_call 164;(with_reducible refine CF.mono ?_);rintro e w6 ⟨rfl,b6⟩)
        go_ret2
        have b36:=b34.trans (b6.mono b34.size)
        have e7:claimN cf (vs.map VR.by_)=7:=claimN_busy cf _ q (by simpa using HQV.out) (by rw[List.getElem_map];exact HBY.out HQV.out)
        exact⟨⟨_,vs,HPB.out _ _ _ b36 HGD.out,HLN.out,by rw[e7];rfl,fun e=>by rw[e7] at e;cases e⟩,HQ.out _ _ b36 hq2,k2.then (Kp.of b36)⟩
      · go_wp2_with (go_at_call 164;(with_reducible refine CF.mono ?_);rintro e w6 ⟨rfl,b6⟩)
        refine⟨⟨q+1,by omega,rfl,?_,?_,b34.trans (b6.mono b34.size)⟩,?_⟩
        · have:(∃ j,∃ h:j<vs.length,j<q+1∧cf (vs[j]).by_=8):=⟨q,HQV.out,by omega,HBY.out HQV.out⟩
          simp only[this,decide_true]
        · intro j h hj
          rcases Nat.lt_or_eq_of_le (Nat.le_of_lt_succ hj) with e|e
          · exact HN7.out j h e
          · subst e;rw[HBY.out h];decide
        · simp[RowKit.intOf];omega
      · go_wp2_with (go_at_call 164;(with_reducible refine CF.mono ?_);rintro e w6 ⟨rfl,b6⟩)
        refine⟨⟨q+1,by omega,rfl,?_,?_,b34.trans (b6.mono b34.size)⟩,?_⟩
        · rw[HLT.out]
          congr 1
          refine decide_eq_decide.2 ⟨fun⟨j,h,h1,h2⟩=>⟨j,h,by omega,h2⟩,fun⟨j,h,h1,h2⟩=>⟨j,h,?_,h2⟩⟩
          rcases Nat.lt_or_eq_of_le (Nat.le_of_lt_succ h1) with e|e
          · exact e
          · subst e;rw[HBY.out h] at h2;cases h2
        · intro j h hj
          rcases Nat.lt_or_eq_of_le (Nat.le_of_lt_succ hj) with e|e
          · exact HN7.out j h e
          · subst e;rw[HBY.out h];decide
        · simp[RowKit.intOf];omega
    · obtain rfl:q=L:=by omega
      have hrest:=claimN_rest cf (vs.map VR.by_) fun n hn=>by
        obtain⟨x,hx,rfl⟩:=List.mem_map.1 hn
        obtain⟨j,hj,rfl⟩:=List.getElem_of_mem hx
        exact HN7.out j hj (by have:=HLV.out;omega)
      have HRE:=Lib.hid hrest
      have hform:=HLT.out
      clear hlq hq hrest
      by_cases h8:∃ j,∃ h:j<vs.length,j<q∧cf (vs[j]).by_=8
      · have e8:∃ n∈vs.map VR.by_,cf n=8:=by
          obtain⟨j,h,-,e⟩:=h8
          exact⟨_,List.mem_map.2 ⟨vs[j],List.getElem_mem h,rfl⟩,e⟩
        simp only[h8,decide_true] at hform
        subst hform
        have HE8:=Lib.hid e8
        clear h8 e8
        go_wp2
        go_ret2
        have en:claimN cf (vs.map VR.by_)=8:=by rw[HRE.out,if_pos HE8.out]
        exact⟨⟨_,vs,HPB.out _ _ _ b3 HGD.out,HLN.out,by rw[en];rfl,fun e=>by rw[en] at e;cases e⟩,HQ.out _ _ b3 hq2,k2.then (Kp.of b3)⟩
      · have e8:¬ ∃ n∈vs.map VR.by_,cf n=8:=by
          rintro⟨n,hn,e⟩
          obtain⟨x,hx,rfl⟩:=List.mem_map.1 hn
          obtain⟨j,hj,rfl⟩:=List.getElem_of_mem hx
          exact h8 ⟨j,hj,by have:=HLV.out;omega,e⟩
        simp only[h8,decide_false] at hform
        subst hform
        have HE8:=Lib.hid e8
        clear h8 e8
        go_wp2
        go_ret2
        have en:claimN cf (vs.map VR.by_)=0:=by rw[HRE.out,if_neg HE8.out]
        have:=HLV.out
        subst this
        exact⟨⟨_,vs,HPB.out _ _ _ b3 HGD.out,HLN.out,by rw[en];rfl,fun _=>⟨n,HNN.out,row_keep HR.out b3⟩⟩,HQ.out _ _ b3 hq2,k2.then (Kp.of b3)⟩
end Go.Proofs.YtdbkocfbhpgpkaaGreat
namespace Go.Proofs.YtdbkocfbhpgpkaaGreat
open Go Go.RowKit Go.Shelf
set_option maxRecDepth 100000
set_option maxHeartbeats 4000000
theorem free_fn:Free 36:=⟨by decide,by decide,by decide,by decide,by decide,by decide,by decide,by decide,by decide,by decide,by decide⟩
theorem row_same{w w':World}{n₀ e s k:Nat}{v:Value}{xs:List Value}(h:w.ownsRow n₀ e s v k xs)(hk:∀ g,v.ownBlock=some g→w'.heap[g]? = w.heap[g]?):w'.ownsRow n₀ e s v k xs:=by
  refine⟨h.1,?_⟩
  rcases h.2 with q|⟨g,cap,cur,e,hb,hg,r⟩
  · exact .inl q
  · exact .inr ⟨g,cap,cur,e,hb,(hk g (by rw[e];rfl)).trans hg,r⟩
def FU (X:ST)(D:SD)(w:World)(g:Nat):Prop:=PU X D w g∨g=X.B.t∨g=X.who∨g=X.B.wk∨D.T.ov.ownBlock=some g∨∃ t v,D.wm.lookup t=some v∧v.ownBlock=some g
structure Mv(X:ST)(D D':SD)(w w':World):Prop where
  kp:Kp (FU X D w) w w'
  own:∀ g,g<w.heap.size→FU X D' w' g→FU X D w g
def SRd (X:ST)(D:SD)(w:World)(A:Option Addr)(l:List UInt8):Prop:=
  l≠[]→∃ b o,A=some ⟨b,o,none⟩∧b<w.heap.size∧¬FU X D w b∧∀ k (h:k<l.length),w.cell? ⟨b,o+k,none⟩=some (u8V l[k])
def SX (X:ST)(D:SD)(w:World)(b:Nat)(o:Obj):Prop:=w.heap[b]? = some o∧¬FU X D w b
def UE (X:ST)(D:SD)(w:World)(tx:Nat)(at_ was:List UInt8)(fv:Value):Prop:=
  ∃ b1 b2 b3 b4 A c A2 c2,fv=.func (.func 166) #[] #[.pointer (some ⟨b1,0,none⟩),.pointer (some ⟨b2,0,none⟩),.pointer (some ⟨b3,0,none⟩),.pointer (some ⟨b4,0,none⟩)] ∧
    SX X D w b1 (.cells #[.pointer (some ⟨X.s,0,none⟩)] 24 (0,0))∧SX X D w b2 (.cells #[.int .i64 (tx:Int)] 3 (0,0))∧SX X D w b3 (.cells #[.slice A at_.length c] 33 (0,0))∧SRd X D w A at_ ∧
    SX X D w b4 (.cells #[.slice A2 was.length c2] 33 (0,0))∧SRd X D w A2 was
abbrev Us:=List (List UInt8×List UInt8)
def UL (X:ST)(D:SD)(w:World)(tx:Nat)(v:Value)(us:Us):Prop:=
  ∃ fs:List Value,fs.length=us.length∧w.ownsRow X.n0 36 1 v us.length fs∧∀ i (h:i<us.length) (g:i<fs.length),UE X D w tx us[i].1 us[i].2 fs[i]
structure Undos(X:ST)(D:SD)(w:World)(U:Int→Option Us):Prop where
  one:∀ n v,D.wm.lookup n=some v→∃ (tx:Nat) (us:Us),n=(tx:Int)∧U n=some us∧UL X D w tx v us
  non:∀ n,D.wm.lookup n=none→U n=none
  apart:∀ n m v u g,D.wm.lookup n=some v→D.wm.lookup m=some u→n≠m→v.ownBlock=some g→u.ownBlock≠some g
  nd:(D.wm.map (·.1)).Nodup
theorem mset_keys:∀ (m:List (Int×Value)) (k:Int) (v:Value),(mset m k v).map (·.1)=if k∈m.map (·.1) then m.map (·.1) else m.map (·.1)++[k]
  | [],k,v=>by simp[mset]
  | (a, u) :: m, k, v => by
    have ih:=mset_keys m k v
    by_cases e:k=a
    · subst e;simp[mset]
    · simp only[mset,e,if_false,List.map_cons,ih,List.mem_cons,false_or]
      split<;>simp
theorem mset_nodup{m:List (Int×Value)}{k:Int}{v:Value}(h:(m.map (·.1)).Nodup):((mset m k v).map (·.1)).Nodup:=by
  rw[mset_keys]
  split
  · exact h
  · rename_i hk
    exact List.nodup_append.2 ⟨h,by simp,fun a ha b hb e=>hk (by simp at hb;subst hb;exact e▸ha)⟩
theorem mdel_keys:∀ (m:List (Int×Value)) (k:Int),((mdel m k).map (·.1)).Sublist (m.map (·.1))
  | [],k=>by simp[mdel]
  | (a, u) :: m, k => by
    by_cases e:k=a
    · simp[mdel,e]
    · simp only[mdel,e,if_false,List.map_cons]
      exact(mdel_keys m k).cons_cons a
theorem lookup_none_of{m:List (Int×Value)}{k:Int}(h:k ∉ m.map (·.1)):m.lookup k=none:=by
  induction m with
  | nil=>rfl
  | cons p m ih =>
    obtain⟨a,u⟩:=p
    simp only[List.map_cons,List.mem_cons,not_or] at h
    have:(k==a)=false:=by simpa using h.1
    simp[List.lookup,this,ih h.2]
theorem lookup_mdel:∀ (m:List (Int×Value)) (k n:Int),(m.map (·.1)).Nodup→(mdel m k).lookup n=if n=k then none else m.lookup n
  | [],k,n,_=>by simp[mdel]
  | (a, u) :: m, k, n, h => by
    simp only[List.map_cons,List.nodup_cons] at h
    by_cases e:k=a
    · subst e
      simp only[mdel,if_true]
      by_cases e2:n=k
      · subst e2;rw[if_pos rfl];exact lookup_none_of h.1
      · have:(n==k)=false:=by simpa using e2
        simp[List.lookup,e2,this]
    · have ih:=lookup_mdel m k n h.2
      simp only[mdel,e,if_false]
      by_cases e2:n=a
      · subst e2
        have:¬n=k:=fun q=>e q.symm
        simp[List.lookup,this]
      · have h2:(n==a)=false:=by simpa using e2
        simp[List.lookup,h2,ih]
section
variable {X:ST}{D D' D'':SD}{w w' w'':World}
theorem Mv.trans(h:Mv X D D' w w')(g:Mv X D' D'' w' w''):Mv X D D'' w w'':=
  ⟨h.kp.trans g.kp fun k hk e=>h.own k hk e,fun k hk e=>h.own k hk (g.own k (Nat.lt_of_lt_of_le hk h.kp.size) e)⟩
theorem Pv.mv(h:Pv X D D' w w'):Mv X D D' w w':=⟨h.kp.weaken fun _ e=>.inl e,fun g hg e=>by
  rcases e with e|e|e|e|e|⟨t,v,e1,e2⟩
  · exact .inl (h.back hg e)
  · exact .inr (.inl e)
  · exact .inr (.inr (.inl e))
  · exact .inr (.inr (.inr (.inl e)))
  · exact .inr (.inr (.inr (.inr (.inl (by rw[← h.T];exact e)))))
  · exact .inr (.inr (.inr (.inr (.inr ⟨t,v,by rw[← h.wm];exact e1,e2⟩))))⟩
theorem Mv.refl(X:ST)(D:SD)(w:World):Mv X D D w w:=(Pv.refl X D w).mv
theorem Mv.below(h:Below w.heap.size w w'):Mv X D D w w':=(Pv.below h).mv
theorem Mv.same(h:Mv X D D' w w'){g:Nat}(hg:g<w.heap.size)(hn:¬FU X D w g):w'.heap[g]? = w.heap[g]?∧¬FU X D' w' g:=⟨h.kp.block g hg hn,fun e=>hn (h.own g hg e)⟩
theorem SX.mv{b:Nat}{o:Obj}(h:SX X D w b o)(m:Mv X D D' w w'):SX X D' w' b o:=by
  obtain⟨e,hn⟩:=m.same (hlt h.1) h.2
  exact⟨e.trans h.1,hn⟩
theorem SRd.mv{A:Option Addr}{l:List UInt8}(h:SRd X D w A l)(m:Mv X D D' w w'):SRd X D' w' A l:=fun hne=>by
  obtain⟨b,o,e,hb,hn,hc⟩:=h hne
  obtain⟨e2,hn2⟩:=m.same hb hn
  exact⟨b,o,e,Nat.lt_of_lt_of_le hb m.kp.size,hn2,fun k hk=>(cell_same e2 _).trans (hc k hk)⟩
theorem SRd.rd{A:Option Addr}{l:List UInt8}(h:SRd X D w A l):Rd w w.heap.size A l:=fun hne=>by
  obtain⟨b,o,e,hb,-,hc⟩:=h hne
  exact⟨b,o,e,hb,hc⟩
theorem SRd.sg{A:Option Addr}{l:List UInt8}(h:SRd X D w A l)(st:StW X D w):∀ w',Kp (SG X D) w w'→Rd w' w.heap.size A l:=fun w' k hne=>by
  obtain⟨b,o,e,hb,hn,hc⟩:=h hne
  exact⟨b,o,e,hb,fun j hj=>(cell_same (k.block b hb fun q=>hn (.inl (pu_sg st q))) _).trans (hc j hj)⟩
theorem UE.mv{tx:Nat}{a b:List UInt8}{fv:Value}(h:UE X D w tx a b fv)(m:Mv X D D' w w'):UE X D' w' tx a b fv:=by
  obtain⟨b1,b2,b3,b4,A,c,A2,c2,e,h1,h2,h3,h4,h5,h6⟩:=h
  exact⟨b1,b2,b3,b4,A,c,A2,c2,e,h1.mv m,h2.mv m,h3.mv m,h4.mv m,h5.mv m,h6.mv m⟩
theorem UL.blk{tx:Nat}{v:Value}{us:Us}(h:UL X D w tx v us){g:Nat}(e:v.ownBlock=some g):X.n0≤g∧∃ cur,w.heap[g]? = some (.cells cur 36 (0,0)):=by
  obtain⟨fs,-,hrow,-⟩:=h
  rcases hrow.2 with⟨e1,-⟩|⟨g',cap,cur,e1,hb,hg,-⟩
  · rw[e1] at e;cases e
  · rw[e1] at e;injection e with e;dsimp only at e;subst e
    exact⟨hb,cur,hg⟩
theorem UL.mv{tx:Nat}{v:Value}{us:Us}(h:UL X D w tx v us)(m:Mv X D D' w w')(hk:∀ g,v.ownBlock=some g→w'.heap[g]? = w.heap[g]?):UL X D' w' tx v us:=by
  obtain⟨fs,h1,h2,h3⟩:=h
  exact⟨fs,h1,row_same h2 hk,fun i h g=>(h3 i h g).mv m⟩
theorem Undos.pv{U:Int→Option Us}(h:Undos X D w U)(st:StW X D w)(p:Pv X D D' w w'):Undos X D' w' U:=by
  refine⟨fun n v e=>?_,fun n e=>h.non n (by rw[← p.wm];exact e),fun n m v u g e1 e2=>h.apart n m v u g (by rw[← p.wm];exact e1) (by rw[← p.wm];exact e2),by rw[p.wm];exact h.nd⟩
  rw[p.wm] at e
  obtain⟨tx,us,h1,h2,h3⟩:=h.one n v e
  refine⟨tx,us,h1,h2,h3.mv p.mv fun g hg=>?_⟩
  obtain⟨-,cur,hc⟩:=h3.blk hg
  exact p.kp.block g (hlt hc) (st.npu hc free_fn)
theorem fu_lt{U:Int→Option Us}(st:StW X D w)(u:Undos X D w U){g:Nat}(e:FU X D w g):g<w.heap.size:=by
  rcases e with (e|e|e)|e|e|e|e|⟨t,v,e1,e2⟩
  · rcases e with e|e|e|e|e|e|⟨-,cs,t,e,-⟩
    · rw[e];exact hlt st.sb
    · rw[e];exact hlt st.jb
    · rw[e];exact hlt st.pb.box
    · rw[e];exact st.ab.map.lt
    · rw[e];exact hlt st.dk.box
    · obtain⟨cs,hc,-⟩:=st.dk.row
      rw[e];exact hlt hc
    · exact hlt e
  · rw[e];exact st.pb.map.lt
  · exact st.jo.lt g e
  · rw[e];exact hlt st.tb
  · rw[e];exact st.tm.lt
  · rw[e];exact st.wk.lt
  · exact(st.tr.lt e).1
  · obtain⟨tx,us,-,-,h3⟩:=u.one t v e1
    obtain⟨-,cur,hc⟩:=h3.blk e2
    exact hlt hc
theorem fu_new{U:Int→Option Us}(st:StW X D w)(u:Undos X D w U)(bb:Mv X D D' w w'){g:Nat}{cs:Array Value}{t:TypeId}{z:Nat×Nat}(hg:w.heap.size≤g)(hD:D'=D∨∃ f,D'=D.hold f)(hc:w'.heap[g]? = some (.cells cs t z))(h1:t≠364)(h2:t≠203):¬FU X D' w' g:=fun e=>by
  have key:FU X D w g∨∃ cs t,w'.heap[g]? = some (.cells cs t (0,0))∧(t=364∨t=203):=by
    have hJ:D'.J=D.J:=by rcases hD with rfl | ⟨f,rfl⟩<;>rfl
    have hT:D'.T=D.T:=by rcases hD with rfl | ⟨f,rfl⟩<;>rfl
    have hW:D'.wm=D.wm:=by rcases hD with rfl | ⟨f,rfl⟩<;>rfl
    rcases e with (e|e|e)|e|e|e|e|⟨t,v,e1,e2⟩
    · rcases e with e|e|e|e|e|e|e
      · exact .inl (.inl (.inl (.inl e)))
      · exact .inl (.inl (.inl (.inr (.inl e))))
      · exact .inl (.inl (.inl (.inr (.inr (.inl e)))))
      · exact .inl (.inl (.inl (.inr (.inr (.inr (.inl e))))))
      · exact .inl (.inl (.inl (.inr (.inr (.inr (.inr (.inl e)))))))
      · exact .inl (.inl (.inl (.inr (.inr (.inr (.inr (.inr (.inl e))))))))
      · exact .inr e.2
    · exact .inl (.inl (.inr (.inl e)))
    · exact .inl (.inl (.inr (.inr (by rw[← hJ];exact e))))
    · exact .inl (.inr (.inl e))
    · exact .inl (.inr (.inr (.inl e)))
    · exact .inl (.inr (.inr (.inr (.inl e))))
    · exact .inl (.inr (.inr (.inr (.inr (.inl (by rw[← hT];exact e))))))
    · exact .inl (.inr (.inr (.inr (.inr (.inr ⟨t,v,by rw[← hW];exact e1,e2⟩)))))
  rcases key with e|⟨cs',t',e,ht⟩
  · have:=fu_lt st u e;omega
  · rw[hc] at e;injection e with e;injection e with _ e;subst e
    rcases ht with e|e
    · exact h1 e
    · exact h2 e
end
end Go.Proofs.YtdbkocfbhpgpkaaGreat
