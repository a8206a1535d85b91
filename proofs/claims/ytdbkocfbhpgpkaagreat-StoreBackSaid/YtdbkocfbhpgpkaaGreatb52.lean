/-
  StoreBack: the law returns true.
-/
import Derived.Test.YtdbkocfbhpgpkaaGreatb51
import Derived.Test.YtdbkocfbhpgpkaaGreatb43
import Derived.Test.YtdbkocfbhpgpkaaGreatb42
import Derived.Test.YtdbkocfbhpgpkaaGreatb45
import Derived.Test.YtdbkocfbhpgpkaaGreatb48
import Derived.Test.YtdbkocfbhpgpkaaGreatb49
set_option linter.unusedVariables false
set_option linter.unusedSimpArgs false
namespace Go.Proofs.YtdbkocfbhpgpkaaGreat
open Go Go.RowKit Go.Shelf
open Go.Ev (PgM PageOk CellsOut rowsOf rowsV rowV rowsOf_len BelowIs)
set_option maxRecDepth 100000
set_option maxHeartbeats 4000000
def CF (X:ST)(w:World)(k:Nat):Prop:=k=X.B.p∨k=X.m∨(X.n0≤k∧∃ c,w.heap[k]? = some (.cells c 364 (0,0)))
section
variable {X:ST}{D:SD}{w w':World}{k:Nat}{cs:List NC}{U:Int→Option Us}
theorem tcheck_t{Z:Nat→Prop}{x sx:Nat}(g:GS X D w k cs U)(hh:Hi X)(hx:XB Z w x X.B.a sx none)(hm:sx≠X.m) :
    Calls Tryz.prog 86 #[.pointer (some ⟨x,0,none⟩)] w fun e w'=>e=.returned (.tuple #[.int .i64 1,.int .i64 0])∧(∃ f fr c,f.bytes=pgL 1 0 cs∧CK X (D.hold f) f fr c w')∧Kp (CF X w) w w':=by
  obtain⟨W1,hW1,g1,b1,s1⟩:=box_alloc w (.cells #[.pointer (some ⟨x,0,none⟩)] 152)
  obtain⟨W2,hW2,g2,b2,s2⟩:=box_alloc W1 (.map #[] 0)
  have m2:MapI W2 W1.heap.size []:=by rw[← hW2];exact⟨#[],0,heap_alloc_new _ _,rfl,MapKept.stamped_empty 0⟩
  obtain⟨W3,hW3,g3,b3,s3⟩:=box_alloc W2 (.cells #[.map (some W1.heap.size)] 252)
  obtain⟨W4,hW4,g4,b4,s4⟩:=box_alloc W3 (.cells #[.slice none 0 0] 253)
  obtain⟨W5,hW5,g5,b5,s5⟩:=box_alloc W4 (.cells #[.nilFunc] 254)
  obtain⟨W6,hW6,g6,k6,s6⟩:=set_name 0 g5 (.func (.func 179) #[] #[.pointer (some ⟨w.heap.size,0,none⟩),.pointer (some ⟨W2.heap.size,0,none⟩),.pointer (some ⟨W3.heap.size,0,none⟩),.pointer (some ⟨W4.heap.size,0,none⟩)])
  have b02:=b1.trans (b2.mono b1.size)
  have b03:=b02.trans (b3.mono b02.size)
  have b04:=b03.trans (b4.mono b03.size)
  have b05:=b04.trans (b5.mono b04.size)
  have b06:Below w.heap.size w W6:=b05.trans (k6.below b05.size fun q hq e=>by have:=b04.size;have e:q=W4.heap.size:=e;omega)
  have kf:∀ {q:Nat} {o:Obj},W5.heap[q]? = some o→q<W4.heap.size→W6.heap[q]? = some o:=fun h hq=>k6.keep h fun e=>by have e:_=W4.heap.size:=e;omega
  have x1:=kf (keepB b5 (keepB b4 (keepB b3 (keepB b2 g1)))) (by omega)
  have x2:=kf (keepB b5 (keepB b4 g3)) (by omega)
  have x3:=kf (keepB b5 g4) (by omega)
  have m6:MapI W6 W1.heap.size []:=(((m2.below b3).below b4).below b5).kp k6 (fun e=>by have e:W1.heap.size=W4.heap.size:=e;omega)
  have gg:=g.below b06
  have hx6:=hx.below b06
  have LD:=load_any (S:=SG X D) (x:=x) g.ok g.v1 (stb_qs Z X D (pgL 1 0 cs) x sx) (fun k e=>gg.st.sg e) (fun w2 b2=>xget_st (gg.st.below b2) (hx6.below b2) hm g.iv.pg (pg_len g.ok) (by rw[g.iv.base,g.iv.blen];decide) (by rw[g.iv.base];decide))
  have nS:∀ q,w.heap.size≤q→¬SG X D q:=fun q h e=>by have:=g.st.sg e;omega
  have WK:=walk_t (bx:=w.heap.size) (bm:=W2.heap.size) (bl:=W3.heap.size) (bw:=W4.heap.size) (m:=W1.heap.size) g.len LD (cellD x1 0) x2 m6 x3 (nS _ b02.size) (nS _ b03.size) (nS _ b1.size)
  have HS:=Lib.hid (And.intro s1 (And.intro s2 (And.intro s3 s4)))
  have HB:=Lib.hid (And.intro b06 (And.intro b02 (And.intro b03 b1)))
  have HX:=Lib.hid (And.intro x1 (And.intro x2 (And.intro x3 m6)))
  have HG:=Lib.hid g
  have HM:=Lib.hid hm
  have HH:=Lib.hid hh
  have y4:W6.cell? ⟨W4.heap.size,0,none⟩=some (.func (.func 179) #[] #[.pointer (some ⟨w.heap.size,0,none⟩),.pointer (some ⟨W2.heap.size,0,none⟩),.pointer (some ⟨W3.heap.size,0,none⟩),.pointer (some ⟨W4.heap.size,0,none⟩)]):=cellD g6 0
  have z5:W5.frozen? ⟨W4.heap.size,0,none⟩=false:=frozenD g5 0
  have z5c:W5.cell? ⟨W4.heap.size,0,none⟩=some .nilFunc:=cellD g5 0
  have HLT:=Lib.hid (show X.m<w.heap.size∧X.im<w.heap.size∧X.who<w.heap.size∧X.B.wk<w.heap.size from⟨g.st.pb.map.lt,g.st.ab.map.lt,g.st.tm.lt,g.st.wk.lt⟩)
  have HSX:=Lib.hid (show sx<w.heap.size from hx.map.lt)
  have HXB:=Lib.hid hx6
  clear s1 s2 s3 s4 s5 s6 b06 b05 b04 b03 b02 b1 b2 b3 b4 b5 k6 kf x1 x2 x3 m6 gg hx6 LD nS g hm hh hx g1 g2 g3 g4 g5 g6 m2
  have hmm:=@run_makeMap Tryz.prog
  have hmf:∀ (fn:Fn) (first cap:Array Value) (w:World),(Instr.makeFunc fn first cap).run Tryz.prog w=.ok (.func fn first cap) w:=fun _ _ _ _=>rfl
  go_enter Tryz.func86,Tryz.ntmps86
  go_upto_region 6 with (go_at_call 179;(with_reducible refine WK.mono ?_);rintro e w7 ⟨rfl,w2,hq,k2,k7,m7,gl,cl,nl,dl,B,l1,l2,⟨cur,l3⟩,l4,l5,l6,l7,l8⟩)
  obtain⟨hx2,f,hfb,hff,st2⟩:=hq
  obtain⟨b06,b02,b03,b01⟩:=HB.out
  obtain⟨x1,x2,x3,m6⟩:=HX.out
  obtain⟨q1,q2,q3,q4⟩:=HLT.out
  have g:=HG.out
  have z1:=b01.size
  have z2:=b02.size
  have z3:=b03.size
  have hsx:=HSX.out
  have nS:∀ q,w.heap.size≤q→¬SG X D q:=fun q h e=>by have:=g.st.sg e;omega
  have x3':=k2.keep x3 (nS _ z3)
  have m2:=m6.kp k2 (nS _ z1)
  have st7:=st2.steps k7 x3' m2 (by omega) (by omega) (by omega) (by omega)
  have n7:∀ {q:Nat} {c:Array Value} {t:TypeId} {z:Nat×Nat},w2.heap[q]? = some (.cells c t z)→t≠253→¬(q=W3.heap.size∨q=W1.heap.size):=fun h ht e=>by
    rcases e with e|e
    · exact tag_ne h x3' ht e
    · exact m2.ne h e.symm
  have x1':=k7.keep (k2.keep x1 (nS _ (Nat.le_refl _))) (n7 (k2.keep x1 (nS _ (Nat.le_refl _))) (by decide))
  have x2':=k7.keep (k2.keep x2 (nS _ z2)) (n7 (k2.keep x2 (nS _ z2)) (by decide))
  have hx7:XB Z w7 x X.B.a sx none:=hx2.kp k7 (n7 hx2.box (by decide)) (fun e=>by
    rcases e with e|e
    · exact hx2.map.ne x3' e
    · omega) (fun u e=>nomatch e) (fun _ _ h=>h)
  obtain⟨st0,hp0⟩:=g.iv.p0
  have SA:=spaceall_t st7 hx7 HM.out g.iv.ws g.iv.base g.iv.blen hp0 g.iv.pages
  have kC:Kp (CF X w) w w7:=((Kp.of b06).trans k2 fun q hq e=>by
    rcases e with e|e|⟨f',e1,e2⟩
    · exact .inl e
    · exact .inr (.inl e)
    · obtain⟨cu,hc,-⟩:=(g.st.pb.fr f' e1).row
      exact .inr (.inr ⟨by rw[e2];exact g.st.hi f' e1,cu,by rw[e2];exact hc⟩)).trans k7 fun q hq e=>by rcases e with e | e<;>omega
  obtain⟨cuf,hcf,-⟩:=(st7.pb.fr f rfl).row
  obtain⟨cuf2,hcf2,-⟩:=(st2.pb.fr f rfl).row
  have KE:=Lib.hid (fun w8 (k8:Kp (CP X f) w7 w8)=>show Kp (CF X w) w w8 from kC.trans k8 fun q hq e=>by
    rcases e with e|e|e
    · exact .inl e
    · exact .inr (.inl e)
    · by_cases hs:CF X w q
      · exact hs
      · exact .inr (.inr ⟨by rw[e];exact st7.hi f rfl,cuf,by rw[← kC.block q hq hs,e];exact hcf⟩))
  have nC:∀ {q:Nat} {c:Array Value} {t:TypeId} {z:Nat×Nat},w7.heap[q]? = some (.cells c t z)→t≠318→t≠364→¬CP X f q:=fun h h1 h2 e=>by
    rcases e with e|e|e
    · exact tag_ne h st7.pb.box h1 e
    · exact st7.pb.map.ne h e.symm
    · exact tag_ne h hcf h2 e
  have mC:¬CP X f W1.heap.size:=fun e=>by
    rcases e with e|e|e
    · exact m7.ne st7.pb.box e
    · omega
    · exact m7.ne hcf e
  have x0':w7.heap[W3.heap.size]?≠none:=fun e=>by simp[World.cell?,e] at l1
  have AF:=Lib.hid (fun w8 (k8:Kp (CP X f) w7 w8)=>show(w8.cell? ⟨W3.heap.size,0,none⟩=some (.slice (some ⟨gl,0,none⟩) 1 cl))∧w8.cell? ⟨W2.heap.size,0,none⟩=some (.map (some W1.heap.size))∧MapI w8 W1.heap.size [(1,.int .i64 1)]∧w8.heap[gl]? = w7.heap[gl]? from
    ⟨(cellK (k8.block _ (by
      rcases Nat.lt_or_ge W3.heap.size w7.heap.size with h|h
      · exact h
      · exact absurd (by simp[h]) x0') (fun e=>by
      rcases e with e|e|e
      · rw[e,cellD st7.pb.box] at l1;simp[pV] at l1
      · omega
      · exact tag_ne x3' hcf2 (by decide) e))).trans l1,cellD (k8.keep x2' (nC x2' (by decide) (by decide))) 0,m7.kp k8 mC,k8.block gl (hlt l3) (nC l3 (by decide) (by decide))⟩)
  have c1:w7.cell? ⟨w.heap.size,0,none⟩=some (.pointer (some ⟨x,0,none⟩)):=cellD x1' 0
  have HL:=Lib.hid (And.intro l2 (And.intro l4 (And.intro l5 (And.intro l6 (And.intro l7 l8)))))
  have HFB:=Lib.hid hfb
  clear hx2 hfb hff st2 b06 b02 b03 b01 x1 x2 x3 m6 q1 q2 q3 q4 g z1 z2 z3 hsx nS x3' m2 st7 n7 x1' x2' hx7 kC hcf hcf2 nC mC x0' k2 k7 m7 l1 l2 l3 l4 l5 l6 l7 l8 WK
  go_upto_region 9 with (go_at_call 184;(with_reducible refine SA.mono ?_);rintro e w8 ⟨⟨g2,c2,rfl,hc2,t0,t1⟩,⟨fr,c,ck⟩,k8⟩)
  obtain⟨y1,y2,m8,hg8⟩:=AF.out w8 k8
  obtain⟨l2,l4,l5,l6,l7,l8⟩:=HL.out
  have LI:=linked_t (w:=w8) ((cellK hg8).trans l4) ((cellK hg8).trans l5) ((cellK hg8).trans l6) ((cellK hg8).trans l7) ((cellK hg8).trans l8) l2
  have CV:=Lib.hid (fun w9 (b9:Below w8.heap.size w8 w9)=>And.intro (covers_t (c:=c2) (m8.below b9) ((b9.cell (p:=⟨g2,0,none⟩) (block_lt_of_cell t0)).trans t0) ((b9.cell (p:=⟨g2,1,none⟩) (block_lt_of_cell t1)).trans t1) hc2) ((b9.cell (p:=⟨W2.heap.size,0,none⟩) (block_lt_of_cell y2)).trans y2))
  have HCK:=Lib.hid ck
  have HK8:=Lib.hid (KE.out w8 k8)
  clear AF HL KE ck k8 m8 hg8 l2 l4 l5 l6 l7 l8 t0 t1 hc2 SA
  go_upto_region 13 with (first
    | (go_at_call 185;(with_reducible refine LI.mono ?_);rintro e w9 ⟨rfl,b9⟩;obtain⟨C9,y9⟩:=CV.out w9 b9)
    | (go_at_call 186;(with_reducible refine C9.mono ?_);rintro e w9 ⟨rfl,rfl⟩))
  go_wp2
  go_ret2
  exact⟨rfl,⟨f,fr,c,HFB.out,HCK.out.below b9⟩,HK8.out.then (Kp.of b9)⟩
end
theorem valV_le{sA:Option Addr}{l:List UInt8}{V:Value}(h:ValV sA l V)(hv:VOk l)(hl:l.length≤512):∃ A m c,V=.slice A m c∧m≤512:=by
  unfold ValV at h
  rcases hv with rfl|⟨r,rfl⟩
  · exact⟨none,0,0,h,by decide⟩
  · have e:valOf (1::r)=some r:=by simp[valOf]
    rw[e] at h
    obtain⟨b,o,c,c',-,h|⟨-,h⟩⟩:=h
    · exact⟨_,_,_,h,by simp at hl;omega⟩
    · exact⟨_,_,_,h,by decide⟩
theorem check1_t{w:World}{n₀ bs br s t n:Nat}{cv:CV}{c:NC}{key:List UInt8}{T:TR}{sto:Array Value}
    (hbs:w.heap[bs]? = some (.cells #[.pointer (some ⟨s,0,none⟩)] 24 (0,0))) (hbr:w.heap[br]? = some (.cells #[.bool true] 4 (0,0)))
    (hs:w.heap[s]? = some (.cells sto 125 (0,0))) (h13:sto[13]? = some (.pointer (some ⟨t,0,none⟩))) (ht:TB w t T)
    (o:CVO w n₀ cv c) (hk:c.key=vkey key n) (h1:1≤key.length) (h2:key.length≤128) (hn:n<T.next) (hn2:n≤4611686018427387904) (hv:VOk c.val) (hvl:c.val.length≤512) :
    Calls Tryz.prog 89 #[.agg #[cv.k,cv.v],.pointer (some ⟨bs,0,none⟩),.pointer (some ⟨br,0,none⟩)] w fun e w'=>e=.returned (.bool true)∧w'.heap[br]? = some (.cells #[.bool true] 4 (0,0))∧Kp (·=br) w w':=by
  obtain⟨A,c2,ev,hc1,hc2,rv⟩:=o.v.slice
  have rk:=o.rk
  have hkn:cv.kn=(vkey key n).length:=by rw[o.kn,← hk];exact(bl_length _ _).symm
  rw[hk] at rk
  obtain⟨ka,kn,kc,va,vn,vc⟩:=cv
  injection ev with e1 e2 e3
  subst e1 e3
  show Calls Tryz.prog 89 #[.agg #[.slice ka kn kc,.slice va vn vc],.pointer (some ⟨bs,0,none⟩),.pointer (some ⟨br,0,none⟩)] w _
  dsimp only at rk hkn e2
  obtain⟨W1,hW1,g1,b1,s1⟩:=box_alloc w (.cells #[.slice ka kn kc,.slice va vn vc] 68)
  have PT:=part_g ka kn kc n key W1 ((rk.below b1).more b1.size) hkn h1 h2 hn2
  have y0:W1.cell? ⟨w.heap.size,0,none⟩=some (.slice ka kn kc):=cellD g1 0
  have HE2:=Lib.hid e2
  have HB1:=Lib.hid b1
  have HG1:=Lib.hid g1
  have HN:=Lib.hid hn
  have HT:=Lib.hid ht
  have HBS:=Lib.hid hbs
  have HBR:=Lib.hid hbr
  have HS:=Lib.hid hs
  have H13:=Lib.hid h13
  have HV:=Lib.hid hv
  have HVL:=Lib.hid hvl
  have HC:=Lib.hid (And.intro (show vn≤vc by rw[e2];exact hc1) hc2)
  have HRV:=Lib.hid (rv.below b1)
  clear b1 g1 s1 hn ht hbs hbr hs hv hvl hc1 hc2 rv h1 h2 rk hkn hk o hn2 e2 h13
  go_enter Tryz.func89,Tryz.ntmps89
  go_upto_region 2 with (go_at_call 90;(with_reducible refine PT.mono ?_);rintro e w2 ⟨⟨B,d,rfl,-⟩,b2⟩)
  have g2:=keepB b2 HG1.out
  have x1:w2.cell? ⟨w.heap.size,1,none⟩=some (.slice va vn vc):=cellD g2 1
  obtain⟨W3,hW3,g3,b3,s3⟩:=box_alloc w2 (.cells #[.slice none 0 0,.slice none 0 0,.int .i64 0,.slice va vn vc] 158)
  have b23:=b2.trans (b3.mono b2.size)
  have r3:Rd W3 W3.heap.size va c.val:=(HRV.out.below (b23.mono HB1.out.size)).more (Nat.le_trans HB1.out.size b23.size)
  have VG:=value_g (aA:=none) (an:=0) (ac:=0) (kA:=none) (kn:=0) (kc:=0) (by_:=0) r3 HE2.out HC.out.1 HC.out.2
  have u0:W3.cell? ⟨w2.heap.size,0,none⟩=some (.slice none 0 0):=cellD g3 0
  have u1:W3.cell? ⟨w2.heap.size,1,none⟩=some (.slice none 0 0):=cellD g3 1
  have u2:W3.cell? ⟨w2.heap.size,2,none⟩=some (.int .i64 0):=cellD g3 2
  have u3:W3.cell? ⟨w2.heap.size,3,none⟩=some (.slice va vn vc):=cellD g3 3
  have HB3:=Lib.hid b23
  have HR3:=Lib.hid r3
  clear s3 g3 b3 b23 g2 r3 PT b2
  go_upto_region 4 with (go_at_call 91;(with_reducible refine VG.mono ?_);rintro e w4 ⟨⟨V,rfl,hV⟩,b4⟩)
  obtain⟨VA,vm,vcc,rfl,hvm⟩:=valV_le hV HV.out HVL.out
  have b14:=HB3.out.trans (b4.mono HB3.out.size)
  have b04:=HB1.out.trans (b14.mono HB1.out.size)
  have g4:=keepB b14 HG1.out
  have y1:w4.cell? ⟨w.heap.size,1,none⟩=some (.slice va vn vc):=cellD g4 1
  have hbr4:=keepB b04 HBR.out
  have hbs4:=keepB b04 HBS.out
  have hs4:=keepB b04 HS.out
  have k1:w4.cell? ⟨bs,0,none⟩=some (.pointer (some ⟨s,0,none⟩)):=cellD hbs4 0
  have k2:w4.cell? ⟨s,13,none⟩=some (.pointer (some ⟨t,0,none⟩)):=(cellD hs4 13).trans H13.out
  have NX:=next_tab (HT.out.below b04)
  have k3:w4.cell? ⟨br,0,none⟩=some (.bool true):=cellD hbr4 0
  have z3:w4.frozen? ⟨br,0,none⟩=false:=frozenD hbr4 0
  obtain⟨W7,hW7,g7,k7,s7⟩:=set_name 0 hbr4 (.bool true)
  have k8:W7.cell? ⟨br,0,none⟩=some (.bool true):=cellD g7 0
  have hlt:(n:Int)<(T.next:Int):=by have:=HN.out;omega
  have hle:(vm:Int)≤512:=by omega
  have r4:=(HR3.out.below b4).more b4.size
  have HB4:=Lib.hid b04
  have HBR4:=Lib.hid hbr4
  have HF:=Lib.hid (And.intro g7 ((Kp.of (S:=(·=br)) b04).then k7))
  clear s7 g7 k7 hbr4 b4 b14 b04 g4 hV VG u0 u1 u2 u3 hs4 hbs4 hvm x1 y0
  rcases HV.out with hv|⟨r,hv⟩
  · have hn1:vn=1:=by rw[HE2.out,hv];rfl
    subst hn1
    rw[hv] at r4 ⊢
    obtain⟨b,o,rfl,hb,hcell⟩:=r4 (by simp)
    have hx:w4.cell? ⟨b,o,none⟩=some (.int .u8 0):=hcell 0 (by simp)
    have e0:(valOf [0]).isSome=false:=rfl
    rw[e0]
    clear r4 hcell hv hb
    go_wp2_with (go_at_call 92;(with_reducible refine NX.mono ?_);rintro e w ⟨rfl,rfl⟩)
    go_ret
    exact⟨rfl,HF.out.1,HF.out.2⟩
  · have e1:(valOf c.val).isSome=true:=by rw[hv];simp[valOf]
    rw[e1]
    by_cases hn1:vn=1
    · subst hn1
      rw[hv] at r4
      obtain⟨b,o,rfl,hb,hcell⟩:=r4 (by simp)
      have hx:w4.cell? ⟨b,o,none⟩=some (.int .u8 1):=hcell 0 (by simp)
      clear r4 hcell hv hb
      go_wp2_with (go_at_call 92;(with_reducible refine NX.mono ?_);rintro e w ⟨rfl,rfl⟩)
      go_ret
      exact⟨rfl,HF.out.1,HF.out.2⟩
    · have hn2:¬(vn:Int)=1:=by omega
      clear r4 hv
      go_wp2_with (go_at_call 92;(with_reducible refine NX.mono ?_);rintro e w ⟨rfl,rfl⟩)
      go_ret
      exact⟨rfl,HF.out.1,HF.out.2⟩
theorem pairs_c{Z:Nat→Prop}{w:World}{s a p j im be br fn fc tn tc:Nat}{fa ta:Option Addr}{b:Bool}(I:Option Addr→List CV→World→Nat→World→Prop)
    (c6:w.cell? ⟨s,12,none⟩=some (.pointer (some ⟨a,0,none⟩))) (ha:AB w a p j im b)
    (SC:∀ w1 x sx,Below w.heap.size w w1→XB Z w1 x a sx none→w.heap.size≤x→w.heap.size≤sx→Calls Tryz.prog 187 #[.pointer (some ⟨x,0,none⟩),.slice fa fn fc,.slice ta tn tc,.int .i64 64] w1 fun e w2=>∃ A c cv,e=.returned (.tuple #[.slice A cv.length c,.int .i64 0])∧cv.length≤60∧I A cv w2 0 w2)
    (RD:∀ A cv w2 q wr,I A cv w2 q wr→RdC wr wr.heap.size A cv)
    (SB:∀ A cv w2 q wr wr',I A cv w2 q wr→Below wr.heap.size wr wr'→I A cv w2 q wr')
    (ST:∀ A cv w2 q wr (h:q<cv.length),I A cv w2 q wr→Calls Tryz.prog 89 #[.agg #[cv[q].k,cv[q].v],.pointer (some ⟨be,0,none⟩),.pointer (some ⟨br,0,none⟩)] wr fun e w'=>e=.returned (.bool true)∧I A cv w2 (q+1) w') :
    Calls Tryz.prog 88 #[.pointer (some ⟨s,0,none⟩),.slice fa fn fc,.slice ta tn tc,.func (.func 89) #[] #[.pointer (some ⟨be,0,none⟩),.pointer (some ⟨br,0,none⟩)]] w fun e w'=>e=.returned (.int .i64 0)∧∃ A cv w2,I A cv w2 cv.length w':=by
  have BG:=abegin_any (Z:=Z) ha
  have HSC:=Lib.hid SC
  have HRD:=Lib.hid RD
  have HSB:=Lib.hid SB
  have HST:=Lib.hid ST
  clear SC RD SB ST
  go_enter Tryz.func88,Tryz.ntmps88
  go_wp2
  go_loopw [1] (fun f wr=>f=.slice fa fn fc∧wr=w) (fun _ _=>0)
  case atStart=>exact⟨rfl,rfl⟩
  case round=>
    obtain⟨rfl,rfl⟩:=hrel
    obtain⟨w0,rfl⟩:∃ w0,w0=wr:=⟨_,rfl⟩
    go_upto_region 4 with (first
      | (go_at_call 87;(with_reducible refine BG.mono ?_);rintro e w1 ⟨⟨x,sx,rfl,hx1,hxl,hsl⟩,b1⟩;have SC1:=HSC.out w1 x sx b1 hx1 hxl hsl)
      | (go_at_call 187;(with_reducible refine SC1.mono ?_);rintro e w2 ⟨A,c,cv,rfl,hlen,hI⟩))
    obtain⟨L,hL⟩:∃ L,cv.length=L:=⟨_,rfl⟩
    have HL:=Lib.hid hL
    have hL60:L≤60:=by omega
    rw[hL]
    clear hlen hL b1
    go_wp2
    go_loopw [29] (fun k wr=>∃ q,q≤L∧k=.int .i64 (q:Nat)∧I A cv w2 q wr) (fun k _=>L-(RowKit.intOf k).toNat)
    case atStart=>exact⟨0,Nat.zero_le _,rfl,hI⟩
    case round=>
      obtain⟨q,hqL,rfl,hq⟩:=hrel
      by_cases hlt:q<L
      · have hqv:q<cv.length:=by rw[HL.out];exact hlt
        obtain⟨bb,oo,rfl,hbb,hcc⟩:=HRD.out _ _ _ _ _ hq (by rintro rfl;simp at hqv)
        obtain⟨c1,c2⟩:=hcc q hqv
        obtain⟨⟨ka,kn,kc,va,vn,vc⟩,hX⟩:∃ X,cv[q]=X:=⟨_,rfl⟩
        rw[hX] at c1 c2
        have d1:wr.cell? ⟨bb,oo+q * 2,none⟩=some (.slice ka kn kc):=c1
        have d2:wr.cell? ⟨bb,oo+q * 2+1,none⟩=some (.slice va vn vc):=c2
        obtain⟨W6,hW6,g6,b6,s6⟩:=box_alloc wr (.cells #[.slice ka kn kc,.slice va vn vc] 68)
        have y0:W6.cell? ⟨wr.heap.size,0,none⟩=some (.slice ka kn kc):=cellD g6 0
        have y1:W6.cell? ⟨wr.heap.size,1,none⟩=some (.slice va vn vc):=cellD g6 1
        have EA:=HST.out _ _ _ _ _ hqv (HSB.out _ _ _ _ _ _ hq b6)
        rw[hX] at EA
        have EA':Calls Tryz.prog 89 #[.agg #[.slice ka kn kc,.slice va vn vc],.pointer (some ⟨be,0,none⟩),.pointer (some ⟨br,0,none⟩)] W6 fun e w'=>e=.returned (.bool true)∧I (some ⟨bb,oo,none⟩) cv w2 (q+1) w':=EA
        clear c1 c2 hX hcc hbb s6 EA
        go_wp2_with (go_at_call 89;(with_reducible refine EA'.mono ?_);rintro e w7 ⟨rfl,hq7⟩)
        refine⟨⟨q+1,by omega,rfl,hq7⟩,?_⟩
        simp[RowKit.intOf];omega
      · obtain rfl:q=L:=by omega
        clear hlt hqL
        go_wp2
        go_ret
        exact⟨rfl,A,cv,w2,by rw[HL.out];exact hq⟩
theorem RdC.belowS{w w':World}{A:Option Addr}{cv:List CV}(h:RdC w w.heap.size A cv)(b:Below w.heap.size w w'):RdC w' w'.heap.size A cv:=fun hne=>by
  obtain⟨g,o,e,hg,hc⟩:=h hne
  exact⟨g,o,e,Nat.lt_of_lt_of_le hg b.size,fun j hj=>⟨(b.cell (p:=⟨g,o+j * 2,none⟩) hg).trans (hc j hj).1,(b.cell (p:=⟨g,o+j * 2+1,none⟩) hg).trans (hc j hj).2⟩⟩
section
variable {X:ST}{D:SD}{w w':World}{k M:Nat}{cs:List NC}{U:Int→Option Us}{S:List (List UInt8)}
theorem cpairs_t{f:FR}{fr c bs br:Nat}(ck:CK X (D.hold f) f fr c w)(hb:f.bytes=pgL 1 0 cs)(ci:CsI S D.T.next cs)(hn:D.T.next≤1000000)(hl:S.length≤38)
    (hbs:w.heap[bs]? = some (.cells #[.pointer (some ⟨X.s,0,none⟩)] 24 (0,0))) (hbr:w.heap[br]? = some (.cells #[.bool true] 4 (0,0))) :
    Calls Tryz.prog 88 #[.pointer (some ⟨X.s,0,none⟩),.slice none 0 0,.slice none 0 0,.func (.func 89) #[] #[.pointer (some ⟨bs,0,none⟩),.pointer (some ⟨br,0,none⟩)]] w fun e w'=>e=.returned (.int .i64 0)∧w'.heap[br]? = some (.cells #[.bool true] 4 (0,0))∧Kp (fun k=>k=fr∨k=br) w w':=by
  have hl4:=pg_len ci.ok
  have hlen:cs.length≤60:=by have:=ci.len;omega
  obtain⟨cur0,hfr0,-⟩:=ck.pb.row
  refine(pairs_c (Z:=fun _=>False) (I:=fun A cv w2 q wr=>CK X (D.hold f) f fr c wr∧RdC wr wr.heap.size A cv∧cv.length=cs.length∧(∀ j (h:j<cv.length) (g:j<cs.length),CVO wr w.heap.size cv[j] cs[j]) ∧
      wr.heap[bs]? = some (.cells #[.pointer (some ⟨X.s,0,none⟩)] 24 (0,0))∧wr.heap[br]? = some (.cells #[.bool true] 4 (0,0))∧Kp (fun k=>k=fr∨k=br) w wr)
      (cellD ck.sb 12) ck.ab (fun w1 x sx b1 hx hxl hsl=>?_) (fun A cv w2 q wr hI=>hI.2.1) (fun A cv w2 q wr wr' hI b=>?_) (fun A cv w2 q wr hq hI=>?_)).mono ?_
  · have Q:Stb fun w=>XB (fun _=>False) w x X.B.a sx none∧CK X (D.hold f) f fr c w:=
      ⟨fun _ _ b q=>⟨q.1.below b,q.2.below b⟩,fun _ _ N cs t ht hg k q=>⟨q.1.kp k (tag_ne q.1.box hg (by rcases ht with rfl | rfl<;>decide)) (q.1.map.ne hg) (fun u e=>nomatch e) (fun _ _ h=>h),q.2.soft k hg (free_soft ht)⟩⟩
    have ck1:=ck.below b1
    have hfr1:=keepB b1 hfr0
    have LD:=load_any (S:=(·=fr)) (x:=x) ci.ok (fun c hc=>(ci.v c hc).1) Q (fun k e=>by rw[show k=fr from e];exact hlt hfr1) (fun w2 b2=>by
      have ck2:=ck1.below b2
      have hx2:=hx.below b2
      have hfr2:=keepB b2 hfr1
      refine(xget_pool (Q:=fun v w'=>Own w' 0 v (pgL 1 0 cs)∧PB2 w' X.B.p X.B.d X.m fr c (D.hold f).R f∧Kp (·=fr) w2 w') hx2 ck2.ab ((pget2 ck2.pb).mono ?_)).mono ?_
      · rintro e w' ⟨⟨v,rfl,ho⟩,pb,kk⟩
        exact⟨v,rfl,hb▸ho.down (Nat.zero_le _),pb,kk⟩
      · rintro e w' ⟨v,rfl,ho,pb,kk⟩
        exact⟨⟨v,rfl,ho⟩,⟨hx2.kp kk (tag_ne hx2.box hfr2 (by decide)) (hx2.map.ne hfr2) (fun u e=>nomatch e) (fun _ _ h=>h),ck2.pool kk pb⟩,kk⟩)
    have DN:=down_any (key:=.slice none 0 0) Q LD
    refine(scan_g0 (fl:=[]) (i:=0) DN Q (fun w' _ hne=>absurd rfl hne) rfl ⟨Nat.zero_le _,fun i _ h=>absurd h (Nat.not_lt_zero _),fun h0=>?_⟩ (fun c hc e=>?_) hlen).mono ?_
    · obtain⟨-,key,n,e,h1,-⟩:=ci.k _ (List.getElem_mem h0)
      have hne:cs[0].key≠[]:=fun q=>by
        rw[e] at q
        have:=congrArg List.length q
        rw[vkey_len] at this
        simp at this
      cases hk:cs[0].key with
      | nil=>exact absurd hk hne
      | cons a l=>simp[Lib.compareBytes]
    · obtain⟨-,key,n,e2,-⟩:=ci.k c hc
      rw[e2] at e
      have:=congrArg List.length e
      rw[vkey_len] at this
      simp at this
    · rintro e w2 ⟨⟨A,c2,cv,rfl,hrd,hcl,hcv⟩,hq2,k2⟩
      rw[scan_all] at hcl
      have hcv':∀ j (h:j<cv.length) (g:j<cs.length),CVO w2 w.heap.size cv[j] cs[j]:=fun j h g=>by
        have hs:scanTo cs 0 []=cs:=scan_all
        have o:=hcv j h (by rw[hs];exact g)
        simp only[hs] at o
        have:=b1.size
        exact⟨o.kn,o.vn,o.k.down this,o.v.down this⟩
      have kb:Kp (fun k=>k=fr∨k=br) w w2:=(Kp.of b1).then (k2.weaken fun _ e=>.inl e)
      exact⟨A,c2,cv,rfl,by omega,hq2.2,hrd,hcl,hcv',k2.keep (keepB b1 hbs) (tag_ne (keepB b1 hbs) hfr1 (by decide)),k2.keep (keepB b1 hbr) (tag_ne (keepB b1 hbr) hfr1 (by decide)),kb⟩
  · obtain⟨a1,a2,a3,a4,a5,a6,a7⟩:=hI
    exact⟨a1.below b,a2.belowS b,a3,fun j h g=>(a4 j h g).below b,keepB b a5,keepB b a6,a7.then (Kp.of b)⟩
  · obtain⟨a1,a2,a3,a4,a5,a6,a7⟩:=hI
    have hqp:q<cs.length:=by omega
    have hm:=List.getElem_mem hqp
    obtain⟨-,key,n,e,h1,h2,h3,h4⟩:=ci.k _ hm
    have hvl:cs[q].val.length=cs[q].vn:=bl_length _ _
    have o:=a4 q hq hqp
    refine(check1_t (T:=D.T) (t:=X.B.t) a5 a6 a1.sb rfl a1.tb o e h1 (by omega) h4 (by omega) (ci.f _ hm) (by have:=(ci.v _ hm).2;omega)).mono ?_
    rintro e w7 ⟨rfl,hbr7,k7⟩
    have nb:∀ {g:Nat} {x:Array Value} {u:TypeId} {z:Nat×Nat},wr.heap[g]? = some (.cells x u z)→u≠4→¬g=br:=fun e hu q=>tag_ne e a6 hu q
    have nk:∀ {v:Value} {l:List UInt8} {B:Nat},Own wr B v l→∀ g,v.ownBlock=some g→¬g=br:=fun o g e1 e2=>o.tag a6 (by decide) (e2▸e1)
    have rdc:RdC w7 w7.heap.size A cv:=fun hne=>by
      obtain⟨b,o',e,hb',hc⟩:=a2 hne
      have hb'':b≠br:=fun q=>by
        have:=(hc 0 (List.length_pos_iff.2 hne)).1
        subst q
        rw[cellD a6] at this
        have:=(hc 0 (List.length_pos_iff.2 hne)).2
        rw[cellD a6] at this
        simp at this
      have hk:=k7.block b hb' hb''
      exact⟨b,o',e,Nat.lt_of_lt_of_le hb' k7.size,fun j hj=>⟨(cell_same hk _).trans (hc j hj).1,(cell_same hk _).trans (hc j hj).2⟩⟩
    exact⟨rfl,a1.soft k7 a6 free_bool,rdc,a3,fun j h g=>⟨(a4 j h g).kn,(a4 j h g).vn,(a4 j h g).k.kp k7 (nk (a4 j h g).k),(a4 j h g).v.kp k7 (nk (a4 j h g).v)⟩,k7.keep a5 (nb a5 (by decide)),hbr7,a7.then (k7.weaken fun _ e=>.inr e)⟩
  · rintro e w' ⟨rfl,A,cv,w2,a1,a2,a3,a4,a5,a6,a7⟩
    exact⟨rfl,a6,a7⟩
end
section
variable {X:ST}{D:SD}{w w':World}{k M:Nat}{cs:List NC}{U:Int→Option Us}{S:List (List UInt8)}
theorem scheck_t(g:GS X D w k cs U)(p:PI D cs U S M)(hS:S.length≤38)(hh:Hi X) :
    Calls Tryz.prog 31 #[.pointer (some ⟨X.s,0,none⟩)] w fun e w'=>e=.returned (.int .i64 0)∧Below X.n0 w w':=by
  obtain⟨W1,hW1,g1,b1,s1⟩:=box_alloc w (.cells #[.pointer (some ⟨X.s,0,none⟩)] 24)
  have WH:=whole_st (g.st.below b1)
  have y0:W1.cell? ⟨w.heap.size,0,none⟩=some (.pointer (some ⟨X.s,0,none⟩)):=cellD g1 0
  have HG:=Lib.hid g
  have HP:=Lib.hid p
  have HB1:=Lib.hid b1
  have HG1:=Lib.hid g1
  have HS:=Lib.hid hS
  clear g p g1 b1 s1 hS
  go_enter Tryz.func31,Tryz.ntmps31
  go_upto_region 4 with (go_at_call 65;(with_reducible refine WH.mono ?_);rintro e w2 ⟨rfl,b2⟩)
  have b02:=HB1.out.trans (b2.mono HB1.out.size)
  have g2:=HG.out.below b02
  have gbs2:=keepB b2 HG1.out
  have x1:w2.cell? ⟨w.heap.size,0,none⟩=some (.pointer (some ⟨X.s,0,none⟩)):=cellD gbs2 0
  have x12:w2.cell? ⟨X.s,12,none⟩=some (.pointer (some ⟨X.B.a,0,none⟩)):=cellD g2.st.sb 12
  have BG:=abegin_any (Z:=fun _=>False) g2.st.ab
  have TC:=Lib.hid (fun w3 x sx (b3:Below w2.heap.size w2 w3) (hx:XB (fun _=>False) w3 x X.B.a sx none) (hsl:w2.heap.size≤sx)=>tcheck_t (g2.below b3) hh hx (fun e=>by have:=g2.st.pb.map.lt;omega))
  have GB:=Lib.hid (And.intro b02 (And.intro g2 gbs2))
  clear WH y0 b02 g2 gbs2 b2
  go_upto_region 5 with (first
    | (go_at_call 87;(with_reducible refine BG.mono ?_);rintro e w3 ⟨⟨x,sx,rfl,hx3,hxl,hsl⟩,b3⟩;have T3:=TC.out w3 x sx b3 hx3 hsl)
    | (go_at_call 86;(with_reducible refine T3.mono ?_);rintro e w4 ⟨rfl,⟨f,fr,c,hfb,ck⟩,k4⟩))
  obtain⟨b02,g2,gbs2⟩:=GB.out
  have b03:=b02.trans (b3.mono b02.size)
  have g3:=g2.below b3
  have gbs3:=keepB b3 gbs2
  have hbs4:=k4.keep gbs3 (fun e=>by
    rcases e with e|e|⟨-,cu,e⟩
    · exact tag_ne gbs3 g3.st.pb.box (by decide) e
    · exact g3.st.pb.map.ne gbs3 e.symm
    · exact tag_ne gbs3 e (by decide) rfl)
  have up4:Below X.n0 w w4:=(b03.mono HG.out.st.dk.base).trans (k4.below g3.st.dk.base fun q hq e=>by
    rcases e with e|e|⟨e,-⟩
    · have:=hh.p;omega
    · have:=hh.m;omega
    · omega)
  obtain⟨W5,hW5,g5,b5,s5⟩:=box_alloc w4 (.cells #[.bool true] 4)
  have hbs5:=keepB b5 hbs4
  have PC:=cpairs_t (ck.below b5) hfb HP.out.c (by have:=HP.out.nx;omega) HS.out hbs5 g5
  have y1:W5.cell? ⟨w.heap.size,0,none⟩=some (.pointer (some ⟨X.s,0,none⟩)):=cellD hbs5 0
  have n4:X.n0≤w4.heap.size:=Nat.le_trans (Nat.le_trans HG.out.st.dk.base b03.size) k4.size
  have UP:=Lib.hid (fun w6 (k6:Kp (fun k=>k=fr∨k=w4.heap.size) W5 w6)=>show Below X.n0 w w6 from(up4.trans (b5.mono n4)).trans (k6.below (Nat.le_trans n4 b5.size) fun q hq e=>by
    have:=ck.lo
    rcases e with e|e<;>omega))
  clear b02 g2 gbs2 b03 g3 gbs3 hbs4 up4 g5 b5 s5 hbs5 n4 ck k4 hfb b3 BG TC T3 hx3 hxl hsl x1 x12
  have hmf:∀ (fn:Fn) (first cap:Array Value) (w:World),(Instr.makeFunc fn first cap).run Tryz.prog w=.ok (.func fn first cap) w:=fun _ _ _ _=>rfl
  go_upto_region 9 with (go_at_call 88;(with_reducible refine PC.mono ?_);rintro e w6 ⟨rfl,hbr6,k6⟩)
  have y6:w6.cell? ⟨w4.heap.size,0,none⟩=some (.bool true):=cellD hbr6 0
  have up6:=UP.out w6 k6
  clear UP k6 hbr6 PC
  go_wp2
  go_ret
  exact⟨rfl,up6⟩
theorem check_any(X:ST)(D:SD)(w:World)(k0 n0:Nat)(cs:List NC)(U:Int→Option Us)(S:List (List UInt8))(hh:Hi X)(h:ME X k0 n0 D cs U S w)(_:k0≤3300)(_:n0≤1000):Calls Tryz.prog 31 #[.pointer (some ⟨X.s,0,none⟩)] w fun e w'=>e=.returned (.int .i64 0)∧Below X.n0 w w':=by
  obtain⟨k,g,-⟩:=h.g
  exact scheck_t g h.p h.s hh
end
end Go.Proofs.YtdbkocfbhpgpkaaGreat
namespace Go.Proofs.YtdbkocfbhpgpkaaGreat
open Go Go.RowKit Go.Shelf
theorem back_any{fr:Int}{A1 A2:Option Addr}{n1 c1 n2 c2:Nat}{xs ys:List Int}{w:World}(hfr:-9223372036854775808≤fr∧fr≤9223372036854775807)(hr1:RdI w w.heap.size A1 xs)(hn1:n1=xs.length)(hc1:n1≤c1∧c1≤maxLen)(hx1:∀ x∈xs,-9223372036854775808≤x∧x≤9223372036854775807)
    (hr2:RdI w w.heap.size A2 ys) (hn2:n2=ys.length) (hc2:n2≤c2∧c2≤maxLen) (hx2:∀ x∈ys,-9223372036854775808≤x∧x≤9223372036854775807) :
    Calls Tryz.prog 4 #[.int .i64 fr,.slice A1 n1 c1,.slice A2 n2 c2] w fun e w'=>e=.returned (.bool true)∧Below w.heap.size w w':=
  back_law hfr hr1 hn1 hc1 hx1 hr2 hn2 hc2 hx2 check_any awake_w
end Go.Proofs.YtdbkocfbhpgpkaaGreat
