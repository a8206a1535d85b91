/-
  atom.Atom.Done of one page: no change; a log that may be full.
-/
import Derived.Test.YtdbkocfbhpgpkaaGreatb06
import Derived.Test.YtdbkocfbhpgpkaaGreatb20
set_option linter.unusedVariables false
set_option linter.unusedSimpArgs false
namespace Go.Proofs.YtdbkocfbhpgpkaaGreat
open Go Go.RowKit
set_option maxRecDepth 100000
set_option maxHeartbeats 1600000
theorem jappend_g{w:World}{j d n0 M:Nat}{J:JR}{x:UInt8}{tx n c:Nat}{A:Option Addr}(h:JB w j d J)(hO:Own w n0 J.wv J.waits)(hn0:n0≤w.heap.size)
    (hM:J.waits.length+M≤500000) (hu:J.used≤J.blocks) (hb:J.blocks≤100000) (hc:J.count≤4000000000) (hl:J.last≤1000000)
    (HE:∀ w',Below w.heap.size w w'→Calls Tryz.prog 233 #[.agg #[.int .u8 (x.toNat:Int),.int .i64 (tx:Int),.slice A n c]] w' fun e w2=>(∃ v l,e=.returned (.tuple #[v,.int .i64 0])∧Own w2 w'.heap.size v l∧15≤l.length∧l.length≤M)∧Below w'.heap.size w' w2) :
    Calls Tryz.prog 168 #[.pointer (some ⟨j,0,none⟩),.agg #[.int .u8 (x.toNat:Int),.int .i64 (tx:Int),.slice A n c]] w fun e w'=>(e=.returned (.tuple #[.int .i64 ((J.last:Int)+1),.int .i64 0]) ∧
      ∃ v' l',JB w' j d { J with wv:=v',waits:=l',last:=J.last+1 }∧Own w' n0 v' l'∧J.waits.length+15≤l'.length∧l'.length≤J.waits.length+M∧(∀ k,v'.ownBlock=some k→J.wv.ownBlock=some k∨w.heap.size≤k)∧need l'.length+J.used≤J.blocks∧Kp (fun k=>k=j∨J.wv.ownBlock=some k) w w')∨(e=.returned (.tuple #[.int .i64 0,.int .i64 5])∧Below w.heap.size w w'∧J.blocks<need (J.waits.length+M)+J.used):=by
  obtain⟨W1,hW1,g1,b1,s1⟩:=box_alloc w (.cells #[.int .u8 (x.toNat:Int),.int .i64 (tx:Int),.slice A n c] 139)
  have h1:JB W1 j d J:=keepB b1 h
  have M1:=jstands_any h1
  have E1:=HE W1 b1
  have k0:W1.cell? ⟨w.heap.size,0,none⟩=some (.int .u8 (x.toNat:Int)):=cellD g1 0
  have k1:W1.cell? ⟨w.heap.size,1,none⟩=some (.int .i64 (tx:Int)):=cellD g1 1
  have k2:W1.cell? ⟨w.heap.size,2,none⟩=some (.slice A n c):=cellD g1 2
  have HS1:=Lib.hid s1
  clear s1
  go_enter Tryz.func168,Tryz.ntmps168
  go_upto_region 7 with (first
    | (go_at_call 171;with_reducible refine M1.mono ?_;rintro e w ⟨rfl,rfl⟩)
    | (go_at_call 233;with_reducible refine E1.mono ?_;rintro e w2 ⟨⟨ve,le,rfl,oe,l1,l2⟩,b2⟩))
  obtain⟨N,hN⟩:∃ N,le.length=N:=⟨_,rfl⟩
  obtain⟨Ae,ce,rfl,-,-,re⟩:=oe.sl hN
  obtain⟨wl,hwl⟩:∃ wl,J.waits.length=wl:=⟨_,rfl⟩
  obtain⟨A0,c0,hv,-,-,-⟩:=hO.sl hwl
  rw[hN] at l1 l2
  rw[hwl] at hM
  have b12:=b1.trans (b2.mono b1.size)
  have h2:JB w2 j d J:=keepB b2 h1
  have nd1:=need_mono (show wl+N≤wl+M by omega)
  have ndB:=need_le5 (n:=wl+N) (by omega)
  have ND:∀ w,Calls Tryz.prog 173 #[.int .i64 ((wl:Int)+(N:Int))] w fun e w'=>e=.returned (.int .i64 ((need (wl+N):Nat):Int))∧w'=w:=fun w=>by
    have:=needs_any (wl+N) (by omega) w
    rwa[Int.natCast_add] at this
  obtain⟨nd,hnd⟩:∃ nd,need (wl+N)=nd:=⟨_,rfl⟩
  rw[hnd] at ND nd1 ndB
  have f4:decide ((4294967295:Int)<(J.count:Int)+(nd:Int)-1)=false:=dec_lt (by omega)
  have w1:wl≤4000000000:=by omega
  have w2':N≤4000000000:=by omega
  have w3:nd≤4000000000:=by omega
  have w4:J.last≤4000000000:=by omega
  have hbig:J.waits.length+le.length≤140737488355328:=bigA (by omega) (by omega)
  have fin1:J.waits.length+15≤(J.waits++le).length:=by rw[List.length_append];omega
  have fin2:(J.waits++le).length≤J.waits.length+M:=by rw[List.length_append];omega
  have RO:=jroom_any (w:=w2) h2 (hu) hb
  by_cases hfit:nd+J.used≤J.blocks
  case neg=>
    have f1:decide (((J.blocks:Int)-(J.used:Int))<(nd:Int))=true:=by simp;omega
    have y8:w2.cell? ⟨j,8,none⟩=some (.slice A0 wl c0):=(h2.cell 8).trans (congrArg some hv)
    have f0:=wrapA w1 w2'
    have HF:=Lib.hid (show J.blocks<need (wl+M)+J.used by omega)
    have HW:=Lib.hid hwl
    clear w1 w2' w3 w4 fin1 fin2 hM hwl hv l1 l2 nd1 ndB hnd hN hb hc hl hn0 hfit M1 E1 k0 k1 k2 hu f4
    go_upto_region 8 with (go_at_call 173;with_reducible refine(ND _).mono ?_;rintro e w3 ⟨rfl,rfl⟩)
    go_wp2_with (go_at_call 234;(with_reducible refine RO.mono ?_);rintro e w4 ⟨rfl,b4⟩)
    go_ret2
    exact .inr ⟨rfl,b12.trans (b4.mono b12.size),by rw[HW.out];exact HF.out⟩
  have f1:decide (((J.blocks:Int)-(J.used:Int))<(nd:Int))=false:=dec_lt (by omega)
  have fin3:need (J.waits++le).length+J.used≤J.blocks:=by rw[List.length_append,hwl,hN,hnd];exact hfit
  have F3:=Lib.hid fin3
  clear fin3 hfit
  have F1:=Lib.hid fin1
  have F2:=Lib.hid fin2
  have HV:=Lib.hid hv
  have HN2:=Lib.hid hN
  have HN0:=Lib.hid (show n0≤w2.heap.size by have:=b12.size;omega)
  have y8:w2.cell? ⟨j,8,none⟩=some (.slice A0 wl c0):=(h2.cell 8).trans (congrArg some hv)
  have f0:=wrapA w1 w2'
  have f2:=wrapA hc w3
  have f3:=wrapB hc w3
  have f5:=wrapC w4
  clear w1 w2' w3 w4
  clear M1 E1 k0 k1 k2 fin1 fin2 hM hu hwl hv l1 l2 nd1 ndB hnd hN hb hc hl hn0
  go_upto_region 8 with (go_at_call 173;with_reducible refine(ND _).mono ?_;rintro e w3 ⟨rfl,rfl⟩)
  go_upto_region 10 with (go_at_call 234;(with_reducible refine RO.mono ?_);rintro e w4 ⟨rfl,b4⟩;have h4:JB w4 j d J:=keepB b4 h2;have kk2:w4.cell? ⟨j,6,none⟩=some (.int .i64 (J.count:Int)):=h4.cell 6)
  have y4:w4.cell? ⟨j,8,none⟩=some (.slice A0 wl c0):=(h4.cell 8).trans (congrArg some HV.out)
  have b14:=b12.trans (b4.mono b12.size)
  have O4:Own w4 n0 (.slice A0 wl c0) J.waits:=by
    have:=hO.belowS b14
    rwa[HV.out] at this
  have r4:=re.belowS b4
  clear f1 f2 f3 f4 y8 RO re ND f0
  have HN4:n0≤w4.heap.size:=Nat.le_trans HN0.out b4.size
  have HB14:=Lib.hid b14
  have neJ:(Value.slice A0 wl c0).ownBlock≠some j:=O4.tag h4 (by decide)
  clear b12 b4 b2 b1 g1 h1 h2 oe b14
  obtain⟨L,hL⟩:∃ L,(J.waits++le).length=L:=⟨_,rfl⟩
  have HL:=Lib.hid hL
  clear hL
  go_upto_region 11 with (at_builtin;refine apB rfl (.tmp 50) (.tmp 51) rfl n0 _ _ rfl O4 _ Ae N ce le rfl HN2.out.symm r4 hbig HN4 ?_;intro v5 w5 own5 b5 q1 q2;obtain⟨A5,c5,rfl,-,-,-⟩:=own5.sl HL.out;have h5:w5.heap[j]? = some (.cells (jV j d J) 232 (0,0)):=(q2.block j h4.lt (fun e=>neJ e.symm)).trans h4;have y5:w5.cell? ⟨j,8,none⟩=some J.wv:=cellD h5 8;have x5:w5.frozen? ⟨j,8,none⟩=false:=frozenD h5 8;obtain⟨W6,hW6,g6,k6,s6⟩:=set_name 8 h5 (.slice A5 L c5))
  have d9:W6.cell? ⟨j,9,none⟩=some (.int .i64 (J.last:Int)):=cellD g6 9
  have x9:W6.frozen? ⟨j,9,none⟩=false:=frozenD g6 9
  obtain⟨W7,hW7,g7,k7,s7⟩:=set_name 9 g6 (.int .i64 ((J.last:Int)+1))
  have d9':W7.cell? ⟨j,9,none⟩=some (.int .i64 ((J.last:Int)+1)):=cellD g7 9
  have HK:=Lib.hid ((((Kp.of HB14.out).then ((Kp.grow q2).weaken fun k e=>.inr (HV.out▸e))).then (k6.weaken fun k e=>.inl e)).then (k7.weaken fun k e=>.inl e):Kp (fun k=>k=j∨J.wv.ownBlock=some k) _ _)
  have neB:(Value.slice A5 L c5).ownBlock≠some j:=own5.tag h5 (by decide)
  have HO:=Lib.hid ((own5.kp k6 (fun k e1 e2=>neB (by rw[e1,e2]))).kp k7 (fun k e1 e2=>neB (by rw[e1,e2])))
  have H7:=Lib.hid g7
  have Q1:=Lib.hid (show(Value.slice A5 L c5).ownBlock=(Value.slice A0 wl c0).ownBlock∨(Value.slice A5 L c5).ownBlock=some w4.heap.size from q1)
  clear g6 g7 k6 k7 s6 s7 h5 own5 b5 q1 q2 O4 h4
  go_wp2
  go_ret2
  refine .inl ⟨rfl,.slice A5 L c5,J.waits++le,?_,HO.out,F1.out,F2.out,fun k e=>?_,F3.out,HK.out⟩
  · unfold JB;rw[H7.out];rfl
  · rcases Q1.out with a|a
    · left;rw[HV.out,← a];exact e
    · right
      rw[e] at a
      injection a with a
      rw[a]
      exact HB14.out.size
theorem equal_eq{A C:Option Addr}{c d n m:Nat}{l:List UInt8}{w:World}{B B':Nat}(hr:Rd w B A l)(hm:Rd w B' C l)(hn:n=l.length)(hn2:m=l.length) :
    Calls Tryz.prog 324 #[.slice A n c,.slice C m d] w fun e w'=>e=.returned (.bool true)∧w'=w:=by
  have h1:=conv33 (c:=c) hr hn
  have h2:=conv33 (c:=d) hm hn2
  clear hn hn2
  go_enter Tryz.func324,Tryz.ntmps324
  go_wp2
  go_ret
  exact⟨rfl,rfl⟩
section
variable {Z:Nat→Prop}{w:World}{p d m a j im x s:Nat}{R:PR}
theorem xchanges_same{f:FR}{v:Value}{l:List UInt8}(h:XB Z w x a s (some (v,l))){b:Bool}(h2:AB w a p j im b)(h3:PB Z w p d m R)(hf:R.held=some f)(heq:f.bytes=l) :
    Calls Tryz.prog 288 #[.pointer (some ⟨x,0,none⟩)] w fun e w'=>e=.returned (.tuple #[.slice none 0 0,.int .i64 0])∧PB Z w' p d m R∧Kp (·=f.fr) w w':=by
  have CG:=xchanged1_any h
  go_enter Tryz.func288,Tryz.ntmps288
  go_wp2_with (go_at_call 323;(with_reducible refine CG.mono ?_);rintro e w2 ⟨⟨q,c,rfl,hq,hc,cur,hcur,hc0⟩,b2⟩)
  have q0:w2.cell? ⟨q,0,none⟩=some (.int .i64 1):=(cellD hcur 0).trans hc0
  go_loopw [16,4] (fun i acc wr=>(i=.int .i64 0∧acc=.slice none 0 0∧wr=w2)∨(i=.int .i64 1∧acc=.slice none 0 0∧PB Z wr p d m R∧Kp (·=f.fr) w wr)) (fun i _ _=>2-(RowKit.intOf i).toNat)
  case atStart=>exact .inl ⟨rfl,rfl,rfl⟩
  case round=>
    rcases hrel with⟨rfl,rfl,rfl⟩|⟨rfl,rfl,hp,hk⟩
    · have h2':=h2.below b2
      have hx:=h.below b2
      have h3':=h3.below b2
      have c1:wr.cell? ⟨x,1,none⟩=some (.pointer (some ⟨a,0,none⟩)):=cellD hx.box 1
      have d1:wr.cell? ⟨a,1,none⟩=some (.pointer (some ⟨p,0,none⟩)):=cellD h2'.box 1
      have PG:=pget1_any h3' hf
      obtain⟨cur5,e5,-⟩:=(h3'.fr f hf).row
      have hxf:x≠f.fr:=tag_ne hx.box e5 (by decide)
      have haf:a≠f.fr:=tag_ne h2'.box e5 (by decide)
      have hvf:∀ u,some (v,l)=some u→∀ g,u.1.ownBlock=some g→¬g=f.fr:=fun u e g q1 q2=>by
        injection e with e;subst e;exact(hx.pay _ rfl).1.tag e5 (by decide) (q2▸q1)
      have AF:=fun(w3:World) (k3:Kp (·=f.fr) wr w3)=>And.intro (hx.kp k3 hxf (hx.map.ne e5) hvf (fun _ _ h=>h)) (h2'.kp k3 haf (h2'.map.ne e5))
      have hL:f.bytes.length=4080:=(h3'.fr f hf).len
      go_upto_region 8 with (go_at_call 274;(with_reducible refine PG.mono ?_);rintro e w3 ⟨⟨v3,rfl,o3⟩,h33,k3⟩)
      obtain⟨hx3,h23⟩:=AF w3 k3
      have hl:l.length=4080:=(hx3.pay _ rfl).2.1
      have hO:=(hx3.pay _ rfl).1
      obtain⟨g1,c3,rfl,hc3,hg1,r1⟩:=(o3.down (Nat.zero_le _)).rd0 hL (by decide)
      obtain⟨g2,c4,e4,hc4,hg2,r2⟩:=hO.rd0 hl (by decide)
      dsimp only at e4
      subst e4
      have EQ:=equal_eq (c:=c3) (d:=c4) (heq▸r1) r2 hl.symm hl.symm
      have m3:MapI w3 s [(1,.slice (some ⟨g2,0,none⟩) 4080 c4)]:=hx3.map
      have L:=lookV m3 1
      have c2:w3.cell? ⟨x,2,none⟩=some (.map (some s)):=cellD hx3.box 2
      go_upto_region 11 with (go_at_call 324;(with_reducible refine EQ.mono ?_);rintro e w3 ⟨rfl,rfl⟩)
      go_wp2
      go_roundw
      case rel=>exact(Kp.of b2).then k3
      case measure=>decide
    · go_wp2
      go_ret2
      exact⟨rfl,hp,hk⟩
end
section
variable {w:World}{n0 p d m a j im x s:Nat}{R:PR}{J:JR}
theorem xdone_same{b:Bool}{f:FR}{v:Value}{l:List UInt8}{tx:Nat}(h:XB (Zj J) w x a s (some (v,l)))(h2:AB w a p j im b)(h3:PB (Zj J) w p d m R)(hf:R.held=some f)(heq:f.bytes=l)(hj:JB w j d J)(htx:tx≤1000000) :
    Calls Tryz.prog 256 #[.pointer (some ⟨x,0,none⟩),.int .i64 (tx:Int)] w fun e w'=>e=.returned (.tuple #[.int .i64 (J.last:Int),.int .i64 0])∧∃ w1,PB (Zj J) w1 p d m R∧Kp (·=f.fr) w w1∧Kp (·=x) w1 w':=by
  have ST:=xstands_any h h2
  have CH:=xchanges_same h h2 h3 hf heq
  have c1:w.cell? ⟨x,1,none⟩=some (.pointer (some ⟨a,0,none⟩)):=cellD h.box 1
  have f1:decide ((tx:Int)<0)=false:=by simp
  have f2:decide ((4611686018427387904:Int)<(tx:Int))=false:=by simp;omega
  have HT:=Lib.hid htx
  clear htx
  obtain⟨cur5,e5,-⟩:=(h3.fr f hf).row
  have hO0:=h.pay _ rfl
  go_enter Tryz.func256,Tryz.ntmps256
  go_upto_region 10 with (first
    | (go_at_call 273;(with_reducible refine ST.mono ?_);rintro e w ⟨rfl,rfl⟩)
    | (go_at_call 288;(with_reducible refine CH.mono ?_);rintro e w2 ⟨rfl,h32,k2⟩))
  have hx2:=h.kp k2 (tag_ne h.box e5 (by decide)) (h.map.ne e5) (fun u e g q1 q2=>by injection e with e;subst e;exact(h.pay _ rfl).1.tag e5 (by decide) (q2▸q1)) (fun _ _ h=>h)
  have EN:=xend_any hx2
  go_upto_region 12 with (go_at_call 289;(with_reducible refine EN.mono ?_);rintro e w3 ⟨rfl,k3⟩)
  have j2:JB w2 j d J:=hj.kp k2 (tag_ne hj e5 (by decide))
  have j3:JB w3 j d J:=j2.kp k3 (tag_ne j2 hx2.box (by decide))
  have h22:=h2.kp k2 (tag_ne h2.box e5 (by decide)) (h2.map.ne e5)
  have h23:=h22.kp k3 (tag_ne h22.box hx2.box (by decide)) (h22.map.ne hx2.box)
  have cJ:w3.cell? ⟨a,2,none⟩=some (.pointer (some ⟨j,0,none⟩)):=cellD h23.box 2
  have LA:=jlast_any j3
  clear ST CH EN f1 f2
  go_wp2_with (go_at_call 75;(with_reducible refine LA.mono ?_);rintro e w4 ⟨rfl,rfl⟩)
  go_ret2
  exact⟨rfl,w2,h32,k2,k3⟩
theorem xdone_g{b:Bool}{f:FR}{v:Value}{l:List UInt8}{tx:Nat}(h:XB (Zj J) w x a s (some (v,l)))(h2:AB w a p j im b)(h3:PB (Zj J) w p d m R)(hf:R.held=some f)(hne:f.bytes≠l)(hj:JB w j d J)(hO:Own w n0 J.wv J.waits)(hn0:n0≤w.heap.size)(hsi:s≠im)(hmi:m≠im)
    (hw:J.waits.length+4115≤500000) (hroom:J.used≤J.blocks) (hb:J.blocks≤100000) (hc:J.count≤4000000000) (hla:J.last≤1000000) (htx:tx≤1000000) :
    Calls Tryz.prog 256 #[.pointer (some ⟨x,0,none⟩),.int .i64 (tx:Int)] w fun e w'=>(e=.returned (.tuple #[.int .i64 ((J.last:Int)+1),.int .i64 0]) ∧
      ∃ v' l' pv,JB w' j d { J with wv:=v',waits:=l',last:=J.last+1 }∧Own w' n0 v' l'∧J.waits.length+15≤l'.length∧l'.length≤J.waits.length+4115∧(∀ k,v'.ownBlock=some k→J.wv.ownBlock=some k∨w.heap.size≤k)∧need l'.length+J.used≤J.blocks ∧
        PB (Zj { J with wv:=v',waits:=l',last:=J.last+1 }) w' p d m { R with held:=some (f.turn pv l (J.last+1) true) }∧AB w' a p j im true∧Kp (WD J f j im x) w w') ∨
      (e=.returned (.tuple #[.int .i64 0,.int .i64 5])∧J.blocks<need (J.waits.length+4115)+J.used∧XB (Zj J) w' x a s (some (v,l))∧AB w' a p j im b∧PB (Zj J) w' p d m R∧Kp (fun k=>k=f.fr) w w'):=by
  have ST:=xstands_any h h2
  have CH:Calls Tryz.prog 288 #[.pointer (some ⟨x,0,none⟩)] w fun e w'=>∃ acc,e=.returned (.tuple #[acc,.int .i64 0])∧CHs (Zj J) b p d m R f w acc w':=by
    cases b with
    | false=>exact xchanges0_any h h2 h3 hf hne
    | true=>exact xchanges1_any h h2 h3 hf hne
  have c1:w.cell? ⟨x,1,none⟩=some (.pointer (some ⟨a,0,none⟩)):=cellD h.box 1
  have f1:decide ((tx:Int)<0)=false:=by simp
  have f2:decide ((4611686018427387904:Int)<(tx:Int))=false:=by simp;omega
  have HT:=Lib.hid htx
  have HW:=Lib.hid hw
  have HR:=Lib.hid hroom
  have HB:=Lib.hid hb
  have HC:=Lib.hid hc
  have HL:=Lib.hid hla
  have HN:=Lib.hid hn0
  clear htx hw hroom hb hc hla hn0
  obtain⟨cur5,e5,-⟩:=(h3.fr f hf).row
  have hO0:=h.pay _ rfl
  go_enter Tryz.func256,Tryz.ntmps256
  go_upto_region 10 with (first
    | (go_at_call 273;(with_reducible refine ST.mono ?_);rintro e w ⟨rfl,rfl⟩)
    | (go_at_call 288;(with_reducible refine CH.mono ?_);rintro e w2 ⟨acc,rfl,⟨g,c,ch,rfl,hg,hrc,hok,hpg,hb1,hb2⟩,h32,k2⟩))
  have hx2:=h.kp k2 (tag_ne h.box e5 (by decide)) (h.map.ne e5) (fun u e g q1 q2=>by injection e with e;subst e;exact(h.pay _ rfl).1.tag e5 (by decide) (q2▸q1)) (fun _ _ h=>h)
  have h22:=h2.kp k2 (tag_ne h2.box e5 (by decide)) (h2.map.ne e5)
  have j2:JB w2 j d J:=hj.kp k2 (tag_ne hj e5 (by decide))
  have hO2:=hO.kp k2 (fun k q1 q2=>hO.tag e5 (by decide) (q2▸q1))
  have hsz2:=k2.size
  have AP:=jappend_g (x:=1) (tx:=tx) (n:=1) (c:=c) (A:=some ⟨g,0,none⟩) (M:=4115) j2 hO2 (Nat.le_trans HN.out hsz2) HW.out HR.out HB.out HC.out HL.out (fun w' hb=>by
    have E:=enc_any 1 tx HT.out (some ⟨g,0,none⟩) 1 c [ch] w' ((hrc.below hb).more hb.size) rfl (by decide) (by simpa using hok) (fun w3 hb3=>rightA_any tx HT.out (some ⟨g,0,none⟩) 1 c [ch] w3 (((hrc.below hb).more hb.size).below hb3 |>.more hb3.size) rfl (by decide) (by decide) (by simpa using hok) (fun i h=>absurd h (by simp)))
    exact E)
  rw[show(((1:UInt8).toNat:Nat):Int)=1 from rfl] at AP
  have cJ:w2.cell? ⟨a,2,none⟩=some (.pointer (some ⟨j,0,none⟩)):=cellD h22.box 2
  obtain⟨r0,r1,r2,r3⟩:=hrc.one
  go_upto_region 14 with (go_at_call 168;with_reducible refine AP.mono ?_)
  rintro e w3 hAP
  rcases hAP with⟨rfl,v',l',j3,o3,n1,n2,n3,n4,k3⟩|⟨rfl,b3,hfull⟩
  rotate_left
  · have hx3:=hx2.below b3
    have h23:=h22.below b3
    have h33:=h32.below b3
    have K3:=k2.then (Kp.of b3)
    clear AP ST CH
    go_wp2
    go_ret2
    exact .inr ⟨rfl,hfull,hx3,h23,h33,K3⟩
  go_upto_region 17 with fail
  generalize hJ':({ J with wv:=v',waits:=l',last:=J.last+1 }:JR)=J' at j3
  have hZ:∀ g,g<w2.heap.size→Zj J' g→Zj J g:=fun g hg2 e=>by
    rw[← hJ'] at e
    rcases n3 g e with q|q
    · exact q
    · omega
  have nS:∀ {k:Nat} {cs:Array Value} {t:TypeId},w2.heap[k]? = some (.cells cs t (0,0))→t≠232→t≠5→¬(k=j∨J.wv.ownBlock=some k):=fun {k cs t} e t1 t2 q=>by
    rcases q with q|q
    · exact tag_ne e j2 t1 q
    · exact hO2.tag e t2 q
  have nM:∀ {k:Nat} {mm:List (Int×Value)},MapI w2 k mm→¬(k=j∨J.wv.ownBlock=some k):=fun {k mm} e q=>by
    rcases q with q|q
    · exact e.ne j2 q
    · exact hO2.tagm e q
  have hx3:XB (Zj J') w3 x a s (some (v,l)):=hx2.kp k3 (nS hx2.box (by decide) (by decide)) (nM hx2.map) (fun u e g q1 q2=>by
    injection e with e
    subst e
    rcases q2 with q2|q2
    · exact(hx2.pay _ rfl).1.tag j2 (by decide) (q2▸q1)
    · exact(hx2.pay _ rfl).2.2 g q1 q2) hZ
  have h23:AB w3 a p j im b:=h22.kp k3 (nS h22.box (by decide) (by decide)) (nM h22.map)
  have h33:PB (Zj J') w3 p d m R:=h32.kp k3 (nS h32.box (by decide) (by decide)) (nM h32.map) (fun f' hf'=>by
    obtain⟨cur,e,-⟩:=(h32.fr f' hf').row
    refine⟨nS e (by decide) (by decide),fun g q1 q2=>?_⟩
    rcases q2 with q2|q2
    · exact(h32.fr f' hf').pay.tag j2 (by decide) (q2▸q1)
    · exact(h32.fr f' hf').dry g q1 q2) hZ
  have gn:¬(g=j∨J.wv.ownBlock=some g):=fun q=>by
    rcases q with q|q
    · have:=hlt hj;omega
    · have:=hO.lt g q;omega
  have e3:=k3.block g r0 gn
  have y0:w3.cell? ⟨g,0,none⟩=some (.int .i64 1):=(cellK e3).trans (by rw[r1,hpg];rfl)
  have y1:w3.cell? ⟨g,1,none⟩=some (.slice ch.ia ch.il ch.ic):=(cellK e3).trans r2
  have y2:w3.cell? ⟨g,2,none⟩=some (.slice ch.pa ch.pn ch.pc):=(cellK e3).trans r3
  have g3:g<w3.heap.size:=Nat.lt_of_lt_of_le r0 k3.size
  have hz3:∀ k,Zj J' k→k<w3.heap.size:=fun k e=>o3.lt k (by rw[← hJ'] at e;exact e)
  have HN3:=Lib.hid n3
  clear n3 AP ST CH cJ c1 f1 f2
  go_loopw [65] (fun i wr=>(i=.int .i64 0∧wr=w3)∨(i=.int .i64 1∧(∃ pv,PB (Zj J') wr p d m { R with held:=some (f.turn pv l (J.last+1) true) })∧Kp (·=f.fr) w3 wr)) (fun i _=>2-(RowKit.intOf i).toNat)
  case atStart=>exact .inl ⟨rfl,rfl⟩
  case round=>
    rcases hrel with⟨rfl,rfl⟩|⟨rfl,⟨pv,hp⟩,kp⟩
    · go_upto_region 19 with fail
      obtain⟨W4,hW4,g4,b4,s4⟩:=box_alloc wr (.cells #[.int .i64 1,.slice ch.ia ch.il ch.ic,.slice ch.pa ch.pn ch.pc] 306)
      rw[hW4]
      obtain⟨W5,hW5,e5',b5⟩:=drew_name W4
      have b45:Below wr.heap.size wr W5:=b4.trans (b5.mono b4.size)
      have hx5:=hx3.below b45
      have h25:=h23.below b45
      have h35:=h33.below b45
      have hl:l.length=4080:=(hx5.pay _ rfl).2.1
      obtain⟨g2,c4,e4,hc4,hg2,rr⟩:=(hx5.pay _ rfl).1.rd0 hl (by decide)
      dsimp only at e4
      subst e4
      have m5:MapI W5 s [(1,.slice (some ⟨g2,0,none⟩) 4080 c4)]:=hx5.map
      have L:=lookV m5 1
      have PS:=pset_any (lsn:=J.last+1) (c:=c4) h35 hf rr hl (fun k e=>Nat.lt_of_lt_of_le (hz3 k e) b45.size)
      rw[show(((J.last+1:Nat)):Int)=(J.last:Int)+1 from rfl] at PS
      have ca:W5.cell? ⟨a,1,none⟩=some (.pointer (some ⟨p,0,none⟩)):=cellD h25.box 1
      have cx:W5.cell? ⟨x,2,none⟩=some (.map (some s)):=cellD hx5.box 2
      have cw:W5.cell? ⟨wr.heap.size,0,none⟩=some (.int .i64 1):=cellD (keepB b5 g4) 0
      clear s4
      refine stillW 14 (by kernel_rfl) (by kernel_rfl) W5 hW5 ?_
      simp only[List.take_succ_cons,List.take_zero,List.drop_succ_cons,List.drop_zero]
      repeat still_step
      refine wpStill_nil ?_
      go_wp2_with (go_at_call 290;(with_reducible refine PS.mono ?_);rintro e w6 ⟨rfl,⟨pv,h36,hpv⟩,k6⟩)
      go_roundw
      case rel=>exact .inr ⟨rfl,⟨pv,h36⟩,(Kp.of b45).then k6⟩
      case measure=>decide
    · have e30:=(h33.fr f hf).row
      obtain⟨cur3,e33,-⟩:=e30
      have hx4:XB (Zj J') wr x a s (some (v,l)):=hx3.kp kp (tag_ne hx3.box e33 (by decide)) (hx3.map.ne e33) (fun u e g q1 q2=>by injection e with e;subst e;exact(hx3.pay _ rfl).1.tag e33 (by decide) (q2▸q1)) (fun _ _ h=>h)
      have h24:AB wr a p j im b:=h23.kp kp (tag_ne h23.box e33 (by decide)) (h23.map.ne e33)
      have gf:¬g=f.fr:=fun e=>by have:=hlt e5;omega
      have z1:wr.cell? ⟨g,1,none⟩=some (.slice ch.ia ch.il ch.ic):=(cellK (kp.block g g3 gf)).trans y1
      have z0:wr.cell? ⟨g,0,none⟩=some (.int .i64 1):=(cellK (kp.block g g3 gf)).trans y0
      have z2:wr.cell? ⟨g,2,none⟩=some (.slice ch.pa ch.pn ch.pc):=(cellK (kp.block g g3 gf)).trans y2
      go_upto_region 25 with fail
      obtain⟨wq,rfl⟩:∃ wq,wq=wr:=⟨_,rfl⟩
      go_loopw [93] (fun i w7=>(i=.int .i64 0∧w7=wq)∨(i=.int .i64 1∧AB w7 a p j im true∧Kp (·=im) wq w7)) (fun i _=>2-(RowKit.intOf i).toNat)
      case atStart=>exact .inl ⟨rfl,rfl⟩
      case round=>
        rcases hrel with⟨rfl,rfl⟩|⟨rfl,h27,k7⟩
        · cases b with
          | true =>
            rw[hb2 rfl] at z1
            go_upto_region 27 with fail
            obtain⟨W8,hW8,g8,b8,s8⟩:=box_alloc wr (.cells #[.int .i64 1,.slice ch.ia 0 ch.ic,.slice ch.pa ch.pn ch.pc] 306)
            rw[hW8]
            have q1:W8.cell? ⟨wr.heap.size,1,none⟩=some (.slice ch.ia 0 ch.ic):=cellD g8 1
            clear s8
            go_wp2
            go_roundw
            case rel=>exact .inr ⟨rfl,h24.below b8,Kp.of b8⟩
            case measure=>decide
          | false =>
            rw[hb1 rfl] at z1
            go_upto_region 27 with fail
            obtain⟨W8,hW8,g8,b8,s8⟩:=box_alloc wr (.cells #[.int .i64 1,.slice ch.ia 4080 ch.ic,.slice ch.pa ch.pn ch.pc] 306)
            rw[hW8]
            have q1:W8.cell? ⟨wr.heap.size,1,none⟩=some (.slice ch.ia 4080 ch.ic):=cellD g8 1
            clear s8
            go_upto_region 28 with fail
            obtain⟨W9,hW9,e9,b9⟩:=drew_name W8
            have b89:Below wr.heap.size wr W9:=b8.trans (b9.mono b8.size)
            have h29:=h24.below b89
            have ca:W9.cell? ⟨a,3,none⟩=some (.map (some im)):=cellD h29.box 3
            have cw:W9.cell? ⟨wr.heap.size,0,none⟩=some (.int .i64 1):=cellD (keepB b9 g8) 0
            have m9:MapI W9 im []:=h29.map
            obtain⟨W10,hU,m10,o10,s10,os10,t10,u10⟩:=run_update_int (P:=Tryz.prog) Tryz.underlying249 Tryz.underlying3 m9 1 (.agg #[])
            have k10:Kp (·=im) W9 W10:=⟨os10,t10,u10,Nat.le_of_eq s10.symm,fun k _ hk=>o10 k hk⟩
            clear os10 t10 u10 s10 o10
            refine stillW 7 (by kernel_rfl) (by kernel_rfl) W9 hW9 ?_
            simp only[List.take_succ_cons,List.take_zero,List.drop_succ_cons,List.drop_zero]
            repeat still_step
            refine wpStill_nil ?_
            go_wp2
            go_roundw
            case rel=>exact .inr ⟨rfl,⟨k10.keep h29.box (fun e=>m9.ne h29.box e.symm),m10⟩,(Kp.of b89).then k10⟩
            case measure=>decide
        · have mi:MapI wq im (imM b):=h24.map
          have hx7:XB (Zj J') wr x a s (some (v,l)):=hx4.kp k7 (fun e=>mi.ne hx4.box e.symm) hsi (fun u e g q1 q2=>by injection e with e;subst e;exact(hx4.pay _ rfl).1.tagm mi (q2▸q1)) (fun _ _ h=>h)
          have EN:=xend_any hx7
          go_wp2_with (go_at_call 289;(with_reducible refine EN.mono ?_);rintro e w8 ⟨rfl,k8⟩)
          go_ret2
          have j4:JB wq j d J':=j3.kp kp (tag_ne j3 e33 (by decide))
          have j7:JB wr j d J':=j4.kp k7 (fun e=>mi.ne j4 e.symm)
          have j8:JB w8 j d J':=j7.kp k8 (tag_ne j7 hx7.box (by decide))
          have o4:=o3.kp kp (fun k q1 q2=>o3.tag e33 (by decide) (q2▸q1))
          have o7:=o4.kp k7 (fun k q1 q2=>o4.tagm mi (q2▸q1))
          have o8:=o7.kp k8 (fun k q1 q2=>o7.tag hx7.box (by decide) (q2▸q1))
          have p7:=hp.kp k7 (fun e=>mi.ne hp.box e.symm) hmi (fun f' hf'=>by
            obtain⟨cur,e,-⟩:=(hp.fr f' hf').row
            exact⟨fun q=>mi.ne e q.symm,fun g q1 q2=>(hp.fr f' hf').pay.tagm mi (q2▸q1)⟩) (fun _ _ h=>h)
          have p8:=p7.kp k8 (tag_ne p7.box hx7.box (by decide)) (p7.map.ne hx7.box) (fun f' hf'=>by
            obtain⟨cur,e,-⟩:=(p7.fr f' hf').row
            exact⟨tag_ne e hx7.box (by decide),fun g q1 q2=>(p7.fr f' hf').pay.tag hx7.box (by decide) (q2▸q1)⟩) (fun _ _ h=>h)
          have a8:AB w8 a p j im true:=h27.kp k8 (tag_ne h27.box hx7.box (by decide)) (h27.map.ne hx7.box)
          have K:Kp (WD J f j im x) w w8:=((((k2.weaken fun k e=>.inl e).then (k3.weaken fun k e=>by rcases e with e | e;exact .inr (.inl e);exact .inr (.inr (.inl e)))).then (kp.weaken fun k e=>.inl e)).then (k7.weaken fun k e=>.inr (.inr (.inr (.inl e))))).then (k8.weaken fun k e=>.inr (.inr (.inr (.inr e))))
          subst hJ'
          exact .inl ⟨rfl,v',l',pv,j8,o8,n1,n2,fun k e=>(HN3.out k e).imp id fun q=>Nat.le_trans hsz2 q,n4,p8,a8,K⟩
end
end Go.Proofs.YtdbkocfbhpgpkaaGreat
