/-
  octets.AddPart; record.Encode of right records: how many bytes it makes.
-/
import Derived.Test.YtdbkocfbhpgpkaaGreatb16
import Derived.Test.YtdbkocfbhpgpkaaGreatb01
import Derived.Deep.RegionHeld3
set_option linter.unusedVariables false
set_option linter.unusedSimpArgs false
namespace Go.Proofs.YtdbkocfbhpgpkaaGreat
open Go Go.RowKit Go.Shelf
set_option maxRecDepth 100000
set_option maxHeartbeats 4000000
theorem addpart_any(A B:Option Addr)(n c m d:Nat)(l k:List UInt8)(w:World)(hr:Rd w w.heap.size A l)(hk:Rd w w.heap.size B k)(hn:n=l.length)(hm:m=k.length)(hl:l.length≤100000)(h65:m≤65535) :
    Calls Tryz.prog 268 #[.slice A n c,.slice B m d] w fun e w'=>(∃ u,e=.returned (.tuple #[u,.int .i64 0])∧Own w' w.heap.size u (l++le 2 m++k))∧Below w.heap.size w w':=by
  have HN:=Lib.hid hn
  have HM:=Lib.hid hm
  have f1:¬(65535:Int)<(m:Int):=by omega
  have f2:IntKind.u16.wrap (m:Int)=m:=by rw[IntKind.wrap_u16];omega
  have A2:=add16_any A c n m l w hr hn (by omega) h65
  clear hn hm
  go_enter Tryz.func268,Tryz.ntmps268
  go_wp2_with (first
    | (go_at_call 150;with_reducible refine A2.mono ?_;rintro e w2 ⟨u,rfl,own,b2⟩)
    | (at_builtin; refine apB rfl (.tmp 13) (.tmp 14) rfl w.heap.size _ _ rfl own _ B m d k rfl HM.out (hk.below b2) ?_ b2.size ?_
       · have:=HM.out;simp only[List.length_append,le_len];omega
       intro v3 w3 own3 b3 _ _))
  go_ret2
  exact⟨⟨_,rfl,own3⟩,b2.trans b3⟩
structure ES(wb:World)(base g:Nat)(X:Array Value)(t:TypeId)(l:List UInt8)(v:Value)(W:World):Prop where
  own:Own W base v l
  bl:Below base wb W
  sz:base≤W.heap.size
  bx:W.heap[g]? = some (.cells X t (0,0))
  ne:v.ownBlock≠some g
section
variable {wb:World}{base g:Nat}{X:Array Value}{t:TypeId}{l l':List UInt8}{v v':Value}{W W':World}
theorem ES.call(s:ES wb base g X t l v W)(hb:Below W.heap.size W W'):ES wb base g X t l v W':=
  ⟨s.own.belowS hb,s.bl.trans (hb.mono s.sz),Nat.le_trans s.sz hb.size,keepB hb s.bx,s.ne⟩
theorem ES.app(s:ES wb base g X t l v W)(h1:Own W' base v' l')(h2:Below base W W')(h3:v'.ownBlock=v.ownBlock∨v'.ownBlock=some W.heap.size)(h4:W.grownBy W' v.ownBlock):ES wb base g X t l' v' W':=by
  refine⟨h1,s.bl.trans h2,Nat.le_trans s.sz h2.size,(h4.block g (hlt s.bx) (fun e=>s.ne e.symm)).trans s.bx,?_⟩
  rcases h3 with e|e
  · rw[e];exact s.ne
  · rw[e];intro h;have:=hlt s.bx;injection h with h;omega
theorem ES.start(own:Own W base v l)(bl:Below base wb W)(sz:base≤W.heap.size)(X:Array Value)(t:TypeId):ES wb base W.heap.size X t l v (W.alloc (.cells X t)):=
  ⟨own.alloc _,bl.alloc sz _,by simp;omega,heap_alloc_new _ _,fun e=>Nat.lt_irrefl _ (own.lt _ e)⟩
theorem ES.cell(s:ES wb base g X t l v W)(k:Nat):W.cell? ⟨g,k,none⟩=X[k]?:=cellD s.bx k
theorem ES.gets(s:ES wb base g X t l v W)(o:Obj):ES wb base g X t l v (W.alloc o):=s.call ((Below.refl _ _).alloc (Nat.le_refl _) _)
end
theorem num1{l:List UInt8}{L:Nat}(h:l.length=L)(h2:L≤100000):([]++le 4 L).length+l.length≤140737488355328:=by simp only[List.length_append,le_len,List.length_nil];omega
theorem num2{l:List UInt8}{L k:Nat}(h:l.length=L)(h1:11≤L)(h2:L≤11+4100 * k):15≤([]++le 4 L++l).length∧([]++le 4 L++l).length≤15+4100 * k:=by
  simp only[List.length_append,le_len,List.length_nil];omega
theorem wrapU32{L:Nat}(h:L≤100000):IntKind.u32.wrap (L:Int)=L:=by rw[IntKind.wrap_u32];omega
theorem wrapU16{L:Nat}(h:L≤60000):IntKind.u16.wrap (L:Int)=L:=by rw[IntKind.wrap_u16];omega
theorem num4{l:List UInt8}{v:Nat}(h:l.length≤100000)(m:Nat)(hm:m≤16):l.length+([]++le m v).length≤140737488355328:=by simp only[List.length_append,le_len,List.length_nil];omega
theorem num5{l k:List UInt8}(h:l.length≤100000)(hk:k.length≤100000):l.length+k.length≤140737488355328:=by omega
theorem meas{k n:Nat}(h:k<n):n-natOf (.int .i64 ((k:Int)+1))<n-natOf (.int .i64 (k:Int)):=by simp only[natOf];omega
theorem psz_snoc{ps:List PC}{k:Nat}(h:k<ps.length):psz (ps.take (k+1))=psz (ps.take k)+(4+ps[k].n):=by
  unfold psz
  rw[List.take_succ_eq_append_getElem h,List.map_append,List.sum_append]
  simp
theorem psz_take_le(ps:List PC)(k:Nat):psz (ps.take k)≤psz ps:=by
  have h:psz ps=psz (ps.take k)+psz (ps.drop k):=by
    unfold psz
    rw[← List.sum_append,← List.map_append,List.take_append_drop]
  omega
theorem num6{m pN:Nat}{k:List UInt8}(h:k.length=pN):([]++le 2 m++le 2 pN++k).length=4+pN:=by simp only[List.length_append,le_len,List.length_nil,h]
theorem num7{l k:List UInt8}{m pN:Nat}(h:k.length=pN)(hl:l.length≤100000)(hp:pN≤65535):l.length+([]++le 2 m++le 2 pN++k).length≤140737488355328:=by rw[num6 h];omega
theorem num8{l k:List UInt8}{m pN a b:Nat}(h:k.length=pN)(h1:a≤l.length)(h2:l.length+(4+pN)≤b):a≤(l++([]++le 2 m++le 2 pN++k)).length∧(l++([]++le 2 m++le 2 pN++k)).length≤b:=by
  rw[List.length_append,num6 h];omega
theorem num3{L k:Nat}(hk:k≤16)(h2:L≤11+4100 * k):L≤100000:=by omega
theorem enc_any(x:UInt8)(tx:Nat)(htx:tx≤1000000)(A:Option Addr)(n c:Nat)(cs:List CH)(w:World)(hr:RdCh w w.heap.size A cs)(hn:n=cs.length)(h16:n≤16)(ok:∀ x∈cs,COk x)
    (RI:∀ w',Below w.heap.size w w'→Calls Tryz.prog 267 #[.agg #[.int .u8 (x.toNat:Int),.int .i64 (tx:Int),.slice A n c]] w' fun e w2=>e=.returned (.bool true)∧Below w'.heap.size w' w2) :
    Calls Tryz.prog 233 #[.agg #[.int .u8 (x.toNat:Int),.int .i64 (tx:Int),.slice A n c]] w fun e w'=>(∃ v l,e=.returned (.tuple #[v,.int .i64 0])∧Own w' w.heap.size v l∧15≤l.length∧l.length≤15+4100 * n)∧Below w.heap.size w w':=by
  have HN:=Lib.hid hn
  have OK:=Lib.hid ok
  obtain⟨wb,hwb,gb,bb,sb⟩:=box_alloc w (.cells #[.int .u8 (x.toNat:Int),.int .i64 (tx:Int),.slice A n c] 139)
  have R1:=RI wb bb
  have HR:=Lib.hid (hr.below bb)
  have HSB:=Lib.hid sb
  have hwz:w.heap.size≤wb.heap.size:=by omega
  have k0:wb.cell? ⟨w.heap.size,0,none⟩=some (.int .u8 (x.toNat:Int)):=cellD gb 0
  have k1:wb.cell? ⟨w.heap.size,1,none⟩=some (.int .i64 (tx:Int)):=cellD gb 1
  have k2:wb.cell? ⟨w.heap.size,2,none⟩=some (.slice A n c):=cellD gb 2
  have f1:IntKind.u64.wrap (tx:Int)=tx:=by rw[IntKind.wrap_u64];omega
  have f2:IntKind.u16.wrap (n:Int)=n:=by rw[IntKind.wrap_u16];omega
  clear hn ok sb hr RI
  go_enter Tryz.func233,Tryz.ntmps233
  go_upto_region 3 with (go_at_call 267;with_reducible refine R1.mono ?_;rintro e w2 ⟨rfl,b2⟩)
  have g2:=keepB b2 gb
  have y0:w2.cell? ⟨w.heap.size,0,none⟩=some (.int .u8 (x.toNat:Int)):=cellD g2 0
  obtain⟨W3,hW3,g3,b3,s3⟩:=box_alloc w2 (.cells #[.int .u8 (x.toNat:Int)] 5)
  have S3:ES wb wb.heap.size w.heap.size #[.int .u8 (x.toNat:Int),.int .i64 (tx:Int),.slice A n c] 139 [x] (.slice (some ⟨w2.heap.size,0,none⟩) 1 1) W3:=
    ⟨Own.of_full g3 b2.size rfl (by simp[maxLen]),b2.trans (b3.mono b2.size),Nat.le_trans b2.size b3.size,keepB b3 g2,by
      have:=HSB.out;have:=b2.size
      simp only[Value.ownBlock,ne_eq,Option.some.injEq];omega⟩
  clear s3 b3 g3 g2 b2 gb R1
  go_upto_region 4 with fail
  clear k0 k1 k2 y0
  have z3:=S3.sz
  have y1:W3.cell? ⟨w.heap.size,1,none⟩=some (.int .i64 (tx:Int)):=S3.cell 1
  go_upto_region 5 with (first
    | (go_at_call 147;with_reducible refine(add64_any none 0 0 tx [] _ (Rd.nil _ _ _) rfl (by simp) (by omega)).mono ?_;rintro e w4 ⟨u4,rfl,ownu,b4⟩;obtain⟨A4,c4,rfl,_,_,r4⟩:=ownu.sl (n:=8) (by simp[le_len]);have S4:=S3.call b4;have z4:=S4.sz)
    | (at_builtin;refine apB rfl (.tmp 17) (.tmp 21) rfl wb.heap.size _ _ rfl S4.own _ _ 8 c4 _ rfl (by simp[le_len]) r4 (by simp[le_len]) z4 ?_;intro v5 w5 own5 b5 q1 q2;have S5:=S4.app own5 b5 q1 q2;clear S3 S4 own5 b5 q1 q2 r4 ownu b4))
  have z5:=S5.sz
  have y2:w5.cell? ⟨w.heap.size,2,none⟩=some (.slice A n c):=S5.cell 2
  go_upto_region 6 with (first
    | (go_at_call 150;with_reducible refine(add16_any none 0 0 n [] _ (Rd.nil _ _ _) rfl (by simp) (by omega)).mono ?_;rintro e w6 ⟨u6,rfl,ownu,b6⟩;obtain⟨A6,c6,rfl,_,_,r6⟩:=ownu.sl (n:=2) (by simp[le_len]);have S6:=S5.call b6;have z6:=S6.sz)
    | (at_builtin;refine apB rfl (.tmp 23) (.tmp 28) rfl wb.heap.size _ _ rfl S6.own _ _ 2 c6 _ rfl (by simp[le_len]) r6 (by simp[le_len]) z6 ?_;intro v7 w7 own7 b7 q1 q2;have S7:=S6.app own7 b7 q1 q2;clear S5 S6 own7 b7 q1 q2 r6 ownu b6))
  have z7:=S7.sz
  have y2:w7.cell? ⟨w.heap.size,2,none⟩=some (.slice A n c):=S7.cell 2
  obtain⟨l7,hl7⟩:∃ l7,l7=[x]++([]++le 8 tx)++([]++le 2 n):=⟨_,rfl⟩
  rw[← hl7] at S7
  have hll:l7.length=11:=by rw[hl7];simp[le_len]
  clear hl7
  go_wp2
  go_loopw [4,33] (fun v i wr=>∃ (k:Nat) (l:List UInt8),k≤n∧i=.int .i64 k∧Own wr wb.heap.size v l∧11≤l.length∧l.length≤11+4100 * k∧Below wb.heap.size wb wr) (fun _ i _=>n-natOf i)
  case atStart=>exact⟨0,l7,by omega,rfl,S7.own,by omega,by omega,S7.bl⟩
  case round=>
    obtain⟨k,l,hk,rfl,own,hl1,hl2,hb⟩:=hrel
    clear S7 z7 y2 hll
    have hz:=hb.size
    by_cases hlt:k<n
    · have hkl:k<cs.length:=by have:=HN.out;omega
      obtain⟨b,o,rfl,hbb,hcells⟩:=HR.out (by intro e;rw[e] at hkl;simp at hkl)
      have hcw:=hcells k hkl
      have ck:=OK.out _ (List.getElem_mem hkl)
      obtain⟨⟨pg,ia,il,ic,pa,pn,pc,ps⟩,hp⟩:∃ p,p=cs[k]:=⟨_,rfl⟩
      rw[← hp] at hcw ck
      clear hp hcells
      obtain⟨h1,h2,h3,h4,h5⟩:=hcw
      have hbw:=Nat.lt_of_lt_of_le hbb hwz
      have e1:=(hb.cell (p:=⟨b,o+k * 3,none⟩) hbw).trans h1
      have e2:=(hb.cell (p:=⟨b,o+k * 3+1,none⟩) hbw).trans h2
      have e3:=(hb.cell (p:=⟨b,o+k * 3+2,none⟩) hbw).trans h3
      have I5:=h4.more hwz
      have P5:=h5.more hwz
      dsimp only at e1 e2 e3 I5 P5
      have c1:=ck.pg
      have c2:=ck.img
      have c3:=ck.pn
      have c4:=ck.ps
      have c5:=ck.sz
      dsimp only at c1 c2 c3 c4 c5
      have HC3:=Lib.hid c3
      clear ck h1 h2 h3 h4 h5 c3
      have S0:=ES.start own hb hz #[.int .i64 (pg:Int),.slice ia il ic,.slice pa pn pc] 306
      obtain⟨W1,hW1⟩:∃ W1,wr.alloc (.cells #[.int .i64 (pg:Int),.slice ia il ic,.slice pa pn pc] 306)=W1:=⟨_,rfl⟩
      rw[hW1] at S0
      have z0:=S0.sz
      have y0:W1.cell? ⟨wr.heap.size,0,none⟩=some (.int .i64 (pg:Int)):=S0.cell 0
      have f3:IntKind.u32.wrap (pg:Int)=pg:=wrapU32 (Nat.le_trans (Nat.le_of_lt c1) (by decide))
      have hp32:pg≤4294967295:=Nat.le_trans (Nat.le_of_lt c1) (by decide)
      have hl100:l.length≤100000:=num3 h16 (Nat.le_trans hl2 (by omega))
      have hlA:=num4 (l:=l) (v:=pg) hl100 4 (by decide)
      have z1:=S0.sz
      go_upto_region 10 with (first
        | (go_at_call 151;with_reducible refine(add32_any none 0 0 pg [] _ (Rd.nil _ _ _) rfl (by simp) hp32).mono ?_;rintro e w4 ⟨u4,rfl,ownu,b4⟩;obtain⟨A4,c4',rfl,_,_,r4⟩:=ownu.sl (n:=4) (by simp[le_len]);have S4:=S0.call b4;have z4:=S4.sz)
        | (at_builtin;refine apB rfl (.tmp 37) (.tmp 41) rfl wb.heap.size _ _ rfl S4.own _ _ 4 c4' _ rfl (by simp[le_len]) r4 hlA z4 ?_;intro v5 w5 own5 b5 q1 q2;have S5:=S4.app own5 b5 q1 q2;clear S0 S4 own5 b5 q1 q2 r4 ownu b4))
      have z5:=S5.sz
      have y1:w5.cell? ⟨wr.heap.size,1,none⟩=some (.slice ia il ic):=S5.cell 1
      obtain⟨l5,hl5⟩:∃ l5,l5=l++([]++le 4 pg):=⟨_,rfl⟩
      rw[← hl5] at S5
      have hll:l5.length=l.length+4:=by rw[hl5];simp[le_len]
      have hlB:l5.length+[(1:UInt8)].length≤140737488355328:=num5 (by omega) (by simp)
      have hlC:(l5++[(1:UInt8)]).length≤100000:=by simp only[List.length_append,List.length_cons,List.length_nil];omega
      clear hl5 hlA y0
      rcases c2 with rfl|⟨rfl,rfl⟩
      · obtain⟨w0,rfl⟩:∃ w0,w0=wr:=⟨_,rfl⟩
        have hpn:pn=ps.length:=HC3.out
        have hpn5:pn≤5000:=by have:=c4.len;omega
        have f4:IntKind.u16.wrap (pn:Int)=pn:=wrapU16 (Nat.le_trans hpn5 (by decide))
        have hpn65:pn≤65535:=Nat.le_trans hpn5 (by decide)
        have hlB0:l5.length+[(0:UInt8)].length≤140737488355328:=num5 (by omega) (by simp)
        have hlC0:(l5++[(0:UInt8)]).length≤100000:=by simp only[List.length_append,List.length_cons,List.length_nil];omega
        have hlD:=num4 (v:=pn) hlC0 2 (by decide)
        have r1:Rd (w5.alloc (.cells #[.int .u8 0] 5)) (w5.heap.size+1) (some ⟨w5.heap.size,0,none⟩) [0]:=Rd.one w5 0
        have S6:=S5.gets (.cells #[.int .u8 0] 5)
        have z6:=S6.sz
        have HPN:=Lib.hid hpn
        clear hlB hlC hpn hlC0
        go_upto_region 15 with (first
          | (at_builtin;refine apB rfl (.tmp 54) (.tmp 55) rfl wb.heap.size _ _ rfl S6.own _ _ 1 1 [0] rfl rfl r1 hlB0 z6 ?_;intro v7 w7 own7 b7 q1 q2;have S7:=S6.app own7 b7 q1 q2;have z7:=S7.sz;have y2:w7.cell? ⟨w0.heap.size,2,none⟩=some (.slice pa pn pc):=S7.cell 2;clear S5 S6 own7 b7 q1 q2)
          | (go_at_call 150;with_reducible refine(add16_any none 0 0 pn [] _ (Rd.nil _ _ _) rfl (by simp) hpn65).mono ?_;rintro e w8 ⟨u8',rfl,ownu,b8⟩;obtain⟨A8,c8,rfl,_,_,r8⟩:=ownu.sl (n:=2) (by simp[le_len]);have S8:=S7.call b8;have z8:=S8.sz)
          | (at_builtin;refine apB rfl (.tmp 57) (.tmp 62) rfl wb.heap.size _ _ rfl S8.own _ _ 2 c8 _ rfl (by simp[le_len]) r8 hlD z8 ?_;intro v9 w9 own9 b9 q1 q2;have S9:=S8.app own9 b9 q1 q2;have y2':w9.cell? ⟨w0.heap.size,2,none⟩=some (.slice pa pn pc):=S9.cell 2;clear S7 S8 own9 b9 q1 q2 ownu b8 y2))
        obtain⟨l9,hl9⟩:∃ l9,l9=l5++[(0:UInt8)]++([]++le 2 pn):=⟨_,rfl⟩
        rw[← hl9] at S9
        have hll9:l9.length=l.length+7:=by rw[hl9];simp only[List.length_append,le_len,List.length_cons,List.length_nil];omega
        have HPSZ:=Lib.hid c5
        have OKP:=Lib.hid c4
        clear hl9 hlD hlB0 hll y1 c4 c5
        go_wp2
        go_loopw [4,67] (fun v i wr=>∃ (q:Nat) (l':List UInt8),q≤pn∧i=.int .i64 q∧ES wb wb.heap.size w0.heap.size #[.int .i64 (pg:Int),.slice ia 0 ic,.slice pa pn pc] 306 l' v wr∧l.length+7≤l'.length∧l'.length≤l.length+7+psz (ps.take q)) (fun _ i _=>pn-natOf i)
        case atStart=>exact⟨0,l9,Nat.zero_le _,rfl,S9,Nat.le_of_eq hll9.symm,by rw[hll9];exact Nat.le_add_right _ _⟩
        case round=>
          obtain⟨q,l',hq,rfl,SQ,hq1,hq2⟩:=hrel
          clear S9 hll9 z8 r1 y2'
          by_cases hlq:q<pn
          · have hql:q<ps.length:=by have:=HPN.out;omega
            obtain⟨pb,po,rfl,hpb,hpc⟩:=P5 (by intro e;rw[e] at hql;simp at hql)
            obtain⟨p1,p2,pl,hpl,pr⟩:=hpc q hql
            have hps:=psz_snoc hql
            have hok:=OKP.out.ok q hql
            obtain⟨⟨pat,pA,pN,pC⟩,hp⟩:∃ p,p=ps[q]:=⟨_,rfl⟩
            rw[← hp] at p1 p2 hpl pr hps hok
            dsimp only at p1 p2 hpl pr hps hok
            have hpsl:=psz_take_le ps (q+1)
            have hpc5:=HPSZ.out
            have hl2k:l'.length+(4+pN)≤l.length+7+psz (ps.take (q+1)):=by omega
            have hbig:l'.length≤100000:=by omega
            have hpN:pN≤65535:=by omega
            have hat:pat≤65535:=by omega
            have f5:IntKind.u16.wrap (pat:Int)=pat:=wrapU16 (by omega)
            clear hp hpc hps hpsl hpc5 hok
            have e4:=(SQ.bl.cell (p:=⟨pb,po+q * 2,none⟩) hpb).trans p1
            have e5:=(SQ.bl.cell (p:=⟨pb,po+q * 2+1,none⟩) hpb).trans p2
            obtain⟨W1,hW1,g1,b1,s1⟩:=box_alloc wr (.cells #[.int .i64 (pat:Int),.slice pA pN pC] 355)
            have SA:=SQ.call b1
            have b1d:=b1.trans ((below_drew W1).mono b1.size)
            have g1d:=keepB (below_drew W1) g1
            have SD:=SA.call (below_drew W1)
            have hzq:=SQ.sz
            have kk:=And.intro (cellD g1d 0) (cellD g1d 1)
            have A1:=add16_any none 0 0 pat [] W1.drew (Rd.nil _ _ _) rfl (by simp) hat
            have PR:=fun w' (h:Below wb.heap.size wb w')=>pr.below h
            clear s1 b1 hq2
            go_upto_region 18 with fail
            go_region_held3 (fun w'=>w'.cell? ⟨wr.heap.size,0,none⟩=some (.int .i64 (pat:Int))∧w'.cell? ⟨wr.heap.size,1,none⟩=some (.slice pA pN pC))
              (first | with_reducible exact kk | with_reducible exact kk2 | with_reducible exact kk3 | go_keep)
              (first
                | (go_at_call 150;with_reducible refine A1.mono ?_;rintro e w4 ⟨u4,rfl,ownu,b4⟩;obtain⟨A4,c4,rfl,_,_,r4⟩:=ownu.sl (n:=2) (by simp[le_len]);have SB:=SD.call b4;have g4:=keepB b4 g1d;have kk2:=And.intro (cellD g4 0) (cellD g4 1);have r4':=(PR w4 SB.bl).more SB.sz)
                | (go_at_call 268;with_reducible refine(addpart_any A4 pA 2 c4 pN pC _ pl _ r4 r4' (by simp[le_len]) hpl.symm (by simp[le_len]) hpN).mono ?_;rintro e w6 ⟨⟨u6,rfl,own6⟩,b6⟩;have SC:=SB.call b6;have g6:=keepB b6 g4;have kk3:=And.intro (cellD g6 0) (cellD g6 1))
                | fail)
            all_goals
              obtain⟨A7,c7,rfl,_,_,r7⟩:=own6.sl (n:=4+pN) (num6 hpl)
              have zC:=SC.sz
              have hl7:=num7 (l:=l') (m:=pat) (k:=pl) hpl hbig hpN
              have hln:=(num6 (m:=pat) hpl).symm
              have hx1:=num8 (l:=l') (m:=pat) (k:=pl) hpl hq1 hl2k
              have HX:=Lib.hid hx1
              clear hx1 hl2k
              go_wp2_with (at_builtin;refine apB rfl (.tmp 84) (.tmp 85) rfl wb.heap.size _ _ rfl SC.own _ A7 (4+pN) c7 _ rfl hln r7 hl7 zC ?_;intro v8 w8 own8 b8 q1 q2;have S8:=SC.app own8 b8 q1 q2)
              go_roundw
              case rel=>exact⟨q+1,_,hlq,rfl,S8,HX.out.1,HX.out.2⟩
              case measure=>exact meas hlq
          · obtain rfl:q=pn:=by omega
            have hfin:psz (ps.take q)≤4088:=by
              rw[show ps.take q=ps from by rw[HPN.out];exact List.take_length];exact HPSZ.out
            have h11:11≤l'.length:=by omega
            have h41:l'.length≤11+4100 * (k+1):=by omega
            go_wp2
            go_roundw
            case rel=>exact⟨k+1,_,hlt,rfl,SQ.own,h11,h41,SQ.bl⟩
            case measure=>exact meas hlt
      · obtain⟨im,him,rim⟩:=I5
        have hlD:=num5 hlC (show im.length≤100000 by omega)
        have r1:Rd (w5.alloc (.cells #[.int .u8 1] 5)) (w5.heap.size+1) (some ⟨w5.heap.size,0,none⟩) [1]:=Rd.one w5 1
        have S6:=S5.gets (.cells #[.int .u8 1] 5)
        have z6:=S6.sz
        have fin:11≤((l5++[(1:UInt8)])++im).length∧((l5++[(1:UInt8)])++im).length≤11+4100 * (k+1):=by
          simp only[List.length_append,List.length_cons,List.length_nil];omega
        have HF:=Lib.hid fin
        have HIM:=Lib.hid him
        clear fin hll hlC him
        go_wp2_with (first
          | (at_builtin;refine apB rfl (.tmp 47) (.tmp 48) rfl wb.heap.size _ _ rfl S6.own _ _ 1 1 [1] rfl rfl r1 hlB z6 ?_;intro v7 w7 own7 b7 q1 q2;have S7:=S6.app own7 b7 q1 q2;have z7:=S7.sz;have y1:w7.cell? ⟨wr.heap.size,1,none⟩=some (.slice ia 4080 ic):=S7.cell 1;have r7:=rim.below S7.bl;clear S5 S6 own7 b7 q1 q2)
          | (at_builtin;refine apB rfl (.tmp 50) (.tmp 52) rfl wb.heap.size _ _ rfl S7.own _ _ 4080 ic im rfl HIM.out.symm r7 hlD z7 ?_;intro v8 w8 own8 b8 q1 q2;have S8:=S7.app own8 b8 q1 q2;clear S7 own8 b8 q1 q2))
        go_roundw
        case rel=>exact⟨k+1,_,hlt,rfl,S8.own,HF.out.1,HF.out.2,S8.bl⟩
        case measure=>exact meas hlt
    · obtain rfl:k=n:=by omega
      obtain⟨L,hL⟩:∃ L,l.length=L:=⟨_,rfl⟩
      obtain⟨A8,c8,rfl,_,_,r8⟩:=own.sl hL
      rw[hL] at hl1 hl2
      have hL3:=num3 h16 hl2
      have f3:=wrapU32 hL3
      have NB:=num1 hL hL3
      have NC2:=num2 hL hl1 hl2
      have HLL:=Lib.hid hL
      clear hL hl1 hl2
      go_wp2_with (first
        | (go_at_call 151;with_reducible refine(add32_any none 0 0 L [] _ (Rd.nil _ _ _) rfl (by simp) (by omega)).mono ?_;rintro e w9 ⟨u9,rfl,ownu,b9⟩;have r9:=r8.below b9;have z9:=b9.size)
        | (at_builtin; refine apB rfl (.tmp 92) (.tmp 93) rfl wr.heap.size _ _ rfl ownu _ A8 L c8 l rfl HLL.out.symm r9 NB z9 ?_
           intro v10 w10 own10 b10 q1 q2))
      go_ret2
      exact⟨⟨_,_,rfl,own10.down (Nat.le_trans hwz hz),NC2.1,NC2.2⟩,bb.trans ((hb.trans ((b9.mono hz).trans (b10.mono hz))).mono hwz)⟩
end Go.Proofs.YtdbkocfbhpgpkaaGreat
