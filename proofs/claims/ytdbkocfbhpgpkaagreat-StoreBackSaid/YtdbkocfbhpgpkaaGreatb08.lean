/-
  slices.Clone of bytes, stamp.Open: what each call does.
-/
import Derived.Test.YtdbkocfbhpgpkaaGreatb05
import Derived.Test.YtdbkocfbhpgpkaaGreatb07
import Derived.Test.YtdbkocfbhpgpkaaGreatb01
import Derived.Deep.RegionHeld3
import Derived.Lib.LazyBuf
import Derived.Stop.BytesEq
set_option linter.unusedVariables false
set_option linter.unusedSimpArgs false
namespace Go.Proofs.YtdbkocfbhpgpkaaGreat
open Go Go.RowKit
set_option maxRecDepth 100000
set_option maxHeartbeats 8000000
theorem Rd.sub{w:World}{B b o:Nat}{l:List UInt8}(h:Rd w B (some ⟨b,o,none⟩) l){p n:Nat}(hp:p+n≤l.length):Rd w B (some ⟨b,o+p,none⟩) (sub l p n):=fun hne=>by
  obtain⟨b',o',e,hb,hc⟩:=h (by rintro rfl;simp[Go.Proofs.YtdbkocfbhpgpkaaGreat.sub] at hne)
  cases e
  refine⟨b,o+p,rfl,hb,fun k hk=>?_⟩
  have hk2:k<n:=by rw[sub_len hp] at hk;exact hk
  have e2:(Go.Proofs.YtdbkocfbhpgpkaaGreat.sub l p n)[k]=l[p+k]'(by omega):=by simp[Go.Proofs.YtdbkocfbhpgpkaaGreat.sub]
  rw[e2,Nat.add_assoc]
  exact hc (p+k) (by omega)
theorem leN_inj:∀ {a b:List UInt8},a.length=b.length→leN a=leN b→a=b
  | [],[],_,_=>rfl
  | x :: a, y :: b, h, e => by
    simp only[leN] at e
    have hx:=x.toNat_lt
    have hy:=y.toNat_lt
    have e1:x.toNat=y.toNat:=by omega
    have e2:leN a=leN b:=by omega
    rw[leN_inj (by simpa using h) e2,UInt8.toNat_inj.1 e1]
theorem results_tmps3{fn:Func}{p q r:Tmp}(h:fn.results=#[.tmp p,.tmp q,.tmp r]){tmps:Array Value}{P:Program}{w:World}:(results fn tmps).run P w=.ok (.tuple #[tmps.getD p undef,tmps.getD q undef,tmps.getD r undef]) w:=by
  simp only[results,h]
  simp[Sem.run_bind,Result.andThen]
theorem clone_any(b o c n:Nat)(l:List UInt8)(w:World)(hr:Rd w w.heap.size (some ⟨b,o,none⟩) l)(hn:n=l.length)(h0:0<n)(hl:n≤1000000) :
    Calls Tryz.prog 99 #[.slice (some ⟨b,o,none⟩) n c] w fun e w'=>(∃ v,e=.returned v∧Own w' w.heap.size v l)∧Below w.heap.size w w':=by
  have HN:=Lib.hid hn
  clear hn
  go_enter Tryz.func99,Tryz.ntmps99
  have hq:(binOp .eql 33 (.slice (some ⟨b,o,none⟩) n c) (.slice none 0 0)).run Tryz.prog w=.ok (.bool false) w:=Go.run_eql_slice_nil (P:=Tryz.prog) w 33 5 _ n c Tryz.underlying33
  have ho:Own (w.alloc (.cells #[] 5)) w.heap.size (.slice (some ⟨w.heap.size,0,none⟩) 0 0) []:=Own.of_full (heap_alloc_new w _) (Nat.le_refl _) rfl (by simp[maxLen])
  have hb1:Below w.heap.size w (w.alloc (.cells #[] 5)):=(Below.refl _ _).alloc (Nat.le_refl _) _
  have hr1:=(hr.below hb1).more hb1.size
  clear hr
  go_wp2_with (at_builtin;refine apB rfl (.tmp 5) (.tmp 6) rfl w.heap.size _ [] rfl ho _ (some ⟨b,o,none⟩) n c l rfl HN.out hr1 ?c1 ?c2 ?_)
  case c1=>have:=HN.out;simp;omega
  case c2=>exact hb1.size
  intro v w2 o2 hb2 _ _
  go_wp2
  go_ret
  exact⟨⟨_,rfl,by simpa using o2⟩,hb1.trans hb2⟩
theorem eight{l:List UInt8}(h:l.length=8):∃ a b c d e f g i,l=[a,b,c,d,e,f,g,i]:=by
  match l,h with
  | [a,b,c,d,e,f,g,i],_=>exact⟨a,b,c,d,e,f,g,i,rfl⟩
theorem Rd.e8{w:World}{B b o:Nat}{x0 x1 x2 x3 x4 x5 x6 x7:UInt8}(h:Rd w B (some ⟨b,o,none⟩) [x0,x1,x2,x3,x4,x5,x6,x7]):w.cell? ⟨b,o,none⟩=some (u8V x0)∧w.cell? ⟨b,o+1,none⟩=some (u8V x1)∧w.cell? ⟨b,o+2,none⟩=some (u8V x2)∧w.cell? ⟨b,o+3,none⟩=some (u8V x3) ∧
    w.cell? ⟨b,o+4,none⟩=some (u8V x4)∧w.cell? ⟨b,o+5,none⟩=some (u8V x5)∧w.cell? ⟨b,o+6,none⟩=some (u8V x6)∧w.cell? ⟨b,o+7,none⟩=some (u8V x7):=by
  obtain⟨b',o',e,_,hc⟩:=h (by simp)
  cases e
  exact⟨hc 0 (by simp),hc 1 (by simp),hc 2 (by simp),hc 3 (by simp),hc 4 (by simp),hc 5 (by simp),hc 6 (by simp),hc 7 (by simp)⟩
theorem c8{w:World}{g:Nat}{a0 a1 a2 a3 a4 a5 a6 a7:Value}{t:TypeId}(h:w.heap[g]? = some (.cells #[a0,a1,a2,a3,a4,a5,a6,a7] t (0,0))):w.cell? ⟨g,0,none⟩=some a0∧w.cell? ⟨g,1,none⟩=some a1∧w.cell? ⟨g,2,none⟩=some a2∧w.cell? ⟨g,3,none⟩=some a3∧w.cell? ⟨g,4,none⟩=some a4∧w.cell? ⟨g,5,none⟩=some a5∧w.cell? ⟨g,6,none⟩=some a6∧w.cell? ⟨g,7,none⟩=some a7:=
  ⟨cellD h 0,cellD h 1,cellD h 2,cellD h 3,cellD h 4,cellD h 5,cellD h 6,cellD h 7⟩
theorem two_alloc(w:World)(X Y:Obj):∃ W,((w.alloc X).alloc Y).drew=W∧W.heap[w.heap.size]? = some X∧W.heap[w.heap.size+1]? = some Y∧Below w.heap.size w W:=by
  refine⟨_,rfl,(Below.heap_alloc _ _ _ (by simp)).trans (heap_alloc_new w _),?_,(((Below.refl _ _).alloc (Nat.le_refl _) _).alloc (by simp) _).trans (drewN_below _ _ 1)⟩
  have:=heap_alloc_new (w.alloc X) Y
  rw[World.size_alloc] at this
  exact this
theorem size5'(w:World):(sizeOf 5).run Tryz.prog w=.ok 1 w:=by
  obtain⟨i0,hi,hz0,hz1,hz2⟩:=info_parts Tryz.info5
  simp[sizeOf,typeInfo,hi,hz1]
theorem u64_8(g:Nat)(l:List UInt8)(w:World)(hr:Rd w w.heap.size (some ⟨g,0,none⟩) l)(hl:l.length=8):Calls Tryz.prog 188 #[.slice (some ⟨g,0,none⟩) 8 8,.int .i64 0] w fun e w'=>e=.returned (.tuple #[.int .u64 (leN l:Nat),.bool true])∧w'=w:=by
  have:=u64_any (some ⟨g,0,none⟩) 8 8 0 l w hr hl.symm (by omega) (by omega)
  have e:sub l 0 8=l:=by simp[sub,← hl]
  rw[e] at this
  exact this
theorem open_any(b o c:Nat)(l:List UInt8)(w:World)(hr:Rd w w.heap.size (some ⟨b,o,none⟩) l)(hl:l.length=4096)(hc:4096≤c) :
    Calls Tryz.prog 259 #[.slice (some ⟨b,o,none⟩) 4096 c] w fun e w'=>((sub l 0 8=sub l 4088 8∧∃ A c',e=.returned (.tuple #[.slice A 4080 c',.int .u64 (leN (sub l 0 8):Nat),.int .i64 0])∧Own w' w.heap.size (.slice A 4080 c') (sub l 8 4080))∨(sub l 0 8≠sub l 4088 8∧e=.returned (.tuple #[.slice none 0 0,.int .u64 0,.int .i64 140])))∧Below w.heap.size w w':=by
  have hc8:¬c=8:=by omega
  have hc9:¬c=4088:=by omega
  have hi1:(8:Int)≤(c:Int):=by omega
  have hi2:(4088:Int)≤(c:Int):=by omega
  have hi3:(4096:Int)≤(c:Int):=by omega
  have hs:=hr.sub (p:=8) (n:=4080) (by omega)
  have hx:=hr.sub (p:=0) (n:=8) (by omega)
  have hy:=hr.sub (p:=4088) (n:=8) (by omega)
  obtain⟨x0,x1,x2,x3,x4,x5,x6,x7,ex⟩:=eight (sub_len (l:=l) (a:=0) (n:=8) (by omega))
  obtain⟨y0,y1,y2,y3,y4,y5,y6,y7,ey⟩:=eight (sub_len (l:=l) (a:=4088) (n:=8) (by omega))
  rw[ex] at hx
  rw[ey] at hy
  rw[ex,ey]
  obtain⟨p0,p1,p2,p3,p4,p5,p6,p7⟩:=hx.e8
  obtain⟨q0,q1,q2,q3,q4,q5,q6,q7⟩:=hy.e8
  simp only[Nat.add_zero] at p0 p1 p2 p3 p4 p5 p6 p7
  have hsl:=sub_len (l:=l) (a:=8) (n:=4080) (by omega)
  have HS:=Lib.hid hsl
  have hat1:=fun w=>at184 b o 8 c w (by omega)
  have hat2:=fun w=>at184 b (o+4088) 8 (c-4088) w (by omega)
  clear hr hl hx hy ex ey hsl
  obtain⟨WA,hWA,ga1,ga2,ba⟩:=two_alloc w (.cells #[u8V x0,u8V x1,u8V x2,u8V x3,u8V x4,u8V x5,u8V x6,u8V x7] 210) (.cells #[u8V y0,u8V y1,u8V y2,u8V y3,u8V y4,u8V y5,u8V y6,u8V y7] 210)
  obtain⟨WB,hWB,gb1,gb2,bb⟩:=two_alloc w (.cells #[u8V y0,u8V y1,u8V y2,u8V y3,u8V y4,u8V y5,u8V y6,u8V y7] 210) (.cells #[u8V x0,u8V x1,u8V x2,u8V x3,u8V x4,u8V x5,u8V x6,u8V x7] 210)
  have ra:Rd WA WA.heap.size (some ⟨w.heap.size,0,none⟩) [x0,x1,x2,x3,x4,x5,x6,x7]:=fun _=>⟨_,0,rfl,hlt ga1,fun k hk=>by rw[Nat.zero_add,cellD ga1];match k,hk with | 0,_=>rfl | 1,_=>rfl | 2,_=>rfl | 3,_=>rfl | 4,_=>rfl | 5,_=>rfl | 6,_=>rfl | 7,_=>rfl⟩
  have rb:Rd WB WB.heap.size (some ⟨w.heap.size+1,0,none⟩) [x0,x1,x2,x3,x4,x5,x6,x7]:=fun _=>⟨_,0,rfl,hlt gb2,fun k hk=>by rw[Nat.zero_add,cellD gb2];match k,hk with | 0,_=>rfl | 1,_=>rfl | 2,_=>rfl | 3,_=>rfl | 4,_=>rfl | 5,_=>rfl | 6,_=>rfl | 7,_=>rfl⟩
  have ua:=u64_8 w.heap.size _ WA ra rfl
  have ub:=u64_8 (w.heap.size+1) _ WB rb rfl
  have ka:=clone_any b (o+8) (c-8) 4080 (sub l 8 4080) WA ((hs.below ba).more ba.size) HS.out.symm (by omega) (by omega)
  have kb:=clone_any b (o+8) (c-8) 4080 (sub l 8 4080) WB ((hs.below bb).more bb.size) HS.out.symm (by omega) (by omega)
  have hbl:b<w.heap.size:=by
    obtain⟨b',o',e,hb,-⟩:=hs (fun e=>by have:=HS.out;rw[e] at this;cases this)
    cases e;exact hb
  have kpA:=And.intro ((ba.cell (p:=⟨b,o,none⟩) hbl).trans p0) <| And.intro ((ba.cell (p:=⟨b,o+1,none⟩) hbl).trans p1) <| And.intro ((ba.cell (p:=⟨b,o+2,none⟩) hbl).trans p2) <| And.intro ((ba.cell (p:=⟨b,o+3,none⟩) hbl).trans p3) <| And.intro ((ba.cell (p:=⟨b,o+4,none⟩) hbl).trans p4) <| And.intro ((ba.cell (p:=⟨b,o+5,none⟩) hbl).trans p5) <| And.intro ((ba.cell (p:=⟨b,o+6,none⟩) hbl).trans p6) <| And.intro ((ba.cell (p:=⟨b,o+7,none⟩) hbl).trans p7) <| And.intro ((ba.cell (p:=⟨b,o+4088,none⟩) hbl).trans q0) <| And.intro ((ba.cell (p:=⟨b,o+4088+1,none⟩) hbl).trans q1) <| And.intro ((ba.cell (p:=⟨b,o+4088+2,none⟩) hbl).trans q2) <| And.intro ((ba.cell (p:=⟨b,o+4088+3,none⟩) hbl).trans q3) <| And.intro ((ba.cell (p:=⟨b,o+4088+4,none⟩) hbl).trans q4) <| And.intro ((ba.cell (p:=⟨b,o+4088+5,none⟩) hbl).trans q5) <| And.intro ((ba.cell (p:=⟨b,o+4088+6,none⟩) hbl).trans q6) <| (ba.cell (p:=⟨b,o+4088+7,none⟩) hbl).trans q7
  have kpB:=And.intro ((bb.cell (p:=⟨b,o,none⟩) hbl).trans p0) <| And.intro ((bb.cell (p:=⟨b,o+1,none⟩) hbl).trans p1) <| And.intro ((bb.cell (p:=⟨b,o+2,none⟩) hbl).trans p2) <| And.intro ((bb.cell (p:=⟨b,o+3,none⟩) hbl).trans p3) <| And.intro ((bb.cell (p:=⟨b,o+4,none⟩) hbl).trans p4) <| And.intro ((bb.cell (p:=⟨b,o+5,none⟩) hbl).trans p5) <| And.intro ((bb.cell (p:=⟨b,o+6,none⟩) hbl).trans p6) <| And.intro ((bb.cell (p:=⟨b,o+7,none⟩) hbl).trans p7) <| And.intro ((bb.cell (p:=⟨b,o+4088,none⟩) hbl).trans q0) <| And.intro ((bb.cell (p:=⟨b,o+4088+1,none⟩) hbl).trans q1) <| And.intro ((bb.cell (p:=⟨b,o+4088+2,none⟩) hbl).trans q2) <| And.intro ((bb.cell (p:=⟨b,o+4088+3,none⟩) hbl).trans q3) <| And.intro ((bb.cell (p:=⟨b,o+4088+4,none⟩) hbl).trans q4) <| And.intro ((bb.cell (p:=⟨b,o+4088+5,none⟩) hbl).trans q5) <| And.intro ((bb.cell (p:=⟨b,o+4088+6,none⟩) hbl).trans q6) <| (bb.cell (p:=⟨b,o+4088+7,none⟩) hbl).trans q7
  obtain⟨A0,A1,A2,A3,A4,A5,A6,A7⟩:=c8 ga1
  obtain⟨B0,B1,B2,B3,B4,B5,B6,B7⟩:=c8 ga2
  obtain⟨C0,C1,C2,C3,C4,C5,C6,C7⟩:=c8 gb1
  obtain⟨D0,D1,D2,D3,D4,D5,D6,D7⟩:=c8 gb2
  have heq:∀ W,(Op.equalIn 10000 210 (.agg #[u8V x0,u8V x1,u8V x2,u8V x3,u8V x4,u8V x5,u8V x6,u8V x7]) (.agg #[u8V y0,u8V y1,u8V y2,u8V y3,u8V y4,u8V y5,u8V y6,u8V y7])).run Tryz.prog W=.ok ([x0,x1,x2,x3,x4,x5,x6,x7]==[y0,y1,y2,y3,y4,y5,y6,y7]) W:=fun W=>run_equalIn_bytes (P:=Tryz.prog) W 9998 210 5 8 Tryz.underlying210 Tryz.underlying5 size5' [x0,x1,x2,x3,x4,x5,x6,x7] [y0,y1,y2,y3,y4,y5,y6,y7] rfl rfl
  obtain⟨N,hN⟩:∃ N,N=leN [x0,x1,x2,x3,x4,x5,x6,x7]:=⟨_,rfl⟩
  rw[← hN] at ua ub ⊢
  by_cases hxy:[x0,x1,x2,x3,x4,x5,x6,x7]=[y0,y1,y2,y3,y4,y5,y6,y7]
  · have hb:([x0,x1,x2,x3,x4,x5,x6,x7]==[y0,y1,y2,y3,y4,y5,y6,y7])=true:=by simpa using hxy
    simp only[hb] at heq
    have HX:=Lib.hid hxy
    clear hxy hb hN ga1 ga2 gb1 gb2 ra rb
    go_enter Tryz.func259,Tryz.ntmps259
    go_wp2
    all_goals first | omega | skip
    go_region_held3 (fun w'=>w'.cell? ⟨b,o,none⟩=some (u8V x0)∧w'.cell? ⟨b,o+1,none⟩=some (u8V x1)∧w'.cell? ⟨b,o+2,none⟩=some (u8V x2)∧w'.cell? ⟨b,o+3,none⟩=some (u8V x3)∧w'.cell? ⟨b,o+4,none⟩=some (u8V x4)∧w'.cell? ⟨b,o+5,none⟩=some (u8V x5)∧w'.cell? ⟨b,o+6,none⟩=some (u8V x6)∧w'.cell? ⟨b,o+7,none⟩=some (u8V x7)∧w'.cell? ⟨b,o+4088,none⟩=some (u8V y0)∧w'.cell? ⟨b,o+4088+1,none⟩=some (u8V y1)∧w'.cell? ⟨b,o+4088+2,none⟩=some (u8V y2)∧w'.cell? ⟨b,o+4088+3,none⟩=some (u8V y3)∧w'.cell? ⟨b,o+4088+4,none⟩=some (u8V y4)∧w'.cell? ⟨b,o+4088+5,none⟩=some (u8V y5)∧w'.cell? ⟨b,o+4088+6,none⟩=some (u8V y6)∧w'.cell? ⟨b,o+4088+7,none⟩=some (u8V y7))
      (first | with_reducible exact kpA | with_reducible exact kpB | go_keep)
      (first | (fail))
    all_goals
      go_wp2_with (first
        | (go_at_call 188;with_reducible refine ua.mono ?_;rintro e WA ⟨rfl,rfl⟩)
        | (go_at_call 188;with_reducible refine ub.mono ?_;rintro e WB ⟨rfl,rfl⟩)
        | (go_at_call 99;with_reducible refine ka.mono ?_;rintro e w5 ⟨⟨v,rfl,own⟩,hb5⟩)
        | (go_at_call 99;with_reducible refine kb.mono ?_;rintro e w5 ⟨⟨v,rfl,own⟩,hb5⟩))
      obtain⟨A9,k9,rfl,-,-,-⟩:=own.sl HS.out
      refine bodyPost_ret (results_tmps3 rfl) rfl ?_
      first
        | exact⟨.inl ⟨HX.out,_,_,rfl,own.down ba.size⟩,ba.trans (hb5.mono ba.size)⟩
        | exact⟨.inl ⟨HX.out,_,_,rfl,own.down bb.size⟩,bb.trans (hb5.mono bb.size)⟩
  · have hb:([x0,x1,x2,x3,x4,x5,x6,x7]==[y0,y1,y2,y3,y4,y5,y6,y7])=false:=by simpa using hxy
    simp only[hb] at heq
    have HX:=Lib.hid hxy
    clear hxy hb hN ga1 ga2 gb1 gb2 ra rb ua ub ka kb
    go_enter Tryz.func259,Tryz.ntmps259
    go_wp2
    all_goals first | omega | skip
    go_region_held3 (fun w'=>w'.cell? ⟨b,o,none⟩=some (u8V x0)∧w'.cell? ⟨b,o+1,none⟩=some (u8V x1)∧w'.cell? ⟨b,o+2,none⟩=some (u8V x2)∧w'.cell? ⟨b,o+3,none⟩=some (u8V x3)∧w'.cell? ⟨b,o+4,none⟩=some (u8V x4)∧w'.cell? ⟨b,o+5,none⟩=some (u8V x5)∧w'.cell? ⟨b,o+6,none⟩=some (u8V x6)∧w'.cell? ⟨b,o+7,none⟩=some (u8V x7)∧w'.cell? ⟨b,o+4088,none⟩=some (u8V y0)∧w'.cell? ⟨b,o+4088+1,none⟩=some (u8V y1)∧w'.cell? ⟨b,o+4088+2,none⟩=some (u8V y2)∧w'.cell? ⟨b,o+4088+3,none⟩=some (u8V y3)∧w'.cell? ⟨b,o+4088+4,none⟩=some (u8V y4)∧w'.cell? ⟨b,o+4088+5,none⟩=some (u8V y5)∧w'.cell? ⟨b,o+4088+6,none⟩=some (u8V y6)∧w'.cell? ⟨b,o+4088+7,none⟩=some (u8V y7))
      (first | with_reducible exact kpA | with_reducible exact kpB | go_keep)
      (first | (fail))
    all_goals
      go_wp2
      refine bodyPost_ret (results_tmps3 rfl) rfl ?_
      first
        | exact⟨.inr ⟨HX.out,rfl⟩,ba⟩
        | exact⟨.inr ⟨HX.out,rfl⟩,bb⟩
end Go.Proofs.YtdbkocfbhpgpkaaGreat
