/-
  pool.Pool with one page at most in its frames (page 1): what it is in memory; the small calls; Get of a page that is held.
-/
import Derived.Test.YtdbkocfbhpgpkaaGreatm10
import Derived.Test.YtdbkocfbhpgpkaaGreatm01
import Derived.Laws.Cover3
import Derived.Deep.RegionHeld3
import Derived.Lib.LazyBuf
import Derived.Stop.BytesEq
import Derived.Test.YtdbkocfbhpgpkaaGreatm12
set_option linter.unusedVariables false
set_option linter.unusedSimpArgs false
namespace Go.Proofs.YtdbkocfbhpgpkaaGreat
open Go Go.RowKit
set_option maxRecDepth 100000
set_option maxHeartbeats 1600000
def ofS (a b:Int):Nat:=(bits BinOp.or IntKind.u64 (a % 4294967296 * 4294967296) (b % 4294967296)).toNat
theorem ofS_le(a b:Int):ofS a b≤18446744073709551615:=by
  show(IntKind.u64.wrap _).toNat≤_
  rw[IntKind.wrap_u64]
  omega
theorem of_any(a b:Int)(w:World):Calls Tryz.prog 58 #[.int .i64 a,.int .i64 b] w fun e w'=>e=.returned (.int .u64 (ofS a b:Int))∧w'=w:=by
  go_enter Tryz.func58,Tryz.ntmps58
  go_wp2
  go_ret
  refine⟨?_,rfl⟩
  show Ending.returned (Value.int IntKind.u64 (bits BinOp.or IntKind.u64 (a % 4294967296 * 4294967296) (b % 4294967296)))=_
  unfold ofS
  rw[Int.toNat_of_nonneg]
  show 0≤IntKind.u64.wrap _
  rw[IntKind.wrap_u64]
  omega
def sealed(p:List UInt8)(s:Nat):List UInt8:=le 8 s++p++le 8 s
theorem sealed_len{p:List UInt8}{s:Nat}(h:p.length=4080):(sealed p s).length=4096:=by simp[sealed,le_len,h]
theorem le8(s:Nat):le 8 s=[leB s 0,leB s 1,leB s 2,leB s 3,leB s 4,leB s 5,leB s 6,leB s 7]:=rfl
theorem Own.eight{w:World}{base g c s:Nat}(h:Own w base (.slice (some ⟨g,0,none⟩) 8 c) (le 8 s)):w.cell? ⟨g,0,none⟩=some (u8V (leB s 0))∧w.cell? ⟨g,1,none⟩=some (u8V (leB s 1))∧w.cell? ⟨g,2,none⟩=some (u8V (leB s 2))∧w.cell? ⟨g,3,none⟩=some (u8V (leB s 3)) ∧
    w.cell? ⟨g,4,none⟩=some (u8V (leB s 4))∧w.cell? ⟨g,5,none⟩=some (u8V (leB s 5))∧w.cell? ⟨g,6,none⟩=some (u8V (leB s 6))∧w.cell? ⟨g,7,none⟩=some (u8V (leB s 7)):=by
  rcases h.form with⟨e,_⟩|⟨g',cap,e,_,_,_,_,hc⟩
  · cases e
  · cases e
    exact⟨hc 0 (by simp[le_len]),hc 1 (by simp[le_len]),hc 2 (by simp[le_len]),hc 3 (by simp[le_len]),hc 4 (by simp[le_len]),hc 5 (by simp[le_len]),hc 6 (by simp[le_len]),hc 7 (by simp[le_len])⟩
theorem Own.gform{w:World}{base s:Nat}{v:Value}(h:Own w base v (le 8 s)):∃ g c,v=.slice (some ⟨g,0,none⟩) 8 c:=by
  rcases h.form with⟨_,e⟩|⟨g',cap,e,_⟩
  · simp[le8] at e
  · exact⟨g',cap,e⟩
theorem at184(g o n c:Nat)(w:World)(hn:8≤n):(Instr.arrayAt 210 (.slice (some ⟨g,o,none⟩) n c)).run Tryz.prog w=.ok (.pointer (some ⟨g,o,none⟩)) w:=run_arrayAt (P:=Tryz.prog) w 210 5 8 _ n c Tryz.underlying210 hn
theorem cpAt{w:World}{g o n cp L c:Nat}{ad:Addr}{xs l:List UInt8}(hf:w.heap[g]? = some (.cells (xs.map u8V).toArray 5 (0,0)))(hL:L=l.length)(hsrc:∀ j v,(l.map u8V)[j]? = some v→w.cell? (ad.add j)=some v)(hn:l.length≤n)(hfit:o+l.length≤xs.length) :
    ∃ w6,(Builtin.copy_ #[33,33] 3 #[.slice (some ⟨g,o,none⟩) n cp,.slice (some ad) L c]).run Tryz.prog w=.ok (goInt (l.map u8V).length) w6∧w6.heap[g]? = some (.cells ((xs.take o++l++xs.drop (o+l.length)).map u8V).toArray 5 (0,0))∧(∀ k,k≠g→w6.heap[k]? = w.heap[k]?)∧(∀ B,B≤g→Below B w w6):=by
  have hcp:=run_copy_row (P:=Tryz.prog) w 33 33 3 5 g o n cp ad L c _ 5 (l.map u8V) Tryz.underlying33 size5 hf (by rw[List.length_map,← hL];exact(Nat.min_eq_left (by omega)).symm) hsrc (by simp;omega) (by intro v hv;simp at hv;obtain⟨_,_,rfl⟩:=hv;rfl)
  refine⟨_,hcp,(setRow_heap _ _ _ _ _ _ hf).trans ?_,fun k hk=>setRow_other w g k _ hk,fun B hB=>below_setRow (Below.refl _ _) hB _⟩
  congr 3
  simp[List.map_take,List.map_drop]
theorem cells8{w:World}{g:Nat}{s:Nat}{t:TypeId}(h:w.heap[g]? = some (.cells ((le 8 s).map u8V).toArray t (0,0))):∀ (j:Nat) (v:Value),((le 8 s).map u8V)[j]? = some v→w.cell? ((⟨g,0,none⟩:Addr).add j)=some v:=fun j v hj=>by
  have:((⟨g,0,none⟩:Addr).add j)=⟨g,j,none⟩:=by unfold Addr.add;split<;>simp_all
  rw[this,cellD h]
  simpa using hj
def padP (p:List UInt8):List UInt8:=p++List.replicate (4080-p.length) 0
theorem padP_len{p:List UInt8}(h:p.length≤4080):(padP p).length=4080:=by simp[padP];omega
theorem padP_full{p:List UInt8}(h:p.length=4080):padP p=p:=by simp[padP,h]
theorem splice_seal{m p:List UInt8}(hm:m.length=8)(hp:p.length≤4080) :
    let A:=(List.replicate 4096 (0:UInt8)).take 0++m++(List.replicate 4096 (0:UInt8)).drop (0+m.length)
    let B:=A.take 8++p++A.drop (8+p.length)
    B.take 4088++m++B.drop (4088+m.length)=m++padP p++m:=by
  intro A B
  have e0:A=m++List.replicate 4088 0:=by
    show(List.replicate 4096 (0:UInt8)).take 0++m++(List.replicate 4096 (0:UInt8)).drop (0+m.length)=_
    rw[List.take_zero,List.nil_append,hm,List.drop_replicate]
  have e1:A.take 8=m:=by rw[e0,List.take_append_of_le_length (by omega),List.take_of_length_le (by omega)]
  have e3:A.drop (8+p.length)=List.replicate (4088-p.length) 0:=by
    rw[e0,List.drop_append,List.drop_of_length_le (by omega),List.nil_append,List.drop_replicate]
    congr 1;omega
  have e2:B=m++padP p++List.replicate 8 0:=by
    show A.take 8++p++A.drop (8+p.length)=_
    rw[e1,e3,padP,show 4088-p.length=(4080-p.length)+8 by omega,← List.replicate_append_replicate]
    simp only[List.append_assoc]
  have hl:(m++padP p).length=4088:=by rw[List.length_append,padP_len hp,hm]
  rw[e2,List.take_append_of_le_length (by omega),List.take_of_length_le (by omega),List.drop_of_length_le (by simp only[List.length_append,List.length_replicate,padP_len hp,hm];omega),List.append_nil]
theorem seal_any{Z:Nat→Prop}(A:Option Addr)(n c s:Nat)(p:List UInt8)(w:World)(hr:Rd w w.heap.size A p)(hp:n=p.length)(h1:1≤p.length)(h2:p.length≤4080)(hs:s≤18446744073709551615)(hZ:∀ g,Z g→g<w.heap.size) :
    Calls Tryz.prog 57 #[.slice A n c,.int .u64 (s:Int)] w fun e w'=>(∃ g,e=.returned (.tuple #[.slice (some ⟨g,0,none⟩) 4096 4096,.int .i64 0])∧Bk Z w' (.slice (some ⟨g,0,none⟩) 4096 4096) (sealed (padP p) s)∧w.heap.size≤g)∧Below w.heap.size w w':=by
  have HP:=Lib.hid hp
  have H1:=Lib.hid h1
  have H2:=Lib.hid h2
  have hn':n≤4080:=by omega
  clear hp h1 h2
  go_enter Tryz.func57,Tryz.ntmps57
  go_wp2_with (
    (go_at_call 147
     with_reducible refine(add64_any none 0 0 s [] _ (.nil _ _ _) rfl (by simp) hs).mono ?_
     rintro e w1 ⟨u,rfl,ho,hb⟩
     obtain⟨g1,c1,rfl⟩:=Own.gform ho
     obtain⟨k0,k1,k2,k3,k4,k5,k6,k7⟩:=Own.eight ho
     clear ho
     have hat:=at184 g1 0 8 c1 w1 (by omega)
     obtain⟨W2,hW2⟩:∃ W2,(w1.alloc (.cells #[.int .u8 ((leB s 0).toNat:Int),.int .u8 ((leB s 1).toNat:Int),.int .u8 ((leB s 2).toNat:Int),.int .u8 ((leB s 3).toNat:Int),.int .u8 ((leB s 4).toNat:Int),.int .u8 ((leB s 5).toNat:Int),.int .u8 ((leB s 6).toNat:Int),.int .u8 ((leB s 7).toNat:Int)] 210))=W2:=⟨_,rfl⟩
     have m2:W2.heap[w1.heap.size]? = some (.cells ((le 8 s).map u8V).toArray 210 (0,0)):=by rw[← hW2];exact heap_alloc_new w1 _
     have b2:Below w.heap.size w W2:=by rw[← hW2];exact hb.alloc hb.size _
     have z2:=Lib.hid (show W2.heap.size=w1.heap.size+1 by rw[← hW2];simp)
     obtain⟨w3,hmk0,hown3,hb3⟩:=mkn W2 4096 (by omega)
     have hmk:(Instr.makeSlice 33 (.int .i64 4096) (.int .i64 4096)).run Tryz.prog W2=.ok (.slice (some ⟨W2.heap.size,0,none⟩) 4096 4096) w3:=hmk0
     clear hmk0
     have g3:=hown3.full (by simp) (by omega)
     have hz1:w.heap.size≤w1.heap.size:=hb.size
     have m3:=(hb3.block _ (hlt m2)).trans m2
     obtain⟨w4,h4,g4,s4,b4⟩:=cpAt (o:=0) (n:=4096) (cp:=4096) (c:=8) (L:=8) g3 (by simp[le_len]) (cells8 m3) (by simp[le_len]) (by simp[le_len])
     have m4:=(s4 _ (by have:=z2.out;omega)).trans m3
     have hr4:Rd w4 w.heap.size A p:=((hr.below b2).below (hb3.mono (by have:=z2.out;omega))).below (b4 _ (by have:=z2.out;omega))
     obtain⟨ad,rfl,hsrc⟩:=hr4.addr (by rintro rfl;have:=H1.out;simp at this)
     obtain⟨w5,h5,g5,s5,b5⟩:=cpAt (o:=8) (n:=4088) (cp:=4088) (c:=c) (L:=n) g4 HP.out hsrc (by have:=H2.out;omega) (by have:=H2.out;simp[le_len];omega)
     have m5:=(s5 _ (by have:=z2.out;omega)).trans m4
     obtain⟨W5,hW5⟩:∃ W5,w5.drew=W5:=⟨_,rfl⟩
     have eW5:W5.heap=w5.heap:=by rw[← hW5];rfl
     rw[← eW5] at g5 m5
     obtain⟨w6,h6,g6,s6,b6⟩:=cpAt (o:=4088) (n:=8) (cp:=8) (c:=8) (L:=8) g5 (by simp[le_len]) (cells8 m5) (by simp[le_len]) (by have:=H2.out;simp[le_len];omega)
     have b56:Below w5.heap.size w5 W5:=by rw[← hW5];exact⟨rfl,rfl,rfl,Nat.le_refl _,fun _ _=>rfl⟩
     clear hown3 g3 m3 g4 s4 m4 hr4 hsrc m5 g5 eW5 s5 s6))
  refine stillW 3 (by kernel_rfl) (by kernel_rfl) W5 hW5 ?_
  simp only[List.take_succ_cons,List.take_zero,List.drop_succ_cons,List.drop_zero]
  repeat still_step
  refine wpStill_nil ?_
  go_wp2
  go_ret2
  have hz2:w.heap.size≤W2.heap.size:=by have:=z2.out;omega
  refine⟨⟨W2.heap.size,rfl,⟨_,rfl,?_,sealed_len (padP_len H2.out),fun hz=>by have:=hZ _ hz;omega⟩,hz2⟩,?_⟩
  · rw[g6]
    have e:=splice_seal (m:=le 8 s) (p:=p) (le_len _ _) H2.out
    simp only at e
    rw[e]
    rfl
  · exact(((b2.trans (hb3.mono hz2)).trans ((b4 _ hz2).trans (b5 _ hz2))).trans (b56.mono ((b2.trans (hb3.mono hz2)).trans ((b4 _ hz2).trans (b5 _ hz2))).size)).trans (b6 _ hz2)
set_option maxHeartbeats 8000000
theorem Rd.sub{w:World}{B b o:Nat}{l:List UInt8}(h:Rd w B (some ⟨b,o,none⟩) l){p n:Nat}(hp:p+n≤l.length):Rd w B (some ⟨b,o+p,none⟩) (sub l p n):=fun hne=>by
  obtain⟨b',o',e,hb,hc⟩:=h (by rintro rfl;simp[Go.Proofs.YtdbkocfbhpgpkaaGreat.sub] at hne)
  cases e
  refine⟨b,o+p,rfl,hb,fun k hk=>?_⟩
  have hk2:k<n:=by rw[sub_len hp] at hk;exact hk
  have e2:(Go.Proofs.YtdbkocfbhpgpkaaGreat.sub l p n)[k]=l[p+k]'(by omega):=by simp[Go.Proofs.YtdbkocfbhpgpkaaGreat.sub]
  rw[e2,Nat.add_assoc]
  exact hc (p+k) (by omega)
theorem leN_inj:∀ {a b:List UInt8},a.length=b.length→leN a=leN b→a=b
  | [],[],_,_=>rfl
  | x :: a, y :: b, h, e => by
    simp only[leN] at e
    have hx:=x.toNat_lt
    have hy:=y.toNat_lt
    have e1:x.toNat=y.toNat:=by omega
    have e2:leN a=leN b:=by omega
    rw[leN_inj (by simpa using h) e2,UInt8.toNat_inj.1 e1]
theorem results_tmps3{fn:Func}{p q r:Tmp}(h:fn.results=#[.tmp p,.tmp q,.tmp r]){tmps:Array Value}{P:Program}{w:World}:(results fn tmps).run P w=.ok (.tuple #[tmps.getD p undef,tmps.getD q undef,tmps.getD r undef]) w:=by
  simp only[results,h]
  simp[Sem.run_bind,Result.andThen]
theorem clone_any(b o c n:Nat)(l:List UInt8)(w:World)(hr:Rd w w.heap.size (some ⟨b,o,none⟩) l)(hn:n=l.length)(h0:0<n)(hl:n≤1000000) :
    Calls Tryz.prog 99 #[.slice (some ⟨b,o,none⟩) n c] w fun e w'=>(∃ v,e=.returned v∧Own w' w.heap.size v l)∧Below w.heap.size w w':=by
  have HN:=Lib.hid hn
  clear hn
  go_enter Tryz.func99,Tryz.ntmps99
  have hq:(binOp .eql 33 (.slice (some ⟨b,o,none⟩) n c) (.slice none 0 0)).run Tryz.prog w=.ok (.bool false) w:=Go.run_eql_slice_nil (P:=Tryz.prog) w 33 5 _ n c Tryz.underlying33
  have ho:Own (w.alloc (.cells #[] 5)) w.heap.size (.slice (some ⟨w.heap.size,0,none⟩) 0 0) []:=Own.of_full (heap_alloc_new w _) (Nat.le_refl _) rfl (by simp[maxLen])
  have hb1:Below w.heap.size w (w.alloc (.cells #[] 5)):=(Below.refl _ _).alloc (Nat.le_refl _) _
  have hr1:=(hr.below hb1).more hb1.size
  clear hr
  go_wp2_with (at_builtin;refine apB rfl (.tmp 5) (.tmp 6) rfl w.heap.size _ [] rfl ho _ (some ⟨b,o,none⟩) n c l rfl HN.out hr1 ?c1 ?c2 ?_)
  case c1=>have:=HN.out;simp;omega
  case c2=>exact hb1.size
  intro v w2 o2 hb2 _ _
  go_wp2
  go_ret
  exact⟨⟨_,rfl,by simpa using o2⟩,hb1.trans hb2⟩
theorem eight{l:List UInt8}(h:l.length=8):∃ a b c d e f g i,l=[a,b,c,d,e,f,g,i]:=by
  match l,h with
  | [a,b,c,d,e,f,g,i],_=>exact⟨a,b,c,d,e,f,g,i,rfl⟩
theorem Rd.e8{w:World}{B b o:Nat}{x0 x1 x2 x3 x4 x5 x6 x7:UInt8}(h:Rd w B (some ⟨b,o,none⟩) [x0,x1,x2,x3,x4,x5,x6,x7]):w.cell? ⟨b,o,none⟩=some (u8V x0)∧w.cell? ⟨b,o+1,none⟩=some (u8V x1)∧w.cell? ⟨b,o+2,none⟩=some (u8V x2)∧w.cell? ⟨b,o+3,none⟩=some (u8V x3) ∧
    w.cell? ⟨b,o+4,none⟩=some (u8V x4)∧w.cell? ⟨b,o+5,none⟩=some (u8V x5)∧w.cell? ⟨b,o+6,none⟩=some (u8V x6)∧w.cell? ⟨b,o+7,none⟩=some (u8V x7):=by
  obtain⟨b',o',e,_,hc⟩:=h (by simp)
  cases e
  exact⟨hc 0 (by simp),hc 1 (by simp),hc 2 (by simp),hc 3 (by simp),hc 4 (by simp),hc 5 (by simp),hc 6 (by simp),hc 7 (by simp)⟩
theorem c8{w:World}{g:Nat}{a0 a1 a2 a3 a4 a5 a6 a7:Value}{t:TypeId}(h:w.heap[g]? = some (.cells #[a0,a1,a2,a3,a4,a5,a6,a7] t (0,0))):w.cell? ⟨g,0,none⟩=some a0∧w.cell? ⟨g,1,none⟩=some a1∧w.cell? ⟨g,2,none⟩=some a2∧w.cell? ⟨g,3,none⟩=some a3∧w.cell? ⟨g,4,none⟩=some a4∧w.cell? ⟨g,5,none⟩=some a5∧w.cell? ⟨g,6,none⟩=some a6∧w.cell? ⟨g,7,none⟩=some a7:=
  ⟨cellD h 0,cellD h 1,cellD h 2,cellD h 3,cellD h 4,cellD h 5,cellD h 6,cellD h 7⟩
theorem two_alloc(w:World)(X Y:Obj):∃ W,((w.alloc X).alloc Y).drew=W∧W.heap[w.heap.size]? = some X∧W.heap[w.heap.size+1]? = some Y∧Below w.heap.size w W:=by
  refine⟨_,rfl,(Below.heap_alloc _ _ _ (by simp)).trans (heap_alloc_new w _),?_,(((Below.refl _ _).alloc (Nat.le_refl _) _).alloc (by simp) _).trans (drewN_below _ _ 1)⟩
  have:=heap_alloc_new (w.alloc X) Y
  rw[World.size_alloc] at this
  exact this
theorem size5'(w:World):(sizeOf 5).run Tryz.prog w=.ok 1 w:=by
  obtain⟨i0,hi,hz0,hz1,hz2⟩:=info_parts Tryz.info5
  simp[sizeOf,typeInfo,hi,hz1]
theorem u64_8(g:Nat)(l:List UInt8)(w:World)(hr:Rd w w.heap.size (some ⟨g,0,none⟩) l)(hl:l.length=8):Calls Tryz.prog 188 #[.slice (some ⟨g,0,none⟩) 8 8,.int .i64 0] w fun e w'=>e=.returned (.tuple #[.int .u64 (leN l:Nat),.bool true])∧w'=w:=by
  have:=u64_any (some ⟨g,0,none⟩) 8 8 0 l w hr hl.symm (by omega) (by omega)
  have e:sub l 0 8=l:=by simp[sub,← hl]
  rw[e] at this
  exact this
theorem open_any(b o c:Nat)(l:List UInt8)(w:World)(hr:Rd w w.heap.size (some ⟨b,o,none⟩) l)(hl:l.length=4096)(hc:4096≤c) :
    Calls Tryz.prog 259 #[.slice (some ⟨b,o,none⟩) 4096 c] w fun e w'=>((sub l 0 8=sub l 4088 8∧∃ A c',e=.returned (.tuple #[.slice A 4080 c',.int .u64 (leN (sub l 0 8):Nat),.int .i64 0])∧Own w' w.heap.size (.slice A 4080 c') (sub l 8 4080))∨(sub l 0 8≠sub l 4088 8∧e=.returned (.tuple #[.slice none 0 0,.int .u64 0,.int .i64 140])))∧Below w.heap.size w w':=by
  have hc8:¬c=8:=by omega
  have hc9:¬c=4088:=by omega
  have hi1:(8:Int)≤(c:Int):=by omega
  have hi2:(4088:Int)≤(c:Int):=by omega
  have hi3:(4096:Int)≤(c:Int):=by omega
  have hs:=hr.sub (p:=8) (n:=4080) (by omega)
  have hx:=hr.sub (p:=0) (n:=8) (by omega)
  have hy:=hr.sub (p:=4088) (n:=8) (by omega)
  obtain⟨x0,x1,x2,x3,x4,x5,x6,x7,ex⟩:=eight (sub_len (l:=l) (a:=0) (n:=8) (by omega))
  obtain⟨y0,y1,y2,y3,y4,y5,y6,y7,ey⟩:=eight (sub_len (l:=l) (a:=4088) (n:=8) (by omega))
  rw[ex] at hx
  rw[ey] at hy
  rw[ex,ey]
  obtain⟨p0,p1,p2,p3,p4,p5,p6,p7⟩:=hx.e8
  obtain⟨q0,q1,q2,q3,q4,q5,q6,q7⟩:=hy.e8
  simp only[Nat.add_zero] at p0 p1 p2 p3 p4 p5 p6 p7
  have hsl:=sub_len (l:=l) (a:=8) (n:=4080) (by omega)
  have HS:=Lib.hid hsl
  have hat1:=fun w=>at184 b o 8 c w (by omega)
  have hat2:=fun w=>at184 b (o+4088) 8 (c-4088) w (by omega)
  clear hr hl hx hy ex ey hsl
  obtain⟨WA,hWA,ga1,ga2,ba⟩:=two_alloc w (.cells #[u8V x0,u8V x1,u8V x2,u8V x3,u8V x4,u8V x5,u8V x6,u8V x7] 210) (.cells #[u8V y0,u8V y1,u8V y2,u8V y3,u8V y4,u8V y5,u8V y6,u8V y7] 210)
  obtain⟨WB,hWB,gb1,gb2,bb⟩:=two_alloc w (.cells #[u8V y0,u8V y1,u8V y2,u8V y3,u8V y4,u8V y5,u8V y6,u8V y7] 210) (.cells #[u8V x0,u8V x1,u8V x2,u8V x3,u8V x4,u8V x5,u8V x6,u8V x7] 210)
  have ra:Rd WA WA.heap.size (some ⟨w.heap.size,0,none⟩) [x0,x1,x2,x3,x4,x5,x6,x7]:=fun _=>⟨_,0,rfl,hlt ga1,fun k hk=>by rw[Nat.zero_add,cellD ga1];match k,hk with | 0,_=>rfl | 1,_=>rfl | 2,_=>rfl | 3,_=>rfl | 4,_=>rfl | 5,_=>rfl | 6,_=>rfl | 7,_=>rfl⟩
  have rb:Rd WB WB.heap.size (some ⟨w.heap.size+1,0,none⟩) [x0,x1,x2,x3,x4,x5,x6,x7]:=fun _=>⟨_,0,rfl,hlt gb2,fun k hk=>by rw[Nat.zero_add,cellD gb2];match k,hk with | 0,_=>rfl | 1,_=>rfl | 2,_=>rfl | 3,_=>rfl | 4,_=>rfl | 5,_=>rfl | 6,_=>rfl | 7,_=>rfl⟩
  have ua:=u64_8 w.heap.size _ WA ra rfl
  have ub:=u64_8 (w.heap.size+1) _ WB rb rfl
  have ka:=clone_any b (o+8) (c-8) 4080 (sub l 8 4080) WA ((hs.below ba).more ba.size) HS.out.symm (by omega) (by omega)
  have kb:=clone_any b (o+8) (c-8) 4080 (sub l 8 4080) WB ((hs.below bb).more bb.size) HS.out.symm (by omega) (by omega)
  have hbl:b<w.heap.size:=by
    obtain⟨b',o',e,hb,-⟩:=hs (fun e=>by have:=HS.out;rw[e] at this;cases this)
    cases e;exact hb
  have kpA:=And.intro ((ba.cell (p:=⟨b,o,none⟩) hbl).trans p0) <| And.intro ((ba.cell (p:=⟨b,o+1,none⟩) hbl).trans p1) <| And.intro ((ba.cell (p:=⟨b,o+2,none⟩) hbl).trans p2) <| And.intro ((ba.cell (p:=⟨b,o+3,none⟩) hbl).trans p3) <| And.intro ((ba.cell (p:=⟨b,o+4,none⟩) hbl).trans p4) <| And.intro ((ba.cell (p:=⟨b,o+5,none⟩) hbl).trans p5) <| And.intro ((ba.cell (p:=⟨b,o+6,none⟩) hbl).trans p6) <| And.intro ((ba.cell (p:=⟨b,o+7,none⟩) hbl).trans p7) <| And.intro ((ba.cell (p:=⟨b,o+4088,none⟩) hbl).trans q0) <| And.intro ((ba.cell (p:=⟨b,o+4088+1,none⟩) hbl).trans q1) <| And.intro ((ba.cell (p:=⟨b,o+4088+2,none⟩) hbl).trans q2) <| And.intro ((ba.cell (p:=⟨b,o+4088+3,none⟩) hbl).trans q3) <| And.intro ((ba.cell (p:=⟨b,o+4088+4,none⟩) hbl).trans q4) <| And.intro ((ba.cell (p:=⟨b,o+4088+5,none⟩) hbl).trans q5) <| And.intro ((ba.cell (p:=⟨b,o+4088+6,none⟩) hbl).trans q6) <| (ba.cell (p:=⟨b,o+4088+7,none⟩) hbl).trans q7
  have kpB:=And.intro ((bb.cell (p:=⟨b,o,none⟩) hbl).trans p0) <| And.intro ((bb.cell (p:=⟨b,o+1,none⟩) hbl).trans p1) <| And.intro ((bb.cell (p:=⟨b,o+2,none⟩) hbl).trans p2) <| And.intro ((bb.cell (p:=⟨b,o+3,none⟩) hbl).trans p3) <| And.intro ((bb.cell (p:=⟨b,o+4,none⟩) hbl).trans p4) <| And.intro ((bb.cell (p:=⟨b,o+5,none⟩) hbl).trans p5) <| And.intro ((bb.cell (p:=⟨b,o+6,none⟩) hbl).trans p6) <| And.intro ((bb.cell (p:=⟨b,o+7,none⟩) hbl).trans p7) <| And.intro ((bb.cell (p:=⟨b,o+4088,none⟩) hbl).trans q0) <| And.intro ((bb.cell (p:=⟨b,o+4088+1,none⟩) hbl).trans q1) <| And.intro ((bb.cell (p:=⟨b,o+4088+2,none⟩) hbl).trans q2) <| And.intro ((bb.cell (p:=⟨b,o+4088+3,none⟩) hbl).trans q3) <| And.intro ((bb.cell (p:=⟨b,o+4088+4,none⟩) hbl).trans q4) <| And.intro ((bb.cell (p:=⟨b,o+4088+5,none⟩) hbl).trans q5) <| And.intro ((bb.cell (p:=⟨b,o+4088+6,none⟩) hbl).trans q6) <| (bb.cell (p:=⟨b,o+4088+7,none⟩) hbl).trans q7
  obtain⟨A0,A1,A2,A3,A4,A5,A6,A7⟩:=c8 ga1
  obtain⟨B0,B1,B2,B3,B4,B5,B6,B7⟩:=c8 ga2
  obtain⟨C0,C1,C2,C3,C4,C5,C6,C7⟩:=c8 gb1
  obtain⟨D0,D1,D2,D3,D4,D5,D6,D7⟩:=c8 gb2
  have heq:∀ W,(Op.equalIn 10000 210 (.agg #[u8V x0,u8V x1,u8V x2,u8V x3,u8V x4,u8V x5,u8V x6,u8V x7]) (.agg #[u8V y0,u8V y1,u8V y2,u8V y3,u8V y4,u8V y5,u8V y6,u8V y7])).run Tryz.prog W=.ok ([x0,x1,x2,x3,x4,x5,x6,x7]==[y0,y1,y2,y3,y4,y5,y6,y7]) W:=fun W=>run_equalIn_bytes (P:=Tryz.prog) W 9998 210 5 8 Tryz.underlying210 Tryz.underlying5 size5' [x0,x1,x2,x3,x4,x5,x6,x7] [y0,y1,y2,y3,y4,y5,y6,y7] rfl rfl
  obtain⟨N,hN⟩:∃ N,N=leN [x0,x1,x2,x3,x4,x5,x6,x7]:=⟨_,rfl⟩
  rw[← hN] at ua ub ⊢
  by_cases hxy:[x0,x1,x2,x3,x4,x5,x6,x7]=[y0,y1,y2,y3,y4,y5,y6,y7]
  · have hb:([x0,x1,x2,x3,x4,x5,x6,x7]==[y0,y1,y2,y3,y4,y5,y6,y7])=true:=by simpa using hxy
    simp only[hb] at heq
    have HX:=Lib.hid hxy
    clear hxy hb hN ga1 ga2 gb1 gb2 ra rb
    go_enter Tryz.func259,Tryz.ntmps259
    go_wp2
    all_goals first | omega | skip
    go_region_held3 (fun w'=>w'.cell? ⟨b,o,none⟩=some (u8V x0)∧w'.cell? ⟨b,o+1,none⟩=some (u8V x1)∧w'.cell? ⟨b,o+2,none⟩=some (u8V x2)∧w'.cell? ⟨b,o+3,none⟩=some (u8V x3)∧w'.cell? ⟨b,o+4,none⟩=some (u8V x4)∧w'.cell? ⟨b,o+5,none⟩=some (u8V x5)∧w'.cell? ⟨b,o+6,none⟩=some (u8V x6)∧w'.cell? ⟨b,o+7,none⟩=some (u8V x7)∧w'.cell? ⟨b,o+4088,none⟩=some (u8V y0)∧w'.cell? ⟨b,o+4088+1,none⟩=some (u8V y1)∧w'.cell? ⟨b,o+4088+2,none⟩=some (u8V y2)∧w'.cell? ⟨b,o+4088+3,none⟩=some (u8V y3)∧w'.cell? ⟨b,o+4088+4,none⟩=some (u8V y4)∧w'.cell? ⟨b,o+4088+5,none⟩=some (u8V y5)∧w'.cell? ⟨b,o+4088+6,none⟩=some (u8V y6)∧w'.cell? ⟨b,o+4088+7,none⟩=some (u8V y7))
      (first | with_reducible exact kpA | with_reducible exact kpB | go_keep)
      (first | (fail))
    all_goals
      go_wp2_with (first
        | (go_at_call 188;with_reducible refine ua.mono ?_;rintro e WA ⟨rfl,rfl⟩)
        | (go_at_call 188;with_reducible refine ub.mono ?_;rintro e WB ⟨rfl,rfl⟩)
        | (go_at_call 99;with_reducible refine ka.mono ?_;rintro e w5 ⟨⟨v,rfl,own⟩,hb5⟩)
        | (go_at_call 99;with_reducible refine kb.mono ?_;rintro e w5 ⟨⟨v,rfl,own⟩,hb5⟩))
      obtain⟨A9,k9,rfl,-,-,-⟩:=own.sl HS.out
      refine bodyPost_ret (results_tmps3 rfl) rfl ?_
      first
        | exact⟨.inl ⟨HX.out,_,_,rfl,own.down ba.size⟩,ba.trans (hb5.mono ba.size)⟩
        | exact⟨.inl ⟨HX.out,_,_,rfl,own.down bb.size⟩,bb.trans (hb5.mono bb.size)⟩
  · have hb:([x0,x1,x2,x3,x4,x5,x6,x7]==[y0,y1,y2,y3,y4,y5,y6,y7])=false:=by simpa using hxy
    simp only[hb] at heq
    have HX:=Lib.hid hxy
    clear hxy hb hN ga1 ga2 gb1 gb2 ra rb ua ub ka kb
    go_enter Tryz.func259,Tryz.ntmps259
    go_wp2
    all_goals first | omega | skip
    go_region_held3 (fun w'=>w'.cell? ⟨b,o,none⟩=some (u8V x0)∧w'.cell? ⟨b,o+1,none⟩=some (u8V x1)∧w'.cell? ⟨b,o+2,none⟩=some (u8V x2)∧w'.cell? ⟨b,o+3,none⟩=some (u8V x3)∧w'.cell? ⟨b,o+4,none⟩=some (u8V x4)∧w'.cell? ⟨b,o+5,none⟩=some (u8V x5)∧w'.cell? ⟨b,o+6,none⟩=some (u8V x6)∧w'.cell? ⟨b,o+7,none⟩=some (u8V x7)∧w'.cell? ⟨b,o+4088,none⟩=some (u8V y0)∧w'.cell? ⟨b,o+4088+1,none⟩=some (u8V y1)∧w'.cell? ⟨b,o+4088+2,none⟩=some (u8V y2)∧w'.cell? ⟨b,o+4088+3,none⟩=some (u8V y3)∧w'.cell? ⟨b,o+4088+4,none⟩=some (u8V y4)∧w'.cell? ⟨b,o+4088+5,none⟩=some (u8V y5)∧w'.cell? ⟨b,o+4088+6,none⟩=some (u8V y6)∧w'.cell? ⟨b,o+4088+7,none⟩=some (u8V y7))
      (first | with_reducible exact kpA | with_reducible exact kpB | go_keep)
      (first | (fail))
    all_goals
      go_wp2
      refine bodyPost_ret (results_tmps3 rfl) rfl ?_
      first
        | exact⟨.inr ⟨HX.out,rfl⟩,ba⟩
        | exact⟨.inr ⟨HX.out,rfl⟩,bb⟩
structure FR where
  fr:Nat
  c:Nat
  pv:Value
  bytes:List UInt8
  lsn:Nat
  dirty:Bool
structure PR where
  base:Nat
  pages:Nat
  epoch:Nat
  cnt:Nat
  wal:Value
  held:Option FR
def PR.tv(R:PR):Value:=match R.held with | none=>.slice none 0 0 | some f=>.slice (some ⟨f.fr,0,none⟩) 1 f.c
def PR.m (R:PR):List (Int×Value):=match R.held with | none=>[] | some _=>[(1,.int .i64 0)]
def pV (p d m:Nat)(R:PR):Array Value:=#[.pointer (some ⟨p,0,none⟩),.pointer (some ⟨d,0,none⟩),.int .i64 (R.base:Int),.int .i64 (R.pages:Int),.int .i64 8,.int .i64 (R.epoch:Int),R.wal,.bool false,R.tv,.map (some m),.int .i64 0,.int .i64 (R.cnt:Int)]
structure FB(Z:Nat→Prop)(w:World)(f:FR):Prop where
  row:∃ cur:Array Value,w.heap[f.fr]? = some (.cells cur 364 (0,0))∧5≤cur.size∧cur[0]? = some (.int .i64 1)∧cur[1]? = some f.pv∧cur[2]? = some (.int .i64 (f.lsn:Int))∧cur[3]? = some (.bool f.dirty)∧cur[4]? = some (.bool true)
  pay:Own w 0 f.pv f.bytes
  len:f.bytes.length=4080
  dry:∀ k,f.pv.ownBlock=some k→¬Z k
  c1:1≤f.c
structure PB(Z:Nat→Prop)(w:World)(p d m:Nat)(R:PR):Prop where
  box:w.heap[p]? = some (.cells (pV p d m R) 318 (0,0))
  map:MapI w m R.m
  fr:∀ f,R.held=some f→FB Z w f
  pg:2≤R.pages
section
variable {Z:Nat→Prop}{w:World}{p d m:Nat}{R:PR}
theorem FB.kp{S Z':Nat→Prop}{w':World}{f:FR}(h:FB Z w f)(k:Kp S w w')(h1:¬S f.fr)(h2:∀ g,f.pv.ownBlock=some g→¬S g)(h3:∀ g,g<w.heap.size→Z' g→Z g):FB Z' w' f:=by
  obtain⟨cur,e,r⟩:=h.row
  exact⟨⟨cur,k.keep e h1,r⟩,h.pay.kp k h2,h.len,fun g e1 e2=>h.dry g e1 (h3 g (h.pay.lt g e1) e2),h.c1⟩
theorem FB.lt{f:FR}(h:FB Z w f):f.fr<w.heap.size:=by
  obtain⟨cur,e,-⟩:=h.row
  exact hlt e
theorem PB.kp{S Z':Nat→Prop}{w':World}(h:PB Z w p d m R)(k:Kp S w w')(h0:¬S p)(hm:¬S m)(h1:∀ f,R.held=some f→¬S f.fr∧∀ g,f.pv.ownBlock=some g→¬S g)(h3:∀ g,g<w.heap.size→Z' g→Z g):PB Z' w' p d m R:=
  ⟨k.keep h.box h0,h.map.kp k hm,fun f e=>(h.fr f e).kp k (h1 f e).1 (h1 f e).2 h3,h.pg⟩
theorem PB.below{w':World}(h:PB Z w p d m R)(hb:Below w.heap.size w w'):PB Z w' p d m R:=
  h.kp (Kp.of (S:=fun _=>False) hb) id id (fun _ _=>⟨id,fun _ _=>id⟩) (fun _ _ h=>h)
theorem infoP:(Tryz.prog.info? 318).isSome=true:=by kernel_rfl
theorem eqlP(w:World)(a:Addr):(binOp .eql 120 (.pointer (some a)) (.pointer (some a))).run Tryz.prog w=.ok (.bool true) w:=by
  obtain⟨j,hj⟩:=Option.isSome_iff_exists.1 infoP
  exact run_eql_ptr_same w a Tryz.underlying120 hj
theorem pmade_any(h:PB Z w p d m R):Calls Tryz.prog 237 #[.pointer (some ⟨p,0,none⟩)] w fun e w'=>e=.returned (.bool true)∧w'=w:=by
  have c0:w.cell? ⟨p,0,none⟩=some (.pointer (some ⟨p,0,none⟩)):=cellD h.box 0
  have he:=fun w=>eqlP w ⟨p,0,none⟩
  go_enter Tryz.func237,Tryz.ntmps237
  go_wp2
  go_ret
  exact⟨rfl,rfl⟩
theorem pasked_any(h:PB Z w p d m R):Calls Tryz.prog 311 #[.pointer (some ⟨p,0,none⟩),.int .i64 1] w fun e w'=>e=.returned (.int .i64 0)∧w'=w:=by
  have c3:w.cell? ⟨p,3,none⟩=some (.int .i64 (R.pages:Int)):=cellD h.box 3
  have f1:¬(R.pages:Int)≤1:=by have:=h.pg;omega
  have f2:¬R.pages≤1:=by have:=h.pg;omega
  have M:=pmade_any h
  go_enter Tryz.func311,Tryz.ntmps311
  go_wp2_with (go_at_call 237;(with_reducible refine M.mono ?_);rintro e w ⟨rfl,rfl⟩)
  go_ret
  exact⟨rfl,rfl⟩
theorem ppages_any(h:PB Z w p d m R):Calls Tryz.prog 231 #[.pointer (some ⟨p,0,none⟩)] w fun e w'=>e=.returned (.int .i64 (R.pages:Int))∧w'=w:=by
  have c3:w.cell? ⟨p,3,none⟩=some (.int .i64 (R.pages:Int)):=cellD h.box 3
  have M:=pmade_any h
  go_enter Tryz.func231,Tryz.ntmps231
  go_wp2_with (go_at_call 237;(with_reducible refine M.mono ?_);rintro e w ⟨rfl,rfl⟩)
  go_ret
  exact⟨rfl,rfl⟩
theorem pcount_any(h:PB Z w p d m R):Calls Tryz.prog 255 #[.pointer (some ⟨p,0,none⟩)] w fun e w'=>e=.returned (.int .i64 (R.cnt:Int))∧w'=w:=by
  have c11:w.cell? ⟨p,11,none⟩=some (.int .i64 (R.cnt:Int)):=cellD h.box 11
  have M:=pmade_any h
  go_enter Tryz.func255,Tryz.ntmps255
  go_wp2_with (first
    | (go_at_call 237;(with_reducible refine M.mono ?_);rintro e w ⟨rfl,rfl⟩)
    | (go_at_call 146;(with_reducible refine(Load_any c11).mono ?_);rintro e w1 ⟨rfl,rfl⟩))
  go_ret
  exact⟨rfl,rfl⟩
theorem lookP{w:World}{b:Nat}{m:List (Int×Value)}(h:MapI w b m)(n:Int):(Instr.lookup 252 (.map (some b)) (.int .i64 n) true).run Tryz.prog w=.ok (.tuple #[(m.lookup n).getD (.int .i64 0),.bool (m.lookup n).isSome]) w:=
  run_lookup_int_ok (P:=Tryz.prog) Tryz.underlying252 Tryz.underlying3 h n (zero3 w)
theorem pget1_any{f:FR}(h:PB Z w p d m R)(hf:R.held=some f):Calls Tryz.prog 274 #[.pointer (some ⟨p,0,none⟩),.int .i64 1] w fun e w'=>(∃ v,e=.returned (.tuple #[v,.int .i64 0])∧Own w' w.heap.size v f.bytes)∧PB Z w' p d m R∧Kp (·=f.fr) w w':=by
  have F:=h.fr f hf
  obtain⟨cur,e1,e2,e3,e4,e5,e6,e7⟩:=F.row
  have hm:MapI w m [(1,.int .i64 0)]:=by have:=h.map;unfold PR.m at this;rw[hf] at this;exact this
  have L:=lookP hm 1
  have A:=pasked_any h
  have c9:w.cell? ⟨p,9,none⟩=some (.map (some m)):=cellD h.box 9
  have htv:R.tv=.slice (some ⟨f.fr,0,none⟩) 1 f.c:=by unfold PR.tv;rw[hf]
  have c8:w.cell? ⟨p,8,none⟩=some (.slice (some ⟨f.fr,0,none⟩) 1 f.c):=(cellD h.box 8).trans (congrArg some htv)
  have x4:w.cell? ⟨f.fr,4,none⟩=some (.bool true):=(cellD e1 4).trans e7
  have z4:w.frozen? ⟨f.fr,4,none⟩=false:=frozenD e1 4
  obtain⟨W1,hW1,g1,k1,s1⟩:=set_name 4 e1 (.bool true)
  have hpf:p≠f.fr:=tag_ne h.box e1 (by decide)
  have hmf:m≠f.fr:=h.map.ne e1
  have d8:W1.cell? ⟨p,8,none⟩=some (.slice (some ⟨f.fr,0,none⟩) 1 f.c):=(cellD (k1.keep h.box hpf) 8).trans (congrArg some htv)
  have d1:W1.cell? ⟨f.fr,1,none⟩=some f.pv:=by
    rw[cellD g1 1]
    simpa using e4
  obtain⟨pb,pc,hpv,-,hpl,-⟩:=(show ∃ g cap,f.pv=.slice (some ⟨g,0,none⟩) 4080 cap∧True∧g<w.heap.size∧True from by
    rcases F.pay.form with⟨_,h0⟩|⟨g,cap,e,_,h2,_⟩
    · have:=F.len;rw[h0] at this;cases this
    · exact⟨g,cap,by rw[e,F.len],trivial,h2,trivial⟩)
  have hpn:f.pv.ownBlock≠some f.fr:=F.pay.tag e1 (by decide)
  have P1:Own W1 0 f.pv f.bytes:=F.pay.kp k1 (fun k q1 q2=>hpn (by rw[q1,q2]))
  obtain⟨A1,c1,hA1,-,-,r1⟩:=P1.sl F.len
  rw[hA1] at hpv
  injection hpv with q1 q2 q3
  subst q1 q3
  rw[hA1] at d1
  have CL:=clone_any pb 0 c1 4080 f.bytes W1 r1 F.len.symm (by omega) (by omega)
  have HB1:PB Z W1 p d m R:=by
    refine⟨k1.keep h.box hpf,h.map.kp k1 hmf,fun f' hf'=>?_,h.pg⟩
    rw[hf] at hf'
    injection hf' with hf'
    subst hf'
    refine⟨⟨_,g1,by simpa using e2,by simpa using e3,by simpa using e4,by simpa using e5,by simpa using e6,?_⟩,P1,F.len,F.dry,F.c1⟩
    have h5:4<cur.size:=by omega
    simp[h5]
  have HH:=Lib.hid HB1
  have HS:=Lib.hid s1
  clear s1 e2 e3 e4 e5 e6 e7 HB1 F htv
  go_enter Tryz.func274,Tryz.ntmps274
  go_wp2_with (first
    | (go_at_call 311;(with_reducible refine A.mono ?_);rintro e w ⟨rfl,rfl⟩)
    | (go_at_call 99;(with_reducible refine CL.mono ?_);rintro e w2 ⟨⟨v,rfl,o2⟩,b2⟩))
  go_ret2
  exact⟨⟨_,rfl,o2.down (Nat.le_of_eq HS.out.symm)⟩,HH.out.below b2,k1.then (Kp.of b2)⟩
end
end Go.Proofs.YtdbkocfbhpgpkaaGreat
