/-
  journal.ring.write, on a disk that fails nowhere: what the call does to what is outside the log.
-/
import Derived.Test.YtdbkocfbhpgpkaaGreatb06
import Derived.Test.YtdbkocfbhpgpkaaGreatb07
import Derived.Test.YtdbkocfbhpgpkaaGreatb05
import Derived.Deep.RegionHeld3
import Derived.Lib.LazyBuf
import Derived.Deep.AppendLies
set_option linter.unusedVariables false
set_option linter.unusedSimpArgs false
namespace Go.Proofs.YtdbkocfbhpgpkaaGreat
open Go Go.RowKit
set_option maxRecDepth 100000
set_option maxHeartbeats 800000
structure Ring where
  d:Nat
  first:Nat
  blocks:Nat
  epoch:Nat
def RB (w:World)(j:Nat)(R:Ring):Prop:=w.cell? ⟨j,0,none⟩=some (.pointer (some ⟨R.d,0,none⟩))∧w.cell? ⟨j,1,none⟩=some (.int .i64 (R.first:Int))∧w.cell? ⟨j,2,none⟩=some (.int .i64 (R.blocks:Int))∧w.cell? ⟨j,3,none⟩=some (.int .i64 (R.epoch:Int))
theorem places_any(j a b:Nat)(w:World):Calls Tryz.prog 236 #[.pointer (some ⟨j,0,none⟩),.int .i64 (a:Int),.int .i64 (b:Int)] w fun e w'=>e=.returned (.func (.func 269) #[] #[.pointer (some ⟨w.heap.size,0,none⟩),.pointer (some ⟨w.heap.size+1,0,none⟩),.pointer (some ⟨w.heap.size+2,0,none⟩)]) ∧
    Below w.heap.size w w'∧w'.heap[w.heap.size]? = some (.cells #[.pointer (some ⟨j,0,none⟩)] 321 (0,0))∧w'.heap[w.heap.size+1]? = some (.cells #[.int .i64 (a:Int)] 3 (0,0))∧w'.heap[w.heap.size+2]? = some (.cells #[.int .i64 (b:Int)] 3 (0,0)):=by
  go_enter Tryz.func236,Tryz.ntmps236
  go_wp2
  go_ret
  refine⟨?_,?_,?_,?_,?_⟩
  · rfl
  · exact(((Below.refl _ _).alloc (Nat.le_refl _) _).alloc (by simp) _).alloc (by simp;omega) _
  · exact(Below.heap_alloc _ _ _ (by simp;omega)).trans ((Below.heap_alloc _ _ _ (by simp)).trans (heap_alloc_new w _))
  · refine(Below.heap_alloc _ _ _ (by simp)).trans ?_
    have:=heap_alloc_new (w.alloc (.cells #[.pointer (some ⟨j,0,none⟩)] 321)) (.cells #[.int .i64 (a:Int)] 3)
    simpa using this
  · have:=heap_alloc_new ((w.alloc (.cells #[.pointer (some ⟨j,0,none⟩)] 321)).alloc (.cells #[.int .i64 (a:Int)] 3)) (.cells #[.int .i64 (b:Int)] 3)
    simpa using this
theorem place_any{w:World}{j p a b c i:Nat}{R:Ring}(hR:RB w j R)(hp:w.heap[p]? = some (.cells #[.pointer (some ⟨j,0,none⟩)] 321 (0,0)))(ha:w.heap[a]? = some (.cells #[.int .i64 (b:Int)] 3 (0,0))){q:Nat}(hc:w.heap[c]? = some (.cells #[.int .i64 (q:Int)] 3 (0,0)))
    (h1:R.first≤100000) (h2:R.blocks≤100000) (h3:b≤100000) (h4:i≤100000) (h5:q≤4294967295) (h6:0<R.blocks) :
    Calls Tryz.prog 269 #[.int .i64 (i:Int),.pointer (some ⟨p,0,none⟩),.pointer (some ⟨a,0,none⟩),.pointer (some ⟨c,0,none⟩)] w fun e w'=>e=.returned (.tuple #[.int .i64 ((R.first+(b+i) % R.blocks:Nat):Int),.int .u64 (ofS (R.epoch:Int) ((q:Int)+(i:Int)):Int)])∧Below w.heap.size w w':=by
  obtain⟨c0,c1,c2,c3⟩:=hR
  have cp:w.cell? ⟨p,0,none⟩=some (.pointer (some ⟨j,0,none⟩)):=cellD hp 0
  have ca:w.cell? ⟨a,0,none⟩=some (.int .i64 (b:Int)):=cellD ha 0
  have cc:w.cell? ⟨c,0,none⟩=some (.int .i64 (q:Int)):=cellD hc 0
  go_enter Tryz.func269,Tryz.ntmps269
  have hi:¬R.blocks=0:=by omega
  have hw1:wrap64 ((b:Int)+(i:Int))=(b:Int)+(i:Int):=IntWalk.wrap64_in _ (by omega)
  have hr:((b:Int)+(i:Int)).tmod (R.blocks:Int)=(((b+i) % R.blocks:Nat):Int):=by rw[Int.tmod_eq_emod_of_nonneg (by omega),Int.natCast_emod,Int.natCast_add]
  obtain⟨m,hm,hml⟩:∃ m:Nat,m=(b+i) % R.blocks∧m<R.blocks:=⟨_,rfl,Nat.mod_lt _ h6⟩
  rw[← hm] at hr
  rw[← hm]
  clear hm
  have hd:∀ w,(Op.intDiv .rem .i64 ((b:Int)+(i:Int)) (R.blocks:Int)).run Tryz.prog w=.ok (.int .i64 (m:Int)) w:=fun w=>by
    unfold Op.intDiv
    rw[if_neg (by omega),hr]
    rfl
  have hw2:wrap64 (m:Int)=(m:Int):=IntWalk.wrap64_in _ (by omega)
  have hw3:wrap64 ((R.first:Int)+(m:Int))=(R.first:Int)+(m:Int):=IntWalk.wrap64_in _ (by omega)
  have hw4:wrap64 ((q:Int)+(i:Int))=(q:Int)+(i:Int):=IntWalk.wrap64_in _ (by omega)
  have k:=And.intro c1 (And.intro c2 (And.intro c3 (And.intro cp (And.intro ca cc))))
  go_wp2
  go_region_held3 (fun w'=>w'.cell? ⟨j,1,none⟩=some (.int .i64 (R.first:Int))∧w'.cell? ⟨j,2,none⟩=some (.int .i64 (R.blocks:Int))∧w'.cell? ⟨j,3,none⟩=some (.int .i64 (R.epoch:Int))∧w'.cell? ⟨p,0,none⟩=some (.pointer (some ⟨j,0,none⟩))∧w'.cell? ⟨a,0,none⟩=some (.int .i64 (b:Int))∧w'.cell? ⟨c,0,none⟩=some (.int .i64 (q:Int)))
    (first | with_reducible exact k | go_keep)
    (first | (go_at_call 58;with_reducible refine(of_any _ _ _).mono ?_;rintro e w1 ⟨rfl,rfl⟩))
  all_goals
    have e1:IntKind.i64.wrap ((b:Int)+(i:Int))=(b:Int)+(i:Int):=by rw[IntWalk.i64_left];exact hw1
    have e3:IntKind.i64.wrap ((R.first:Int)+(m:Int))=(((R.first+m:Nat)):Int):=by rw[Int.natCast_add,IntWalk.i64_left];exact hw3
    have e4:IntKind.i64.wrap ((q:Int)+(i:Int))=(q:Int)+(i:Int):=by rw[IntWalk.i64_left];exact hw4
    rw[e1,hr,e3,e4]
    go_wp2
    go_ret2
    exact⟨rfl,by first | exact drewN_below _ _ _ | exact(drewN_below _ _ 1)⟩
end Go.Proofs.YtdbkocfbhpgpkaaGreat
namespace Go.Proofs.YtdbkocfbhpgpkaaGreat
open Go Go.RowKit
set_option maxRecDepth 100000
set_option maxHeartbeats 1600000
variable {Z:Nat→Prop}
def Sl (w:World)(g n c:Nat)(l:List UInt8):Prop:=∃ cur:Array Value,w.heap[g]? = some (.cells cur 5 (0,0))∧c≤cur.size∧n≤c∧l.length=n∧∀ k (h:k<l.length),cur[k]? = some (u8V l[k])
theorem Sl.len{w:World}{g n c:Nat}{l:List UInt8}(h:Sl w g n c l):l.length=n:=by
  obtain⟨cur,_,h2,h3,h4,_⟩:=h
  exact h4
theorem Sl.lt{w:World}{g n c:Nat}{l:List UInt8}(h:Sl w g n c l):g<w.heap.size:=by
  obtain⟨cur,h1,_⟩:=h
  exact hlt h1
theorem Sl.rd{w:World}{g n c:Nat}{l:List UInt8}(h:Sl w g n c l)(p m:Nat)(hp:p+m≤n):Rd w w.heap.size (some ⟨g,p,none⟩) ((l.drop p).take m):=fun hne=>by
  have hl:=h.lt
  obtain⟨cur,h1,h2,h3,h4,h5⟩:=h
  refine⟨g,p,rfl,hl,fun k hk=>?_⟩
  have hk1:k<m:=by simp at hk;omega
  rw[cellD h1,h5 (p+k) (by omega)]
  simp
theorem Sl.same{w w':World}{g n c:Nat}{l:List UInt8}(h:Sl w g n c l)(e:w'.heap[g]? = w.heap[g]?):Sl w' g n c l:=by
  obtain⟨cur,h1,h2⟩:=h
  exact⟨cur,e.trans h1,h2⟩
theorem Own.toSl{w:World}{B g n c:Nat}{l:List UInt8}(h:Own w B (.slice (some ⟨g,0,none⟩) n c) l)(hl:l.length=n):Sl w g n c l:=by
  rcases h.2 with⟨e,-⟩|⟨g',cap,cur,e,-,h2,h3,h4,h5,h6⟩
  · cases e
  · injection e with e1 e2 e3
    injection e1 with e1
    injection e1 with e1
    subst e1 e3
    refine⟨cur,h2,by omega,by omega,hl,fun k hk=>?_⟩
    have:(cur.toList.take (l.length * 1))[k]? = (l.map u8V)[k]?:=by rw[h6]
    rw[List.getElem?_take,if_pos (by omega),List.getElem?_map,List.getElem?_eq_getElem hk] at this
    simpa using this
theorem stepB{w:World}{ops:Array Oper}{o:Oper}{a:Act}{K:Act→World→Prop}{Q:Exit→Act→World→Prop}{E:Prop}(hgd:o.guard=none)(s x:Operand)
    (ho:o.op=.call { callee:=.builtin .append,args:=#[s,x],argTypes:=#[33,33] })
    (base:Nat) (v:Value) (l:List UInt8) (hs:a.eval s=v) (hown:Own w base v l) (B b off m c:Nat) (news:List UInt8) (hx:a.eval x=.slice (some ⟨b,off,none⟩) m c) (hm:m=news.length) (h0:0<m) (hr:Rd w B (some ⟨b,off,none⟩) news)
    (n2:Nat) (hn2:l.length+m=n2) (hlen:n2≤140737488355328) (hbase:base≤w.heap.size)
    (h:∀ g cap w',Own w' base (.slice (some ⟨g,0,none⟩) n2 cap) (l++news)→Below base w w'→base≤g→K (a.put o.dst (.slice (some ⟨g,0,none⟩) n2 cap)) w') :
    if Region.wanted o (yielded ops a.tmps)=true then Oper.wp Tryz.prog o a w K Q else E:=by
  obtain⟨i0,hi,hz0,hz1,hz2⟩:=info_parts Tryz.info5
  subst hm
  subst hn2
  have hb:=hown.blk
  obtain⟨b',off',e,hbB,hc⟩:=hr (by rintro rfl;simp at h0)
  cases e
  have hcells:∀ j u,(news.map u8V)[j]? = some u→w.cell? ((⟨b,off,none⟩:Addr).add j)=some u:=by
    intro j u hu
    rw[List.getElem?_map] at hu
    rcases Nat.lt_or_ge j news.length with hj|hj
    · rw[List.getElem?_eq_getElem hj] at hu
      simp only[Option.map_some,Option.some.injEq] at hu
      subst hu
      have:(⟨b,off,none⟩:Addr).add j=⟨b,off+j,none⟩:=by unfold Addr.add;split<;>simp_all
      rw[this];exact hc j hj
    · rw[List.getElem?_eq_none hj] at hu;cases hu
  refine step_append_lies w hgd s x 33 ho base 5 i0 (.int .u8 0) 1 1 Tryz.underlying33 hi hz0 hz1 hz2 rfl (by decide) v l.length (l.map u8V) hs hown ⟨b,off,none⟩ news.length c (news.map u8V) hx
    (by simp) hcells (by intro u hu;simp at hu;obtain⟨_,_,rfl⟩:=hu;rfl) h0 (by unfold maxLen;omega) (by omega) hbase _ rfl fun g cap w' h2 h3 h5 h6=>h g cap w' ?_ ⟨h3.os,h3.tape,h3.output,h3.size,fun k hk=>h3.block k (by omega) (fun e=>by have:=hb k e.symm;omega)⟩ ?_
  · unfold Own;rw[List.length_append,List.map_append];exact h2
  · rcases h5 with e|e
    · exact hb _ e
    · omega
structure Half(Z:Nat→Prop)(n0 d db lo hi:Nat)(P:PD)(W0:World)(k:Nat)(w:World):Prop where
  ex:∃ pv P',Dk Z w n0 d db pv P'∧P'.Fine∧P'.ws.length=k∧P'.bs.length=P.bs.length∧Off lo hi P.vis P'.vis
  fr:Fr n0 d db W0 w
theorem Dk.keepT{w w':World}{n0 d db:Nat}{pv:Value}{P:PD}(h:Dk Z w n0 d db pv P)(f:Fr n0 d db w w'){x:Nat}{cs:Array Value}{t:TypeId}{z:Nat×Nat}(e:w.heap[x]? = some (.cells cs t z))(h1:t≠147)(h2:t≠33)(h3:t≠203):w'.heap[x]? = some (.cells cs t z):=by
  refine(f.keep e ?_ ?_ (fun y hy=>by injection hy with _ q _;exact h3 q)).trans e
  · rintro rfl
    have:=h.box
    unfold DB at this
    rw[e] at this
    injection this with q;injection q with _ q _;exact h1 q
  · rintro rfl
    obtain⟨cs,hr,_⟩:=h.row
    rw[e] at hr
    injection hr with q;injection q with _ q _;exact h2 q
theorem Bk.rdg{w:World}{g:Nat}{l:List UInt8}(h:Bk Z w (.slice (some ⟨g,0,none⟩) 4096 4096) l):Rd w w.heap.size (some ⟨g,0,none⟩) l:=by
  obtain⟨A,e,hr⟩:=h.rd
  injection e with e1
  subst e1
  exact hr
theorem need_lt{n k:Nat}(h:k<need n):k * 4076<n:=by unfold need at h;omega
theorem need_le{n:Nat}(h:n≤250000):need n≤62:=by unfold need;omega
theorem rwrite_any{w:World}{n0 d db j g n c s q:Nat}{pv:Value}{P:PD}{R:Ring}{l:List UInt8}{jc:Array Value}(h:Dk Z w n0 d db pv P)(hf:P.Fine)(hws:P.ws=[])(hj:w.heap[j]? = some (.cells jc 232 (0,0)))(hR:∀ w',w'.heap[j]? = w.heap[j]?→RB w' j R)(hRd:R.d=d)
    (hS:Sl w g n c l) (hn:n≤250000) (h1:R.first+R.blocks≤P.bs.length) (h2:P.bs.length≤100000) (h3:s≤90000) (h5:q≤4000000000) (h6:0<R.blocks) :
    Calls Tryz.prog 172 #[.pointer (some ⟨j,0,none⟩),.int .i64 (s:Int),.int .i64 (q:Int),.slice (some ⟨g,0,none⟩) n c] w fun e w'=>e=.returned (.int .i64 0) ∧
      (∃ pv' P',Dk Z w' n0 d db pv' P'∧P'.Fine∧P'.ws=[]∧P'.bs.length=P.bs.length∧Off R.first (R.first+R.blocks) P.vis P'.vis)∧Fr n0 d db w w':=by
  have hneed:=need_le hn
  have N:=fun w=>needs_any n (by omega) w
  go_enter Tryz.func172,Tryz.ntmps172
  go_wp2_with (first
    | (go_at_call 236;with_reducible refine(places_any j s q _).mono ?_;rintro e W0 ⟨rfl,hb0,hp0,hp1,hp2⟩)
    | (go_at_call 173;with_reducible refine(N _).mono ?_;rintro e W0 ⟨rfl,rfl⟩))
  have H0:Half Z n0 d db R.first (R.first+R.blocks) P W0 0 W0:=⟨⟨pv,P,h.below hb0,hf,by simp[hws],rfl,Off.refl _ _ _⟩,Fr.refl _ _ _ _⟩
  have hj0:=(hb0.block _ (hlt hj)).trans hj
  have HD0:=h.below hb0
  have hS0:=hS.same (hb0.block _ hS.lt)
  have hjd:j≠d:=by
    rintro rfl
    have:=h.box
    unfold DB at this
    rw[hj] at this;cases this
  have hjb:j≠db:=by
    rintro rfl
    obtain⟨cs,hr,_⟩:=h.row
    rw[hj] at hr;cases hr
  have hgd:g≠d:=by
    obtain⟨xs,e,_⟩:=hS
    rintro rfl
    have:=h.box
    unfold DB at this
    rw[e] at this
    simp at this
  have hgb:g≠db:=by
    obtain⟨xs,e,_⟩:=hS
    rintro rfl
    obtain⟨cs,hr,_⟩:=h.row
    rw[e] at hr
    simp at hr
  go_loopw [25] (fun i wr=>∃ k:Nat,i=.int .i64 (k:Int)∧k≤need n∧Half Z n0 d db R.first (R.first+R.blocks) P W0 k wr) (fun i _=>need n-(intOf i).toNat)
  case atStart=>exact⟨0,rfl,by omega,H0⟩
  case round=>
    obtain⟨k,rfl,hk,⟨pv1,P1,D1,f1,l1,b1,o1⟩,fr⟩:=hrel
    by_cases hlt':k<need n
    · have hkn:=need_lt hlt'
      have hk50:k≤62:=by omega
      have hkm:wrap64 ((k:Int) * 4076)=(k:Int) * 4076:=IntWalk.wrap64_in _ (by omega)
      have hpc:(k:Int) * 4076≤(n:Int):=by omega
      have hnc:n≤c:=by obtain⟨xs,_,_,h7,_⟩:=hS;exact h7
      have hpd:(k:Int) * 4076≤(c:Int):=by omega
      have hp0':(0:Int)≤(k:Int) * 4076:=by omega
      have hlk:((k:Int)<((need n:Nat):Int)):=by omega
      have hSr:=hS0.same (by obtain⟨xs,e,_⟩:=hS0;exact fr.keep e hgd hgb (fun x e=>by simp at e))
      go_wp2
      obtain⟨m,hm,hmn⟩:∃ m:Nat,n-k * 4076=m∧k * 4076+m=n:=⟨_,rfl,by omega⟩
      obtain⟨cc,hcc,hccn⟩:∃ cc:Nat,c-k * 4076=cc∧k * 4076+cc=c:=⟨_,rfl,by omega⟩
      obtain⟨p,hpp⟩:∃ p:Nat,k * 4076=p:=⟨_,rfl⟩
      rw[hm,hcc,hpp]
      obtain⟨t,ht,ht1,ht2,ht3⟩:∃ t:Nat,min (m:Int) 4076=(t:Int)∧t≤m∧t≤4076∧0<t:=⟨min m 4076,by omega,by omega,by omega,by omega⟩
      have htc:(t:Int)≤(cc:Int):=by omega
      have ht0:(0:Int)≤(t:Int):=by omega
      have hm32:IntKind.u32.wrap (m:Int)=(m:Int):=by rw[IntKind.wrap_u32];omega
      have DD:Below wr.heap.size wr wr.drew:=⟨rfl,rfl,rfl,Nat.le_refl _,fun _ _=>rfl⟩
      have A4:=add32_any none 0 0 m [] wr.drew (.nil _ _ _) rfl (by simp) (by omega)
      have A5:∀ w2,Below wr.drew.heap.size wr.drew w2→Sl w2 g n c l:=fun w2 hb2=>hSr.same (hb2.block _ hSr.lt)
      have A6:∀ w2,Below wr.drew.heap.size wr.drew w2→Below wr.heap.size wr w2:=fun w2 hb2=>DD.trans hb2
      go_region_held3 (fun w'=>True)
        (trivial)
        (first
          | (go_at_call 151;with_reducible refine A4.mono ?_;rintro e w2 ⟨u,rfl,hown,hb2⟩;have hS2:=A5 w2 hb2;have B2:=A6 w2 hb2;clear hb2)
          | (refine stepB rfl (.tmp 35) (.tmp 40) rfl wr.heap.size _ (le 4 m) rfl hown w2.heap.size g p t cc ((l.drop p).take t) rfl (by rw[List.length_take,List.length_drop,hS2.len];omega) ht3 (hS2.rd p t (by omega)) (4+t) (by rw[le_len]) (by omega) B2.size ?_;intro g4 c4 w4 own4 b4 hg4)
          | fail)
      all_goals
        have B4:Below wr.heap.size wr w4:=B2.trans b4
        have D4:=D1.below B4
        have r4:Rd w4 w4.heap.size (some ⟨g4,0,none⟩) (le 4 m++(l.drop p).take t):=by
          obtain⟨A,cap,e,_,_,hr⟩:=own4.slice
          injection e with e1
          subst e1
          exact hr
        have hlen4:(le 4 m++(l.drop p).take t).length=4+t:=by rw[List.length_append,le_len,List.length_take,List.length_drop,hS.len];omega
        have F4:Fr n0 d db W0 w4:=fr.then (Fr.below B4)
        have q0:=HD0.keepT F4 hp0 (by decide) (by decide) (by decide)
        have q1:=HD0.keepT F4 hp1 (by decide) (by decide) (by decide)
        have q2:=HD0.keepT F4 hp2 (by decide) (by decide) (by decide)
        have j4:=HD0.keepT F4 hj0 (by decide) (by decide) (by decide)
        have R4:=hR w4 (j4.trans hj.symm)
        have c0:=R4.1
        rw[hRd] at c0
        have PL:=place_any R4 q0 q1 q2 (i:=k) (by omega) (by omega) (by omega) (by omega) (by omega) h6
        clear own4 b4 hg4 B2 hS2 hown A4 A5 A6 DD
        obtain⟨bk,hbk,hbk1,hbk2⟩:∃ bk:Nat,bk=R.first+(s+k) % R.blocks∧R.first≤bk∧bk<R.first+R.blocks:=⟨_,rfl,by omega,by have:=Nat.mod_lt (s+k) h6;omega⟩
        obtain⟨SS,hSS,hSSl⟩:∃ SS:Nat,SS=ofS (R.epoch:Int) ((q:Int)+(k:Int))∧SS≤18446744073709551615:=⟨_,rfl,ofS_le _ _⟩
        rw[← hbk,← hSS] at PL
        obtain⟨pay,hpay⟩:∃ pay,pay=le 4 m++(l.drop p).take t:=⟨_,rfl⟩
        rw[← hpay] at r4 hlen4
        clear hbk hSS hpay q0 q1 q2 R4 hR N
        have LEN:=Lib.hid (show 4+t=pay.length from hlen4.symm)
        have L1:=Lib.hid (show 1≤pay.length by omega)
        have L2:=Lib.hid (show pay.length≤4080 by omega)
        clear hlen4
        go_wp2_with (go_at_call 269;with_reducible refine PL.mono ?_;rintro e w5 ⟨rfl,b5⟩;have r5:=r4.belowS b5;have D5:=D4.below b5;have SE:=seal_any (Z:=Z) (some ⟨g4,0,none⟩) (4+t) c4 SS pay w5 r5 LEN.out L1.out L2.out hSSl D5.wet;clear PL r4)
        go_wp2_with (first
          | (go_at_call 57;with_reducible refine SE.mono ?_;rintro e w6 ⟨⟨g6,rfl,K6,z6⟩,b6⟩;have c6:=(b6.cell (p:=⟨j,0,none⟩) (Nat.lt_of_lt_of_le (hlt j4) b5.size)).trans ((b5.cell (p:=⟨j,0,none⟩) (hlt j4)).trans c0);have D6:=D5.below b6;have WR:=write_any D6 bk (by omega) (some ⟨g6,0,none⟩) 4096 _ K6.rdg (sealed_len (padP_len L2.out)) (by omega);rw[f1.put_eq] at WR;clear SE D5 r5)
          | (go_at_call 60;with_reducible refine WR.mono ?_;rintro e w7 ⟨rfl,⟨pv7,D7⟩,F7⟩))
        refine⟨⟨k+1,by rw[Int.natCast_add];rfl,hlt',⟨⟨pv7,_,D7,⟨f1.ft,f1.wh⟩,by simp[l1],b1,?_⟩,F4.then ((Fr.below b5).then ((Fr.below b6).then F7))⟩⟩,?_⟩
        · rw[PD.put_vis];exact o1.set hbk1 hbk2 _
        · have e1:intOf (Value.int IntKind.i64 ((k:Int)+1))=(k:Int)+1:=rfl
          have e2:intOf (Value.int IntKind.i64 (k:Int))=(k:Int):=rfl
          rw[e1,e2]
          omega
    · obtain rfl:k=need n:=by omega
      have cj:=hR wr ((fr.keep hj0 hjd hjb (fun x e=>by cases e)).trans (hj0.trans hj.symm))
      obtain⟨c0,-,-,-⟩:=cj
      rw[hRd] at c0
      have S:=sync_any D1 (by omega)
      rw[f1.sync_eq] at S
      go_wp2_with (go_at_call 61;with_reducible refine S.mono ?_;rintro e W8 ⟨rfl,⟨pv8,D8,-⟩,F8⟩)
      go_ret
      exact⟨rfl,⟨pv8,_,D8,⟨f1.ft,f1.wh⟩,rfl,(PD.vis_len _).trans b1,o1⟩,(Fr.below hb0).then (fr.then F8)⟩
end Go.Proofs.YtdbkocfbhpgpkaaGreat
