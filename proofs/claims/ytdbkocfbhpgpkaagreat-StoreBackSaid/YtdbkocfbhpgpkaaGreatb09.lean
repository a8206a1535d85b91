/-
  pool.New.
-/
import Derived.Test.YtdbkocfbhpgpkaaGreatb06
import Derived.Test.YtdbkocfbhpgpkaaGreatb08
import Derived.Test.YtdbkocfbhpgpkaaGreatb05
import Derived.RangeFuncRecord
import Derived.RangeFuncLeaves
import Derived.TacticsIn
import Derived.BigFrameIn
import Derived.BigRegionIn
import Derived.Stop.RegionWithIn
import Derived.Deep.RegionHeld3
import Derived.Deep.RegionLaw
set_option linter.unusedVariables false
set_option linter.unusedSimpArgs false
namespace Go.Proofs.YtdbkocfbhpgpkaaGreat
open Go Go.RowKit
set_option maxRecDepth 100000
set_option maxHeartbeats 1600000
structure FR where
  fr:Nat
  c:Nat
  pv:Value
  bytes:List UInt8
  lsn:Nat
  dirty:Bool
structure PR where
  base:Nat
  pages:Nat
  epoch:Nat
  cnt:Nat
  wal:Value
  held:Option FR
  nf:Nat
def PR.tv(R:PR):Value:=match R.held with | none=>.slice none 0 0 | some f=>.slice (some ⟨f.fr,0,none⟩) 1 f.c
def PR.m (R:PR):List (Int×Value):=match R.held with | none=>[] | some _=>[(1,.int .i64 0)]
def pV (p d m:Nat)(R:PR):Array Value:=#[.pointer (some ⟨p,0,none⟩),.pointer (some ⟨d,0,none⟩),.int .i64 (R.base:Int),.int .i64 (R.pages:Int),.int .i64 (R.nf:Int),.int .i64 (R.epoch:Int),R.wal,.bool false,R.tv,.map (some m),.int .i64 0,.int .i64 (R.cnt:Int)]
structure FB(Z:Nat→Prop)(w:World)(f:FR):Prop where
  row:∃ cur:Array Value,w.heap[f.fr]? = some (.cells cur 364 (0,0))∧(5≤cur.size∧cur.size=f.c * 5∧f.c≤maxLen)∧cur[0]? = some (.int .i64 1)∧cur[1]? = some f.pv∧cur[2]? = some (.int .i64 (f.lsn:Int))∧cur[3]? = some (.bool f.dirty)∧cur[4]? = some (.bool true)
  pay:Own w 0 f.pv f.bytes
  len:f.bytes.length=4080
  dry:∀ k,f.pv.ownBlock=some k→¬Z k
  c1:1≤f.c
structure PB(Z:Nat→Prop)(w:World)(p d m:Nat)(R:PR):Prop where
  box:w.heap[p]? = some (.cells (pV p d m R) 318 (0,0))
  map:MapI w m R.m
  fr:∀ f,R.held=some f→FB Z w f
  pg:2≤R.pages∧2≤R.nf
section
variable {Z:Nat→Prop}{w:World}{p d m:Nat}{R:PR}
theorem FB.kp{S Z':Nat→Prop}{w':World}{f:FR}(h:FB Z w f)(k:Kp S w w')(h1:¬S f.fr)(h2:∀ g,f.pv.ownBlock=some g→¬S g)(h3:∀ g,g<w.heap.size→Z' g→Z g):FB Z' w' f:=by
  obtain⟨cur,e,r⟩:=h.row
  exact⟨⟨cur,k.keep e h1,r⟩,h.pay.kp k h2,h.len,fun g e1 e2=>h.dry g e1 (h3 g (h.pay.lt g e1) e2),h.c1⟩
theorem FB.lt{f:FR}(h:FB Z w f):f.fr<w.heap.size:=by
  obtain⟨cur,e,-⟩:=h.row
  exact hlt e
theorem PB.kp{S Z':Nat→Prop}{w':World}(h:PB Z w p d m R)(k:Kp S w w')(h0:¬S p)(hm:¬S m)(h1:∀ f,R.held=some f→¬S f.fr∧∀ g,f.pv.ownBlock=some g→¬S g)(h3:∀ g,g<w.heap.size→Z' g→Z g):PB Z' w' p d m R:=
  ⟨k.keep h.box h0,h.map.kp k hm,fun f e=>(h.fr f e).kp k (h1 f e).1 (h1 f e).2 h3,h.pg⟩
theorem PB.below{w':World}(h:PB Z w p d m R)(hb:Below w.heap.size w w'):PB Z w' p d m R:=
  h.kp (Kp.of (S:=fun _=>False) hb) id id (fun _ _=>⟨id,fun _ _=>id⟩) (fun _ _ h=>h)
theorem infoP:(Tryz.prog.info? 318).isSome=true:=by kernel_rfl
theorem eqlP(w:World)(a:Addr):(binOp .eql 120 (.pointer (some a)) (.pointer (some a))).run Tryz.prog w=.ok (.bool true) w:=by
  obtain⟨j,hj⟩:=Option.isSome_iff_exists.1 infoP
  exact run_eql_ptr_same w a Tryz.underlying120 hj
theorem pmade_any(h:PB Z w p d m R):Calls Tryz.prog 237 #[.pointer (some ⟨p,0,none⟩)] w fun e w'=>e=.returned (.bool true)∧w'=w:=by
  have c0:w.cell? ⟨p,0,none⟩=some (.pointer (some ⟨p,0,none⟩)):=cellD h.box 0
  have he:=fun w=>eqlP w ⟨p,0,none⟩
  go_enter Tryz.func237,Tryz.ntmps237
  go_wp2
  go_ret
  exact⟨rfl,rfl⟩
theorem pasked_any(h:PB Z w p d m R):Calls Tryz.prog 311 #[.pointer (some ⟨p,0,none⟩),.int .i64 1] w fun e w'=>e=.returned (.int .i64 0)∧w'=w:=by
  have c3:w.cell? ⟨p,3,none⟩=some (.int .i64 (R.pages:Int)):=cellD h.box 3
  have f1:¬(R.pages:Int)≤1:=by have:=h.pg;omega
  have f2:¬R.pages≤1:=by have:=h.pg;omega
  have M:=pmade_any h
  go_enter Tryz.func311,Tryz.ntmps311
  go_wp2_with (go_at_call 237;(with_reducible refine M.mono ?_);rintro e w ⟨rfl,rfl⟩)
  go_ret
  exact⟨rfl,rfl⟩
theorem ppages_any(h:PB Z w p d m R):Calls Tryz.prog 231 #[.pointer (some ⟨p,0,none⟩)] w fun e w'=>e=.returned (.int .i64 (R.pages:Int))∧w'=w:=by
  have c3:w.cell? ⟨p,3,none⟩=some (.int .i64 (R.pages:Int)):=cellD h.box 3
  have M:=pmade_any h
  go_enter Tryz.func231,Tryz.ntmps231
  go_wp2_with (go_at_call 237;(with_reducible refine M.mono ?_);rintro e w ⟨rfl,rfl⟩)
  go_ret
  exact⟨rfl,rfl⟩
theorem pcount_any(h:PB Z w p d m R):Calls Tryz.prog 255 #[.pointer (some ⟨p,0,none⟩)] w fun e w'=>e=.returned (.int .i64 (R.cnt:Int))∧w'=w:=by
  have c11:w.cell? ⟨p,11,none⟩=some (.int .i64 (R.cnt:Int)):=cellD h.box 11
  have M:=pmade_any h
  go_enter Tryz.func255,Tryz.ntmps255
  go_wp2_with (first
    | (go_at_call 237;(with_reducible refine M.mono ?_);rintro e w ⟨rfl,rfl⟩)
    | (go_at_call 146;(with_reducible refine(Load_any c11).mono ?_);rintro e w1 ⟨rfl,rfl⟩))
  go_ret
  exact⟨rfl,rfl⟩
theorem lookP{w:World}{b:Nat}{m:List (Int×Value)}(h:MapI w b m)(n:Int):(Instr.lookup 252 (.map (some b)) (.int .i64 n) true).run Tryz.prog w=.ok (.tuple #[(m.lookup n).getD (.int .i64 0),.bool (m.lookup n).isSome]) w:=
  run_lookup_int_ok (P:=Tryz.prog) Tryz.underlying252 Tryz.underlying3 h n (zero3 w)
theorem pget1_any{f:FR}(h:PB Z w p d m R)(hf:R.held=some f):Calls Tryz.prog 274 #[.pointer (some ⟨p,0,none⟩),.int .i64 1] w fun e w'=>(∃ v,e=.returned (.tuple #[v,.int .i64 0])∧Own w' w.heap.size v f.bytes)∧PB Z w' p d m R∧Kp (·=f.fr) w w':=by
  have F:=h.fr f hf
  obtain⟨cur,e1,e2,e3,e4,e5,e6,e7⟩:=F.row
  have hm:MapI w m [(1,.int .i64 0)]:=by have:=h.map;unfold PR.m at this;rw[hf] at this;exact this
  have L:=lookP hm 1
  have A:=pasked_any h
  have c9:w.cell? ⟨p,9,none⟩=some (.map (some m)):=cellD h.box 9
  have htv:R.tv=.slice (some ⟨f.fr,0,none⟩) 1 f.c:=by unfold PR.tv;rw[hf]
  have c8:w.cell? ⟨p,8,none⟩=some (.slice (some ⟨f.fr,0,none⟩) 1 f.c):=(cellD h.box 8).trans (congrArg some htv)
  have x4:w.cell? ⟨f.fr,4,none⟩=some (.bool true):=(cellD e1 4).trans e7
  have z4:w.frozen? ⟨f.fr,4,none⟩=false:=frozenD e1 4
  obtain⟨W1,hW1,g1,k1,s1⟩:=set_name 4 e1 (.bool true)
  have hpf:p≠f.fr:=tag_ne h.box e1 (by decide)
  have hmf:m≠f.fr:=h.map.ne e1
  have d8:W1.cell? ⟨p,8,none⟩=some (.slice (some ⟨f.fr,0,none⟩) 1 f.c):=(cellD (k1.keep h.box hpf) 8).trans (congrArg some htv)
  have d1:W1.cell? ⟨f.fr,1,none⟩=some f.pv:=by
    rw[cellD g1 1]
    simpa using e4
  obtain⟨pb,pc,hpv,-,hpl,-⟩:=(show ∃ g cap,f.pv=.slice (some ⟨g,0,none⟩) 4080 cap∧True∧g<w.heap.size∧True from by
    rcases F.pay.form with⟨_,h0⟩|⟨g,cap,e,_,h2,_⟩
    · have:=F.len;rw[h0] at this;cases this
    · exact⟨g,cap,by rw[e,F.len],trivial,h2,trivial⟩)
  have hpn:f.pv.ownBlock≠some f.fr:=F.pay.tag e1 (by decide)
  have P1:Own W1 0 f.pv f.bytes:=F.pay.kp k1 (fun k q1 q2=>hpn (by rw[q1,q2]))
  obtain⟨A1,c1,hA1,-,-,r1⟩:=P1.sl F.len
  rw[hA1] at hpv
  injection hpv with q1 q2 q3
  subst q1 q3
  rw[hA1] at d1
  have CL:=clone_any pb 0 c1 4080 f.bytes W1 r1 F.len.symm (by omega) (by omega)
  have HB1:PB Z W1 p d m R:=by
    refine⟨k1.keep h.box hpf,h.map.kp k1 hmf,fun f' hf'=>?_,h.pg⟩
    rw[hf] at hf'
    injection hf' with hf'
    subst hf'
    refine⟨⟨_,g1,by simpa using e2,by simpa using e3,by simpa using e4,by simpa using e5,by simpa using e6,?_⟩,P1,F.len,F.dry,F.c1⟩
    have h5:4<cur.size:=by omega
    simp[h5]
  have HH:=Lib.hid HB1
  have HS:=Lib.hid s1
  clear s1 e2 e3 e4 e5 e6 e7 HB1 F htv
  go_enter Tryz.func274,Tryz.ntmps274
  go_wp2_with (first
    | (go_at_call 311;(with_reducible refine A.mono ?_);rintro e w ⟨rfl,rfl⟩)
    | (go_at_call 99;(with_reducible refine CL.mono ?_);rintro e w2 ⟨⟨v,rfl,o2⟩,b2⟩))
  go_ret2
  exact⟨⟨_,rfl,o2.down (Nat.le_of_eq HS.out.symm)⟩,HH.out.below b2,k1.then (Kp.of b2)⟩
end
end Go.Proofs.YtdbkocfbhpgpkaaGreat
namespace Go.Proofs.YtdbkocfbhpgpkaaGreat
open Go Go.RowKit
set_option maxRecDepth 100000
set_option maxHeartbeats 1600000
variable {Z:Nat→Prop}
theorem backward_any(A:Option Addr)(n c:Nat)(w:World):Calls Tryz.prog 258 #[.slice A n c] w fun e w'=>e=.returned (.func (.func 291) #[] #[.pointer (some ⟨w.heap.size,0,none⟩)])∧w'=w.alloc (.cells #[.slice A n c] 140):=by
  go_enter Tryz.func258,Tryz.ntmps258
  go_wp2
  go_ret
  exact⟨rfl,rfl⟩
theorem none_back(y:Value)(B c:Nat)(A:Option Addr)(w:World)(h:w.cell? ⟨B,0,none⟩=some (.slice A 0 c)):Calls Tryz.prog 291 #[y,.pointer (some ⟨B,0,none⟩)] w fun e w'=>e=.returned (.tuple #[])∧w'=w:=by
  go_enter Tryz.func291,Tryz.ntmps291
  go_wp2
  go_loopw [3] (fun i wr=>i=.int .i64 (-1)∧wr=w) (fun _ _=>0)
  case atStart=>exact⟨rfl,rfl⟩
  case round=>
    obtain⟨rfl,rfl⟩:=hrel
    go_wp2
    go_end0
    exact⟨rfl,rfl⟩
theorem range_none{P:Program}{g:Operand}{ps:Array Tmp}{assign body:Code}{Q:Exit→Act→World→Prop}{a:Act}{w:World}{gf:Nat}{lb:Array Value}(hg:a.eval g=.func (.func gf) #[] lb)
    (eg:∀ args w,(callFunc gf args).run P w=.ok (.enter gf args) w)
    (hcall:∀ (l:Nat) (W1:World),Below w.heap.size w W1→Calls P gf (#[.func (.yield l) #[] #[]]++lb) W1 fun e W2=>(∃ v,e=.returned v)∧W2=W1)
    (h:∀ (D:Nat) (W3:World),Below w.heap.size w W3→W3.heap[D]? = some (.deferred (some []))→w.heap.size≤D→Q .normal { a with defers:={ target:=.collected D,args:=#[] } :: a.defers } W3) :
    (Code.rangeFunc g ps assign body).wp P Q a w:=by
  refine(wpIn_wide (n:=5)).1 ?_
  refine wpIn_rangeFunc fun fn hfn=>?_
  obtain⟨rec,hrec⟩:∃ rec:LoopState→Option Code→Loop,rec=fun st pe=>{ state:=st,pending:=pe,fn,tmps:=a.tmps,params:=ps,assign,body,defers:=w.heap.size }:=⟨_,rfl⟩
  obtain⟨W1,hW1⟩:∃ W1,(w.alloc (.deferred (some []))).alloc (.loop (rec .ready none))=W1:=⟨_,rfl⟩
  have hL1:W1.heap[w.heap.size+1]? = some (.loop (rec .ready none)):=by
    have:=World.alloc_heap_new (w.alloc (.deferred (some []))) (.loop (rec .ready none))
    rw[World.size_alloc,hW1] at this
    exact this
  have hK1:W1.heap[w.heap.size]? = some (.deferred (some [])):=by
    have:=(Below.heap_alloc (w.alloc (.deferred (some []))) (.loop (rec .ready none)) w.heap.size (by simp)).trans (World.alloc_heap_new w _)
    rw[hW1] at this
    exact this
  have hb1:Below w.heap.size w W1:=by rw[← hW1];exact((Below.refl _ w).alloc (Nat.le_refl _) _).alloc (by simp) _
  refine⟨w.heap.size+1,[{ target:=.collected w.heap.size,args:=#[] }],W1,{ target:=.fn (.func gf) lb,args:=#[.func (.yield (w.heap.size+1)) #[] #[]] },W1,gf,
    #[.func (.yield (w.heap.size+1)) #[] #[]]++lb,W1,?_,?_,?_,?_,fun h=>by simp[Fence.wide] at h,?_⟩
  · rw[← hW1,hrec];exact run_enterLoop_outer _ _ _ _ _
  · simp only[resolve,hg];simp[go_sem]
  · intro f' hf';trivial
  · simp[invoke,go_sem,eg]
  refine callsIn_wide.2 ((hcall _ W1 hb1).mono ?_)
  rintro e W2 ⟨⟨v,rfl⟩,rfl⟩
  have hend:=run_endLoop (P:=P) hL1 (by rw[hrec];simp)
  refine⟨none,_,by rw[hend,hrec],?_⟩
  refine h _ _ ?_ ((World.putObj_heap_other (by omega)).trans hK1) (Nat.le_refl _)
  refine⟨hb1.os,hb1.tape,hb1.output,by have:=hb1.size;simpa[World.putObj] using this,fun k hk=>(World.putObj_heap_other (by omega)).trans (hb1.block k hk)⟩
theorem agg37:Go.Ev.aggN Tryz.prog 33=some none:=by kernel_rfl
theorem agg23:Go.Ev.aggN Tryz.prog 29=some none:=by kernel_rfl
theorem ret_cc{fn:Func}(h:fn.results=#[.cell 4 33,.cell 5 29]){tmps:Array Value}{w:World}{x y:Nat}{u v:Value}(h1:tmps.getD 4 undef=.pointer (some ⟨x,0,none⟩))(h2:tmps.getD 5 undef=.pointer (some ⟨y,0,none⟩))
    (c1:w.cell? ⟨x,0,none⟩=some u) (c2:w.cell? ⟨y,0,none⟩=some v):(results fn tmps).run Tryz.prog w=.ok (.tuple #[u,v]) w:=by
  have l1:=Go.Ev.run_loadVar_one (P:=Tryz.prog) agg37 c1
  have l2:=Go.Ev.run_loadVar_one (P:=Tryz.prog) agg23 c2
  have ha:∀ z,asAddr (.pointer (some ⟨z,0,none⟩))=pure ⟨z,0,none⟩:=fun _=>rfl
  simp only[results,h]
  simp only[List.size_toArray,List.length_cons,List.length_nil,Sem.run_bind,Array.mapM_eq_mapM_toList]
  have h1':tmps[4]?.getD undef=.pointer (some ⟨x,0,none⟩):=by rw[← h1];simp
  have h2':tmps[5]?.getD undef=.pointer (some ⟨y,0,none⟩):=by rw[← h2];simp
  simp[Sem.run_bind,Result.andThen,h1',h2',ha,l1,l2]
theorem read_any{w:World}{n0 d db:Nat}{P:PD}(h:Dk Z w n0 d db (.slice none 0 0) P)(b:Nat)(hb:b<P.bs.length) :
    Calls Tryz.prog 213 #[.pointer (some ⟨d,0,none⟩),.int .i64 (b:Int)] w fun e w'=>(∃ g,e=.returned (.tuple #[.slice (some ⟨g,0,none⟩) 4096 4096,.int .i64 0])∧Bk Z w' (.slice (some ⟨g,0,none⟩) 4096 4096) P.bs[b])∧Below w.heap.size w w':=by
  obtain⟨W0,hW0⟩:∃ W0,((w.alloc (.cells #[.int .i64 (b:Int)] 3)).alloc (.cells #[.slice none 0 0] 33)).alloc (.cells #[.int .i64 0] 29)=W0:=⟨_,rfl⟩
  have hb0:Below w.heap.size w W0:=by rw[← hW0];exact(((Below.refl _ _).alloc (Nat.le_refl _) _).alloc (by simp) _).alloc (by simp;omega) _
  have hs0:W0.heap.size=w.heap.size+3:=by rw[← hW0];simp
  have g3:W0.heap[w.heap.size]? = some (.cells #[.int .i64 (b:Int)] 3 (0,0)):=by
    rw[← hW0]
    exact(Below.heap_alloc _ _ _ (by simp;omega)).trans ((Below.heap_alloc _ _ _ (by simp)).trans (heap_alloc_new w _))
  have g4:W0.heap[w.heap.size+1]? = some (.cells #[.slice none 0 0] 33 (0,0)):=by
    rw[← hW0]
    refine(Below.heap_alloc _ _ _ (by simp)).trans ?_
    have:=heap_alloc_new (w.alloc (.cells #[.int .i64 (b:Int)] 3)) (.cells #[.slice none 0 0] 33)
    simpa using this
  have g5:W0.heap[w.heap.size+1+1]? = some (.cells #[.int .i64 0] 29 (0,0)):=by
    rw[← hW0]
    have:=heap_alloc_new ((w.alloc (.cells #[.int .i64 (b:Int)] 3)).alloc (.cells #[.slice none 0 0] 33)) (.cells #[.int .i64 0] 29)
    simpa using this
  have h0:=h.below hb0
  have hA:=asked_any h0.box b hb
  have cb:W0.cell? ⟨w.heap.size,0,none⟩=some (.int .i64 (b:Int)):=cellD g3 0
  obtain⟨-,-,c2,c3,-⟩:=h0.box.cells
  have hB:=fun w=>backward_any none 0 0 w
  refine(callsIn_wide (n:=5)).1 ?_
  refine callsIn_of_wp_marks (F:=Fence.wide) (n:=5) Tryz.func213 rfl trivial ?_ rfl
  refine wpIn_wide.2 ?_
  simp only[Tryz.ntmps213,List.size_toArray,List.length_cons,List.length_nil,Nat.reduceAdd,Nat.reduceSub,Array.replicate_succ,Array.replicate_zero,List.push_toArray,List.append_toArray,List.nil_append,List.cons_append]
  go_wp2_with (first
    | (go_at_call 153;refine hA.mono ?_;rintro e W0 ⟨rfl,rfl⟩)
    | (go_at_call 258;refine(hB _).mono ?_;rintro e W1 ⟨rfl,hW1⟩))
  have b01:Below W0.heap.size W0 (W0.alloc (.cells #[.slice none 0 0] 140)):=(Below.refl _ _).alloc (Nat.le_refl _) _
  have cp:(W0.alloc (.cells #[.slice none 0 0] 140)).cell? ⟨w.heap.size+3,0,none⟩=some (.slice none 0 0):=World.cell?_alloc_at _ _ _ _ (by simp[hs0])
  clear hW1
  generalize W0.alloc (.cells #[.slice none 0 0] 140)=W1 at b01 cp
  refine range_none (gf:=291) (lb:=#[.pointer (some ⟨w.heap.size+3,0,none⟩)]) rfl (fun args w=>by simp[go_sem,Tryz.func291]) (fun l W2 hb2=>?_) fun D W3 hb3 hD hzD=>?_
  · refine(none_back _ _ 0 none W2 ((hb2.cell (p:=⟨w.heap.size+3,0,none⟩) ?_).trans cp)).mono ?_
    · have:=b01.size
      have:w.heap.size+3<W1.heap.size:=by
        simp only[World.cell?] at cp
        split at cp
        · rename_i hh;exact hlt hh
        all_goals cases cp
      exact this
    · rintro e w' ⟨rfl,rfl⟩;exact⟨⟨_,rfl⟩,rfl⟩
  have b03:Below W0.heap.size W0 W3:=b01.trans (hb3.mono b01.size)
  have h3:=h0.below b03
  have hz0:∀ k,k<W0.heap.size→W3.heap[k]? = W0.heap[k]?:=fun k hk=>b03.block k hk
  obtain⟨W4,hW4⟩:∃ W4,W3.drew=W4:=⟨_,rfl⟩
  have h4:Dk Z W4 n0 d db (.slice none 0 0) P:=by rw[← hW4];exact h3.below ⟨rfl,rfl,rfl,Nat.le_refl _,fun _ _=>rfl⟩
  have e4:W4.heap=W3.heap:=by rw[← hW4];rfl
  have b34:Below W3.heap.size W3 W4:=by rw[← hW4];exact⟨rfl,rfl,rfl,Nat.le_refl _,fun _ _=>rfl⟩
  have b04:Below w.heap.size w W4:=hb0.trans ((b03.trans (b34.mono b03.size)).mono (by omega))
  have c1':=h4.box.cells.2.1
  have cb':W4.cell? ⟨w.heap.size,0,none⟩=some (.int .i64 (b:Int)):=by simp[World.cell?,e4,hz0 w.heap.size (by omega),g3]
  obtain⟨cs,hr1,hr2,hr3⟩:=h4.row
  obtain⟨u,hu,hd⟩:=hr3 b hb
  have cu:W4.cell? ⟨db,b,none⟩=some u:=(cellD hr1 b).trans hu
  have W:=whole_db hd h4.wet
  have g4':W4.heap[w.heap.size+1]? = some (.cells #[.slice none 0 0] 33 (0,0)):=by rw[e4,hz0 _ (by omega)];exact g4
  have g5':W4.heap[w.heap.size+1+1]? = some (.cells #[.int .i64 0] 29 (0,0)):=by rw[e4,hz0 _ (by omega)];exact g5
  have hD4:W4.heap[D]? = some (.deferred (some [])):=by rw[e4];exact hD
  have hDz:w.heap.size+3≤D:=by have:=b01.size;omega
  have hz4:w.heap.size+1+1<W4.heap.size:=hlt g5'
  go_wp2
  refine stillW 7 (by kernel_rfl) (by kernel_rfl) W4 hW4 ?_
  simp only[List.take_succ_cons,List.take_zero,List.drop_succ_cons,List.drop_zero]
  repeat still_step
  refine wpStill_nil ?_
  go_wp2_with (go_at_call 140;refine W.mono ?_;rintro e W5 ⟨⟨u1,rfl,hB,g,rfl,hg⟩,hb5⟩;have q4:=(hb5.block _ (by omega)).trans g4';have q5:=(hb5.block _ hz4).trans g5';have hD5:=(hb5.block _ (hlt hD4)).trans hD4;have z4:=frozenD q4 0;have z5:=frozenD q5 0;have k4:=cellD q4 0;have k5:=cellD q5 0)
  have q6:(W5.setCell ⟨w.heap.size+1,0,none⟩ (.slice (some ⟨g,0,none⟩) 4096 4096)).heap[w.heap.size+1]? = some (.cells #[.slice (some ⟨g,0,none⟩) 4096 4096] 33 (0,0)):=by rw[heap_setCell_same W5 _ 0 _ _ _ q4];rfl
  have b6:∀ k,k≠w.heap.size+1→(W5.setCell ⟨w.heap.size+1,0,none⟩ (.slice (some ⟨g,0,none⟩) 4096 4096)).heap[k]? = W5.heap[k]?:=fun k hk=>Below.heap_setCell W5 _ _ k hk
  have s6:(W5.setCell ⟨w.heap.size+1,0,none⟩ (.slice (some ⟨g,0,none⟩) 4096 4096)).heap.size=W5.heap.size:=by simp
  have B6:Below w.heap.size w (W5.setCell ⟨w.heap.size+1,0,none⟩ (.slice (some ⟨g,0,none⟩) 4096 4096)):=(b04.trans (hb5.mono (by omega))).setCell (by simp) _
  generalize W5.setCell ⟨w.heap.size+1,0,none⟩ (.slice (some ⟨g,0,none⟩) 4096 4096)=W6 at *
  have q7:(W6.setCell ⟨w.heap.size+1+1,0,none⟩ (.int .i64 0)).heap[w.heap.size+1+1]? = some (.cells #[.int .i64 0] 29 (0,0)):=by rw[heap_setCell_same W6 _ 0 _ _ _ ((b6 _ (by omega)).trans q5)];rfl
  have b7:∀ k,k≠w.heap.size+1+1→(W6.setCell ⟨w.heap.size+1+1,0,none⟩ (.int .i64 0)).heap[k]? = W6.heap[k]?:=fun k hk=>Below.heap_setCell W6 _ _ k hk
  have B7:Below w.heap.size w (W6.setCell ⟨w.heap.size+1+1,0,none⟩ (.int .i64 0)):=B6.setCell (by simp;omega) _
  generalize W6.setCell ⟨w.heap.size+1+1,0,none⟩ (.int .i64 0)=W7 at *
  have hD7:W7.heap[D]? = some (.deferred (some [])):=by rw[b7 _ (by omega),b6 _ (by omega)];exact hD5
  have k4':W7.cell? ⟨w.heap.size+1,0,none⟩=some (.slice (some ⟨g,0,none⟩) 4096 4096):=by simp[World.cell?,b7 _ (show w.heap.size+1≠w.heap.size+1+1 by omega),q6]
  have k5':W7.cell? ⟨w.heap.size+1+1,0,none⟩=some (.int .i64 0):=cellD q7 0
  have hgz:W4.heap.size≤g:=hg
  have hBk:Bk Z W7 (.slice (some ⟨g,0,none⟩) 4096 4096) P.bs[b]:=by
    obtain⟨g',e,hh,hl⟩:=hB
    cases e
    exact⟨g,rfl,(b7 _ (by omega)).trans ((b6 _ (by omega)).trans hh),hl⟩
  have hDl:=hlt hD7
  have kk:∀ (k:Nat) (hk:k≠D),(W7.putObj D (.deferred none)).heap[k]? = W7.heap[k]?:=fun k hk=>World.putObj_heap_other hk
  refine⟨by simp,.inl ⟨_,_,rfl,run_takeDeferred hD7,?_⟩⟩
  refine⟨_,ret_cc rfl rfl rfl (u:=.slice (some ⟨g,0,none⟩) 4096 4096) (v:=.int .i64 0) ?_ ?_,⟨⟨g,rfl,?_⟩,?_⟩⟩
  · simp only[World.cell?,kk _ (show w.heap.size+1≠D by omega)];exact k4'
  · simp only[World.cell?,kk _ (show w.heap.size+1+1≠D by omega)];exact k5'
  · obtain⟨g',e,hh,hl⟩:=hBk
    cases e
    refine⟨g,rfl,(kk _ ?_).trans hh,hl⟩
    rintro rfl
    rw[hD7] at hh;cases hh
  · exact⟨B7.os,B7.tape,B7.output,by have:=B7.size;simpa[World.putObj] using this,fun k hk=>(kk _ (by omega)).trans (B7.block k hk)⟩
end Go.Proofs.YtdbkocfbhpgpkaaGreat
namespace Go.Proofs.YtdbkocfbhpgpkaaGreat
open Go Go.RowKit
set_option maxRecDepth 100000
set_option maxHeartbeats 1600000
theorem infoF:(Tryz.prog.info? 364).map (fun i=>(i.zero,i.size,i.bytes))=some (some (.agg #[.int .i64 0,.slice none 0 0,.int .i64 0,.bool false,.bool false]),5,48):=by kernel_rfl
theorem Own.tagm{w:World}{B:Nat}{v:Value}{l:List UInt8}(h:Own w B v l){g:Nat}{m:List (Int×Value)}(hm:MapI w g m):v.ownBlock≠some g:=fun e=>by
  rcases h.2 with⟨rfl,_⟩|⟨b,cap,cur,rfl,_,hb,_⟩
  · simp[Value.ownBlock] at e
  · simp only[Value.ownBlock,Option.some.injEq] at e
    subst e
    obtain⟨E,c,h1,_⟩:=hm
    rw[hb] at h1;cases h1
theorem news5{w:World}{g:Nat}{a0 a1 a2 a3 a4:Value}{t:TypeId}(h:w.heap[g]? = some (.cells #[a0,a1,a2,a3,a4] t (0,0))):∀ (j:Nat) (u:Value),[a0,a1,a2,a3,a4][j]? = some u→w.cell? ((⟨g,0,none⟩:Addr).add j)=some u:=fun j u hj=>by
  have:((⟨g,0,none⟩:Addr).add j)=⟨g,j,none⟩:=by unfold Addr.add;split<;>simp_all
  rw[this,cellD h]
  simpa using hj
theorem hold_fin{Z:Nat→Prop}{w W3 w4:World}{p d m pb pc g4 c4:Nat}{R:PR}{l:List UInt8}{o:Obj}(h:PB Z w p d m R)(hO:Own w 0 (.slice (some ⟨pb,0,none⟩) 4080 pc) l)(hl:l.length=4080)(hz:¬Z pb)
    (k3:Kp (·=m) w W3) (m3:MapI W3 m [(1,.int .i64 0)]) (own4:w4.ownsRow 0 364 5 (.slice (some ⟨g4,0,none⟩) 1 c4) 1 [.int .i64 1,.slice (some ⟨pb,0,none⟩) 4080 pc,.int .i64 0,.bool false,.bool true])
    (grow4:(W3.drew.alloc o).grownBy w4 none) (at4:(none:Option Nat)=some g4∨g4=(W3.drew.alloc o).heap.size) :
    ∃ fr c,PB Z (w4.setCell ⟨p,8,none⟩ (.slice (some ⟨g4,0,none⟩) 1 c4)) p d m { R with held:=some ⟨fr,c,.slice (some ⟨pb,0,none⟩) 4080 pc,l,0,false⟩ }∧w.heap.size≤fr∧Kp (fun k=>k=p∨k=m) w (w4.setCell ⟨p,8,none⟩ (.slice (some ⟨g4,0,none⟩) 1 c4)):=by
  have hpm:p≠m:=fun e=>h.map.ne h.box e.symm
  have b4:Below W3.heap.size W3 (W3.drew.alloc o):=(below_drew W3).alloc (Nat.le_refl _) o
  have k4:Kp (·=m) w w4:=(k3.then (Kp.of b4)).then ((Kp.grow grow4).weaken fun k e=>by cases e)
  have h4:=k4.keep h.box hpm
  obtain⟨W5,hW5,g5,k5,s5⟩:=set_name 8 h4 (.slice (some ⟨g4,0,none⟩) 1 c4)
  rw[hW5]
  have hg:g4=W3.heap.size+1:=by
    rcases at4 with e|e
    · cases e
    · rw[e];simp
  have hgw:w.heap.size≤g4:=by have:=k3.size;omega
  have m4:MapI w4 m [(1,.int .i64 0)]:=(m3.below b4).kp (Kp.grow grow4) (fun e=>by cases e)
  obtain⟨-,⟨e,-⟩|⟨g',cap,cur,e,-,hc,h1c,hcm,hcs,htk⟩⟩:=own4
  · cases e
  injection e with e1 e2 e3
  injection e1 with e1
  injection e1 with e1
  subst e1 e3
  have hgp:g4≠p:=tag_ne hc h4 (by decide)
  have P5:=(hO.kp k4 (fun k q1 q2=>by
      simp only[Value.ownBlock,Option.some.injEq] at q1
      subst q1 q2
      exact hO.tagm h.map rfl)).kp k5 (fun k q1 q2=>by
      rw[q2] at q1
      exact(hO.kp k4 (fun k q1 q2=>by
        simp only[Value.ownBlock,Option.some.injEq] at q1
        subst q1 q2
        exact hO.tagm h.map rfl)).tag h4 (by decide) q1)
  have hat:∀ k,k<5→cur[k]? = ([Value.int .i64 1,.slice (some ⟨pb,0,none⟩) 4080 pc,.int .i64 0,.bool false,.bool true])[k]?:=fun k hk=>by
    have:=congrArg (fun l=>l[k]?) htk
    simp only[List.getElem?_take,if_pos (show k<1 * 5 by omega),Array.getElem?_toList] at this
    exact this
  have hsz:5≤cur.size:=by
    have:=congrArg List.length htk
    simp at this
    omega
  refine⟨g4,c4,⟨?_,m4.kp k5 (fun e=>hpm e.symm),fun f hf=>?_,h.pg⟩,hgw,(k4.weaken fun k e=>.inr e).then (k5.weaken fun k e=>.inl e)⟩
  · rw[g5];rfl
  · injection hf with hf
    subst hf
    exact⟨⟨cur,k5.keep hc hgp,⟨hsz,hcs,hcm⟩,hat 0 (by omega),hat 1 (by omega),hat 2 (by omega),hat 3 (by omega),hat 4 (by omega)⟩,P5,hl,fun k e=>by
      simp only[Value.ownBlock,Option.some.injEq] at e
      subst e;exact hz,h1c⟩
theorem hold_any{Z:Nat→Prop}{w:World}{p d m pb pc:Nat}{R:PR}{l:List UInt8}(h:PB Z w p d m R)(hh:R.held=none)(hO:Own w 0 (.slice (some ⟨pb,0,none⟩) 4080 pc) l)(hl:l.length=4080)(hz:¬Z pb) :
    Calls Tryz.prog 312 #[.pointer (some ⟨p,0,none⟩),.agg #[.int .i64 1,.slice (some ⟨pb,0,none⟩) 4080 pc,.int .i64 0,.bool false,.bool true]] w fun e w'=>e=.returned (.int .i64 0) ∧
      ∃ fr c,PB Z w' p d m { R with held:=some ⟨fr,c,.slice (some ⟨pb,0,none⟩) 4080 pc,l,0,false⟩ }∧w.heap.size≤fr∧Kp (fun k=>k=p∨k=m) w w':=by
  have htv:R.tv=.slice none 0 0:=by unfold PR.tv;rw[hh]
  have hm0:MapI w m []:=by have:=h.map;unfold PR.m at this;rw[hh] at this;exact this
  obtain⟨W1,hW1,g1,b1,s1⟩:=box_alloc w (.cells #[.int .i64 1,.slice (some ⟨pb,0,none⟩) 4080 pc,.int .i64 0,.bool false,.bool true] 364)
  have h1:=h.below b1
  have c8:W1.cell? ⟨p,8,none⟩=some (.slice none 0 0):=(cellD h1.box 8).trans (congrArg some htv)
  have c4:W1.cell? ⟨p,4,none⟩=some (.int .i64 (R.nf:Int)):=cellD h1.box 4
  have f4:(0:Int)<(R.nf:Int):=by have:=h.pg;omega
  have f4':0<R.nf:=by have:=h.pg;omega
  have HS1:=Lib.hid s1
  clear s1
  go_enter Tryz.func312,Tryz.ntmps312
  go_upto_region 1 with fail
  go_quiet (fail)
  go_upto_region 2 with fail
  obtain⟨W2,hW2,e2,b2'⟩:=drew_name (W1.drewN nq)
  have b2:Below W1.heap.size W1 W2:=(drewN_below W1 _ nq).trans b2'
  have h2:=h1.below b2
  have g2:=keepB b2 g1
  have m2:=(hm0.below b1).below b2
  obtain⟨W3,hU,m3,o3,s3,os3,t3,u3⟩:=run_update_int (P:=Tryz.prog) Tryz.underlying252 Tryz.underlying3 m2 1 (.int .i64 0)
  have c9:W2.cell? ⟨p,9,none⟩=some (.map (some m)):=cellD h2.box 9
  have c8':W2.cell? ⟨p,8,none⟩=some (.slice none 0 0):=(cellD h2.box 8).trans (congrArg some htv)
  have k0:W2.cell? ⟨w.heap.size,0,none⟩=some (.int .i64 1):=cellD g2 0
  have HS3:=Lib.hid s3
  clear c8 c4 e2 s3
  refine stillW 11 (by kernel_rfl) (by kernel_rfl) W2 hW2 ?_
  simp only[List.take_succ_cons,List.take_zero,List.drop_succ_cons,List.drop_zero]
  repeat still_step
  refine wpStill_nil ?_
  go_upto_region 3 with fail
  have hpm:p≠m:=fun e=>m2.ne h2.box e.symm
  have hwm:w.heap.size≠m:=fun e=>by have:=hm0.lt;omega
  have h3:W3.heap[p]? = some (.cells (pV p d m R) 318 (0,0)):=(o3 p hpm).trans h2.box
  have g3:W3.heap[w.heap.size]? = some _:=(o3 _ hwm).trans g2
  have k3:Kp (·=m) W2 W3:=⟨os3,t3,u3,Nat.le_of_eq HS3.out.symm,fun k _ hk=>o3 k hk⟩
  clear hU c9 c8' k0 b2' os3 t3 u3
  obtain⟨o5,ho5⟩:∃ o:Obj,o=.cells #[.int .i64 1,.slice (some ⟨pb,0,none⟩) 4080 pc,.int .i64 0,.bool false,.bool true] 364:=⟨_,rfl⟩
  have hd:W3.drew.heap[p]? = some (.cells (pV p d m R) 318 (0,0)):=h3
  have hdg:W3.drew.heap[w.heap.size]? = some (.cells #[.int .i64 1,.slice (some ⟨pb,0,none⟩) 4080 pc,.int .i64 0,.bool false,.bool true] 364 (0,0)):=g3
  have y8:W3.drew.cell? ⟨p,8,none⟩=some (.slice none 0 0):=(cellD hd 8).trans (congrArg some htv)
  have y8':∀ o,(W3.drew.alloc o).cell? ⟨p,8,none⟩=some (.slice none 0 0):=fun o=>(World.cell?_alloc_lt W3.drew o ⟨p,8,none⟩ (hlt hd)).trans y8
  have y9:W3.cell? ⟨p,8,none⟩=some (.slice none 0 0):=y8
  have y9':∀ o,(W3.alloc o).cell? ⟨p,8,none⟩=some (.slice none 0 0):=y8'
  have q0:W3.drew.cell? ⟨w.heap.size,0,none⟩=some (.int .i64 1):=cellD hdg 0
  have q1:W3.drew.cell? ⟨w.heap.size,1,none⟩=some (.slice (some ⟨pb,0,none⟩) 4080 pc):=cellD hdg 1
  have q2:W3.drew.cell? ⟨w.heap.size,2,none⟩=some (.int .i64 0):=cellD hdg 2
  have q3:W3.drew.cell? ⟨w.heap.size,3,none⟩=some (.bool false):=cellD hdg 3
  have q4:W3.drew.cell? ⟨w.heap.size,4,none⟩=some (.bool true):=cellD hdg 4
  obtain⟨i0,hi,hz0,hs0,hb0⟩:=info_parts infoF
  have NW:=Lib.hid (news5 (heap_alloc_new W3.drew (.cells #[.int .i64 1,.slice (some ⟨pb,0,none⟩) 4080 pc,.int .i64 0,.bool false,.bool true] 364)))
  have one5:∀ u∈[Value.int .i64 1,.slice (some ⟨pb,0,none⟩) 4080 pc,.int .i64 0,.bool false,.bool true],u.oneCell'=true:=by
    intro u hu
    simp at hu
    rcases hu with rfl|rfl|rfl|rfl|rfl<;>rfl
  have O5:=Lib.hid one5
  clear one5
  go_region_law
    (first
      | (refine step_append_lies _ rfl (.tmp 32) (.tmp 34) 316 rfl 0 364 i0 _ 5 48 Tryz.underlying316 hi hz0 hs0 hb0 rfl (by decide) (.slice none 0 0) 0 [] rfl ?_ ⟨W3.heap.size, 0, none⟩ 1 1 [.int .i64 1, .slice (some ⟨pb, 0, none⟩) 4080 pc, .int .i64 0, .bool false, .bool true] rfl rfl NW.out O5.out (by decide) ?_ ?_ (Nat.zero_le _) _ rfl ?_
         · exact World.ownsRow_nil _ _ _ _
         · decide
         · decide
         intro g4 c4 w4 own4 grow4 at4 lt4
         have h4:=(grow4.block p (Nat.lt_of_lt_of_le (hlt hd) (by simp)) (fun e=>by cases e)).trans ((Below.heap_alloc W3.drew _ p (hlt hd)).trans hd)
         have d8:w4.cell? ⟨p,8,none⟩=some R.tv:=cellD h4 8
         have z8:w4.frozen? ⟨p,8,none⟩=false:=frozenD h4 8))
  all_goals
    have FIN:=hold_fin h hO hl hz (((Kp.of b1).then (Kp.of b2)).then k3) m3 own4 grow4 at4
    have HF:=Lib.hid FIN
    clear FIN
    go_wp2
    go_ret
    exact⟨rfl,HF.out⟩
theorem sealed_a{l:List UInt8}{s:Nat}:sub (sealed l s) 0 8=le 8 s:=by
  unfold sub sealed
  rw[List.drop_zero,List.append_assoc,List.take_left' (by simp[le_len])]
theorem sealed_m{l:List UInt8}{s:Nat}(h:l.length=4080):sub (sealed l s) 8 4080=l:=by
  unfold sub sealed
  rw[List.append_assoc,List.drop_left' (by simp[le_len]),List.take_left' h]
theorem sealed_z{l:List UInt8}{s:Nat}(h:l.length=4080):sub (sealed l s) 4088 8=le 8 s:=by
  unfold sub sealed
  rw[List.drop_left' (by simp[le_len,h]),List.take_of_length_le (by simp[le_len])]
theorem pget0_any{Z:Nat→Prop}{w:World}{p d m n0 db s:Nat}{R:PR}{P:PD}{l:List UInt8}(h:PB Z w p d m R)(hh:R.held=none)(D:Dk Z w n0 d db (.slice none 0 0) P)(hb:R.base+1<P.bs.length)(hB:R.base≤100000)(hp:P.bs[R.base+1]? = some (sealed l s))(hl:l.length=4080) :
    Calls Tryz.prog 274 #[.pointer (some ⟨p,0,none⟩),.int .i64 1] w fun e w'=>(∃ v,e=.returned (.tuple #[v,.int .i64 0])∧Own w' w.heap.size v l)∧(∃ f,PB Z w' p d m { R with held:=some f }∧f.bytes=l∧f.lsn=0∧f.dirty=false∧w.heap.size≤f.fr∧∀ k,f.pv.ownBlock=some k→w.heap.size≤k)∧Kp (fun k=>k=p∨k=m) w w':=by
  have hm0:MapI w m []:=by have:=h.map;unfold PR.m at this;rw[hh] at this;exact this
  have L:=lookP hm0 1
  have A:=pasked_any h
  have c9:w.cell? ⟨p,9,none⟩=some (.map (some m)):=cellD h.box 9
  have hpb:P.bs[R.base+1]=sealed l s:=by rw[List.getElem?_eq_getElem hb] at hp;injection hp
  have RD:=read_any (w:=w.drew) (D.below (below_drew w)) (R.base+1) hb
  rw[hpb] at RD
  have f0:IntKind.i64.wrap ((R.base:Int)+1)=(R.base:Int)+1:=by rw[IntKind.wrap_i64];omega
  rw[show((R.base+1:Nat):Int)=(R.base:Int)+1 from rfl] at RD
  have c1:w.drew.cell? ⟨p,1,none⟩=some (.pointer (some ⟨d,0,none⟩)):=cellD (w:=w.drew) h.box 1
  have c2:w.drew.cell? ⟨p,2,none⟩=some (.int .i64 (R.base:Int)):=cellD (w:=w.drew) h.box 2
  have kk:=And.intro c1 c2
  have KK:∀ w2,Below w.drew.heap.size w.drew w2→w2.cell? ⟨p,1,none⟩=some (.pointer (some ⟨d,0,none⟩))∧w2.cell? ⟨p,2,none⟩=some (.int .i64 (R.base:Int)):=fun w2 b=>⟨cellD (keepB b h.box) 1,cellD (keepB b h.box) 2⟩
  go_enter Tryz.func274,Tryz.ntmps274
  go_upto_region 8 with (go_at_call 311;(with_reducible refine A.mono ?_);rintro e w ⟨rfl,rfl⟩)
  go_region_held3 (fun w'=>w'.cell? ⟨p,1,none⟩=some (.pointer (some ⟨d,0,none⟩))∧w'.cell? ⟨p,2,none⟩=some (.int .i64 (R.base:Int)))
    (first | with_reducible exact kk | with_reducible exact kk2 | go_keep)
    (first
      | (go_at_call 213;(with_reducible refine RD.mono ?_);rintro e w2 ⟨⟨g,rfl,B2⟩,b2⟩;have kk2:=KK w2 b2)
      | fail)
  all_goals
    obtain⟨g',e0,hg',hlen,hzg⟩:=B2
    injection e0 with e0
    injection e0 with e0
    injection e0 with e0
    subst e0
    have r2:Rd w2 w2.heap.size (some ⟨g,0,none⟩) (sealed l s):=fun _=>⟨g,0,rfl,hlt hg',fun k hk=>by
      rw[Nat.zero_add,cellD hg']
      simp[hk]⟩
    have OP:=open_any g 0 4096 (sealed l s) w2 r2 hlen (Nat.le_refl _)
    rw[sealed_a,sealed_m hl,sealed_z hl] at OP
    have bw2:Below w.heap.size w w2:=(below_drew w).trans b2
    have h2:=h.below bw2
    clear A L c1 c2 kk kk2 KK RD r2
    go_upto_region 14 with (go_at_call 259;(with_reducible refine OP.mono ?_);rintro e w3 ⟨⟨-,A3,c3,rfl,o3⟩ | ⟨hne,-⟩,b3⟩)
    all_goals first | exact absurd rfl hne | skip
    obtain⟨q3,hq3⟩:∃ q3,A3=some ⟨q3,0,none⟩:=by
      rcases o3.form with⟨e,e2⟩|⟨q,cp,e,-⟩
      · rw[e2] at hl;cases hl
      · injection e with e;exact⟨q,e⟩
    subst hq3
    have hq3w:w2.heap.size≤q3:=o3.blk q3 rfl
    have hzq:¬Z q3:=fun hz=>by have:=D.wet q3 hz;have:=bw2.size;omega
    have HO:=hold_any (R:=R) (h2.below b3) hh (o3.down (Nat.zero_le _)) hl hzq
    have bw3:=bw2.trans (b3.mono bw2.size)
    clear OP h2
    go_upto_region 17 with (go_at_call 312;(with_reducible refine HO.mono ?_);rintro e w4 ⟨rfl,fr,c4,H4,hfr,k4⟩)
    have F4:=(H4.fr _ rfl).pay
    obtain⟨A5,c5,e5,-,-,r5⟩:=F4.sl hl
    injection e5 with e5 e6 e7
    subst e5 e7
    have CL:=clone_any q3 0 c3 4080 l w4 r5 hl.symm (by omega) (by omega)
    have z4:w.heap.size≤w4.heap.size:=Nat.le_trans bw3.size k4.size
    clear HO F4
    go_wp2_with (go_at_call 99;(with_reducible refine CL.mono ?_);rintro e w5 ⟨⟨v,rfl,o5⟩,b5⟩)
    go_ret2
    refine⟨⟨_,rfl,o5.down z4⟩,⟨_,H4.below b5,rfl,rfl,rfl,Nat.le_trans bw3.size hfr,fun k e=>?_⟩,((Kp.of bw3).then k4).then (Kp.of b5)⟩
    simp only[Value.ownBlock,Option.some.injEq] at e
    subst e
    exact Nat.le_trans bw2.size hq3w
theorem pnew_any{Z:Nat→Prop}{w:World}{n0 d db base pages ep q nf:Nat}{pv:Value}{P:PD}{fn:Fn}{fa ca:Array Value}(D:Dk Z w n0 d db pv P)(h1:2≤pages)(h2:base+pages≤P.bs.length)(hP:P.bs.length≤10000)(h4:1≤ep)(h5:ep≤1000000)(h6:q≤1000000)(h7:2≤nf)(h8:nf≤200) :
    Calls Tryz.prog 157 #[.pointer (some ⟨d,0,none⟩),.int .i64 (base:Int),.int .i64 (pages:Int),.int .i64 (nf:Int),.int .i64 (ep:Int),.int .i64 (q:Int),.func fn fa ca] w fun e w'=>(∃ p m,e=.returned (.tuple #[.pointer (some ⟨p,0,none⟩),.int .i64 0])∧PB Z w' p d m ⟨base,pages,ep,q,.func fn fa ca,none,nf⟩∧w.heap.size≤p∧w.heap.size≤m)∧Below w.heap.size w w':=by
  have B0:=blocks_any D.box
  obtain⟨N,hN⟩:∃ N,P.bs.length=N:=⟨_,rfl⟩
  rw[hN] at B0 h2 hP
  have hp0:((N:Int)==0)=false:=by simp;omega
  have q1:¬(base:Int)<0:=by omega
  have q2:decide ((pages:Int)<1)=false:=by simp;omega
  have q3:decide ((N:Int)<(base:Int))=false:=by simp;omega
  have q4:decide ((N:Int)-(base:Int)<(pages:Int))=false:=by simp;omega
  have q5:decide ((ep:Int)<1)=false:=by simp;omega
  have q6:decide ((4294967295:Int)<(ep:Int))=false:=by simp;omega
  have q7:decide ((q:Int)<0)=false:=by simp
  have q9:decide ((nf:Int)<2)=false:=by simp;omega
  have q10:decide ((256:Int)<(nf:Int))=false:=by simp;omega
  have q8:decide ((4294967295:Int)<(q:Int))=false:=by simp;omega
  obtain⟨W1,hW1,g1,b1,s1⟩:=box_alloc w (.map #[] 0)
  have m1:MapI W1 w.heap.size []:=by rw[← hW1];exact⟨#[],0,heap_alloc_new _ _,rfl,MapKept.stamped_empty 0⟩
  obtain⟨W2,hW2,g2,b2,s2⟩:=box_alloc W1 (.cells #[.pointer none,.pointer (some ⟨d,0,none⟩),.int .i64 (base:Int),.int .i64 (pages:Int),.int .i64 (nf:Int),.int .i64 (ep:Int),.func fn fa ca,.bool false,.slice none 0 0,.map (some w.heap.size),.int .i64 0,.int .i64 0] 318)
  obtain⟨W3,hW3,g3,k3,s3⟩:=set_name 0 g2 (.pointer (some ⟨W1.heap.size,0,none⟩))
  have c0:W2.cell? ⟨W1.heap.size,0,none⟩=some (.pointer none):=cellD g2 0
  have z0:W2.frozen? ⟨W1.heap.size,0,none⟩=false:=frozenD g2 0
  have c11:W3.cell? ⟨W1.heap.size,11,none⟩=some (.int .i64 0):=cellD g3 11
  have ST:=Store_any (q:Int) c11 (frozenD g3 11)
  obtain⟨W4,hW4,g4,k4,s4⟩:=set_name 11 g3 (.int .i64 (q:Int))
  rw[hW4] at ST
  have HS1:=Lib.hid s1
  have HS2:=Lib.hid s2
  have HH:=Lib.hid hW4
  have hN2:N≤10000:=hP
  clear s1 s2 s3 s4 hW4
  have hmm:=@run_makeMap Tryz.prog
  go_enter Tryz.func157,Tryz.ntmps157
  go_wp2_with (first
    | (go_at_call 129;(with_reducible refine B0.mono ?_);rintro e w ⟨rfl,rfl⟩)
    | (go_at_call 142;(with_reducible refine ST.mono ?_);rintro e w5 ⟨rfl,rfl⟩))
  go_ret2
  refine⟨⟨_,_,rfl,⟨?_,?_,fun f hf=>(nomatch hf),h1,h7⟩,b1.size,Nat.le_refl _⟩,((b1.trans (b2.mono b1.size)).trans (k3.below (Nat.le_trans b1.size b2.size) fun k hk e=>by have:=b1.size;omega)).trans (k4.below ?_ fun k hk e=>by have:=b1.size;omega)⟩
  · rw[g4];rfl
  · exact(((m1.below b2).kp k3 ((m1.below b2).ne g2)).kp k4 (((m1.below b2).kp k3 ((m1.below b2).ne g2)).ne g3))
  · exact Nat.le_trans (Nat.le_trans b1.size b2.size) k3.size
end Go.Proofs.YtdbkocfbhpgpkaaGreat
