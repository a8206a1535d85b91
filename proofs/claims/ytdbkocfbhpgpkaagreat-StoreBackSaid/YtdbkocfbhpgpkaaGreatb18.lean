/-
  store.ahead where the log is synced; pool.ask.
-/
import Derived.Test.YtdbkocfbhpgpkaaGreatb09
import Derived.Test.YtdbkocfbhpgpkaaGreatb11
import Derived.Defers
import Derived.Recover
set_option linter.unusedVariables false
set_option linter.unusedSimpArgs false
namespace Go.Proofs.YtdbkocfbhpgpkaaGreat
open Go Go.RowKit
set_option maxRecDepth 100000
set_option maxHeartbeats 1600000
def FR.turn(f:FR)(pv:Value)(l:List UInt8)(lsn:Nat)(dirty:Bool):FR:={ f with pv:=pv,bytes:=l,lsn:=lsn,dirty:=dirty }
theorem szF:Go.Ev.szOf Tryz.prog 364=some 5:=by kernel_rfl
theorem pset_any{Z:Nat→Prop}{w:World}{p d m lsn b o c:Nat}{R:PR}{f:FR}{l:List UInt8}(h:PB Z w p d m R)(hf:R.held=some f)(hr:Rd w w.heap.size (some ⟨b,o,none⟩) l)(hl:l.length=4080)(hz:∀ k,Z k→k<w.heap.size) :
    Calls Tryz.prog 290 #[.pointer (some ⟨p,0,none⟩),.int .i64 1,.slice (some ⟨b,o,none⟩) 4080 c,.int .i64 (lsn:Int)] w fun e w'=>e=.returned (.int .i64 0)∧(∃ pv,PB Z w' p d m { R with held:=some (f.turn pv l lsn true) }∧∀ k,pv.ownBlock=some k→w.heap.size≤k)∧Kp (·=f.fr) w w':=by
  have F:=h.fr f hf
  obtain⟨cur,e1,e2,e3,e4,e5,e6,e7⟩:=F.row
  have hm:MapI w m [(1,.int .i64 0)]:=by have:=h.map;unfold PR.m at this;rw[hf] at this;exact this
  have A:=pasked_any h
  have CL:=clone_any b o c 4080 l w hr hl.symm (by omega) (by omega)
  have htv:R.tv=.slice (some ⟨f.fr,0,none⟩) 1 f.c:=by unfold PR.tv;rw[hf]
  have f1:decide ((lsn:Int)<0)=false:=by simp
  go_enter Tryz.func290,Tryz.ntmps290
  go_upto_region 6 with (go_at_call 311;(with_reducible refine A.mono ?_);rintro e w ⟨rfl,rfl⟩)
  go_upto_region 7 with (go_at_call 99;(with_reducible refine CL.mono ?_);rintro e w2 ⟨⟨v,rfl,o2⟩,b2⟩;obtain⟨A2,c2,rfl,-,-,-⟩:=o2.sl hl)
  obtain⟨W3,hW3,g3,b3,s3⟩:=box_alloc w2 (.cells #[.int .i64 1,.slice A2 4080 c2,.int .i64 (lsn:Int),.bool true,.bool true] 364)
  rw[hW3]
  have b13:=b2.trans (b3.mono b2.size)
  have h3:=h.below b13
  have L:=lookP (hm.below b13) 1
  have c9:W3.cell? ⟨p,9,none⟩=some (.map (some m)):=cellD h3.box 9
  have HS3:=Lib.hid s3
  clear s3 A CL f1
  go_upto_region 9 with fail
  obtain⟨W4,hW4,e4',b4⟩:=drew_name W3
  have b14:=b13.trans (b4.mono b13.size)
  have h4:=h.below b14
  have g4:=keepB b4 g3
  have c8:W4.cell? ⟨p,8,none⟩=some (.slice (some ⟨f.fr,0,none⟩) 1 f.c):=(cellD h4.box 8).trans (congrArg some htv)
  have q0:W4.cell? ⟨w2.heap.size,0,none⟩=some (.int .i64 1):=cellD g4 0
  have q1:W4.cell? ⟨w2.heap.size,1,none⟩=some (.slice A2 4080 c2):=cellD g4 1
  have q2:W4.cell? ⟨w2.heap.size,2,none⟩=some (.int .i64 (lsn:Int)):=cellD g4 2
  have q3:W4.cell? ⟨w2.heap.size,3,none⟩=some (.bool true):=cellD g4 3
  have q4:W4.cell? ⟨w2.heap.size,4,none⟩=some (.bool true):=cellD g4 4
  have gF:W4.heap[f.fr]? = some (.cells cur 364 (0,0)):=keepB b14 e1
  clear e4' c9 L
  refine stillW 7 (by kernel_rfl) (by kernel_rfl) W4 hW4 ?_
  simp only[List.take_succ_cons,List.take_zero,List.drop_succ_cons,List.drop_zero]
  repeat still_step
  refine wpStill_nil ?_
  go_wp2_with (refine stV rfl 364 (.tmp 47) (.tmp 46) rfl rfl f.fr 0 rfl 5 szF cur (.agg #[.int .i64 1, .slice A2 4080 c2, .int .i64 (lsn : Int), .bool true, .bool true]) 364 gF rfl (by simpa using e2.1) rfl ?_ ?_
               · intro u hu;simp[Value.cells] at hu;rcases hu with rfl | rfl | rfl | rfl | rfl<;>rfl
               intro w5 g5 o5 b5 z5)
  go_ret
  have b50:=b5 0 (Nat.zero_le _)
  have k5:Kp (·=f.fr) W4 w5:=⟨b50.os,b50.tape,b50.output,by omega,fun k _ hk=>o5 k hk⟩
  have hpf:p≠f.fr:=tag_ne h.box e1 (by decide)
  have hmf:m≠f.fr:=h.map.ne e1
  have hlt':=hlt e1
  have hge:∀ k,(Value.slice A2 4080 c2).ownBlock=some k→w.heap.size≤k:=fun k e=>o2.blk k e
  have hpl:∀ i,i<5→(Go.Ev.putL cur (0+0) [Value.int .i64 1,.slice A2 4080 c2,.int .i64 (lsn:Int),.bool true,.bool true])[i]? = [Value.int .i64 1,.slice A2 4080 c2,.int .i64 (lsn:Int),.bool true,.bool true][i]?:=fun i hi=>by
    rw[Go.Ev.putL_get _ _ _ _ (by simpa using e2.1),if_pos (by simp;omega)]
    rfl
  have hpv:pV p d m { R with held:=some (f.turn (.slice A2 4080 c2) l lsn true) }=pV p d m R:=by simp only[pV,PR.tv,hf];rfl
  refine⟨rfl,⟨.slice A2 4080 c2,⟨by rw[hpv];exact k5.keep h4.box hpf,?_,fun f' hf'=>?_,h.pg⟩,hge⟩,(Kp.of b14).then k5⟩
  · exact(hm.below b14).kp k5 hmf
  · injection hf' with hf'
    subst hf'
    have bX:=(b3.trans (b4.mono b3.size))
    refine⟨⟨_,g5,?_,hpl 0 (by omega),hpl 1 (by omega),hpl 2 (by omega),hpl 3 (by omega),hpl 4 (by omega)⟩,((o2.belowS bX).kp k5 (fun k q1 q2=>?_)).down (Nat.zero_le _),hl,fun k q1 q2=>?_,F.c1⟩
    · refine⟨?_,by rw[Go.Ev.putL_size];exact e2.2.1,e2.2.2⟩
      have:=hpl 4 (by omega)
      have h4:4<(Go.Ev.putL cur (0+0) [Value.int .i64 1,.slice A2 4080 c2,.int .i64 (lsn:Int),.bool true,.bool true]).size:=by
        rcases Nat.lt_or_ge 4 (Go.Ev.putL cur (0+0) [Value.int .i64 1,.slice A2 4080 c2,.int .i64 (lsn:Int),.bool true,.bool true]).size with q|q
        · exact q
        · rw[Array.getElem?_eq_none q] at this;cases this
      exact h4
    · have:=hge k q1;omega
    · have:=hge k q1;have:=hz k q2;omega
theorem dirty1_any{Z:Nat→Prop}{w:World}{p d m bx:Nat}{R:PR}{f:FR}(h:PB Z w p d m R)(hf:R.held=some f)(hb:w.cell? ⟨bx,0,none⟩=some (.pointer (some ⟨p,0,none⟩))) :
    Calls Tryz.prog 271 #[.int .i64 1,.pointer (some ⟨bx,0,none⟩)] w fun e w'=>e=.returned (.bool (!f.dirty))∧Below w.heap.size w w':=by
  have F:=h.fr f hf
  obtain⟨cur,e1,e2,e3,e4,e5,e6,e7⟩:=F.row
  have hm:MapI w m [(1,.int .i64 0)]:=by have:=h.map;unfold PR.m at this;rw[hf] at this;exact this
  have htv:R.tv=.slice (some ⟨f.fr,0,none⟩) 1 f.c:=by unfold PR.tv;rw[hf]
  have c8:w.cell? ⟨p,8,none⟩=some (.slice (some ⟨f.fr,0,none⟩) 1 f.c):=(cellD h.box 8).trans (congrArg some htv)
  have c9:w.cell? ⟨p,9,none⟩=some (.map (some m)):=cellD h.box 9
  have c3:w.cell? ⟨f.fr,3,none⟩=some (.bool f.dirty):=(cellD e1 3).trans e6
  have L:∀ n,(Instr.lookup 252 (.map (some m)) (.int .i64 1) false).run Tryz.prog (w.drewN n)=.ok (.int .i64 0) (w.drewN n):=fun n=>
    run_lookup_int (P:=Tryz.prog) Tryz.underlying252 Tryz.underlying3 (hm.below (drewN_below w _ n)) 1 (zero3 _)
  have L0:=L 0
  go_enter Tryz.func271,Tryz.ntmps271
  go_upto_region 1 with fail
  go_quiet (fail)
  go_wp2
  go_ret
  exact⟨rfl,drewN_below _ _ _⟩
theorem indexD_any{Z:Nat→Prop}{w:World}{p d m bx q c:Nat}{R:PR}{f:FR}(h:PB Z w p d m R)(hf:R.held=some f)(hb:w.cell? ⟨bx,0,none⟩=some (.pointer (some ⟨p,0,none⟩)))(hq:w.cell? ⟨q,0,none⟩=some (.int .i64 1)) :
    Calls Tryz.prog 266 #[.slice (some ⟨q,0,none⟩) 1 c,.func (.func 271) #[] #[.pointer (some ⟨bx,0,none⟩)]] w fun e w'=>e=.returned (.int .i64 (if f.dirty then -1 else 0))∧Below w.heap.size w w':=by
  have E:=dirty1_any h hf hb
  cases hd:f.dirty with
  | false =>
    rw[hd] at E
    go_enter Tryz.func266,Tryz.ntmps266
    go_wp2
    go_loopw [8] (fun i wr=>i=.int .i64 0∧wr=w) (fun i _=>1)
    case atStart=>exact⟨rfl,rfl⟩
    case round=>
      obtain⟨rfl,rfl⟩:=hrel
      go_wp2_with (go_at_call 271;(with_reducible refine E.mono ?_);rintro e w2 ⟨rfl,b2⟩)
      go_ret
      exact⟨rfl,b2⟩
  | true =>
    rw[hd] at E
    go_enter Tryz.func266,Tryz.ntmps266
    go_wp2
    go_loopw [8] (fun i wr=>(i=.int .i64 0∧wr=w)∨(i=.int .i64 1∧Below w.heap.size w wr)) (fun i _=>2-(RowKit.intOf i).toNat)
    case atStart=>exact .inl ⟨rfl,rfl⟩
    case round=>
      rcases hrel with⟨rfl,rfl⟩|⟨rfl,hb2⟩
      · go_wp2_with (go_at_call 271;(with_reducible refine E.mono ?_);rintro e w2 ⟨rfl,b2⟩)
        go_roundw
        case rel=>exact .inr ⟨rfl,b2⟩
        case measure=>decide
      · go_wp2
        go_ret
        exact⟨rfl,hb2⟩
theorem deleteD_any{Z:Nat→Prop}{w:World}{p d m bx q c:Nat}{R:PR}{f:FR}{cur:Array Value}(h:PB Z w p d m R)(hf:R.held=some f)(hb:w.cell? ⟨bx,0,none⟩=some (.pointer (some ⟨p,0,none⟩)))
    (hg:w.heap[q]? = some (.cells cur 3 (0,0))) (hq:cur[0]? = some (.int .i64 1)) (hc:1≤c) :
    Calls Tryz.prog 223 #[.slice (some ⟨q,0,none⟩) 1 c,.func (.func 271) #[] #[.pointer (some ⟨bx,0,none⟩)]] w fun e w'=>e=.returned (.slice (some ⟨q,0,none⟩) (if f.dirty then 1 else 0) c)∧Kp (·=q) w w'∧(f.dirty=true→Below w.heap.size w w'):=by
  have hq0:w.cell? ⟨q,0,none⟩=some (.int .i64 1):=(cellD hg 0).trans hq
  have I:=indexD_any (c:=c) h hf hb hq0
  cases hd:f.dirty with
  | true =>
    rw[hd] at I
    go_enter Tryz.func223,Tryz.ntmps223
    go_wp2_with (go_at_call 266;(with_reducible refine I.mono ?_);rintro e w2 ⟨rfl,b2⟩)
    go_ret
    exact⟨rfl,Kp.of b2,b2⟩
  | false =>
    rw[hd] at I
    have CL:∀ w2,Below w.heap.size w w2→(Builtin.clear_ #[22] 0 #[.slice (some ⟨q,0,none⟩) 1 c]).run Tryz.prog w2=.ok (.tuple #[]) (w2.setCell ⟨q,0,none⟩ (.int .i64 0)):=fun w2 b=>by
      have hg2:=keepB b hg
      refine Lib.run_clear_slice (P:=Tryz.prog) w2 22 3 0 (.int .i64 0) Tryz.underlying22 zero3 rfl rfl q 0 1 c (by omega) (fun j hj=>?_) (fun j hj=>frozenD hg2 _)
      obtain rfl:j=0:=by omega
      show(w2.cell? ⟨q,0,none⟩).isSome=true
      rw[cellD hg2,hq];rfl
    go_enter Tryz.func223,Tryz.ntmps223
    go_wp2_with (go_at_call 266;(with_reducible refine I.mono ?_);rintro e w2 ⟨rfl,b2⟩;have CL2:=CL w2 b2)
    go_loopw [5,6] (fun k i wr=>k=.int .i64 0∧i=.int .i64 1∧wr=w2) (fun _ i _=>1)
    case atStart=>exact⟨rfl,rfl,rfl⟩
    case round=>
      obtain⟨rfl,rfl,rfl⟩:=hrel
      go_wp2
      go_ret
      exact⟨rfl,(Kp.of b2).then (Kp.setCell (S:=(·=q)) _ (p:=⟨q,0,none⟩) rfl _)⟩
theorem deleteN_any(w:World)(F:Value):Calls Tryz.prog 223 #[.slice none 0 0,F] w fun e w'=>e=.returned (.slice none 0 0)∧w'=w:=by
  have I:Calls Tryz.prog 266 #[.slice none 0 0,F] w fun e w'=>e=.returned (.int .i64 (-1))∧w'=w:=by
    go_enter Tryz.func266,Tryz.ntmps266
    go_wp2
    go_loopw [8] (fun i wr=>i=.int .i64 0∧wr=w) (fun i _=>1)
    case atStart=>exact⟨rfl,rfl⟩
    case round=>
      obtain⟨rfl,rfl⟩:=hrel
      go_wp2
      go_ret
      exact⟨rfl,rfl⟩
  go_enter Tryz.func223,Tryz.ntmps223
  go_wp2_with (go_at_call 266;(with_reducible refine I.mono ?_);rintro e w2 ⟨rfl,rfl⟩)
  go_ret
  exact⟨rfl,rfl⟩
theorem held1_any{Z:Nat→Prop}{w:World}{p d m:Nat}{R:PR}{f:FR}(h:PB Z w p d m R)(hf:R.held=some f) :
    Calls Tryz.prog 270 #[.pointer (some ⟨p,0,none⟩)] w fun e w'=>(∃ q c,e=.returned (.slice (some ⟨q,0,none⟩) 1 c)∧w.heap.size≤q∧1≤c∧∃ cur,w'.heap[q]? = some (.cells cur 3 (0,0))∧cur[0]? = some (.int .i64 1))∧Below w.heap.size w w':=by
  have hm:MapI w m [(1,.int .i64 0)]:=by have:=h.map;unfold PR.m at this;rw[hf] at this;exact this
  have c9:w.cell? ⟨p,9,none⟩=some (.map (some m)):=cellD h.box 9
  have M:=pmade_any h
  have KK:=(Tryz.keysAt2).keys (some m) w
  obtain⟨W1,hW1,g1,b1,s1⟩:=box_alloc w (.cells #[.map (some m)] (Tryz.keys309_ren.t 23))
  have KS:=keys_one Tryz.keysAt2 (hm.below b1) (hlt g1) (cellD g1 0)
  have HS:=Lib.hid s1
  clear s1
  go_enter Tryz.func270,Tryz.ntmps270
  go_wp2_with (first
    | (go_at_call 237;(with_reducible refine M.mono ?_);rintro e w ⟨rfl,rfl⟩)
    | (go_at_call 309;(with_reducible refine KK.mono ?_);rintro e w2 ⟨rfl,rfl⟩;rw[hW1])
    | (go_at_call 133;(with_reducible refine KS.mono ?_);rintro e w3 ⟨⟨q,c,rfl,hq,hc,cur,hcur,hc0⟩,b3⟩))
  go_ret
  exact⟨⟨q,c,rfl,by have:=HS.out;omega,hc,cur,hcur,hc0⟩,b1.trans (b3.mono b1.size)⟩
theorem held0_any{Z:Nat→Prop}{w:World}{p d m:Nat}{R:PR}(h:PB Z w p d m R)(hf:R.held=none) :
    Calls Tryz.prog 270 #[.pointer (some ⟨p,0,none⟩)] w fun e w'=>e=.returned (.slice none 0 0)∧Below w.heap.size w w':=by
  have hm:MapI w m []:=by have:=h.map;unfold PR.m at this;rw[hf] at this;exact this
  have c9:w.cell? ⟨p,9,none⟩=some (.map (some m)):=cellD h.box 9
  have M:=pmade_any h
  have KK:=(Tryz.keysAt2).keys (some m) w
  obtain⟨W1,hW1,g1,b1,s1⟩:=box_alloc w (.cells #[.map (some m)] (Tryz.keys309_ren.t 23))
  have KS:=keys_none Tryz.keysAt2 (hm.below b1) (hlt g1) (cellD g1 0)
  clear s1
  go_enter Tryz.func270,Tryz.ntmps270
  go_wp2_with (first
    | (go_at_call 237;(with_reducible refine M.mono ?_);rintro e w ⟨rfl,rfl⟩)
    | (go_at_call 309;(with_reducible refine KK.mono ?_);rintro e w2 ⟨rfl,rfl⟩;rw[hW1])
    | (go_at_call 133;(with_reducible refine KS.mono ?_);rintro e w3 ⟨rfl,b3⟩))
  go_ret
  exact⟨rfl,b1.trans (b3.mono b1.size)⟩
theorem pdirtyT_any{Z:Nat→Prop}{w:World}{p d m:Nat}{R:PR}{f:FR}(h:PB Z w p d m R)(hf:R.held=some f)(hd:f.dirty=true) :
    Calls Tryz.prog 238 #[.pointer (some ⟨p,0,none⟩)] w fun e w'=>(∃ q c,e=.returned (.slice (some ⟨q,0,none⟩) 1 c)∧w.heap.size≤q∧∃ cur,w'.heap[q]? = some (.cells cur 3 (0,0))∧cur[0]? = some (.int .i64 1))∧Below w.heap.size w w':=by
  obtain⟨W1,hW1,g1,b1,s1⟩:=box_alloc w (.cells #[.pointer (some ⟨p,0,none⟩)] 120)
  have h1:=h.below b1
  have HH:=held1_any h1 hf
  have p0:W1.cell? ⟨w.heap.size,0,none⟩=some (.pointer (some ⟨p,0,none⟩)):=cellD g1 0
  have HS:=Lib.hid s1
  have DX:=fun(q c:Nat) (w2:World) (cur:Array Value) (b2:Below W1.heap.size W1 w2) (hcur:w2.heap[q]? = some (.cells cur 3 (0,0))) (hc0:cur[0]? = some (.int .i64 1)) (hc:1≤c)=>deleteD_any (h1.below b2) hf (cellD (keepB b2 g1) 0) hcur hc0 hc
  rw[hd] at DX
  have HD:=Lib.hid hd
  clear s1 hd
  go_enter Tryz.func238,Tryz.ntmps238
  go_wp2_with (first
    | (go_at_call 270;(with_reducible refine HH.mono ?_);rintro e w2 ⟨⟨q,c,rfl,hq,hc,cur,hcur,hc0⟩,b2⟩;have DD:=DX q c w2 cur b2 hcur hc0 hc)
    | (go_at_call 223;(with_reducible refine DD.mono ?_);rintro e w3 ⟨rfl,k3,b3⟩))
  go_ret
  have hqw:w.heap.size≤q:=by have:=HS.out;omega
  have b12:=b1.trans (b2.mono b1.size)
  have b23:Below w.heap.size w w3:=b12.trans ⟨k3.os,k3.tape,k3.output,k3.size,fun k hk=>k3.block k (by have:=b12.size;omega) (by omega)⟩
  exact⟨⟨q,c,rfl,hqw,cur,keepB (b3 trivial) hcur,hc0⟩,b23⟩
theorem pdirtyF_any{Z:Nat→Prop}{w:World}{p d m:Nat}{R:PR}{f:FR}(h:PB Z w p d m R)(hf:R.held=some f)(hd:f.dirty=false) :
    Calls Tryz.prog 238 #[.pointer (some ⟨p,0,none⟩)] w fun e w'=>(∃ q c,e=.returned (.slice (some ⟨q,0,none⟩) 0 c))∧Below w.heap.size w w':=by
  obtain⟨W1,hW1,g1,b1,s1⟩:=box_alloc w (.cells #[.pointer (some ⟨p,0,none⟩)] 120)
  have h1:=h.below b1
  have HH:=held1_any h1 hf
  have p0:W1.cell? ⟨w.heap.size,0,none⟩=some (.pointer (some ⟨p,0,none⟩)):=cellD g1 0
  have HS:=Lib.hid s1
  have DX:=fun(q c:Nat) (w2:World) (cur:Array Value) (b2:Below W1.heap.size W1 w2) (hcur:w2.heap[q]? = some (.cells cur 3 (0,0))) (hc0:cur[0]? = some (.int .i64 1)) (hc:1≤c)=>deleteD_any (h1.below b2) hf (cellD (keepB b2 g1) 0) hcur hc0 hc
  rw[hd] at DX
  have HD:=Lib.hid hd
  clear s1 hd
  go_enter Tryz.func238,Tryz.ntmps238
  go_wp2_with (first
    | (go_at_call 270;(with_reducible refine HH.mono ?_);rintro e w2 ⟨⟨q,c,rfl,hq,hc,cur,hcur,hc0⟩,b2⟩;have DD:=DX q c w2 cur b2 hcur hc0 hc)
    | (go_at_call 223;(with_reducible refine DD.mono ?_);rintro e w3 ⟨rfl,k3,b3⟩))
  go_ret
  have hqw:w.heap.size≤q:=by have:=HS.out;omega
  have b12:=b1.trans (b2.mono b1.size)
  have b23:Below w.heap.size w w3:=b12.trans ⟨k3.os,k3.tape,k3.output,k3.size,fun k hk=>k3.block k (by have:=b12.size;omega) (by omega)⟩
  exact⟨⟨q,c,rfl⟩,b23⟩
theorem pdirty0_any{Z:Nat→Prop}{w:World}{p d m:Nat}{R:PR}(h:PB Z w p d m R)(hf:R.held=none) :
    Calls Tryz.prog 238 #[.pointer (some ⟨p,0,none⟩)] w fun e w'=>e=.returned (.slice none 0 0)∧Below w.heap.size w w':=by
  obtain⟨W1,hW1,g1,b1,s1⟩:=box_alloc w (.cells #[.pointer (some ⟨p,0,none⟩)] 120)
  have HH:=held0_any (h.below b1) hf
  have p0:W1.cell? ⟨w.heap.size,0,none⟩=some (.pointer (some ⟨p,0,none⟩)):=cellD g1 0
  clear s1
  go_enter Tryz.func238,Tryz.ntmps238
  go_wp2_with (first
    | (go_at_call 270;(with_reducible refine HH.mono ?_);rintro e w2 ⟨rfl,b2⟩)
    | (go_at_call 223;(with_reducible refine(deleteN_any _ _).mono ?_);rintro e w3 ⟨rfl,rfl⟩))
  go_ret
  exact⟨rfl,b1.trans (b2.mono b1.size)⟩
structure SPt where
  d:Nat
  j:Nat
  p:Nat
  a:Nat
  t:Nat
  wk:Nat
structure SR where
  log:Nat
  epoch:Nat
  gen:Nat
  asked:Nat
def sV (s:Nat)(B:SPt)(S:SR):Array Value:=#[.pointer (some ⟨s,0,none⟩),.pointer (some ⟨B.d,0,none⟩),.int .i64 (S.log:Int),.int .i64 (S.epoch:Int),.int .i64 0,.int .i64 0,.int .i64 0,.slice none 0 0,.slice none 0 0,.int .i64 (S.gen:Int),.pointer (some ⟨B.j,0,none⟩),.pointer (some ⟨B.p,0,none⟩),.pointer (some ⟨B.a,0,none⟩),.pointer (some ⟨B.t,0,none⟩),.map (some B.wk),.int .i64 (S.asked:Int),.bool false]
def SB (w:World)(s:Nat)(B:SPt)(S:SR):Prop:=w.heap[s]? = some (.cells (sV s B S) 125 (0,0))
theorem ahead_any{w:World}{s lsn:Nat}{B:SPt}{S:SR}{J:JR}(h:SB w s B S)(hj:JB w B.j B.d J)(hl:lsn≤J.synced)(ha:S.asked≤1000000) :
    Calls Tryz.prog 158 #[.pointer (some ⟨s,0,none⟩),.int .i64 (lsn:Int)] w fun e w'=>e=.returned (.int .i64 0)∧SB w' s B { S with asked:=S.asked+1 }∧Kp (·=s) w w':=by
  have c10:w.cell? ⟨s,10,none⟩=some (.pointer (some ⟨B.j,0,none⟩)):=cellD h 10
  have c15:w.cell? ⟨s,15,none⟩=some (.int .i64 (S.asked:Int)):=cellD h 15
  have z15:w.frozen? ⟨s,15,none⟩=false:=frozenD h 15
  have JS:=jsynced_any hj
  have f1:¬(J.synced:Int)<(lsn:Int):=by omega
  have f1':¬J.synced<lsn:=by omega
  obtain⟨W1,hW1,g1,k1,s1⟩:=set_name 15 h (.int .i64 ((S.asked:Int)+1))
  have hw:=wrapC (show S.asked≤4000000000 by omega)
  clear s1
  go_enter Tryz.func158,Tryz.ntmps158
  go_wp2_with (go_at_call 64;(with_reducible refine JS.mono ?_);rintro e w ⟨rfl,rfl⟩)
  go_ret
  refine⟨rfl,?_,k1⟩
  unfold SB;rw[g1];rfl
theorem ask1_idle{w:World}{bp p br:Nat}{cs:Array Value}(hb:w.cell? ⟨bp,0,none⟩=some (.pointer (some ⟨p,0,none⟩)))(hp:w.heap[p]? = some (.cells cs 318 (0,0)))(h7:7<cs.size) :
    CallsD Tryz.prog 310 #[.pointer (some ⟨bp,0,none⟩),.pointer (some ⟨br,0,none⟩)] .returning w fun e u' w'=>e=.returned (.tuple #[])∧u'=.returning∧w'=w.setCell ⟨p,7,none⟩ (.bool false):=by
  have c7:w.cell? ⟨p,7,none⟩=some cs[7]:=by rw[cellD hp];simp[h7]
  have z7:w.frozen? ⟨p,7,none⟩=false:=frozenD hp 7
  refine callsD_of_wpS Tryz.func310 rfl fun c₀ cs' hu=>?_
  apply wpS_seq
  apply wpS_region
  simp[wpOpsS,go_sem,hb,c7,z7,Tryz.ntmps310,Exit.thenS]
  apply wpS_seq
  apply wpS_region
  simp[wpOpsS,go_sem,recoverD,hu,Tryz.ntmps310,Exit.thenS]
  refine wpS_cond (t:=false) (by simp[Act.eval,Array.replicate]) ?_
  simp only[Bool.false_eq_true,if_false]
  refine wpS_of_wp (wp_skip ?_)
  cases c₀
  simp_all[bodyPostS,results]
theorem ask_any{Z S:Nat→Prop}{w:World}{p d m s lsn:Nat}{R:PR}{PP:World→Prop}(h:PB Z w p d m R)(hw:R.wal=.func (.func 158) #[.pointer (some ⟨s,0,none⟩)] #[])(hS:¬S p)(hS2:∀ k,S k→k<w.heap.size)
    (HA:∀ w',Kp (·=p) w w'→Calls Tryz.prog 158 #[.pointer (some ⟨s,0,none⟩),.int .i64 (lsn:Int)] w' fun e w2=>e=.returned (.int .i64 0)∧PP w2∧Kp S w' w2) :
    Calls Tryz.prog 272 #[.pointer (some ⟨p,0,none⟩),.int .i64 (lsn:Int)] w fun e w'=>e=.returned (.int .i64 0)∧w'.heap[p]? = some (.cells (pV p d m R) 318 (0,0))∧(∃ w2,PP w2∧Kp (fun k=>k=p∨w.heap.size≤k) w2 w')∧Kp (fun k=>k=p∨S k) w w':=by
  have hmf:∀ (fn:Fn) (first cap:Array Value) (w:World),(Instr.makeFunc fn first cap).run Tryz.prog w=.ok (.func fn first cap) w:=fun _ _ _ _=>rfl
  obtain⟨W1,hW1,g1,b1,s1⟩:=box_alloc w (.cells #[.pointer (some ⟨p,0,none⟩)] 120)
  obtain⟨W2,hW2,g2,b2,s2⟩:=box_alloc W1 (.cells #[.int .i64 0] 29)
  have b12:=b1.trans (b2.mono b1.size)
  have h2:W2.heap[p]? = some (.cells (pV p d m R) 318 (0,0)):=keepB b12 h.box
  have g12:=keepB b2 g1
  have c6:W2.cell? ⟨p,6,none⟩=some (.func (.func 158) #[.pointer (some ⟨s,0,none⟩)] #[]):=(cellD h2 6).trans (congrArg some hw)
  have c7:W2.cell? ⟨p,7,none⟩=some (.bool false):=cellD h2 7
  have z7:W2.frozen? ⟨p,7,none⟩=false:=frozenD h2 7
  have bp:W2.cell? ⟨w.heap.size,0,none⟩=some (.pointer (some ⟨p,0,none⟩)):=cellD g12 0
  have hne:∀ w,(binOp .eql 48 (.func (.func 158) #[.pointer (some ⟨s,0,none⟩)] #[]) .nilFunc).run Tryz.prog w=.ok (.bool false) w:=fun _=>by kernel_rfl
  obtain⟨W3,hW3,g3,k3,s3⟩:=set_name 7 h2 (.bool true)
  have hp1:p≠w.heap.size:=fun e=>by have:=hlt h.box;omega
  have hp2:p≠W1.heap.size:=fun e=>by have:=hlt h.box;omega
  have bp3:W3.cell? ⟨w.heap.size,0,none⟩=some (.pointer (some ⟨p,0,none⟩)):=cellD (k3.keep g12 (fun e=>hp1 e.symm)) 0
  have c6':W3.cell? ⟨p,6,none⟩=some (.func (.func 158) #[.pointer (some ⟨s,0,none⟩)] #[]):=by
    rw[cellD g3 6]
    exact congrArg some hw
  have A:=HA W3 (((Kp.of b12).weaken fun k e=>e).then k3)
  have HS1:=Lib.hid s1
  have HS2:=Lib.hid s2
  have HS3:=Lib.hid s3
  clear s1 s2 s3 HA
  go_enter_defers Tryz.func272,Tryz.ntmps272
  have hn1:¬S w.heap.size:=fun e=>by have:=hS2 _ e;omega
  have hn2:¬S W1.heap.size:=fun e=>by have:=hS2 _ e;have:=b1.size;omega
  go_wp2_with (go_at_call 158;(with_reducible refine A.mono ?_);rintro e w4 ⟨rfl,hPP,k4⟩;have q4:=k4.keep (k3.keep g2 (fun e=>hp2 e.symm)) hn2;have y4:w4.cell? ⟨W1.heap.size,0,none⟩=some (.int .i64 0):=cellD q4 0;have x4:w4.frozen? ⟨W1.heap.size,0,none⟩=false:=frozenD q4 0)
  obtain⟨W5,hW5,g5,k5,s5⟩:=set_name 0 q4 (.int .i64 0)
  rw[hW5]
  have p4:=k4.keep g3 hS
  have p5:=k5.keep p4 hp2
  have hb5:W5.cell? ⟨w.heap.size,0,none⟩=some (.pointer (some ⟨p,0,none⟩)):=by
    refine cellD (k5.keep (k4.keep (k3.keep g12 (fun e=>hp1 e.symm)) hn1) (fun e=>?_)) 0
    have:=HS1.out;omega
  refine leaves_cons (f:=310) (args:=#[.pointer (some ⟨w.heap.size,0,none⟩),.pointer (some ⟨W1.heap.size,0,none⟩)]) (by simp) (by simp[go_sem]) ?_
  refine(ask1_idle hb5 p5 (by simp[pV])).mono ?_
  rintro e u' w'' ⟨rfl,rfl,rfl⟩
  obtain⟨W6,hW6,g6,k6,s6⟩:=set_name 7 p5 (.bool false)
  rw[hW6]
  have r6:=k6.keep g5 (fun e=>hp2 e.symm)
  have l6:=Go.Ev.run_loadVar_one (P:=Tryz.prog) agg23 (cellD (w:=W6) r6 0)
  have K6:Kp (fun k=>k=p∨S k) w W6:=((((Kp.of b12).then (k3.weaken fun k e=>.inl e)).then (k4.weaken fun k e=>.inr e)).trans (k5.weaken fun k e=>e) (fun k hk e=>by have:=HS1.out;omega)).then (k6.weaken fun k e=>.inl e)
  have HK6:=Lib.hid K6
  have HPP:=Lib.hid (Exists.intro (p:=fun w2=>PP w2∧Kp (fun k=>k=p∨w.heap.size≤k) w2 W6) w4 ⟨hPP,(k5.weaken fun k e=>.inr (by have:=HS1.out;omega)).then (k6.weaken fun k e=>.inl e)⟩)
  have G6:W6.heap[p]? = some (.cells (pV p d m R) 318 (0,0)):=by rw[g6];rfl
  have ha:asAddr (.pointer (some ⟨W1.heap.size,0,none⟩))=pure ⟨W1.heap.size,0,none⟩:=rfl
  simp[Leaves,settle,results,ha,l6,Sem.run_bind,Result.andThen]
  exact⟨G6,HPP.out,HK6.out⟩
end Go.Proofs.YtdbkocfbhpgpkaaGreat
