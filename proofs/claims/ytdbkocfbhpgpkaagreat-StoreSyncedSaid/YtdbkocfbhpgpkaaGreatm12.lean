/-
  journal.Append, where there is room; journal.New.
-/
import Derived.Test.YtdbkocfbhpgpkaaGreatm11
import Derived.Lib.SliceRun
import Derived.Test.YtdbkocfbhpgpkaaGreatm10
import Derived.Deep.RegionHeld3
set_option linter.unusedVariables false
set_option linter.unusedSimpArgs false
namespace Go.Proofs.YtdbkocfbhpgpkaaGreat
open Go Go.RowKit
set_option maxRecDepth 100000
set_option maxHeartbeats 1600000
def OR (w:World)(n0:Nat)(v:Value)(l:List Int):Prop:=w.ownsRow n0 3 1 v l.length (l.map (Value.int .i64))
def TF (t:Nat)(T:TR)(k:Nat):Prop:=k=t∨k=T.who∨T.ov.ownBlock=some k
theorem Kp.grow{a b:World}{o:Option Nat}(h:a.grownBy b o):Kp (fun k=>o=some k) a b:=⟨h.os,h.tape,h.output,h.size,fun k hk hs=>h.block k hk fun e=>hs e.symm⟩
theorem info3':(Tryz.prog.info? 3).map (fun i=>(i.zero,i.size,i.bytes))=some (some (.int .i64 0),1,8):=by kernel_rfl
theorem zero3(w:World):(zeroValue 3).run Tryz.prog w=.ok (.int .i64 0) w:=by
  have h:(Tryz.prog.info? 3).map (fun i=>i.zero)=some (some (.int .i64 0)):=by kernel_rfl
  obtain⟨i,hi,hz⟩:=Option.map_eq_some_iff.1 h
  simp[zeroValue,typeInfo,hi,hz]
theorem TB.setC{w:World}{t:Nat}{T:TR}(h:TB w t T)(k:Nat)(v:Value):∃ W,w.setCell ⟨t,k,none⟩ v=W∧W.heap[t]? = some (.cells ((tV t T).set! k v) 235 (0,0))∧Kp (·=t) w W∧W.heap.size=w.heap.size:=set_name k h v
theorem MapI.kp{S:Nat→Prop}{w w':World}{b:Nat}{m:List (Int×Value)}(h:MapI w b m)(hk:Kp S w w')(hs:¬S b):MapI w' b m:=h.keep (hk.block _ h.lt hs)
theorem MapI.ne{w:World}{b g:Nat}{m:List (Int×Value)}(h:MapI w b m){cs:Array Value}{t:TypeId}{z:Nat×Nat}(hg:w.heap[g]? = some (.cells cs t z)):b≠g:=by
  rintro rfl
  obtain⟨E,c,h1,_⟩:=h
  rw[hg] at h1;cases h1
theorem OR.ne{w:World}{n0 g:Nat}{v:Value}{l:List Int}(h:OR w n0 v l){cs:Array Value}{t:TypeId}{z:Nat×Nat}(hg:w.heap[g]? = some (.cells cs t z))(ht:t≠3):v.ownBlock≠some g:=fun e=>by
  rcases h.2 with⟨rfl,_⟩|⟨b,cap,cur,rfl,_,hb,_⟩
  · simp[Value.ownBlock] at e
  · simp only[Value.ownBlock,Option.some.injEq] at e
    subst e
    rw[hg] at hb;injection hb with q;injection q with _ q _;exact ht q
theorem OR.nem{w:World}{n0 g:Nat}{v:Value}{l:List Int}(h:OR w n0 v l){m:List (Int×Value)}(hm:MapI w g m):v.ownBlock≠some g:=fun e=>by
  rcases h.2 with⟨rfl,_⟩|⟨b,cap,cur,rfl,_,hb,_⟩
  · simp[Value.ownBlock] at e
  · simp only[Value.ownBlock,Option.some.injEq] at e
    subst e
    obtain⟨E,c,h1,_⟩:=hm
    rw[hb] at h1;cases h1
theorem OR.lt{w:World}{n0:Nat}{v:Value}{l:List Int}(h:OR w n0 v l){k:Nat}(e:v.ownBlock=some k):k<w.heap.size∧n0≤k:=by
  rcases h.2 with⟨rfl,_⟩|⟨b,cap,cur,rfl,hn,hb,_⟩
  · simp[Value.ownBlock] at e
  · simp only[Value.ownBlock,Option.some.injEq] at e
    subst e
    exact⟨hlt hb,hn⟩
theorem OR.kp{S:Nat→Prop}{w w':World}{n0:Nat}{v:Value}{l:List Int}(h:OR w n0 v l)(hk:Kp S w w')(hs:∀ k,v.ownBlock=some k→¬S k):OR w' n0 v l:=by
  refine⟨h.1,?_⟩
  rcases h.2 with e|⟨g,cap,cur,rfl,h2,h3,h4⟩
  · exact .inl e
  · exact .inr ⟨g,cap,cur,rfl,h2,hk.keep h3 (hs g rfl),h4⟩
theorem OR.form{w:World}{n0:Nat}{v:Value}{l:List Int}(h:OR w n0 v l):∃ A c,v=.slice A l.length c:=by
  rcases h.2 with⟨rfl,e⟩|⟨g,c,_,rfl,_⟩
  · rw[e];exact⟨_,_,rfl⟩
  · exact⟨_,_,rfl⟩
section
variable {w:World}{t n0:Nat}{T:TR}{m:List (Int×Value)}
theorem begin_tab(h:TB w t T)(hm:MapI w T.who m)(ho:OR w n0 T.ov [])(hn:T.next≤1000000)(hn0:n0≤w.heap.size) :
    Calls Tryz.prog 66 #[.pointer (some ⟨t,0,none⟩)] w fun e w'=>e=.returned (.tuple #[.int .i64 (T.next:Int),.int .i64 0])∧∃ ov',TB w' t { T with next:=T.next+1,ov:=ov' }∧MapI w' T.who (mset m (T.next:Int) (mk 2 T.last))∧OR w' n0 ov' [(T.next:Int)]∧(∀ k,ov'.ownBlock=some k→T.ov.ownBlock=some k∨w.heap.size≤k)∧Kp (TF t T) w w':=by
  obtain⟨A,c,hov⟩:∃ A c,T.ov=.slice A 0 c:=ho.form
  have M:=tmade_any h
  have c5:w.cell? ⟨t,5,none⟩=some (.slice A 0 c):=(h.cell 5).trans (congrArg some hov)
  have N:=next_tab h
  have c2:w.cell? ⟨t,2,none⟩=some (.int .i64 (T.next:Int)):=h.cell 2
  have z2:w.frozen? ⟨t,2,none⟩=false:=h.frozen 2
  have hle:¬(4611686018427387904:Int)≤(T.next:Int):=by omega
  have hw:wrap64 ((T.next:Int)+1)=(T.next:Int)+1:=IntWalk.wrap64_in _ (by omega)
  have AD:=Add_any (y:=1) c2 z2
  rw[hw] at AD
  obtain⟨W1,hW1,g1,k1,s1⟩:=h.setC 2 (.int .i64 ((T.next:Int)+1))
  rw[hW1] at AD
  have hT1:TB W1 t { T with next:=T.next+1 }:=by
    unfold TB;rw[g1];rfl
  have hm1:=hm.kp k1 (hm.ne h)
  have ho1:=ho.kp k1 (fun k e1 e2=>ho.ne h (by decide) (by rw[e1,e2]))
  go_enter Tryz.func66,Tryz.ntmps66
  have HW1:=Lib.hid hW1
  have HG1:=Lib.hid g1
  have HK1:=Lib.hid k1
  have HN:=Lib.hid hn
  have HT1:=Lib.hid hT1
  have HM1:=Lib.hid hm1
  have HO1:=Lib.hid ho1
  have HS1:=Lib.hid s1
  have HW:=Lib.hid hw
  have HV:=Lib.hid hov
  clear hW1 g1 k1 hov hle hn hT1 hm1 ho1 s1 hw
  go_upto_region 3 with (first
    | (go_at_call 162;with_reducible refine M.mono ?_;rintro e w ⟨rfl,rfl⟩))
  have hx:decide ((4611686018427387904:Int)≤(T.next:Int))=false:=by have:=HN.out;simp;omega
  go_upto_region 5 with (first
    | (go_at_call 92;with_reducible refine N.mono ?_;rintro e w ⟨rfl,rfl⟩))
  have hz:wrap64 (T.next:Int)=(T.next:Int):=IntWalk.wrap64_in _ (by have:=HN.out;omega)
  go_upto_region 6 with (first
    | (go_at_call 163;with_reducible refine AD.mono ?_;rintro e w2 ⟨rfl,rfl⟩))
  clear AD N M c2 z2 c5 hx
  obtain⟨W2,hW2,e2,b2⟩:=drew_name w2
  have hT2:TB W2 t { T with next:=T.next+1 }:=HT1.out.below b2
  have hm2:=HM1.out.below b2
  obtain⟨W3,hU,m3,o3,s3,os3,t3,u3⟩:=run_update_int (P:=Tryz.prog) Tryz.underlying233 Tryz.underlying3 hm2 (T.next:Int) (mk 2 T.last)
  unfold mk at hU
  have c3:W2.cell? ⟨t,3,none⟩=some (.int .i64 (T.last:Int)):=hT2.cell 3
  have c4:W2.cell? ⟨t,4,none⟩=some (.map (some T.who)):=hT2.cell 4
  refine stillW 10 (by kernel_rfl) (by kernel_rfl) W2 hW2 ?_
  simp only[List.take_succ_cons,List.take_zero,List.drop_succ_cons,List.drop_zero]
  repeat still_step
  refine wpStill_nil ?_
  go_upto_region 7 with fail
  have hTo:t≠T.who:=fun e=>hm2.ne hT2 e.symm
  have k3:Kp (TF t T) w W3:=by
    refine(HK1.out.weaken (fun k e=>.inl e)).then ((Kp.of b2).then ⟨os3,t3,u3,by omega,fun k _ hk=>o3 k fun e=>hk (.inr (.inl e))⟩)
  have hT3:TB W3 t { T with next:=T.next+1 }:=(o3 t hTo).trans hT2
  have ho2:OR W2 n0 (.slice A 0 c) []:=HV.out▸HO1.out.kp (Kp.of (S:=fun _=>False) b2) (fun _ _ h=>h)
  have ho3:OR W3 n0 (.slice A 0 c) []:=by
    refine ho2.kp (S:=(·=T.who)) ⟨os3,t3,u3,by omega,fun k _ hk=>o3 k hk⟩ fun k e1 e2=>?_
    subst e2
    exact ho2.nem hm2 e1
  have s23:=b2.size
  have hsw:w.heap.size≤W3.heap.size:=by have:=HS1.out;omega
  have hsz:n0≤W3.heap.size:=by omega
  obtain⟨W4,hW4,g4,b4,s4⟩:=box_alloc W3 (.cells #[.int .i64 (T.next:Int)] 3)
  have ho4:OR W4 n0 (.slice A 0 c) []:=ho3.kp (Kp.of (S:=fun _=>False) b4) (fun _ _ h=>h)
  have hT4:TB W4 t { T with next:=T.next+1 }:=hT3.below b4
  have c5:W3.cell? ⟨t,5,none⟩=some (.slice A 0 c):=(hT3.cell 5).trans (congrArg some HV.out)
  have hnw:∀ j u,[Value.int .i64 (T.next:Int)][j]? = some u→W4.cell? ((⟨W3.heap.size,0,none⟩:Addr).add j)=some u:=fun j u hu=>by
    have:((⟨W3.heap.size,0,none⟩:Addr).add j)=⟨W3.heap.size,j,none⟩:=by unfold Addr.add;split<;>simp_all
    rw[this,cellD g4]
    simpa using hu
  have HS4:=Lib.hid s4
  clear hU c3 c4 hT2 hm2 hTo HO1 HM1 HT1 s3 e2 s4
  go_wp2_with (at_builtin;refine apG rfl (.tmp 38) (.tmp 40) 22 3 (.int .i64 0) 1 8 Tryz.underlying22 info3' rfl (by decide) rfl n0 (.slice A 0 c) 0 [] rfl ho4 ⟨W3.heap.size,0,none⟩ 1 1 [.int .i64 (T.next:Int)] rfl rfl hnw ?c1 (by decide) (by decide) ?c2 ?_)
  case c1=>intro u hu;simp at hu;subst hu;rfl
  case c2=>have:=HS4.out;omega
  intro v5 W5 own5 grow5 at5
  have ho5:OR W5 n0 v5 [(T.next:Int)]:=own5
  have ne4:(Value.slice A 0 c).ownBlock≠some t:=ho4.ne hT4 (by decide)
  have hT5:TB W5 t { T with next:=T.next+1 }:=(grow5.block t hT4.lt (fun e=>ne4 e.symm)).trans hT4
  have ne5:v5.ownBlock≠some t:=ho5.ne hT5 (by decide)
  obtain⟨A5,c5',hv5⟩:∃ A c,v5=.slice A 1 c:=ho5.form
  subst hv5
  have d5:W5.cell? ⟨t,5,none⟩=some _:=hT5.cell 5
  have z5:W5.frozen? ⟨t,5,none⟩=false:=hT5.frozen 5
  obtain⟨W6,hW6,g6,k6,s6⟩:=hT5.setC 5 (.slice A5 1 c5')
  go_wp2
  go_ret2
  have kw:MapI W5 T.who (mset m (T.next:Int) (mk 2 T.last)):=(m3.below b4).kp (Kp.grow grow5) fun e=>ho4.nem (m3.below b4) e
  refine⟨rfl,.slice A5 1 c5',?_,kw.kp k6 (kw.ne hT5),ho5.kp k6 (fun k e1 e2=>ne5 (by rw[e1,e2])),fun k e=>?_,?_⟩
  · unfold TB;rw[g6];rfl
  · rcases at5 with a|a
    · left;rw[HV.out,← a];exact e
    · right
      rw[e] at a
      injection a with a
      have:=HS4.out
      omega
  · refine((k3.then (Kp.of b4)).then ((Kp.grow grow5).weaken fun k e=>.inr (.inr ?_))).then (k6.weaken fun k e=>.inl e)
    rw[HV.out];exact e
theorem end1_any{bx:Nat}{n:Int}(hb:w.cell? ⟨bx,0,none⟩=some (.int .i64 n)):Calls Tryz.prog 235 #[.int .i64 n,.pointer (some ⟨bx,0,none⟩)] w fun e w'=>e=.returned (.bool true)∧w'=w:=by
  go_enter Tryz.func235,Tryz.ntmps235
  go_wp2
  go_ret
  exact⟨rfl,rfl⟩
theorem index1_any{g c bx:Nat}{n:Int}(hg:w.cell? ⟨g,0,none⟩=some (.int .i64 n))(hb:w.cell? ⟨bx,0,none⟩=some (.int .i64 n)) :
    Calls Tryz.prog 266 #[.slice (some ⟨g,0,none⟩) 1 c,.func (.func 235) #[] #[.pointer (some ⟨bx,0,none⟩)]] w fun e w'=>e=.returned (.int .i64 0)∧w'=w:=by
  have E:=end1_any hb
  go_enter Tryz.func266,Tryz.ntmps266
  go_wp2
  go_loopw [8] (fun i wr=>i=.int .i64 0∧wr=w) (fun i _=>1)
  case atStart=>exact⟨rfl,rfl⟩
  case round=>
    obtain⟨rfl,rfl⟩:=hrel
    go_wp2_with (go_at_call 235;with_reducible refine E.mono ?_;rintro e w ⟨rfl,rfl⟩)
    go_ret
    exact⟨rfl,rfl⟩
theorem delete1_any{g c bx:Nat}{n:Int}{cur:Array Value}(hg:w.heap[g]? = some (.cells cur 3 (0,0)))(hn:cur[0]? = some (.int .i64 n))(hc:1≤c)(hb:w.cell? ⟨bx,0,none⟩=some (.int .i64 n)) :
    Calls Tryz.prog 223 #[.slice (some ⟨g,0,none⟩) 1 c,.func (.func 235) #[] #[.pointer (some ⟨bx,0,none⟩)]] w fun e w'=>e=.returned (.slice (some ⟨g,0,none⟩) 0 c)∧w'=w.setCell ⟨g,0,none⟩ (.int .i64 0):=by
  have c0:w.cell? ⟨g,0,none⟩=some (.int .i64 n):=(cellD hg 0).trans hn
  have I:=index1_any (c:=c) c0 hb
  have CL:(Builtin.clear_ #[22] 0 #[.slice (some ⟨g,0,none⟩) 1 c]).run Tryz.prog w=.ok (.tuple #[]) (w.setCells g 0 (List.replicate 1 (.int .i64 0))):=by
    refine Lib.run_clear_slice (P:=Tryz.prog) w 22 3 0 (.int .i64 0) Tryz.underlying22 zero3 rfl rfl g 0 1 c (by omega) (fun j hj=>?_) (fun j hj=>frozenD hg _)
    obtain rfl:j=0:=by omega
    show(w.cell? ⟨g,0,none⟩).isSome=true
    rw[c0];rfl
  have CL2:(Builtin.clear_ #[22] 0 #[.slice (some ⟨g,0,none⟩) 1 c]).run Tryz.prog w=.ok (.tuple #[]) (w.setCell ⟨g,0,none⟩ (.int .i64 0)):=CL
  clear CL
  go_enter Tryz.func223,Tryz.ntmps223
  go_wp2_with (go_at_call 266;with_reducible refine I.mono ?_;rintro e w ⟨rfl,rfl⟩)
  go_loopw [5,6] (fun k i wr=>k=.int .i64 0∧i=.int .i64 1∧wr=w) (fun _ i _=>1)
  case atStart=>exact⟨rfl,rfl,rfl⟩
  case round=>
    obtain⟨rfl,rfl,rfl⟩:=hrel
    go_wp2
    go_ret
    exact⟨rfl,rfl⟩
theorem end_tab(h:TB w t T)(hm:MapI w T.who m)(n:Int)(ho:OR w n0 T.ov [n])(a:Int)(p:Nat) :
    Calls Tryz.prog 170 #[.pointer (some ⟨t,0,none⟩),.int .i64 n,mk a p] w fun e w'=>e=.returned (.tuple #[])∧∃ ov',TB w' t { T with ov:=ov' }∧MapI w' T.who (mset m n (mk a p))∧OR w' n0 ov' []∧ov'.ownBlock=T.ov.ownBlock∧Kp (TF t T) w w':=by
  obtain⟨-,⟨-,h0⟩|⟨g,c,cur,hov,hn0,hg,hc1,hc2,hc3,htk⟩⟩:=ho
  · cases h0
  have hn:cur[0]? = some (.int .i64 n):=by
    have:=congrArg (fun l=>l[0]?) htk
    simpa[List.getElem?_take] using this
  have hgt:t≠g:=tag_ne h hg (by decide)
  have hgm:=hm.ne hg
  obtain⟨W1,hW1,g1,b1,s1⟩:=box_alloc w (.cells #[.int .i64 n] 3)
  obtain⟨W2,hW2,g2,b2,s2⟩:=box_alloc W1 (.cells #[.int .u8 a,.int .i64 (p:Int)] 239)
  have b12:=b1.trans (b2.mono b1.size)
  obtain⟨W3,hW3,e3,b3⟩:=drew_name W2
  have b13:=b12.trans (b3.mono b12.size)
  have hT3:=h.below b13
  have hm3:=hm.below b13
  have hg3:=keepB b13 hg
  have p1:W3.cell? ⟨w.heap.size,0,none⟩=some (.int .i64 n):=cellD (keepB b3 (keepB b2 g1)) 0
  obtain⟨W4,hU,m4,o4,s4,os4,t4,u4⟩:=run_update_int (P:=Tryz.prog) Tryz.underlying233 Tryz.underlying3 hm3 n (mk a p)
  unfold mk at *
  have c4:W3.cell? ⟨t,4,none⟩=some (.map (some T.who)):=hT3.cell 4
  go_enter Tryz.func170,Tryz.ntmps170
  have HS1:=Lib.hid s1
  have HS4:=Lib.hid s4
  have q0:W3.cell? ⟨W1.heap.size,0,none⟩=some (.int .u8 a):=cellD (keepB b3 g2) 0
  have q1:W3.cell? ⟨W1.heap.size,1,none⟩=some (.int .i64 (p:Int)):=cellD (keepB b3 g2) 1
  clear s1 s2 s4 e3
  go_upto_region 1 with fail
  refine stillW 6 (by kernel_rfl) (by kernel_rfl) W3 hW3 ?_
  simp only[List.take_succ_cons,List.take_zero,List.drop_succ_cons,List.drop_zero]
  repeat still_step
  refine wpStill_nil ?_
  go_upto_region 2 with fail
  have k4:Kp (TF t T) w W4:=(Kp.of b13).then ⟨os4,t4,u4,by have:=HS4.out;omega,fun k _ hk=>o4 k fun e=>hk (.inr (.inl e))⟩
  have hTm:t≠T.who:=fun e=>hm3.ne hT3 e.symm
  have hT4:TB W4 t T:=(o4 t hTm).trans hT3
  have hg4:W4.heap[g]? = _:=(o4 g (fun e=>hgm e.symm)).trans hg3
  have p4:W4.cell? ⟨w.heap.size,0,none⟩=some (.int .i64 n):=by
    rw[← p1]
    refine cellK (o4 _ fun e=>?_)
    have:=hm.lt
    omega
  have D:=delete1_any (c:=c) hg4 hn hc1 p4
  obtain⟨W5,hW5,g5,k5,s5⟩:=set_name 0 hg4 (.int .i64 0)
  rw[hW5] at D
  have hT5:TB W5 t T:=k5.keep hT4 hgt
  have m5:=m4.kp k5 hgm
  have c5:W4.cell? ⟨t,5,none⟩=some (.slice (some ⟨g,0,none⟩) 1 c):=(hT4.cell 5).trans (congrArg some hov)
  obtain⟨W6,hW6,g6,k6,s6⟩:=hT5.setC 5 (.slice (some ⟨g,0,none⟩) 0 c)
  have d5:W5.cell? ⟨t,5,none⟩=some _:=hT5.cell 5
  have z5:W5.frozen? ⟨t,5,none⟩=false:=hT5.frozen 5
  have HW5:=Lib.hid hW5
  clear hW5 hU c4 s5 s6
  go_wp2_with (go_at_call 223;with_reducible refine D.mono ?_;rintro e w6 ⟨rfl,rfl⟩)
  go_end0
  refine⟨rfl,.slice (some ⟨g,0,none⟩) 0 c,?_,m5.kp k6 (m5.ne hT5),?_,?_,?_⟩
  · unfold TB;rw[g6];rfl
  · refine⟨rfl,.inr ⟨g,c,_,rfl,hn0,k6.keep g5 (fun e=>hgt e.symm),Nat.zero_le _,hc2,?_,rfl⟩⟩
    simpa using hc3
  · rw[hov];rfl
  · refine(k4.then (k5.weaken fun k e=>.inr (.inr ?_))).then (k6.weaken fun k e=>.inl e)
    rw[hov,e];rfl
theorem tcommit_tab(h:TB w t T)(hm:MapI w T.who m)(n:Int)(ho:OR w n0 T.ov [n])(p:Nat)(hl:m.lookup n=some (mk 2 p))(hlast:T.last≤1000000) :
    Calls Tryz.prog 74 #[.pointer (some ⟨t,0,none⟩),.int .i64 n] w fun e w'=>e=.returned (.int .i64 0)∧∃ ov',TB w' t { T with ov:=ov',last:=T.last+1 }∧MapI w' T.who (mset m n (mk 3 (T.last+1)))∧OR w' n0 ov' []∧ov'.ownBlock=T.ov.ownBlock∧Kp (TF t T) w w':=by
  have A:=asked_tab h hm n p hl
  go_enter Tryz.func74,Tryz.ntmps74
  go_upto_region 4 with (go_at_call 169;with_reducible refine A.mono ?_;rintro e w2 ⟨rfl,b2⟩)
  have h2:=h.below b2
  have m2:=hm.below b2
  have o2:=ho.kp (Kp.of (S:=fun _=>False) b2) (fun _ _ h=>h)
  have c3:w2.cell? ⟨t,3,none⟩=some (.int .i64 (T.last:Int)):=h2.cell 3
  have z3:w2.frozen? ⟨t,3,none⟩=false:=h2.frozen 3
  have hw:wrap64 ((T.last:Int)+1)=(T.last:Int)+1:=IntWalk.wrap64_in _ (by omega)
  obtain⟨W3,hW3,g3,k3,s3⟩:=h2.setC 3 (.int .i64 ((T.last:Int)+1))
  have h3:TB W3 t { T with last:=T.last+1 }:=by unfold TB;rw[g3];rfl
  have m3:=m2.kp k3 (m2.ne h2)
  have o3:=o2.kp k3 (fun k e1 e2=>o2.ne h2 (by decide) (by rw[e1,e2]))
  have E:=end_tab h3 m3 n o3 3 (T.last+1)
  have c3':W3.cell? ⟨t,3,none⟩=some (.int .i64 ((T.last:Int)+1)):=h3.cell 3
  unfold mk at E
  rw[show((T.last+1:Nat):Int)=(T.last:Int)+1 from rfl] at E
  have HS:=Lib.hid s3
  clear s3
  have hwx:=Lib.hid hw
  go_wp2_with (go_at_call 170;with_reducible refine E.mono ?_;rintro e w6 ⟨rfl,ov',q1,q2,q3,q4,q5⟩)
  go_ret
  refine⟨rfl,ov',q1,?_,q3,q4,?_⟩
  · unfold mk
    show MapI w6 T.who (mset m n (.agg #[.int .u8 3,.int .i64 ((T.last:Int)+1)]))
    exact q2
  · exact((Kp.of b2).then (k3.weaken fun k e=>.inl e)).then q5
end
theorem dec_lt{a:Int}{b:Int}(h:b≤a):decide (a<b)=false:=by simp;omega
theorem JB.kp{S:Nat→Prop}{w w':World}{j d:Nat}{J:JR}(h:JB w j d J)(hk:Kp S w w')(hs:¬S j):JB w' j d J:=hk.keep h hs
theorem Own.kp{S:Nat→Prop}{w w':World}{B:Nat}{v:Value}{l:List UInt8}(h:Own w B v l)(hk:Kp S w w')(hs:∀ k,v.ownBlock=some k→¬S k):Own w' B v l:=h.blocks fun k e=>hk.block k (h.lt k e) (hs k e)
theorem Own.tag{w:World}{B:Nat}{v:Value}{l:List UInt8}(h:Own w B v l){g:Nat}{x:Array Value}{t:TypeId}{z:Nat×Nat}(hg:w.heap[g]? = some (.cells x t z))(ht:t≠5):v.ownBlock≠some g:=fun e=>by
  rcases h.2 with⟨rfl,_⟩|⟨b,cap,cur,rfl,_,hb,_⟩
  · simp[Value.ownBlock] at e
  · simp only[Value.ownBlock,Option.some.injEq] at e
    subst e
    rw[hg] at hb;injection hb with q;injection q with _ q _;exact ht q
theorem bigA{a b:Nat}(ha:a≤1000000)(hb:b≤1000000):a+b≤140737488355328:=by omega
theorem need_le5{n:Nat}(h:n≤500000):need n≤200:=by unfold need;omega
theorem wrapA{a b:Nat}(ha:a≤4000000000)(hb:b≤4000000000):wrap64 ((a:Int)+(b:Int))=(a:Int)+(b:Int):=IntWalk.wrap64_in _ (by omega)
theorem wrapB{a b:Nat}(ha:a≤4000000000)(hb:b≤4000000000):wrap64 ((a:Int)+(b:Int)-1)=(a:Int)+(b:Int)-1:=IntWalk.wrap64_in _ (by omega)
theorem wrapC{a:Nat}(ha:a≤4000000000):wrap64 ((a:Int)+1)=(a:Int)+1:=IntWalk.wrap64_in _ (by omega)
theorem need_mono{a b:Nat}(h:a≤b):need a≤need b:=by unfold need;omega
theorem jappend_any{w:World}{j d n0 M:Nat}{J:JR}{x:UInt8}{tx n c:Nat}{A:Option Addr}(h:JB w j d J)(hO:Own w n0 J.wv J.waits)(hn0:n0≤w.heap.size)
    (hM:J.waits.length+M≤500000) (hroom:need (J.waits.length+M)+J.used≤J.blocks) (hb:J.blocks≤100000) (hc:J.count≤4000000000) (hl:J.last≤1000000)
    (HE:∀ w',Below w.heap.size w w'→Calls Tryz.prog 233 #[.agg #[.int .u8 (x.toNat:Int),.int .i64 (tx:Int),.slice A n c]] w' fun e w2=>(∃ v l,e=.returned (.tuple #[v,.int .i64 0])∧Own w2 w'.heap.size v l∧15≤l.length∧l.length≤M)∧Below w'.heap.size w' w2) :
    Calls Tryz.prog 168 #[.pointer (some ⟨j,0,none⟩),.agg #[.int .u8 (x.toNat:Int),.int .i64 (tx:Int),.slice A n c]] w fun e w'=>e=.returned (.tuple #[.int .i64 ((J.last:Int)+1),.int .i64 0]) ∧
      ∃ v' l',JB w' j d { J with wv:=v',waits:=l',last:=J.last+1 }∧Own w' n0 v' l'∧J.waits.length+15≤l'.length∧l'.length≤J.waits.length+M∧(∀ k,v'.ownBlock=some k→J.wv.ownBlock=some k∨w.heap.size≤k)∧Kp (fun k=>k=j∨J.wv.ownBlock=some k) w w':=by
  obtain⟨W1,hW1,g1,b1,s1⟩:=box_alloc w (.cells #[.int .u8 (x.toNat:Int),.int .i64 (tx:Int),.slice A n c] 139)
  have h1:JB W1 j d J:=keepB b1 h
  have M1:=jstands_any h1
  have E1:=HE W1 b1
  have k0:W1.cell? ⟨w.heap.size,0,none⟩=some (.int .u8 (x.toNat:Int)):=cellD g1 0
  have k1:W1.cell? ⟨w.heap.size,1,none⟩=some (.int .i64 (tx:Int)):=cellD g1 1
  have k2:W1.cell? ⟨w.heap.size,2,none⟩=some (.slice A n c):=cellD g1 2
  have HS1:=Lib.hid s1
  clear s1
  go_enter Tryz.func168,Tryz.ntmps168
  go_upto_region 7 with (first
    | (go_at_call 171;with_reducible refine M1.mono ?_;rintro e w ⟨rfl,rfl⟩)
    | (go_at_call 233;with_reducible refine E1.mono ?_;rintro e w2 ⟨⟨ve,le,rfl,oe,l1,l2⟩,b2⟩))
  obtain⟨N,hN⟩:∃ N,le.length=N:=⟨_,rfl⟩
  obtain⟨Ae,ce,rfl,-,-,re⟩:=oe.sl hN
  obtain⟨wl,hwl⟩:∃ wl,J.waits.length=wl:=⟨_,rfl⟩
  obtain⟨A0,c0,hv,-,-,-⟩:=hO.sl hwl
  rw[hN] at l1 l2
  rw[hwl] at hM hroom
  have b12:=b1.trans (b2.mono b1.size)
  have h2:JB w2 j d J:=keepB b2 h1
  have nd1:=need_mono (show wl+N≤wl+M by omega)
  have ndB:=need_le5 (n:=wl+N) (by omega)
  have ND:∀ w,Calls Tryz.prog 173 #[.int .i64 ((wl:Int)+(N:Int))] w fun e w'=>e=.returned (.int .i64 ((need (wl+N):Nat):Int))∧w'=w:=fun w=>by
    have:=needs_any (wl+N) (by omega) w
    rwa[Int.natCast_add] at this
  obtain⟨nd,hnd⟩:∃ nd,need (wl+N)=nd:=⟨_,rfl⟩
  rw[hnd] at ND nd1 ndB
  have f1:decide (((J.blocks:Int)-(J.used:Int))<(nd:Int))=false:=dec_lt (by omega)
  have f4:decide ((4294967295:Int)<(J.count:Int)+(nd:Int)-1)=false:=dec_lt (by omega)
  have w1:wl≤4000000000:=by omega
  have w2':N≤4000000000:=by omega
  have w3:nd≤4000000000:=by omega
  have w4:J.last≤4000000000:=by omega
  have hbig:J.waits.length+le.length≤140737488355328:=bigA (by omega) (by omega)
  have fin1:J.waits.length+15≤(J.waits++le).length:=by rw[List.length_append];omega
  have fin2:(J.waits++le).length≤J.waits.length+M:=by rw[List.length_append];omega
  have RO:=jroom_any (w:=w2) h2 (show J.used≤J.blocks by omega) hb
  have F1:=Lib.hid fin1
  have F2:=Lib.hid fin2
  have HV:=Lib.hid hv
  have HN2:=Lib.hid hN
  have HN0:=Lib.hid (show n0≤w2.heap.size by have:=b12.size;omega)
  have y8:w2.cell? ⟨j,8,none⟩=some (.slice A0 wl c0):=(h2.cell 8).trans (congrArg some hv)
  have f0:=wrapA w1 w2'
  have f2:=wrapA hc w3
  have f3:=wrapB hc w3
  have f5:=wrapC w4
  clear w1 w2' w3 w4
  clear M1 E1 k0 k1 k2 fin1 fin2 hM hroom hwl hv l1 l2 nd1 ndB hnd hN hb hc hl hn0
  go_upto_region 8 with (go_at_call 173;with_reducible refine(ND _).mono ?_;rintro e w3 ⟨rfl,rfl⟩)
  go_upto_region 10 with (go_at_call 234;(with_reducible refine RO.mono ?_);rintro e w4 ⟨rfl,b4⟩;have h4:JB w4 j d J:=keepB b4 h2;have kk2:w4.cell? ⟨j,6,none⟩=some (.int .i64 (J.count:Int)):=h4.cell 6)
  have y4:w4.cell? ⟨j,8,none⟩=some (.slice A0 wl c0):=(h4.cell 8).trans (congrArg some HV.out)
  have b14:=b12.trans (b4.mono b12.size)
  have O4:Own w4 n0 (.slice A0 wl c0) J.waits:=by
    have:=hO.belowS b14
    rwa[HV.out] at this
  have r4:=re.belowS b4
  clear f1 f2 f3 f4 y8 RO re ND f0
  have HN4:n0≤w4.heap.size:=Nat.le_trans HN0.out b4.size
  have HB14:=Lib.hid b14
  have neJ:(Value.slice A0 wl c0).ownBlock≠some j:=O4.tag h4 (by decide)
  clear b12 b4 b2 b1 g1 h1 h2 oe b14
  obtain⟨L,hL⟩:∃ L,(J.waits++le).length=L:=⟨_,rfl⟩
  have HL:=Lib.hid hL
  clear hL
  go_upto_region 11 with (at_builtin;refine apB rfl (.tmp 50) (.tmp 51) rfl n0 _ _ rfl O4 _ Ae N ce le rfl HN2.out.symm r4 hbig HN4 ?_;intro v5 w5 own5 b5 q1 q2;obtain⟨A5,c5,rfl,-,-,-⟩:=own5.sl HL.out;have h5:w5.heap[j]? = some (.cells (jV j d J) 232 (0,0)):=(q2.block j h4.lt (fun e=>neJ e.symm)).trans h4;have y5:w5.cell? ⟨j,8,none⟩=some J.wv:=cellD h5 8;have x5:w5.frozen? ⟨j,8,none⟩=false:=frozenD h5 8;obtain⟨W6,hW6,g6,k6,s6⟩:=set_name 8 h5 (.slice A5 L c5))
  have d9:W6.cell? ⟨j,9,none⟩=some (.int .i64 (J.last:Int)):=cellD g6 9
  have x9:W6.frozen? ⟨j,9,none⟩=false:=frozenD g6 9
  obtain⟨W7,hW7,g7,k7,s7⟩:=set_name 9 g6 (.int .i64 ((J.last:Int)+1))
  have d9':W7.cell? ⟨j,9,none⟩=some (.int .i64 ((J.last:Int)+1)):=cellD g7 9
  have HK:=Lib.hid ((((Kp.of HB14.out).then ((Kp.grow q2).weaken fun k e=>.inr (HV.out▸e))).then (k6.weaken fun k e=>.inl e)).then (k7.weaken fun k e=>.inl e):Kp (fun k=>k=j∨J.wv.ownBlock=some k) _ _)
  have neB:(Value.slice A5 L c5).ownBlock≠some j:=own5.tag h5 (by decide)
  have HO:=Lib.hid ((own5.kp k6 (fun k e1 e2=>neB (by rw[e1,e2]))).kp k7 (fun k e1 e2=>neB (by rw[e1,e2])))
  have H7:=Lib.hid g7
  have Q1:=Lib.hid (show(Value.slice A5 L c5).ownBlock=(Value.slice A0 wl c0).ownBlock∨(Value.slice A5 L c5).ownBlock=some w4.heap.size from q1)
  clear g6 g7 k6 k7 s6 s7 h5 own5 b5 q1 q2 O4 h4
  go_wp2
  go_ret2
  refine⟨rfl,.slice A5 L c5,J.waits++le,?_,HO.out,F1.out,F2.out,fun k e=>?_,HK.out⟩
  · unfold JB;rw[H7.out];rfl
  · rcases Q1.out with a|a
    · left;rw[HV.out,← a];exact e
    · right
      rw[e] at a
      injection a with a
      rw[a]
      exact HB14.out.size
theorem jnew_any{Z:Nat→Prop}{w:World}{n0 d db f b ep:Nat}{pv:Value}{P:PD}(h:Dk Z w n0 d db pv P)(h1:1≤b)(h2:b≤1024)(h3:f+b≤P.bs.length)(hP:P.bs.length≤10000)(h4:1≤ep)(h5:ep≤1000000) :
    Calls Tryz.prog 156 #[.pointer (some ⟨d,0,none⟩),.int .i64 (f:Int),.int .i64 (b:Int),.int .i64 (ep:Int),.int .i64 0,.int .i64 1] w fun e w'=>(∃ j,e=.returned (.tuple #[.pointer (some ⟨j,0,none⟩),.int .i64 0])∧JB w' j d ⟨f,b,ep,0,1,0,.slice none 0 0,[],0,0⟩∧w.heap.size≤j)∧Below w.heap.size w w':=by
  have B:=fun w' (hb:Below w.heap.size w w')=>blocks_any (h.below hb).box
  have hp0:¬((P.bs.length:Int)=0):=by omega
  obtain⟨W1,hW1,g1,b1,s1⟩:=box_alloc w (.cells #[.pointer (some ⟨d,0,none⟩),.int .i64 (f:Int),.int .i64 (b:Int),.int .i64 (ep:Int),.pointer none,.int .i64 0,.int .i64 1,.int .i64 0,.slice none 0 0,.int .i64 0,.int .i64 0,.bool false] 232)
  have B0:=B w (Below.refl _ _)
  have B1:=fun n=>B (W1.drewN n) (b1.trans (drewN_below W1 _ n))
  obtain⟨N,hN⟩:∃ N,P.bs.length=N:=⟨_,rfl⟩
  rw[hN] at B0 hp0 h3 hP
  simp only[hN] at B1
  have c0:W1.cell? ⟨w.heap.size,0,none⟩=some (.pointer (some ⟨d,0,none⟩)):=cellD g1 0
  have c1:W1.cell? ⟨w.heap.size,1,none⟩=some (.int .i64 (f:Int)):=cellD g1 1
  have c2:W1.cell? ⟨w.heap.size,2,none⟩=some (.int .i64 (b:Int)):=cellD g1 2
  have c3:W1.cell? ⟨w.heap.size,3,none⟩=some (.int .i64 (ep:Int)):=cellD g1 3
  have q1:(1:Int)≤(b:Int):=by omega
  have q2:(b:Int)≤1024:=by omega
  have q3:(0:Int)≤(f:Int):=by omega
  have q4:(f:Int)≤(N:Int)-(b:Int):=by omega
  have q5:(1:Int)≤(ep:Int):=by omega
  have q6:(ep:Int)≤4294967295:=by omega
  have q7:(0:Int)<(b:Int):=by omega
  have f0:IntKind.i64.wrap ((N:Int)-(b:Int))=(N:Int)-(b:Int):=by rw[IntKind.wrap_i64];omega
  have MB:Calls Tryz.prog 215 #[.pointer (some ⟨w.heap.size,0,none⟩),.int .i64 0,.int .i64 1] W1 fun e w'=>e=.returned (.bool true)∧Below W1.heap.size W1 w':=by
    have q8:0<b:=by omega
    clear hN h1 h2 h3 h4 h5 hP hp0
    go_enter Tryz.func215,Tryz.ntmps215
    go_upto_region 1 with fail
    simp only[List.append_eq,List.cons_append,List.nil_append]
    go_quiet (first
      | (go_at_call 129;refine Calls.quiet_of_same (B1 _)))
    go_wp2
    go_ret
    exact⟨rfl,drewN_below _ _ _⟩
  clear s1 c0 c1 c2 c3 q1 q2 q3 q4 q5 q6 q7 f0 B
  have HN:=Lib.hid hN
  clear hN
  go_enter Tryz.func156,Tryz.ntmps156
  go_wp2_with (first
    | (go_at_call 129;(with_reducible refine B0.mono ?_);rintro e w ⟨rfl,rfl⟩)
    | (go_at_call 215;(with_reducible refine MB.mono ?_);rintro e w2 ⟨rfl,b2⟩;have g1':=keepB b2 g1;have d4:w2.cell? ⟨w.heap.size,4,none⟩=some (.pointer none):=cellD g1' 4;have x4:w2.frozen? ⟨w.heap.size,4,none⟩=false:=frozenD g1' 4;obtain⟨W2,hW2,g2,k2,s2⟩:=set_name 4 g1' (.pointer (some ⟨w.heap.size,0,none⟩));clear s2))
  go_ret2
  refine⟨⟨_,rfl,?_,Nat.le_refl _⟩,(b1.trans (b2.mono b1.size)).trans (k2.below (Nat.le_trans b1.size b2.size) fun k hk=>by omega)⟩
  unfold JB;rw[g2];rfl
end Go.Proofs.YtdbkocfbhpgpkaaGreat
