/-
  tree.place of a key that is there; a page's cells with one of them set.
-/
import Derived.Test.YtdbkocfbhpgpkaaGreatb24
import Derived.Deep.AppendSrc
import Derived.Lib.BufSteps
set_option linter.unusedVariables false
set_option linter.unusedSimpArgs false
namespace Go.Proofs.YtdbkocfbhpgpkaaGreat
open Go Go.RowKit Go.Shelf
open Go.Ev (PgM PageOk CellsOut rowsOf rowsV rowV rowsOf_len BelowIs putL putL_get putL_size)
set_option maxRecDepth 100000
set_option maxHeartbeats 4000000
theorem zeroCell(w:World):(zeroValue 219).run Tryz.prog w=.ok (.agg #[.slice none 0 0,.slice none 0 0]) w:=by kernel_rfl
theorem sizeCell(w:World):(sizeOf (Tryz.prog.elem 114)).run Tryz.prog w=.ok 2 w:=by kernel_rfl
theorem elemCell:Tryz.prog.underlying 114=some (.slice (Tryz.prog.elem 114)):=by kernel_rfl
theorem setC_blk{w:World}{b:Nat}{C:Array Value}{e:TypeId}(h:w.heap[b]? = some (.cells C e (0,0)))(o:Nat)(vs:List Value)(hle:o+vs.length≤C.size)(h1:∀ v∈vs,v.oneCell'=true) :
    ∃ W,w.setCells b o vs=W∧W.heap[b]? = some (.cells (putL C o vs) e (0,0))∧Kp (·=b) w W∧W.heap.size=w.heap.size:=by
  refine⟨_,setCells_blk h o vs hle h1 (Go.Ev.free_none _),?_,⟨rfl,rfl,rfl,by simp,fun k hk hs=>?_⟩,by simp⟩
  · simp[hlt h]
  · have:b≠k:=fun e=>hs e.symm
    simp[this]
theorem del_cells{w:World}{g N M d i:Nat}{cur:Array Value}(hg:w.heap[g]? = some (.cells cur 219 (0,0)))(hi:N=i+M)(hn:N+1≤d)(hd:cur.size=d * 2)(hN:N≤2000)(h1:∀ (k:Nat) v,k<(N+1) * 2→cur[k]? = some v→v.oneCell'=true) :
    Calls Tryz.prog 253 #[.slice (some ⟨g,0,none⟩) (N+1) d,.int .i64 (i:Int),.int .i64 ((i:Int)+1)] w fun e w'=>e=.returned (.slice (some ⟨g,0,none⟩) N d)∧(∃ cur',w'.heap[g]? = some (.cells cur' 219 (0,0))∧cur'.size=cur.size∧∀ k,k<N * 2→cur'[k]? = if k<i * 2 then cur[k]? else cur[k+2]?)∧Kp (·=g) w w'∧w'.heap.size=w.heap.size:=by
  have f1:((i:Int)==(i:Int)+1)=false:=by simp;omega
  have f2:(i:Int)+1≤((N+1:Nat):Int):=by omega
  have f3:((N+1:Nat):Int)≤(d:Int):=by omega
  have f4:(i:Int)≤(d:Int):=by omega
  have f5:(i:Int)+1≤(N:Int)+1:=by omega
  have f6:i+1≤N+1:=by omega
  obtain⟨W1,hW1,e1,b1⟩:=drew_name w
  have g1:W1.heap[g]? = some (.cells cur 219 (0,0)):=by rw[e1];exact hg
  obtain⟨A,SL,SA⟩:∃ A,(∀ w,(Instr.slice 114 (.slice (some ⟨g,0,none⟩) (N+1) d) (some (.int .i64 ((i:Int)+1))) none none).run Tryz.prog w=.ok (.slice (some A) M (d-(i+1))) w)∧(0<M→A=⟨g,(i+1) * 2,none⟩):=by
    by_cases hdi:d=i+1
    · refine⟨⟨g,0,none⟩,fun w=>?_,fun h=>by omega⟩
      rw[run_slice_l w _ _ _ _ elemCell .i64 ((i:Int)+1) (by omega) (by omega),sizeCell]
      have e:((i:Int)+1).toNat=i+1:=by omega
      simp only[Result.andThen_ok,sliced,e,if_pos hdi]
      rw[show N+1-(i+1)=M by omega]
    · refine⟨⟨g,(i+1) * 2,none⟩,fun w=>?_,fun h=>rfl⟩
      rw[run_slice_l w _ _ _ _ elemCell .i64 ((i:Int)+1) (by omega) (by omega),sizeCell]
      have e:((i:Int)+1).toNat=i+1:=by omega
      simp only[Result.andThen_ok,sliced,e,if_neg hdi]
      rw[show N+1-(i+1)=M by omega]
      simp[Addr.add]
  obtain⟨i0,hin,hz0,hs0,hb0⟩:=info_parts infoCell
  obtain⟨news,hnews⟩:∃ news,(cur.toList.drop ((i+1) * 2)).take (M * 2)=news:=⟨_,rfl⟩
  have hnl:news.length=M * 2:=by rw[← hnews];simp;omega
  have hng:∀ j,j<M * 2→news[j]? = cur[(i+1) * 2+j]?:=fun j hj=>by rw[← hnews,List.getElem?_take,if_pos hj,List.getElem?_drop];simp
  have hn1:∀ u∈news,u.oneCell'=true:=fun u hu=>by
    obtain⟨j,hj,e⟩:=List.getElem_of_mem hu
    have:=hng j (by omega)
    rw[List.getElem?_eq_getElem hj,e] at this
    exact h1 _ _ (by omega) this.symm
  have hsrc:Src Tryz.prog i0.size 114 (.slice (some A) M (d-(i+1))) M news W1:=by
    refine Src.ofSlice W1 Tryz.underlying114 A M _ news (by rw[hs0];exact hnl) (fun j u hu=>?_) hn1
    have hj:j<M * 2:=by have:=(List.getElem?_eq_some_iff.1 hu).1;omega
    rw[SA (by omega)]
    have:(⟨g,(i+1) * 2,none⟩:Addr).add j=⟨g,(i+1) * 2+j,none⟩:=by unfold Addr.add;split<;>simp_all
    rw[this,cellD g1,← hng j hj];exact hu
  obtain⟨W2,hW2,g2,k2,s2⟩:=setC_blk g1 (i * 2) news (by omega) hn1
  have hpg:∀ k,(putL cur (i * 2) news)[k]? = if i * 2≤k∧k<i * 2+M * 2 then cur[k+2]? else cur[k]?:=fun k=>by
    rw[putL_get _ _ _ _ (by omega),hnl]
    split
    · rw[hng _ (by omega)];congr 1;omega
    · rfl
  have hps:(putL cur (i * 2) news).size=cur.size:=putL_size _ _ _
  obtain⟨C2,hC2⟩:∃ C2,putL cur (i * 2) news=C2:=⟨_,rfl⟩
  rw[hC2] at g2 hpg hps
  have CL:(Builtin.clear_ #[114] 0 #[.slice (some ⟨g,N * 2,none⟩) 1 (d-N)]).run Tryz.prog W2=.ok (.tuple #[]) (W2.setCells g (N * 2) [.slice none 0 0,.slice none 0 0]):=by
    have hst:=run_storeCells_cells (P:=Tryz.prog) g (N * 2) [.slice none 0 0,.slice none 0 0] 0 W2 (fun j hj=>by rw[cellD g2];simp at hj ⊢;omega) (fun j hj=>frozenD g2 _) (by simp[Value.oneCell'])
    simp only[Nat.add_zero] at hst
    have hz:(Builtin.zeroCells (Value.agg #[.slice none 0 0,.slice none 0 0]).cells 1).toList=[.slice none 0 0,.slice none 0 0]:=by kernel_rfl
    simp[Builtin.clear_,run_underlying Tryz.underlying114,zeroCell,hz,hst,Result.andThen]
  obtain⟨W3,hW3,g3,k3,s3⟩:=setC_blk g2 (N * 2) [.slice none 0 0,.slice none 0 0] (by simp;omega) (by simp[Value.oneCell'])
  rw[hW3] at CL
  have HR:=Lib.hid (And.intro hd (And.intro hps hpg))
  have HS:=Lib.hid (And.intro s2 s3)
  have HE:=Lib.hid (And.intro e1 (And.intro hi hn))
  have HK:=Lib.hid (And.intro k2 k3)
  have HB:=Lib.hid b1
  have HW2:=Lib.hid hW2
  have HNL:=Lib.hid hnl
  have HG1:=Lib.hid g1
  have h2:i+M≤d:=by omega
  clear hg hd hi e1 b1 hnews hnl hng hn1 hpg hps hC2 s2 s3 k2 k3 hW2 hW3 SA h1
  go_enter Tryz.func253,Tryz.ntmps253
  go_upto_region 5 with fail
  refine stillW 6 (by kernel_rfl) (by kernel_rfl) W1 hW1 ?_
  simp only[List.take_succ_cons,List.take_zero,List.drop_succ_cons,List.drop_zero]
  repeat still_step
  refine wpStill_nil ?_
  refine wpList_append_room_src W1 rfl (.tmp 22) (.tmp 25) 114 114 rfl 219 i0 Tryz.underlying114 hin g 0 i d rfl _ rfl M news hsrc h2 ?_ ?_ ?_
  · intro j hj
    have:=HG1.out;have:=HNL.out;have:=HR.out.1;have:=HE.out
    rw[hs0,cellD HG1.out];simp;omega
  · intro j _
    exact frozenD HG1.out _
  rw[hs0,Nat.zero_add,HW2.out,show i+M=N by have:=HE.out;omega]
  obtain⟨hd,hps,hpg⟩:=HR.out
  have f7:(N:Int)≤(N:Int)+1:=by omega
  have f8:(N:Int)+1≤(d:Int):=by omega
  have f9:¬d=N:=by have:=HE.out;omega
  clear hd hps hpg
  go_wp2
  go_ret
  obtain⟨hd,hps,hpg⟩:=HR.out
  obtain⟨s2,s3⟩:=HS.out
  obtain⟨e1,hi,hn⟩:=HE.out
  obtain⟨k2,k3⟩:=HK.out
  refine⟨rfl,⟨_,g3,by rw[putL_size];exact hps,fun k hk=>?_⟩,((Kp.of HB.out).then k2).then k3,by rw[s3,s2,e1]⟩
  rw[putL_get _ _ _ _ (by simp;omega),if_neg (by simp;omega),hpg]
  by_cases hk2:k<i * 2
  · rw[if_neg (by omega),if_pos hk2]
  · rw[if_pos (by omega),if_neg hk2]
end Go.Proofs.YtdbkocfbhpgpkaaGreat
namespace Go.Proofs.YtdbkocfbhpgpkaaGreat
open Go Go.RowKit Go.Shelf
open Go.Ev (PgM PageOk CellsOut rowsOf rowsV rowV rowsOf_len BelowIs)
set_option maxRecDepth 100000
set_option maxHeartbeats 4000000
theorem tdel_pgm{w:World}{n₀ d i N:Nat}{A:Option Addr}{cs:List NC}(hout:CellsOut 219 n₀ w (.slice A (N+1) d) cs)(hl:cs.length=N+1)(hi:i≤N)(hn:N≤2000)(hn0:n₀≤w.heap.size) :
    Calls Tryz.prog 253 #[.slice A (N+1) d,.int .i64 (i:Int),.int .i64 ((i:Int)+1)] w fun e w'=>∃ g,e=.returned (.slice (some ⟨g,0,none⟩) N d)∧PgM w' w'.heap.size (some ⟨g,0,none⟩) (cs.take i++cs.drop (i+1))∧Below n₀ w w'∧Kp (fun k=>(Value.slice A (N+1) d).ownBlock=some k) w w'∧(∀ (M:Nat) (w2:World) (xs:Array Value) (t:TypeId),n₀≤M→w'.heap[M]? = some (.cells xs t (0,0))→t≠5→t≠219→Kp (·=M) w' w2→PgM w2 w2.heap.size (some ⟨g,0,none⟩) (cs.take i++cs.drop (i+1))):=by
  obtain⟨gs,hg,hrow,h3,h4,hc⟩:=hout
  obtain⟨r1,r2⟩:=mkCV_row cs gs hg
  rw[r1,hl] at hrow
  rcases hrow.2 with⟨e,e0⟩|⟨g,cap,cur,e,hb,hg2,e4,e5,e6,e7⟩
  · omega
  injection e with e1 e2 e3
  subst e1 e3
  have hone:∀ v∈fmC (mkCV cs gs),v.oneCell'=true:=fun v hv=>by
    unfold fmC at hv
    obtain⟨c,-,hc⟩:=List.mem_flatMap.1 hv
    simp at hc
    rcases hc with rfl|rfl<;>rfl
  have hcur:∀ k,k<(N+1) * 2→cur[k]? = (fmC (mkCV cs gs))[k]?:=fun k hk=>by
    rw[← e7,List.getElem?_take,if_pos hk];simp
  refine(del_cells (M:=N-i) hg2 (by omega) e4 e6 hn (fun k v hk hv=>?_)).mono ?_
  · rw[hcur k hk] at hv
    exact hone v (List.mem_of_getElem? hv)
  rintro e w' ⟨rfl,⟨cur',hg',hs',hcell⟩,kk,-⟩
  have kk':Kp (fun k=>(Value.slice (some ⟨g,0,none⟩) (N+1) d).ownBlock=some k) w w':=kk.weaken fun k e=>by rw[e];rfl
  have bel:Below n₀ w w':=⟨kk.os,kk.tape,kk.output,kk.size,fun k hk=>kk.block k (by omega) fun e=>by omega⟩
  suffices key:∀ w2:World,w2.heap[g]? = w'.heap[g]?→(∀ (v:Value) (l:List UInt8),Own w' 0 v l→Own w2 0 v l)→Below n₀ w w2→PgM w2 w2.heap.size (some ⟨g,0,none⟩) (cs.take i++cs.drop (i+1)) by
    exact⟨g,rfl,key w' rfl (fun _ _ h=>h) bel,bel,kk',fun M w2 xs t hN hx t5 tc k2=>key w2 (k2.block g (hlt hg') fun e=>by rw[← e,hg'] at hx;injection hx with hx;injection hx with _ hx;exact tc hx.symm) (fun v l o=>o.kp k2 fun k q1 q2=>o.tag hx t5 (q2▸q1)) (bel.trans ⟨k2.os,k2.tape,k2.output,k2.size,fun k hk=>k2.block k (Nat.lt_of_lt_of_le hk (Nat.le_trans hn0 kk.size)) (by omega)⟩)⟩
  intro w2 hgw2 hown2 bel2
  have ok:=mkCV_ok (w:=w2) (B:=w2.heap.size) (Nat.le_refl _) cs gs hg (fun k p g' h1 h2=>by
    have o:=(hc k p g' h1 h2).2
    exact hown2 _ _ ((o.kp kk fun q q1 q2=>by
      subst q2
      exact o.tag hg2 (by decide) q1).down (Nat.zero_le _)))
  have hlj:((mkCV cs gs).take i).length=i:=by simp[r2];omega
  have hlj2:(cs.take i).length=i:=by simp;omega
  refine⟨(mkCV cs gs).take i++(mkCV cs gs).drop (i+1),by simp[r2],fun _=>⟨g,0,rfl,hlt (hgw2.trans hg'),fun k hk=>?_⟩,fun k hk hk2=>?_⟩
  · have hkN:k<N:=by simp[r2] at hk;omega
    have e1:w2.cell? ⟨g,0+k * 2,none⟩=cur'[k * 2]?:=by rw[Nat.zero_add,← cellD hg'];exact cellK hgw2
    have e2:w2.cell? ⟨g,0+k * 2+1,none⟩=cur'[k * 2+1]?:=by rw[Nat.zero_add,← cellD hg'];exact cellK hgw2
    rw[e1,e2,hcell _ (by omega),hcell _ (by omega)]
    by_cases hki:k<i
    · rw[if_pos (by omega),if_pos (by omega),hcur _ (by omega),hcur _ (by omega)]
      have:=fmC_get (mkCV cs gs) k (by omega)
      simp only[List.getElem_append_left (show k<((mkCV cs gs).take i).length by omega),List.getElem_take]
      exact this
    · rw[if_neg (by omega),if_neg (by omega),hcur _ (by omega),hcur _ (by omega)]
      have:=fmC_get (mkCV cs gs) (k+1) (by omega)
      have e3:((mkCV cs gs).take i++(mkCV cs gs).drop (i+1))[k]=(mkCV cs gs)[k+1]'(by omega):=by
        rw[List.getElem_append_right (by omega)]
        simp only[List.getElem_drop]
        congr 1
        omega
      rw[e3,show k * 2+2=(k+1) * 2 by omega,show k * 2+1+2=(k+1) * 2+1 by omega]
      exact this
  · have hkN:k<N:=by simp[r2] at hk;omega
    by_cases hki:k<i
    · have:=ok k (by omega) (by omega)
      simp only[List.getElem_append_left (show k<((mkCV cs gs).take i).length by omega),List.getElem_append_left (show k<(cs.take i).length by omega),List.getElem_take]
      exact this
    · have:=ok (k+1) (by omega) (by omega)
      have e3:((mkCV cs gs).take i++(mkCV cs gs).drop (i+1))[k]=(mkCV cs gs)[k+1]'(by omega):=by
        rw[List.getElem_append_right (by omega)]
        simp only[List.getElem_drop]
        congr 1
        omega
      have e4:(cs.take i++cs.drop (i+1))[k]=cs[k+1]'(by omega):=by
        rw[List.getElem_append_right (by omega)]
        simp only[List.getElem_drop]
        congr 1
        omega
      rw[e3,e4]
      exact this
end Go.Proofs.YtdbkocfbhpgpkaaGreat
namespace Go.Proofs.YtdbkocfbhpgpkaaGreat
open Go Go.RowKit Go.Shelf
open Go.Ev (PgM PageOk CellsOut rowsOf rowsV rowV rowsOf_len BelowIs putL putL_get putL_size)
set_option maxRecDepth 100000
set_option maxHeartbeats 4000000
theorem tplace_yes(cs:List NC)(A B:Option Addr)(n c m d i:Nat)(l:List UInt8)(w:World)(hn:n=cs.length)(hn1:n≤100000)(hp:PgM w w.heap.size A cs)(hr:Rd w w.heap.size B l)(hm:m=l.length)(hj:BelowIs cs l (i+1))(hk:∀ h:i<cs.length,cs[i].key=l) :
    Calls Tryz.prog 247 #[.agg #[.int .u8 1,.int .i64 0,.slice A n c],.slice B m d] w fun e w'=>e=.returned (.tuple #[.int .i64 (i:Nat),.bool true])∧Below w.heap.size w w':=by
  obtain⟨W1,hW1,g1,b1,s1⟩:=box_alloc w (.cells #[.int .u8 1,.int .i64 0,.slice A n c] 116)
  have BC:=below_call (.int .u8 1) (.int .i64 0) cs A B n c m d (i+1) l W1 rfl rfl hn hn1 ((hp.below b1).more b1.size) ((hr.below b1).more b1.size) hm hj
  have x0:W1.cell? ⟨w.heap.size,0,none⟩=some (.int .u8 1):=cellD g1 0
  have x1:W1.cell? ⟨w.heap.size,1,none⟩=some (.int .i64 0):=cellD g1 1
  have x2:W1.cell? ⟨w.heap.size,2,none⟩=some (.slice A n c):=cellD g1 2
  have HN:=Lib.hid hn
  have HM:=Lib.hid hm
  clear s1 hn hm
  have hi:i<cs.length:=hj.1
  obtain⟨b,o,ka,kc,va,vc,rfl,hbb,e1,e2,hk1,hv1⟩:=hp.at_ hi
  rw[show(((i+1:Nat)):Int)=(i:Int)+1 from rfl] at BC
  have hib:i<100000:=by have:=HN.out;omega
  have hw:wrap64 ((i:Int)+1-1)=(i:Int):=by rw[IntWalk.wrap64_in _ (by omega)];omega
  have f1:decide ((0:Int)<(i:Int)+1)=true:=by simp<;>omega
  have f2:(i:Int)<(n:Int):=by have:=HN.out;omega
  have f3:((i:Int)).toNat=i:=by omega
  have hne:decide (cs[i].key=l)=true:=by simp;exact hk hi
  have HW:=Lib.hid hW1
  go_enter Tryz.func247,Tryz.ntmps247
  go_upto_region 2 with (go_at_call 277;(with_reducible refine BC.mono ?_);rintro e w2 ⟨rfl,b2⟩)
  have b12:=b1.trans (b2.mono b1.size)
  have y2:w2.cell? ⟨w.heap.size,2,none⟩=some (.slice (some ⟨b,o,none⟩) n c):=cellD (keepB b2 g1) 2
  have z1:w2.cell? ⟨b,o+i * 2,none⟩=some (.slice ka cs[i].kn kc):=(b12.cell (p:=⟨b,o+i * 2,none⟩) hbb).trans e1
  have OS:=osame_any ka B kc d cs[i].kn m cs[i].key l w2 ((hk1.below b12).more b12.size) ((hr.below b12).more b12.size) (by simp[NC.key,bl]) HM.out
  rw[hne] at OS
  clear hk
  go_wp2_with (go_at_call 97;(with_reducible refine OS.mono ?_);rintro e w3 ⟨rfl,rfl⟩)
  go_ret2
  exact⟨rfl,b12⟩
theorem out_blk{n₀ n d:Nat}{w:World}{A:Option Addr}{cs:List NC}(h:CellsOut 219 n₀ w (.slice A n d) cs)(hl:cs.length=n)(h0:0<n):∃ g cur,A=some ⟨g,0,none⟩∧n₀≤g∧w.heap[g]? = some (.cells cur 219 (0,0))∧n * 2≤cur.size∧n≤d:=by
  obtain⟨gs,hg,hrow,-⟩:=h
  rcases hrow.2 with⟨e,e0⟩|⟨g,cap,cur,e,hb,hg2,e4,e5,e6,e7⟩
  · omega
  injection e with e1 e2 e3
  subst e1 e3
  exact⟨g,cur,rfl,hb,hg2,by omega,by omega⟩
theorem set_pgm{n₀ n d g i kc vc:Nat}{w w5:World}{ka va:Option Addr}{cs:List NC}{nc:NC}{cur:Array Value}(hout:CellsOut 219 n₀ w (.slice (some ⟨g,0,none⟩) n d) cs)(hl:cs.length=n)(hi:i<n)(hg:w.heap[g]? = some (.cells cur 219 (0,0)))
    (g5:w5.heap[g]? = some (.cells (putL cur (i * 2+0) [.slice ka nc.kn kc,.slice va nc.vn vc]) 219 (0,0))) (k5:Kp (·=g) w w5) (hka:Rd w5 w5.heap.size ka nc.key) (hva:Rd w5 w5.heap.size va nc.val):PgM w5 w5.heap.size (some ⟨g,0,none⟩) (cs.set i nc):=by
  obtain⟨gs,hgl,hrow,h3,h4,hc⟩:=hout
  obtain⟨r1,r2⟩:=mkCV_row cs gs hgl
  rw[r1,hl] at hrow
  rcases hrow.2 with⟨e,e0⟩|⟨g',cap,cur',e,hb,hg2,e4,e5,e6,e7⟩
  · omega
  injection e with e1 e2 e3
  injection e1 with e1
  injection e1 with e1
  subst e1
  rw[hg] at hg2
  injection hg2 with hg2
  injection hg2 with hg2
  subst hg2
  have ok:=mkCV_ok (w:=w5) (B:=w5.heap.size) (Nat.le_refl _) cs gs hgl (fun k p g' h1 h2=>by
    have o:=(hc k p g' h1 h2).2
    exact(o.kp k5 fun q q1 q2=>by
      subst q2
      exact o.tag hg (by decide) q1).down (Nat.zero_le _))
  have hcell:∀ k,k<n * 2→w5.cell? ⟨g,0+k,none⟩=if i * 2≤k∧k<i * 2+2 then[.slice ka nc.kn kc,Value.slice va nc.vn vc][k-i * 2]? else(fmC (mkCV cs gs))[k]?:=fun k hk=>by
    rw[Nat.zero_add,cellD g5,putL_get _ _ _ _ (by simp;omega)]
    simp only[Nat.add_zero,List.length_cons,List.length_nil]
    split
    · rfl
    · rw[← e7,List.getElem?_take,if_pos hk];simp
  refine⟨(mkCV cs gs).set i ⟨ka,nc.kn,kc,va,nc.vn,vc⟩,by simp[r2],fun _=>⟨g,0,rfl,hlt g5,fun k hk=>?_⟩,fun k hk hk2=>?_⟩
  · have hkn:k<n:=by simp[r2] at hk;omega
    rw[hcell (k * 2) (by omega),Nat.add_assoc,hcell (k * 2+1) (by omega)]
    by_cases hki:k=i
    · subst hki
      rw[if_pos (by omega),if_pos (by omega)]
      simp[CV.k,CV.v]
    · rw[if_neg (by omega),if_neg (by omega)]
      simp only[List.getElem_set_ne (Ne.symm hki)]
      exact fmC_get (mkCV cs gs) k (by omega)
  · have hkn:k<n:=by simp[r2] at hk;omega
    by_cases hki:k=i
    · subst hki
      simp only[List.getElem_set_self]
      exact⟨trivial,trivial,hka,hva⟩
    · simp only[List.getElem_set_ne (Ne.symm hki)]
      exact ok k (by omega) (by omega)
end Go.Proofs.YtdbkocfbhpgpkaaGreat
