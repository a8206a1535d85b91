/-
  journal.Journal.Free, Flush, on a disk that fails nowhere.
-/
import Derived.Test.YtdbkocfbhpgpkaaGreatb19
import Derived.Test.YtdbkocfbhpgpkaaGreatb03
import Derived.Test.YtdbkocfbhpgpkaaGreatb05
set_option linter.unusedVariables false
set_option linter.unusedSimpArgs false
namespace Go.Proofs.YtdbkocfbhpgpkaaGreat
open Go Go.RowKit
set_option maxRecDepth 100000
set_option maxHeartbeats 1600000
variable {Z:Nat→Prop}
theorem tmod_nat(a b c:Nat):((a:Int)+(b:Int)).tmod (c:Int)=(((a+b) % c:Nat):Int):=by
  rw[Int.tmod_eq_emod_of_nonneg (by omega),Int.natCast_emod,Int.natCast_add]
theorem div_rem(x:Int)(b m:Nat)(hb:0<b)(h:x.tmod (b:Int)=(m:Int))(w:World):(Op.intDiv .rem .i64 x (b:Int)).run Tryz.prog w=.ok (.int .i64 (m:Int)) w:=by
  unfold Op.intDiv
  rw[if_neg (by omega),h]
  rfl
def JR.flushed(J:JR)(m:Nat):JR:={ J with pos:=(J.pos+m) % J.blocks,count:=J.count+m,used:=J.used+m,wv:=.slice none 0 0,waits:=[],synced:=J.last }
theorem jflush_none{w:World}{j d c:Nat}{A:Option Addr}{J:JR}(h:JB w j d J)(hw:J.wv=.slice A 0 c):Calls Tryz.prog 76 #[.pointer (some ⟨j,0,none⟩)] w fun e w'=>e=.returned (.int .i64 0)∧w'=w:=by
  have c8:w.cell? ⟨j,8,none⟩=some (.slice A 0 c):=by rw[← hw];exact h.cell 8
  have M:=jstands_any h
  go_enter Tryz.func76,Tryz.ntmps76
  go_wp2_with (go_at_call 171;with_reducible refine M.mono ?_;rintro e w ⟨rfl,rfl⟩)
  go_ret
  exact⟨rfl,rfl⟩
theorem jflush_any{w:World}{n0 d db j g n c:Nat}{pv:Value}{P:PD}{J:JR}{l:List UInt8}(h:Dk Z w n0 d db pv P)(hf:P.Fine)(hws:P.ws=[])(hj:JB w j d J)
    (hv:J.wv=.slice (some ⟨g,0,none⟩) n c) (hS:Sl w g n c l) (hn0:0<n) (hn:n≤250000) (h1:J.first+J.blocks≤P.bs.length) (h2:P.bs.length≤100000) (h3:J.pos≤90000) (h5:J.count≤4000000000) (h6:0<J.blocks) (h7:J.used≤90000) :
    Calls Tryz.prog 76 #[.pointer (some ⟨j,0,none⟩)] w fun e w'=>e=.returned (.int .i64 0) ∧
      (∃ pv' P',Dk Z w' n0 d db pv' P'∧P'.Fine∧P'.ws=[]∧P'.bs.length=P.bs.length∧Off J.first (J.first+J.blocks) P.vis P'.vis)∧JB w' j d (J.flushed (need n))∧∃ w1,Fr n0 d db w w1∧Kp (·=j) w1 w':=by
  have hneed:=need_le hn
  have M:=jstands_any hj
  have c0:w.cell? ⟨j,0,none⟩=some (.pointer (some ⟨d,0,none⟩)):=hj.cell 0
  have c5:w.cell? ⟨j,5,none⟩=some (.int .i64 (J.pos:Int)):=hj.cell 5
  have c6:w.cell? ⟨j,6,none⟩=some (.int .i64 (J.count:Int)):=hj.cell 6
  have c8:w.cell? ⟨j,8,none⟩=some (.slice (some ⟨g,0,none⟩) n c):=by rw[← hv];exact hj.cell 8
  have N:=fun w=>needs_any n (by omega) w
  have hRB:∀ w',w'.heap[j]? = w.heap[j]?→RB w' j ⟨d,J.first,J.blocks,J.epoch⟩:=fun w' e=>by
    have hj':JB w' j d J:=e.trans hj
    exact⟨hj'.cell 0,hj'.cell 1,hj'.cell 2,hj'.cell 3⟩
  have hne:¬n=0:=by omega
  go_enter Tryz.func76,Tryz.ntmps76
  go_wp2_with (go_at_call 171;with_reducible refine M.mono ?_;rintro e w ⟨rfl,rfl⟩)
  have DD:Below w.heap.size w w.drew:=⟨rfl,rfl,rfl,Nat.le_refl _,fun _ _=>rfl⟩
  have RW:=rwrite_any (w:=w.drew) (R:=⟨d,J.first,J.blocks,J.epoch⟩) (j:=j) (s:=J.pos) (q:=J.count) (h.below DD) hf hws hj (fun w' e=>hRB w' e) rfl (hS.same rfl) hn h1 h2 h3 h5 h6
  have HD:=h.below DD
  have hjD:w.drew.heap[j]? = some (.cells (jV j d J) 232 (0,0)):=hj
  have k:=And.intro c5 (And.intro c6 c8)
  have AJ:∀ w2,Fr n0 d db w.drew w2→JB w2 j d J:=fun w2 F2=>HD.keepT F2 hjD (by decide) (by decide) (by decide)
  have AK:∀ w2,JB w2 j d J→w2.cell? ⟨j,5,none⟩=some (.int .i64 (J.pos:Int))∧w2.cell? ⟨j,6,none⟩=some (.int .i64 (J.count:Int))∧w2.cell? ⟨j,8,none⟩=some (.slice (some ⟨g,0,none⟩) n c):=fun w2 j2=>⟨j2.cell 5,j2.cell 6,(j2.cell 8).trans (by rw[← hv];rfl)⟩
  obtain⟨PP,hPP⟩:∃ PP:World→Prop,PP=fun w'=>(∃ pv' P',Dk Z w' n0 d db pv' P'∧P'.Fine∧P'.ws=[]∧P'.bs.length=P.bs.length∧Off J.first (J.first+J.blocks) P.vis P'.vis)∧JB w' j d J∧Fr n0 d db w w':=⟨_,rfl⟩
  have HPP:=Lib.hid hPP
  have DW:Fr n0 d db w w.drew:=Fr.below DD
  clear hPP
  go_cut [4] from 6 (fun s4 w'=>s4=.int .i64 0∧PP w')
  case first=>
    go_region_held3 (fun w'=>w'.cell? ⟨j,5,none⟩=some (.int .i64 (J.pos:Int))∧w'.cell? ⟨j,6,none⟩=some (.int .i64 (J.count:Int))∧w'.cell? ⟨j,8,none⟩=some (.slice (some ⟨g,0,none⟩) n c))
      (first | with_reducible exact k | with_reducible exact k2 | go_keep)
      (first
        | (go_at_call 172;with_reducible refine RW.mono ?_;rintro e w2 ⟨rfl,X2,F2⟩;have j2:=AJ w2 F2;have k2:=AK w2 j2)
        | fail)
    all_goals
      go_wp2
      go_meet
      exact⟨rfl,by rw[HPP.out];exact⟨X2,j2,DW.then F2⟩⟩
  case rest=>
    obtain⟨rfl,hp⟩:=hcut
    rw[HPP.out] at hp
    obtain⟨X2,j2,F2⟩:=hp
    clear RW HD hjD k c0 c5 c6 c8 M hRB AJ AK HPP DW DD hj h hS
    have c8':wc.cell? ⟨j,8,none⟩=some (.slice (some ⟨g,0,none⟩) n c):=(j2.cell 8).trans (congrArg some hv)
    obtain⟨nd,hnd⟩:∃ nd,nd=need n:=⟨_,rfl⟩
    rw[← hnd] at N
    have hnd50:nd≤62:=by omega
    have HND:=Lib.hid hnd
    clear hnd hneed
    have hi:¬J.blocks=0:=by omega
    have hr:=tmod_nat J.pos nd J.blocks
    obtain⟨m,hm,hml⟩:∃ m:Nat,m=(J.pos+nd) % J.blocks∧m<J.blocks:=⟨_,rfl,Nat.mod_lt _ h6⟩
    rw[← hm] at hr
    have hw1:wrap64 ((J.pos:Int)+(nd:Int))=(J.pos:Int)+(nd:Int):=IntWalk.wrap64_in _ (by omega)
    have hw2:wrap64 ((J.count:Int)+(nd:Int))=(J.count:Int)+(nd:Int):=IntWalk.wrap64_in _ (by omega)
    have hw3:wrap64 ((J.used:Int)+(nd:Int))=(J.used:Int)+(nd:Int):=IntWalk.wrap64_in _ (by omega)
    have hdv:=fun w=>div_rem _ J.blocks m h6 hr w
    have HM:=Lib.hid hm
    clear hm
    go_upto_region 11 with (go_at_call 173;with_reducible refine(N _).mono ?_;rintro e w2 ⟨rfl,rfl⟩)
    obtain⟨W3,hW3,e3,b3⟩:=drew_name w2
    have j3:JB W3 j d J:=(b3.block _ j2.lt).trans j2
    have c2:W3.cell? ⟨j,2,none⟩=some (.int .i64 (J.blocks:Int)):=j3.cell 2
    have c5:W3.cell? ⟨j,5,none⟩=some (.int .i64 (J.pos:Int)):=j3.cell 5
    have z5:W3.frozen? ⟨j,5,none⟩=false:=j3.frozen 5
    obtain⟨W4,hW4,g4,k4,s4⟩:=set_name 5 j3 (.int .i64 (m:Int))
    have d6:W4.cell? ⟨j,6,none⟩=some (.int .i64 (J.count:Int)):=cellD g4 6
    have y6:W4.frozen? ⟨j,6,none⟩=false:=frozenD g4 6
    obtain⟨W5,hW5,g5,k5,s5⟩:=set_name 6 g4 (.int .i64 ((J.count:Int)+(nd:Int)))
    have d7:W5.cell? ⟨j,7,none⟩=some (.int .i64 (J.used:Int)):=cellD g5 7
    have y7:W5.frozen? ⟨j,7,none⟩=false:=frozenD g5 7
    obtain⟨W6,hW6,g6,k6,s6⟩:=set_name 7 g5 (.int .i64 ((J.used:Int)+(nd:Int)))
    have d8:W6.cell? ⟨j,8,none⟩=some (.slice (some ⟨g,0,none⟩) n c):=(cellD g6 8).trans (congrArg some hv)
    have y8:W6.frozen? ⟨j,8,none⟩=false:=frozenD g6 8
    obtain⟨W7,hW7,g7,k7,s7⟩:=set_name 8 g6 (.slice none 0 0)
    have d9:W7.cell? ⟨j,9,none⟩=some (.int .i64 (J.last:Int)):=cellD g7 9
    have d10:W7.cell? ⟨j,10,none⟩=some (.int .i64 (J.synced:Int)):=cellD g7 10
    have y10:W7.frozen? ⟨j,10,none⟩=false:=frozenD g7 10
    obtain⟨W8,hW8,g8,k8,s8⟩:=set_name 10 g7 (.int .i64 (J.last:Int))
    have K8:Kp (·=j) W3 W8:=((((k4.then k5).then k6).then k7).then k8)
    have J8:JB W8 j d (J.flushed nd):=by
      unfold JB;rw[g8];unfold JR.flushed;simp only[HM.out];rfl
    have HJ8:=Lib.hid J8
    clear g4 g5 g6 g7 g8 k4 k5 k6 k7 k8 s4 s5 s6 s7 s8 e3 J8
    refine stillW 14 (by kernel_rfl) (by kernel_rfl) W3 hW3 ?_
    simp only[List.take_succ_cons,List.take_zero,List.drop_succ_cons,List.drop_zero]
    repeat still_step
    refine wpStill_nil ?_
    go_wp2
    go_ret
    obtain⟨pv',P',D2,f2,w2',b2,o2⟩:=X2
    have D3:=D2.below b3
    have j3':JB W3 j d J:=(b3.block _ j2.lt).trans j2
    refine⟨rfl,⟨pv',P',D3.apart K8 fun k o e1 e2=>?_,f2,w2',b2,o2⟩,HND.out▸HJ8.out,W3,F2.then (Fr.below b3),K8⟩
    subst e1
    rw[j3'] at e2
    injection e2 with e2
    subst e2
    exact⟨NoD.cells (by decide) (by decide) (by decide),.inr fun x e=>by injection e with _ e _;exact absurd e (by decide)⟩
theorem jfree_any{w:World}{j d c:Nat}{A:Option Addr}{J:JR}(h:JB w j d J)(hw:J.wv=.slice A 0 c):Calls Tryz.prog 78 #[.pointer (some ⟨j,0,none⟩)] w fun e w'=>e=.returned (.int .i64 0)∧JB w' j d { J with used:=0 }∧Kp (·=j) w w':=by
  have c8:w.cell? ⟨j,8,none⟩=some (.slice A 0 c):=by rw[← hw];exact h.cell 8
  have c7:w.cell? ⟨j,7,none⟩=some _:=h.cell 7
  have z7:w.frozen? ⟨j,7,none⟩=false:=h.frozen 7
  have M:=jstands_any h
  obtain⟨W1,hW1,g1,k1,s1⟩:=set_name 7 h (.int .i64 0)
  clear s1
  go_enter Tryz.func78,Tryz.ntmps78
  go_wp2_with (go_at_call 171;with_reducible refine M.mono ?_;rintro e w ⟨rfl,rfl⟩)
  go_ret
  refine⟨rfl,?_,k1⟩
  unfold JB;rw[g1];rfl
end Go.Proofs.YtdbkocfbhpgpkaaGreat
