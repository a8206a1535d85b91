/-
  snapshot.Table with any open numbers: slices.DeleteFunc of one of them; Begin, end, Commit, Abort.
-/
import Derived.Test.YtdbkocfbhpgpkaaGreatb06
set_option linter.unusedVariables false
set_option linter.unusedSimpArgs false
namespace Go.Proofs.YtdbkocfbhpgpkaaGreat
open Go Go.RowKit
set_option maxRecDepth 100000
set_option maxHeartbeats 1600000
section
variable {w:World}{t n0:Nat}{T:TR}{m:List (Int×Value)}
theorem end1_no{bx:Nat}{n k:Int}(hb:w.cell? ⟨bx,0,none⟩=some (.int .i64 n))(hk:k≠n):Calls Tryz.prog 235 #[.int .i64 k,.pointer (some ⟨bx,0,none⟩)] w fun e w'=>e=.returned (.bool false)∧w'=w:=by
  have f1:(k==n)=false:=by simpa using hk
  go_enter Tryz.func235,Tryz.ntmps235
  go_wp2
  go_ret
  exact⟨by rw[← f1];rfl,rfl⟩
theorem indexF_any{g c bx L i:Nat}{l:List Int}{n:Int}(hg:∀ k (h:k<l.length),w.cell? ⟨g,k,none⟩=some (.int .i64 l[k]))(hb:w.cell? ⟨bx,0,none⟩=some (.int .i64 n))(hL:L=l.length)(hi:l[i]? = some n)(hno:∀ j,j<i→l[j]?≠some n)(hL2:L≤1000) :
    Calls Tryz.prog 266 #[.slice (some ⟨g,0,none⟩) L c,.func (.func 235) #[] #[.pointer (some ⟨bx,0,none⟩)]] w fun e w'=>e=.returned (.int .i64 (i:Int))∧w'=w:=by
  have hiL:i<L:=by
    obtain⟨h,-⟩:=List.getElem?_eq_some_iff.1 hi
    omega
  have E:=end1_any hb
  have HL:=Lib.hid hL
  have HI:=Lib.hid hi
  have HN:=Lib.hid hno
  have HG:=Lib.hid hg
  clear hL hi hno hg
  go_enter Tryz.func266,Tryz.ntmps266
  go_wp2
  go_loopw [8] (fun q wr=>∃ k:Nat,k≤i∧q=.int .i64 (k:Int)∧wr=w) (fun q _=>i+1-(RowKit.intOf q).toNat)
  case atStart=>exact⟨0,Nat.zero_le _,rfl,rfl⟩
  case round=>
    obtain⟨k,hk,rfl,rfl⟩:=hrel
    have hkL:k<L:=by omega
    have hkl:k<l.length:=by rw[← HL.out];exact hkL
    have c0:=HG.out k hkl
    by_cases hki:k=i
    · subst hki
      have e0:l[k]=n:=by
        have:=HI.out
        rw[List.getElem?_eq_getElem hkl] at this
        exact Option.some.inj this
      rw[e0] at c0
      go_wp2_with (go_at_call 235;with_reducible refine E.mono ?_;rintro e w ⟨rfl,rfl⟩)
      go_ret
      exact⟨rfl,rfl⟩
    · have hne:l[k]≠n:=fun e=>HN.out k (by omega) (by rw[List.getElem?_eq_getElem hkl,e])
      obtain⟨z,hz⟩:∃ z,l[k]=z:=⟨_,rfl⟩
      rw[hz] at c0 hne
      have E2:=end1_no hb hne
      clear E hz
      go_wp2_with (go_at_call 235;with_reducible refine E2.mono ?_;rintro e w ⟨rfl,rfl⟩)
      refine⟨⟨k+1,by omega,rfl,trivial⟩,?_⟩
      simp[RowKit.intOf];omega
theorem deleteF_any{g c bx L La Lb:Nat}{a b:List Int}{n:Int}{cur:Array Value}(hg:w.heap[g]? = some (.cells cur 3 (0,0)))(hcur:∀ k (h:k<(a++n::b).length),cur[k]? = some (.int .i64 (a++n::b)[k]))(hc:L≤c)(hcs:c≤cur.size)
    (hb:w.cell? ⟨bx,0,none⟩=some (.int .i64 n)) (hbg:bx≠g) (ha:∀ x∈a,x≠n) (hbn:∀ x∈b,x≠n) (hLa:La=a.length) (hLb:Lb=b.length) (hL:L=La+1+Lb) (hL2:L≤1000) :
    Calls Tryz.prog 223 #[.slice (some ⟨g,0,none⟩) L c,.func (.func 235) #[] #[.pointer (some ⟨bx,0,none⟩)]] w fun e w'=>e=.returned (.slice (some ⟨g,0,none⟩) ((La+Lb:Nat)) c)∧(∃ cur',w'.heap[g]? = some (.cells cur' 3 (0,0))∧cur'.size=cur.size∧∀ k (h:k<(a++b).length),cur'[k]? = some (.int .i64 (a++b)[k]))∧Kp (·=g) w w'∧w'.heap.size=w.heap.size:=by
  have I:=indexF_any (w:=w) (g:=g) (c:=c) (bx:=bx) (L:=L) (i:=La) (l:=a++n::b) (n:=n) (fun k h=>(cellD hg k).trans (hcur k h)) hb (by simp;omega) (by rw[hLa];simp) (fun j hj=>by
    rw[List.getElem?_append_left (by omega)]
    intro e
    obtain⟨h,e⟩:=List.getElem?_eq_some_iff.1 e
    exact ha _ (List.getElem_mem h) e) hL2
  have HG:=Lib.hid hg
  have HB:=Lib.hid hb
  have f1:((La:Int) == -1)=false:=by simp
  have f2:wrap64 ((La:Int)+1)=(La:Int)+1:=IntWalk.wrap64_in _ (by omega)
  have HA:=Lib.hid hLa
  have HBb:=Lib.hid hLb
  have HL:=Lib.hid hL
  have HC:=Lib.hid hcur
  clear hb hg hLa hLb hL hcur
  go_enter Tryz.func223,Tryz.ntmps223
  go_wp2_with (go_at_call 266;with_reducible refine I.mono ?_;rintro e w ⟨rfl,rfl⟩)
  go_loopw [5,6] (fun k i wr=>∃ P:Nat,La≤P∧P≤La+Lb∧k=.int .i64 (P:Int)∧i=.int .i64 ((P:Int)+1)∧wr.heap.size=w.heap.size∧Kp (·=g) w wr ∧
      ∃ cur',wr.heap[g]? = some (.cells cur' 3 (0,0))∧cur'.size=cur.size∧(∀ x (h:x<(a++b).length),x<P→cur'[x]? = some (.int .i64 (a++b)[x]))∧(∀ x (h:x<(a++n::b).length),P+1≤x→cur'[x]? = some (.int .i64 (a++n::b)[x]))) (fun _ i _=>L+1-(RowKit.intOf i).toNat)
  case atStart=>
    refine⟨La,Nat.le_refl _,by omega,rfl,by rw[f2],rfl,Kp.refl _ _,cur,HG.out,rfl,fun x h hx=>?_,fun x h _=>HC.out x h⟩
    have h1:=HC.out x (by simp at h ⊢;omega)
    rw[h1]
    congr 2
    rw[List.getElem_append_left (by rw[← HA.out];omega),List.getElem_append_left (by rw[← HA.out];omega)]
  case round=>
    obtain⟨P,hP1,hP2,rfl,rfl,hsz,hk,cur',hg',hs',h1,h2⟩:=hrel
    have hLL:=HL.out
    have hbw:wr.cell? ⟨bx,0,none⟩=some (.int .i64 n):=by
      rw[← HB.out]
      exact cellK (hk.block _ (by have:=HB.out;exact Go.block_lt_of_cell this) (fun e=>hbg e))
    by_cases hlt:P<La+Lb
    · have hPl:P+1<(a++n::b).length:=by simp;rw[← HA.out,← HBb.out];omega
      have hPab:P<(a++b).length:=by simp;rw[← HA.out,← HBb.out];omega
      obtain⟨z,hz⟩:∃ z,(a++n::b)[P+1]=z:=⟨_,rfl⟩
      have hz2:(a++b)[P]=z:=by
        rw[← hz,List.getElem_append_right (by rw[← HA.out];omega),List.getElem_append_right (by rw[← HA.out];omega)]
        simp only[← HA.out,show P+1-La=(P-La)+1 by omega,List.getElem_cons_succ]
      have hzn:z≠n:=by
        refine hbn z ?_
        rw[← hz2,List.getElem_append_right (by rw[← HA.out];omega)]
        exact List.getElem_mem _
      have c0:wr.cell? ⟨g,P+1,none⟩=some (.int .i64 z):=(cellD hg' _).trans (by rw[h2 (P+1) hPl (Nat.le_refl _),hz])
      have E2:=end1_no hbw hzn
      obtain⟨W1,hW1,g1,k1,s1⟩:=set_name P hg' (.int .i64 z)
      have cp:(wr.cell? ⟨g,P,none⟩).isSome=true:=by rw[cellD hg'];simp;omega
      have zp:wr.frozen? ⟨g,P,none⟩=false:=frozenD hg' _
      obtain⟨u,hu⟩:=Option.isSome_iff_exists.1 cp
      have f3:(P:Int)+1<(L:Int):=by omega
      have f4:P<L:=by omega
      have f5:P+1<L:=by omega
      have f6:P≤1000:=by omega
      have HS1:=Lib.hid (And.intro s1 (And.intro hz hz2))
      have HLL:=Lib.hid hLL
      clear s1 hz hz2 hLL cp f2
      go_wp2_with (go_at_call 235;with_reducible refine E2.mono ?_;rintro e w3 ⟨rfl,rfl⟩)
      obtain⟨s1,hz,hz2⟩:=HS1.out
      refine⟨⟨P+1,by omega,by omega,by first | rfl | (rw[IntWalk.wrap64_in _ (by omega)];rfl),by first | rfl | (rw[IntWalk.wrap64_in _ (by omega)];rfl),by rw[s1,hsz],hk.then k1,_,g1,by simpa using hs',fun x h hx=>?_,fun x h hx=>?_⟩,?_⟩
      · by_cases hxP:x=P
        · subst hxP
          rw[hz2]
          have:x<cur'.size:=by omega
          simp[this]
        · have:=h1 x h (by omega)
          rw[← this]
          simp[Ne.symm hxP]
      · have:=h2 x h (by omega)
        rw[← this]
        have:P≠x:=by omega
        simp[this]
      · simp[RowKit.intOf];omega
    · obtain rfl:P=La+Lb:=by omega
      obtain⟨P,hP⟩:∃ P,La+Lb=P:=⟨_,rfl⟩
      obtain rfl:L=P+1:=by omega
      rw[hP] at hP1 hP2 hlt h1 h2 ⊢
      have HP:=Lib.hid hP
      have f3:¬((P:Int)+1<((P+1:Nat):Int)):=by omega
      have f6:P≤1000:=by omega
      have CL:(Builtin.clear_ #[22] 0 #[.slice (some ⟨g,P,none⟩) 1 (c-P)]).run Tryz.prog wr=.ok (.tuple #[]) (wr.setCells g P (List.replicate 1 (.int .i64 0))):=by
        refine Lib.run_clear_slice (P:=Tryz.prog) wr 22 3 0 (.int .i64 0) Tryz.underlying22 zero3 rfl rfl g P 1 (c-P) (by omega) (fun j hj=>?_) (fun j hj=>frozenD hg' _)
        rw[cellD hg']
        simp;omega
      obtain⟨W1,hW1,g1,k1,s1⟩:=set_name P hg' (.int .i64 0)
      have CL2:(Builtin.clear_ #[22] 0 #[.slice (some ⟨g,P,none⟩) 1 (c-P)]).run Tryz.prog wr=.ok (.tuple #[]) W1:=CL.trans (by rw[← hW1];rfl)
      have HS1:=Lib.hid s1
      clear CL s1 hP hLL hP1 hP2 hlt f1 f2
      go_wp2
      go_ret
      refine⟨by first | rfl | (rw[HP.out];rfl),⟨_,g1,by simpa using hs',fun k h=>?_⟩,hk.then k1,by rw[HS1.out,hsz]⟩
      have hlen:(a++b).length=a.length+b.length:=List.length_append
      have hkP:k<P:=by have:=HP.out;have:=HA.out;have:=HBb.out;omega
      have:=h1 k (by omega) hkP
      rw[← this]
      have:P≠k:=by omega
      simp[this]
theorem begin_g(h:TB w t T)(hm:MapI w T.who m){ov:List Int}{L:Nat}(ho:OR w n0 T.ov ov)(hLo:L=ov.length)(hL:L≤15)(hn:T.next≤1000000)(hn0:n0≤w.heap.size) :
    Calls Tryz.prog 66 #[.pointer (some ⟨t,0,none⟩)] w fun e w'=>e=.returned (.tuple #[.int .i64 (T.next:Int),.int .i64 0])∧∃ ov',TB w' t { T with next:=T.next+1,ov:=ov' }∧MapI w' T.who (mset m (T.next:Int) (mk 2 T.last))∧OR w' n0 ov' (ov++[(T.next:Int)])∧(∀ k,ov'.ownBlock=some k→T.ov.ownBlock=some k∨w.heap.size≤k)∧Kp (TF t T) w w':=by
  obtain⟨A,c,hov⟩:∃ A c,T.ov=.slice A L c:=by rw[hLo];exact ho.form
  have hl16:¬(16:Int)≤(L:Int):=by omega
  have HL:=Lib.hid hLo
  clear hLo
  have M:=tmade_any h
  have c5:w.cell? ⟨t,5,none⟩=some (.slice A L c):=(h.cell 5).trans (congrArg some hov)
  have N:=next_tab h
  have c2:w.cell? ⟨t,2,none⟩=some (.int .i64 (T.next:Int)):=h.cell 2
  have z2:w.frozen? ⟨t,2,none⟩=false:=h.frozen 2
  have hle:¬(4611686018427387904:Int)≤(T.next:Int):=by omega
  have hw:wrap64 ((T.next:Int)+1)=(T.next:Int)+1:=IntWalk.wrap64_in _ (by omega)
  have AD:=Add_any (y:=1) c2 z2
  rw[hw] at AD
  obtain⟨W1,hW1,g1,k1,s1⟩:=h.setC 2 (.int .i64 ((T.next:Int)+1))
  rw[hW1] at AD
  have hT1:TB W1 t { T with next:=T.next+1 }:=by
    unfold TB;rw[g1];rfl
  have hm1:=hm.kp k1 (hm.ne h)
  have ho1:=ho.kp k1 (fun k e1 e2=>ho.ne h (by decide) (by rw[e1,e2]))
  go_enter Tryz.func66,Tryz.ntmps66
  have HW1:=Lib.hid hW1
  have HG1:=Lib.hid g1
  have HK1:=Lib.hid k1
  have HN:=Lib.hid hn
  have HT1:=Lib.hid hT1
  have HM1:=Lib.hid hm1
  have HO1:=Lib.hid ho1
  have HS1:=Lib.hid s1
  have HW:=Lib.hid hw
  have HV:=Lib.hid hov
  clear hW1 g1 k1 hov hle hn hT1 hm1 ho1 s1 hw
  go_upto_region 3 with (first
    | (go_at_call 162;with_reducible refine M.mono ?_;rintro e w ⟨rfl,rfl⟩))
  have hx:decide ((4611686018427387904:Int)≤(T.next:Int))=false:=by have:=HN.out;simp;omega
  go_upto_region 5 with (first
    | (go_at_call 92;with_reducible refine N.mono ?_;rintro e w ⟨rfl,rfl⟩))
  have hz:wrap64 (T.next:Int)=(T.next:Int):=IntWalk.wrap64_in _ (by have:=HN.out;omega)
  go_upto_region 6 with (first
    | (go_at_call 163;with_reducible refine AD.mono ?_;rintro e w2 ⟨rfl,rfl⟩))
  clear AD N M c2 z2 c5 hx
  obtain⟨W2,hW2,e2,b2⟩:=drew_name w2
  have hT2:TB W2 t { T with next:=T.next+1 }:=HT1.out.below b2
  have hm2:=HM1.out.below b2
  obtain⟨W3,hU,m3,o3,s3,os3,t3,u3⟩:=run_update_int (P:=Tryz.prog) Tryz.underlying233 Tryz.underlying3 hm2 (T.next:Int) (mk 2 T.last)
  unfold mk at hU
  have c3:W2.cell? ⟨t,3,none⟩=some (.int .i64 (T.last:Int)):=hT2.cell 3
  have c4:W2.cell? ⟨t,4,none⟩=some (.map (some T.who)):=hT2.cell 4
  refine stillW 10 (by kernel_rfl) (by kernel_rfl) W2 hW2 ?_
  simp only[List.take_succ_cons,List.take_zero,List.drop_succ_cons,List.drop_zero]
  repeat still_step
  refine wpStill_nil ?_
  go_upto_region 7 with fail
  have hTo:t≠T.who:=fun e=>hm2.ne hT2 e.symm
  have k3:Kp (TF t T) w W3:=by
    refine(HK1.out.weaken (fun k e=>.inl e)).then ((Kp.of b2).then ⟨os3,t3,u3,by omega,fun k _ hk=>o3 k fun e=>hk (.inr (.inl e))⟩)
  have hT3:TB W3 t { T with next:=T.next+1 }:=(o3 t hTo).trans hT2
  have ho2:OR W2 n0 (.slice A L c) ov:=HV.out▸HO1.out.kp (Kp.of (S:=fun _=>False) b2) (fun _ _ h=>h)
  have ho3:OR W3 n0 (.slice A L c) ov:=by
    refine ho2.kp (S:=(·=T.who)) ⟨os3,t3,u3,by omega,fun k _ hk=>o3 k hk⟩ fun k e1 e2=>?_
    subst e2
    exact ho2.nem hm2 e1
  have s23:=b2.size
  have hsw:w.heap.size≤W3.heap.size:=by have:=HS1.out;omega
  have hsz:n0≤W3.heap.size:=by omega
  obtain⟨W4,hW4,g4,b4,s4⟩:=box_alloc W3 (.cells #[.int .i64 (T.next:Int)] 3)
  have ho4:OR W4 n0 (.slice A L c) ov:=ho3.kp (Kp.of (S:=fun _=>False) b4) (fun _ _ h=>h)
  have hT4:TB W4 t { T with next:=T.next+1 }:=hT3.below b4
  have c5:W3.cell? ⟨t,5,none⟩=some (.slice A L c):=(hT3.cell 5).trans (congrArg some HV.out)
  have hnw:∀ j u,[Value.int .i64 (T.next:Int)][j]? = some u→W4.cell? ((⟨W3.heap.size,0,none⟩:Addr).add j)=some u:=fun j u hu=>by
    have:((⟨W3.heap.size,0,none⟩:Addr).add j)=⟨W3.heap.size,j,none⟩:=by unfold Addr.add;split<;>simp_all
    rw[this,cellD g4]
    simpa using hu
  have HS4:=Lib.hid s4
  clear hU c3 c4 hT2 hm2 hTo HO1 HM1 HT1 s3 e2 s4
  go_wp2_with (at_builtin;refine apG rfl (.tmp 38) (.tmp 40) 22 3 (.int .i64 0) 1 8 Tryz.underlying22 info3' rfl (by decide) rfl n0 (.slice A L c) L (ov.map (Value.int .i64)) rfl (by have:=ho4;unfold OR at this;rw[← HL.out] at this;exact this) ⟨W3.heap.size,0,none⟩ 1 1 [.int .i64 (T.next:Int)] rfl rfl hnw ?c1 (by show L+1≤maxLen;unfold maxLen;omega) (by omega) ?c2 ?_)
  case c1=>intro u hu;simp at hu;subst hu;rfl
  case c2=>have:=HS4.out;omega
  intro v5 W5 own5 grow5 at5
  have ho5:OR W5 n0 v5 (ov++[(T.next:Int)]):=by
    unfold OR
    rw[List.length_append,List.map_append,← HL.out]
    exact own5
  have ne4:(Value.slice A L c).ownBlock≠some t:=ho4.ne hT4 (by decide)
  have hT5:TB W5 t { T with next:=T.next+1 }:=(grow5.block t hT4.lt (fun e=>ne4 e.symm)).trans hT4
  have ne5:v5.ownBlock≠some t:=ho5.ne hT5 (by decide)
  obtain⟨A5,c5',hv5⟩:∃ A c,v5=.slice A (L+1) c:=by
    obtain⟨A,c,e⟩:=ho5.form
    rw[List.length_append,← HL.out] at e
    exact⟨A,c,e⟩
  subst hv5
  have d5:W5.cell? ⟨t,5,none⟩=some _:=hT5.cell 5
  have z5:W5.frozen? ⟨t,5,none⟩=false:=hT5.frozen 5
  obtain⟨W6,hW6,g6,k6,s6⟩:=hT5.setC 5 (.slice A5 (L+1) c5')
  go_wp2
  go_ret2
  have kw:MapI W5 T.who (mset m (T.next:Int) (mk 2 T.last)):=(m3.below b4).kp (Kp.grow grow5) fun e=>ho4.nem (m3.below b4) e
  refine⟨rfl,.slice A5 (L+1) c5',?_,kw.kp k6 (kw.ne hT5),ho5.kp k6 (fun k e1 e2=>ne5 (by rw[e1,e2])),fun k e=>?_,?_⟩
  · unfold TB;rw[g6];rfl
  · rcases at5 with a|a
    · left;rw[HV.out,← a];exact e
    · right
      rw[e] at a
      injection a with a
      have:=HS4.out
      omega
  · refine((k3.then (Kp.of b4)).then ((Kp.grow grow5).weaken fun k e=>.inr (.inr ?_))).then (k6.weaken fun k e=>.inl e)
    rw[HV.out];exact e
theorem end_g(h:TB w t T)(hm:MapI w T.who m)(n:Int){la lb:List Int}{La Lb L:Nat}(ho:OR w n0 T.ov (la++n::lb))(hLa:La=la.length)(hLb:Lb=lb.length)(hL:L=La+1+Lb)(hL2:L≤1000)(hna:∀ x∈la,x≠n)(hnb:∀ x∈lb,x≠n)(a:Int)(p:Nat) :
    Calls Tryz.prog 170 #[.pointer (some ⟨t,0,none⟩),.int .i64 n,mk a p] w fun e w'=>e=.returned (.tuple #[])∧∃ ov',TB w' t { T with ov:=ov' }∧MapI w' T.who (mset m n (mk a p))∧OR w' n0 ov' (la++lb)∧ov'.ownBlock=T.ov.ownBlock∧Kp (TF t T) w w':=by
  obtain⟨-,⟨-,h0⟩|⟨g,c,cur,hov,hn0,hg,hc1,hc2,hc3,htk⟩⟩:=ho
  · simp at h0
  have hLl:(la++n::lb).length=L:=by simp;omega
  rw[hLl] at hov hc1 htk
  have hcur:∀ k (h:k<(la++n::lb).length),cur[k]? = some (.int .i64 (la++n::lb)[k]):=fun k h=>by
    have:=congrArg (fun l=>l[k]?) htk
    rw[hLl] at h
    simp only[Nat.mul_one] at this
    rw[List.getElem?_take,if_pos h,List.getElem?_map,List.getElem?_eq_getElem (l:=la++n::lb) (by rw[hLl];exact h)] at this
    simpa using this
  have HCUR:=Lib.hid hcur
  have HLA:=Lib.hid hLa
  have HLB:=Lib.hid hLb
  have HLL:=Lib.hid hL
  have hgt:t≠g:=tag_ne h hg (by decide)
  have hgm:=hm.ne hg
  obtain⟨W1,hW1,g1,b1,s1⟩:=box_alloc w (.cells #[.int .i64 n] 3)
  obtain⟨W2,hW2,g2,b2,s2⟩:=box_alloc W1 (.cells #[.int .u8 a,.int .i64 (p:Int)] 239)
  have b12:=b1.trans (b2.mono b1.size)
  obtain⟨W3,hW3,e3,b3⟩:=drew_name W2
  have b13:=b12.trans (b3.mono b12.size)
  have hT3:=h.below b13
  have hm3:=hm.below b13
  have hg3:=keepB b13 hg
  have p1:W3.cell? ⟨w.heap.size,0,none⟩=some (.int .i64 n):=cellD (keepB b3 (keepB b2 g1)) 0
  obtain⟨W4,hU,m4,o4,s4,os4,t4,u4⟩:=run_update_int (P:=Tryz.prog) Tryz.underlying233 Tryz.underlying3 hm3 n (mk a p)
  unfold mk at *
  have c4:W3.cell? ⟨t,4,none⟩=some (.map (some T.who)):=hT3.cell 4
  go_enter Tryz.func170,Tryz.ntmps170
  have HS1:=Lib.hid s1
  have HS4:=Lib.hid s4
  have q0:W3.cell? ⟨W1.heap.size,0,none⟩=some (.int .u8 a):=cellD (keepB b3 g2) 0
  have q1:W3.cell? ⟨W1.heap.size,1,none⟩=some (.int .i64 (p:Int)):=cellD (keepB b3 g2) 1
  clear s1 s2 s4 e3
  go_upto_region 1 with fail
  refine stillW 6 (by kernel_rfl) (by kernel_rfl) W3 hW3 ?_
  simp only[List.take_succ_cons,List.take_zero,List.drop_succ_cons,List.drop_zero]
  repeat still_step
  refine wpStill_nil ?_
  go_upto_region 2 with fail
  have k4:Kp (TF t T) w W4:=(Kp.of b13).then ⟨os4,t4,u4,by have:=HS4.out;omega,fun k _ hk=>o4 k fun e=>hk (.inr (.inl e))⟩
  have hTm:t≠T.who:=fun e=>hm3.ne hT3 e.symm
  have hT4:TB W4 t T:=(o4 t hTm).trans hT3
  have hg4:W4.heap[g]? = _:=(o4 g (fun e=>hgm e.symm)).trans hg3
  have p4:W4.cell? ⟨w.heap.size,0,none⟩=some (.int .i64 n):=by
    rw[← p1]
    refine cellK (o4 _ fun e=>?_)
    have:=hm.lt
    omega
  have hgl:=hlt hg
  have D:=deleteF_any (c:=c) (cur:=cur) hg4 hcur hc1 (by omega) p4 (by omega) hna hnb hLa hLb hL hL2
  have c5:W4.cell? ⟨t,5,none⟩=some (.slice (some ⟨g,0,none⟩) L c):=(hT4.cell 5).trans (congrArg some hov)
  have HOV:=Lib.hid hov
  have HC3:=Lib.hid hc3
  clear hU c4 hLa hLb hL hcur hLl htk hov hc3
  go_wp2_with (go_at_call 223;(with_reducible refine D.mono ?_);rintro e w6 ⟨rfl,⟨cur',g5,z5',hc'⟩,k5,s5⟩;have hT5:TB w6 t T:=k5.keep hT4 hgt;have d5:w6.cell? ⟨t,5,none⟩=some _:=hT5.cell 5;have z5:w6.frozen? ⟨t,5,none⟩=false:=hT5.frozen 5)
  go_end0
  obtain⟨W6,hW6,g6,k6,s6⟩:=hT5.setC 5 (.slice (some ⟨g,0,none⟩) (La+Lb) c)
  have m5:=m4.kp k5 hgm
  rw[hW6]
  have hl2:(la++lb).length=La+Lb:=by rw[List.length_append,HLA.out,HLB.out]
  refine⟨rfl,.slice (some ⟨g,0,none⟩) (La+Lb) c,?_,m5.kp k6 (m5.ne hT5),?_,?_,?_⟩
  · unfold TB;rw[g6];rfl
  · unfold OR
    rw[hl2]
    refine⟨by rw[List.length_map,hl2,Nat.mul_one],.inr ⟨g,c,_,rfl,hn0,k6.keep g5 (fun e=>hgt e.symm),by have:=HLL.out;omega,hc2,by rw[z5'];exact HC3.out,?_⟩⟩
    refine List.ext_getElem? fun k=>?_
    rw[List.getElem?_take,Nat.mul_one]
    by_cases hk:k<La+Lb
    · rw[if_pos hk,List.getElem?_map,List.getElem?_eq_getElem (l:=la++lb) (by omega)]
      simpa using hc' k (by omega)
    · rw[if_neg hk,List.getElem?_eq_none (by rw[List.length_map,hl2];omega)]
  · rw[HOV.out];rfl
  · refine(k4.then (k5.weaken fun k e=>.inr (.inr ?_))).then (k6.weaken fun k e=>.inl e)
    rw[HOV.out,e];rfl
theorem tcommit_g(h:TB w t T)(hm:MapI w T.who m)(n:Int){la lb:List Int}{La Lb L:Nat}(ho:OR w n0 T.ov (la++n::lb))(hLa:La=la.length)(hLb:Lb=lb.length)(hL:L=La+1+Lb)(hL2:L≤1000)(hna:∀ x∈la,x≠n)(hnb:∀ x∈lb,x≠n)(p:Nat)(hl:m.lookup n=some (mk 2 p))(hlast:T.last≤1000000) :
    Calls Tryz.prog 74 #[.pointer (some ⟨t,0,none⟩),.int .i64 n] w fun e w'=>e=.returned (.int .i64 0)∧∃ ov',TB w' t { T with ov:=ov',last:=T.last+1 }∧MapI w' T.who (mset m n (mk 3 (T.last+1)))∧OR w' n0 ov' (la++lb)∧ov'.ownBlock=T.ov.ownBlock∧Kp (TF t T) w w':=by
  have A:=asked_tab h hm n p hl
  go_enter Tryz.func74,Tryz.ntmps74
  go_upto_region 4 with (go_at_call 169;with_reducible refine A.mono ?_;rintro e w2 ⟨rfl,b2⟩)
  have h2:=h.below b2
  have m2:=hm.below b2
  have o2:=ho.kp (Kp.of (S:=fun _=>False) b2) (fun _ _ h=>h)
  have c3:w2.cell? ⟨t,3,none⟩=some (.int .i64 (T.last:Int)):=h2.cell 3
  have z3:w2.frozen? ⟨t,3,none⟩=false:=h2.frozen 3
  have hw:wrap64 ((T.last:Int)+1)=(T.last:Int)+1:=IntWalk.wrap64_in _ (by omega)
  obtain⟨W3,hW3,g3,k3,s3⟩:=h2.setC 3 (.int .i64 ((T.last:Int)+1))
  have h3:TB W3 t { T with last:=T.last+1 }:=by unfold TB;rw[g3];rfl
  have m3:=m2.kp k3 (m2.ne h2)
  have o3:=o2.kp k3 (fun k e1 e2=>o2.ne h2 (by decide) (by rw[e1,e2]))
  have E:=end_g h3 m3 n o3 hLa hLb hL hL2 hna hnb 3 (T.last+1)
  clear hLa hLb hL hL2 hna hnb
  have c3':W3.cell? ⟨t,3,none⟩=some (.int .i64 ((T.last:Int)+1)):=h3.cell 3
  unfold mk at E
  rw[show((T.last+1:Nat):Int)=(T.last:Int)+1 from rfl] at E
  have HS:=Lib.hid s3
  clear s3
  have hwx:=Lib.hid hw
  go_wp2_with (go_at_call 170;with_reducible refine E.mono ?_;rintro e w6 ⟨rfl,ov',q1,q2,q3,q4,q5⟩)
  go_ret
  refine⟨rfl,ov',q1,?_,q3,q4,?_⟩
  · unfold mk
    show MapI w6 T.who (mset m n (.agg #[.int .u8 3,.int .i64 ((T.last:Int)+1)]))
    exact q2
  · exact((Kp.of b2).then (k3.weaken fun k e=>.inl e)).then q5
theorem tabort_g(h:TB w t T)(hm:MapI w T.who m)(n:Int){la lb:List Int}{La Lb L:Nat}(ho:OR w n0 T.ov (la++n::lb))(hLa:La=la.length)(hLb:Lb=lb.length)(hL:L=La+1+Lb)(hL2:L≤1000)(hna:∀ x∈la,x≠n)(hnb:∀ x∈lb,x≠n)(p:Nat)(hl:m.lookup n=some (mk 2 p)) :
    Calls Tryz.prog 85 #[.pointer (some ⟨t,0,none⟩),.int .i64 n] w fun e w'=>e=.returned (.int .i64 0)∧∃ ov',TB w' t { T with ov:=ov' }∧MapI w' T.who (mset m n (mk 5 0))∧OR w' n0 ov' (la++lb)∧ov'.ownBlock=T.ov.ownBlock∧Kp (TF t T) w w':=by
  have A:=asked_tab h hm n p hl
  go_enter Tryz.func85,Tryz.ntmps85
  go_upto_region 4 with (go_at_call 169;with_reducible refine A.mono ?_;rintro e w2 ⟨rfl,b2⟩)
  have E:=end_g (h.below b2) (hm.below b2) n (ho.kp (Kp.of (S:=fun _=>False) b2) (fun _ _ h=>h)) hLa hLb hL hL2 hna hnb 5 0
  clear hLa hLb hL hL2 hna hnb
  unfold mk at E
  rw[show((0:Nat):Int)=0 from rfl] at E
  go_wp2_with (go_at_call 170;with_reducible refine E.mono ?_;rintro e w6 ⟨rfl,ov',q1,q2,q3,q4,q5⟩)
  go_ret
  exact⟨rfl,ov',q1,q2,q3,q4,(Kp.of b2).then q5⟩
def visB (a:Int)(q p:Nat):Bool:=(a==3) && decide (q≤p)
theorem shown_g(a b:Int)(p q:Nat)(hb:b=2∨b=3∨b=5)(w:World)(u:Value):Calls Tryz.prog 193 #[u,mk a p,mk b q] w fun e w'=>e=.returned (.bool (visB b q p))∧Below w.heap.size w w':=by
  have bb:Below w.heap.size w ((w.alloc (.cells #[.int .u8 a,.int .i64 (p:Int)] 239)).alloc (.cells #[.int .u8 b,.int .i64 (q:Int)] 239)):=((Below.refl _ _).alloc (Nat.le_refl _) _).alloc (by simp) _
  unfold mk visB
  rcases hb with rfl|rfl|rfl
  · go_enter Tryz.func193,Tryz.ntmps193
    go_wp2
    go_ret
    exact⟨rfl,bb⟩
  · by_cases hq:q≤p
    · have f1:(q:Int)≤(p:Int):=by omega
      go_enter Tryz.func193,Tryz.ntmps193
      go_wp2
      go_ret
      exact⟨by simp[hq],bb⟩
    · have f1:¬(q:Int)≤(p:Int):=by omega
      go_enter Tryz.func193,Tryz.ntmps193
      go_wp2
      go_ret
      exact⟨by simp[hq],bb⟩
  · go_enter Tryz.func193,Tryz.ntmps193
    go_wp2
    go_ret
    exact⟨rfl,bb⟩
theorem visible_g(h:TB w t T)(hm:MapI w T.who m)(n k:Int)(p q:Nat)(b:Int)(hb:b=2∨b=3∨b=5)(hl:m.lookup n=some (mk 2 p))(hk:m.lookup k=some (mk b q)) :
    Calls Tryz.prog 98 #[.pointer (some ⟨t,0,none⟩),.int .i64 n,.int .i64 k] w fun e w'=>e=.returned (.bool (decide (k=n) || visB b q p))∧Below w.heap.size w w':=by
  have O:=isOpen_tab h hm n p hl
  by_cases hkn:k=n
  · subst hkn
    go_enter Tryz.func98,Tryz.ntmps98
    go_wp2_with (go_at_call 84;(with_reducible refine O.mono ?_);rintro e w2 ⟨rfl,b2⟩)
    go_ret
    exact⟨by simp,b2⟩
  · have f1:(k==n)=false:=by simpa using hkn
    have O1:=fun w' (b:Below w.heap.size w w')=>of_tab (h.below b) (hm.below b) n 2 p hl
    have O2:=fun w' (bl:Below w.heap.size w w')=>of_tab (h.below bl) (hm.below bl) k b q hk
    have S:=shown_g 2 b p q hb
    unfold mk at O1 O2 S
    go_enter Tryz.func98,Tryz.ntmps98
    go_upto_region 3 with (go_at_call 84;(with_reducible refine O.mono ?_);rintro e w2 ⟨rfl,b2⟩)
    have B1:=O1 w2 b2
    go_wp2_with (first
      | (go_at_call 194;(first | ((with_reducible refine B1.mono ?_);rintro e w3 ⟨rfl,b3⟩;have B2:=O2 w3 (b2.trans (b3.mono b2.size))) | ((with_reducible refine B2.mono ?_);rintro e w4 ⟨rfl,b4⟩)))
      | (go_at_call 193;(with_reducible refine(S _ _).mono ?_);rintro e w5 ⟨rfl,b5⟩))
    go_ret
    refine⟨by simp[hkn],?_⟩
    have b23:=b2.trans (b3.mono b2.size)
    have b24:=b23.trans (b4.mono b23.size)
    exact b24.trans (b5.mono b24.size)
end
end Go.Proofs.YtdbkocfbhpgpkaaGreat
