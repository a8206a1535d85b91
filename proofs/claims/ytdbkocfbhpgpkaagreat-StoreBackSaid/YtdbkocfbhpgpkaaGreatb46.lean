/-
  views: what all open transactions, and one that begins now, see.
-/
import Derived.Test.YtdbkocfbhpgpkaaGreatb45
import Derived.Test.YtdbkocfbhpgpkaaGreatb43
set_option linter.unusedVariables false
set_option linter.unusedSimpArgs false
namespace Go.Proofs.YtdbkocfbhpgpkaaGreat
open Go Go.RowKit Go.Shelf
open Go.Ev (PgM PageOk CellsOut rowsOf rowsV rowV rowsOf_len BelowIs)
set_option maxRecDepth 100000
set_option maxHeartbeats 4000000
section
variable {X:ST}{D D':SD}{w w':World}{k:Nat}{cs:List NC}{U:Int→Option Us}
theorem free_pairs:Free 50:=⟨by decide,by decide,by decide,by decide,by decide,by decide,by decide,by decide,by decide,by decide,by decide⟩
theorem Qh.two{l:List UInt8}{bt bl:Nat}{c1 c2:Array Value}(q:Qh X D l w)(kk:Kp (fun b=>b=bt∨b=bl) w w')(h1:w.heap[bt]? = some (.cells c1 33 (0,0)))(h2:w.heap[bl]? = some (.cells c2 50 (0,0)))(hN:bt≠X.db):Qh X D l w':=by
  obtain⟨f,e1,e2,st⟩:=q
  refine⟨f,e1,e2,?_⟩
  generalize hD:D.hold f=D1 at st
  have ne:∀ {g:Nat} {x:Array Value} {u:TypeId} {z:Nat×Nat},w.heap[g]? = some (.cells x u z)→u≠33→u≠50→¬(g=bt∨g=bl):=fun e hu hv q=>by
    rcases q with q|q
    · exact tag_ne e h1 hu q
    · exact tag_ne e h2 hv q
  have nm:∀ {g:Nat} {l:List (Int×Value)},MapI w g l→¬(g=bt∨g=bl):=fun e q=>by
    rcases q with q|q
    · exact e.ne h1 q
    · exact e.ne h2 q
  have no:∀ {B:Nat} {v:Value} {l:List UInt8},Own w B v l→∀ g,v.ownBlock=some g→¬(g=bt∨g=bl):=fun o g e q=>by
    rcases q with q|q
    · exact o.tag h1 (by decide) (q▸e)
    · exact o.tag h2 (by decide) (q▸e)
  have d:=st.dk
  refine⟨kk.keep st.sb (ne st.sb (by decide) (by decide)),kk.keep st.jb (ne st.jb (by decide) (by decide)),st.jo.kp kk (no st.jo),st.pb.kp kk (ne st.pb.box (by decide) (by decide)) (nm st.pb.map) (fun f hf=>?_) (fun _ _ h=>h),st.ab.kp kk (ne st.ab.box (by decide) (by decide)) (nm st.ab.map),?_,kk.keep st.tb (ne st.tb (by decide) (by decide)),st.tw,st.tm.kp kk (nm st.tm),st.tr.kp kk (fun g e q=>?_),st.wk.kp kk (nm st.wk),st.d1,st.d2,st.d3,st.d4,st.d5,st.d6,st.hi⟩
  · obtain⟨cur,e,-⟩:=(st.pb.fr f hf).row
    exact⟨ne e (by decide) (by decide),no (st.pb.fr f hf).pay⟩
  · have k5:∀ (g:Nat) (x:Array Value),¬Zj D1.J g→w.heap[g]? = some (.cells x 5 (0,0))→w'.heap[g]? = w.heap[g]?:=fun g x _ e=>kk.block g (hlt e) (ne e (by decide) (by decide))
    have bk:∀ v l,Bk (Zj D1.J) w v l→Bk (Zj D1.J) w' v l:=fun v l b=>b.wet (fun _ _ h=>h) k5
    obtain⟨cs,h3,h4,h5⟩:=d.row
    refine⟨kk.keep d.box (ne d.box (by decide) (by decide)),⟨cs,kk.keep h3 (fun e=>e.elim (fun e=>hN e.symm) fun e=>tag_ne h3 h2 (by decide) e),h4,fun k hk=>?_⟩,?_,d.ok,Nat.le_trans d.base kk.size,fun g hg=>Nat.lt_of_lt_of_le (d.wet g hg) kk.size⟩
    · obtain⟨u,a,b⟩:=h5 k hk
      exact⟨u,a,b.imp (bk _ _) id⟩
    · obtain⟨us,q1,q2,q3⟩:=d.pend
      exact⟨us,q1,ownsRow_same q2 fun g x e=>kk.block g (hlt e) (ne e (by decide) (by decide)),fun k a b=>bk _ _ (q3 k a b)⟩
  · rcases q with q|q
    · exact st.tr.ne h1 (by decide) (q▸e)
    · exact st.tr.ne h2 (by decide) (q▸e)
def SRt (X:ST)(D:SD)(w:World)(A:Option Addr)(l:List UInt8):Prop:=
  l≠[]→∃ b o cur,A=some ⟨b,o,none⟩∧w.heap[b]? = some (.cells cur 5 (0,0))∧¬FU X D w b∧∀ k (h:k<l.length),w.cell? ⟨b,o+k,none⟩=some (u8V l[k])
theorem SRt.mv{A:Option Addr}{l:List UInt8}(h:SRt X D w A l)(m:Mv X D D' w w'):SRt X D' w' A l:=fun hne=>by
  obtain⟨b,o,cur,e,hb,hn,hc⟩:=h hne
  obtain⟨e2,hn2⟩:=m.same (hlt hb) hn
  exact⟨b,o,cur,e,e2.trans hb,hn2,fun k hk=>(cell_same e2 _).trans (hc k hk)⟩
theorem SRt.rd{A:Option Addr}{l:List UInt8}(h:SRt X D w A l):Rd w w.heap.size A l:=fun hne=>by
  obtain⟨b,o,cur,e,hb,-,hc⟩:=h hne
  exact⟨b,o,e,hlt hb,hc⟩
theorem fu_same{g:Nat}(h:w'.heap[g]? = w.heap[g]?)(e:FU X D w' g):FU X D w g:=by
  rcases e with (e|e|e)|e|e|e|e|e
  · rcases e with e|e|e|e|e|e|⟨hn,cs,t,e,ht⟩
    · exact .inl (.inl (.inl e))
    · exact .inl (.inl (.inr (.inl e)))
    · exact .inl (.inl (.inr (.inr (.inl e))))
    · exact .inl (.inl (.inr (.inr (.inr (.inl e)))))
    · exact .inl (.inl (.inr (.inr (.inr (.inr (.inl e))))))
    · exact .inl (.inl (.inr (.inr (.inr (.inr (.inr (.inl e)))))))
    · exact .inl (.inl (.inr (.inr (.inr (.inr (.inr (.inr ⟨hn,cs,t,h▸e,ht⟩)))))))
  · exact .inl (.inr (.inl e))
  · exact .inl (.inr (.inr e))
  · exact .inr (.inl e)
  · exact .inr (.inr (.inl e))
  · exact .inr (.inr (.inr (.inl e)))
  · exact .inr (.inr (.inr (.inr (.inl e))))
  · exact .inr (.inr (.inr (.inr (.inr e))))
def SPs (X:ST)(D:SD)(w:World)(n₀:Nat)(lv:Value)(ps:List (List UInt8×List UInt8)):Prop:=
  ∃ cv:List CV,w.ownsRow n₀ 68 2 lv ps.length (cvX cv)∧(∀ g,lv.ownBlock=some g→¬FU X D w g)∧cv.length=ps.length∧∀ i (h:i<cv.length) (g:i<ps.length),cv[i].kn=ps[i].1.length∧cv[i].vn=ps[i].2.length∧SRt X D w cv[i].ka ps[i].1∧SRt X D w cv[i].va ps[i].2
theorem SPs.mv{n₀:Nat}{lv:Value}{ps:List (List UInt8×List UInt8)}(h:SPs X D w n₀ lv ps)(m:Mv X D D' w w'):SPs X D' w' n₀ lv ps:=by
  obtain⟨cv,h1,h2,h3,h4⟩:=h
  have hb:∀ g,lv.ownBlock=some g→g<w.heap.size:=fun g hg=>by
    rcases h1.2 with⟨e,-⟩|⟨g',cap,cur,e,-,hcur,-⟩
    · rw[e] at hg;cases hg
    · rw[e] at hg;injection hg with hg;dsimp only at hg;subst hg;exact hlt hcur
  refine⟨cv,row_same h1 fun g hg=>(m.same (hb g hg) (h2 g hg)).1,fun g hg=>(m.same (hb g hg) (h2 g hg)).2,h3,fun i hi hg=>?_⟩
  obtain⟨a,b,c,d⟩:=h4 i hi hg
  exact⟨a,b,c.mv m,d.mv m⟩
theorem SPs.row{n₀ N:Nat}{cur:Array Value}{lv:Value}{ps:List (List UInt8×List UInt8)}(h:SPs X D w n₀ lv ps)(k:Kp (·=N) w w')(hN:w.heap[N]? = some (.cells cur 50 (0,0))):SPs X D w' n₀ lv ps:=by
  obtain⟨cv,h1,h2,h3,h4⟩:=h
  have hb:∀ g,lv.ownBlock=some g→g<w.heap.size∧g≠N:=fun g hg=>by
    rcases h1.2 with⟨e,-⟩|⟨g',cap,cur,e,-,hcur,-⟩
    · rw[e] at hg;cases hg
    · rw[e] at hg;injection hg with hg;dsimp only at hg;subst hg
      exact⟨hlt hcur,tag_ne hcur hN (by decide)⟩
  have s8:∀ {A:Option Addr} {l:List UInt8},SRt X D w A l→SRt X D w' A l:=fun hr hne=>by
    obtain⟨b,o,c5,e,hb5,hn,hc⟩:=hr hne
    have e2:=k.block b (hlt hb5) (tag_ne hb5 hN (by decide))
    exact⟨b,o,c5,e,e2.trans hb5,fun q=>hn (fu_same e2 q),fun j hj=>(cell_same e2 _).trans (hc j hj)⟩
  refine⟨cv,row_same h1 fun g hg=>k.block g (hb g hg).1 (hb g hg).2,fun g hg q=>h2 g hg (fu_same (k.block g (hb g hg).1 (hb g hg).2) q),h3,fun i hi hg=>?_⟩
  obtain⟨a,b,c,d⟩:=h4 i hi hg
  exact⟨a,b,s8 c,s8 d⟩
theorem SPs.down{n₀ n₁:Nat}{lv:Value}{ps:List (List UInt8×List UInt8)}(h:SPs X D w n₀ lv ps)(hn:n₁≤n₀):SPs X D w n₁ lv ps:=by
  obtain⟨cv,h1,h2⟩:=h
  refine⟨cv,⟨h1.1,?_⟩,h2⟩
  rcases h1.2 with q|⟨g,cap,cur,e,hb,r⟩
  · exact .inl q
  · exact .inr ⟨g,cap,cur,e,Nat.le_trans hn hb,r⟩
theorem esc_hd{k:List UInt8}(h:1≤k.length)(r:List UInt8):0<Lib.compareBytes (esc k++r) [0,0]:=by
  cases k with
  | nil=>simp at h
  | cons c k =>
    show 0<Lib.compareBytes ((esc1 c++esc k)++r) [0,0]
    unfold esc1
    by_cases e:c=0
    · subst e
      simp[Lib.compareBytes]
    · rw[if_neg e]
      have h0:(0:UInt8)<c:=by
        rcases Nat.eq_zero_or_pos c.toNat with h|h
        · exact absurd (UInt8.toNat_inj.1 h) e
        · exact h
      have h1:¬c<0:=fun q=>by exact absurd q (by simp)
      simp[Lib.compareBytes,h0,h1,e]
theorem below_zero(h:∀ c∈cs,IsV c):BelowIs cs (txt [] 0) 0:=by
  refine⟨Nat.zero_le _,fun i _ h=>absurd h (Nat.not_lt_zero _),fun h0=>?_⟩
  obtain⟨kk,n,e,h1,-⟩:=h _ (List.getElem_mem h0)
  rw[e]
  have:=esc_hd h1 ([0,0]++le 8 (vnum n))
  unfold vkey txt
  rw[List.append_assoc]
  exact this
open Classical in
theorem scan_all:scanTo cs 0 []=cs:=by
  unfold scanTo
  rw[List.drop_zero]
  have:∀ l:List NC,(l.takeWhile fun c=>decide (ScP [] c))=l:=fun l=>by
    induction l with
    | nil=>rfl
    | cons a l ih =>
      have e:decide (ScP [] a)=true:=decide_eq_true (.inl rfl)
      simp only[List.takeWhile,e,ih]
  exact this cs
end
section
variable {X:ST}{D D':SD}{w w':World}{k:Nat}{cs:List NC}{U:Int→Option Us}
theorem RdF.srd{n₀:Nat}{A:Option Addr}{l:List UInt8}{f:FR}(h:RdF w' n₀ A l)(g:GS X D w k cs U)(m:Mv X D (D.hold f) w w')(hn:w.heap.size≤n₀):SRt X (D.hold f) w' A l:=fun hne=>by
  obtain⟨b,o,cur,e,h1,hb,hc⟩:=h hne
  exact⟨b,o,cur,e,hb,fu_new g.st g.us m (by omega) (.inr ⟨f,rfl⟩) hb (by decide) (by decide),hc⟩
theorem scan_s{tx p most:Nat}{vf:Nat→Bool}(g:GS X D w k cs U)(hl:D.tm.lookup (tx:Int)=some (mk 2 p))(hmv:MarksV D cs tx p vf)(hm2:most≤1000000) :
    Calls Tryz.prog 35 #[.pointer (some ⟨X.s,0,none⟩),.int .i64 (tx:Int),.slice none 0 0,.slice none 0 0,.int .i64 (most:Int)] w fun e w'=>∃ lv f,e=.returned (.tuple #[lv,.int .i64 0])∧Pv X D (D.hold f) w w'∧GS X (D.hold f) w' k cs U∧SPs X (D.hold f) w' w.heap.size lv (tells vf most cs).2:=by
  have hmf:∀ (fn:Fn) (first cap:Array Value) (w:World),(Instr.makeFunc fn first cap).run Tryz.prog w=.ok (.func fn first cap) w:=fun _ _ _ _=>rfl
  obtain⟨W1,hW1,g1,b1,s1⟩:=box_alloc w (.cells #[.pointer (some ⟨X.s,0,none⟩)] 24)
  obtain⟨W2,hW2,g2,b2,s2⟩:=box_alloc W1 (.cells #[.int .i64 (tx:Int)] 3)
  obtain⟨W3,hW3,g3,b3,s3⟩:=box_alloc W2 (.cells #[.int .i64 (most:Int)] 3)
  have b02:=b1.trans (b2.mono b1.size)
  have b03:=b02.trans (b3.mono b02.size)
  have RD:=ready_st (g.st.below b03) hl
  have y1:W3.cell? ⟨w.heap.size,0,none⟩=some (.pointer (some ⟨X.s,0,none⟩)):=cellD (keepB b3 (keepB b2 g1)) 0
  have y2:W3.cell? ⟨W1.heap.size,0,none⟩=some (.int .i64 (tx:Int)):=cellD (keepB b3 g2) 0
  have HT:=Lib.hid (And.intro (keepB b3 (keepB b2 g1)) (And.intro (keepB b3 g2) g3))
  obtain⟨PT,hPT⟩:∃ PT:World→Nat→Nat→Nat→Option Addr→Prop,PT=fun w7 bl bt c A=>Calls Tryz.prog 95 #[.pointer (some ⟨X.s,0,none⟩),.slice A 2 c,.slice none 0 0,.func (.func 96) #[] #[.pointer (some ⟨bt,0,none⟩),.pointer (some ⟨w.heap.size,0,none⟩),.pointer (some ⟨W1.heap.size,0,none⟩),.pointer (some ⟨bl,0,none⟩),.pointer (some ⟨W2.heap.size,0,none⟩)]] w7 fun e w'=>e=.returned (.int .i64 0)∧w'.cell? ⟨w.heap.size,0,none⟩=some (.pointer (some ⟨X.s,0,none⟩))∧∃ lv,w'.cell? ⟨bl,0,none⟩=some lv∧∃ f,Pv X D (D.hold f) w w'∧GS X (D.hold f) w' k cs U∧SPs X (D.hold f) w' w.heap.size lv (tells vf most cs).2:=⟨_,rfl⟩
  have EA:∀ w7 (b37:Below W3.heap.size W3 w7) (bl bt c:Nat) (A:Option Addr) (hbt:w7.heap[bt]? = some (.cells #[.slice none 0 0] 33 (0,0))) (hbl:w7.heap[bl]? = some (.cells #[.slice none 0 0] 50 (0,0))) (h1:w.heap.size≤bt) (h2:w.heap.size≤bl) (o:Own w7 w.heap.size (.slice A 2 c) [0,0]),
      PT w7 bl bt c A:=fun w7 b37 bl bt c A hbt hbl h1 h2 o=>by
    have b07:=b03.trans (b37.mono b03.size)
    have g7:=g.below b07
    subst hPT
    refine(sall_g (vf:=vf) (most:=most) (n₀:=w.heap.size) (i:=0) (fl:=[0,0]) g7 hl hmv hm2 b07.size (fun b e=>g.st.sg e) hbt hbl h1 h2 (keepB b37 (keepB b3 (keepB b2 g1))) (keepB b37 (keepB b3 g2)) (keepB b37 g3) (Nat.le_refl _) b1.size b02.size (below_zero g.isv) (fun c hc e=>?_) o rfl).mono ?_
    · obtain⟨kk,n,ek,-⟩:=g.isv c hc
      rw[ek] at e
      have:=congrArg List.length e
      rw[vkey_len] at this
      simp at this
    · rintro e w' ⟨rfl,lv,w2,ss,q2,k2,lo,kk⟩
      rw[scan_all] at ss
      obtain⟨⟨At,ct,t1,-⟩,cv,o1,o2,o3,o4⟩:=id ss
      have nS:∀ b,w.heap.size≤b→¬SG X D b:=fun b h e=>by have:=g.st.sg e;omega
      have hbt2:=k2.keep hbt (nS _ h1)
      have hbl2:=k2.keep hbl (nS _ h2)
      have hdb:bt≠X.db:=fun e=>by
        obtain⟨cs',hc,-⟩:=g.st.dk.row
        have:=hlt hc;omega
      have q':=q2.two kk hbt2 hbl2 hdb
      have k0:Kp (SG X D) w w':=((Kp.of b07).then k2).trans kk fun b hb e=>by rcases e with e | e<;>omega
      obtain⟨f,g',p',-⟩:=g.read q' k0
      have hs2:=k2.keep (keepB b37 (keepB b3 (keepB b2 g1))) (nS _ (Nat.le_refl _))
      have hs8:=kk.keep hs2 (fun e=>e.elim (fun e=>tag_ne hs2 hbt2 (by decide) e) fun e=>tag_ne hs2 hbl2 (by decide) e)
      refine⟨rfl,cellD hs8 0,lv,(cellD o1 0),f,p',g',cv,o2,fun b hb=>?_,o3,fun i hi hg=>?_⟩
      · rcases o2.2 with⟨e,-⟩|⟨b',cap,cur,e,h5,hcur,-⟩
        · rw[e] at hb;cases hb
        · rw[e] at hb;injection hb with hb;dsimp only at hb;subst hb
          exact fu_new g.st g.us p'.mv h5 (.inr ⟨f,rfl⟩) hcur (by decide) (by decide)
      · obtain⟨a,b,c,d⟩:=o4 i hi hg
        exact⟨a,b,c.srd g p'.mv (Nat.le_refl _),d.srd g p'.mv (Nat.le_refl _)⟩
  have HE:=Lib.hid EA
  have HB:=Lib.hid (And.intro b1 (And.intro b2 b3))
  have HB03:=Lib.hid b03
  have HS:=Lib.hid (And.intro s1 (And.intro s2 s3))
  have f1:¬((most:Int)<0):=by omega
  have FX:=Lib.hid (fun w4 (b4:Below W3.heap.size W3 w4)=>show w4.cell? ⟨w.heap.size,0,none⟩=some (.pointer (some ⟨X.s,0,none⟩))∧w4.cell? ⟨W2.heap.size,0,none⟩=some (.int .i64 (most:Int)) from⟨cellD (keepB b4 HT.out.1) 0,cellD (keepB b4 HT.out.2.2) 0⟩)
  clear EA g hl hmv hm2 g1 g2 g3 b1 b2 b3 b02 b03 s1 s2 s3
  go_enter Tryz.func35,Tryz.ntmps35
  go_upto_region 9 with (go_at_call 67;(with_reducible refine RD.mono ?_);rintro e w4 ⟨rfl,b4⟩;obtain⟨x1,x3⟩:=FX.out w4 b4)
  obtain⟨W5,hW5,g5,b5,s5⟩:=box_alloc w4 (.cells #[.slice none 0 0] 50)
  obtain⟨W6,hW6,g6,b6,s6⟩:=box_alloc W5 (.cells #[.slice none 0 0] 33)
  go_upto_region 11 with fail
  rw[← s5]
  have bd:=below_drew W6
  have b46:=(b5.trans (b6.mono b5.size)).trans (bd.mono (b5.trans (b6.mono b5.size)).size)
  have b36:=b4.trans (b46.mono b4.size)
  have HB4:=Lib.hid b4
  obtain⟨S0,-⟩:=FX.out W6.drew b36
  have F1:=first_any none 0 0 [] W6.drew (fun h=>absurd rfl h) rfl (by decide)
  rw[show txt [] 0=[0,0] from rfl] at F1
  have g5':=keepB b6 g5
  have hw4:w.heap.size≤w4.heap.size:=Nat.le_trans HB03.out.size b4.size
  have hw5:w.heap.size≤W5.heap.size:=Nat.le_trans hw4 b5.size
  have EE:=Lib.hid (fun w7 (b7:Below W6.drew.heap.size W6.drew w7) u1 (o:Own w7 W6.drew.heap.size u1 [0,0])=>show ∃ A c,u1=.slice A 2 c∧PT w7 w4.heap.size W5.heap.size c A from by
    obtain⟨A,c,rfl,-,-,-⟩:=o.sl rfl
    exact⟨A,c,rfl,HE.out w7 (b36.trans (b7.mono b36.size)) w4.heap.size W5.heap.size c A (keepB (bd.trans (b7.mono bd.size)) g6) (keepB (bd.trans (b7.mono bd.size)) g5') hw5 hw4 (o.down (Nat.le_trans hw5 (Nat.le_trans b6.size bd.size)))⟩)
  have FS:=Lib.hid (fun w7 (b7:Below W6.drew.heap.size W6.drew w7)=>(FX.out w7 (b36.trans (b7.mono b36.size))).1)
  clear HE HB HS HT FX RD y1 y2 x1 x3 hW1 hW2 hW3 hW5 hW6 g5 g6 b5 b6 b46 b4 g5' hw4 hw5 b36 s5 s6
  go_region_held3 (fun w7=>w7.cell? ⟨w.heap.size,0,none⟩=some (.pointer (some ⟨X.s,0,none⟩)))
    (first | with_reducible exact S0 | with_reducible exact S1 | with_reducible exact S2 | go_keep)
    (first
      | (go_at_call 94;(with_reducible refine F1.mono ?_);rintro e w7 ⟨⟨u1,rfl,o1⟩,b7⟩;have S1:=FS.out w7 b7;obtain⟨A1,c1,e1,E1⟩:=EE.out w7 b7 u1 o1;subst e1;subst hPT)
      | (go_at_call 95;(with_reducible refine E1.mono ?_);rintro e w8 ⟨rfl,S2,lv,xl,D',lf,g',sp⟩)
      | fail)
  all_goals
    go_wp2
    go_ret2
    exact⟨lv,D',rfl,lf,g',sp⟩
end
abbrev Prs:=List (List UInt8×List UInt8)
noncomputable def seesL(tm:List (Int×Value))(cs:List NC)(x:Int):Prs:=(tells (vfOf tm x.toNat (pOf ((tm.lookup x).getD (.slice none 0 0)))) 99 cs).2
noncomputable def viewL(D:SD)(cs:List NC):List Prs:=(D.ov++[(D.T.next:Int)]).map (seesL (mset D.tm (D.T.next:Int) (mk 2 D.T.last)) cs)
def VW (X:ST)(D:SD)(w:World)(n₀:Nat)(vv:Value)(L:List Prs):Prop:=
  ∃ vs:List Value,w.ownsRow n₀ 50 1 vv L.length vs∧(∀ g,vv.ownBlock=some g→¬FU X D w g)∧vs.length=L.length∧∀ i (h:i<vs.length) (g:i<L.length),SPs X D w n₀ vs[i] L[i]
section
variable {X:ST}{D D':SD}{w w':World}{k:Nat}{cs cs':List NC}{U:Int→Option Us}{S:List (List UInt8)}{M:Nat}
theorem VW.mv{n₀:Nat}{vv:Value}{L:List Prs}(h:VW X D w n₀ vv L)(m:Mv X D D' w w'):VW X D' w' n₀ vv L:=by
  obtain⟨vs,h1,h2,h3,h4⟩:=h
  have hb:∀ g,vv.ownBlock=some g→g<w.heap.size:=fun g hg=>by
    rcases h1.2 with⟨e,-⟩|⟨g',cap,cur,e,-,hcur,-⟩
    · rw[e] at hg;cases hg
    · rw[e] at hg;injection hg with hg;dsimp only at hg;subst hg;exact hlt hcur
  exact⟨vs,row_same h1 fun g hg=>(m.same (hb g hg) (h2 g hg)).1,fun g hg=>(m.same (hb g hg) (h2 g hg)).2,h3,fun i a b=>(h4 i a b).mv m⟩
theorem VW.nil(X:ST)(D:SD)(w:World)(n₀:Nat):VW X D w n₀ (.slice none 0 0) []:=⟨[],World.ownsRow_nil _ _ _ _,fun g e=>(nomatch e),rfl,fun i h=>by simp at h⟩
theorem VW.form{n₀:Nat}{vv:Value}{L:List Prs}(h:VW X D w n₀ vv L):∃ A c,vv=.slice A L.length c:=by
  obtain⟨vs,h1,-⟩:=h
  rcases h1.2 with⟨rfl,e⟩|⟨g,c,_,rfl,_⟩
  · rw[e];exact⟨_,_,rfl⟩
  · exact⟨_,_,rfl⟩
def SIs (X:ST)(D:SD)(w:World)(A:Option Addr)(l:List Int):Prop:=l≠[]→∃ b o cur,A=some ⟨b,o,none⟩∧w.heap[b]? = some (.cells cur 3 (0,0))∧¬FU X D w b∧∀ k (h:k<l.length),w.cell? ⟨b,o+k,none⟩=some (.int .i64 l[k])
theorem SIs.mv{A:Option Addr}{l:List Int}(h:SIs X D w A l)(m:Mv X D D' w w'):SIs X D' w' A l:=fun hne=>by
  obtain⟨b,o,cur,e,hb,hn,hc⟩:=h hne
  obtain⟨e2,hn2⟩:=m.same (hlt hb) hn
  exact⟨b,o,cur,e,e2.trans hb,hn2,fun j hj=>(cell_same e2 _).trans (hc j hj)⟩
theorem OR.sis{v:Value}{l:List Int}(o:OR w' w.heap.size v l)(g:GS X D w k cs U)(b:Below w.heap.size w w'):∃ A c,v=.slice A l.length c∧SIs X D w' A l:=by
  rcases o.2 with⟨e,h0⟩|⟨g',cap,cur,e,h1,h2,h3,h4,h5,h6⟩
  · have:l=[]:=List.eq_nil_of_length_eq_zero h0
    subst this
    exact⟨none,0,e,fun h=>absurd rfl h⟩
  · refine⟨_,cap,e,fun _=>⟨g',0,cur,rfl,h2,fu_new g.st g.us (Mv.below b) h1 (.inl rfl) h2 (by decide) (by decide),fun j hj=>?_⟩⟩
    rw[cellD h2,Nat.zero_add,← Array.getElem?_toList]
    have:(cur.toList.take (l.length * 1))[j]? = (l.map (Value.int .i64))[j]?:=by rw[h6]
    rw[List.getElem?_take_of_lt (by omega)] at this
    rw[this,List.getElem?_map,List.getElem?_eq_getElem hj]
    rfl
theorem delU_none{n:Nat}(h:U (n:Int)=none):delU U n=U:=by
  funext m
  unfold delU
  by_cases e:m=(n:Int)
  · rw[if_pos e,e,h]
  · rw[if_neg e]
theorem abort_0{tx p:Nat}{la:List Int}(g:GS X D w k cs U)(hkb:k≤3600)(hl:D.tm.lookup (tx:Int)=some (mk 2 p))(ho:D.ov=la++[(tx:Int)])(hna:∀ x∈la,x≠(tx:Int))(htx:tx≤1000000)(hU:U (tx:Int)=none) :
    Calls Tryz.prog 30 #[.pointer (some ⟨X.s,0,none⟩),.int .i64 (tx:Int)] w fun e w'=>e=.returned (.int .i64 0)∧∃ D',GS X D' w' (k+2) cs U∧Mv X D D' w w'∧D'.T.next=D.T.next∧D'.T.last=D.T.last∧D'.tm=mset D.tm (tx:Int) (mk 5 0)∧D'.ov=la:=by
  refine(abort_s (N:=0) (us:=[]) (cs':=cs) (lb:=[]) g (by omega) hl ho hna (fun x h=>by simp at h) htx (by rw[hU];rfl) (.nil _) rfl (by omega)).mono ?_
  rintro e w' ⟨rfl,D',g',mv,e1,e2,e3,e4⟩
  rw[delU_none hU] at g'
  exact⟨rfl,D',g'.mono (by omega),mv,e1,e2,e3,by rw[e4];simp⟩
theorem infoPP:(Tryz.prog.info? 50).map (fun i=>(i.zero,i.size,i.bytes))=some (some (.slice none 0 0),1,24):=by kernel_rfl
end
end Go.Proofs.YtdbkocfbhpgpkaaGreat
