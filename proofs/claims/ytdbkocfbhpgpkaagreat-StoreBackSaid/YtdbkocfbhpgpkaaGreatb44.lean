/-
  Scan's closure: the walk.
-/
import Derived.Test.YtdbkocfbhpgpkaaGreatb42
set_option linter.unusedVariables false
set_option linter.unusedSimpArgs false
namespace Go.Proofs.YtdbkocfbhpgpkaaGreat
open Go Go.RowKit Go.Shelf
open Go.Ev (PgM PageOk CellsOut rowsOf rowsV rowV rowsOf_len BelowIs)
set_option maxRecDepth 100000
set_option maxHeartbeats 4000000
theorem two_new(w:World)(u v:Value)(t:TypeId):∀ j x,[u,v][j]? = some x→(w.alloc (.cells #[u,v] t)).cell? ((⟨w.heap.size,0,none⟩:Addr).add j)=some x:=fun j x hx=>by
  have:((⟨w.heap.size,0,none⟩:Addr).add j)=⟨w.heap.size,j,none⟩:=by unfold Addr.add;split<;>simp_all
  rw[this]
  refine(cellD (heap_alloc_new w _) j).trans ?_
  simpa using hx
theorem scanc_g{w:World}{n₀ bt bl bs btx bm s t tx p most L an ac kn kc sn sc:Nat}{aA kA sA:Option Addr}{by_:Nat}{c:NC}{st:Told}{T:TR}{m:List (Int×Value)}{sto:Array Value}{lv0:Value}(vf:Nat→Bool)
    (hS:SS w n₀ bt bl lv0 st) (hL:st.2.length=L) (hL2:L≤200) (hm2:most≤1000000) (hn0:n₀≤w.heap.size)
    (hbs:w.heap[bs]? = some (.cells #[.pointer (some ⟨s,0,none⟩)] 24 (0,0))) (hbx:w.heap[btx]? = some (.cells #[.int .i64 (tx:Int)] 3 (0,0))) (hbm:w.heap[bm]? = some (.cells #[.int .i64 (most:Int)] 3 (0,0)))
    (hs:w.heap[s]? = some (.cells sto 125 (0,0))) (h13:sto[13]? = some (.pointer (some ⟨t,0,none⟩))) (ht:TB w t T) (hmm:MapI w T.who m) (hl:m.lookup (tx:Int)=some (mk 2 p))
    (hk:RdF w n₀ kA (kOf c)) (hkn:kn=(kOf c).length) (hk1:1≤kn) (hk2:kn≤1000) (hv:RdF w n₀ sA c.val) (hsn:sn=c.val.length) (hsc:sn≤sc) (hscm:sc≤maxLen) (hby:nOf c=by_)
    (hG:∃ b q,(b=2∨b=3∨b=5)∧m.lookup (by_:Int)=some (mk b q)∧vf by_=(decide ((by_:Int)=(tx:Int)) || visB b q p)) :
    Calls Tryz.prog 96 #[.agg #[.slice aA an ac,.slice kA kn kc,.int .i64 (by_:Int),.slice sA sn sc],.pointer (some ⟨bt,0,none⟩),.pointer (some ⟨bs,0,none⟩),.pointer (some ⟨btx,0,none⟩),.pointer (some ⟨bl,0,none⟩),.pointer (some ⟨bm,0,none⟩)] w fun e w'=>e=.returned (.bool true)∧∃ lv',SS w' n₀ bt bl lv' (scanStep vf most st c)∧(∀ b,lv'.ownBlock=some b→lv0.ownBlock=some b∨w.heap.size≤b)∧Kp (SSF bt bl lv0) w w':=by
  obtain⟨W1,hW1,g1,b1',s1⟩:=box_alloc w (.cells #[.slice aA an ac,.slice kA kn kc,.int .i64 (by_:Int),.slice sA sn sc] 158)
  obtain⟨W2,hW2,-,bd⟩:=drew_name W1
  have b1:Below w.heap.size w W1.drew:=b1'.trans ((below_drew W1).mono b1'.size)
  have g1:=keepB (below_drew W1) g1
  have S1:=hS.below b1
  obtain⟨⟨At,ct,t1w,t2w⟩,cv,o1w,o2w,o3,o4w⟩:=id hS
  have tb:∀ {w':World},Below w.heap.size w w'→RdF w' n₀ At st.1:=fun b=>t2w.kp (Kp.of (S:=fun _=>False) b) (fun _ _ _ e=>e)
  have t1:=keepB b1 t1w
  have t2:=tb b1
  obtain⟨tl,htl⟩:∃ tl,st.1.length=tl:=⟨_,rfl⟩
  have OS:=osame_any kA At kc ct kn tl (kOf c) st.1 W1.drew ((hk.rd.below b1).more b1.size) t2.rd hkn htl.symm
  rw[htl] at t1 t1w
  have OSN:=fun n=>osame_any kA At kc ct kn tl (kOf c) st.1 (W1.drewN n) ((hk.rd.below (b1'.trans ((drewN_below W1 w.heap.size n)))).more (b1'.trans ((drewN_below W1 w.heap.size n))).size) (tb (b1'.trans (drewN_below W1 w.heap.size n))).rd hkn htl.symm
  have yt0:W1.cell? ⟨bt,0,none⟩=some (.slice At tl ct):=cellD (keepB b1' t1w) 0
  have y10:W1.cell? ⟨w.heap.size,1,none⟩=some (.slice kA kn kc):=cellD g1 1
  have HB1':=Lib.hid b1'
  have HSB:=Lib.hid hS
  have y1:W1.drew.cell? ⟨w.heap.size,1,none⟩=some (.slice kA kn kc):=cellD g1 1
  have y2:W1.drew.cell? ⟨w.heap.size,2,none⟩=some (.int .i64 (by_:Int)):=cellD g1 2
  have yt:W1.drew.cell? ⟨bt,0,none⟩=some (.slice At tl ct):=cellD t1 0
  have ys:W1.drew.cell? ⟨bs,0,none⟩=some (.pointer (some ⟨s,0,none⟩)):=cellD (keepB b1 hbs) 0
  have yx:W1.drew.cell? ⟨btx,0,none⟩=some (.int .i64 (tx:Int)):=cellD (keepB b1 hbx) 0
  have y13:W1.drew.cell? ⟨s,13,none⟩=some (.pointer (some ⟨t,0,none⟩)):=(cellD (keepB b1 hs) 13).trans h13
  obtain⟨b,q,hb,hlk,hvf⟩:=hG
  have VI:=visible_g (show TB W1.drew t T from keepB b1 ht) (hmm.below b1) (tx:Int) (by_:Int) p q b hb hl hlk
  rw[← hvf] at VI
  have kt:=And.intro y1 (And.intro yt (And.intro y2 (And.intro ys (And.intro yx y13))))
  have KEEP:=Lib.hid (fun(w6:World) (b6:Below W1.drew.heap.size W1.drew w6)=>show w6.cell? ⟨w.heap.size,1,none⟩=some (.slice kA kn kc)∧w6.cell? ⟨bt,0,none⟩=some (.slice At tl ct)∧w6.cell? ⟨w.heap.size,2,none⟩=some (.int .i64 (by_:Int))∧w6.cell? ⟨bs,0,none⟩=some (.pointer (some ⟨s,0,none⟩))∧w6.cell? ⟨btx,0,none⟩=some (.int .i64 (tx:Int))∧w6.cell? ⟨s,13,none⟩=some (.pointer (some ⟨t,0,none⟩)) from⟨cellD (keepB b6 g1) 1,cellD (keepB b6 t1) 0,cellD (keepB b6 g1) 2,cellD (keepB b6 (keepB b1 hbs)) 0,cellD (keepB b6 (keepB b1 hbx)) 0,(cellD (keepB b6 (keepB b1 hs)) 13).trans h13⟩)
  have HS:=Lib.hid hS
  have HS1:=Lib.hid S1
  have HZ:=Lib.hid s1
  have HB1:=Lib.hid b1
  have HKN:=Lib.hid hkn
  have HSN:=Lib.hid hsn
  have HSC:=Lib.hid (And.intro hsc hscm)
  have HLL:=Lib.hid hL
  have HK:=Lib.hid hk
  have HV:=Lib.hid hv
  have HBY:=Lib.hid hby
  have HB:=Lib.hid (And.intro hbs (And.intro hbx hbm))
  have HT:=Lib.hid (And.intro t1 t2)
  have HG1:=Lib.hid g1
  have HO:=Lib.hid (And.intro o1w (And.intro o2w (And.intro o3 o4w)))
  clear s1 hS S1 o1w o2w o3 o4w t1w t2w tb hk hv t2 t1 hkn hsn hsc hscm hL htl hby hbs hbx hbm hs h13 ht hmm hl hlk hvf hb b1 b1' g1 bd hW2 y1 yt y2 ys yx y13
  by_cases heq:kOf c=st.1
  · have hstep:scanStep vf most st c=st:=by unfold scanStep;rw[if_pos (.inl heq)]
    have hd:decide (kOf c=st.1)=true:=by simpa using heq
    simp only[hd] at OSN
    rw[hstep]
    clear hd hstep heq OS VI kt
    go_enter Tryz.func96,Tryz.ntmps96
    go_upto_region 1 with fail
    go_quiet (first
      | (go_at_call 97;refine Calls.quiet_of_same (OSN _)))
    go_wp2
    go_ret
    have bb:=HB1'.out.trans (drewN_below W1 w.heap.size nq)
    exact⟨rfl,_,HSB.out.below bb,fun b e=>.inl e,Kp.of bb⟩
  · have hd:decide (kOf c=st.1)=false:=by simpa using heq
    rw[hd] at OS
    obtain⟨vb,hvb⟩:∃ vb,vf by_=vb:=⟨_,rfl⟩
    rw[hvb] at VI
    have HNE:=Lib.hid heq
    have HVB:=Lib.hid hvb
    clear hd heq hvb OSN yt0 y10
    cases vb with
    | false =>
      have hstep:scanStep vf most st c=st:=by unfold scanStep;rw[if_pos (.inr (by rw[HBY.out];exact HVB.out))]
      rw[hstep]
      clear hstep
      go_enter Tryz.func96,Tryz.ntmps96
      go_upto_region 1 with fail
      go_region_held3 (fun w'=>w'.cell? ⟨w.heap.size,1,none⟩=some (.slice kA kn kc)∧w'.cell? ⟨bt,0,none⟩=some (.slice At tl ct)∧w'.cell? ⟨w.heap.size,2,none⟩=some (.int .i64 (by_:Int))∧w'.cell? ⟨bs,0,none⟩=some (.pointer (some ⟨s,0,none⟩))∧w'.cell? ⟨btx,0,none⟩=some (.int .i64 (tx:Int))∧w'.cell? ⟨s,13,none⟩=some (.pointer (some ⟨t,0,none⟩)))
        (first | with_reducible exact kt | with_reducible exact kt2 | go_keep)
        (first
          | (go_at_call 97;(with_reducible refine OS.mono ?_);rintro e w5 ⟨rfl,rfl⟩)
          | (go_at_call 98;(with_reducible refine VI.mono ?_);rintro e w6 ⟨rfl,b6⟩;have kt2:=KEEP.out w6 b6)
          | fail)
      all_goals
        go_wp2
        go_ret
        have bb:=HB1.out.trans (b6.mono HB1.out.size)
        exact⟨rfl,_,HSB.out.below bb,fun b e=>.inl e,Kp.of bb⟩
    | true =>
      have hstep:scanStep vf most st c=(kOf c,match valOf c.val with | some v=>if st.2.length<most then st.2++[(kOf c,v)] else st.2 | none=>st.2):=by
        have hn:¬(kOf c=st.1∨vf (nOf c)=false):=by
          rintro (e|e)
          · exact HNE.out e
          · rw[HBY.out,HVB.out] at e;cases e
        unfold scanStep
        rw[if_neg hn]
        rfl
      have HSTEP:=Lib.hid hstep
      clear hstep
      go_enter Tryz.func96,Tryz.ntmps96
      go_upto_region 1 with fail
      go_region_held3 (fun w'=>w'.cell? ⟨w.heap.size,1,none⟩=some (.slice kA kn kc)∧w'.cell? ⟨bt,0,none⟩=some (.slice At tl ct)∧w'.cell? ⟨w.heap.size,2,none⟩=some (.int .i64 (by_:Int))∧w'.cell? ⟨bs,0,none⟩=some (.pointer (some ⟨s,0,none⟩))∧w'.cell? ⟨btx,0,none⟩=some (.int .i64 (tx:Int))∧w'.cell? ⟨s,13,none⟩=some (.pointer (some ⟨t,0,none⟩)))
        (first | with_reducible exact kt | with_reducible exact kt2 | go_keep)
        (first
          | (go_at_call 97;(with_reducible refine OS.mono ?_);rintro e w5 ⟨rfl,rfl⟩)
          | (go_at_call 98;(with_reducible refine VI.mono ?_);rintro e w6 ⟨rfl,b6⟩;have kt2:=KEEP.out w6 b6)
          | fail)
      all_goals
        have b06:=HB1.out.trans (b6.mono HB1.out.size)
        obtain⟨⟨At',ct',t1,t2⟩,cv',o1,o2,o3,o4⟩:=HSB.out.below b06
        have g6:=keepB b6 HG1.out
        have r6:=HV.out.kp (Kp.of (S:=fun _=>False) b06) (fun _ _ _ e=>e)
        have q6:=HK.out.kp (Kp.of (S:=fun _=>False) b06) (fun _ _ _ e=>e)
        have zt:w6.frozen? ⟨bt,0,none⟩=false:=frozenD t1 0
        have xt:w6.cell? ⟨bt,0,none⟩=some (.slice At' st.1.length ct'):=cellD t1 0
        have xk:w6.cell? ⟨w.heap.size,1,none⟩=some (.slice kA kn kc):=cellD g6 1
        obtain⟨W7,hW7,g7,k7,s7⟩:=set_name 0 t1 (.slice kA kn kc)
        have nt:∀ b cur,w6.heap[b]? = some (.cells cur 5 (0,0))→¬b=bt:=fun b cur hb e=>tag_ne hb t1 (by decide) e
        have r7:=r6.kp k7 nt
        have q7:=q6.kp k7 nt
        have gv7:=k7.keep g6 (tag_ne g6 t1 (by decide))
        have ol7:=k7.keep o1 (tag_ne o1 t1 (by decide))
        have x0:W7.cell? ⟨w.heap.size,0,none⟩=some (.slice aA an ac):=cellD gv7 0
        have x1:W7.cell? ⟨w.heap.size,1,none⟩=some (.slice kA kn kc):=cellD gv7 1
        have x2:W7.cell? ⟨w.heap.size,2,none⟩=some (.int .i64 (by_:Int)):=cellD gv7 2
        have x3:W7.cell? ⟨w.heap.size,3,none⟩=some (.slice sA sn sc):=cellD gv7 3
        have VG:=value_g (sA:=sA) (sn:=sn) (sc:=sc) (aA:=aA) (an:=an) (ac:=ac) (kA:=kA) (kn:=kn) (kc:=kc) (by_:=(by_:Int)) r7.rd HSN.out HSC.out.1 HSC.out.2
        obtain⟨vo,hvo⟩:∃ vo,valOf c.val=vo:=⟨_,rfl⟩
        rw[hvo] at VG
        have HVO:=Lib.hid hvo
        clear hvo
        obtain⟨A2,c2,hlv⟩:∃ A2 c2,lv0=.slice A2 L c2:=by
          rcases o2.2 with⟨e,h0⟩|⟨g,cap,cur,e,-⟩
          · exact⟨none,0,by rw[e,← HLL.out,h0]⟩
          · exact⟨_,_,by rw[e,HLL.out]⟩
        subst hlv
        have bm7:=k7.keep (keepB b06 HB.out.2.2) (tag_ne (keepB b06 HB.out.2.2) t1 (by decide))
        have HBM:=Lib.hid bm7
        clear bm7
        have HR7:=Lib.hid r7
        have HQ7:=Lib.hid q7
        have HGV:=Lib.hid gv7
        have HOL:=Lib.hid ol7
        have HO2:=Lib.hid (And.intro t1 (And.intro o1 (And.intro o2 (And.intro o3 o4))))
        have HB06:=Lib.hid b06
        have HK7:=Lib.hid k7
        clear r7 q7 gv7 ol7 t1 t2 o1 o2 o3 o4 r6 q6 g6 b06 k7 s7 nt kt kt2 VI OS b6
        go_upto_region 5 with (go_at_call 91;(with_reducible refine VG.mono ?_);rintro e w8 ⟨⟨V,rfl,hV⟩,b8⟩)
        have ol8:=keepB b8 HOL.out
        have xl:w8.cell? ⟨bl,0,none⟩=some (.slice A2 L c2):=cellD ol8 0
        have xm:w8.cell? ⟨bm,0,none⟩=some (.int .i64 (most:Int)):=cellD (keepB b8 HBM.out) 0
        have skip:SS w8 n₀ bt bl (.slice A2 L c2) (kOf c,st.2)∧Kp (SSF bt bl (.slice A2 L c2)) w w8:=by
          obtain⟨t1,o1,o2,o3,o4⟩:=HO2.out
          have b06:=HB06.out
          have k7:=HK7.out
          have n5:∀ b cur,w6.heap[b]? = some (.cells cur 5 (0,0))→¬b=bt:=fun b cur hb e=>tag_ne hb t1 (by decide) e
          refine⟨⟨⟨kA,kc,by rw[← HKN.out];exact keepB b8 g7,HQ7.out.kp (Kp.of (S:=fun _=>False) b8) (fun _ _ _ e=>e)⟩,cv',ol8,?_,o3,fun i h g=>?_⟩,?_⟩
          · refine row_same (row_same o2 fun g hg=>k7.block g ?_ ?_) fun g hg=>b8.block g ?_
            · rcases o2.2 with⟨e,-⟩|⟨g',cap,cur,e,-,hcur,-⟩
              · rw[e] at hg;cases hg
              · rw[e] at hg;injection hg with hg;dsimp only at hg;subst hg;exact hlt hcur
            · rcases o2.2 with⟨e,-⟩|⟨g',cap,cur,e,-,hcur,-⟩
              · rw[e] at hg;cases hg
              · rw[e] at hg;injection hg with hg;dsimp only at hg;subst hg;exact tag_ne hcur t1 (by decide)
            · rcases o2.2 with⟨e,-⟩|⟨g',cap,cur,e,-,hcur,-⟩
              · rw[e] at hg;cases hg
              · rw[e] at hg;injection hg with hg;dsimp only at hg;subst hg;exact Nat.lt_of_lt_of_le (hlt hcur) k7.size
          · obtain⟨a,b,p,q⟩:=o4 i h g
            exact⟨a,b,(p.kp k7 n5).kp (Kp.of (S:=fun _=>False) b8) (fun _ _ _ e=>e),(q.kp k7 n5).kp (Kp.of (S:=fun _=>False) b8) (fun _ _ _ e=>e)⟩
          · exact((Kp.of b06).trans k7 fun g _ e=>.inl e).then (Kp.of b8)
        have HSK:=Lib.hid skip
        clear skip ol8
        cases vo with
        | none =>
          simp only[Option.isSome_none]
          go_wp2
          go_ret
          rw[HSTEP.out,HVO.out]
          exact⟨rfl,_,HSK.out.1,fun b e=>.inl e,HSK.out.2⟩
        | some v =>
          simp only[Option.isSome_some]
          by_cases hlm:L<most
          · have f1:(L:Int)<(most:Int):=by omega
            obtain⟨Av,cV,rfl,rv8⟩:=hV.rdf (HR7.out.kp (Kp.of (S:=fun _=>False) b8) (fun _ _ _ e=>e)) HVO.out
            obtain⟨vn,hvn⟩:∃ vn,v.length=vn:=⟨_,rfl⟩
            rw[hvn]
            have q8:=HQ7.out.kp (Kp.of (S:=fun _=>False) b8) (fun _ _ _ e=>e)
            have hkne:kOf c≠[]:=fun e=>by have:=HKN.out;rw[e] at this;simp at this;omega
            obtain⟨bk,ok,curk,rfl,-,-,-⟩:=id (q8 hkne)
            have bd8:=below_drew w8
            have gv8:=keepB b8 HGV.out
            have gvD:=keepB bd8 gv8
            have olD:=keepB bd8 (keepB b8 HOL.out)
            have xk8:w8.drew.cell? ⟨w.heap.size,1,none⟩=some (.slice (some ⟨bk,ok,none⟩) kn kc):=cellD gvD 1
            have xlD:w8.drew.cell? ⟨bl,0,none⟩=some (.slice A2 L c2):=cellD olD 0
            have CL:=clone_any bk ok kc kn (kOf c) w8.drew ((q8.kp (Kp.of (S:=fun _=>False) bd8) (fun _ _ _ e=>e)).rd) HKN.out (by omega) (by omega)
            have kt:=xk8
            obtain⟨ss8,kp8⟩:=HSK.out
            obtain⟨cv8,l1,l2,l3,l4⟩:=ss8.out
            rw[HLL.out] at l2
            have ROW:∀ w9,Below w8.drew.heap.size w8.drew w9→∀ o,(w9.alloc o).ownsRow n₀ 68 2 (.slice A2 L c2) L (cvX cv8):=fun w9 b9 o=>row_same l2 fun g hg=>((bd8.trans (b9.mono bd8.size)).trans ((show Below w9.heap.size w9 (w9.alloc o) from(Below.refl _ _).alloc (Nat.le_refl _) o).mono (Nat.le_trans bd8.size b9.size))).block g (by
              rcases l2.2 with⟨e,-⟩|⟨g',cap,cur,e,-,hcur,-⟩
              · rw[e] at hg;cases hg
              · rw[e] at hg;injection hg with hg;dsimp only at hg;subst hg;exact hlt hcur)
            have KEEP9:=Lib.hid (fun(w9:World) (b9:Below w8.drew.heap.size w8.drew w9)=>show w9.cell? ⟨w.heap.size,1,none⟩=some (.slice (some ⟨bk,ok,none⟩) kn kc)∧w9.cell? ⟨bl,0,none⟩=some (.slice A2 L c2) from⟨cellD (keepB b9 gvD) 1,cellD (keepB b9 olD) 0⟩)
            have HOLD:=Lib.hid olD
            have HGVD:=Lib.hid gvD
            have HSS:=Lib.hid (And.intro ss8 (And.intro l2 (And.intro l3 l4)))
            have HRV:=Lib.hid rv8
            have HVN:=Lib.hid hvn
            obtain⟨i0,hi,hz0,hs0,hb0⟩:=info_parts infoPair
            have nlr:∀ g,(Value.slice A2 L c2).ownBlock=some g→∃ cur,w8.heap[g]? = some (.cells cur 68 (0,0)):=fun g hg=>by
              rcases l2.2 with⟨e,-⟩|⟨g',cap,cur,e,-,hcur,-⟩
              · rw[e] at hg;cases hg
              · rw[e] at hg;injection hg with hg;dsimp only at hg;subst hg;exact⟨cur,hcur⟩
            have HNL:=Lib.hid nlr
            have HNB:=Lib.hid (show ∀ g,(Value.slice A2 L c2).ownBlock=some g→n₀≤g from fun g hg=>by
              rcases l2.2 with⟨e,-⟩|⟨g',cap,cur,e,hb,-⟩
              · rw[e] at hg;cases hg
              · rw[e] at hg;injection hg with hg;dsimp only at hg;subst hg;exact hb)
            have OL4:=Lib.hid (fun(w9:World) (b9:Below w8.drew.heap.size w8.drew w9) (w4:World) (k4:Kp (fun g=>(Value.slice A2 L c2).ownBlock=some g) w9 w4)=>k4.keep (keepB b9 olD) (fun q=>by
              obtain⟨cur,hcur⟩:=nlr _ q
              exact tag_ne olD (show w8.drew.heap[bl]? = _ from hcur) (by decide) rfl))
            have XK4:=Lib.hid (fun(w9:World) (b9:Below w8.drew.heap.size w8.drew w9) (w4:World) (k4:Kp (fun g=>(Value.slice A2 L c2).ownBlock=some g) w9 w4)=>show w4.cell? ⟨w.heap.size,1,none⟩=some (.slice (some ⟨bk,ok,none⟩) kn kc) from cellD (k4.keep (keepB b9 gvD) (fun q=>by
              obtain⟨cur,hcur⟩:=nlr _ q
              exact tag_ne gvD (show w8.drew.heap[w.heap.size]? = _ from hcur) (by decide) rfl)) 1)
            have XK5:=Lib.hid (fun(w9:World) (b9:Below w8.drew.heap.size w8.drew w9) (w4:World) (k4:Kp (fun g=>(Value.slice A2 L c2).ownBlock=some g) w9 w4) (W5:World) (k5:Kp (·=bl) w4 W5)=>show W5.cell? ⟨w.heap.size,1,none⟩=some (.slice (some ⟨bk,ok,none⟩) kn kc) from cellD (k5.keep (k4.keep (keepB b9 gvD) (fun q=>by
              obtain⟨cur,hcur⟩:=nlr _ q
              exact tag_ne gvD (show w8.drew.heap[w.heap.size]? = _ from hcur) (by decide) rfl)) (tag_ne gvD olD (by decide))) 1)
            clear nlr
            have HN8:=Lib.hid (show n₀≤w8.heap.size from Nat.le_trans hn0 kp8.size)
            have HKP8:=Lib.hid kp8
            clear q8 hkne gv8 gvD olD xk8 ss8 kp8 l1 l2 l3 l4 rv8 hvn hV b8 bd8
            go_upto_region 6 with fail
            go_region_law
              (first
                | (go_simp;go_at_call 99;(with_reducible refine CL.mono ?_);rintro e w9 ⟨⟨vk,rfl,o9⟩,b9⟩;obtain⟨Ak,kc9,rfl,-,-,-⟩:=o9.sl HKN.out.symm;obtain⟨kt2,xl9⟩:=KEEP9.out w9 b9;have xl9a:(w9.alloc (.cells #[.slice Ak kn kc9,.slice Av vn cV] 68)).cell? ⟨bl,0,none⟩=some (.slice A2 L c2):=(KEEP9.out _ (b9.trans ((show Below w9.heap.size w9 (w9.alloc (.cells #[.slice Ak kn kc9,.slice Av vn cV] 68)) from(Below.refl _ _).alloc (Nat.le_refl _) _).mono b9.size))).2)
                | (refine step_append_lies _ rfl (.tmp 39) (.tmp 45) 50 rfl n₀ 68 i0 _ 2 48 Tryz.underlying50 hi hz0 hs0 hb0 rfl (by decide) (.slice A2 L c2) L (cvX cv8) rfl (ROW w9 b9 _) ⟨w9.heap.size, 0, none⟩ 1 1 [.slice Ak kn kc9, .slice Av vn cV] rfl rfl ?_ ?_ (by decide) ?_ ?_ ?_ _ rfl ?_
                   · exact two_new w9 _ _ _
                   · intro u hu;simp at hu;rcases hu with rfl | rfl<;>rfl
                   · simp[maxLen];omega
                   · omega
                   · rw[World.size_alloc];have:=HN8.out;have:=b9.size;have:w8.drew.heap.size=w8.heap.size:=rfl;omega
                   intro g4 c4 w4 own4 grow4 at4 lt4
                   have k4:Kp (fun g=>(Value.slice A2 L c2).ownBlock=some g) w9 w4:=(Kp.of (show Below w9.heap.size w9 (w9.alloc _) from(Below.refl _ _).alloc (Nat.le_refl _) _)).then (Kp.grow grow4)
                   have ol4:=OL4.out w9 b9 w4 k4
                   have zl4:w4.frozen? ⟨bl,0,none⟩=false:=frozenD ol4 0
                   have kt3:=XK4.out w9 b9 w4 k4
                   have xl4:w4.cell? ⟨bl,0,none⟩=some (.slice A2 L c2):=cellD ol4 0
                   obtain⟨W5,hW5,g5,k5,s5⟩:=set_name 0 ol4 (.slice (some ⟨g4,0,none⟩) (L+1) c4)
                   have kt4:=XK5.out w9 b9 w4 k4 W5 k5)
                | fail)
            all_goals
              go_wp2
              go_ret
              rw[HSTEP.out,HVO.out]
              have hl2:st.2.length<most:=by rw[HLL.out];exact hlm
              simp only[if_pos hl2]
              obtain⟨ss8,l2,l3,l4⟩:=HSS.out
              have hbl8:w8.heap[bl]? = some (.cells #[.slice A2 L c2] 50 (0,0)):=HOLD.out
              have bA:Below w8.heap.size w8 w9:=(below_drew w8).trans (b9.mono (below_drew w8).size)
              have KT:Kp (fun g=>(Value.slice A2 L c2).ownBlock=some g∨g=bl) w8 W5:=((Kp.of bA).then (k4.weaken fun _ e=>.inl e)).then (k5.weaken fun _ e=>.inr e)
              have n5:∀ b cur,w8.heap[b]? = some (.cells cur 5 (0,0))→¬((Value.slice A2 L c2).ownBlock=some b∨b=bl):=fun b cur hb e=>by
                rcases e with e|e
                · obtain⟨cur',hc'⟩:=HNL.out b e
                  rw[hb] at hc';injection hc' with hc';injection hc' with _ hc';exact absurd hc' (by decide)
                · exact tag_ne hb hbl8 (by decide) e
              have n59:∀ b cur,w9.heap[b]? = some (.cells cur 5 (0,0))→¬(Value.slice A2 L c2).ownBlock=some b:=fun b cur hb e=>by
                obtain⟨cur',hc'⟩:=HNL.out b e
                rw[keepB bA hc'] at hb;injection hb with hb;injection hb with _ hb;exact absurd hb (by decide)
              have n54:∀ b cur,w4.heap[b]? = some (.cells cur 5 (0,0))→¬b=bl:=fun b cur hb e=>tag_ne hb ol4 (by decide) e
              obtain⟨At2,ct2,t1,t2⟩:=ss8.told
              refine⟨rfl,_,⟨⟨At2,ct2,KT.keep t1 ?_,t2.kp KT n5⟩,cv8++[⟨Ak,kn,kc9,Av,vn,cV⟩],g5,?_,by simp[l3],fun i h g=>?_⟩,fun b hb=>?_,HKP8.out.trans KT fun b hb e=>?_⟩
              · rintro (e|e)
                · obtain⟨cur',hc'⟩:=HNL.out bt e
                  rw[t1] at hc';injection hc' with hc';injection hc' with _ hc';exact absurd hc' (by decide)
                · exact tag_ne t1 hbl8 (by decide) e
              · have el:(st.2++[(kOf c,v)]).length=L+1:=by simp[HLL.out]
                show W5.ownsRow n₀ 68 2 _ (st.2++[(kOf c,v)]).length _
                rw[el,cvX_snoc]
                refine row_same own4 fun b hb=>k5.block b ?_ ?_
                · injection hb with hb;dsimp only at hb;omega
                · rcases own4.2 with⟨e,-⟩|⟨g',cap,cur,e,-,hcur,-⟩
                  · cases e
                  · rw[e] at hb;injection hb with hb;dsimp only at hb;subst hb
                    exact tag_ne hcur ol4 (by decide)
              · by_cases hi:i<cv8.length
                · have hg2:i<st.2.length:=by omega
                  have e1:(cv8++[(⟨Ak,kn,kc9,Av,vn,cV⟩:CV)])[i]=cv8[i]:=List.getElem_append_left hi
                  have e2:(st.2++[(kOf c,v)])[i]'g=st.2[i]:=List.getElem_append_left hg2
                  obtain⟨a,b,p,q⟩:=l4 i hi hg2
                  rw[e1]
                  show cv8[i].kn=((st.2++[(kOf c,v)])[i]'g).1.length∧cv8[i].vn=((st.2++[(kOf c,v)])[i]'g).2.length∧RdF W5 n₀ cv8[i].ka ((st.2++[(kOf c,v)])[i]'g).1∧RdF W5 n₀ cv8[i].va ((st.2++[(kOf c,v)])[i]'g).2
                  rw[e2]
                  exact⟨a,b,p.kp KT n5,q.kp KT n5⟩
                · have hil:i=cv8.length:=by simp at h;omega
                  have e1:(cv8++[(⟨Ak,kn,kc9,Av,vn,cV⟩:CV)])[i]=⟨Ak,kn,kc9,Av,vn,cV⟩:=List.getElem_concat_length (by omega) _
                  have e2:(st.2++[(kOf c,v)])[i]'g=(kOf c,v):=List.getElem_concat_length (by omega) _
                  rw[e1]
                  show kn=((st.2++[(kOf c,v)])[i]'g).1.length∧vn=((st.2++[(kOf c,v)])[i]'g).2.length∧RdF W5 n₀ Ak ((st.2++[(kOf c,v)])[i]'g).1∧RdF W5 n₀ Av ((st.2++[(kOf c,v)])[i]'g).2
                  rw[e2]
                  exact⟨HKN.out,HVN.out.symm,((o9.rdf.down HN8.out).kp k4 n59).kp k5 n54,HRV.out.kp KT n5⟩
              · injection hb with hb;dsimp only at hb;subst hb
                rcases at4 with q|q
                · exact .inl q
                · right
                  have z1:=HKP8.out.size
                  have z2:=bA.size
                  rw[q,World.size_alloc];omega
              · rcases e with e|e
                · exact .inr (.inr e)
                · exact .inr (.inl e)
          · have f1:¬((L:Int)<(most:Int)):=by omega
            go_wp2
            go_ret
            rw[HSTEP.out,HVO.out]
            have hl2:¬st.2.length<most:=by rw[HLL.out];exact hlm
            simp only[if_neg hl2]
            exact⟨rfl,_,HSK.out.1,fun b e=>.inl e,HSK.out.2⟩
end Go.Proofs.YtdbkocfbhpgpkaaGreat
