/-
  tree.Scan over one leaf: the very cells.
-/
import Derived.Test.YtdbkocfbhpgpkaaGreatb34
set_option linter.unusedVariables false
set_option linter.unusedSimpArgs false
namespace Go.Proofs.YtdbkocfbhpgpkaaGreat
open Go Go.RowKit Go.Shelf
open Go.Ev (PgM PageOk CellsOut rowsOf rowsV rowV rowsOf_len BelowIs)
set_option maxRecDepth 100000
set_option maxHeartbeats 4000000
structure CVO(w:World)(n₀:Nat)(cv:CV)(c:NC):Prop where
  kn:cv.kn=c.kn
  vn:cv.vn=c.vn
  k:Own w n₀ cv.k c.key
  v:Own w n₀ cv.v c.val
theorem CVO.rk{w:World}{n₀:Nat}{cv:CV}{c:NC}(h:CVO w n₀ cv c):Rd w w.heap.size cv.ka c.key:=by
  obtain⟨A,c',e,-,-,r⟩:=h.k.slice
  injection e with e
  rw[e];exact r
theorem CVO.below{w w':World}{n₀:Nat}{cv:CV}{c:NC}(h:CVO w n₀ cv c)(hb:Below w.heap.size w w'):CVO w' n₀ cv c:=⟨h.kn,h.vn,h.k.belowS hb,h.v.belowS hb⟩
theorem mkCV_own{w:World}{n₀:Nat}:∀ (cs:List NC) (gs:List (Nat×Nat)),gs.length=(rowsOf cs).length→(∀ (k:Nat) (p g:Nat×Nat),(rowsOf cs)[k]? = some p→gs[k]? = some g→Own w n₀ (.slice (some ⟨g.1,0,none⟩) p.1 g.2) (bl p.1 p.2)) →
    ∀ i (h:i<(mkCV cs gs).length) (g:i<cs.length),CVO w n₀ (mkCV cs gs)[i] cs[i]
  | [],gs,h,_=>fun i _ g=>absurd g (by simp)
  | ⟨kn,K,vn,V⟩::cs,[],h,_=>by simp[rowsOf] at h
  | ⟨kn,K,vn,V⟩::cs,[g],h,_=>by simp[rowsOf] at h
  | ⟨kn, K, vn, V⟩ :: cs, g1 :: g2 :: gs, h, H => by
    intro i hi hg
    cases i with
    | zero=>exact⟨rfl,rfl,H 0 (kn,K) g1 rfl rfl,H 1 (vn,V) g2 rfl rfl⟩
    | succ i=>exact mkCV_own cs gs (by simpa[rowsOf] using h) (fun k p g h1 h2=>H (k+2) p g h1 h2) i (by simpa[mkCV] using hi) (by simpa using hg)
theorem out_cvo{n₀:Nat}{w:World}{v:Value}{cs:List NC}(h:CellsOut 219 n₀ w v cs):∃ A c cv,v=.slice A cs.length c∧cv.length=cs.length∧RdC w w.heap.size A cv∧∀ i (h:i<cv.length) (g:i<cs.length),CVO w n₀ cv[i] cs[i]:=by
  obtain⟨gs,hg,hrow,-,-,hc⟩:=h
  obtain⟨r1,r2⟩:=mkCV_row cs gs hg
  rw[r1] at hrow
  obtain⟨A,c,e,hr⟩:=row_rdc (cv:=mkCV cs gs) hrow r2.symm
  exact⟨A,c,mkCV cs gs,e,r2,hr,mkCV_own cs gs hg fun k p g h1 h2=>(hc k p g h1 h2).2⟩
def ScP (tl:List UInt8)(c:NC):Prop:=tl=[]∨Lib.compareBytes c.key tl<0
open Classical in
noncomputable def scanTo(cs:List NC)(i:Nat)(tl:List UInt8):List NC:=(cs.drop i).takeWhile fun c=>decide (ScP tl c)
theorem takeWhile_at{α:Type}(p:α→Bool):∀ (l:List α) (q:Nat),q≤l.length→(∀ j (h:j<l.length),j<q→p l[j]=true)→(q=l.length∨∀ h:q<l.length,p l[q]=false)→l.take q=l.takeWhile p
  | [],q,h,_,_=>by simp
  | a :: l, 0, _, _, h3 => by
    rcases h3 with h3|h3
    · simp at h3
    · have:=h3 (by simp)
      simp at this
      simp[List.takeWhile,this]
  | a :: l, q + 1, h1, h2, h3 => by
    have h0:=h2 0 (by simp) (by omega)
    simp at h0
    have ih:=takeWhile_at p l q (by simpa using h1) (fun j h g=>by have:=h2 (j+1) (by simpa using h) (by omega);simpa using this) (h3.imp (fun e=>by simpa using e) fun e h=>by have:=e (by simpa using h);simpa using this)
    simp[List.takeWhile,h0,ih]
theorem scan_stop{cs:List NC}{i q:Nat}{tl:List UInt8}(hq:i+q≤cs.length)(h:∀ j (h:i+j<cs.length),j<q→ScP tl cs[i+j])(h2:i+q=cs.length∨∀ h:i+q<cs.length,¬ScP tl cs[i+q]):(cs.drop i).take q=scanTo cs i tl:=by
  refine takeWhile_at _ _ _ (by simp;omega) (fun j hj g=>?_) ?_
  · have:=h j (by simp at hj;omega) g
    simpa using this
  · rcases h2 with h2|h2
    · exact .inl (by simp;omega)
    · refine .inr fun hh=>?_
      have:=h2 (by simp at hh;omega)
      simpa using this
theorem scan_more{cs:List NC}{i q:Nat}{tl:List UInt8}{hq:i+q<cs.length}(h:∀ j (h:i+j<cs.length),j<q→ScP tl cs[i+j])(h2:ScP tl cs[i+q]):∀ j (h:i+j<cs.length),j<q+1→ScP tl cs[i+j]:=fun j hj g=>by
  rcases Nat.lt_or_eq_of_le (Nat.le_of_lt_succ g) with e|e
  · exact h j hj e
  · subst e;exact h2
def ScO (w:World)(ps:List NC)(e:Ending)(w':World):Prop:=∃ A c cv,e=.returned (.tuple #[.slice A cv.length c,.int .i64 0])∧RdC w' w'.heap.size A cv∧cv.length=ps.length∧∀ j (h:j<cv.length) (g:j<ps.length),CVO w' w.heap.size cv[j] ps[j]
theorem scan_res{w w0 w':World}{cs:List NC}{cv:List CV}{i q t base:Nat}{v:Value}(hcv:cv.length=cs.length)
    (hcs:∀ i (h:i<cv.length) (g:i<cs.length),CVO w0 w.heap.size cv[i] cs[i])
    (hrow:w'.ownsRow base t 2 v q (cvX ((cv.drop i).take q))) (hb:Below w0.heap.size w0 w') (hq:i+q≤cs.length) (hz:w.heap.size≤w0.heap.size) :
    ScO w ((cs.drop i).take q) (.returned (.tuple #[v,.int .i64 0])) w':=by
  have hl1:((cv.drop i).take q).length=q:=by simp;omega
  have hl2:((cs.drop i).take q).length=q:=by simp;omega
  obtain⟨A,c,e,hr⟩:=row_rdc hrow hl1.symm
  refine⟨A,c,(cv.drop i).take q,by rw[hl1,e],hr,by rw[hl1,hl2],fun j h g=>?_⟩
  have e1:((cv.drop i).take q)[j]=cv[i+j]'(by omega):=by simp
  have e2:((cs.drop i).take q)[j]=cs[i+j]'(by omega):=by simp
  rw[e1,e2]
  exact(hcs (i+j) (by omega) (by omega)).below hb
theorem scan_g1{S:Nat→Prop}{Q:World→Prop}{w:World}{x fn fc tn tc i:Nat}{fa ta:Option Addr}{fl tl:List UInt8}{cs:List NC}
    (DN:Calls Tryz.prog 246 #[.pointer (some ⟨x,0,none⟩),.slice fa fn fc] w fun e w'=>(∃ g c A d zs,e=.returned (.tuple #[.slice (some ⟨g,0,none⟩) 1 c,.int .i64 0])∧w.heap.size≤g∧w'.heap[g]? = some (.cells (#[.int .i64 1,.int .u8 1,.int .i64 0,.slice A cs.length d,.int .i64 0]++zs) 260 (0,0))∧CellsOut 219 w.heap.size w' (.slice A cs.length d) cs)∧Q w'∧Kp S w w')
    (hQ:Stb Q) (hf:∀ w',Kp S w w'→Rd w' w.heap.size fa fl) (hfn:fn=fl.length) (ht:∀ w',Kp S w w'→Rd w' w.heap.size ta tl) (htn:tn=tl.length) (ht1:1≤tn)
    (hj:BelowIs cs fl i) (hno:∀ c∈cs,c.key≠fl) (hn:cs.length≤60) :
    Calls Tryz.prog 187 #[.pointer (some ⟨x,0,none⟩),.slice fa fn fc,.slice ta tn tc,.int .i64 64] w fun e w'=>ScO w (scanTo cs i tl) e w'∧Q w'∧Kp S w w':=by
  have HN:=Lib.hid hn
  have HF:=Lib.hid hfn
  have HT:=Lib.hid htn
  have HT1:=Lib.hid ht1
  clear hn hfn htn ht1
  go_enter Tryz.func187,Tryz.ntmps187
  go_upto_region 6 with (go_at_call 246;(with_reducible refine DN.mono ?_);rintro e w2 ⟨⟨g,c,A,d,zs,rfl,hg,hgr,hout⟩,hq,k2⟩)
  have cellz:∀ (w':World),w'.heap[g]? = some (.cells (#[.int .i64 1,.int .u8 1,.int .i64 0,.slice A cs.length d,.int .i64 0]++zs) 260 (0,0))→w'.cell? ⟨g,1,none⟩=some (.int .u8 1)∧w'.cell? ⟨g,2,none⟩=some (.int .i64 0)∧w'.cell? ⟨g,3,none⟩=some (.slice A cs.length d):=fun w' h=>by
    refine⟨?_,?_,?_⟩<;>(rw[cellD h,Array.getElem?_append_left (by simp)];rfl)
  obtain⟨y1,y2,y3⟩:=cellz w2 hgr
  obtain⟨W3,hW3,g3,b3,s3⟩:=box_alloc w2 (.cells #[.int .u8 1,.int .i64 0,.slice A cs.length d] 116)
  go_upto_region 7 with fail
  have x0:W3.cell? ⟨w2.heap.size,0,none⟩=some (.int .u8 1):=cellD g3 0
  have x1:W3.cell? ⟨w2.heap.size,1,none⟩=some (.int .i64 0):=cellD g3 1
  have x2:W3.cell? ⟨w2.heap.size,2,none⟩=some (.slice A cs.length d):=cellD g3 2
  have z2:=k2.size
  have z3:=b3.size
  have hout3:=out_kp hout (Kp.of (S:=fun _=>False) b3) (fun _ h=>h.elim)
  have hfr:=hf w2 k2
  have hp3:PgM W3 W3.heap.size A cs:=by
    obtain⟨A',c',e,h⟩:=out_pgm hout3
    injection e with e1 e2 e3
    rw[e1];exact h
  have PL:=tplace_any cs A fa cs.length d fn fc i fl W3 rfl (by have:=HN.out;omega) hp3 ((hfr.below (b3.mono z2)).more (Nat.le_trans z2 z3)) HF.out hj hno
  have HS3:=Lib.hid s3
  clear s3 DN hno hW3 y1 y2 y3 cellz
  go_upto_region 8 with (go_at_call 247;(with_reducible refine PL.mono ?_);rintro e w4 ⟨rfl,b4⟩)
  have b34:Below w2.heap.size w2 w4:=b3.trans (b4.mono z3)
  have z4:=b4.size
  have g4:=keepB b4 g3
  have hout4:=out_kp hout3 (Kp.of (S:=fun _=>False) b4) (fun _ h=>h.elim)
  have tr4:=(ht w2 k2).below (b34.mono z2)
  have q4:=hQ.b _ _ b34 hq
  have k4:Kp S w w4:=k2.base (b34.mono z2)
  obtain⟨cv,hcv,hrd,hcs⟩:∃ cv:List CV,cv.length=cs.length∧RdC w4 w4.heap.size A cv∧∀ j (h:j<cv.length) (g:j<cs.length),CVO w4 w.heap.size cv[j] cs[j]:=by
    obtain⟨A',c',cv,e,h1,h2,h3⟩:=out_cvo hout4
    injection e with e1 e2 e3
    exact⟨cv,h1,by rw[e1];exact h2,h3⟩
  have hji:i≤cs.length:=hj.1
  have HCS:=Lib.hid hcs
  have HCV:=Lib.hid hcv
  clear hcs hcv hj
  have e0:w4.cell? ⟨w2.heap.size,0,none⟩=some (.int .u8 1):=cellD g4 0
  have e1:w4.cell? ⟨w2.heap.size,1,none⟩=some (.int .i64 0):=cellD g4 1
  have e2:w4.cell? ⟨w2.heap.size,2,none⟩=some (.slice A cs.length d):=cellD g4 2
  clear x0 x1 x2 hp3 PL hout hout3 hfr hgr g3
  go_wp2
  go_loopw [11,13,15,16] (fun e a l mt wr=>e=.int .i64 0∧a=.int .i64 (i:Nat)∧l=.slice none 0 0∧mt=.int .i64 1∧wr=w4) (fun _ _ _ _ _=>0)
  case atStart=>exact⟨rfl,rfl,rfl,rfl,rfl⟩
  case round=>
    obtain⟨rfl,rfl,rfl,rfl,rfl⟩:=hrel
    obtain⟨w0,rfl⟩:∃ w0,w0=wr:=⟨_,rfl⟩
    obtain⟨gs,-,hrow,hnil,-⟩:=hout4
    rcases hrow.2 with⟨e,e3⟩|⟨gA,cap,cur,e,hgA,hcur,hc4,hc5,hc6,hc7⟩
    · injection e with e4 e5 e6
      subst e4 e6
      have hi0:i=0:=by omega
      subst hi0
      rw[e3] at e2
      have H3:=Lib.hid e3
      clear hrow e5 e3 hji hnil
      go_wp2
      go_loopw [15,50] (fun l k w5=>l=.slice none 0 0∧k=.int .i64 0∧w5=w0) (fun _ _ _=>0)
      case atStart=>exact⟨rfl,rfl,rfl⟩
      case round=>
        obtain⟨rfl,rfl,rfl⟩:=hrel
        go_wp2
        go_ret2
        exact⟨⟨none,0,[],rfl,fun h=>absurd rfl h,by rw[List.eq_nil_of_length_eq_zero H3.out];rfl,fun j h=>by simp at h⟩,q4,k4⟩
    · injection e with e4 e5 e6
      subst e4 e6
      clear e5
      have hne:cv≠[]:=fun e=>by
        have h0:cs=[]:=List.eq_nil_of_length_eq_zero (by rw[← HCV.out,e];rfl)
        have:=hnil.2 h0
        injection this with this
        cases this
      clear hnil
      obtain⟨b,o,eA,hb,hcc⟩:=hrd hne
      injection eA with eA
      injection eA with eA eB
      subst eA eB
      have f1:(i:Int)≤(cs.length:Int):=by omega
      have f2:i≤d:=by omega
      have f3:cs.length≤d:=by omega
      have HCC:=Lib.hid hcc
      clear hcur hc6 hc7 hrow hcc hrd
      by_cases hid:i=d
      · obtain rfl:i=cs.length:=by omega
        have f4:cs.length-cs.length=0:=by omega
        subst hid
        clear f1 f2 f3 hji hc4 hne
        go_wp2
        go_loopw [15,50] (fun l k w5=>l=.slice none 0 0∧k=.int .i64 0∧w5=w0) (fun _ _ _=>0)
        case atStart=>exact⟨rfl,rfl,rfl⟩
        case round=>
          obtain⟨rfl,rfl,rfl⟩:=hrel
          go_wp2
          go_ret2
          exact⟨⟨none,0,[],rfl,fun h=>absurd rfl h,by unfold scanTo;rw[List.drop_length];rfl,fun j h=>by simp at h⟩,q4,k4⟩
      · go_wp2
        go_loopw [15,50] (fun l k w5=>∃ q:Nat,q≤cs.length-i∧k=.int .i64 (q:Nat)∧(∀ j (h:i+j<cs.length),j<q→ScP tl cs[i+j])∧w5.ownsRow w0.heap.size 68 2 l q (cvX ((cv.drop i).take q))∧Below w0.heap.size w0 w5) (fun _ k _=>cs.length-(RowKit.intOf k).toNat)
        case atStart=>exact⟨0,Nat.zero_le _,rfl,fun j _ h=>absurd h (Nat.not_lt_zero _),World.ownsRow_nil _ _ _ _,Below.refl _ _⟩
        case round=>
          obtain⟨q,hq5,rfl,hsc,hrow5,b5⟩:=hrel
          have HSC:=Lib.hid hsc
          clear hsc
          by_cases hqi:q<cs.length-i
          · have hiq:i+q<cv.length:=by rw[HCV.out];omega
            obtain⟨c1,c2⟩:=HCC.out (i+q) hiq
            have hcvo:=HCS.out (i+q) hiq (by omega)
            have hk1:=hcvo.kn
            have rk:Rd w0 w0.heap.size cv[i+q].ka cs[i+q].key:=hcvo.rk
            clear hcvo
            obtain⟨⟨ka,kn,kc,va,vn,vc⟩,hX⟩:∃ X,cv[i+q]=X:=⟨_,rfl⟩
            rw[hX] at c1 c2 hk1 rk
            have eo:0+(i+q) * 2=i * 2+q * 2:=by omega
            rw[eo] at c1 c2
            have d1:wr.cell? ⟨gA,i * 2+q * 2,none⟩=some (.slice ka kn kc):=(b5.cell (p:=⟨gA,i * 2+q * 2,none⟩) hb).trans c1
            have d2:wr.cell? ⟨gA,i * 2+q * 2+1,none⟩=some (.slice va vn vc):=(b5.cell (p:=⟨gA,i * 2+q * 2+1,none⟩) hb).trans c2
            obtain⟨W6,hW6,g6,b6,s6⟩:=box_alloc wr (.cells #[.slice ka kn kc,.slice va vn vc] 219)
            have y0:W6.cell? ⟨wr.heap.size,0,none⟩=some (.slice ka kn kc):=cellD g6 0
            have y1:W6.cell? ⟨wr.heap.size,1,none⟩=some (.slice va vn vc):=cellD g6 1
            have z5:=b5.size
            have z6:=b6.size
            have b56:=b5.trans (b6.mono z5)
            have rk':Rd w0 w0.heap.size ka cs[i+q].key:=rk
            have CM:=cmp_any ka ta kc tc kn tn cs[i+q].key tl W6 ((rk'.below b56).more b56.size) (((tr4.below (b56.mono k4.size))).more (Nat.le_trans k4.size b56.size)) (hk1.trans (by simp[NC.key,bl_length])) HT.out
            obtain⟨z,hz⟩:∃ z,Lib.compareBytes cs[i+q].key tl=z:=⟨_,rfl⟩
            rw[hz] at CM
            have HK1:=Lib.hid hk1
            have HX:=Lib.hid hX
            have HS6:=Lib.hid s6
            have l1:¬((q:Int)=64):=by have:=HN.out;omega
            have l2:(0:Int)<(tn:Int):=by have:=HT1.out;omega
            obtain⟨A5,c5,hl5⟩:∃ A c,u15=.slice A q c:=by
              rcases hrow5.2 with⟨rfl,h0⟩|⟨g',cap,cur,rfl,-⟩
              · subst h0;exact⟨none,0,rfl⟩
              · exact⟨_,_,rfl⟩
            subst hl5
            clear c1 c2 hk1 eo s6 hX
            have HZ:=Lib.hid hz
            clear hz rk'
            by_cases h0:0≤z
            · have l3:decide (0≤z)=true:=by simpa using h0
              go_wp2_with (go_at_call 192;(with_reducible refine CM.mono ?_);rintro e w7 ⟨rfl,rfl⟩)
              go_ret2
              have hst:(cs.drop i).take q=scanTo cs i tl:=scan_stop (by omega) HSC.out (.inr fun hiq=>by
                rintro (e|e)
                · have:=HT1.out;rw[HT.out,e] at this;simp at this
                · rw[HZ.out] at e;omega)
              refine⟨?_,hQ.b _ _ b56 q4,k4.base (b56.mono k4.size)⟩
              rw[← hst]
              exact scan_res HCV.out HCS.out (row_keep hrow5 b6) b56 (by omega) k4.size
            · have hsp:ScP tl cs[i+q]:=.inr (by rw[HZ.out];omega)
              have HSP:=Lib.hid hsp
              clear hsp
              have l3:decide (0≤z)=false:=by simpa using h0
              go_upto_region 16 with (go_at_call 192;(with_reducible refine CM.mono ?_);rintro e w7 ⟨rfl,rfl⟩)
              clear hW6 CM l3 h0
              obtain⟨W8,hW8,g8,b8,s8⟩:=box_alloc w7 (.cells #[.slice ka kn kc,.slice va vn vc] 68)
              have hrow8:=row_keep (row_keep hrow5 b6) b8
              have hnw:∀ j u,[Value.slice ka kn kc,.slice va vn vc][j]? = some u→W8.cell? ((⟨w7.heap.size,0,none⟩:Addr).add j)=some u:=fun j u hu=>by
                have:((⟨w7.heap.size,0,none⟩:Addr).add j)=⟨w7.heap.size,j,none⟩:=by unfold Addr.add;split<;>simp_all
                rw[this,cellD g8]
                simpa using hu
              have hone:∀ u∈[Value.slice ka kn kc,.slice va vn vc],u.oneCell'=true:=fun u hu=>by simp at hu;rcases hu with rfl | rfl<;>rfl
              have HC:=Lib.hid hnw
              have HO:=Lib.hid hone
              have b58:=b56.trans (b8.mono b56.size)
              have hsn:(cv.drop i).take (q+1)=(cv.drop i).take q++[⟨ka,kn,kc,va,vn,vc⟩]:=by
                rw[List.take_succ_eq_append_getElem (by simp;omega)]
                congr 2
                rw[List.getElem_drop];exact HX.out
              have HSN:=Lib.hid hsn
              have hqn:q+1≤60:=by have:=HN.out;omega
              clear rk hnw hone s8 hsn hiq HK1 HX
              go_wp2_with (at_builtin;refine apG rfl (.tmp 71) (.tmp 77) 50 68 (.agg #[.slice none 0 0,.slice none 0 0]) 2 48 Tryz.underlying50 infoPair rfl (by decide) rfl w0.heap.size (.slice A5 q c5) q (cvX ((cv.drop i).take q)) rfl hrow8 ⟨w7.heap.size,0,none⟩ 1 1 [.slice ka kn kc,.slice va vn vc] rfl rfl HC.out HO.out ?c1 ?c2 b58.size ?_)
              case c1=>simp[maxLen];omega
              case c2=>omega
              intro v9 W9 own9 grow9 at9
              have own9':W9.ownsRow w0.heap.size 68 2 v9 (q+1) (cvX ((cv.drop i).take (q+1))):=by rw[HSN.out,cvX_snoc];exact own9
              have b59:Below w0.heap.size w0 W9:=b58.trans ((Kp.grow grow9).below b58.size fun k hk e=>by
                rcases hrow8.2 with⟨e1,-⟩|⟨g',cap,cur,e1,hbb,-⟩
                · rw[e1] at e;cases e
                · rw[e1] at e;injection e with e;dsimp only at e;omega)
              clear own9 grow9 at9 hrow8 hrow5
              go_wp2
              refine⟨⟨q+1,by omega,rfl,scan_more HSC.out HSP.out,own9',b59⟩,?_⟩
              simp[RowKit.intOf];omega
          · obtain rfl:q=cs.length-i:=by omega
            have hst:(cs.drop i).take (cs.length-i)=scanTo cs i tl:=scan_stop (by omega) HSC.out (.inl (by omega))
            have hres:=scan_res HCV.out HCS.out hrow5 b5 (by omega) k4.size
            rw[hst] at hres
            obtain⟨A,c,e,-⟩:=row_rdc hrow5 (by rw[List.length_take,List.length_drop,HCV.out];omega)
            subst e
            have q5:=hQ.b _ _ b5 q4
            have k5:=k4.base (b5.mono k4.size)
            have e1':wr.cell? ⟨w2.heap.size,1,none⟩=some (.int .i64 0):=(b5.cell (p:=⟨w2.heap.size,1,none⟩) (hlt g4)).trans e1
            have HR:=Lib.hid hrow5
            clear hrow5
            go_wp2
            go_ret2
            exact⟨hres,q5,k5⟩
theorem scan_g0{S:Nat→Prop}{Q:World→Prop}{w:World}{x fn fc tc i:Nat}{fa ta:Option Addr}{fl:List UInt8}{cs:List NC}
    (DN:Calls Tryz.prog 246 #[.pointer (some ⟨x,0,none⟩),.slice fa fn fc] w fun e w'=>(∃ g c A d zs,e=.returned (.tuple #[.slice (some ⟨g,0,none⟩) 1 c,.int .i64 0])∧w.heap.size≤g∧w'.heap[g]? = some (.cells (#[.int .i64 1,.int .u8 1,.int .i64 0,.slice A cs.length d,.int .i64 0]++zs) 260 (0,0))∧CellsOut 219 w.heap.size w' (.slice A cs.length d) cs)∧Q w'∧Kp S w w')
    (hQ:Stb Q) (hf:∀ w',Kp S w w'→Rd w' w.heap.size fa fl) (hfn:fn=fl.length)
    (hj:BelowIs cs fl i) (hno:∀ c∈cs,c.key≠fl) (hn:cs.length≤60) :
    Calls Tryz.prog 187 #[.pointer (some ⟨x,0,none⟩),.slice fa fn fc,.slice ta 0 tc,.int .i64 64] w fun e w'=>ScO w (scanTo cs i []) e w'∧Q w'∧Kp S w w':=by
  have HN:=Lib.hid hn
  have HF:=Lib.hid hfn
  clear hn hfn
  go_enter Tryz.func187,Tryz.ntmps187
  go_upto_region 6 with (go_at_call 246;(with_reducible refine DN.mono ?_);rintro e w2 ⟨⟨g,c,A,d,zs,rfl,hg,hgr,hout⟩,hq,k2⟩)
  have cellz:∀ (w':World),w'.heap[g]? = some (.cells (#[.int .i64 1,.int .u8 1,.int .i64 0,.slice A cs.length d,.int .i64 0]++zs) 260 (0,0))→w'.cell? ⟨g,1,none⟩=some (.int .u8 1)∧w'.cell? ⟨g,2,none⟩=some (.int .i64 0)∧w'.cell? ⟨g,3,none⟩=some (.slice A cs.length d):=fun w' h=>by
    refine⟨?_,?_,?_⟩<;>(rw[cellD h,Array.getElem?_append_left (by simp)];rfl)
  obtain⟨y1,y2,y3⟩:=cellz w2 hgr
  obtain⟨W3,hW3,g3,b3,s3⟩:=box_alloc w2 (.cells #[.int .u8 1,.int .i64 0,.slice A cs.length d] 116)
  go_upto_region 7 with fail
  have x0:W3.cell? ⟨w2.heap.size,0,none⟩=some (.int .u8 1):=cellD g3 0
  have x1:W3.cell? ⟨w2.heap.size,1,none⟩=some (.int .i64 0):=cellD g3 1
  have x2:W3.cell? ⟨w2.heap.size,2,none⟩=some (.slice A cs.length d):=cellD g3 2
  have z2:=k2.size
  have z3:=b3.size
  have hout3:=out_kp hout (Kp.of (S:=fun _=>False) b3) (fun _ h=>h.elim)
  have hfr:=hf w2 k2
  have hp3:PgM W3 W3.heap.size A cs:=by
    obtain⟨A',c',e,h⟩:=out_pgm hout3
    injection e with e1 e2 e3
    rw[e1];exact h
  have PL:=tplace_any cs A fa cs.length d fn fc i fl W3 rfl (by have:=HN.out;omega) hp3 ((hfr.below (b3.mono z2)).more (Nat.le_trans z2 z3)) HF.out hj hno
  have HS3:=Lib.hid s3
  clear s3 DN hno hW3 y1 y2 y3 cellz
  go_upto_region 8 with (go_at_call 247;(with_reducible refine PL.mono ?_);rintro e w4 ⟨rfl,b4⟩)
  have b34:Below w2.heap.size w2 w4:=b3.trans (b4.mono z3)
  have z4:=b4.size
  have g4:=keepB b4 g3
  have hout4:=out_kp hout3 (Kp.of (S:=fun _=>False) b4) (fun _ h=>h.elim)
  have q4:=hQ.b _ _ b34 hq
  have k4:Kp S w w4:=k2.base (b34.mono z2)
  obtain⟨cv,hcv,hrd,hcs⟩:∃ cv:List CV,cv.length=cs.length∧RdC w4 w4.heap.size A cv∧∀ j (h:j<cv.length) (g:j<cs.length),CVO w4 w.heap.size cv[j] cs[j]:=by
    obtain⟨A',c',cv,e,h1,h2,h3⟩:=out_cvo hout4
    injection e with e1 e2 e3
    exact⟨cv,h1,by rw[e1];exact h2,h3⟩
  have hji:i≤cs.length:=hj.1
  have HCS:=Lib.hid hcs
  have HCV:=Lib.hid hcv
  clear hcs hcv hj
  have e0:w4.cell? ⟨w2.heap.size,0,none⟩=some (.int .u8 1):=cellD g4 0
  have e1:w4.cell? ⟨w2.heap.size,1,none⟩=some (.int .i64 0):=cellD g4 1
  have e2:w4.cell? ⟨w2.heap.size,2,none⟩=some (.slice A cs.length d):=cellD g4 2
  clear x0 x1 x2 hp3 PL hout hout3 hfr hgr g3
  go_wp2
  go_loopw [11,13,15,16] (fun e a l mt wr=>e=.int .i64 0∧a=.int .i64 (i:Nat)∧l=.slice none 0 0∧mt=.int .i64 1∧wr=w4) (fun _ _ _ _ _=>0)
  case atStart=>exact⟨rfl,rfl,rfl,rfl,rfl⟩
  case round=>
    obtain⟨rfl,rfl,rfl,rfl,rfl⟩:=hrel
    obtain⟨w0,rfl⟩:∃ w0,w0=wr:=⟨_,rfl⟩
    obtain⟨gs,-,hrow,hnil,-⟩:=hout4
    rcases hrow.2 with⟨e,e3⟩|⟨gA,cap,cur,e,hgA,hcur,hc4,hc5,hc6,hc7⟩
    · injection e with e4 e5 e6
      subst e4 e6
      have hi0:i=0:=by omega
      subst hi0
      rw[e3] at e2
      have H3:=Lib.hid e3
      clear hrow e5 e3 hji hnil
      go_wp2
      go_loopw [15,50] (fun l k w5=>l=.slice none 0 0∧k=.int .i64 0∧w5=w0) (fun _ _ _=>0)
      case atStart=>exact⟨rfl,rfl,rfl⟩
      case round=>
        obtain⟨rfl,rfl,rfl⟩:=hrel
        go_wp2
        go_ret2
        exact⟨⟨none,0,[],rfl,fun h=>absurd rfl h,by rw[List.eq_nil_of_length_eq_zero H3.out];rfl,fun j h=>by simp at h⟩,q4,k4⟩
    · injection e with e4 e5 e6
      subst e4 e6
      clear e5
      have hne:cv≠[]:=fun e=>by
        have h0:cs=[]:=List.eq_nil_of_length_eq_zero (by rw[← HCV.out,e];rfl)
        have:=hnil.2 h0
        injection this with this
        cases this
      clear hnil
      obtain⟨b,o,eA,hb,hcc⟩:=hrd hne
      injection eA with eA
      injection eA with eA eB
      subst eA eB
      have f1:(i:Int)≤(cs.length:Int):=by omega
      have f2:i≤d:=by omega
      have f3:cs.length≤d:=by omega
      have HCC:=Lib.hid hcc
      clear hcur hc6 hc7 hrow hcc hrd
      by_cases hid:i=d
      · obtain rfl:i=cs.length:=by omega
        have f4:cs.length-cs.length=0:=by omega
        subst hid
        clear f1 f2 f3 hji hc4 hne
        go_wp2
        go_loopw [15,50] (fun l k w5=>l=.slice none 0 0∧k=.int .i64 0∧w5=w0) (fun _ _ _=>0)
        case atStart=>exact⟨rfl,rfl,rfl⟩
        case round=>
          obtain⟨rfl,rfl,rfl⟩:=hrel
          go_wp2
          go_ret2
          exact⟨⟨none,0,[],rfl,fun h=>absurd rfl h,by unfold scanTo;rw[List.drop_length];rfl,fun j h=>by simp at h⟩,q4,k4⟩
      · go_wp2
        go_loopw [15,50] (fun l k w5=>∃ q:Nat,q≤cs.length-i∧k=.int .i64 (q:Nat)∧(∀ j (h:i+j<cs.length),j<q→ScP [] cs[i+j])∧w5.ownsRow w0.heap.size 68 2 l q (cvX ((cv.drop i).take q))∧Below w0.heap.size w0 w5) (fun _ k _=>cs.length-(RowKit.intOf k).toNat)
        case atStart=>exact⟨0,Nat.zero_le _,rfl,fun j _ h=>absurd h (Nat.not_lt_zero _),World.ownsRow_nil _ _ _ _,Below.refl _ _⟩
        case round=>
          obtain⟨q,hq5,rfl,hsc,hrow5,b5⟩:=hrel
          have HSC:=Lib.hid hsc
          clear hsc
          by_cases hqi:q<cs.length-i
          · have hiq:i+q<cv.length:=by rw[HCV.out];omega
            obtain⟨c1,c2⟩:=HCC.out (i+q) hiq
            have hcvo:=HCS.out (i+q) hiq (by omega)
            have hk1:=hcvo.kn
            have rk:Rd w0 w0.heap.size cv[i+q].ka cs[i+q].key:=hcvo.rk
            clear hcvo
            obtain⟨⟨ka,kn,kc,va,vn,vc⟩,hX⟩:∃ X,cv[i+q]=X:=⟨_,rfl⟩
            rw[hX] at c1 c2 hk1 rk
            have eo:0+(i+q) * 2=i * 2+q * 2:=by omega
            rw[eo] at c1 c2
            have d1:wr.cell? ⟨gA,i * 2+q * 2,none⟩=some (.slice ka kn kc):=(b5.cell (p:=⟨gA,i * 2+q * 2,none⟩) hb).trans c1
            have d2:wr.cell? ⟨gA,i * 2+q * 2+1,none⟩=some (.slice va vn vc):=(b5.cell (p:=⟨gA,i * 2+q * 2+1,none⟩) hb).trans c2
            obtain⟨W6,hW6,g6,b6,s6⟩:=box_alloc wr (.cells #[.slice ka kn kc,.slice va vn vc] 219)
            have y0:W6.cell? ⟨wr.heap.size,0,none⟩=some (.slice ka kn kc):=cellD g6 0
            have y1:W6.cell? ⟨wr.heap.size,1,none⟩=some (.slice va vn vc):=cellD g6 1
            have z5:=b5.size
            have z6:=b6.size
            have b56:=b5.trans (b6.mono z5)
            have rk':Rd w0 w0.heap.size ka cs[i+q].key:=rk
            have HK1:=Lib.hid hk1
            have HX:=Lib.hid hX
            have HS6:=Lib.hid s6
            have l1:¬((q:Int)=64):=by have:=HN.out;omega
            obtain⟨A5,c5,hl5⟩:∃ A c,u15=.slice A q c:=by
              rcases hrow5.2 with⟨rfl,h0⟩|⟨g',cap,cur,rfl,-⟩
              · subst h0;exact⟨none,0,rfl⟩
              · exact⟨_,_,rfl⟩
            subst hl5
            clear c1 c2 hk1 eo s6 hX
            clear rk'
            · have hsp:ScP [] cs[i+q]:=.inl rfl
              have HSP:=Lib.hid hsp
              clear hsp
              obtain⟨w7,hw7⟩:∃ w7,W6=w7:=⟨_,rfl⟩
              go_upto_region 16 with fail
              rw[hw7] at g6 b6 y0 y1 hW6 z6 b56
              clear hW6 hw7
              obtain⟨W8,hW8,g8,b8,s8⟩:=box_alloc w7 (.cells #[.slice ka kn kc,.slice va vn vc] 68)
              have hrow8:=row_keep (row_keep hrow5 b6) b8
              have hnw:∀ j u,[Value.slice ka kn kc,.slice va vn vc][j]? = some u→W8.cell? ((⟨w7.heap.size,0,none⟩:Addr).add j)=some u:=fun j u hu=>by
                have:((⟨w7.heap.size,0,none⟩:Addr).add j)=⟨w7.heap.size,j,none⟩:=by unfold Addr.add;split<;>simp_all
                rw[this,cellD g8]
                simpa using hu
              have hone:∀ u∈[Value.slice ka kn kc,.slice va vn vc],u.oneCell'=true:=fun u hu=>by simp at hu;rcases hu with rfl | rfl<;>rfl
              have HC:=Lib.hid hnw
              have HO:=Lib.hid hone
              have b58:=b56.trans (b8.mono b56.size)
              have hsn:(cv.drop i).take (q+1)=(cv.drop i).take q++[⟨ka,kn,kc,va,vn,vc⟩]:=by
                rw[List.take_succ_eq_append_getElem (by simp;omega)]
                congr 2
                rw[List.getElem_drop];exact HX.out
              have HSN:=Lib.hid hsn
              have hqn:q+1≤60:=by have:=HN.out;omega
              clear rk hnw hone s8 hsn hiq HK1 HX
              go_wp2_with (at_builtin;refine apG rfl (.tmp 71) (.tmp 77) 50 68 (.agg #[.slice none 0 0,.slice none 0 0]) 2 48 Tryz.underlying50 infoPair rfl (by decide) rfl w0.heap.size (.slice A5 q c5) q (cvX ((cv.drop i).take q)) rfl hrow8 ⟨w7.heap.size,0,none⟩ 1 1 [.slice ka kn kc,.slice va vn vc] rfl rfl HC.out HO.out ?c1 ?c2 b58.size ?_)
              case c1=>simp[maxLen];omega
              case c2=>omega
              intro v9 W9 own9 grow9 at9
              have own9':W9.ownsRow w0.heap.size 68 2 v9 (q+1) (cvX ((cv.drop i).take (q+1))):=by rw[HSN.out,cvX_snoc];exact own9
              have b59:Below w0.heap.size w0 W9:=b58.trans ((Kp.grow grow9).below b58.size fun k hk e=>by
                rcases hrow8.2 with⟨e1,-⟩|⟨g',cap,cur,e1,hbb,-⟩
                · rw[e1] at e;cases e
                · rw[e1] at e;injection e with e;dsimp only at e;omega)
              clear own9 grow9 at9 hrow8 hrow5
              go_wp2
              refine⟨⟨q+1,by omega,rfl,scan_more HSC.out HSP.out,own9',b59⟩,?_⟩
              simp[RowKit.intOf];omega
          · obtain rfl:q=cs.length-i:=by omega
            have hst:(cs.drop i).take (cs.length-i)=scanTo cs i []:=scan_stop (by omega) HSC.out (.inl (by omega))
            have hres:=scan_res HCV.out HCS.out hrow5 b5 (by omega) k4.size
            rw[hst] at hres
            obtain⟨A,c,e,-⟩:=row_rdc hrow5 (by rw[List.length_take,List.length_drop,HCV.out];omega)
            subst e
            have q5:=hQ.b _ _ b5 q4
            have k5:=k4.base (b5.mono k4.size)
            have e1':wr.cell? ⟨w2.heap.size,1,none⟩=some (.int .i64 0):=(b5.cell (p:=⟨w2.heap.size,1,none⟩) (hlt g4)).trans e1
            have HR:=Lib.hid hrow5
            clear hrow5
            go_wp2
            go_ret2
            exact⟨hres,q5,k5⟩
end Go.Proofs.YtdbkocfbhpgpkaaGreat
