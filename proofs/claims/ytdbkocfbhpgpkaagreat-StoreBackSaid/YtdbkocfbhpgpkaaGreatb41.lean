/-
  store.Begin, Commit, Abort.
-/
import Derived.Test.YtdbkocfbhpgpkaaGreatb40
set_option linter.unusedVariables false
set_option linter.unusedSimpArgs false
namespace Go.Proofs.YtdbkocfbhpgpkaaGreat
open Go Go.RowKit Go.Shelf
open Go.Ev (PgM PageOk CellsOut rowsOf rowsV rowV rowsOf_len BelowIs)
set_option maxRecDepth 100000
set_option maxHeartbeats 4000000
section
variable {X:ST}{D D':SD}{w w':World}{k:Nat}{cs:List NC}{U:Int→Option Us}
def MarksV(D:SD)(cs:List NC)(tx p:Nat)(vf:Nat→Bool):Prop:=∀ c∈cs,∃ b q,(b=2∨b=3∨b=5)∧D.tm.lookup (nOf c:Int)=some (mk b q)∧vf (nOf c)=(decide ((nOf c:Int)=(tx:Int)) || visB b q p)
theorem drop_g{kn kc i tx p:Nat}{kA:Option Addr}{key:List UInt8}{cs':List NC}{cf:Nat→Int}{vf:Nat→Bool}(g:GS X D w k cs U)(hkb:k≤3700)
    (hl:D.tm.lookup (tx:Int)=some (mk 2 p)) (hm:Marks D cs tx p cf) (hmv:MarksV D cs tx p vf)
    (hrk:SRd X D w kA key) (hkn:kn=key.length) (hk1:1≤key.length) (hk3:key.length≤3)
    (hi:BelowIs cs (txt key 0) i) (hj:PutTo cs (ncOf (vkey key tx) [0]) cs') (hok':PageOk 1 0 cs') (hv1':∀ c∈cs',1≤c.vn) (hs':∀ c∈cs',IsV c) (hl':cs'.length≤60) (htx:tx≤1000000) (hul:((U (tx:Int)).getD []).length≤100000) :
    Calls Tryz.prog 26 #[.pointer (some ⟨X.s,0,none⟩),.int .i64 (tx:Int),.slice kA kn kc] w fun e w'=>e=.returned (.int .i64 (claimN cf ((scanTo cs i (txt key 1)).map nOf)))∧∃ D',Lf X D D' w w' ∧
      (claimN cf ((scanTo cs i (txt key 1)).map nOf)≠0∨seenOf vf (scanTo cs i (txt key 1))=none→GS X D' w' (k+2) cs U)∧(claimN cf ((scanTo cs i (txt key 1)).map nOf)=0→seenOf vf (scanTo cs i (txt key 1))≠none→GS X D' w' (k+2) cs' (pushU U tx (vkey key tx,wasOf tx (scanTo cs i (txt key 1))))):=by
  have RD:=ready_st g.st hl
  have CL:=fun w1 (b1:Below w.heap.size w w1)=>claim_st (kc:=kc) (kn:=kn) (g.below b1) hl hm ((hrk.mv (Mv.below b1)).rd) hkn hk3 hi
  have KM:=keymay_any kA kn kc (by omega) (by omega)
  have hkl:(vkey key tx).length≤320:=by have:=esc_len key;rw[vkey_len,txt_len];omega
  have hkl1:1≤(vkey key tx).length:=by rw[vkey_len];omega
  have SET:∀ (D2:SD) (f:FR) w2 (sA:Option Addr) sc n (vs:List VR) va vc2,GS X D2 w2 k cs U→D2.R.held=some f→SRd X D2 w2 kA key→w2.ownsRow n 158 4 (.slice sA vs.length sc) vs.length (vX vs)→vs.length≤60 →
      (∃ A c,wasV (lastBy tx vs)=.slice A (wasOf tx (scanTo cs i (txt key 1))).length c∧SRd X D2 w2 A (wasOf tx (scanTo cs i (txt key 1))))→SRd X D2 w2 va [0]→_:=fun D2 f w2 sA sc n vs va vc2 g2 hf hr hrow hvl hwas hv=>
    set_g (kn:=kn) (kc:=kc) (vc:=vc2) (va:=va) (tx:=tx) (nc:=ncOf (vkey key tx) [0]) (cs':=cs') g2.st g2.iv (by omega) g2.tok hf g2.us hr.rd hkn hk1 (by omega) hrow hvl hwas g2.ok g2.v1 (nc_key _ _) (by rw[nc_val];exact hv) hj hok' hkl1 hkl (by simp[ncOf]) (by simp[ncOf]) (by have:=g2.len;omega) htx hul
  obtain⟨cl,hcl⟩:∃ cl,claimN cf ((scanTo cs i (txt key 1)).map nOf)=cl:=⟨_,rfl⟩
  have HC:=Lib.hid CL
  have HS:=Lib.hid SET
  have HG:=Lib.hid g
  have HRK:=Lib.hid hrk
  have HCL:=Lib.hid hcl
  have hsub:∀ c∈scanTo cs i (txt key 1),c∈cs:=fun c hc=>List.mem_of_mem_drop (List.takeWhile_subset _ hc)
  have HMV:=Lib.hid (fun c (hc:c∈scanTo cs i (txt key 1))=>hmv c (hsub c hc))
  have HLK:=Lib.hid hl
  clear hsub
  obtain⟨so,hso⟩:∃ so,seenOf vf (scanTo cs i (txt key 1))=so:=⟨_,rfl⟩
  have HSO:=Lib.hid hso
  rw[hso]
  clear hso
  have HT:=Lib.hid (And.intro hok' (And.intro hv1' (And.intro hs' hl')))
  rw[hcl]
  clear g hkb hl hm hrk hkn hk1 hk3 hi hmv hj hok' hv1' hs' hl' htx hul CL SET hkl hkl1 hcl
  go_enter Tryz.func26,Tryz.ntmps26
  go_upto_region 7 with (first
    | (go_at_call 67;(with_reducible refine RD.mono ?_);rintro e w1 ⟨rfl,b1⟩;have C1:=HC.out w1 b1)
    | (go_at_call 68;(with_reducible refine(KM _).mono ?_);rintro e w1' ⟨rfl,rfl⟩)
    | (go_at_call 69;(with_reducible refine C1.mono ?_);rintro e w2 ⟨v,vs,hvs,hlen,rfl,hrow,hq,k2⟩))
  rw[HCL.out] at hrow ⊢
  obtain⟨f,g2,p2,hf2⟩:=(HG.out.below b1).read hq k2
  have p02:=(Pv.below b1).trans p2
  have HL2:=Lib.hid p02.lf
  have HG2:=Lib.hid g2
  have HVS:=Lib.hid hvs
  have HB1:=Lib.hid b1
  have HF2:=Lib.hid hf2
  have HP2:=Lib.hid p02
  clear hq k2 p2 p02 g2 hvs b1 C1 hf2
  by_cases h0:cl=0
  · subst h0
    obtain⟨n,hn,hrow⟩:=hrow rfl
    obtain⟨A,c,rfl⟩:=row_vform hrow
    have st2:=HG2.out.st
    have SN:=seen_g (sc:=c) (L:=vs.length) (m:=D.tm) (T:=D.T) (t:=X.B.t) (p:=p) vf st2.sb rfl st2.tb (by have:=st2.tm;rw[← st2.tw] at this;exact this) HLK.out hrow rfl hlen HVS.out HMV.out
    rw[HSO.out] at SN
    obtain⟨L,hL⟩:∃ L,vs.length=L:=⟨_,rfl⟩
    have HLL:=Lib.hid hL
    have HLN:=Lib.hid hlen
    have HRW:=Lib.hid hrow
    have HNN:=Lib.hid hn
    rw[hL] at SN ⊢
    clear hL hlen hrow hn st2
    go_upto_region 10 with (go_at_call 81;(with_reducible refine SN.mono ?_);rintro e w3 ⟨⟨V,rfl,-⟩,b3⟩)
    cases so with
    | none =>
      simp only[Option.isSome_none]
      go_wp2
      go_ret
      exact⟨rfl,D.hold f,HL2.out.trans (Pv.below b3).lf,(HG2.out.below b3).mono (by omega)⟩
    | some sv =>
      simp only[Option.isSome_some]
      go_upto_region 12 with fail
      obtain⟨W4,hW4,g4,b4,s4⟩:=box_alloc w3 (.cells #[.int .u8 0] 5)
      have b34:=b3.trans (b4.mono b3.size)
      have m24:=Mv.below (X:=X) (D:=D.hold f) b34
      have m04:=HP2.out.mv.trans m24
      have hwas:∃ A c,wasV (lastBy tx vs)=.slice A (wasOf tx (scanTo cs i (txt key 1))).length c∧SRd X (D.hold f) W4 A (wasOf tx (scanTo cs i (txt key 1))):=by
        have hwas:=was_at (tx:=tx) HG.out.st HG.out.us HP2.out.mv (.inr ⟨f,rfl⟩) HVS.out HB1.out.size vs.length (Nat.le_refl _)
        rw[List.take_length,HVS.out.1,List.take_length] at hwas
        obtain⟨A2,c2,e2,sr2⟩:=hwas
        exact⟨A2,c2,e2,sr2.mv m24⟩
      have sz:SRd X (D.hold f) W4 (some ⟨w3.heap.size,0,none⟩) [0]:=fun _=>⟨w3.heap.size,0,rfl,hlt g4,fu_new HG.out.st HG.out.us m04 (by have:=HP2.out.kp.size;have:=b3.size;omega) (.inr ⟨f,rfl⟩) g4 (by decide) (by decide),fun j hj=>by
        have:j=0:=by simp at hj;exact hj
        subst this
        rw[cellD g4];rfl⟩
      have S:=HS.out (D.hold f) f W4 A c n vs (some ⟨w3.heap.size,0,none⟩) 1 (HG2.out.below b34) HF2.out ((HRK.out.mv HP2.out.mv).mv m24) (row_keep HRW.out b34) HLN.out hwas sz
      rw[HLL.out,show(ncOf (vkey key tx) [0]).vn=1 from rfl] at S
      have HB34:=Lib.hid b34
      clear hwas sz m24 m04 b34 s4 HS HC SN
      go_wp2_with (go_at_call 70;(with_reducible refine S.mono ?_);rintro e w6 ⟨rfl,D',i6,m6,st6,u6,hT6,htm6,hov6,f6,hf6⟩)
      go_ret
      obtain⟨hok',hv1',hs',hl'⟩:=HT.out
      have l6:Lf X (D.hold f) D' W4 w6:=⟨m6,hT6,htm6,hov6⟩
      have t2:=HG2.out.tok
      exact⟨rfl,D',(HL2.out.trans (Pv.below HB34.out).lf).trans l6,⟨st6,i6,⟨by rw[hT6];exact t2.n1,by rw[hT6];exact t2.n2,by rw[hov6];exact t2.ovl,by rw[hT6,hov6];exact t2.ov⟩,u6,hok',hv1',hs',hl',fun _=>⟨f6,hf6.1⟩⟩⟩
  · have h0b:decide (cl=0)=false:=by simpa using h0
    go_wp2
    go_ret
    exact⟨rfl,D.hold f,HL2.out,fun _=>HG2.out.mono (by omega),fun e=>absurd e h0⟩
end
def BackTo(cs:List NC)(u:List UInt8×List UInt8)(cs':List NC):Prop:=(u.2=[]∧DropTo cs u.1 cs')∨(u.2≠[]∧PutTo cs (ncOf u.1 u.2) cs'∧cs≠[])
structure CsG(cs':List NC):Prop where
  ok:PageOk 1 0 cs'
  v1:∀ c∈cs',1≤c.vn
  isv:∀ c∈cs',IsV c
  len:cs'.length≤60
section
variable {X:ST}{D D':SD}{w w':World}{k:Nat}{cs:List NC}{U:Int→Option Us}
theorem undo1_g{tx:Nat}{at_ was:List UInt8}{p1 p2 p3 p4:Value}{cs':List NC}(g:GS X D w k cs U)(hkb:k≤3700)(hu:UE X D w tx at_ was (.func (.func 166) #[] #[p1,p2,p3,p4]))(hb:BackTo cs (at_,was) cs')(hg:CsG cs')(ha:1≤at_.length∧at_.length≤320)(hw:was.length≤576)(htx:tx≤1000000) :
    Calls Tryz.prog 166 #[p1,p2,p3,p4] w fun e w'=>e=.returned (.int .i64 0)∧∃ D',Pv X D D' w w'∧GS X D' w' (k+2) cs' U:=by
  obtain⟨b1,b2,b3,b4,A,c,A2,c2,e,h1,h2,h3,h4,h5,h6⟩:=hu
  injection e with _ _ e
  injection e with e
  injection e with e1 e
  injection e with e2 e
  injection e with e3 e
  injection e with e4 _
  subst e1 e2 e3 e4
  have hne:cs≠[]:=by
    rcases hb with⟨-,i,⟨hi,-⟩,-⟩|⟨-,-,hb⟩
    · intro e;rw[e] at hi;simp at hi
    · exact hb
  obtain⟨f,hf⟩:=g.hd (.inl hne)
  have x1:w.cell? ⟨b1,0,none⟩=some (.pointer (some ⟨X.s,0,none⟩)):=cellD h1.1 0
  have x2:w.cell? ⟨b2,0,none⟩=some (.int .i64 (tx:Int)):=cellD h2.1 0
  have x3:w.cell? ⟨b3,0,none⟩=some (.slice A at_.length c):=cellD h3.1 0
  have x4:w.cell? ⟨b4,0,none⟩=some (.slice A2 was.length c2):=cellD h5.1 0
  have WR:Calls Tryz.prog 104 #[.pointer (some ⟨X.s,0,none⟩),.int .i64 (tx:Int),.slice A at_.length c,.slice A2 was.length c2] w fun e w'=>e=.returned (.int .i64 0)∧WrG X D (k+2) (pgL 1 0 cs') w w':=by
    rcases hb with⟨e,hb⟩|⟨e,hb,-⟩
    · have e:was=[]:=e
      subst e
      exact write_drop g.st g.iv (by omega) g.tok hf g.ok g.v1 (h4.sg g.st) rfl hb hg.ok (by have:=g.len;omega) htx
    · have e:was≠[]:=e
      have hl:1≤was.length:=List.length_pos_iff.2 e
      exact write_put (nc:=ncOf at_ was) g.st g.iv (by omega) g.tok hf g.ok g.v1 (by rw[nc_key];exact h4.sg g.st) (by rw[nc_val];exact h6.sg g.st) hb hg.ok ha.1 ha.2 hl hw (by have:=g.len;omega) htx
  have HG:=Lib.hid g
  have HGG:=Lib.hid hg
  clear g hkb hb hg ha hw htx hf hne h4 h6
  go_enter Tryz.func166,Tryz.ntmps166
  go_wp2_with (go_at_call 104;(with_reducible refine WR.mono ?_);rintro e w3 ⟨rfl,D1,i1,q1,s1,f1,e1⟩)
  go_ret
  have g:=HG.out
  have hg:=HGG.out
  exact⟨rfl,D1,q1,s1,i1,g.tok.pv q1,g.us.pv g.st q1,hg.ok,hg.v1,hg.isv,hg.len,fun _=>⟨f1,e1.1⟩⟩
end
def popU (U:Int→Option Us)(tx:Nat)(us:Us):Int→Option Us:=fun n=>if n=(tx:Int) then some us else U n
theorem popU_same{U:Int→Option Us}{tx:Nat}{us:Us}(h:U (tx:Int)=some us):popU U tx us=U:=by
  funext n
  unfold popU
  by_cases e:n=(tx:Int)
  · rw[if_pos e,e,h]
  · rw[if_neg e]
theorem popU_pop{U:Int→Option Us}{tx:Nat}{us us':Us}:popU (popU U tx us) tx us'=popU U tx us':=by
  funext n
  unfold popU
  by_cases e:n=(tx:Int)
  · rw[if_pos e,if_pos e]
  · rw[if_neg e,if_neg e,if_neg e]
section
variable {X:ST}{D D':SD}{w w':World}{k:Nat}{cs:List NC}{U:Int→Option Us}
theorem row_last{w:World}{n₀ e m g c:Nat}{A:Option Addr}{fs:List Value}(h:w.ownsRow n₀ e 1 (.slice A (m+1) c) (m+1) fs)(hl:fs.length=m+1):∃ g,A=some ⟨g,0,none⟩∧m+1≤c∧c≤maxLen∧g<w.heap.size∧w.cell? ⟨g,m,none⟩=fs[m]?∧w.ownsRow n₀ e 1 (.slice A m c) m (fs.take m):=by
  rcases h.2 with⟨e1,h0⟩|⟨g,cap,cur,e1,hb,hg,h1,h2,h3,h4⟩
  · omega
  · injection e1 with e1 e2 e3
    subst e1 e3
    refine⟨g,rfl,h1,h2,hlt hg,?_,?_,.inr ⟨g,c,cur,rfl,hb,hg,by omega,h2,h3,?_⟩⟩
    · rw[cellD hg,← h4,List.getElem?_take_of_lt (by omega),Array.getElem?_toList]
    · simp[hl]
    · rw[← h4,List.take_take]
      congr 1
      omega
theorem undos_pop{tx m c:Nat}{A:Option Addr}{us:Us}{u:List UInt8×List UInt8}(st:StW X D w)(hU:Undos X D w U)(hv:D.wm.lookup (tx:Int)=some (.slice A (m+1) c))(hus:U (tx:Int)=some (us++[u]))(hm:us.length=m)
    (kk:Kp (·=X.B.wk) w w') (m5:MapI w' X.B.wk (mset D.wm (tx:Int) (.slice A m c))) :
    StW X { D with wm:=mset D.wm (tx:Int) (.slice A m c) } w'∧Mv X D { D with wm:=mset D.wm (tx:Int) (.slice A m c) } w w'∧Undos X { D with wm:=mset D.wm (tx:Int) (.slice A m c) } w' (popU U tx us):=by
  have ob:(Value.slice A m c).ownBlock=(Value.slice A (m+1) c).ownBlock:=by cases A<;>rfl
  have nwk:∀ {tx':Nat} {v:Value} {us':Us},UL X D w tx' v us'→∀ g,v.ownBlock=some g→g≠X.B.wk:=fun u g hg e=>by
    obtain⟨-,cur,hc⟩:=u.blk hg
    exact st.wk.ne hc e.symm
  have lk:∀ t v,(mset D.wm (tx:Int) (.slice A m c)).lookup t=some v→∃ v',D.wm.lookup t=some v'∧v.ownBlock=v'.ownBlock:=fun t v e=>by
    rw[lookup_mset] at e
    by_cases ht:t=(tx:Int)
    · rw[if_pos ht] at e;injection e with e;subst e
      exact⟨_,by rw[ht];exact hv,ob⟩
    · rw[if_neg ht] at e;exact⟨v,e,rfl⟩
  have MV:Mv X D { D with wm:=mset D.wm (tx:Int) (.slice A m c) } w w':=by
    have kf:Kp (FU X D w) w w':=kk.weaken fun g e=>.inr (.inr (.inr (.inl e)))
    refine⟨kf,fun g hg e=>?_⟩
    rcases e with (e|e|e)|e|e|e|e|⟨t,v,e1,e2⟩
    · exact cx_back kf (fun _ q=>.inl (.inl q)) hg e
    · exact .inl (.inr (.inl e))
    · exact .inl (.inr (.inr e))
    · exact .inr (.inl e)
    · exact .inr (.inr (.inl e))
    · exact .inr (.inr (.inr (.inl e)))
    · exact .inr (.inr (.inr (.inr (.inl e))))
    · obtain⟨v',h1,h2⟩:=lk t v e1
      exact .inr (.inr (.inr (.inr (.inr ⟨t,v',h1,by rw[← h2];exact e2⟩))))
  refine⟨st.work kk m5,MV,fun n v e=>?_,fun n e=>?_,fun n m' v u' g e1 e2 hnm hg hg2=>?_,mset_nodup hU.nd⟩
  · have e:(mset D.wm (tx:Int) (.slice A m c)).lookup n=some v:=e
    rw[lookup_mset] at e
    by_cases ht:n=(tx:Int)
    · rw[if_pos ht] at e;injection e with e;subst e
      obtain⟨tx',us',h1,h2,h3⟩:=hU.one _ _ hv
      have:tx'=tx:=by omega
      subst this
      rw[hus] at h2;injection h2 with h2;subst h2
      have h3':=h3
      obtain⟨fs,hfl,hr0,hue⟩:=h3
      rw[show(us++[u]).length=m+1 by simp[hm]] at hr0 hfl
      obtain⟨g,eA,-,-,-,-,hr⟩:=row_last (g:=0) hr0 hfl
      refine⟨tx',us,ht,by unfold popU;rw[if_pos ht],fs.take m,by simp[hfl,hm],?_,fun i hi hg=>?_⟩
      · rw[hm]
        refine row_same hr fun g' hg'=>kk.block g' ?_ ?_
        · rw[ob] at hg'
          obtain⟨-,cur,hc⟩:=h3'.blk hg'
          exact hlt hc
        · rw[ob] at hg'
          exact nwk h3' g' hg'
      · have:=(hue i (by simp;omega) (by omega)).mv MV
        rw[List.getElem_append_left hi] at this
        rw[List.getElem_take]
        exact this
    · rw[if_neg ht] at e
      obtain⟨tx',us',h1,h2,h3⟩:=hU.one n v e
      exact⟨tx',us',h1,by unfold popU;rw[if_neg ht];exact h2,h3.mv MV fun g hg=>kk.block g (by obtain⟨-,cur,hc⟩:=h3.blk hg;exact hlt hc) (nwk h3 g hg)⟩
  · have e:(mset D.wm (tx:Int) (.slice A m c)).lookup n=none:=e
    rw[lookup_mset] at e
    by_cases ht:n=(tx:Int)
    · rw[if_pos ht] at e;cases e
    · rw[if_neg ht] at e
      unfold popU;rw[if_neg ht];exact hU.non n e
  · obtain⟨v1,h1,h2⟩:=lk n v e1
    obtain⟨v2,h3,h4⟩:=lk m' u' e2
    rw[h2] at hg;rw[h4] at hg2
    exact hU.apart n m' v1 v2 g h1 h3 hnm hg hg2
theorem GS.pop{tx m c:Nat}{A:Option Addr}{us:Us}{u:List UInt8×List UInt8}(g:GS X D w k cs U)(hv:D.wm.lookup (tx:Int)=some (.slice A (m+1) c))(hus:U (tx:Int)=some (us++[u]))(hm:us.length=m)
    (kk:Kp (·=X.B.wk) w w') (m5:MapI w' X.B.wk (mset D.wm (tx:Int) (.slice A m c))):GS X { D with wm:=mset D.wm (tx:Int) (.slice A m c) } w' k cs (popU U tx us)∧Lf X D { D with wm:=mset D.wm (tx:Int) (.slice A m c) } w w':=by
  obtain⟨h1,h2,h3⟩:=undos_pop g.st g.us hv hus hm kk m5
  exact⟨⟨h1,g.iv.wm _,⟨g.tok.n1,g.tok.n2,g.tok.ovl,g.tok.ov⟩,h3,g.ok,g.v1,g.isv,g.len,fun _=>g.hd (.inr ⟨_,_,hus⟩)⟩,h2,rfl,rfl,rfl⟩
inductive Backs:List NC→Us→List NC→Prop
  | nil (cs:List NC):Backs cs [] cs
  | snoc {cs cs1 cs2:List NC} {us:Us} {u:List UInt8×List UInt8}:BackTo cs u cs1→CsG cs1→1≤u.1.length∧u.1.length≤320→u.2.length≤576→Backs cs1 us cs2→Backs cs (us++[u]) cs2
theorem Backs.last{cs cs2:List NC}{us:Us}{u:List UInt8×List UInt8}(h:Backs cs (us++[u]) cs2):∃ cs1,BackTo cs u cs1∧CsG cs1∧(1≤u.1.length∧u.1.length≤320)∧u.2.length≤576∧Backs cs1 us cs2:=by
  generalize hu:us++[u]=l at h
  cases h with
  | nil=>simp at hu
  | snoc h1 h2 h3 h4 h5 =>
    obtain⟨e1,e2⟩:=List.append_inj' hu rfl
    injection e2 with e2
    subst e1 e2
    exact⟨_,h1,h2,h3,h4,h5⟩
theorem Backs.none{cs cs2:List NC}(h:Backs cs [] cs2):cs2=cs:=by
  generalize hu:([]:Us)=l at h
  cases h with
  | nil=>rfl
  | snoc h1 h2 h3 h4 h5=>simp at hu
end
def lenV:Value→Nat
  | .slice _ n _=>n
  | _=>0
section
variable {X:ST}{D D':SD}{w w':World}{k:Nat}{cs:List NC}{U:Int→Option Us}
theorem Undos.some{tx:Nat}{us:Us}(h:Undos X D w U)(e:U (tx:Int)=some us):∃ v,D.wm.lookup (tx:Int)=some v∧UL X D w tx v us∧∃ A c,v=.slice A us.length c:=by
  cases hl:D.wm.lookup (tx:Int) with
  | none=>rw[h.non _ hl] at e;cases e
  | some v =>
    obtain⟨tx',us',h1,h2,h3⟩:=h.one _ _ hl
    have:tx'=tx:=by omega
    subst this
    rw[e] at h2;injection h2 with h2;subst h2
    refine⟨v,rfl,h3,?_⟩
    obtain⟨fs,-,hr,-⟩:=h3
    rcases hr.2 with⟨e1,h0⟩|⟨g,cap,cur,e1,-⟩
    · exact⟨none,0,by rw[e1,h0]⟩
    · exact⟨_,_,e1⟩
theorem lookF{w:World}{b:Nat}{m:List (Int×Value)}(h:MapI w b m)(n:Int):(Instr.lookup 123 (.map (some b)) (.int .i64 n) false).run Tryz.prog w=.ok ((m.lookup n).getD (.slice none 0 0)) w:=
  run_lookup_int (P:=Tryz.prog) Tryz.underlying123 Tryz.underlying3 h n (zeroFn _)
theorem undo_g{tx save N:Nat}{us0 us1:Us}{cs':List NC}(g:GS X D w k cs U)(hU:U (tx:Int)=some (us0++us1))(hs:us0.length=save)(hB:Backs cs us1 cs')(hN:us1.length=N)(hkb:k+2 * N≤3600)(hN2:N≤1000)(hs2:save≤1000)(htx:tx≤1000000) :
    Calls Tryz.prog 82 #[.pointer (some ⟨X.s,0,none⟩),.int .i64 (tx:Int),.int .i64 (save:Int)] w fun e w'=>e=.returned (.int .i64 0)∧∃ D',Lf X D D' w w'∧GS X D' w' (k+2 * N) cs' (popU U tx us0):=by
  obtain⟨v,hv,hul,A,c,hva⟩:=g.us.some hU
  have c14:w.cell? ⟨X.s,14,none⟩=some (.map (some X.B.wk)):=cellD g.st.sb 14
  have LK:=lookF g.st.wk (tx:Int)
  rw[hv] at LK
  have LK:(Instr.lookup 123 (.map (some X.B.wk)) (.int .i64 (tx:Int)) false).run Tryz.prog w=.ok v w:=LK
  have HG:=Lib.hid g
  have HV:=Lib.hid hv
  have HU:=Lib.hid hU
  have HB:=Lib.hid hB
  have HN:=Lib.hid hN
  have HS:=Lib.hid hs
  have HK:=Lib.hid hkb
  have HTX:=Lib.hid htx
  have HVA:=Lib.hid (show ∃ A c,v=.slice A (us0++us1).length c from⟨A,c,hva⟩)
  clear g hv hU hB hN hs hkb htx hul hva
  go_enter Tryz.func82,Tryz.ntmps82
  go_wp2
  go_loopw [7] (fun l wr=>∃ (us:Us) (Dq:SD) (csq:List NC) (j:Nat),us.length+j=N∧Dq.wm.lookup (tx:Int)=some l∧(∃ A c,l=.slice A (us0++us).length c)∧GS X Dq wr (k+2 * j) csq (popU U tx (us0++us))∧Backs csq us cs'∧Lf X D Dq w wr) (fun l _=>lenV l)
  case atStart=>exact⟨us1,D,cs,0,by have:=HN.out;omega,HV.out,HVA.out,by rw[popU_same HU.out];exact HG.out,HB.out,(Pv.refl X D w).lf⟩
  case round=>
    obtain⟨us,Dq,csq,j,hj,hl,⟨A,c,rfl⟩,g,hB,lf⟩:=hrel
    rcases List.eq_nil_or_concat us with rfl|⟨us',u,rfl⟩
    · rw[List.append_nil] at hl g ⊢
      have hs:=HS.out
      rw[hs] at hl ⊢
      have e0:=hB.none
      have HGG:=Lib.hid g
      have HLF:=Lib.hid lf
      have HE0:=Lib.hid e0
      have HJ:=Lib.hid hj
      clear hl g hB lf hs e0 hj
      go_wp2
      go_ret
      refine⟨rfl,Dq,HLF.out,?_⟩
      rw[HE0.out]
      have:=HJ.out
      simp at this
      rw[← this];exact HGG.out
    · rw[List.concat_eq_append] at hj hl g hB ⊢
      obtain⟨cs1,hb,hcg,ha,hw,hB'⟩:=hB.last
      have hU2:popU U tx (us0++(us' ++ [u])) (tx:Int)=some ((us0++us')++[u]):=by unfold popU;rw[if_pos rfl,List.append_assoc]
      obtain⟨v,hv,hul,-⟩:=g.us.some hU2
      obtain⟨m,hm⟩:∃ m,(us0++us').length=m:=⟨_,rfl⟩
      have hm1:(us0++(us' ++ [u])).length=m+1:=by rw[← hm];simp;omega
      rw[hm1] at hl ⊢
      have hvv:v=.slice A (m+1) c:=by rw[hl] at hv;injection hv with hv;exact hv.symm
      subst hvv
      obtain⟨fs,hfl,hrow,hue⟩:=hul
      have hfl1:fs.length=m+1:=by rw[hfl,List.length_append,hm];rfl
      rw[List.length_append,hm] at hrow
      obtain⟨gb,rfl,hmc,hcm,hgl,hcell,-⟩:=row_last (g:=0) hrow hfl1
      have hml:m<((us0++us')++[u]).length:=by rw[List.length_append,hm];exact Nat.lt_succ_self m
      have hu:=hue m hml (by omega)
      have hum:((us0++us')++[u])[m]=u:=by rw[List.getElem_append_right (by omega)];simp[hm]
      rw[hum] at hu
      rw[List.getElem?_eq_getElem (by omega)] at hcell
      obtain⟨fv,hfv⟩:∃ fv,fs[m]'(by omega)=fv:=⟨_,rfl⟩
      rw[hfv] at hu hcell
      obtain⟨b1,b2,b3,b4,A1,c1,A2,c2,efv,-⟩:=id hu
      subst efv
      have U1:=undo1_g g (by have:=HK.out;omega) hu hb hcg ha hw HTX.out
      have f1 : (save : Int) < ((m + 1 : Nat) : Int) := by have := HS.out; have : save ≤ m := by rw [← hm, List.length_append]; omega
                                                           omega
      have f2:save<m+1:=by omega
      have f3:(m:Int)≤(c:Int):=by omega
      have f4:m≤c:=by omega
      have f5:m<m+1:=by omega
      have hs1:m≤2000:=by rw[← hm,List.length_append,HS.out];simp at hj;omega
      have HL:=Lib.hid hl
      have HJ:=Lib.hid hj
      have HM:=Lib.hid hm
      have HU2:=Lib.hid hU2
      have HB':=Lib.hid hB'
      have HLF:=Lib.hid lf
      clear hl hj hm hm1 hU2 hB' hB lf hue hfl hfl1 hrow hu hum hfv hb hcg ha hw hv g
      go_upto_region 7 with (go_at_call 166;(with_reducible refine U1.mono ?_);rintro e w3 ⟨rfl,D1,p1,g3⟩)
      obtain⟨W9,hW9,e9,b9⟩:=drew_name w3
      have g9:=g3.below b9
      have hl9:D1.wm.lookup (tx:Int)=some (.slice (some ⟨gb,0,none⟩) (m+1) c):=by rw[p1.wm];exact HL.out
      have x14:W9.cell? ⟨X.s,14,none⟩=some (.map (some X.B.wk)):=cellD g9.st.sb 14
      obtain⟨W10,hU10,m10,o10,s10,os10,t10,u10⟩:=run_update_int (P:=Tryz.prog) Tryz.underlying123 Tryz.underlying3 g9.st.wk (tx:Int) (.slice (some ⟨gb,0,none⟩) m c)
      have k10:Kp (·=X.B.wk) W9 W10:=⟨os10,t10,u10,Nat.le_of_eq s10.symm,fun k _ hk=>o10 k hk⟩
      obtain⟨g10,l10⟩:=g9.pop hl9 HU2.out HM.out k10 m10
      have x14':W10.cell? ⟨X.s,14,none⟩=some (.map (some X.B.wk)):=cellD g10.st.sb 14
      have LK10:=lookF m10 (tx:Int)
      rw[lookup_mset,if_pos rfl] at LK10
      have LK10:(Instr.lookup 123 (.map (some X.B.wk)) (.int .i64 (tx:Int)) false).run Tryz.prog W10=.ok (.slice (some ⟨gb,0,none⟩) m c) W10:=LK10
      have HG10:=Lib.hid g10
      have HL10:=Lib.hid ((HLF.out.trans p1.lf).trans ((Pv.below b9).lf.trans l10))
      clear g10 l10 g9 g3 p1 hl9 m10 o10 s10 os10 t10 u10 k10 U1 b9 e9
      have hwm:IntKind.i64.wrap (m:Int)=(m:Int):=by rw[IntKind.wrap_i64];omega
      refine stillW 10 (by kernel_rfl) (by kernel_rfl) W9 hW9 ?_
      simp only[List.take_succ_cons,List.take_zero,List.drop_succ_cons,List.drop_zero]
      repeat still_step
      refine wpStill_nil ?_
      go_wp2
      go_roundw
      case rel=>
        refine⟨us',_,cs1,j+1,?_,?_,?_,(by have h:=HG10.out;rw[popU_pop] at h;exact h.mono (by omega)),HB'.out,HL10.out⟩
        · have:=HJ.out;simp at this;omega
        · show(mset D1.wm (tx:Int) _).lookup (tx:Int)=_
          rw[lookup_mset,if_pos rfl]
        · exact⟨_,_,by rw[HM.out]⟩
      case measure=>exact Nat.lt_succ_self m
end
def backU(U:Int→Option Us)(tx:Nat)(us:Us):Int→Option Us:=match U (tx:Int) with
  | none=>U
  | some _=>popU U tx us
section
variable {X:ST}{D D':SD}{w w':World}{k:Nat}{cs:List NC}{U:Int→Option Us}
theorem Undos.no{tx:Nat}(h:Undos X D w U)(e:U (tx:Int)=none):D.wm.lookup (tx:Int)=none:=by
  cases hl:D.wm.lookup (tx:Int) with
  | none=>rfl
  | some v =>
    obtain⟨tx',us',h1,h2,h3⟩:=h.one _ _ hl
    rw[e] at h2;cases h2
theorem Undos.look{tx:Nat}(h:Undos X D w U):∃ A c,(D.wm.lookup (tx:Int)).getD (.slice none 0 0)=.slice A ((U (tx:Int)).getD []).length c:=by
  cases e:U (tx:Int) with
  | none=>rw[h.no e];exact⟨_,_,rfl⟩
  | some us =>
    obtain⟨v,h1,-,A,c,h2⟩:=h.some e
    rw[h1];exact⟨A,c,h2⟩
theorem undo_a{tx save N:Nat}{us0 us1:Us}{cs':List NC}(g:GS X D w k cs U)(hU:(U (tx:Int)).getD []=us0++us1)(hs:us0.length=save)(hB:Backs cs us1 cs')(hN:us1.length=N)(hkb:k+2 * N≤3600)(hN2:N≤1000)(hs2:save≤1000)(htx:tx≤1000000) :
    Calls Tryz.prog 82 #[.pointer (some ⟨X.s,0,none⟩),.int .i64 (tx:Int),.int .i64 (save:Int)] w fun e w'=>e=.returned (.int .i64 0)∧∃ D',Lf X D D' w w'∧GS X D' w' (k+2 * N) cs' (backU U tx us0):=by
  cases e:U (tx:Int) with
  | some us =>
    rw[e] at hU
    have hU:us=us0++us1:=hU
    subst hU
    have hb:backU U tx us0=popU U tx us0:=by unfold backU;rw[e]
    rw[hb]
    exact undo_g g e hs hB hN hkb hN2 hs2 htx
  | none =>
    rw[e] at hU
    have hU:[]=us0++us1:=hU
    obtain⟨rfl,rfl⟩:=List.append_eq_nil_iff.1 hU.symm
    have hb:backU U tx []=U:=by unfold backU;rw[e]
    rw[hb,hB.none]
    have hs:save=0:=hs.symm
    have hN:N=0:=hN.symm
    subst hs hN
    have c14:w.cell? ⟨X.s,14,none⟩=some (.map (some X.B.wk)):=cellD g.st.sb 14
    have LK:=lookF g.st.wk (tx:Int)
    rw[g.us.no e] at LK
    have LK:(Instr.lookup 123 (.map (some X.B.wk)) (.int .i64 (tx:Int)) false).run Tryz.prog w=.ok (.slice none 0 0) w:=LK
    have HG:=Lib.hid g
    clear g hB hkb htx hU
    go_enter Tryz.func82,Tryz.ntmps82
    go_wp2
    go_loopw [7] (fun l wr=>l=.slice none 0 0∧wr=w) (fun l _=>0)
    case atStart=>exact⟨rfl,rfl⟩
    case round=>
      obtain⟨rfl,rfl⟩:=hrel
      go_wp2
      go_ret
      exact⟨rfl,D,(Pv.refl X D wr).lf,HG.out⟩
theorem save_g{tx p:Nat}(g:GS X D w k cs U)(hl:D.tm.lookup (tx:Int)=some (mk 2 p)) :
    Calls Tryz.prog 27 #[.pointer (some ⟨X.s,0,none⟩),.int .i64 (tx:Int)] w fun e w'=>e=.returned (.tuple #[.int .i64 (((U (tx:Int)).getD []).length:Int),.int .i64 0])∧Below w.heap.size w w':=by
  have RD:=ready_st g.st hl
  obtain⟨L,hL⟩:∃ L,((U (tx:Int)).getD []).length=L:=⟨_,rfl⟩
  have FX:=fun w1 (b1:Below w.heap.size w w1)=>And.intro (show w1.cell? ⟨X.s,14,none⟩=some (.map (some X.B.wk)) from cellD (g.st.below b1).sb 14) (lookF (g.st.below b1).wk (tx:Int))
  obtain⟨A,c,e⟩:=g.us.look (tx:=tx)
  rw[e,hL] at FX
  have HF:=Lib.hid FX
  rw[hL]
  clear g hL e FX
  go_enter Tryz.func27,Tryz.ntmps27
  go_wp2_with (go_at_call 67;(with_reducible refine RD.mono ?_);rintro e w1 ⟨rfl,b1⟩;obtain⟨x14,LK⟩:=HF.out w1 b1)
  go_ret2
  exact⟨rfl,b1⟩
theorem back_g{tx p save N:Nat}{us0 us1:Us}{cs':List NC}(g:GS X D w k cs U)(hl:D.tm.lookup (tx:Int)=some (mk 2 p))(hU:(U (tx:Int)).getD []=us0++us1)(hs:us0.length=save)(hB:Backs cs us1 cs')(hN:us1.length=N)(hkb:k+2 * N≤3600)(hN2:N≤1000)(hs2:save≤1000)(htx:tx≤1000000) :
    Calls Tryz.prog 28 #[.pointer (some ⟨X.s,0,none⟩),.int .i64 (tx:Int),.int .i64 (save:Int)] w fun e w'=>e=.returned (.int .i64 0)∧∃ D',Lf X D D' w w'∧GS X D' w' (k+2 * N) cs' (backU U tx us0):=by
  have RD:=ready_st g.st hl
  obtain⟨L,hL⟩:∃ L,((U (tx:Int)).getD []).length=L:=⟨_,rfl⟩
  have FX:=fun w1 (b1:Below w.heap.size w w1)=>And.intro (show w1.cell? ⟨X.s,14,none⟩=some (.map (some X.B.wk)) from cellD (g.st.below b1).sb 14) (lookF (g.st.below b1).wk (tx:Int))
  obtain⟨A,c,e⟩:=g.us.look (tx:=tx)
  rw[e,hL] at FX
  have UN:=fun w1 (b1:Below w.heap.size w w1)=>undo_a (tx:=tx) (g.below b1) hU hs hB hN hkb hN2 hs2 htx
  have f1:¬((L:Int)<(save:Int)):=by rw[← hL,hU,List.length_append,hs];omega
  have f2:¬(L<save):=by omega
  have f3:¬((save:Int)<0):=by omega
  have HF:=Lib.hid FX
  have HUN:=Lib.hid UN
  clear g hL e FX UN hU hs hB hN hkb htx
  go_enter Tryz.func28,Tryz.ntmps28
  go_wp2_with (first
    | (go_at_call 67;(with_reducible refine RD.mono ?_);rintro e w1 ⟨rfl,b1⟩;obtain⟨x14,LK⟩:=HF.out w1 b1;have U1:=HUN.out w1 b1)
    | (go_at_call 82;(with_reducible refine U1.mono ?_);rintro e w2 ⟨rfl,D',lf,g2⟩))
  go_ret
  exact⟨rfl,D',(Pv.below b1).lf.trans lf,g2⟩
end
def delU (U:Int→Option Us)(tx:Nat):Int→Option Us:=fun n=>if n=(tx:Int) then none else U n
theorem rise_snoc{n:Nat}:∀ {l:List Int} {a:Int},rise (n:Int) a l=true→(a<(n:Int))→rise ((n+1:Nat):Int) a (l++[(n:Int)])=true
  | [],a,_,h=>by simp[rise];omega
  | b :: l, a, h, h2 => by
    simp only[rise,Bool.and_eq_true,decide_eq_true_eq] at h
    simp only[List.cons_append,rise,Bool.and_eq_true,decide_eq_true_eq]
    exact⟨h.1,by omega,rise_snoc h.2.2 (by omega)⟩
section
variable {X:ST}{D D':SD}{w w':World}{k:Nat}{cs:List NC}{U:Int→Option Us}
theorem GS.table{T':TR}{tm':List (Int×Value)}{ov':List Int}(g:GS X D w k cs U)(kk:Kp (TF X.B.t D.T) w w')(ht:TB w' X.B.t T')(hw:T'.who=X.who)(hm:MapI w' X.who tm')(ho:OR w' X.n0 T'.ov ov')(hov:∀ b,T'.ov.ownBlock=some b→D.T.ov.ownBlock=some b∨w.heap.size≤b)(tok:TOk { D with T:=T',tm:=tm',ov:=ov' }) :
    GS X { D with T:=T',tm:=tm',ov:=ov' } w' k cs U∧Mv X D { D with T:=T',tm:=tm',ov:=ov' } w w':=by
  have st:=g.st
  have kf:Kp (FU X D w) w w':=kk.weaken fun b e=>by
    rcases e with e|e|e
    · exact .inr (.inl e)
    · exact .inr (.inr (.inl (st.tw▸e)))
    · exact .inr (.inr (.inr (.inr (.inl e))))
  have MV:Mv X D { D with T:=T',tm:=tm',ov:=ov' } w w':=by
    refine⟨kf,fun b hb e=>?_⟩
    rcases e with (e|e|e)|e|e|e|e|⟨t,v,e1,e2⟩
    · exact cx_back kf (fun _ q=>.inl (.inl q)) hb e
    · exact .inl (.inr (.inl e))
    · exact .inl (.inr (.inr e))
    · exact .inr (.inl e)
    · exact .inr (.inr (.inl e))
    · exact .inr (.inr (.inr (.inl e)))
    · rcases hov b e with q|q
      · exact .inr (.inr (.inr (.inr (.inl q))))
      · omega
    · exact .inr (.inr (.inr (.inr (.inr ⟨t,v,e1,e2⟩))))
  refine⟨⟨st.table kk ht hw hm ho,?_,tok,⟨fun n v e=>?_,g.us.non,g.us.apart,g.us.nd⟩,g.ok,g.v1,g.isv,g.len,g.hd⟩,MV⟩
  · have i:=g.iv
    exact⟨i.pg,i.ll,i.fine,i.ws,i.blen,i.first,i.blocks,i.pos,i.c1,i.cnt,i.room,i.sy,i.last,i.wal,i.lsn,i.base,i.rc,i.asked,i.log,i.ep,i.gen,i.p0,i.pages⟩
  · obtain⟨tx',us',h1,h2,h3⟩:=g.us.one n v e
    refine⟨tx',us',h1,h2,h3.mv MV fun b hb=>?_⟩
    obtain⟨-,cur,hc⟩:=h3.blk hb
    refine kk.block b (hlt hc) fun e=>?_
    rcases e with e|e|e
    · exact tag_ne hc st.tb (by decide) e
    · exact st.tm.ne hc (st.tw▸e.symm)
    · exact st.tr.ne hc (by decide) e
theorem GS.del{tx:Nat}(g:GS X D w k cs U)(kk:Kp (·=X.B.wk) w w')(m5:MapI w' X.B.wk (mdel D.wm (tx:Int))) :
    GS X { D with wm:=mdel D.wm (tx:Int) } w' k cs (delU U tx)∧Lf X D { D with wm:=mdel D.wm (tx:Int) } w w':=by
  have st:=g.st
  have hU:=g.us
  have lk:∀ t v,(mdel D.wm (tx:Int)).lookup t=some v→t≠(tx:Int)∧D.wm.lookup t=some v:=fun t v e=>by
    rw[lookup_mdel _ _ _ hU.nd] at e
    by_cases ht:t=(tx:Int)
    · rw[if_pos ht] at e;cases e
    · rw[if_neg ht] at e;exact⟨ht,e⟩
  have kf:Kp (FU X D w) w w':=kk.weaken fun b e=>.inr (.inr (.inr (.inl e)))
  have MV:Mv X D { D with wm:=mdel D.wm (tx:Int) } w w':=by
    refine⟨kf,fun b hb e=>?_⟩
    rcases e with (e|e|e)|e|e|e|e|⟨t,v,e1,e2⟩
    · exact cx_back kf (fun _ q=>.inl (.inl q)) hb e
    · exact .inl (.inr (.inl e))
    · exact .inl (.inr (.inr e))
    · exact .inr (.inl e)
    · exact .inr (.inr (.inl e))
    · exact .inr (.inr (.inr (.inl e)))
    · exact .inr (.inr (.inr (.inr (.inl e))))
    · exact .inr (.inr (.inr (.inr (.inr ⟨t,v,(lk t v e1).2,e2⟩))))
  refine⟨⟨st.work kk m5,g.iv.wm _,⟨g.tok.n1,g.tok.n2,g.tok.ovl,g.tok.ov⟩,⟨fun n v e=>?_,fun n e=>?_,fun n m v u b e1 e2=>hU.apart n m v u b (lk n v e1).2 (lk m u e2).2,?_⟩,g.ok,g.v1,g.isv,g.len,fun q=>g.hd (q.imp id fun⟨n,us,e⟩=>⟨n,us,by
    unfold delU at e
    by_cases ht:n=(tx:Int)
    · rw[if_pos ht] at e;cases e
    · rw[if_neg ht] at e;exact e⟩)⟩,MV,rfl,rfl,rfl⟩
  · obtain⟨ht,e⟩:=lk n v e
    obtain⟨tx',us',h1,h2,h3⟩:=hU.one n v e
    refine⟨tx',us',h1,by unfold delU;rw[if_neg ht];exact h2,h3.mv MV fun b hb=>?_⟩
    obtain⟨-,cur,hc⟩:=h3.blk hb
    exact kk.block b (hlt hc) fun e=>st.wk.ne hc e.symm
  · have e:(mdel D.wm (tx:Int)).lookup n=none:=e
    rw[lookup_mdel _ _ _ hU.nd] at e
    unfold delU
    by_cases ht:n=(tx:Int)
    · rw[if_pos ht]
    · rw[if_neg ht] at e ⊢;exact hU.non n e
  · exact hU.nd.sublist (mdel_keys D.wm (tx:Int))
theorem begin_s(g:GS X D w k cs U)(hL:D.ov.length≤15)(hn:D.T.next≤900000) :
    Calls Tryz.prog 14 #[.pointer (some ⟨X.s,0,none⟩)] w fun e w'=>e=.returned (.tuple #[.int .i64 (D.T.next:Int),.int .i64 0])∧∃ D',GS X D' w' k cs U∧Mv X D D' w w'∧D'.T.next=D.T.next+1∧D'.T.last=D.T.last∧D'.tm=mset D.tm (D.T.next:Int) (mk 2 D.T.last)∧D'.ov=D.ov++[(D.T.next:Int)]∧D'.J=D.J:=by
  have WH:=whole_st g.st
  have BT:=fun w' (b:Below w.heap.size w w')=>begin_g (g.st.below b).tb ((g.st.below b).tw▸(g.st.below b).tm) (g.st.below b).tr rfl hL (by omega) (g.st.below b).dk.base
  have c13:∀ w',Below w.heap.size w w'→w'.cell? ⟨X.s,13,none⟩=some (.pointer (some ⟨X.B.t,0,none⟩)):=fun w' b=>cellD (g.st.below b).sb 13
  have HB:=Lib.hid BT
  have HC:=Lib.hid c13
  have HG:=Lib.hid g
  have HL:=Lib.hid hL
  have HN:=Lib.hid hn
  clear BT c13 hn hL g
  go_enter Tryz.func14,Tryz.ntmps14
  go_wp2_with (first
    | (go_at_call 65;(with_reducible refine WH.mono ?_);rintro e w2 ⟨rfl,b2⟩;have B2:=HB.out w2 b2;have x13:=HC.out w2 b2)
    | (go_at_call 66;(with_reducible refine B2.mono ?_);rintro e w3 ⟨rfl,v,t3,m3,o3,hov,k3⟩))
  go_ret2
  have g:=HG.out
  have g2:=g.below b2
  have hw:=g.st.tw
  obtain⟨g3,m3'⟩:=g2.table (T':={ D.T with next:=D.T.next+1,ov:=v }) k3 t3 hw (hw▸m3) o3 hov ⟨by have:=g.tok.n1;show 1≤D.T.next+1;omega,by have:=HN.out;show D.T.next+1≤_;omega,by have:=HL.out;show(D.ov++[_]).length≤16;simp;omega,rise_snoc g.tok.ov (by have:=g.tok.n1;omega)⟩
  exact⟨rfl,_,g3,(Mv.below b2).trans m3',rfl,rfl,rfl,rfl,rfl⟩
end
end Go.Proofs.YtdbkocfbhpgpkaaGreat
