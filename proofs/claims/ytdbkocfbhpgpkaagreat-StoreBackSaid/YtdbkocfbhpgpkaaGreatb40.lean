/-
  store.seen.
-/
import Derived.Test.YtdbkocfbhpgpkaaGreatb39
set_option linter.unusedVariables false
set_option linter.unusedSimpArgs false
namespace Go.Proofs.YtdbkocfbhpgpkaaGreat
open Go Go.RowKit Go.Shelf
open Go.Ev (PgM PageOk CellsOut rowsOf rowsV rowV rowsOf_len BelowIs)
set_option maxRecDepth 100000
set_option maxHeartbeats 4000000
structure Lf(X:ST)(D D':SD)(w w':World):Prop where
  mv:Mv X D D' w w'
  T:D'.T=D.T
  tm:D'.tm=D.tm
  ov:D'.ov=D.ov
theorem Lf.trans{X:ST}{D D' D'':SD}{w w' w'':World}(h:Lf X D D' w w')(g:Lf X D' D'' w' w''):Lf X D D'' w w'':=⟨h.mv.trans g.mv,g.T.trans h.T,g.tm.trans h.tm,g.ov.trans h.ov⟩
theorem Pv.lf{X:ST}{D D':SD}{w w':World}(p:Pv X D D' w w'):Lf X D D' w w':=⟨p.mv,p.T,p.tm,p.ov⟩
section
variable {X:ST}{D D':SD}{w w':World}{k:Nat}{cs:List NC}{U:Int→Option Us}
theorem pgis_held{f:FR}{l:List UInt8}(hf:D.R.held=some f)(h:PgIs D l):f.bytes=l:=by
  rcases h with⟨g,e,r⟩|⟨e,-⟩
  · rw[hf] at e;injection e with e;subst e;exact r
  · rw[hf] at e;cases e
theorem put_g{kn kc vn vc i tx p:Nat}{kA vA:Option Addr}{key val:List UInt8}{cs':List NC}{cf:Nat→Int}(g:GS X D w k cs U)(hkb:k≤3700)
    (hl:D.tm.lookup (tx:Int)=some (mk 2 p)) (hm:Marks D cs tx p cf)
    (hrk:SRd X D w kA key) (hkn:kn=key.length) (hk1:1≤key.length) (hk3:key.length≤3) (hrv:SRd X D w vA val) (hvn:vn=val.length) (hv5:val.length≤512)
    (hi:BelowIs cs (txt key 0) i) (hj:PutTo cs (ncOf (vkey key tx) (1::val)) cs') (hok':PageOk 1 0 cs') (hv1':∀ c∈cs',1≤c.vn) (hs':∀ c∈cs',IsV c) (hl':cs'.length≤60) (htx:tx≤1000000) (hul:((U (tx:Int)).getD []).length≤100000) :
    Calls Tryz.prog 15 #[.pointer (some ⟨X.s,0,none⟩),.int .i64 (tx:Int),.slice kA kn kc,.slice vA vn vc] w fun e w'=>e=.returned (.int .i64 (claimN cf ((scanTo cs i (txt key 1)).map nOf)))∧∃ D',Lf X D D' w w' ∧
      (claimN cf ((scanTo cs i (txt key 1)).map nOf)≠0→GS X D' w' (k+2) cs U)∧(claimN cf ((scanTo cs i (txt key 1)).map nOf)=0→GS X D' w' (k+2) cs' (pushU U tx (vkey key tx,wasOf tx (scanTo cs i (txt key 1))))) ∧
      (claimN cf ((scanTo cs i (txt key 1)).map nOf)≠0→D'.J.last=D.J.last)∧(claimN cf ((scanTo cs i (txt key 1)).map nOf)=0→pgL 1 0 cs≠pgL 1 0 cs'→D'.J.last=D.J.last+1):=by
  have RD:=ready_st g.st hl
  have CL:=fun w1 (b1:Below w.heap.size w w1)=>claim_st (kc:=kc) (kn:=kn) (g.below b1) hl hm ((hrk.mv (Mv.below b1)).rd) hkn hk3 hi
  have KM:=keymay_any kA kn kc (by omega) (by omega)
  have f5:¬((512:Int)<(vn:Int)):=by omega
  have f5':¬(512<vn):=by omega
  have hkl:(vkey key tx).length≤320:=by have:=esc_len key;rw[vkey_len,txt_len];omega
  have hkl1:1≤(vkey key tx).length:=by rw[vkey_len];omega
  have SET:∀ (D2:SD) (f:FR) w2 (sA:Option Addr) sc n (vs:List VR) va vc2,GS X D2 w2 k cs U→D2.R.held=some f→SRd X D2 w2 kA key→w2.ownsRow n 158 4 (.slice sA vs.length sc) vs.length (vX vs)→vs.length≤60 →
      (∃ A c,wasV (lastBy tx vs)=.slice A (wasOf tx (scanTo cs i (txt key 1))).length c∧SRd X D2 w2 A (wasOf tx (scanTo cs i (txt key 1))))→SRd X D2 w2 va (1::val)→_:=fun D2 f w2 sA sc n vs va vc2 g2 hf hr hrow hvl hwas hv=>
    set_g (kn:=kn) (kc:=kc) (vc:=vc2) (va:=va) (tx:=tx) (nc:=ncOf (vkey key tx) (1::val)) (cs':=cs') g2.st g2.iv (by omega) g2.tok hf g2.us hr.rd hkn hk1 (by omega) hrow hvl hwas g2.ok g2.v1 (nc_key _ _) (by rw[nc_val];exact hv) hj hok' hkl1 hkl (by simp[ncOf]) (by simp[ncOf];omega) (by have:=g2.len;omega) htx hul
  have hvn1:(ncOf (vkey key tx) (1::val)).vn=vn+1:=by simp[ncOf,hvn]
  obtain⟨cl,hcl⟩:∃ cl,claimN cf ((scanTo cs i (txt key 1)).map nOf)=cl:=⟨_,rfl⟩
  have HC:=Lib.hid CL
  have HS:=Lib.hid SET
  have HG:=Lib.hid g
  have HRK:=Lib.hid hrk
  have HRV:=Lib.hid hrv
  have HVN:=Lib.hid hvn
  have HV5:=Lib.hid hv5
  have HV1:=Lib.hid hvn1
  have HCL:=Lib.hid hcl
  have HT:=Lib.hid (And.intro hok' (And.intro hv1' (And.intro hs' hl')))
  rw[hcl]
  clear g hkb hl hm hrk hkn hk1 hk3 hrv hvn hv5 hi hj hok' hv1' hs' hl' htx hul CL SET hkl hkl1 hvn1 hcl
  go_enter Tryz.func15,Tryz.ntmps15
  go_upto_region 9 with (first
    | (go_at_call 67;(with_reducible refine RD.mono ?_);rintro e w1 ⟨rfl,b1⟩;have C1:=HC.out w1 b1)
    | (go_at_call 68;(with_reducible refine(KM _).mono ?_);rintro e w1' ⟨rfl,rfl⟩)
    | (go_at_call 69;(with_reducible refine C1.mono ?_);rintro e w2 ⟨v,vs,hvs,hlen,rfl,hrow,hq,k2⟩))
  rw[HCL.out] at hrow ⊢
  obtain⟨f,g2,p2,hf2⟩:=(HG.out.below b1).read hq k2
  have p02:=(Pv.below b1).trans p2
  have HL2:=Lib.hid p02.lf
  have HG2:=Lib.hid g2
  have HVS:=Lib.hid hvs
  have HB1:=Lib.hid b1
  have HF2:=Lib.hid hf2
  have HP2:=Lib.hid p02
  clear hq k2 p2 p02 g2 hvs b1 C1 hf2
  by_cases h0:cl=0
  · subst h0
    obtain⟨n,hn,hrow⟩:=hrow rfl
    obtain⟨A,c,rfl⟩:=row_vform hrow
    obtain⟨W3,hW3,g3,b3,s3⟩:=box_alloc w2 (.cells #[.int .u8 1] 5)
    obtain⟨W4,hW4,g4,b4,s4⟩:=box_alloc W3 (.cells #[.slice (some ⟨w2.heap.size,0,none⟩) 1 1,.slice vA vn vc] 33)
    have z2:=HP2.out.kp.size
    have z3:=b3.size
    have z4:=b4.size
    have b24:=b3.trans (b4.mono z3)
    have rv2:=(HRV.out.mv HP2.out.mv).rd
    have r1:Rd W4 W4.heap.size (some ⟨w2.heap.size,0,none⟩) [1]:=by
      have:=Rd.one w2 1
      rw[show w2.alloc (.cells #[u8V 1] 5)=W3 from hW3] at this
      exact(this.below (b4.mono (by omega))).more (by omega)
    have CC:=concat2_any (rc:=2) (cellD g4 0) (cellD g4 1) (hlt g4) r1 ((rv2.below b24).more (by omega)) rfl HVN.out (by have:=HV5.out;have:=HVN.out;omega) (Nat.le_refl _)
    have AF:=fun w5 (b5:Below W4.heap.size W4 w5) va vc2 (o5:Own w5 W4.heap.size (.slice va (vn+1) vc2) ([1]++val))=>by
      have b25:=b24.trans (b5.mono b24.size)
      have m25:=Mv.below (X:=X) (D:=D.hold f) b25
      have m05:=HP2.out.mv.trans m25
      have hwas:∃ A c,wasV (lastBy tx vs)=.slice A (wasOf tx (scanTo cs i (txt key 1))).length c∧SRd X (D.hold f) w5 A (wasOf tx (scanTo cs i (txt key 1))):=by
        have hwas:=was_at (tx:=tx) HG.out.st HG.out.us HP2.out.mv (.inr ⟨f,rfl⟩) HVS.out HB1.out.size vs.length (Nat.le_refl _)
        rw[List.take_length,HVS.out.1,List.take_length] at hwas
        obtain⟨A2,c2,e2,sr2⟩:=hwas
        exact⟨A2,c2,e2,sr2.mv m25⟩
      have S:=HS.out (D.hold f) f w5 A c n vs va vc2 (HG2.out.below b25) HF2.out ((HRK.out.mv HP2.out.mv).mv m25) (row_keep hrow b25) hlen hwas (own_srd HG.out.st HG.out.us m05 (.inr ⟨f,rfl⟩) o5 (by omega))
      rw[HV1.out] at S
      exact S
    have HA:=Lib.hid AF
    have HZ:=Lib.hid (And.intro b24 (And.intro z2 (And.intro z3 z4)))
    clear AF hrow hn rv2 r1 s3 s4 HS HC b24 z2 z3 z4
    go_wp2_with (first
      | (go_at_call 71;(with_reducible refine CC.mono ?_);rintro e w5 ⟨⟨v5,rfl,o5⟩,b5⟩;obtain⟨va,vc2,rfl,-,-,-⟩:=o5.sl (n:=vn+1) (by have:=HVN.out;simp;omega);have S5:=HA.out w5 b5 va vc2 o5)
      | (go_at_call 70;(with_reducible refine S5.mono ?_);rintro e w6 ⟨rfl,D',i6,m6,st6,u6,hT6,htm6,hov6,f6,hf6⟩))
    go_ret
    obtain⟨b24,z2,z3,z4⟩:=HZ.out
    obtain⟨hok',hv1',hs',hl'⟩:=HT.out
    have b25:=b24.trans (b5.mono b24.size)
    have l6:Lf X (D.hold f) D' w5 w6:=⟨m6,hT6,htm6,hov6⟩
    have t2:=HG2.out.tok
    exact⟨rfl,D',(HL2.out.trans (Pv.below b25).lf).trans l6,⟨st6,i6,⟨by rw[hT6];exact t2.n1,by rw[hT6];exact t2.n2,by rw[hov6];exact t2.ovl,by rw[hT6,hov6];exact t2.ov⟩,u6,hok',hv1',hs',hl',fun _=>⟨f6,hf6.1⟩⟩,fun hne=>hf6.2 fun q=>hne ((pgis_held rfl HG2.out.iv.pg).symm.trans (pgis_held rfl q))⟩
  · have h0b:decide (cl=0)=false:=by simpa using h0
    go_wp2
    go_ret
    exact⟨rfl,D.hold f,HL2.out,fun _=>HG2.out.mono (by omega),fun e=>absurd e h0,fun _=>rfl,fun e=>absurd e h0⟩
end
def valOf:List UInt8→Option (List UInt8)
  | b::v=>if b=1 then some v else none
  | []=>none
def ValV (sA:Option Addr)(l:List UInt8)(V:Value):Prop:=match valOf l with
  | none=>V=.slice none 0 0
  | some v=>∃ b o c c',sA=some ⟨b,o,none⟩∧(V=.slice (some ⟨b,o+1,none⟩) v.length c∨v=[]∧V=.slice (some ⟨b,o,none⟩) 0 c')
theorem value_g{w:World}{aA kA sA:Option Addr}{an ac kn kc sn sc:Nat}{by_:Int}{l:List UInt8}(hr:Rd w w.heap.size sA l)(hn:sn=l.length)(hc:sn≤sc)(hcm:sc≤maxLen) :
    Calls Tryz.prog 91 #[.agg #[.slice aA an ac,.slice kA kn kc,.int .i64 by_,.slice sA sn sc]] w fun e w'=>(∃ V,e=.returned (.tuple #[V,.bool (valOf l).isSome])∧ValV sA l V)∧Below w.heap.size w w':=by
  obtain⟨W1,hW1,g1,b1,s1⟩:=box_alloc w (.cells #[.slice aA an ac,.slice kA kn kc,.int .i64 by_,.slice sA sn sc] 158)
  have y3:W1.cell? ⟨w.heap.size,3,none⟩=some (.slice sA sn sc):=cellD g1 3
  have HS1:=Lib.hid s1
  cases l with
  | nil =>
    simp at hn
    subst hn
    clear s1 hr hc
    go_enter Tryz.func91,Tryz.ntmps91
    go_wp2
    go_ret2
    exact⟨⟨_,rfl,rfl⟩,b1⟩
  | cons x v =>
    obtain⟨b,o,rfl,hb,hcell⟩:=hr (by simp)
    have hx:W1.cell? ⟨b,o,none⟩=some (u8V x):=(b1.cell (p:=⟨b,o,none⟩) hb).trans (by have:=hcell 0 (by simp);simpa using this)
    have hx':W1.cell? ⟨b,o,none⟩=some (.int .u8 (x.toNat:Int)):=hx
    have hl:sn=v.length+1:=by simpa using hn
    obtain⟨m,hm⟩:∃ m,v.length=m:=⟨_,rfl⟩
    rw[hm] at hl
    subst hl
    have hmx:m≤maxLen:=by omega
    unfold maxLen at hcm hmx
    have HM:=Lib.hid hm
    clear s1 hr hx hn hm hcell
    by_cases h1:x=1
    · subst h1
      have f1:((((1:UInt8)).toNat:Nat):Int)=1:=rfl
      rw[f1] at hx'
      have hv:valOf (1::v)=some v:=by simp[valOf]
      simp only[ValV,hv,Option.isSome_some]
      by_cases hd:sc=1
      · subst hd
        obtain rfl:m=0:=by omega
        go_enter Tryz.func91,Tryz.ntmps91
        go_wp2
        go_ret2
        exact⟨⟨_,rfl,b,o,0,_,rfl,.inr ⟨List.eq_nil_of_length_eq_zero HM.out,rfl⟩⟩,b1⟩
      · go_enter Tryz.func91,Tryz.ntmps91
        go_wp2
        go_ret2
        exact⟨⟨_,rfl,b,o,sc-1,0,rfl,.inl (by rw[HM.out];rfl)⟩,b1⟩
    · have f1:¬(((x.toNat:Nat):Int)=1):=fun e=>h1 (by
        have e2:x.toNat=1:=by omega
        exact UInt8.toNat_inj.1 e2)
      have f2:¬x.toNat=1:=fun e=>h1 (UInt8.toNat_inj.1 e)
      have f3:(((x.toNat:Nat):Int)==1)=false:=by simpa using f1
      have f4:(x.toNat==1)=false:=by simpa using f2
      have f5:(((x.toNat:Nat):Int) != 1)=true:=by simpa using f1
      have hv:valOf (x::v)=none:=by simp[valOf,h1]
      simp only[ValV,hv,Option.isSome_none]
      go_enter Tryz.func91,Tryz.ntmps91
      go_wp2
      go_ret2
      exact⟨⟨_,rfl,rfl⟩,b1⟩
noncomputable def seenOf(vf:Nat→Bool)(ps:List NC):Option (List UInt8):=match ps.find? (fun c=>vf (nOf c)) with
  | none=>none
  | some c=>valOf c.val
def RdF (w:World)(n₀:Nat)(A:Option Addr)(l:List UInt8):Prop:=
  l≠[]→∃ b o cur,A=some ⟨b,o,none⟩∧n₀≤b∧w.heap[b]? = some (.cells cur 5 (0,0))∧∀ k (h:k<l.length),w.cell? ⟨b,o+k,none⟩=some (u8V l[k])
theorem RdF.rd{w:World}{n₀:Nat}{A:Option Addr}{l:List UInt8}(h:RdF w n₀ A l):Rd w w.heap.size A l:=fun hne=>by
  obtain⟨b,o,cur,e,-,hb,hc⟩:=h hne
  exact⟨b,o,e,hlt hb,hc⟩
theorem RdF.kp{S:Nat→Prop}{w w':World}{n₀:Nat}{A:Option Addr}{l:List UInt8}(h:RdF w n₀ A l)(k:Kp S w w')(hS:∀ b cur,w.heap[b]? = some (.cells cur 5 (0,0))→¬S b):RdF w' n₀ A l:=fun hne=>by
  obtain⟨b,o,cur,e,h1,hb,hc⟩:=h hne
  have:=k.keep hb (hS b cur hb)
  exact⟨b,o,cur,e,h1,this,fun j hj=>(cell_same (this.trans hb.symm) _).trans (hc j hj)⟩
theorem RdF.down{w:World}{n₀ m:Nat}{A:Option Addr}{l:List UInt8}(h:RdF w n₀ A l)(hm:m≤n₀):RdF w m A l:=fun hne=>by
  obtain⟨b,o,cur,e,h1,hb,hc⟩:=h hne
  exact⟨b,o,cur,e,by omega,hb,hc⟩
theorem Own.rdf{w:World}{n₀ n c:Nat}{A:Option Addr}{l:List UInt8}(h:Own w n₀ (.slice A n c) l):RdF w n₀ A l:=fun hne=>by
  obtain⟨A',c',e,-,-,r⟩:=h.slice
  injection e with e1 e2 e3
  obtain⟨b,o,e4,-,hc⟩:=r hne
  have eb:(Value.slice A n c).ownBlock=some b:=by rw[e1,e4];rfl
  rcases h.2 with⟨e5,-⟩|⟨g,cap,cur,e5,hg,hcur,-⟩
  · rw[e5] at eb;cases eb
  · rw[e5] at eb;injection eb with eb;dsimp only at eb;subst eb
    exact⟨_,o,cur,by rw[e1];exact e4,hg,hcur,hc⟩
theorem ValV.rdf{w:World}{n₀:Nat}{sA:Option Addr}{l v:List UInt8}{V:Value}(h:ValV sA l V)(hr:RdF w n₀ sA l)(hv:valOf l=some v):∃ A c,V=.slice A v.length c∧RdF w n₀ A v:=by
  unfold ValV at h
  rw[hv] at h
  obtain⟨b,o,c,c',e,h⟩:=h
  rcases h with h|⟨h0,h⟩
  · refine⟨_,_,h,fun hne=>?_⟩
    have hl:l=1::v:=by
      cases l with
      | nil=>cases hv
      | cons x u =>
        by_cases hx:x=1
        · subst hx;simp[valOf] at hv;rw[hv]
        · simp[valOf,hx] at hv
    subst hl
    obtain⟨b',o',cur,e',hb,hcur,hc⟩:=hr (by simp)
    rw[e] at e';injection e' with e';injection e' with e1 e2
    subst e1 e2
    refine⟨b,o+1,cur,rfl,hb,hcur,fun k hk=>?_⟩
    have:=hc (k+1) (by simpa using hk)
    rw[show o+1+k=o+(k+1) by omega]
    simpa using this
  · subst h0
    exact⟨_,c',h,fun hne=>absurd rfl hne⟩
theorem find_at{α:Type}(f:α→Bool):∀ (l:List α) (q:Nat) (h:q<l.length),(∀ j (g:j<l.length),j<q→f l[j]=false)→f l[q]=true→l.find? f=some l[q]
  | a::l,0,h,_,e=>by simp at e;simp[List.find?,e]
  | a :: l, q + 1, h, hj, e => by
    have h0:=hj 0 (by simp) (by omega)
    simp at h0
    have ih:=find_at f l q (by simpa using h) (fun j g hq=>by have:=hj (j+1) (by simpa using g) (by omega);simpa using this) (by simpa using e)
    simp[List.find?,h0,ih]
theorem seen_g{w:World}{s t tx p n n₀ L sc:Nat}{sA:Option Addr}{T:TR}{m:List (Int×Value)}{vs:List VR}{ps:List NC}{sto:Array Value}(vf:Nat→Bool)
    (hs:w.heap[s]? = some (.cells sto 125 (0,0))) (h13:sto[13]? = some (.pointer (some ⟨t,0,none⟩))) (ht:TB w t T) (hmm:MapI w T.who m) (hl:m.lookup (tx:Int)=some (mk 2 p))
    (hrow:w.ownsRow n 158 4 (.slice sA vs.length sc) vs.length (vX vs)) (hL:vs.length=L) (hL60:L≤60) (hvs:VsOf w n₀ vs ps)
    (hG:∀ c∈ps,∃ b q,(b=2∨b=3∨b=5)∧m.lookup (nOf c:Int)=some (mk b q)∧vf (nOf c)=(decide ((nOf c:Int)=(tx:Int)) || visB b q p)) :
    Calls Tryz.prog 81 #[.pointer (some ⟨s,0,none⟩),.int .i64 (tx:Int),.slice sA L sc] w fun e w'=>(∃ V,e=.returned (.tuple #[V,.bool (seenOf vf ps).isSome])∧∀ v,seenOf vf ps=some v→∃ A c,V=.slice A v.length c∧RdF w' n₀ A v)∧Below w.heap.size w w':=by
  have HG:=Lib.hid hG
  have HL:=Lib.hid hl
  have HS:=Lib.hid hs
  have H13:=Lib.hid h13
  have HT:=Lib.hid ht
  have HM:=Lib.hid hmm
  have HVS:=Lib.hid hvs
  have HLV:=Lib.hid hL
  have HF:=Lib.hid (row_ver hrow)
  clear hG hl hs h13 ht hmm hvs hL hrow
  go_enter Tryz.func81,Tryz.ntmps81
  go_wp2
  go_loopw [12] (fun k wr=>∃ q:Nat,q≤L∧k=.int .i64 (q:Nat)∧(∀ j (h:j<ps.length),j<q→vf (nOf ps[j])=false)∧Below w.heap.size w wr) (fun k _=>L-(RowKit.intOf k).toNat)
  case atStart=>exact⟨0,Nat.zero_le _,rfl,fun j _ h=>absurd h (Nat.not_lt_zero _),Below.refl _ _⟩
  case round=>
    obtain⟨q,hq,rfl,hno,b3⟩:=hrel
    have HNO:=Lib.hid hno
    clear hno
    by_cases hlq:q<L
    · have hqv:q<vs.length:=by rw[HLV.out];exact hlq
      have hqp:q<ps.length:=by rw[← HVS.out.1];exact hqv
      rcases HF.out with⟨-,e⟩|⟨g,c',eg,hg,-,hc⟩
      · subst e;simp at hqv
      injection eg with eg e2 e3
      subst eg e3
      have hvo:=HVS.out.2 q hqv hqp
      have hnv:=hvo.n
      obtain⟨bq,pq,hbq,hlk,hvf⟩:=HG.out ps[q] (List.getElem_mem hqp)
      rw[hnv] at hlk hvf
      obtain⟨⟨aA,an,ac,vA,vn,vc,by_,sA',sn,scc⟩,hX⟩:∃ X,vs[q]=X:=⟨_,rfl⟩
      rw[hX] at hvo hlk hvf hnv
      have c0:wr.cell? ⟨g,q * 4,none⟩=some (.slice aA an ac):=(b3.cell (p:=⟨g,q * 4,none⟩) hg).trans (by have:=hc q hqv 0 (by decide);rw[hX] at this;exact this)
      have c1:wr.cell? ⟨g,q * 4+1,none⟩=some (.slice vA vn vc):=(b3.cell (p:=⟨g,q * 4+1,none⟩) hg).trans (by have:=hc q hqv 1 (by decide);rw[hX] at this;exact this)
      have c2:wr.cell? ⟨g,q * 4+2,none⟩=some (.int .i64 (by_:Int)):=(b3.cell (p:=⟨g,q * 4+2,none⟩) hg).trans (by have:=hc q hqv 2 (by decide);rw[hX] at this;exact this)
      have c3:wr.cell? ⟨g,q * 4+3,none⟩=some (.slice sA' sn scc):=(b3.cell (p:=⟨g,q * 4+3,none⟩) hg).trans (by have:=hc q hqv 3 (by decide);rw[hX] at this;exact this)
      have hlk:m.lookup (by_:Int)=some (mk bq pq):=hlk
      have hvf:vf by_=(decide ((by_:Int)=(tx:Int)) || visB bq pq p):=hvf
      have hnv:nOf ps[q]=by_:=hnv
      obtain⟨W4,hW4,g4,b4,s4⟩:=box_alloc wr (.cells #[.slice aA an ac,.slice vA vn vc,.int .i64 (by_:Int),.slice sA' sn scc] 158)
      have z3:=b3.size
      obtain⟨W5,hW5,e5,b5⟩:=drew_name W4
      have b34:=(b3.trans (b4.mono z3)).trans (b5.mono (Nat.le_trans z3 b4.size))
      have x13:W5.cell? ⟨s,13,none⟩=some (.pointer (some ⟨t,0,none⟩)):=(cellD (keepB b34 HS.out) 13).trans H13.out
      have y2:W5.cell? ⟨wr.heap.size,2,none⟩=some (.int .i64 (by_:Int)):=cellD (keepB b5 g4) 2
      have CF:=visible_g (show TB W5 t T from keepB b34 HT.out) (HM.out.below b34) (tx:Int) (by_:Int) p pq bq hbq HL.out hlk
      rw[← hvf] at CF
      obtain⟨vb,hvb⟩:∃ vb,vf by_=vb:=⟨_,rfl⟩
      rw[hvb] at CF
      have hnp:∀ h:q<ps.length,vf (nOf ps[q])=vb:=fun _=>by rw[hnv];exact hvb
      have HNP:=Lib.hid hnp
      have HQP:=Lib.hid hqp
      have HVO:=Lib.hid (show VOf w n₀ ⟨aA,an,ac,vA,vn,vc,by_,sA',sn,scc⟩ (ps[q]'hqp) from hvo)
      have HG5:=Lib.hid (keepB b5 g4)
      have HS4:=Lib.hid s4
      clear s4 hX hbq hvf hvb hc e2 hlk hg hqv e5 hvo hnv hnp
      go_upto_region 4 with fail
      refine stillW 7 (by kernel_rfl) (by kernel_rfl) W5 hW5 ?_
      simp only[List.take_succ_cons,List.take_zero,List.drop_succ_cons,List.drop_zero]
      repeat still_step
      refine wpStill_nil ?_
      cases vb with
      | false =>
        go_wp2_with (go_at_call 98;(with_reducible refine CF.mono ?_);rintro e w6 ⟨rfl,b6⟩)
        refine⟨⟨q+1,by omega,rfl,fun j h hj=>?_,b34.trans (b6.mono b34.size)⟩,?_⟩
        · rcases Nat.lt_or_eq_of_le (Nat.le_of_lt_succ hj) with e|e
          · exact HNO.out j h e
          · subst e;exact HNP.out h
        · simp[RowKit.intOf];omega
      | true =>
        go_upto_region 5 with (go_at_call 98;(with_reducible refine CF.mono ?_);rintro e w6 ⟨rfl,b6⟩)
        have g6:=keepB b6 HG5.out
        have q0:w6.cell? ⟨wr.heap.size,0,none⟩=some (.slice aA an ac):=cellD g6 0
        have q1:w6.cell? ⟨wr.heap.size,1,none⟩=some (.slice vA vn vc):=cellD g6 1
        have q2:w6.cell? ⟨wr.heap.size,2,none⟩=some (.int .i64 (by_:Int)):=cellD g6 2
        have q3:w6.cell? ⟨wr.heap.size,3,none⟩=some (.slice sA' sn scc):=cellD g6 3
        have b36:=b34.trans (b6.mono b34.size)
        have hso:=HVO.out.s.belowS b36
        obtain⟨A',c'',e',hlc,hcm,hrd⟩:=hso.slice
        injection e' with e1 e2 e3
        have e1:sA'=A':=e1
        have e2:sn=_:=e2
        have e3:scc=c'':=e3
        rw[← e1] at hrd
        have VG:=value_g (sA:=sA') (sn:=sn) (sc:=scc) (aA:=aA) (an:=an) (ac:=ac) (kA:=vA) (kn:=vn) (kc:=vc) (by_:=(by_:Int)) hrd e2 (by omega) (by rw[e3];exact hcm)
        have hfind:=find_at (fun c=>vf (nOf c)) ps q HQP.out (fun j h hj=>HNO.out j h hj) (HNP.out HQP.out)
        have hse:seenOf vf ps=valOf (ps[q]'HQP.out).val:=by unfold seenOf;rw[hfind]
        have HSE:=Lib.hid hse
        have HRD:=Lib.hid (show RdF w6 n₀ sA' (ps[q]'HQP.out).val from Own.rdf hso)
        clear hfind hse hrd hso hlc hcm e1 e2 e3
        go_wp2_with (go_at_call 91;(with_reducible refine VG.mono ?_);rintro e w7 ⟨⟨V,rfl,hV⟩,b7⟩)
        go_ret2
        rw[HSE.out]
        exact⟨⟨V,rfl,fun v hv=>hV.rdf (HRD.out.kp (Kp.of (S:=fun _=>False) b7) fun _ _ _ h=>h) hv⟩,b36.trans (b7.mono b36.size)⟩
    · obtain rfl:q=L:=by omega
      have hfind:ps.find? (fun c=>vf (nOf c))=none:=List.find?_eq_none.2 fun c hc=>by
        obtain⟨j,hj,rfl⟩:=List.getElem_of_mem hc
        have:=HNO.out j hj (by have:=HVS.out.1;have:=HLV.out;omega)
        simp[this]
      have hse:seenOf vf ps=none:=by unfold seenOf;rw[hfind]
      have HSE:=Lib.hid hse
      clear hlq hq hfind hse
      go_wp2
      go_ret2
      rw[HSE.out]
      exact⟨⟨_,rfl,fun v hv=>nomatch hv⟩,b3⟩
end Go.Proofs.YtdbkocfbhpgpkaaGreat
