/-
  chapter 15's first example answers true.
-/
import Derived.Test.YtdbkocfbhpgpkaaGreatb41
import Derived.Test.YtdbkocfbhpgpkaaGreatb45
import Derived.Test.YtdbkocfbhpgpkaaGreatb48
import Derived.Lib.SlBytesConst
set_option linter.unusedVariables false
set_option linter.unusedSimpArgs false
namespace Go.Proofs.YtdbkocfbhpgpkaaGreat
open Go Go.RowKit Go.Shelf
open Go.Ev (PgM PageOk CellsOut rowsOf rowsV rowV rowsOf_len BelowIs)
set_option maxRecDepth 100000
set_option maxHeartbeats 4000000
section
variable {X:ST}{D D':SD}{w w':World}{k:Nat}{cs:List NC}{U:Int→Option Us}
theorem RdF.srd'{n₀:Nat}{A:Option Addr}{l:List UInt8}{f:FR}(h:RdF w' n₀ A l)(g:GS X D w k cs U)(m:Mv X D (D.hold f) w w')(hn:w.heap.size≤n₀):SRd X (D.hold f) w' A l:=fun hne=>by
  obtain⟨b,o,cur,e,h1,hb,hc⟩:=h hne
  exact⟨b,o,e,hlt hb,fu_new g.st g.us m (by omega) (.inr ⟨f,rfl⟩) hb (by decide) (by decide),hc⟩
theorem get_g{kn kc i tx p:Nat}{kA:Option Addr}{key:List UInt8}{vf:Nat→Bool}(g:GS X D w k cs U)(hl:D.tm.lookup (tx:Int)=some (mk 2 p))(hmv:MarksV D cs tx p vf)
    (hrk:SRd X D w kA key) (hkn:kn=key.length) (hk1:1≤key.length) (hk3:key.length≤3) (hi:BelowIs cs (txt key 0) i) :
    Calls Tryz.prog 36 #[.pointer (some ⟨X.s,0,none⟩),.int .i64 (tx:Int),.slice kA kn kc] w fun e w'=>∃ V f,e=.returned (.tuple #[V,.bool (seenOf vf (scanTo cs i (txt key 1))).isSome,.int .i64 0])∧GS X (D.hold f) w' k cs U∧Pv X D (D.hold f) w w' ∧
      ∀ v,seenOf vf (scanTo cs i (txt key 1))=some v→∃ A c,V=.slice A v.length c∧SRd X (D.hold f) w' A v:=by
  have RD:=ready_st g.st hl
  have KM:=keymay_any kA kn kc (by omega) (by omega)
  have VG:=fun w1 (b1:Below w.heap.size w w1)=>vers_g (kc:=kc) (kn:=kn) (g.below b1).st g.iv.pg g.ok g.v1 (by rw[g.iv.base,g.iv.blen];decide) (by rw[g.iv.base];decide) g.len ((hrk.mv (Mv.below b1)).rd) hkn hk3 g.isv hi
  have hsub:∀ c∈scanTo cs i (txt key 1),c∈cs:=fun c hc=>List.mem_of_mem_drop (List.takeWhile_subset _ hc)
  have hsl:(scanTo cs i (txt key 1)).length≤60:=by
    have h1:(scanTo cs i (txt key 1)).length≤(cs.drop i).length:=List.Sublist.length_le (List.takeWhile_sublist _)
    have:=g.len
    rw[List.length_drop] at h1;omega
  have HV:=Lib.hid VG
  have HG:=Lib.hid g
  have HL:=Lib.hid hl
  have HSL:=Lib.hid hsl
  have HMV:=Lib.hid (fun c (hc:c∈scanTo cs i (txt key 1))=>hmv c (hsub c hc))
  clear VG g hl hmv hrk hkn hk1 hk3 hi hsub hsl
  go_enter Tryz.func36,Tryz.ntmps36
  go_upto_region 9 with (first
    | (go_at_call 67;(with_reducible refine RD.mono ?_);rintro e w1 ⟨rfl,b1⟩;have V1:=HV.out w1 b1)
    | (go_at_call 68;(with_reducible refine(KM _).mono ?_);rintro e w1' ⟨rfl,rfl⟩)
    | (go_at_call 100;(with_reducible refine V1.mono ?_);rintro e w2 ⟨⟨v,n,vs,rfl,hrow,hn,hvs⟩,hq,k2⟩))
  obtain⟨f,g2,p2,hf2⟩:=(HG.out.below b1).read hq k2
  have p02:=(Pv.below b1).trans p2
  obtain⟨A,c,rfl⟩:=row_vform hrow
  have hlen:vs.length≤60:=by rw[hvs.1];exact HSL.out
  have st2:=g2.st
  have SN:=seen_g (sc:=c) (L:=vs.length) (m:=D.tm) (T:=D.T) (t:=X.B.t) (p:=p) vf st2.sb rfl st2.tb (by have:=st2.tm;rw[← st2.tw] at this;exact this) HL.out hrow rfl hlen hvs HMV.out
  obtain⟨L,hL⟩:∃ L,vs.length=L:=⟨_,rfl⟩
  rw[hL] at SN ⊢
  have HP2:=Lib.hid p02
  have HG2:=Lib.hid g2
  have HB1:=Lib.hid b1
  clear hL hlen hrow hn st2 hvs hq k2 g2 p2 p02 hf2
  go_wp2_with (go_at_call 81;(with_reducible refine SN.mono ?_);rintro e w3 ⟨⟨V,rfl,hV⟩,b3⟩)
  go_ret3
  exact⟨V,f,rfl,HG2.out.below b3,HP2.out.trans (Pv.below b3),fun v hv=>by
    obtain⟨A,c,e,r⟩:=hV v hv
    exact⟨A,c,e,r.srd' HG.out (HP2.out.trans (Pv.below b3)).mv HB1.out.size⟩⟩
end
noncomputable def ncA:NC:=ncOf (vkey [97] 1) [1,120]
theorem putTo_nil{nc:NC}{cs':List NC}(h:PutTo [] nc cs'):cs'=[nc]:=by
  rcases h with⟨i,h1,-,rfl⟩|⟨i,h1,-⟩
  · have:i=0:=by have:=h1.1;simpa using this
    subst this;rfl
  · have:=h1.1;simp at this
theorem csA(S:List (List UInt8))(nx:Nat)(hS:vkey [97] 1∈S)(hl:S.length≤38)(hn:1<nx):PutTo [] ncA [ncA]∧CsI S nx [ncA]:=by
  obtain⟨cs',hj,hc,-⟩:=put_ex (CsI.nil S nx) (key:=[97]) (v:=[1,120]) (n:=1) (by decide) (by decide) (Nat.le_refl _) hn (by decide) (by decide) (.inr ⟨_,rfl⟩) (by decide) hS hl
  obtain rfl:=putTo_nil hj
  exact⟨hj,hc⟩
theorem nOfA:nOf ncA=1:=nOf_eq (nc_key _ _) (by decide)
theorem scanA{S:List (List UInt8)}{nx i:Nat}(hc:CsI S nx [ncA])(hi:BelowIs [ncA] (txt [97] 0) i):scanTo [ncA] i (txt [97] 1)=[ncA]:=by
  have hm:=scan_has (n:=1) (key:=[97]) hc.ok.rise hi (List.mem_singleton.2 rfl) (nc_key _ _)
  have hs:(scanTo [ncA] i (txt [97] 1)).Sublist [ncA]:=(List.takeWhile_sublist _).trans (List.drop_sublist _ _)
  match hq:scanTo [ncA] i (txt [97] 1) with
  | []=>rw[hq] at hm;simp at hm
  | a :: l =>
    rw[hq] at hs
    have h1:=hs.length_le
    simp at h1
    subst h1
    have:=hs.subset (List.mem_singleton.2 rfl)
    simp at this
    rw[this]
structure AS(X:ST)(w0 w:World)(D:SD)(k:Nat)(cs:List NC)(U:Int→Option Us)(nx la jl:Nat)(tm:List (Int×Value))(ov:List Int):Prop where
  of ::
  hx:Hi X
  g:GS X D w k cs U
  nx:D.T.next=nx
  la:D.T.last=la
  tm:D.tm=tm
  ov:D.ov=ov
  jl:D.J.last=jl
  up:Below w0.heap.size w0 w
  n0:X.n0=w0.heap.size
section
variable {X:ST}{w0 w w':World}{D D':SD}{k:Nat}{cs:List NC}{U:Int→Option Us}{nx la jl:Nat}{tm:List (Int×Value)}{ov:List Int}
theorem AS.below(h:AS X w0 w D k cs U nx la jl tm ov)(b:Below w.heap.size w w'):AS X w0 w' D k cs U nx la jl tm ov:=⟨h.hx,h.g.below b,h.nx,h.la,h.tm,h.ov,h.jl,h.up.trans (b.mono h.up.size),h.n0⟩
theorem AS.byte(h:AS X w0 w D k cs U nx la jl tm ov)(b:Below w.heap.size w w'){N:Nat}{x:UInt8}{z:Nat×Nat}(hN:w.heap.size≤N)(hc:w'.heap[N]? = some (.cells #[u8V x] 5 z)):SRd X D w' (some ⟨N,0,none⟩) [x]:=fun _=>
  ⟨N,0,rfl,hlt hc,fu_new h.g.st h.g.us (Mv.below b) hN (.inl rfl) hc (by decide) (by decide),fun j hj=>by
    have:j=0:=by simp at hj;exact hj
    subst this
    rw[cellD hc];rfl⟩
theorem AS.mv(h:AS X w0 w D k cs U nx la jl tm ov)(m:Mv X D D' w w'):Below w0.heap.size w0 w':=h.up.trans (by have:=h.g.up h.hx m;rw[h.n0] at this;exact this)
theorem AS.begin{n:Int}(h:AS X w0 w D k cs U nx la jl tm ov)(hn:(nx:Int)=n)(h1:ov.length≤15)(h2:nx≤900000) :
    Calls Tryz.prog 14 #[.pointer (some ⟨X.s,0,none⟩)] w fun e w'=>e=.returned (.tuple #[.int .i64 n,.int .i64 0])∧∃ D',AS X w0 w' D' k cs U (nx+1) la jl (mset tm n (mk 2 la)) (ov++[n])∧Mv X D D' w w':=by
  subst hn
  refine(begin_s h.g (by rw[h.ov];exact h1) (by rw[h.nx];exact h2)).mono ?_
  rintro e w' ⟨rfl,D',g',mv,e1,e2,e3,e4,e5⟩
  exact⟨by rw[h.nx],D',⟨h.hx,g',by rw[e1,h.nx],by rw[e2,h.la],by rw[e3,h.tm,h.nx,h.la],by rw[e4,h.ov,h.nx],by rw[e5,h.jl],h.mv mv,h.n0⟩,mv⟩
theorem AS.get{kA:Option Addr}{kc tx p q:Nat}{b t:Int}{vb:Bool}{S:List (List UInt8)}(h:AS X w0 w D k [ncA] U nx la jl tm ov)(hc:CsI S nx [ncA])(hl:tm.lookup (tx:Int)=some (mk 2 p))(hb:b=2∨b=3∨b=5)(hq:tm.lookup 1=some (mk b q))(ht:(tx:Int)=t)(hvb:(decide (1=tx) || visB b q p)=vb)(hr:SRd X D w kA [97]) :
    Calls Tryz.prog 36 #[.pointer (some ⟨X.s,0,none⟩),.int .i64 t,.slice kA 1 kc] w fun e w'=>∃ V D',e=.returned (.tuple #[V,.bool vb,.int .i64 0])∧AS X w0 w' D' k [ncA] U nx la jl tm ov∧Mv X D D' w w' ∧
      (vb=true→∃ A c,V=.slice A 1 c∧SRd X D' w' A [120]):=by
  obtain⟨i,hi⟩:=below_ex (txt [97] 0) [ncA]
  have hs:=scanA hc hi
  subst ht
  have so:seenOf (fun _=>vb) (scanTo [ncA] i (txt [97] 1))=if vb then some [120] else none:=by
    rw[hs]
    unfold seenOf
    cases vb with
    | true=>simp[List.find?,ncA,nc_val,valOf]
    | false=>simp[List.find?]
  refine(get_g (kc:=kc) (kn:=1) (i:=i) (vf:=fun _=>vb) h.g (by rw[h.tm];exact hl) (fun c hc=>?_) hr rfl (by decide) (by decide) hi).mono ?_
  · obtain rfl:=List.mem_singleton.1 hc
    refine⟨b,q,hb,by rw[h.tm,nOfA];exact hq,?_⟩
    have hd:decide (((1:Nat):Int)=(tx:Int))=decide (1=tx):=decide_eq_decide.2 ⟨fun h=>by omega,fun h=>by omega⟩
    rw[nOfA,hd,hvb]
  · rintro e w' ⟨V,f,rfl,g',pv,hV⟩
    rw[so] at hV
    rw[so]
    refine⟨V,D.hold f,by cases vb<;>rfl,⟨h.hx,g',h.nx,h.la,h.tm,h.ov,h.jl,h.mv pv.mv,h.n0⟩,pv.mv,fun e=>?_⟩
    subst e
    exact hV [120] rfl
theorem AS.put{kA vA:Option Addr}{kc vc p:Nat}{S:List (List UInt8)}(h:AS X w0 w D k [] (fun _=>none) nx la jl tm ov)(hk:k≤3700)(hS:vkey [97] 1∈S)(hSl:S.length≤38)(hn:1<nx)(hl:tm.lookup 1=some (mk 2 p))(hr:SRd X D w kA [97])(hv:SRd X D w vA [120])(hnx:nx≤1000000) :
    Calls Tryz.prog 15 #[.pointer (some ⟨X.s,0,none⟩),.int .i64 1,.slice kA 1 kc,.slice vA 1 vc] w fun e w'=>e=.returned (.int .i64 0)∧∃ D',AS X w0 w' D' (k+2) [ncA] (pushU (fun _=>none) 1 (vkey [97] 1,[])) nx la (jl+1) tm ov∧Mv X D D' w w':=by
  obtain⟨hj,hc⟩:=csA S nx hS hSl hn
  have hs:scanTo [] 0 (txt [97] 1)=[]:=rfl
  refine(put_g (kc:=kc) (vc:=vc) (kn:=1) (vn:=1) (i:=0) (tx:=1) (cf:=fun _=>0) (key:=[97]) (val:=[120]) h.g hk (by rw[h.tm];exact hl) (fun c hc=>by simp at hc) hr rfl (by decide) (by decide) hv rfl (by decide) ⟨Nat.le_refl _,fun i h=>by simp at h,fun h=>by simp at h⟩ hj hc.ok (fun c hc'=>(hc.v c hc').1) (hc.isv hnx) (by decide) (by decide) (by simp)).mono ?_
  rw[hs]
  rintro e w' ⟨rfl,D',lf,-,g',-,e5⟩
  have g':=g' rfl
  have e5:=e5 rfl (pgL_ne (by decide) (by decide) (by decide))
  exact⟨rfl,D',⟨h.hx,g',by rw[lf.T,h.nx],by rw[lf.T,h.la],by rw[lf.tm,h.tm],by rw[lf.ov,h.ov],by rw[e5,h.jl],h.mv lf.mv,h.n0⟩,lf.mv⟩
theorem AS.not{kA vA:Option Addr}{kc vc p q:Nat}{b er:Int}{y:UInt8}{S:List (List UInt8)}(h:AS X w0 w D k [ncA] U nx la jl tm ov)(hk:k≤3700)(hc:CsI S nx [ncA])(hS:vkey [97] 2∈S)(hSl:S.length≤38)(hn:2<nx)(hl:tm.lookup 2=some (mk 2 p))(hb:b=2∨b=3∨b=5)(hq:tm.lookup 1=some (mk b q))(he:confN false b q p=er)(he2:er=7∨er=8)
    (hr:SRd X D w kA [97]) (hv:SRd X D w vA [y]) (hnx:nx≤1000000) (hU:U 2=none) :
    Calls Tryz.prog 15 #[.pointer (some ⟨X.s,0,none⟩),.int .i64 2,.slice kA 1 kc,.slice vA 1 vc] w fun e w'=>e=.returned (.int .i64 er)∧∃ D',AS X w0 w' D' (k+2) [ncA] U nx la jl tm ov∧Mv X D D' w w':=by
  obtain⟨i,hi⟩:=below_ex (txt [97] 0) [ncA]
  have hs:=scanA hc hi
  obtain⟨cs',hj,hc',-⟩:=put_ex hc (key:=[97]) (v:=[1,y]) (n:=2) (by decide) (by decide) (by decide) hn (by simp) (by simp) (.inr ⟨_,rfl⟩) (by decide) hS hSl
  refine(put_g (kc:=kc) (vc:=vc) (kn:=1) (vn:=1) (i:=i) (tx:=2) (cf:=fun _=>er) (key:=[97]) (val:=[y]) h.g hk (by rw[h.tm];exact hl) (fun c hc=>?_) hr rfl (by decide) (by decide) hv rfl (by simp) hi hj hc'.ok (fun c hc=>(hc'.v c hc).1) (hc'.isv hnx) (by have:=hc'.len;omega) (by decide) (by rw[show((2:Nat):Int)=2 from rfl,hU];decide)).mono ?_
  · obtain rfl:=List.mem_singleton.1 hc
    refine⟨b,q,hb,by rw[h.tm,nOfA];exact hq,?_⟩
    rw[nOfA]
    exact he.symm
  · rw[hs]
    have hcl:claimN (fun _=>er) ([ncA].map nOf)=er:=by
      rcases he2 with rfl|rfl<;>rfl
    rw[hcl]
    rintro e w' ⟨rfl,D',lf,g',-,e5,-⟩
    have hz:er≠0:=by rcases he2 with rfl | rfl<;>decide
    exact⟨rfl,D',⟨h.hx,g' hz,by rw[lf.T,h.nx],by rw[lf.T,h.la],by rw[lf.tm,h.tm],by rw[lf.ov,h.ov],by rw[e5 hz,h.jl],h.mv lf.mv,h.n0⟩,lf.mv⟩
theorem AS.commit{p:Nat}{n:Int}{us:Us}{lb:List Int}(h:AS X w0 w D k cs U nx la jl tm ov)(hk:k≤3600)(hl:tm.lookup 1=some (mk 2 p))(ho:ov=1::lb)(hnb:∀ x∈lb,x≠1)(hla:la≤900000)(hU:U 1=some us)(hjn:((jl+1:Nat):Int)=n) :
    Calls Tryz.prog 18 #[.pointer (some ⟨X.s,0,none⟩),.int .i64 1] w fun e w'=>e=.returned (.tuple #[.int .i64 n,.int .i64 0])∧∃ D',(∃ jl',AS X w0 w' D' (k+2) cs (delU U 1) nx (la+1) jl' (mset tm 1 (mk 3 (la+1))) lb)∧Mv X D D' w w':=by
  refine(commit_s (tx:=1) (la:=[]) (lb:=lb) h.g hk (by rw[h.tm];exact hl) (by rw[h.ov,ho];rfl) (fun x h=>by simp at h) hnb (by rw[h.la];exact hla) (by decide)).mono ?_
  rintro e w' ⟨⟨n',rfl,hn⟩,D',g',mv,e1,e2,e3,e4⟩
  have hn:=hn us hU
  exact⟨by rw[hn,h.jl,hjn],D',⟨_,h.hx,g',by rw[e1,h.nx],by rw[e2,h.la],by rw[e3,h.tm,h.la];rfl,e4,rfl,h.mv mv,h.n0⟩,mv⟩
end
theorem AS.cast{X:ST}{w0 w:World}{D:SD}{k nx la jl nx' la' jl':Nat}{cs:List NC}{U U':Int→Option Us}{tm tm':List (Int×Value)}{ov ov':List Int}(h:AS X w0 w D k cs U nx la jl tm ov)(h1:nx=nx')(h2:la=la')(h3:jl=jl')(h4:tm=tm')(h5:ov=ov')(h6:U=U'):AS X w0 w D k cs U' nx' la' jl' tm' ov':=by
  subst h1 h2 h3 h4 h5 h6;exact h
noncomputable def uA:Int→Option Us:=pushU (fun _=>none) 1 (vkey [97] 1,[])
noncomputable def sA:List (List UInt8):=[vkey [97] 1,vkey [97] 2]
theorem ciA(nx:Nat)(h:1<nx):CsI sA nx [ncA]:=(csA sA nx (by simp[sA]) (by simp[sA]) h).2
theorem awake_w(w:World):Calls Tryz.prog 22 #[] w fun e w'=>e=.returned (.bool true)∧Below w.heap.size w w':=by
  have RY:=lready_any w (nf:=4) (by decide) (by decide)
  rw[show((4:Nat):Int)=4 from rfl] at RY
  have kc:=fun(w:World) (C:Array Value) (n c:Nat)=>Lib.run_convert_bytes_const (P:=Tryz.prog) w 33 5 C n c Tryz.underlying33 Tryz.underlying5
  go_enter Tryz.func22,Tryz.ntmps22
  go_upto_region 4 with (go_at_call 11;(with_reducible refine RY.mono ?_);rintro e w1 ⟨⟨X,P,st,rfl,st1,hXn,hx,hfi,hws,hpl,hpg,st0,hp0⟩,b1⟩)
  have a1:AS X w w1 (Dini X.s X.who 4 P) 2 [] (fun _=>none) 1 0 0 [] []:=⟨hx,gs_start st1 hfi hws hpl hpg hp0,rfl,rfl,rfl,rfl,rfl,b1,hXn⟩
  have B1:=a1.begin (n:=1) rfl (by decide) (by decide)
  clear RY a1 st1 hXn hx hfi hws hpl hpg hp0 b1
  go_upto_region 5 with (go_at_call 14;(with_reducible refine B1.mono ?_);rintro e w2 ⟨rfl,D2,a2,-⟩)
  have a2:=a2.cast (nx':=2) (la':=0) (jl':=0) (tm':=[(1,mk 2 0)]) (ov':=[1]) rfl rfl rfl rfl rfl rfl
  have B2:=a2.begin (n:=2) rfl (by decide) (by decide)
  clear B1 a2
  go_upto_region 6 with (go_at_call 14;(with_reducible refine B2.mono ?_);rintro e w3 ⟨rfl,D3,a3,-⟩)
  have a3:=a3.cast (nx':=3) (la':=0) (jl':=0) (tm':=[(1,mk 2 0),(2,mk 2 0)]) (ov':=[1,2]) rfl rfl rfl rfl rfl rfl
  obtain⟨W4,hW4,g4,b4,s4⟩:=box_alloc w3 (.cells #[.int .u8 97] 5 (1,2))
  obtain⟨W5,hW5,g5,b5,s5⟩:=box_alloc W4 (.cells #[.int .u8 120] 5 (1,2))
  have b35:=b4.trans (b5.mono b4.size)
  have P3:=(a3.below b35).put (kc:=1) (vc:=1) (p:=0) (S:=sA) (by decide) (by simp[sA]) (by simp[sA]) (by decide) rfl (a3.byte (x:=97) b35 (Nat.le_refl _) (keepB b5 g4)) (a3.byte (x:=120) b35 b4.size g5) (by decide)
  clear B2 a3 g4 b4 s4 g5 b5 s5 b35
  go_upto_region 7 with (go_at_call 15;(with_reducible refine P3.mono ?_);rintro e w6 ⟨rfl,D4,a4,-⟩)
  have a4:=a4.cast (nx':=3) (la':=0) (jl':=1) (tm':=[(1,mk 2 0),(2,mk 2 0)]) (ov':=[1,2]) (U':=uA) rfl rfl rfl rfl rfl rfl
  obtain⟨W7,hW7,g7,b7,s7⟩:=box_alloc w6 (.cells #[.int .u8 97] 5 (1,2))
  have G4:=(a4.below b7).get (kc:=1) (tx:=1) (t:=1) (vb:=true) (p:=0) (q:=0) (b:=2) (ciA 3 (by decide)) rfl (.inl rfl) rfl rfl rfl (a4.byte (x:=97) b7 (Nat.le_refl _) g7)
  clear P3 a4 hW4 hW5 g7 b7 s7
  go_upto_region 8 with (go_at_call 36;(with_reducible refine G4.mono ?_);rintro e w8 ⟨V,D5,rfl,a5,-,hV⟩;obtain⟨Av,cv,rfl,sv⟩:=hV rfl)
  obtain⟨W9,hW9,g9,b9,s9⟩:=box_alloc w8 (.cells #[.int .u8 97] 5 (1,2))
  have G5:=(a5.below b9).get (kc:=1) (tx:=2) (t:=2) (vb:=false) (p:=0) (q:=0) (b:=2) (ciA 3 (by decide)) rfl (.inl rfl) rfl rfl rfl (a5.byte (x:=97) b9 (Nat.le_refl _) g9)
  have sv:=sv.mv (Mv.below (X:=X) (D:=D5) b9)
  clear G4 a5 hV hW7 g9 b9 s9
  go_upto_region 9 with (go_at_call 36;(with_reducible refine G5.mono ?_);rintro e w10 ⟨V2,D6,rfl,a6,m6,-⟩)
  have sv:=sv.mv m6
  obtain⟨W11,hW11,g11,b11,s11⟩:=box_alloc w10 (.cells #[.int .u8 97] 5 (1,2))
  obtain⟨W12,hW12,g12,b12,s12⟩:=box_alloc W11 (.cells #[.int .u8 121] 5 (1,2))
  have bb:=b11.trans (b12.mono b11.size)
  have P6:=(a6.below bb).not (kc:=1) (vc:=1) (p:=0) (q:=0) (b:=2) (er:=7) (y:=121) (S:=sA) (by decide) (ciA 3 (by decide)) (by simp[sA]) (by simp[sA]) (by decide) rfl (.inl rfl) rfl rfl (.inl rfl) (a6.byte (x:=97) bb (Nat.le_refl _) (keepB b12 g11)) (a6.byte (x:=121) bb b11.size g12) (by decide) rfl
  have sv:=sv.mv (Mv.below (X:=X) (D:=D6) bb)
  clear G5 a6 m6 hW9 g11 g12 b11 b12 s11 s12 bb
  go_upto_region 10 with (go_at_call 15;(with_reducible refine P6.mono ?_);rintro e w13 ⟨rfl,D7,a7,m7⟩)
  have sv:=sv.mv m7
  have C7:=a7.commit (p:=0) (n:=2) (us:=[(vkey [97] 1,[])]) (lb:=[2]) (by decide) rfl rfl (by simp) (by decide) rfl rfl
  clear P6 a7 m7 hW11 hW12
  go_upto_region 11 with (go_at_call 18;(with_reducible refine C7.mono ?_);rintro e w14 ⟨rfl,D8,⟨jl8,a8⟩,m8⟩)
  have sv:=sv.mv m8
  have a8:=a8.cast (nx':=3) (la':=1) (jl':=jl8) (tm':=[(1,mk 3 1),(2,mk 2 0)]) (ov':=[2]) (U':=delU uA 1) rfl rfl rfl rfl rfl rfl
  obtain⟨W15,hW15,g15,b15,s15⟩:=box_alloc w14 (.cells #[.int .u8 97] 5 (1,2))
  obtain⟨W16,hW16,g16,b16,s16⟩:=box_alloc W15 (.cells #[.int .u8 121] 5 (1,2))
  have bb:=b15.trans (b16.mono b15.size)
  have P8:=(a8.below bb).not (kc:=1) (vc:=1) (p:=0) (q:=1) (b:=3) (er:=8) (y:=121) (S:=sA) (by decide) (ciA 3 (by decide)) (by simp[sA]) (by simp[sA]) (by decide) rfl (.inr (.inl rfl)) rfl rfl (.inr rfl) (a8.byte (x:=97) bb (Nat.le_refl _) (keepB b16 g15)) (a8.byte (x:=121) bb b15.size g16) (by decide) rfl
  have sv:=sv.mv (Mv.below (X:=X) (D:=D8) bb)
  clear C7 a8 m8 g15 g16 b15 b16 s15 s16 bb
  go_upto_region 12 with (go_at_call 15;(with_reducible refine P8.mono ?_);rintro e w17 ⟨rfl,D9,a9,m9⟩)
  have sv:=sv.mv m9
  have B9:=a9.begin (n:=3) rfl (by decide) (by decide)
  clear P8 a9 m9 hW15 hW16
  go_upto_region 13 with (go_at_call 14;(with_reducible refine B9.mono ?_);rintro e w18 ⟨rfl,D10,a10,m10⟩)
  have sv:=sv.mv m10
  have a10:=a10.cast (nx':=4) (la':=1) (jl':=jl8) (tm':=[(1,mk 3 1),(2,mk 2 0),(3,mk 2 1)]) (ov':=[2,3]) (U':=delU uA 1) rfl rfl rfl rfl rfl rfl
  obtain⟨W19,hW19,g19,b19,s19⟩:=box_alloc w18 (.cells #[.int .u8 97] 5 (1,2))
  have G10:=(a10.below b19).get (kc:=1) (tx:=3) (t:=3) (vb:=true) (p:=1) (q:=1) (b:=3) (ciA 4 (by decide)) rfl (.inr (.inl rfl)) rfl rfl rfl (a10.byte (x:=97) b19 (Nat.le_refl _) g19)
  have sv:=sv.mv (Mv.below (X:=X) (D:=D10) b19)
  clear B9 a10 m10 g19 b19 s19
  go_upto_region 14 with (go_at_call 36;(with_reducible refine G10.mono ?_);rintro e w20 ⟨V3,D11,rfl,a11,m11,hV⟩;obtain⟨Aw,cw,rfl,sw⟩:=hV rfl)
  have sv:=sv.mv m11
  have u1:=conv33 (c:=cv) (n:=1) sv.rd rfl
  have u2:=conv33 (c:=cw) (n:=1) sw.rd rfl
  have up:=a11.up
  clear a11 sv sw m11 hV G10 hW19
  go_wp2
  go_ret
  exact⟨rfl,up⟩
end Go.Proofs.YtdbkocfbhpgpkaaGreat
