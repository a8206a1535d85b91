/-
  StoreBack: the walk.
-/
import Derived.Test.YtdbkocfbhpgpkaaGreatb47
set_option linter.unusedVariables false
set_option linter.unusedSimpArgs false
namespace Go.Proofs.YtdbkocfbhpgpkaaGreat
open Go Go.RowKit Go.Shelf
open Go.Ev (PgM PageOk CellsOut rowsOf rowsV rowV rowsOf_len BelowIs)
set_option maxRecDepth 100000
set_option maxHeartbeats 4000000
theorem pick8_any(x:Int)(hx:-9223372036854775808≤x∧x≤9223372036854775807)(w:World) :
    Calls Tryz.prog 13 #[.int .i64 x,.int .i64 8] w fun e w'=>(∃ n:Nat,n<8∧e=.returned (.int .i64 (n:Int)))∧w'=w:=by
  have h1:=Int.tmod_lt_of_pos x (show(0:Int)<8 by decide)
  have h2:-8<x.tmod 8:=by
    have:=Int.tmod_lt_of_pos (-x) (show(0:Int)<8 by decide)
    rw[Int.neg_tmod] at this
    omega
  obtain⟨r,hr⟩:∃ r,x.tmod 8=r:=⟨_,rfl⟩
  rw[hr] at h1 h2
  by_cases h0:r<0
  · have f1:wrap64 (r+8)=r+8:=IntWalk.wrap64_in _ (by omega)
    go_enter Tryz.func13,Tryz.ntmps13
    go_wp2
    go_ret
    exact⟨⟨(r+8).toNat,by omega,by rw[Int.toNat_of_nonneg (by omega)];rfl⟩,rfl⟩
  · go_enter Tryz.func13,Tryz.ntmps13
    go_wp2
    go_ret
    exact⟨⟨r.toNat,by omega,by rw[Int.toNat_of_nonneg (by omega)];rfl⟩,rfl⟩
section
variable {X:ST}{w:World}
theorem gs_start{P:PD}{nf st st0:Nat}(h:StW X (Dini X.s X.who nf P) w)(h1:P.Fine)(h2:P.ws=[])(h3:P.bs.length=142)(h4:P.bs[63]? = some (sealed (pgL 1 0 []) st))(h5:P.bs[62]? = some (sealed (padP taken) st0)):GS X (Dini X.s X.who nf P) w 2 [] (fun _=>none) where
  st:=h
  iv:=⟨.inr ⟨rfl,rfl,st,h4⟩,pg_len pageOk_nil,h1,h2,h3,rfl,rfl,(by decide:(0:Nat)<60),(by decide:(1:Nat)≤1),(by decide:(1:Nat)≤1+200 * 2),(by decide:need 0+0≤60),fun _=>rfl,(by decide:(0:Nat)≤2 * 2),rfl,(fun f e=>nomatch e),rfl,(by decide:(2:Nat)≤2),(by decide:(0:Nat)≤2),rfl,rfl,(by decide:(1:Nat)≤1+2),⟨st0,h5⟩,rfl⟩
  tok:=⟨(by decide:(1:Nat)≤1),(by decide:(1:Nat)≤1000000),(by decide:(0:Nat)≤16),rfl⟩
  us:=⟨(fun n v e=>nomatch e),fun n e=>rfl,(fun n m v u g e=>nomatch e),List.nodup_nil⟩
  ok:=pageOk_nil
  v1:=fun c h=>by simp at h
  isv:=fun c h=>by simp at h
  len:=by decide
  hd:=fun q=>by
    rcases q with q|⟨n,us,e⟩
    · exact absurd rfl q
    · cases e
theorem pi_start(X:ST)(nf:Nat)(P:PD):PI (Dini X.s X.who nf P) [] (fun _=>none) [] 0:=
  ⟨CsI.nil _ _,(by decide:(1:Nat)≤900000),fun n a b=>by have b:n<1:=b;omega,fun x h=>by simp[Dini] at h,fun n us e=>nomatch e⟩
theorem pj_start{P:PD}{nf st st0:Nat}(h:StW X (Dini X.s X.who nf P) w)(h1:P.Fine)(h2:P.ws=[])(h3:P.bs.length=142)(h4:P.bs[63]? = some (sealed (pgL 1 0 []) st))(h5:P.bs[62]? = some (sealed (padP taken) st0)):PJ X w (Dini X.s X.who nf P) (Dini X.s X.who nf P) [] (fun _=>none) [] 0 2 w:=
  ⟨gs_start h h1 h2 h3 h4 h5,pi_start X nf P,by decide,fun _=>rfl,⟨by decide,(by decide:(1:Nat)≤1+0),(by decide:(0:Nat)≤0),(by decide:(0:Nat)≤4)⟩,Mv.refl _ _ _⟩
end
structure Same(D D':SD):Prop where
  l:D'.T.last=D.T.last
  n:D.T.next≤D'.T.next
  t:∀ n:Nat,n<D.T.next→D'.tm.lookup (n:Int)=D.tm.lookup (n:Int)
section
variable {X:ST}{D D' D'':SD}{w w':World}{k:Nat}{cs cs':List NC}{U U':Int→Option Us}{S:List (List UInt8)}{M M':Nat}
theorem Same.trans(h:Same D D')(g:Same D' D''):Same D D'':=⟨g.l.trans h.l,Nat.le_trans h.n g.n,fun n hn=>(g.t n (Nat.lt_of_lt_of_le hn h.n)).trans (h.t n hn)⟩
theorem Lf.same(h:Lf X D D' w w'):Same D D':=⟨by rw[h.T],by rw[h.T];exact Nat.le_refl _,fun n _=>by rw[h.tm]⟩
theorem same_mset{x:Nat}{v:Value}(hl:D'.T.last=D.T.last)(hn:D.T.next≤D'.T.next)(ht:D'.tm=mset D.tm (x:Int) v)(hx:D.T.next≤x):Same D D':=⟨hl,hn,fun n h=>by rw[ht,lookup_mset,if_neg (by omega)]⟩
theorem same_two{v u:Value}(hl:D'.T.last=D.T.last)(hn:D.T.next≤D'.T.next)(ht:D'.tm=mset (mset D.tm (D.T.next:Int) v) (D.T.next:Int) u):Same D D':=⟨hl,hn,fun n h=>by rw[ht,lookup_mset,if_neg (by omega),lookup_mset,if_neg (by omega)]⟩
theorem Same.end_{x:Nat}{v:Value}(h:Same D D')(hl:D''.T.last=D'.T.last)(hn:D''.T.next=D'.T.next)(ht:D''.tm=mset D'.tm (x:Int) v)(hx:D.T.next≤x):Same D D'':=⟨hl.trans h.l,by rw[hn];exact h.n,fun n q=>by rw[ht,lookup_mset,if_neg (by omega)];exact h.t n q⟩
theorem scan_cong{vf vf':Nat→Bool}{most:Nat}:∀ {ps:List NC} (s:Told),(∀ c∈ps,vf (nOf c)=vf' (nOf c))→ps.foldl (scanStep vf most) s=ps.foldl (scanStep vf' most) s
  | [],s,_=>rfl
  | c :: ps, s, h => by
    have e:scanStep vf most s c=scanStep vf' most s c:=by unfold scanStep;rw[h c (by simp)]
    rw[List.foldl_cons,List.foldl_cons,e]
    exact scan_cong _ fun c hc=>h c (by simp[hc])
theorem sees_cong{tm tm':List (Int×Value)}{x x':Nat}(hp:tm.lookup (x:Int)=tm'.lookup (x':Int))(h:∀ c∈cs,tm.lookup (nOf c:Int)=tm'.lookup (nOf c:Int)∧(nOf c=x↔nOf c=x')):seesL tm cs (x:Int)=seesL tm' cs (x':Int):=by
  unfold seesL tells
  rw[hp,Int.toNat_natCast,Int.toNat_natCast]
  refine congrArg (·.2) (scan_cong _ fun c hc=>?_)
  obtain⟨e1,e2⟩:=h c hc
  unfold vfOf
  rw[e1]
  congr 1
  by_cases q:nOf c=x
  · rw[decide_eq_true (by omega),decide_eq_true (by have:=e2.1 q;omega)]
  · rw[decide_eq_false (by omega),decide_eq_false (fun r=>q (e2.2 (by omega)))]
theorem view_eq(h:PI D cs U S M)(ho:D'.ov=D.ov)(s:Same D D'):viewL D' cs=viewL D cs:=by
  unfold viewL
  rw[ho,List.map_append,List.map_append]
  have num:∀ c∈cs,nOf c<D.T.next:=fun c hc=>by
    obtain⟨key,n,e,en,h1,h2⟩:=h.num hc
    omega
  have sn:=s.n
  congr 1
  · refine List.map_congr_left fun x hx=>?_
    obtain⟨tx,p,rfl,h1,h2,h3⟩:=h.o x hx
    refine sees_cong ?_ fun c hc=>⟨?_,Iff.rfl⟩
    · rw[lookup_mset,lookup_mset,if_neg (by omega),if_neg (by omega)]
      exact s.t tx h2
    · have:=num c hc
      rw[lookup_mset,lookup_mset,if_neg (by omega),if_neg (by omega)]
      exact s.t _ this
  · simp only[List.map_cons,List.map_nil]
    congr 1
    refine sees_cong ?_ fun c hc=>⟨?_,?_⟩
    · rw[lookup_mset,lookup_mset,if_pos rfl,if_pos rfl,s.l]
    · have:=num c hc
      rw[lookup_mset,lookup_mset,if_neg (by omega),if_neg (by omega)]
      exact s.t _ this
    · have:=num c hc
      constructor<;>intro q<;>omega
theorem sees_len(tm:List (Int×Value))(x:Int):(seesL tm cs x).length≤cs.length:=by
  have:=tells_len (vf:=vfOf tm x.toNat (pOf ((tm.lookup x).getD (.slice none 0 0)))) (most:=99) (ps:=cs) cs.length (Nat.le_refl _)
  rw[List.take_length] at this
  exact this
theorem view_len(h:PI D cs U S M)(hS:S.length≤38):∀ ps∈viewL D cs,ps.length≤100000:=fun ps hps=>by
  unfold viewL at hps
  obtain⟨x,-,rfl⟩:=List.mem_map.1 hps
  have:=sees_len (cs:=cs) (mset D.tm (D.T.next:Int) (mk 2 D.T.last)) x
  have:=h.c.len
  omega
theorem view_num(h:D.ov.length≤16):(viewL D cs).length≤100000:=by
  unfold viewL
  simp;omega
theorem PI.back{tx:Nat}{us0:Us}(h:PI D cs U S M)(hs:Same D D')(hn:D'.T.next=D.T.next)(ho:D'.ov=D.ov)(hU:∀ n,n≠(tx:Int)→U' n=U n)(hu:(U (tx:Int)).getD []=us0)(hU':∀ us,U' (tx:Int)=some us→us=us0)(h1:1≤tx)(h2:tx<D.T.next):PI D' cs U' S M:=by
  refine⟨by rw[hn];exact h.c,by rw[hn];exact h.nx,fun n a b=>?_,fun x hx=>?_,fun n us e=>?_⟩
  · rw[hs.t n (by omega)];exact h.m n a (by omega)
  · rw[ho] at hx
    obtain⟨tx',p,e1,e2,e3,e4⟩:=h.o x hx
    refine⟨tx',p,e1,e2,by omega,?_⟩
    rw[e1,hs.t tx' e3,← e1];exact e4
  · rw[hn]
    by_cases q:n=(tx:Int)
    · subst q
      have:=hU' us e
      subst this
      refine⟨tx,rfl,h1,h2,?_,?_⟩
      · rw[← hu]
        cases eu:U (tx:Int) with
        | none=>exact UI.nil _ _
        | some us1 =>
          obtain⟨tx',e1,-,-,e4,-⟩:=h.u _ _ eu
          have:tx'=tx:=by omega
          subst this;exact e4
      · rw[← hu];exact h.list tx
    · rw[hU n q] at e;exact h.u n us e
theorem backU_other{tx:Nat}{us:Us}{n:Int}(h:n≠(tx:Int)):backU U tx us n=U n:=by
  unfold backU
  cases U (tx:Int) with
  | none=>rfl
  | some us1 =>
    show popU U tx us n=U n
    unfold popU;rw[if_neg h]
theorem backU_same{tx:Nat}{us us1:Us}(h:backU U tx us (tx:Int)=some us1)(hn:U (tx:Int)=none→us=[]):us1=us:=by
  unfold backU at h
  cases e:U (tx:Int) with
  | none =>
    rw[e] at h
    have h:U (tx:Int)=some us1:=h
    rw[e] at h;cases h
  | some u =>
    rw[e] at h
    have h:popU U tx us (tx:Int)=some us1:=h
    unfold popU at h
    rw[if_pos rfl] at h
    injection h with h;exact h.symm
def nine (tx:Nat):List (List UInt8):=(List.range 9).map fun r=>vkey [107,UInt8.ofNat r] tx
theorem nine_len(tx:Nat):(nine tx).length=9:=by simp[nine]
theorem nine_mem(tx r:Nat)(h:r<9):vkey [107,UInt8.ofNat r] tx∈nine tx:=List.mem_map.2 ⟨r,List.mem_range.2 h,rfl⟩
end
structure ME(X:ST)(k0 n0:Nat)(D:SD)(cs:List NC)(U:Int→Option Us)(S:List (List UInt8))(w:World):Prop where
  of ::
  g:∃ k,GS X D w k cs U∧k≤k0
  p:PI D cs U S k0
  s:S.length≤38
  nx:D.T.next≤n0
  ov:D.ov.length≤8
section
variable {X:ST}{D D' D0:SD}{w w' w0:World}{k0 n0:Nat}{cs cs':List NC}{U U':Int→Option Us}{S S':List (List UInt8)}
theorem ME.below(h:ME X k0 n0 D cs U S w)(b:Below w.heap.size w w'):ME X k0 n0 D cs U S w':=by
  obtain⟨k,g,hk⟩:=h.g
  exact⟨⟨k,g.below b,hk⟩,h.p,h.s,h.nx,h.ov⟩
theorem ME.sx(h:ME X k0 n0 D cs U S w)(b:Below w.heap.size w w'){N:Nat}{cu:Array Value}{t:TypeId}(hN:w.heap.size≤N)(hc:w'.heap[N]? = some (.cells cu t (0,0)))(h1:t≠364)(h2:t≠203):SX X D w' N (.cells cu t (0,0)):=by
  obtain⟨k,g,-⟩:=h.g
  exact sx_new g.st g.us (Mv.below b) (.inl rfl) hN hc h1 h2
theorem ME.views(hx:Hi X)(h:ME X k0 n0 D cs U S w)(hk:k0≤3200)(hn:n0≤1000):Calls Tryz.prog 24 #[.pointer (some ⟨X.s,0,none⟩)] w fun e w'=>∃ vv D',e=.returned (.tuple #[vv,.bool true])∧ME X (k0+2) (n0+1) D' cs U S w'∧Mv X D D' w w'∧VW X D' w' w.heap.size vv (viewL D cs)∧Same D D'∧D'.ov=D.ov:=by
  obtain⟨k,g,hkk⟩:=h.g
  have:=h.nx
  refine(views_g hx g h.p (by omega) (by have:=h.ov;omega) (by omega)).mono ?_
  rintro e w' ⟨vv,D',rfl,g',p',mv,v,e1,e2,e3,e4⟩
  exact⟨vv,D',rfl,⟨⟨_,g',by omega⟩,p'.more (fun _ h=>h) (by omega),h.s,by omega,by rw[e4];exact h.ov⟩,mv,v,same_two e2 (by omega) e3,e4⟩
theorem ME.begin(h:ME X k0 n0 D cs U S w)(hn:n0≤1000)(hov:D.ov.length≤7):Calls Tryz.prog 14 #[.pointer (some ⟨X.s,0,none⟩)] w fun e w'=>∃ (tx:Nat) (D':SD),e=.returned (.tuple #[.int .i64 (tx:Int),.int .i64 0])∧ME X k0 (n0+1) D' cs U S w'∧Mv X D D' w w'∧Same D D'∧tx=D.T.next∧1≤tx∧tx<D'.T.next∧D'.ov=D.ov++[(tx:Int)]∧D'.tm.lookup (tx:Int)=some (mk 2 D.T.last)∧U (tx:Int)=none:=by
  obtain⟨k,g,hkk⟩:=h.g
  have:=h.nx
  refine(begin_l g h.p (by omega) (by omega)).mono ?_
  rintro e w' ⟨rfl,D',g',p',mv,e1,e2,e3,e4⟩
  exact⟨_,D',rfl,⟨⟨_,g',hkk⟩,p',h.s,by omega,by rw[e4];simp;omega⟩,mv,same_mset e2 (by omega) e3 (Nat.le_refl _),rfl,g.tok.n1,by omega,e4,by rw[e3];exact mset_same _ _ _,h.p.fresh⟩
theorem ME.writes(hx:Hi X){A:Option Addr}{n c tx p b1 b2:Nat}{xs:List Int}(h:ME X k0 n0 D cs U S w)(hk:k0≤3200)(hK:∀ r,r<9→vkey [107,UInt8.ofNat r] tx∈S)(hl:D.tm.lookup (tx:Int)=some (mk 2 p))(htx:1≤tx)(htn:tx<D.T.next)
    (hb1:SX X D w b1 (.cells #[.pointer (some ⟨X.s,0,none⟩)] 24 (0,0))) (hb2:SX X D w b2 (.cells #[.int .i64 (tx:Int)] 3 (0,0))) (hr:RdI w X.n0 A xs) (hn:n=xs.length) (hn20:n≤20) (hxs:∀ x∈xs,-9223372036854775808≤x∧x≤9223372036854775807) :
    Calls Tryz.prog 25 #[.slice A n c,.pointer (some ⟨b1,0,none⟩),.pointer (some ⟨b2,0,none⟩)] w fun e w'=>e=.returned (.tuple #[])∧∃ D' cs' U',ME X (k0+40) n0 D' cs' U' S w'∧Lf X D D' w w'∧Chain tx ((U (tx:Int)).getD []) cs cs' U U' 20:=by
  obtain⟨k,g,hkk⟩:=h.g
  refine(some_g hx g h.p (by omega) (by omega) h.s hK hl htx htn hb1 hb2 hr hn hn20 hxs).mono ?_
  rintro e w' ⟨rfl,D',cs',U',k',j⟩
  have:=j.k
  obtain⟨us1,q1,q2,q3⟩:=j.c.ex
  exact⟨rfl,D',cs',U',⟨⟨k',j.g,by omega⟩,j.p.more (fun _ h=>h) (by omega),h.s,by rw[j.lf.T];exact h.nx,by rw[j.lf.ov];exact h.ov⟩,j.lf,⟨us1,q1,q2,by omega⟩,j.c.oth⟩
theorem ME.save{tx p:Nat}(h:ME X k0 n0 D cs U S w)(hl:D.tm.lookup (tx:Int)=some (mk 2 p)):Calls Tryz.prog 27 #[.pointer (some ⟨X.s,0,none⟩),.int .i64 (tx:Int)] w fun e w'=>e=.returned (.tuple #[.int .i64 (((U (tx:Int)).getD []).length:Int),.int .i64 0])∧ME X k0 n0 D cs U S w'∧Mv X D D w w':=by
  obtain⟨k,g,hkk⟩:=h.g
  refine(save_g g hl).mono ?_
  rintro e w' ⟨rfl,b⟩
  exact⟨rfl,h.below b,Mv.below b⟩
theorem ME.back{tx p:Nat}(h:ME X k0 n0 D cs' U' S w)(hk:k0≤3200)(hl:D.tm.lookup (tx:Int)=some (mk 2 p))(htx:1≤tx)(htn:tx<D.T.next)(hn:n0≤1000)(c:Chain tx ((U (tx:Int)).getD []) cs cs' U U' 20)(hp:PI D cs U S k0)(hul:((U (tx:Int)).getD []).length≤1000) :
    Calls Tryz.prog 28 #[.pointer (some ⟨X.s,0,none⟩),.int .i64 (tx:Int),.int .i64 (((U (tx:Int)).getD []).length:Int)] w fun e w'=>e=.returned (.int .i64 0)∧∃ D' U'',ME X (k0+40) n0 D' cs U'' S w'∧Lf X D D' w w'∧(U'' (tx:Int)).getD []=(U (tx:Int)).getD []:=by
  obtain⟨k,g,hkk⟩:=h.g
  obtain⟨us1,q1,q2,q3⟩:=c.ex
  have h9:=h.nx
  refine(back_g (us1:=us1) g hl q1 rfl q2 rfl (by omega) (by omega) (by omega) (by omega)).mono ?_
  rintro e w' ⟨rfl,D',lf,g'⟩
  have hu:(backU U' tx ((U (tx:Int)).getD []) (tx:Int)).getD []=(U (tx:Int)).getD []:=by
    cases eu:backU U' tx ((U (tx:Int)).getD []) (tx:Int) with
    | none =>
      cases e2:U' (tx:Int) with
      | none =>
        rw[e2] at q1
        have q1:[]=(U (tx:Int)).getD []++us1:=q1
        rw[(List.append_eq_nil_iff.1 q1.symm).1];rfl
      | some us =>
        unfold backU at eu
        rw[e2] at eu
        have eu:popU U' tx ((U (tx:Int)).getD []) (tx:Int)=none:=eu
        unfold popU at eu
        rw[if_pos rfl] at eu;cases eu
    | some us =>
      rw[backU_same eu fun e2=>by
        rw[e2] at q1
        have q1:[]=(U (tx:Int)).getD []++us1:=q1
        exact(List.append_eq_nil_iff.1 q1.symm).1];rfl
  refine⟨rfl,D',_,⟨⟨_,g',by omega⟩,?_,h.s,by rw[lf.T];exact h.nx,by rw[lf.ov];exact h.ov⟩,lf,hu⟩
  refine(hp.back (D':=D') (tx:=tx) lf.same (by rw[lf.T]) lf.ov (fun n hn=>(backU_other hn).trans (c.oth n hn)) rfl (fun us e=>?_) htx htn).more (fun _ h=>h) (by omega)
  rw[e] at hu;exact hu
theorem ME.abort{tx p:Nat}{la:List Int}{us:Us}(h:ME X k0 n0 D cs' U S w)(hk:k0≤3200)(hl:D.tm.lookup (tx:Int)=some (mk 2 p))(htx:1≤tx)(htn:tx<D.T.next)(hn:n0≤1000)(ho:D.ov=la++[(tx:Int)])(hna:∀ x∈la,x≠(tx:Int))(hU:(U (tx:Int)).getD []=us)(hB:Backs cs' us cs)(hN:us.length≤20)(hc:CsI S D.T.next cs)(hkeep:∀ c∈cs',(∀ key,c.key≠vkey key tx)→c∈cs) :
    Calls Tryz.prog 30 #[.pointer (some ⟨X.s,0,none⟩),.int .i64 (tx:Int)] w fun e w'=>e=.returned (.int .i64 0)∧∃ D' U',ME X (k0+42) n0 D' cs U' S w'∧Mv X D D' w w'∧D'.T.next=D.T.next∧D'.T.last=D.T.last∧D'.tm=mset D.tm (tx:Int) (mk 5 0)∧D'.ov=la:=by
  obtain⟨k,g,hkk⟩:=h.g
  have h9:=h.nx
  refine(abort_s (lb:=[]) g (by omega) hl ho hna (fun x h=>by simp at h) (by omega) hU hB rfl (by omega)).mono ?_
  rintro e w' ⟨rfl,D',g',mv,e1,e2,e3,e4⟩
  have p':=h.p.end_ htn (.inr (.inr rfl)) e1 e3 ho e4 hna (fun x h=>by simp at h) hc hkeep
  have hov:=h.ov
  rw[ho] at hov
  simp at hov
  exact⟨rfl,D',_,⟨⟨_,g',by omega⟩,p'.more (fun _ h=>h) (by omega),h.s,by omega,by rw[e4];simp;omega⟩,mv,e1,e2,e3,by rw[e4];simp⟩
end
theorem back_keep{cs cs1:List NC}{u:List UInt8×List UInt8}(h:BackTo cs u cs1){c:NC}(hc:c∈cs)(hk:c.key≠u.1):c∈cs1:=by
  obtain⟨j,hj,rfl⟩:=List.getElem_of_mem hc
  rcases h with⟨-,i,h1,h2,rfl⟩|⟨-,h,-⟩
  · have hij:j≠i:=fun e=>by subst e;exact hk (h2 hj)
    rw[← List.eraseIdx_eq_take_drop_succ]
    exact List.mem_eraseIdx_iff_getElem.2 ⟨j,hj,hij,rfl⟩
  · rcases h with⟨i,-,-,rfl⟩|⟨i,h1,h2,rfl⟩
    · have hm:cs[j]∈cs.take i++cs.drop i:=by rw[List.take_append_drop];exact hc
      rcases List.mem_append.1 hm with q|q
      · exact List.mem_append.2 (.inl q)
      · exact List.mem_append.2 (.inr (List.mem_cons_of_mem _ q))
    · have hij:i≠j:=fun e=>by subst e;exact hk (by rw[h2 hj,nc_key])
      have:(cs.set i (ncOf u.1 u.2))[j]'(by simpa using hj)=cs[j]:=by rw[List.getElem_set,if_neg hij]
      rw[← this];exact List.getElem_mem _
theorem backs_keep{cs cs2:List NC}{us:Us}(h:Backs cs us cs2):∀ c∈cs,(∀ u∈us,c.key≠u.1)→c∈cs2:=by
  induction h with
  | nil=>exact fun c hc _=>hc
  | snoc h1 h2 h3 h4 h5 ih=>exact fun c hc hk=>ih c (back_keep h1 hc (hk _ (by simp))) fun u hu=>hk u (by simp[hu])
theorem ME.up{X:ST}{k0 n0:Nat}{D D':SD}{cs:List NC}{U:Int→Option Us}{S:List (List UInt8)}{w w':World}(h:ME X k0 n0 D cs U S w)(hx:Hi X)(m:Mv X D D' w w'):Below X.n0 w w'∧X.n0≤w.heap.size:=by
  obtain⟨k,g,-⟩:=h.g
  exact⟨g.up hx m,g.st.dk.base⟩
theorem ME.moreS{X:ST}{k0 n0:Nat}{D:SD}{cs:List NC}{U:Int→Option Us}{S S':List (List UInt8)}{w:World}(h:ME X k0 n0 D cs U S w)(hS:∀ x∈S,x∈S')(hl:S'.length≤38):ME X k0 n0 D cs U S' w:=⟨h.g,h.p.more hS (Nat.le_refl _),hl,h.nx,h.ov⟩
theorem rdi_take{W:World}{B:Nat}{A:Option Addr}{l:List Int}{m:Nat}(h:RdI W B A l):RdI W B A (l.take m):=fun hne=>by
  obtain⟨b,o,e,hb,hc⟩:=h (fun e=>hne (by rw[e];simp))
  exact⟨b,o,e,hb,fun k hk=>by rw[List.getElem_take];exact hc k (by simp at hk;omega)⟩
theorem rdi_drop{W:World}{B b o:Nat}{l:List Int}{m:Nat}(h:RdI W B (some ⟨b,o,none⟩) l):RdI W B (some ⟨b,o+m,none⟩) (l.drop m):=fun hne=>by
  obtain⟨b',o',e,hb,hc⟩:=h (fun e=>hne (by rw[e];simp))
  injection e with e;injection e with e1 e2
  subst e1 e2
  exact⟨_,_,rfl,hb,fun k hk=>by rw[List.getElem_drop,Nat.add_assoc];exact hc (m+k) (by simp at hk;omega)⟩
theorem ar2(n:Nat):∃ m h:Nat,m≤n∧m≤20∧h≤m∧h≤20∧min (n:Int) 20=(m:Int)∧(m:Int).tdiv 2=(h:Int)∧wrap64 (h:Int)=(h:Int)∧(n=0∨h<m):=by
  obtain⟨m,hm⟩:∃ m,min n 20=m:=⟨_,rfl⟩
  obtain⟨h,hh⟩:∃ h,m / 2=h:=⟨_,rfl⟩
  refine⟨m,h,by omega,by omega,by omega,by omega,by omega,?_,IntWalk.wrap64_in _ (by omega),by omega⟩
  rw[Int.tdiv_eq_ediv_of_nonneg (Int.natCast_nonneg _)];omega
theorem PJ.me{X:ST}{w0 w:World}{Dz D:SD}{cs:List NC}{U:Int→Option Us}{S:List (List UInt8)}{i k:Nat}(h:PJ X w0 Dz D cs U S i k w)(hi:i≤30):ME X 2500 31 D cs U S w:=by
  have h1:=h.n.k
  have h2:=h.n.nx
  have h3:=h.n.ov
  have h4:=h.s
  exact⟨⟨k,h.g,by omega⟩,h.p.more (fun _ h=>h) (by omega),by omega,by omega,by omega⟩
section
variable {fr:Int}{A1 A2:Option Addr}{n1 c1 n2 c2:Nat}{xs ys:List Int}{w:World}
theorem back_law(hfr:-9223372036854775808≤fr∧fr≤9223372036854775807)(hr1:RdI w w.heap.size A1 xs)(hn1:n1=xs.length)(hc1:n1≤c1∧c1≤maxLen)(hx1:∀ x∈xs,-9223372036854775808≤x∧x≤9223372036854775807)
    (hr2:RdI w w.heap.size A2 ys) (hn2:n2=ys.length) (hc2:n2≤c2∧c2≤maxLen) (hx2:∀ x∈ys,-9223372036854775808≤x∧x≤9223372036854775807)
    (CHK:∀ (X:ST) (D:SD) (w:World) (k0 n0:Nat) (cs:List NC) (U:Int→Option Us) (S:List (List UInt8)),Hi X→ME X k0 n0 D cs U S w→k0≤3300→n0≤1000→Calls Tryz.prog 31 #[.pointer (some ⟨X.s,0,none⟩)] w fun e w'=>e=.returned (.int .i64 0)∧Below X.n0 w w')
    (AWK:∀ w,Calls Tryz.prog 22 #[] w fun e w'=>e=.returned (.bool true)∧Below w.heap.size w w') :
    Calls Tryz.prog 4 #[.int .i64 fr,.slice A1 n1 c1,.slice A2 n2 c2] w fun e w'=>e=.returned (.bool true)∧Below w.heap.size w w':=by
  have P8:=pick8_any fr hfr w
  have RY:=Lib.hid (fun r (h:r<8)=>lready_any w (nf:=2+r) (by omega) (by omega))
  have H1:=Lib.hid (And.intro hr1 (And.intro hn1 (And.intro hc1 hx1)))
  have H2:=Lib.hid (And.intro hr2 (And.intro hn2 (And.intro hc2 hx2)))
  have HC:=Lib.hid CHK
  have HA:=Lib.hid AWK
  clear CHK AWK hr1 hn1 hc1 hx1 hr2 hn2 hc2 hx2
  go_enter Tryz.func4,Tryz.ntmps4
  go_upto_region 2 with (first
    | (go_at_call 13;(with_reducible refine P8.mono ?_);rintro e w ⟨⟨r,hr,rfl⟩,rfl⟩;have R8:=RY.out r hr;rw[show((2+r:Nat):Int)=2+(r:Int) from Int.natCast_add _ _] at R8;have wr8:wrap64 (2+(r:Int))=2+(r:Int):=IntWalk.wrap64_in _ (by omega))
    | (go_simp;go_at_call 11;(with_reducible refine R8.mono ?_);rintro e w1 ⟨⟨X,P,st,rfl,st1,hXn,hx,hfi,hws,hpl,hpg,st0,hp0⟩,b1⟩))
  obtain⟨W2,hW2,g2,b2,s2⟩:=box_alloc w1 (.cells #[.pointer (some ⟨X.s,0,none⟩)] 24)
  have hbx:w.heap.size≤w1.heap.size:=b1.size
  have j1:=pj_start (st1.below b2) hfi hws hpl hpg hp0
  have xb:SX X (Dini X.s X.who (2+r) P) W2 w1.heap.size (.cells #[.pointer (some ⟨X.s,0,none⟩)] 24 (0,0)):=sx_new (gs_start st1 hfi hws hpl hpg hp0).st (gs_start st1 hfi hws hpl hpg hp0).us (Mv.below b2) (.inl rfl) (Nat.le_refl _) g2 (by decide) (by decide)
  try rw[hW2]
  have b02:=b1.trans (b2.mono b1.size)
  have HJ1:=Lib.hid j1
  have HXB:=Lib.hid xb
  have HB02:=Lib.hid b02
  have HXn:=Lib.hid hXn
  clear j1 b02 b1 b2 hfi hws hpl hpg hp0 st1 s2 R8 wr8 P8 hW2
  obtain⟨m1,hm1⟩:∃ m1,min n1 30=m1:=⟨_,rfl⟩
  have hm1n:m1≤n1:=by omega
  have hm130:m1≤30:=by omega
  have rdt:∀ {W:World} {A:Option Addr} {l:List Int} {m:Nat},RdI W X.n0 A l→RdI W X.n0 A (l.take m):=fun h hne=>by
    obtain⟨b,o,e,hb,hc⟩:=h (fun e=>hne (by rw[e];simp))
    exact⟨b,o,e,hb,fun k hk=>by rw[List.getElem_take];exact hc k (by simp at hk;omega)⟩
  have bd:=below_drew W2
  have PL:Calls Tryz.prog 23 #[.pointer (some ⟨X.s,0,none⟩),.slice A1 m1 c1] W2.drew _:=play_g (xs:=xs.take m1) (c:=c1) hx (HJ1.out.below bd) (rdt (by have:=H1.out.1.below HB02.out;rw[HXn.out];exact this.below (bd.mono HB02.out.size))) (by rw[List.length_take,← H1.out.2.1];omega) hm130 (fun x hx'=>H1.out.2.2.2 x (List.mem_of_mem_take hx'))
  have S0:W2.drew.cell? ⟨w1.heap.size,0,none⟩=some (.pointer (some ⟨X.s,0,none⟩)):=cellD (keepB bd g2) 0
  obtain⟨hc1,hc1m⟩:=H1.out.2.2.1
  have fm1:min (n1:Int) 30=(m1:Int):=by omega
  have FXB:=Lib.hid (fun(D4:SD) (w4:World) (m:Mv X (Dini X.s X.who (2+r) P) D4 W2.drew w4)=>show SX X D4 w4 w1.heap.size (.cells #[.pointer (some ⟨X.s,0,none⟩)] 24 (0,0)) from(HXB.out.mv (Mv.below bd)).mv m)
  have fz1:(0:Int)≤(m1:Int):=by omega
  have fz2:(m1:Int)≤(c1:Int):=by omega
  have fz3:(m1:Int)≤(n1:Int):=by omega
  clear rdt
  go_region_held3 (fun w7=>w7.cell? ⟨w1.heap.size,0,none⟩=some (.pointer (some ⟨X.s,0,none⟩)))
    (first | with_reducible exact S0 | with_reducible exact S1 | go_keep)
    (first
      | (go_simp;go_at_call 23;(with_reducible refine PL.mono ?_);rintro e w3 ⟨rfl,D3,cs3,U3,S3,k3,j3,b23⟩;have xb3:=FXB.out D3 w3 j3.m;have S1:w3.cell? ⟨w1.heap.size,0,none⟩=some (.pointer (some ⟨X.s,0,none⟩)):=cellD xb3.1 0)
      | fail)
  all_goals
    have me3:=j3.me hm130
    have s29:S3.length≤29:=by have:=j3.s;omega
    have ov3:D3.ov.length≤4:=j3.n.ov
    have HB3:=Lib.hid (And.intro b23 (And.intro s29 ov3))
    have HM3:=Lib.hid me3
    have HX3:=Lib.hid xb3
    have VG:=me3.views hx (by decide) (by decide)
    have x8:=S1
    have HMI:=Lib.hid (And.intro hm1n (And.intro hm130 (And.intro hc1 (And.intro hc1m fm1))))
    clear fz1 fz2 fz3
    clear PL S0 S1 me3 s29 ov3 xb3 b23 j3 hm1n hm130 hc1 hc1m fm1 hm1 g2 bd FXB
    go_upto_region 5 with (go_at_call 24;(with_reducible refine VG.mono ?_);rintro e w4 ⟨v1,D4,rfl,me4,mv4,V1,sa4,ov4⟩)
    have xb4:=HX3.out.mv mv4
    have y8:w4.cell? ⟨w1.heap.size,0,none⟩=some (.pointer (some ⟨X.s,0,none⟩)):=cellD xb4.1 0
    have BG:=me4.begin (by decide) (by rw[ov4];have:=HB3.out.2.2;omega)
    have HM4:=Lib.hid me4
    have HV1:=Lib.hid (And.intro V1 (And.intro sa4 (And.intro ov4 (And.intro mv4 xb4))))
    clear VG x8 me4 V1 sa4 ov4 mv4 xb4
    go_upto_region 6 with (go_at_call 14;(with_reducible refine BG.mono ?_);rintro e w5 ⟨tx,D5,rfl,me5,mv5,sa5,etx,htx1,htx2,ov5,lk5,hU5⟩;have HET:=Lib.hid etx;clear etx)
    obtain⟨W6,hW6,g6,b6,s6⟩:=box_alloc w5 (.cells #[.int .i64 (tx:Int)] 3)
    have xt6:=me5.sx b6 (Nat.le_refl _) g6 (by decide) (by decide)
    have xb6:=(HV1.out.2.2.2.2.mv mv5).mv (Mv.below (X:=X) (D:=D5) b6)
    have me6:=(me5.below b6).moreS (S':=S3++nine tx) (fun x hx'=>List.mem_append.2 (.inl hx')) (by rw[List.length_append,nine_len];have:=HB3.out.2.1;omega)
    have HW6:=Lib.hid (And.intro mv5 (And.intro sa5 (And.intro HET.out (And.intro htx1 (And.intro htx2 (And.intro ov5 (And.intro lk5 (And.intro hU5 b6))))))))
    try rw[hW6]
    clear BG y8 mv5 sa5 htx1 htx2 ov5 lk5 hU5 b6 me5 hW6 s6
    have HM6:=Lib.hid me6
    have HXB6:=Lib.hid xb6
    have HXT6:=Lib.hid xt6
    clear me6 xb6 xt6
    obtain⟨m2,h2,hm2n,hm220,hh2m,hh220,fm2,q2,wh2,hpos⟩:=ar2 n2
    obtain⟨hcc2,hcm2⟩:=H2.out.2.2.1
    have mc2:m2≤c2:=Nat.le_trans hm2n hcc2
    have hc2:h2≤c2:=Nat.le_trans hh2m mc2
    have HBW6:Hid (Below X.n0 w W6):=by
      have a1:=HB02.out
      rw[← HXn.out] at a1
      have z2:X.n0≤W2.heap.size:=by rw[HXn.out];exact a1.size
      have a2:=a1.trans ((below_drew W2).mono z2)
      have a3:=a2.trans HB3.out.1
      obtain⟨k3',g3',-⟩:=HM3.out.g
      have a4:=a3.trans (g3'.up hx HV1.out.2.2.2.1)
      obtain⟨k4',g4',-⟩:=HM4.out.g
      have a5:=a4.trans (g4'.up hx HW6.out.1)
      have a6:=a5.trans (HW6.out.2.2.2.2.2.2.2.2.mono (by rw[HXn.out];exact a5.size))
      exact Lib.hid a6
    have rd2:RdI W6 X.n0 A2 ys:=by
      have q:=H2.out.1
      rw[← HXn.out] at q
      exact q.below HBW6.out
    have HR2:=Lib.hid rd2
    have WA:=HM6.out.writes (n:=h2) (c:=c2) (xs:=ys.take h2) (A:=A2) (tx:=tx) hx (by decide) (fun r hr'=>List.mem_append.2 (.inr (nine_mem tx r hr'))) HW6.out.2.2.2.2.2.2.1 HW6.out.2.2.2.1 HW6.out.2.2.2.2.1 HXB6.out HXT6.out (rdi_take rd2) (List.length_take_of_le (by rw[← H2.out.2.1];exact Nat.le_trans hh2m hm2n)).symm hh220 (fun x hx'=>H2.out.2.2.2 x (List.mem_of_mem_take hx'))
    have HAR:=Lib.hid (And.intro hh2m (And.intro hh220 (And.intro hpos (And.intro hm2n (And.intro hm220 (And.intro hcc2 (And.intro fm2 mc2)))))))
    clear rd2 hh2m hh220 hpos hm2n hm220 hcm2
    go_upto_region 10 with fail
    clear fm2 mc2 hcc2
    go_upto_region 11 with (go_at_call 25;(with_reducible refine WA.mono ?_);rintro e w7 ⟨rfl,D7,cs7,U7,me7,lf7,ch7⟩)
    have xb7:=HXB6.out.mv lf7.mv
    have xt7:=HXT6.out.mv lf7.mv
    have y7b:w7.cell? ⟨w1.heap.size,0,none⟩=some (.pointer (some ⟨X.s,0,none⟩)):=cellD xb7.1 0
    have y7t:w7.cell? ⟨w5.heap.size,0,none⟩=some (.int .i64 (tx:Int)):=cellD xt7.1 0
    have lk7:D7.tm.lookup (tx:Int)=some (mk 2 D4.T.last):=by rw[lf7.tm];exact HW6.out.2.2.2.2.2.2.1
    have SV:=me7.save lk7
    obtain⟨N7,hN7⟩:∃ N,((U7 (tx:Int)).getD []).length=N:=⟨_,rfl⟩
    rw[hN7] at SV
    have HM7:=Lib.hid (And.intro me7 (And.intro lf7 (And.intro ch7 (And.intro lk7 hN7))))
    have HX7:=Lib.hid (And.intro xb7 xt7)
    clear WA me7 lf7 ch7 lk7 hN7 xb7 xt7
    go_upto_region 12 with (go_at_call 27;(with_reducible refine SV.mono ?_);rintro e w8 ⟨rfl,me8,mv8⟩)
    have xb8:=HX7.out.1.mv mv8
    have xt8:=HX7.out.2.mv mv8
    have y8b:w8.cell? ⟨w1.heap.size,0,none⟩=some (.pointer (some ⟨X.s,0,none⟩)):=cellD xb8.1 0
    have VG2:=me8.views hx (by decide) (by decide)
    have HM8:=Lib.hid (And.intro me8 (And.intro mv8 (And.intro xb8 xt8)))
    clear SV y7b y7t me8 mv8 xb8 xt8
    go_upto_region 13 with (go_at_call 24;(with_reducible refine VG2.mono ?_);rintro e w9 ⟨v2,D9,rfl,me9,mv9,V2,sa9,ov9⟩)
    have xb9:=HM8.out.2.2.1.mv mv9
    have xt9:=HM8.out.2.2.2.mv mv9
    have tx7:tx<D7.T.next:=by rw[HM7.out.2.1.T];exact HW6.out.2.2.2.2.1
    have lk9:D9.tm.lookup (tx:Int)=some (mk 2 D4.T.last):=by rw[sa9.t tx tx7];exact HM7.out.2.2.2.1
    have tx9:tx<D9.T.next:=Nat.lt_of_lt_of_le tx7 sa9.n
    have rd9:RdI w9 X.n0 A2 ys:=by
      obtain⟨k6,g6',-⟩:=HM6.out.g
      obtain⟨k7,g7',-⟩:=HM7.out.1.g
      exact HR2.out.below (((g6'.up hx HM7.out.2.1.mv).trans (g7'.up hx HM8.out.2.1)).trans (by
        obtain⟨k8,g8',-⟩:=HM8.out.1.g
        exact g8'.up hx mv9))
    have WA2:=Lib.hid (fun A' c' (q:RdI w9 X.n0 A' ((ys.take m2).drop h2))=>me9.writes (n:=m2-h2) (c:=c') (xs:=(ys.take m2).drop h2) (A:=A') (tx:=tx) hx (by decide) (fun r hr'=>List.mem_append.2 (.inr (nine_mem tx r hr'))) lk9 HW6.out.2.2.2.1 tx9 xb9 xt9 q (by rw[List.length_drop,List.length_take_of_le (by rw[← H2.out.2.1];exact HAR.out.2.2.2.1)]) (Nat.le_trans (Nat.sub_le _ _) HAR.out.2.2.2.2.1) (fun x hx'=>H2.out.2.2.2 x (List.mem_of_mem_take (List.mem_of_mem_drop hx'))))
    have HM9:=Lib.hid (And.intro me9 (And.intro mv9 (And.intro V2 (And.intro sa9 (And.intro ov9 (And.intro xb9 (And.intro xt9 (And.intro lk9 tx9))))))))
    have HR9:=Lib.hid rd9
    clear VG2 y8b me9 mv9 V2 sa9 ov9 xb9 xt9 lk9 tx7 tx9 rd9
    rcases HAR.out.2.2.1 with hz|hlt2
    case' inl=>
      have hmz:m2=0:=by have:=HAR.out.2.2.2.1;omega
      have hhz:h2=0:=by have:=HAR.out.1;omega
      subst hmz hhz
      have W2:=fun A' c'=>WA2.out A' c' (fun hne=>absurd (by simp) hne)
      rw[show((0-0:Nat))=0 from rfl] at W2
      clear hz
      rw[show((0:Nat):Int)=0 from rfl]
      rcases A2 with _|a2
      all_goals
        go_upto_region 14 with (go_at_call 25;(with_reducible refine(W2 _ _).mono ?_);rintro e w10 ⟨rfl,D10,cs10,U10,me10,lf10,ch10⟩)
    case' inr=>
      have y0:0<ys.length:=by rw[← H2.out.2.1];have:=HAR.out.2.2.2.1;omega
      obtain⟨b2',o2',rfl,-⟩:=HR9.out (fun e=>by rw[e] at y0;simp at y0)
      have q9:=rdi_drop (m:=h2) (rdi_take (m:=m2) HR9.out)
      have mc2:=HAR.out.2.2.2.2.2.2.2
      have hle2:(h2:Int)≤(m2:Int):=by omega
      have hne2:¬(h2=c2):=by omega
      have hne2':¬(c2=h2):=by omega
      have hne3:¬(c2-h2=0):=by omega
      have W2:=WA2.out _ (c2-h2) q9
      clear y0 q9 hlt2
      go_upto_region 14 with (go_at_call 25;(with_reducible refine W2.mono ?_);rintro e w10 ⟨rfl,D10,cs10,U10,me10,lf10,ch10⟩)
    all_goals
      obtain⟨me9,mv9,V2,sa9,ov9,xb9,xt9,lk9,tx9⟩:=HM9.out
      have xb10:=xb9.mv lf10.mv
      have xt10:=xt9.mv lf10.mv
      have y10b:w10.cell? ⟨w1.heap.size,0,none⟩=some (.pointer (some ⟨X.s,0,none⟩)):=cellD xb10.1 0
      have y10t:w10.cell? ⟨w5.heap.size,0,none⟩=some (.int .i64 (tx:Int)):=cellD xt10.1 0
      have lk10:D10.tm.lookup (tx:Int)=some (mk 2 D4.T.last):=by rw[lf10.tm];exact lk9
      have tx10:tx<D10.T.next:=by rw[lf10.T];exact tx9
      have u7l:((U7 (tx:Int)).getD []).length≤1000:=by
        obtain⟨us1,q1,-,q3⟩:=HM7.out.2.2.1.ex
        rw[HW6.out.2.2.2.2.2.2.2.1] at q1
        rw[show(U7 (tx:Int)).getD []=us1 from q1];omega
      have BK:=me10.back (U:=U7) (cs:=cs7) (by decide) lk10 HW6.out.2.2.2.1 tx10 (by decide) ch10 ((me9.p.same lf10.T lf10.tm lf10.ov).more (fun _ h=>h) (by decide)) u7l
      have hN7:=HM7.out.2.2.2.2
      rw[hN7] at BK
      have HM10:=Lib.hid (And.intro me10 (And.intro lf10 (And.intro ch10 (And.intro lk10 (And.intro tx10 (And.intro xb10 xt10))))))
      clear W2 me9 mv9 V2 sa9 ov9 xb9 xt9 lk9 tx9 me10 lf10 ch10 lk10 tx10 xb10 xt10 u7l hN7
      go_upto_region 15 with (go_at_call 28;(with_reducible refine BK.mono ?_);rintro e w11 ⟨rfl,D11,U11,me11,lf11,hU11⟩)
      obtain⟨-,lf10,-,lk10,tx10,xb10,xt10⟩:=HM10.out
      have xb11:=xb10.mv lf11.mv
      have xt11:=xt10.mv lf11.mv
      have y11b:w11.cell? ⟨w1.heap.size,0,none⟩=some (.pointer (some ⟨X.s,0,none⟩)):=cellD xb11.1 0
      have y11t:w11.cell? ⟨w5.heap.size,0,none⟩=some (.int .i64 (tx:Int)):=cellD xt11.1 0
      have lk11:D11.tm.lookup (tx:Int)=some (mk 2 D4.T.last):=by rw[lf11.tm];exact lk10
      have SV:=me11.save lk11
      rw[hU11,HM7.out.2.2.2.2] at SV
      have HM11:=Lib.hid (And.intro me11 (And.intro lf11 (And.intro hU11 (And.intro lk11 (And.intro xb11 xt11)))))
      clear BK y10b y10t lf10 lk10 tx10 xb10 xt10 me11 lf11 hU11 lk11 xb11 xt11
      go_upto_region 16 with (go_at_call 27;(with_reducible refine SV.mono ?_);rintro e w12 ⟨rfl,me12,mv12⟩)
      have xb12:=HM11.out.2.2.2.2.1.mv mv12
      have xt12:=HM11.out.2.2.2.2.2.mv mv12
      have y12b:w12.cell? ⟨w1.heap.size,0,none⟩=some (.pointer (some ⟨X.s,0,none⟩)):=cellD xb12.1 0
      have VG3:=me12.views hx (by decide) (by decide)
      have HM12:=Lib.hid (And.intro me12 (And.intro mv12 (And.intro xb12 xt12)))
      clear SV y11b y11t me12 mv12 xb12 xt12
      go_upto_region 17 with (go_at_call 24;(with_reducible refine VG3.mono ?_);rintro e w13 ⟨v3,D13,rfl,me13,mv13,V3,sa13,ov13⟩)
      obtain⟨-,mv9,V2,sa9,ov9,-,-,-,-⟩:=HM9.out
      obtain⟨-,lf10,-,-,-,-,-⟩:=HM10.out
      obtain⟨-,lf11,hU11,lk11,-,-⟩:=HM11.out
      obtain⟨-,mv12,xb12,xt12⟩:=HM12.out
      have xb13:=xb12.mv mv13
      have xt13:=xt12.mv mv13
      have y13b:w13.cell? ⟨w1.heap.size,0,none⟩=some (.pointer (some ⟨X.s,0,none⟩)):=cellD xb13.1 0
      have y13t:w13.cell? ⟨w5.heap.size,0,none⟩=some (.int .i64 (tx:Int)):=cellD xt13.1 0
      have sa711:Same D7 D11:=sa9.trans (lf10.same.trans lf11.same)
      have ov711:D11.ov=D7.ov:=by rw[lf11.ov,lf10.ov,ov9]
      have ev:viewL D11 cs7=viewL D7 cs7:=view_eq HM7.out.1.p ov711 sa711
      rw[ev] at V3
      have V2':=(((V2.mv lf10.mv).mv lf11.mv).mv mv12).mv mv13
      have SAME1:=views_same V2'.rd V3.rd (view_num (by have:=HM7.out.1.ov;omega)) (view_len HM7.out.1.p HM7.out.1.s)
      obtain⟨us1,q1,q2,q3⟩:=HM7.out.2.2.1.ex
      rw[HW6.out.2.2.2.2.2.2.2.1] at q1
      have q1:(U7 (tx:Int)).getD []=us1:=q1
      have lf7:=HM7.out.2.1
      have ov13':D13.ov=D4.ov++[(tx:Int)]:=by rw[ov13,ov711,lf7.ov];exact HW6.out.2.2.2.2.2.1
      have sa4:=HV1.out.2.1
      have sa5:=HW6.out.2.1
      have sa313:Same D3 D13:=(sa4.trans sa5).trans (lf7.same.trans (sa711.trans sa13))
      have lk13:D13.tm.lookup (tx:Int)=some (mk 2 D4.T.last):=by
        have t7:tx<D7.T.next:=by rw[lf7.T];exact HW6.out.2.2.2.2.1
        rw[sa13.t tx (Nat.lt_of_lt_of_le t7 sa711.n)];exact lk11
      have tx13:tx<D13.T.next:=by
        have t7:tx<D7.T.next:=by rw[lf7.T];exact HW6.out.2.2.2.2.1
        exact Nat.lt_of_lt_of_le t7 (sa711.trans sa13).n
      have AB:=fun q=>(me13.below (drewN_below w13 w13.heap.size q)).abort (la:=D4.ov) (cs:=cs3) (us:=us1) (U:=U11) (by decide) lk13 HW6.out.2.2.2.1 tx13 (by decide) ov13' (fun x hx'=>by
        obtain⟨k4,g4,-⟩:=HM4.out.g
        have:=rise_mem g4.tok.ov x hx'
        have e:=HW6.out.2.2.1
        omega) (hU11.trans q1) q2 q3 (HM3.out.p.c.more (fun x hx'=>List.mem_append.2 (.inl hx')) sa313.n) (fun c hc hne=>backs_keep q2 c hc fun u hu=>by
          cases eu:U7 (tx:Int) with
          | none=>rw[eu] at q1;rw[← q1] at hu;simp at hu
          | some us =>
            rw[eu] at q1
            have q1:us=us1:=q1
            subst q1
            obtain⟨tx',z1,-,-,z4,-⟩:=HM7.out.1.p.u _ _ eu
            have:tx'=tx:=by omega
            subst this
            obtain⟨⟨key,z5,-⟩,-⟩:=z4.s u hu
            rw[z5];exact hne key)
      have HM13:=Lib.hid (And.intro me13 (And.intro mv13 (And.intro sa313 (And.intro xb13 xt13))))
      have HAB:=Lib.hid AB
      clear VG3 y12b me13 mv13 V3 V2 V2' sa13 ov13 mv9 sa9 ov9 lf10 lf11 hU11 lk11 mv12 xb12 xt12 xb13 xt13 sa711 ov711 ev q1 q2 q3 lf7 ov13' sa4 sa5 sa313 lk13 tx13 AB
      go_upto_region 19 with (first
        | (go_at_call 29;(with_reducible refine SAME1.mono ?_);rintro e w13' ⟨rfl,q,rfl⟩;have AB1:=HAB.out q)
        | (go_at_call 30;(with_reducible refine AB1.mono ?_);rintro e w14 ⟨rfl,D14,U14,me14,mv14,e1,e2,e3,e4⟩))
      have xb14:=(HM13.out.2.2.2.1.mv (Mv.below (drewN_below w13 w13.heap.size q))).mv mv14
      have y14b:w14.cell? ⟨w1.heap.size,0,none⟩=some (.pointer (some ⟨X.s,0,none⟩)):=cellD xb14.1 0
      have VG4:=me14.views hx (by decide) (by decide)
      have HM14:=Lib.hid (And.intro me14 (And.intro mv14 (And.intro e1 (And.intro e2 (And.intro e3 (And.intro e4 xb14))))))
      clear me14 mv14 e1 e2 e3 e4 xb14 AB1 SAME1 y13b y13t
      go_upto_region 20 with (go_at_call 24;(with_reducible refine VG4.mono ?_);rintro e w15 ⟨v4,D15,rfl,me15,mv15,V4,sa15,ov15⟩)
      have xb15:=HM14.out.2.2.2.2.2.2.mv mv15
      have y15b:w15.cell? ⟨w1.heap.size,0,none⟩=some (.pointer (some ⟨X.s,0,none⟩)):=cellD xb15.1 0
      obtain⟨me14,mv14,e1,e2,e3,e4,-⟩:=HM14.out
      obtain⟨me13,mv13,sa313,-,-⟩:=HM13.out
      obtain⟨me9,mv9,V2,sa9,ov9,-,-,-,-⟩:=HM9.out
      obtain⟨me10,lf10,-,-,-,-,-⟩:=HM10.out
      obtain⟨me11,lf11,hU11,lk11,-,-⟩:=HM11.out
      obtain⟨me12,mv12,xb12,xt12⟩:=HM12.out
      have sa314:Same D3 D14:=sa313.end_ e2 e1 e3 (by rw[HW6.out.2.2.1];exact HV1.out.2.1.n)
      have ev4:viewL D14 cs3=viewL D3 cs3:=view_eq HM3.out.p (by rw[e4];exact HV1.out.2.2.1) sa314
      rw[ev4] at V4
      have bq13:=drewN_below w13 w13.heap.size q
      have V1':=((((((((((HV1.out.1.mv HW6.out.1).mv (Mv.below (X:=X) (D:=D5) HW6.out.2.2.2.2.2.2.2.2)).mv HM7.out.2.1.mv).mv HM8.out.2.1).mv mv9).mv lf10.mv).mv lf11.mv).mv mv12).mv mv13).mv (Mv.below (X:=X) (D:=D13) bq13)).mv mv14 |>.mv mv15
      have SAME2:=views_same V1'.rd V4.rd (view_num (by have:=HM3.out.ov;omega)) (view_len HM3.out.p HM3.out.s)
      have CK:=fun q2=>HC.out X D15 (w15.drewN q2) _ _ cs3 U14 _ hx (me15.below (drewN_below w15 w15.heap.size q2)) (by decide) (by decide)
      have HCK:=Lib.hid CK
      have HFIN:=Lib.hid (show Below X.n0 w w15 from by
        obtain⟨u1,z1⟩:=HM6.out.up hx HM7.out.2.1.mv
        obtain⟨u2,z2⟩:=HM7.out.1.up hx HM8.out.2.1
        obtain⟨u3,z3⟩:=HM8.out.1.up hx mv9
        obtain⟨u4,z4⟩:=me9.up hx lf10.mv
        obtain⟨u5,z5⟩:=me10.up hx lf11.mv
        obtain⟨u6,z6⟩:=me11.up hx mv12
        obtain⟨u7,z7⟩:=me12.up hx mv13
        obtain⟨u8,z8⟩:=(me13.below bq13).up hx mv14
        obtain⟨u9,z9⟩:=me14.up hx mv15
        obtain⟨-,z10⟩:=me13.up hx (Mv.below bq13)
        exact(((((((((HBW6.out.trans u1).trans u2).trans u3).trans u4).trans u5).trans u6).trans u7).trans (bq13.mono z10)).trans u8).trans u9)
      have HZ15:=Lib.hid (me15.up hx (Mv.refl X D15 w15)).2
      clear me14 mv14 e1 e2 e3 e4 me13 mv13 sa313 me9 mv9 V2 sa9 ov9 me10 lf10 me11 lf11 hU11 lk11 me12 mv12 xb12 xt12 sa314 ev4 bq13 V1' V4 CK VG4 y14b me15 mv15 sa15 ov15 xb15
      go_wp2_with (first
        | (go_at_call 29;(with_reducible refine SAME2.mono ?_);rintro e w15' ⟨rfl,q2,rfl⟩;have CK1:=HCK.out q2)
        | (go_at_call 31;(with_reducible refine CK1.mono ?_);rintro e w16 ⟨rfl,b16⟩;have AW:=HA.out w16)
        | (go_at_call 22;(with_reducible refine AW.mono ?_);rintro e w17 ⟨rfl,b17⟩))
      go_ret
      have bq2:=drewN_below w15 w15.heap.size q2
      have f1:=(HFIN.out.trans (bq2.mono HZ15.out)).trans b16
      have hz16:X.n0≤w16.heap.size:=Nat.le_trans HZ15.out (Nat.le_trans bq2.size b16.size)
      have f2:=f1.trans (b17.mono hz16)
      rw[HXn.out] at f2
      exact⟨rfl,f2⟩
end
end Go.Proofs.YtdbkocfbhpgpkaaGreat
