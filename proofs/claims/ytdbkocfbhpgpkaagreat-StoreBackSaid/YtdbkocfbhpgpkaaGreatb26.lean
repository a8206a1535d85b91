/-
  store.record of a commit, Commit.
-/
import Derived.Test.YtdbkocfbhpgpkaaGreatb25
import Derived.Test.YtdbkocfbhpgpkaaGreatb02
import Derived.Lib.AppendZerosOnto
import Derived.Lib.AppendZeros
set_option linter.unusedVariables false
set_option linter.unusedSimpArgs false
namespace Go.Proofs.YtdbkocfbhpgpkaaGreat
open Go Go.RowKit Go.Shelf
open Go.Ev (PgM PageOk CellsOut rowsOf rowsV rowV rowsOf_len BelowIs)
set_option maxRecDepth 100000
set_option maxHeartbeats 4000000
theorem below_ex(l:List UInt8):∀ cs:List NC,∃ j,BelowIs cs l j
  | []=>⟨0,Nat.le_refl _,fun i h=>absurd h (by simp),fun h=>absurd h (by simp)⟩
  | c :: cs => by
    by_cases h0:0<Lib.compareBytes c.key l
    · exact⟨0,Nat.zero_le _,fun i _ h=>absurd h (by omega),fun _=>h0⟩
    · obtain⟨j,h1,h2,h3⟩:=below_ex l cs
      refine⟨j+1,by simpa using h1,fun i hi hij=>?_,fun h=>?_⟩
      · match i with
        | 0=>exact Int.not_lt.1 h0
        | i+1=>exact h2 i (by simpa using hi) (by omega)
      · exact h3 (by simpa using h)
def SG (X:ST)(D:SD)(k:Nat):Prop:=k=X.B.p∨k=X.m∨∃ f,D.R.held=some f∧k=f.fr
def PgIs (D:SD)(l:List UInt8):Prop:=(∃ f,D.R.held=some f∧f.bytes=l)∨(D.R.held=none∧D.pv=.slice none 0 0∧∃ st,D.P.bs[D.R.base+1]? = some (sealed l st))
def Qh (X:ST)(D:SD)(l:List UInt8)(w:World):Prop:=∃ f,f.bytes=l∧(D.R.held=some f∨D.R.held=none∧f.lsn=0∧f.dirty=false∧X.n0≤f.fr)∧StW X (D.hold f) w
theorem SD.hold_self{D:SD}{f:FR}(h:D.R.held=some f):D.hold f=D:=by
  obtain⟨S,J,⟨a,b,c,d,e,g⟩,b',T,tm,ov,wm,pv,P⟩:=D
  have:g=some f:=h
  subst this;rfl
section
variable {X:ST}{D:SD}{w w':World}{l:List UInt8}
theorem StW.sg(h:StW X D w){k:Nat}(e:SG X D k):k<w.heap.size:=by
  rcases e with e|e|⟨f,hf,e⟩
  · rw[e];exact hlt h.pb.box
  · rw[e];exact h.pb.map.lt
  · rw[e];exact(h.pb.fr f hf).lt
theorem StW.sgT(h:StW X D w):∀ g,SG X D g→g<w.heap.size→g=X.B.p∨g=X.m∨∃ cs,w.heap[g]? = some (.cells cs 364 (0,0)):=fun g e _=>by
  rcases e with e|e|⟨f,hf,e⟩
  · exact .inl e
  · exact .inr (.inl e)
  · obtain⟨cur,hc,-⟩:=(h.pb.fr f hf).row
    exact .inr (.inr ⟨cur,by rw[e];exact hc⟩)
theorem get_pool(h:StW X D w)(hp:PgIs D l)(hl:l.length=4080)(hb:D.R.base+1<D.P.bs.length)(hB:D.R.base≤100000) :
    Calls Tryz.prog 274 #[.pointer (some ⟨X.B.p,0,none⟩),.int .i64 1] w fun e w'=>(∃ v,e=.returned (.tuple #[v,.int .i64 0])∧Own w' 0 v l)∧Qh X D l w'∧Kp (SG X D) w w':=by
  rcases hp with⟨f,hf,hfl⟩|⟨hn,hpv,st,hd⟩
  · refine(pget1_any h.pb hf).mono ?_
    rintro e w' ⟨⟨v,rfl,ho⟩,hpb,k⟩
    have k':Kp (SG X D) w w':=k.weaken fun g e=>.inr (.inr ⟨f,hf,e⟩)
    refine⟨⟨v,rfl,hfl▸ho.down (Nat.zero_le _)⟩,⟨f,hfl,.inl hf,?_⟩,k'⟩
    rw[SD.hold_self hf]
    exact h.pool k' h.sgT hpb h.hi
  · have dk:=h.dk
    rw[hpv] at dk
    refine(pget0_any h.pb hn dk hb hB hd hl).mono ?_
    rintro e w' ⟨⟨v,rfl,ho⟩,⟨f,hpb,f1,f2,f3,f4,-⟩,k⟩
    have k':Kp (SG X D) w w':=k.weaken fun g e=>e.elim .inl fun e=>.inr (.inl e)
    exact⟨⟨v,rfl,ho.down (Nat.zero_le _)⟩,⟨f,f1,.inr ⟨hn,f2,f3,Nat.le_trans h.dk.base f4⟩,h.pool k' h.sgT hpb fun f' e=>by injection e with e;subst e;exact Nat.le_trans h.dk.base f4⟩,k'⟩
def Qs (Z:Nat→Prop)(X:ST)(D:SD)(l:List UInt8)(x sx:Nat)(w:World):Prop:=XB Z w x X.B.a sx none∧Qh X D l w
theorem Qh.below(h:Qh X D l w)(hb:Below w.heap.size w w'):Qh X D l w':=by
  obtain⟨f,h1,h2,h3⟩:=h
  exact⟨f,h1,h2,h3.below hb⟩
theorem Qh.soft{N:Nat}{cs:Array Value}{t:TypeId}(h:Qh X D l w)(k:Kp (·=N) w w')(hg:w.heap[N]? = some (.cells cs t (0,0)))(ht:Free t):Qh X D l w':=by
  obtain⟨f,h1,h2,h3⟩:=h
  exact⟨f,h1,h2,h3.soft k hg ht⟩
theorem stb_qs(Z:Nat→Prop)(X:ST)(D:SD)(l:List UInt8)(x sx:Nat):Stb (Qs Z X D l x sx):=
  ⟨fun _ _ b q=>⟨q.1.below b,q.2.below b⟩,fun _ _ N cs t ht hg k q=>⟨q.1.kp k (tag_ne q.1.box hg (by rcases ht with rfl | rfl<;>decide)) (q.1.map.ne hg) (fun u e=>nomatch e) (fun _ _ h=>h),q.2.soft k hg (free_soft ht)⟩⟩
theorem xget_st{Z:Nat→Prop}{x sx:Nat}(h:StW X D w)(hx:XB Z w x X.B.a sx none)(hm:sx≠X.m)(hp:PgIs D l)(hl:l.length=4080)(hb:D.R.base+1<D.P.bs.length)(hB:D.R.base≤100000) :
    Calls Tryz.prog 240 #[.pointer (some ⟨x,0,none⟩),.int .i64 1] w fun e w'=>(∃ v,e=.returned (.tuple #[v,.int .i64 0])∧Own w' 0 v l)∧Qs Z X D l x sx w'∧Kp (SG X D) w w':=by
  refine(xget_pool (Q:=fun v w'=>Own w' 0 v l∧Qh X D l w'∧Kp (SG X D) w w') hx h.ab ((get_pool h hp hl hb hB).mono ?_)).mono ?_
  · rintro e w' ⟨⟨v,rfl,ho⟩,hq,k⟩
    exact⟨v,rfl,ho,hq,k⟩
  · rintro e w' ⟨v,rfl,ho,hq,k⟩
    refine⟨⟨v,rfl,ho⟩,⟨hx.kp k (fun e=>?_) (fun e=>?_) (fun u e=>nomatch e) (fun _ _ h=>h),hq⟩,k⟩
    · rcases h.sgT _ e (hlt hx.box) with e|e|⟨cs,e⟩
      · exact tag_ne hx.box h.pb.box (by decide) e
      · exact h.pb.map.ne hx.box e.symm
      · exact tag_ne hx.box e (by decide) rfl
    · rcases h.sgT _ e hx.map.lt with e|e|⟨cs,e⟩
      · exact hx.map.ne h.pb.box e
      · exact hm e
      · exact hx.map.ne e rfl
end
theorem vkey_len(k:List UInt8)(n:Nat):(vkey k n).length=(txt k 0).length+8:=by unfold vkey;rw[List.length_append,le_len]
theorem own_sg{S:Nat→Prop}{w:World}{B n c:Nat}{A:Option Addr}{l:List UInt8}(o:Own w B (.slice A n c) l)(hS:∀ k,S k→k<B):∀ w',Kp S w w'→Rd w' w.heap.size A l:=fun w' kk=>by
  obtain⟨A',c',e,-,-,r⟩:=(o.kp kk fun g e q=>by have:=o.blk g e;have:=hS g q;omega).slice
  injection e with e1 e2 e3
  subst e1
  intro hne
  obtain⟨b,o',e4,-,hc⟩:=r hne
  exact⟨b,o',e4,o.lt b (by rw[e4];rfl),hc⟩
section
variable {X:ST}{D:SD}{w w':World}{l:List UInt8}
end
section
variable {X:ST}{D:SD}{w w':World}{l:List UInt8}
end
section
variable {X:ST}{D:SD}{w w':World}{l:List UInt8}
theorem StW.work{wm':List (Int×Value)}(h:StW X D w)(k:Kp (·=X.B.wk) w w')(m:MapI w' X.B.wk wm'):StW X { D with wm:=wm' } w':=by
  have ne:∀ {g:Nat} {x:Array Value} {u:TypeId} {z:Nat×Nat},w.heap[g]? = some (.cells x u z)→¬g=X.B.wk:=fun e q=>h.wk.ne e q.symm
  refine⟨k.keep h.sb (ne h.sb),k.keep h.jb (ne h.jb),h.jo.kp k (fun g e q=>h.jo.tagm h.wk (q▸e)),h.pb.kp k (ne h.pb.box) h.d3 (fun f hf=>?_) (fun _ _ h=>h),h.ab.kp k (ne h.ab.box) h.d5,h.dk.apart k (fun g o e q=>?_),k.keep h.tb (ne h.tb),h.tw,h.tm.kp k h.d6,h.tr.kp k (fun g e q=>h.tr.nem h.wk (q▸e)),m,h.d1,h.d2,h.d3,h.d4,h.d5,h.d6,h.hi⟩
  · obtain⟨cur,e,-⟩:=(h.pb.fr f hf).row
    exact⟨ne e,fun g e1 e2=>(h.pb.fr f hf).pay.tagm h.wk (e2▸e1)⟩
  · have e:g=X.B.wk:=e
    subst e
    obtain⟨E,c,hE,-⟩:=h.wk
    rw[hE] at q;injection q with q;subst q
    exact⟨NoD.map _ _,.inr fun x e=>nomatch e⟩
theorem infoFn:(Tryz.prog.info? 36).map (fun i=>(i.zero,i.size,i.bytes))=some (some .nilFunc,1,8):=by kernel_rfl
theorem zeroFn(w:World):(zeroValue 133).run Tryz.prog w=.ok (.slice none 0 0) w:=by kernel_rfl
theorem one_new(w:World)(v:Value)(t:TypeId):∀ j u,[v][j]? = some u→(w.alloc (.cells #[v] t)).drew.cell? ((⟨w.heap.size,0,none⟩:Addr).add j)=some u:=fun j u hu=>by
  have:((⟨w.heap.size,0,none⟩:Addr).add j)=⟨w.heap.size,j,none⟩:=by unfold Addr.add;split<;>simp_all
  rw[this]
  refine(cellD (w:=(w.alloc (.cells #[v] t)).drew) (heap_alloc_new w _) j).trans ?_
  simpa using hu
theorem one_fn{fn:Fn}{a b:Array Value}:∀ v,v=Value.func fn a b→∀ u∈[v],u.oneCell'=true:=fun v h u hu=>by
  simp at hu;subst hu;subst h;rfl
end
end Go.Proofs.YtdbkocfbhpgpkaaGreat
namespace Go.Proofs.YtdbkocfbhpgpkaaGreat
open Go Go.RowKit
set_option maxRecDepth 100000
set_option maxHeartbeats 1600000
theorem zeroCells8(k:Nat):Builtin.zeroCells (Value.int .u8 0).cells k=(List.replicate k (u8V 0)).toArray:=by
  apply Array.ext'
  apply List.ext_getElem?
  intro j
  have h1:(#[Value.int .u8 0]:Array Value).size=1:=rfl
  simp only[Builtin.zeroCells,Value.cells,h1,Nat.mul_one,Nat.mod_one,Array.toList_map,Array.toList_range,List.getElem?_map,List.map_replicate,List.getElem?_replicate]
  by_cases h:j<k
  · rw[List.getElem?_range h,if_pos h];rfl
  · rw[List.getElem?_eq_none (by simp;omega),if_neg h];rfl
end Go.Proofs.YtdbkocfbhpgpkaaGreat
namespace Go.Proofs.YtdbkocfbhpgpkaaGreat
open Go Go.RowKit Go.Shelf
set_option maxRecDepth 100000
set_option maxHeartbeats 4000000
theorem zeros_nil(w:World)(N:Nat)(hN:0<N)(hb:N≤1000000) :
    ∃ g c w',(Builtin.append_ #[33,3] 33 #[.slice none 0 0,.int .i64 (N:Int)]).run Tryz.prog w=.ok (.slice (some ⟨g,0,none⟩) N c) w'∧N≤c∧Own w' w.heap.size (.slice (some ⟨g,0,none⟩) 0 c) []∧Below w.heap.size w w':=by
  obtain⟨i0,hi,hz0,hz1,hz2⟩:=info_parts Tryz.info5
  have hrun:=Lib.run_append_nil_zeros (P:=Tryz.prog) w 33 3 33 5 i0 _ .i64 .i64 Tryz.underlying33 Tryz.underlying3 hi hz0 N hN (by omega) (by omega) (by rw[hz2];omega)
  have h1:=grownCap_ge w N 0 5
  have h2:=grownCap_le_maxLen w N 0 5 (by unfold maxLen;omega)
  refine⟨_,_,_,hrun,h1,⟨rfl,.inr ⟨w.heap.size,_,_,rfl,Nat.le_refl _,heap_alloc_new w.drew _,Nat.zero_le _,h2,?_,rfl⟩⟩,((Below.refl _ w).drew).alloc (Nat.le_refl _) _⟩
  rw[zeroCells8,zeroCells8]
  simp
  omega
theorem grow_any(w:World)(N:Nat)(hN:0<N)(hb:N≤1000000) :
    Calls Tryz.prog 167 #[.slice none 0 0,.int .i64 (N:Int)] w fun e w'=>(∃ g c,e=.returned (.slice (some ⟨g,0,none⟩) 0 c)∧Own w' w.heap.size (.slice (some ⟨g,0,none⟩) 0 c) [])∧Below w.heap.size w w':=by
  obtain⟨g,c,w1,hr,hc,ho,hbl⟩:=zeros_nil w N hN hb
  have f1:¬((N:Int)<0):=by omega
  have f2:(0:Int)<(N:Int):=by omega
  have f3:wrap64 ((N:Int)-0)=(N:Int):=by rw[IntWalk.wrap64_in _ (by omega)];omega
  have f4:wrap64 (N:Int)=(N:Int):=IntWalk.wrap64_in _ (by omega)
  go_enter Tryz.func167,Tryz.ntmps167
  go_wp2_with (at_builtin;refine Lib.wpList_append_run _ rfl (.tmp 20) (.tmp 21) 33 3 rfl _ _ rfl rfl _ _ hr ?_)
  go_ret
  exact⟨⟨g,c,rfl,ho⟩,hbl⟩
theorem concat2_any{w:World}{r rc n c m d:Nat}{A B:Option Addr}{l k:List UInt8}(h0:w.cell? ⟨r,0,none⟩=some (.slice A n c))(h1:w.cell? ⟨r,1,none⟩=some (.slice B m d))(hr:r<w.heap.size)(hA:Rd w w.heap.size A l)(hB:Rd w w.heap.size B k)(hn:n=l.length)(hm:m=k.length)(hl:n+m≤100000)(hn1:1≤n) :
    Calls Tryz.prog 71 #[.slice (some ⟨r,0,none⟩) 2 rc] w fun e w'=>(∃ v,e=.returned v∧Own w' w.heap.size v (l++k))∧Below w.heap.size w w':=by
  have GR:=grow_any w (n+m) (by omega) (by omega)
  rw[show((n+m:Nat):Int)=(n:Int)+(m:Int) from Int.natCast_add _ _] at GR
  have HN:=Lib.hid hn
  have HM:=Lib.hid hm
  have HL:=Lib.hid hl
  clear hn hm
  go_enter Tryz.func71,Tryz.ntmps71
  go_wp2
  go_loopw [3,11] (fun sz i wr=>wr=w∧((sz=.int .i64 0∧i=.int .i64 0)∨(sz=.int .i64 (n:Nat)∧i=.int .i64 1)∨(sz=.int .i64 ((n:Int)+(m:Int))∧i=.int .i64 2))) (fun _ i _=>2-(RowKit.intOf i).toNat)
  case atStart=>exact⟨rfl,.inl ⟨rfl,rfl⟩⟩
  case round=>
    obtain⟨rfl,⟨rfl,rfl⟩|⟨rfl,rfl⟩|⟨rfl,rfl⟩⟩:=hrel
    · have f1:¬((n:Int)<0):=by omega
      go_wp2
      refine⟨⟨trivial,.inr (.inl ⟨?_,rfl⟩)⟩,by decide⟩
      first | rfl | (congr 1;omega)
    · have f1:¬((n:Int)+(m:Int)<0):=by omega
      go_wp2
      exact⟨⟨trivial,.inr (.inr ⟨rfl,rfl⟩)⟩,by decide⟩
    · obtain⟨w0,rfl⟩:∃ w0,w0=wr:=⟨_,rfl⟩
      go_wp2_with (go_at_call 167;(with_reducible refine GR.mono ?_);rintro e w2 ⟨⟨g,c2,rfl,ho⟩,b2⟩)
      go_loopw [6,27] (fun v i wr=>Below w0.heap.size w0 wr∧((i=.int .i64 0∧Own wr w0.heap.size v [])∨(i=.int .i64 1∧Own wr w0.heap.size v l)∨(i=.int .i64 2∧Own wr w0.heap.size v (l++k)))) (fun _ i _=>2-(RowKit.intOf i).toNat)
      case atStart=>exact⟨b2,.inl ⟨rfl,ho⟩⟩
      case round=>
        obtain⟨b3,⟨rfl,o3⟩|⟨rfl,o3⟩|⟨rfl,o3⟩⟩:=hrel
        · have d0:wr.cell? ⟨r,0,none⟩=some (.slice A n c):=(b3.cell (p:=⟨r,0,none⟩) hr).trans h0
          go_wp2_with (at_builtin;refine apB rfl (.tmp 31) (.tmp 32) rfl w0.heap.size _ _ rfl o3 _ _ n c l rfl HN.out (hA.below b3) ?c1 ?c2 ?_)
          case c1=>have:=HL.out;have:=HN.out;simp;omega
          case c2=>exact b3.size
          intro v' w4 o4 b4 _ _
          go_wp2
          exact⟨⟨b3.trans b4,.inr (.inl ⟨rfl,by simpa using o4⟩)⟩,by decide⟩
        · have d1:wr.cell? ⟨r,1,none⟩=some (.slice B m d):=(b3.cell (p:=⟨r,1,none⟩) hr).trans h1
          go_wp2_with (at_builtin;refine apB rfl (.tmp 31) (.tmp 32) rfl w0.heap.size _ _ rfl o3 _ _ m d k rfl HM.out (hB.below b3) ?c1 ?c2 ?_)
          case c1=>have:=HL.out;have:=HN.out;have:=HM.out;omega
          case c2=>exact b3.size
          intro v' w4 o4 b4 _ _
          go_wp2
          exact⟨⟨b3.trans b4,.inr (.inr ⟨rfl,o4⟩)⟩,by decide⟩
        · go_wp2
          go_ret
          exact⟨⟨_,rfl,o3⟩,b3⟩
theorem infoS:(Tryz.prog.info? 125).isSome=true:=by kernel_rfl
theorem eqlS(w:World)(a:Addr):(binOp .eql 24 (.pointer (some a)) (.pointer (some a))).run Tryz.prog w=.ok (.bool true) w:=by
  obtain⟨j,hj⟩:=Option.isSome_iff_exists.1 infoS
  exact run_eql_ptr_same w a Tryz.underlying24 hj
section
variable {X:ST}{D:SD}{w w':World}
theorem smade_st(h:StW X D w):Calls Tryz.prog 63 #[.pointer (some ⟨X.s,0,none⟩)] w fun e w'=>e=.returned (.bool true)∧w'=w:=by
  have c0:w.cell? ⟨X.s,0,none⟩=some (.pointer (some ⟨X.s,0,none⟩)):=cellD h.sb 0
  have he:=fun w=>eqlS w ⟨X.s,0,none⟩
  go_enter Tryz.func63,Tryz.ntmps63
  go_wp2
  go_ret
  exact⟨rfl,rfl⟩
theorem sbroken_st(h:StW X D w):Calls Tryz.prog 43 #[.pointer (some ⟨X.s,0,none⟩)] w fun e w'=>e=.returned (.bool false)∧Below w.heap.size w w':=by
  have M:=smade_st h
  have c16:w.cell? ⟨X.s,16,none⟩=some (.bool false):=cellD h.sb 16
  have c10:w.cell? ⟨X.s,10,none⟩=some (.pointer (some ⟨X.B.j,0,none⟩)):=cellD h.sb 10
  have c12:w.cell? ⟨X.s,12,none⟩=some (.pointer (some ⟨X.B.a,0,none⟩)):=cellD h.sb 12
  have JB:=jbroken_any h.jb
  have AB:=abroken_any h.ab
  go_enter Tryz.func43,Tryz.ntmps43
  go_wp2_with (first
    | (go_at_call 63;(with_reducible refine M.mono ?_);rintro e w ⟨rfl,rfl⟩)
    | (go_at_call 122;(with_reducible refine JB.mono ?_);rintro e w ⟨rfl,rfl⟩)
    | (go_at_call 123;(with_reducible refine AB.mono ?_);rintro e w ⟨rfl,rfl⟩))
  go_ret
  exact⟨rfl,Below.refl _ _⟩
theorem whole_st(h:StW X D w):Calls Tryz.prog 65 #[.pointer (some ⟨X.s,0,none⟩)] w fun e w'=>e=.returned (.int .i64 0)∧Below w.heap.size w w':=by
  have M:=smade_st h
  have BR:=sbroken_st h
  go_enter Tryz.func65,Tryz.ntmps65
  go_wp2_with (first
    | (go_at_call 63;(with_reducible refine M.mono ?_);rintro e w ⟨rfl,rfl⟩)
    | (go_at_call 43;(with_reducible refine BR.mono ?_);rintro e w2 ⟨rfl,b2⟩))
  go_ret
  exact⟨rfl,b2⟩
theorem ready_st{tx p:Nat}(h:StW X D w)(hl:D.tm.lookup (tx:Int)=some (mk 2 p)):Calls Tryz.prog 67 #[.pointer (some ⟨X.s,0,none⟩),.int .i64 (tx:Int)] w fun e w'=>e=.returned (.int .i64 0)∧Below w.heap.size w w':=by
  have WH:=whole_st h
  have OP:=fun w' (b:Below w.heap.size w w')=>isOpen_tab (h.below b).tb ((h.below b).tw▸(h.below b).tm) (tx:Int) p hl
  have c13:∀ w',Below w.heap.size w w'→w'.cell? ⟨X.s,13,none⟩=some (.pointer (some ⟨X.B.t,0,none⟩)):=fun w' b=>cellD (h.below b).sb 13
  have HO:=Lib.hid OP
  have HC:=Lib.hid c13
  clear OP c13
  go_enter Tryz.func67,Tryz.ntmps67
  go_wp2_with (first
    | (go_at_call 65;(with_reducible refine WH.mono ?_);rintro e w2 ⟨rfl,b2⟩;have O2:=HO.out w2 b2;have x13:=HC.out w2 b2)
    | (go_at_call 84;(with_reducible refine O2.mono ?_);rintro e w3 ⟨rfl,b3⟩))
  go_ret
  exact⟨rfl,b2.trans (b3.mono b2.size)⟩
theorem StW.table{T':TR}{tm':List (Int×Value)}{ov':List Int}(h:StW X D w)(k:Kp (TF X.B.t D.T) w w')(ht:TB w' X.B.t T')(hw:T'.who=X.who)(hm:MapI w' X.who tm')(ho:OR w' X.n0 T'.ov ov'):StW X { D with T:=T',tm:=tm',ov:=ov' } w':=by
  have ne:∀ {g:Nat} {x:Array Value} {u:TypeId} {z:Nat×Nat},w.heap[g]? = some (.cells x u z)→u≠235→u≠3→¬TF X.B.t D.T g:=fun {g x u z} e h1 h2 q=>by
    rcases q with q|q|q
    · exact tag_ne e h.tb h1 q
    · exact h.tm.ne e (h.tw▸q.symm)
    · exact h.tr.ne e h2 q
  have nm:∀ {g:Nat} {l:List (Int×Value)},MapI w g l→X.who≠g→¬TF X.B.t D.T g:=fun {g l} e h1 q=>by
    rcases q with q|q|q
    · exact e.ne h.tb q
    · exact h1 (h.tw▸q.symm)
    · exact h.tr.nem e q
  have no:∀ {B:Nat} {v:Value} {l:List UInt8} {g:Nat},Own w B v l→v.ownBlock=some g→¬TF X.B.t D.T g:=fun {B v l g} o e q=>by
    rcases q with q|q|q
    · subst q;exact o.tag h.tb (by decide) e
    · exact o.tagm h.tm (h.tw▸q▸e)
    · rcases o.2 with⟨e1,-⟩|⟨g',cap,cur',e1,-,hg',-⟩
      · rw[e1] at e;cases e
      · rw[e1] at e;injection e with e;dsimp only at e;subst e
        exact h.tr.ne hg' (by decide) q
  refine⟨k.keep h.sb (ne h.sb (by decide) (by decide)),k.keep h.jb (ne h.jb (by decide) (by decide)),h.jo.kp k (fun g e=>no h.jo e),h.pb.kp k (ne h.pb.box (by decide) (by decide)) (nm h.pb.map h.d2.symm) (fun f hf=>?_) (fun _ _ h=>h),h.ab.kp k (ne h.ab.box (by decide) (by decide)) (nm h.ab.map h.d4.symm),h.dk.apart k (fun g o e q=>?_),ht,hw,hm,ho,h.wk.kp k (nm h.wk h.d6),h.d1,h.d2,h.d3,h.d4,h.d5,h.d6,h.hi⟩
  · obtain⟨cur,e,-⟩:=(h.pb.fr f hf).row
    exact⟨ne e (by decide) (by decide),fun g e1=>no (h.pb.fr f hf).pay e1⟩
  · rcases e with e|e|e
    · rw[e,show w.heap[X.B.t]? = _ from h.tb] at q;injection q with q;subst q
      exact⟨NoD.cells (by decide) (by decide) (by decide),.inr fun y e=>by injection e with _ e;exact absurd e (by decide)⟩
    · obtain⟨E,c,hE,-⟩:=h.tm
      rw[e,h.tw,hE] at q;injection q with q;subst q
      exact⟨NoD.map _ _,.inr fun x e=>nomatch e⟩
    · rcases h.tr.2 with⟨e1,-⟩|⟨g',cap,cur',e1,-,hg',-⟩
      · rw[e1] at e;cases e
      · rw[e1] at e;injection e with e;dsimp only at e;subst e
        rw[hg'] at q;injection q with q;subst q
        exact⟨NoD.cells (by decide) (by decide) (by decide),.inr fun y e=>by injection e with _ e;exact absurd e (by decide)⟩
theorem keymay_any(A:Option Addr)(n c:Nat)(h1:1≤n)(h2:n≤128)(w:World):Calls Tryz.prog 68 #[.slice A n c] w fun e w'=>e=.returned (.bool true)∧w'=w:=by
  have f1:(1:Int)≤(n:Int):=by omega
  have f2:(n:Int)≤128:=by omega
  go_enter Tryz.func68,Tryz.ntmps68
  go_wp2
  go_ret
  exact⟨rfl,rfl⟩
end
end Go.Proofs.YtdbkocfbhpgpkaaGreat
namespace Go.Proofs.YtdbkocfbhpgpkaaGreat
open Go Go.RowKit Go.Shelf
open Go.Ev (PgM PageOk CellsOut rowsOf rowsV rowV rowsOf_len BelowIs)
set_option maxRecDepth 100000
set_option maxHeartbeats 4000000
structure Hi(X:ST):Prop where
  s:X.n0≤X.s
  d:X.n0≤X.B.d
  j:X.n0≤X.B.j
  p:X.n0≤X.B.p
  a:X.n0≤X.B.a
  t:X.n0≤X.B.t
  wk:X.n0≤X.B.wk
  m:X.n0≤X.m
  im:X.n0≤X.im
  db:X.n0≤X.db
  who:X.n0≤X.who
section
variable {X:ST}{D:SD}{w w':World}
end
end Go.Proofs.YtdbkocfbhpgpkaaGreat
namespace Go.Proofs.YtdbkocfbhpgpkaaGreat
open Go Go.RowKit Go.Shelf
set_option maxRecDepth 100000
set_option maxHeartbeats 4000000
section
variable {X:ST}{D:SD}{w w':World}
theorem StW.jour{J':JR}(h:StW X D w)(k:Kp (fun k=>k=X.B.j∨D.J.wv.ownBlock=some k) w w')(jb:JB w' X.B.j X.B.d J')(jo:Own w' X.n0 J'.wv J'.waits)(hz:∀ g,J'.wv.ownBlock=some g→D.J.wv.ownBlock=some g∨w.heap.size≤g):StW X { D with J:=J' } w':=by
  have ne:∀ {g:Nat} {y:Array Value} {u:TypeId} {z:Nat×Nat},w.heap[g]? = some (.cells y u z)→u≠232→u≠5→¬(g=X.B.j∨D.J.wv.ownBlock=some g):=fun {g y u z} e h2 h3 q=>by
    rcases q with q|q
    · exact tag_ne e h.jb h2 q
    · exact h.jo.tag e h3 q
  have nm:∀ {g:Nat} {m:List (Int×Value)},MapI w g m→¬(g=X.B.j∨D.J.wv.ownBlock=some g):=fun {g m} e q=>by
    rcases q with q|q
    · exact e.ne h.jb q
    · exact h.jo.tagm e q
  have hz':∀ g,g<w.heap.size→Zj J' g→Zj D.J g:=fun g hg e=>by
    rcases hz g e with e|e
    · exact e
    · omega
  refine⟨k.keep h.sb (ne h.sb (by decide) (by decide)),jb,jo,h.pb.kp k (ne h.pb.box (by decide) (by decide)) (nm h.pb.map) (fun f hf=>?_) hz',h.ab.kp k (ne h.ab.box (by decide) (by decide)) (nm h.ab.map),h.dk.other k (fun g o e q=>?_) hz' (fun g e=>jo.lt g e),k.keep h.tb (ne h.tb (by decide) (by decide)),h.tw,h.tm.kp k (nm h.tm),h.tr.kp k (fun g e q=>?_),h.wk.kp k (nm h.wk),h.d1,h.d2,h.d3,h.d4,h.d5,h.d6,h.hi⟩
  · obtain⟨cur,e,-⟩:=(h.pb.fr f hf).row
    refine⟨ne e (by decide) (by decide),fun g e1 e2=>?_⟩
    rcases e2 with e2|e2
    · exact(h.pb.fr f hf).pay.tag h.jb (by decide) (e2▸e1)
    · exact(h.pb.fr f hf).dry g e1 e2
  · rcases e with e|e
    · rw[e,show w.heap[X.B.j]? = _ from h.jb] at q;injection q with q;subst q
      exact⟨NoD.cells (by decide) (by decide) (by decide),.inr fun y e=>by injection e with _ e;exact absurd e (by decide)⟩
    · refine⟨?_,.inl e⟩
      rcases h.jo.2 with⟨e1,-⟩|⟨g',cap,cur',e1,-,hg',-⟩
      · rw[e1] at e;cases e
      · rw[e1] at e;injection e with e;dsimp only at e;subst e
        rw[hg'] at q;injection q with q;subst q
        exact NoD.cells (by decide) (by decide) (by decide)
  · rcases q with q|q
    · exact h.tr.ne h.jb (by decide) (q▸e)
    · rcases h.jo.2 with⟨e1,-⟩|⟨g',cap,cur',e1,-,hg',-⟩
      · rw[e1] at q;cases q
      · rw[e1] at q;injection q with q;dsimp only at q;subst q
        exact h.tr.ne hg' (by decide) e
end
end Go.Proofs.YtdbkocfbhpgpkaaGreat
