/-
  store.record of a commit, Commit.
-/
import Derived.Test.YtdbkocfbhpgpkaaGreatm02
import Derived.Lib.AppendZerosOnto
import Derived.Test.YtdbkocfbhpgpkaaGreatm40
import Derived.Lib.AppendZeros
set_option linter.unusedVariables false
set_option linter.unusedSimpArgs false
namespace Go.Proofs.YtdbkocfbhpgpkaaGreat
open Go Go.RowKit
set_option maxRecDepth 100000
set_option maxHeartbeats 1600000
theorem zeroCells8(k:Nat):Builtin.zeroCells (Value.int .u8 0).cells k=(List.replicate k (u8V 0)).toArray:=by
  apply Array.ext'
  apply List.ext_getElem?
  intro j
  have h1:(#[Value.int .u8 0]:Array Value).size=1:=rfl
  simp only[Builtin.zeroCells,Value.cells,h1,Nat.mul_one,Nat.mod_one,Array.toList_map,Array.toList_range,List.getElem?_map,List.map_replicate,List.getElem?_replicate]
  by_cases h:j<k
  · rw[List.getElem?_range h,if_pos h];rfl
  · rw[List.getElem?_eq_none (by simp;omega),if_neg h];rfl
end Go.Proofs.YtdbkocfbhpgpkaaGreat
namespace Go.Proofs.YtdbkocfbhpgpkaaGreat
open Go Go.RowKit Go.Shelf
set_option maxRecDepth 100000
set_option maxHeartbeats 4000000
theorem zeros_nil(w:World)(N:Nat)(hN:0<N)(hb:N≤1000000) :
    ∃ g c w',(Builtin.append_ #[33,3] 33 #[.slice none 0 0,.int .i64 (N:Int)]).run Tryz.prog w=.ok (.slice (some ⟨g,0,none⟩) N c) w'∧N≤c∧Own w' w.heap.size (.slice (some ⟨g,0,none⟩) 0 c) []∧Below w.heap.size w w':=by
  obtain⟨i0,hi,hz0,hz1,hz2⟩:=info_parts Tryz.info5
  have hrun:=Lib.run_append_nil_zeros (P:=Tryz.prog) w 33 3 33 5 i0 _ .i64 .i64 Tryz.underlying33 Tryz.underlying3 hi hz0 N hN (by omega) (by omega) (by rw[hz2];omega)
  have h1:=grownCap_ge w N 0 5
  have h2:=grownCap_le_maxLen w N 0 5 (by unfold maxLen;omega)
  refine⟨_,_,_,hrun,h1,⟨rfl,.inr ⟨w.heap.size,_,_,rfl,Nat.le_refl _,heap_alloc_new w.drew _,Nat.zero_le _,h2,?_,rfl⟩⟩,((Below.refl _ w).drew).alloc (Nat.le_refl _) _⟩
  rw[zeroCells8,zeroCells8]
  simp
  omega
theorem grow_any(w:World)(N:Nat)(hN:0<N)(hb:N≤1000000) :
    Calls Tryz.prog 167 #[.slice none 0 0,.int .i64 (N:Int)] w fun e w'=>(∃ g c,e=.returned (.slice (some ⟨g,0,none⟩) 0 c)∧Own w' w.heap.size (.slice (some ⟨g,0,none⟩) 0 c) [])∧Below w.heap.size w w':=by
  obtain⟨g,c,w1,hr,hc,ho,hbl⟩:=zeros_nil w N hN hb
  have f1:¬((N:Int)<0):=by omega
  have f2:(0:Int)<(N:Int):=by omega
  have f3:wrap64 ((N:Int)-0)=(N:Int):=by rw[IntWalk.wrap64_in _ (by omega)];omega
  have f4:wrap64 (N:Int)=(N:Int):=IntWalk.wrap64_in _ (by omega)
  go_enter Tryz.func167,Tryz.ntmps167
  go_wp2_with (at_builtin;refine Lib.wpList_append_run _ rfl (.tmp 20) (.tmp 21) 33 3 rfl _ _ rfl rfl _ _ hr ?_)
  go_ret
  exact⟨⟨g,c,rfl,ho⟩,hbl⟩
theorem concat2_any{w:World}{r rc n c m d:Nat}{A B:Option Addr}{l k:List UInt8}(h0:w.cell? ⟨r,0,none⟩=some (.slice A n c))(h1:w.cell? ⟨r,1,none⟩=some (.slice B m d))(hr:r<w.heap.size)(hA:Rd w w.heap.size A l)(hB:Rd w w.heap.size B k)(hn:n=l.length)(hm:m=k.length)(hl:n+m≤100000)(hn1:1≤n) :
    Calls Tryz.prog 71 #[.slice (some ⟨r,0,none⟩) 2 rc] w fun e w'=>(∃ v,e=.returned v∧Own w' w.heap.size v (l++k))∧Below w.heap.size w w':=by
  have GR:=grow_any w (n+m) (by omega) (by omega)
  rw[show((n+m:Nat):Int)=(n:Int)+(m:Int) from Int.natCast_add _ _] at GR
  have HN:=Lib.hid hn
  have HM:=Lib.hid hm
  have HL:=Lib.hid hl
  clear hn hm
  go_enter Tryz.func71,Tryz.ntmps71
  go_wp2
  go_loopw [3,11] (fun sz i wr=>wr=w∧((sz=.int .i64 0∧i=.int .i64 0)∨(sz=.int .i64 (n:Nat)∧i=.int .i64 1)∨(sz=.int .i64 ((n:Int)+(m:Int))∧i=.int .i64 2))) (fun _ i _=>2-(RowKit.intOf i).toNat)
  case atStart=>exact⟨rfl,.inl ⟨rfl,rfl⟩⟩
  case round=>
    obtain⟨rfl,⟨rfl,rfl⟩|⟨rfl,rfl⟩|⟨rfl,rfl⟩⟩:=hrel
    · have f1:¬((n:Int)<0):=by omega
      go_wp2
      refine⟨⟨trivial,.inr (.inl ⟨?_,rfl⟩)⟩,by decide⟩
      first | rfl | (congr 1;omega)
    · have f1:¬((n:Int)+(m:Int)<0):=by omega
      go_wp2
      exact⟨⟨trivial,.inr (.inr ⟨rfl,rfl⟩)⟩,by decide⟩
    · obtain⟨w0,rfl⟩:∃ w0,w0=wr:=⟨_,rfl⟩
      go_wp2_with (go_at_call 167;(with_reducible refine GR.mono ?_);rintro e w2 ⟨⟨g,c2,rfl,ho⟩,b2⟩)
      go_loopw [6,27] (fun v i wr=>Below w0.heap.size w0 wr∧((i=.int .i64 0∧Own wr w0.heap.size v [])∨(i=.int .i64 1∧Own wr w0.heap.size v l)∨(i=.int .i64 2∧Own wr w0.heap.size v (l++k)))) (fun _ i _=>2-(RowKit.intOf i).toNat)
      case atStart=>exact⟨b2,.inl ⟨rfl,ho⟩⟩
      case round=>
        obtain⟨b3,⟨rfl,o3⟩|⟨rfl,o3⟩|⟨rfl,o3⟩⟩:=hrel
        · have d0:wr.cell? ⟨r,0,none⟩=some (.slice A n c):=(b3.cell (p:=⟨r,0,none⟩) hr).trans h0
          go_wp2_with (at_builtin;refine apB rfl (.tmp 31) (.tmp 32) rfl w0.heap.size _ _ rfl o3 _ _ n c l rfl HN.out (hA.below b3) ?c1 ?c2 ?_)
          case c1=>have:=HL.out;have:=HN.out;simp;omega
          case c2=>exact b3.size
          intro v' w4 o4 b4 _ _
          go_wp2
          exact⟨⟨b3.trans b4,.inr (.inl ⟨rfl,by simpa using o4⟩)⟩,by decide⟩
        · have d1:wr.cell? ⟨r,1,none⟩=some (.slice B m d):=(b3.cell (p:=⟨r,1,none⟩) hr).trans h1
          go_wp2_with (at_builtin;refine apB rfl (.tmp 31) (.tmp 32) rfl w0.heap.size _ _ rfl o3 _ _ m d k rfl HM.out (hB.below b3) ?c1 ?c2 ?_)
          case c1=>have:=HL.out;have:=HN.out;have:=HM.out;omega
          case c2=>exact b3.size
          intro v' w4 o4 b4 _ _
          go_wp2
          exact⟨⟨b3.trans b4,.inr (.inr ⟨rfl,o4⟩)⟩,by decide⟩
        · go_wp2
          go_ret
          exact⟨⟨_,rfl,o3⟩,b3⟩
theorem infoS:(Tryz.prog.info? 125).isSome=true:=by kernel_rfl
theorem eqlS(w:World)(a:Addr):(binOp .eql 24 (.pointer (some a)) (.pointer (some a))).run Tryz.prog w=.ok (.bool true) w:=by
  obtain⟨j,hj⟩:=Option.isSome_iff_exists.1 infoS
  exact run_eql_ptr_same w a Tryz.underlying24 hj
section
variable {X:ST}{D:SD}{w w':World}
theorem smade_st(h:StW X D w):Calls Tryz.prog 63 #[.pointer (some ⟨X.s,0,none⟩)] w fun e w'=>e=.returned (.bool true)∧w'=w:=by
  have c0:w.cell? ⟨X.s,0,none⟩=some (.pointer (some ⟨X.s,0,none⟩)):=cellD h.sb 0
  have he:=fun w=>eqlS w ⟨X.s,0,none⟩
  go_enter Tryz.func63,Tryz.ntmps63
  go_wp2
  go_ret
  exact⟨rfl,rfl⟩
theorem sbroken_st(h:StW X D w):Calls Tryz.prog 43 #[.pointer (some ⟨X.s,0,none⟩)] w fun e w'=>e=.returned (.bool false)∧Below w.heap.size w w':=by
  have M:=smade_st h
  have c16:w.cell? ⟨X.s,16,none⟩=some (.bool false):=cellD h.sb 16
  have c10:w.cell? ⟨X.s,10,none⟩=some (.pointer (some ⟨X.B.j,0,none⟩)):=cellD h.sb 10
  have c12:w.cell? ⟨X.s,12,none⟩=some (.pointer (some ⟨X.B.a,0,none⟩)):=cellD h.sb 12
  have JB:=jbroken_any h.jb
  have AB:=abroken_any h.ab
  go_enter Tryz.func43,Tryz.ntmps43
  go_wp2_with (first
    | (go_at_call 63;(with_reducible refine M.mono ?_);rintro e w ⟨rfl,rfl⟩)
    | (go_at_call 122;(with_reducible refine JB.mono ?_);rintro e w ⟨rfl,rfl⟩)
    | (go_at_call 123;(with_reducible refine AB.mono ?_);rintro e w ⟨rfl,rfl⟩))
  go_ret
  exact⟨rfl,Below.refl _ _⟩
theorem whole_st(h:StW X D w):Calls Tryz.prog 65 #[.pointer (some ⟨X.s,0,none⟩)] w fun e w'=>e=.returned (.int .i64 0)∧Below w.heap.size w w':=by
  have M:=smade_st h
  have BR:=sbroken_st h
  go_enter Tryz.func65,Tryz.ntmps65
  go_wp2_with (first
    | (go_at_call 63;(with_reducible refine M.mono ?_);rintro e w ⟨rfl,rfl⟩)
    | (go_at_call 43;(with_reducible refine BR.mono ?_);rintro e w2 ⟨rfl,b2⟩))
  go_ret
  exact⟨rfl,b2⟩
theorem ready_st{tx p:Nat}(h:StW X D w)(hl:D.tm.lookup (tx:Int)=some (mk 2 p)):Calls Tryz.prog 67 #[.pointer (some ⟨X.s,0,none⟩),.int .i64 (tx:Int)] w fun e w'=>e=.returned (.int .i64 0)∧Below w.heap.size w w':=by
  have WH:=whole_st h
  have OP:=fun w' (b:Below w.heap.size w w')=>isOpen_tab (h.below b).tb ((h.below b).tw▸(h.below b).tm) (tx:Int) p hl
  have c13:∀ w',Below w.heap.size w w'→w'.cell? ⟨X.s,13,none⟩=some (.pointer (some ⟨X.B.t,0,none⟩)):=fun w' b=>cellD (h.below b).sb 13
  have HO:=Lib.hid OP
  have HC:=Lib.hid c13
  clear OP c13
  go_enter Tryz.func67,Tryz.ntmps67
  go_wp2_with (first
    | (go_at_call 65;(with_reducible refine WH.mono ?_);rintro e w2 ⟨rfl,b2⟩;have O2:=HO.out w2 b2;have x13:=HC.out w2 b2)
    | (go_at_call 84;(with_reducible refine O2.mono ?_);rintro e w3 ⟨rfl,b3⟩))
  go_ret
  exact⟨rfl,b2.trans (b3.mono b2.size)⟩
theorem StW.table{T':TR}{tm':List (Int×Value)}{ov':List Int}(h:StW X D w)(k:Kp (TF X.B.t D.T) w w')(ht:TB w' X.B.t T')(hw:T'.who=X.who)(hm:MapI w' X.who tm')(ho:OR w' X.n0 T'.ov ov'):StW X { D with T:=T',tm:=tm',ov:=ov' } w':=by
  have ne:∀ {g:Nat} {x:Array Value} {u:TypeId} {z:Nat×Nat},w.heap[g]? = some (.cells x u z)→u≠235→u≠3→¬TF X.B.t D.T g:=fun {g x u z} e h1 h2 q=>by
    rcases q with q|q|q
    · exact tag_ne e h.tb h1 q
    · exact h.tm.ne e (h.tw▸q.symm)
    · exact h.tr.ne e h2 q
  have nm:∀ {g:Nat} {l:List (Int×Value)},MapI w g l→X.who≠g→¬TF X.B.t D.T g:=fun {g l} e h1 q=>by
    rcases q with q|q|q
    · exact e.ne h.tb q
    · exact h1 (h.tw▸q.symm)
    · exact h.tr.nem e q
  have no:∀ {B:Nat} {v:Value} {l:List UInt8} {g:Nat},Own w B v l→v.ownBlock=some g→¬TF X.B.t D.T g:=fun {B v l g} o e q=>by
    rcases q with q|q|q
    · subst q;exact o.tag h.tb (by decide) e
    · exact o.tagm h.tm (h.tw▸q▸e)
    · rcases o.2 with⟨e1,-⟩|⟨g',cap,cur',e1,-,hg',-⟩
      · rw[e1] at e;cases e
      · rw[e1] at e;injection e with e;dsimp only at e;subst e
        exact h.tr.ne hg' (by decide) q
  refine⟨k.keep h.sb (ne h.sb (by decide) (by decide)),k.keep h.jb (ne h.jb (by decide) (by decide)),h.jo.kp k (fun g e=>no h.jo e),h.pb.kp k (ne h.pb.box (by decide) (by decide)) (nm h.pb.map h.d2.symm) (fun f hf=>?_) (fun _ _ h=>h),h.ab.kp k (ne h.ab.box (by decide) (by decide)) (nm h.ab.map h.d4.symm),h.dk.apart k (fun g o e q=>?_),ht,hw,hm,ho,h.wk.kp k (nm h.wk h.d6),h.d1,h.d2,h.d3,h.d4,h.d5,h.d6⟩
  · obtain⟨cur,e,-⟩:=(h.pb.fr f hf).row
    exact⟨ne e (by decide) (by decide),fun g e1=>no (h.pb.fr f hf).pay e1⟩
  · rcases e with e|e|e
    · rw[e,show w.heap[X.B.t]? = _ from h.tb] at q;injection q with q;subst q
      exact⟨NoD.cells (by decide) (by decide) (by decide),.inr fun y e=>by injection e with _ e;exact absurd e (by decide)⟩
    · obtain⟨E,c,hE,-⟩:=h.tm
      rw[e,h.tw,hE] at q;injection q with q;subst q
      exact⟨NoD.map _ _,.inr fun x e=>nomatch e⟩
    · rcases h.tr.2 with⟨e1,-⟩|⟨g',cap,cur',e1,-,hg',-⟩
      · rw[e1] at e;cases e
      · rw[e1] at e;injection e with e;dsimp only at e;subst e
        rw[hg'] at q;injection q with q;subst q
        exact⟨NoD.cells (by decide) (by decide) (by decide),.inr fun y e=>by injection e with _ e;exact absurd e (by decide)⟩
theorem tf_ge(h:StW X D w){k:Nat}(e:TF X.B.t D.T k):k=X.B.t∨k=X.who∨X.n0≤k:=by
  rcases e with e|e|e
  · exact .inl e
  · exact .inr (.inl (h.tw▸e))
  · exact .inr (.inr (h.tr.lt e).2)
theorem begin_st(h:StW X D w)(ho:D.ov=[])(hn:D.T.next≤1000000):Calls Tryz.prog 14 #[.pointer (some ⟨X.s,0,none⟩)] w fun e w'=>e=.returned (.tuple #[.int .i64 (D.T.next:Int),.int .i64 0]) ∧
    (∃ v,StW X { D with T:={ D.T with next:=D.T.next+1,ov:=v },tm:=mset D.tm (D.T.next:Int) (mk 2 D.T.last),ov:=[(D.T.next:Int)] } w')∧Kp (TF X.B.t D.T) w w':=by
  have WH:=whole_st h
  have BT:=fun w' (b:Below w.heap.size w w')=>begin_tab (h.below b).tb ((h.below b).tw▸(h.below b).tm) (ho▸(h.below b).tr) hn (h.below b).dk.base
  have c13:∀ w',Below w.heap.size w w'→w'.cell? ⟨X.s,13,none⟩=some (.pointer (some ⟨X.B.t,0,none⟩)):=fun w' b=>cellD (h.below b).sb 13
  have HB:=Lib.hid BT
  have HC:=Lib.hid c13
  clear BT c13 hn
  go_enter Tryz.func14,Tryz.ntmps14
  go_wp2_with (first
    | (go_at_call 65;(with_reducible refine WH.mono ?_);rintro e w2 ⟨rfl,b2⟩;have B2:=HB.out w2 b2;have x13:=HC.out w2 b2)
    | (go_at_call 66;(with_reducible refine B2.mono ?_);rintro e w3 ⟨rfl,v,t3,m3,o3,-,k3⟩))
  go_ret2
  exact⟨rfl,⟨v,(h.below b2).table k3 t3 h.tw (h.tw▸m3) o3⟩,(Kp.of b2).then k3⟩
theorem keymay_any(A:Option Addr)(n c:Nat)(h1:1≤n)(h2:n≤128)(w:World):Calls Tryz.prog 68 #[.slice A n c] w fun e w'=>e=.returned (.bool true)∧w'=w:=by
  have f1:(1:Int)≤(n:Int):=by omega
  have f2:(n:Int)≤128:=by omega
  go_enter Tryz.func68,Tryz.ntmps68
  go_wp2
  go_ret
  exact⟨rfl,rfl⟩
theorem synced_st(h:StW X D w)(n:Nat):Calls Tryz.prog 12 #[.pointer (some ⟨X.s,0,none⟩),.int .i64 (n:Int)] w fun e w'=>e=.returned (.bool (decide (n≤D.J.synced)))∧Below w.heap.size w w':=by
  have M:=smade_st h
  have c10:w.cell? ⟨X.s,10,none⟩=some (.pointer (some ⟨X.B.j,0,none⟩)):=cellD h.sb 10
  have JS:=jsynced_any h.jb
  have e:decide (n≤D.J.synced)=decide ((n:Int)≤(D.J.synced:Int)):=by simp
  rw[e]
  clear e
  go_enter Tryz.func12,Tryz.ntmps12
  go_wp2_with (first
    | (go_at_call 63;(with_reducible refine M.mono ?_);rintro e w ⟨rfl,rfl⟩)
    | (go_at_call 64;(with_reducible refine JS.mono ?_);rintro e w ⟨rfl,rfl⟩))
  go_ret
  exact⟨by first | rfl | simp,Below.refl _ _⟩
end
end Go.Proofs.YtdbkocfbhpgpkaaGreat
namespace Go.Proofs.YtdbkocfbhpgpkaaGreat
open Go Go.RowKit Go.Shelf
open Go.Ev (PgM PageOk CellsOut rowsOf rowsV rowV rowsOf_len BelowIs)
set_option maxRecDepth 100000
set_option maxHeartbeats 4000000
structure Hi(X:ST):Prop where
  s:X.n0≤X.s
  d:X.n0≤X.B.d
  j:X.n0≤X.B.j
  p:X.n0≤X.B.p
  a:X.n0≤X.B.a
  t:X.n0≤X.B.t
  wk:X.n0≤X.B.wk
  m:X.n0≤X.m
  im:X.n0≤X.im
  db:X.n0≤X.db
  who:X.n0≤X.who
def HiF (X:ST)(D:SD):Prop:=∀ f,D.R.held=some f→X.n0≤f.fr
section
variable {X:ST}{D:SD}{w w':World}
theorem sg_hi(hx:Hi X)(hf:HiF X D){k:Nat}(e:SG X D k):X.n0≤k:=by
  rcases e with e|e|⟨f,h,e⟩
  · rw[e];exact hx.p
  · rw[e];exact hx.m
  · rw[e];exact hf f h
theorem sf_hi(h:StW X D w)(hx:Hi X)(hf:HiF X D){k:Nat}(e:SF X D k):X.n0≤k:=by
  rcases e with e|e|e|e
  · exact sg_hi hx hf e
  · rw[e];exact hx.j
  · exact h.jo.blk k e
  · rw[e];exact hx.im
theorem kp_hi{S:Nat→Prop}(h:StW X D w)(k:Kp S w w')(hS:∀ k,S k→X.n0≤k):Below X.n0 w w':=k.below h.dk.base fun g hg e=>by have:=hS g e;omega
end
theorem put_store{X:ST}{D:SD}{w:World}{kn kc vn vc i tx p:Nat}{kA vA:Option Addr}{k val:List UInt8}{cs:List NC}{nc:NC}{Good:Nat→Prop}(h:StW X D w)(hx:Hi X)(hhf:HiF X D)(hwm:D.wm=[])
    (hl:D.tm.lookup (tx:Int)=some (mk 2 p)) (hG:∀ n:Nat,Good n→n≠tx∧∃ q,q≤p∧D.tm.lookup (n:Int)=some (mk 3 q))
    (hp:PgIs D (pgL 1 0 cs)) (hok:PageOk 1 0 cs) (hv1:∀ c∈cs,1≤c.vn) (hb:D.R.base+1<D.P.bs.length) (hB:D.R.base≤100000) (hn:cs.length≤60)
    (hcs:∀ c∈cs,∃ k n,c.key=vkey k n∧1≤k.length∧k.length≤128∧n≤4611686018427387904∧Good n)
    (hrk:∀ w',Kp (SG X D) w w'→Rd w' w.heap.size kA k) (hkn:kn=k.length) (hk1:1≤k.length) (hk3:k.length≤3)
    (hrv:∀ w',Kp (SG X D) w w'→Rd w' w.heap.size vA val) (hvn:vn=val.length) (hv5:val.length≤512)
    (hkey:nc.key=vkey k tx) (hval:nc.val=1::val)
    (hj:BelowIs cs nc.key i) (hno:∀ c∈cs,c.key≠nc.key) (hok':PageOk 1 0 (cs.take i++nc::cs.drop i)) (hne:pgL 1 0 cs≠pgL 1 0 (cs.take i++nc::cs.drop i)) (h1:1≤nc.kn) (h2:nc.kn≤320) (hv2:1≤nc.vn) (h3:nc.vn≤576)
    (hrm:Room D) (htx:tx≤1000000) (ha:D.S.asked≤1000000) (hc:D.R.cnt≤1000000) :
    Calls Tryz.prog 15 #[.pointer (some ⟨X.s,0,none⟩),.int .i64 (tx:Int),.slice kA kn kc,.slice vA vn vc] w fun e w'=>e=.returned (.int .i64 0)∧(∃ f D' v,(D.R.held=some f∨D.R.held=none∧X.n0≤f.fr)∧DnD (D.hold f) D' (pgL 1 0 (cs.take i++nc::cs.drop i))∧StW X { D' with wm:=[((tx:Int),v)] } w')∧Below X.n0 w w':=by
  have RD:=ready_st h hl
  have CL:∀ w1,Below w.heap.size w w1→_:=fun w1 b1=>
    claim_any (tx:=tx) (p:=p) (m:=D.tm) (T:=D.T) (t:=X.B.t) (vers_st (kc:=kc) (kA:=kA) (kn:=kn) (h.below b1) hp hok hv1 hb hB hn ((hrk w1 (Kp.of b1)).more b1.size) hkn hk3 hcs) (fun a b bb q=>q.below bb) (fun w' q=>by
      obtain⟨f,-,-,st⟩:=q
      exact⟨⟨_,st.sb,rfl⟩,st.tb,by have:=st.tm;rw[← st.tw] at this;exact this⟩) hl (fun n g=>(hG n g).2)
  have HC:=Lib.hid CL
  have KM:=keymay_any kA kn kc (by omega) (by omega)
  have f5:¬((512:Int)<(vn:Int)):=by omega
  have f5':¬(512<vn):=by omega
  have HH:=Lib.hid h
  have HRK:=Lib.hid hrk
  have HRV:=Lib.hid hrv
  have HV5:=Lib.hid hv5
  have HVN:=Lib.hid hvn
  have SET:∀ (f:FR) w2 (sA:Option Addr) sc n (vs:List VR) va vc2 BB,f.bytes=pgL 1 0 cs→StW X (D.hold f) w2→Rd w2 w2.heap.size kA k→w2.ownsRow n 158 4 (.slice sA vs.length sc) vs.length (vX vs)→(∀ x∈vs,Good x.by_)→vs.length≤60→(∀ k,SF X (D.hold f) k→k<BB)→BB≤w2.heap.size→Own w2 BB (.slice va nc.vn vc2) nc.val→_:=fun f w2 sA sc n vs va vc2 BB hfl h2' hr hrow hgd hvl hBB hBw hv=>
    set_st (kc:=kc) (vc:=vc2) (i:=i) (tx:=tx) h2' hwm hr hkn hk1 (by omega) hrow (fun x hx=>(hG _ (hgd x hx)).1) hvl rfl hfl hok hv1 hb hB hBB hBw hkey hv hj hno hok' hne h1 h2 hv2 h3 (by omega) ⟨hrm.w1,hrm.w2,hrm.w3,hrm.w4,hrm.w5⟩ htx ha hc
  have HS:=Lib.hid SET
  have hvl:nc.vn=1+val.length:=by have:=congrArg List.length hval;simp[NC.val,bl] at this;omega
  have HVL:=Lib.hid hvl
  have HVAL:=Lib.hid hval
  clear h hrk hrv hv5 hvn SET hvl hval CL hl hG hp hok hv1 hb hB hn hcs hkn hk1 hk3 hkey hj hno hok' hne h1 h2 hv2 h3 hrm htx ha hc hwm
  go_enter Tryz.func15,Tryz.ntmps15
  go_upto_region 11 with (first
    | (go_at_call 67;(with_reducible refine RD.mono ?_);rintro e w1 ⟨rfl,b1⟩;have C1:=HC.out w1 b1)
    | (go_at_call 68;(with_reducible refine(KM _).mono ?_);rintro e w1' ⟨rfl,rfl⟩)
    | (go_at_call 69;(with_reducible refine C1.mono ?_);rintro e w2 ⟨⟨v,n,vs,rfl,hrow,hgd,hlen⟩,hq,k2⟩;obtain⟨A,c,rfl⟩:=row_vform hrow))
  have kw2:Kp (SG X D) w w2:=(Kp.of b1).then k2
  obtain⟨f,hfl,hfd,st2⟩:=hq
  obtain⟨W3,hW3,g3,b3,s3⟩:=box_alloc w2 (.cells #[.int .u8 1] 5)
  obtain⟨W4,hW4,g4,b4,s4⟩:=box_alloc W3 (.cells #[.slice (some ⟨w2.heap.size,0,none⟩) 1 1,.slice vA vn vc] 33)
  have z2:=kw2.size
  have z3:=b3.size
  have z4:=b4.size
  have b24:=b3.trans (b4.mono z3)
  have rk2:=HRK.out w2 kw2
  have rv2:=HRV.out w2 kw2
  have r1:Rd W4 W4.heap.size (some ⟨w2.heap.size,0,none⟩) [1]:=by
    have:=Rd.one w2 1
    rw[show w2.alloc (.cells #[u8V 1] 5)=W3 from hW3] at this
    exact(this.below (b4.mono (by omega))).more (by omega)
  have CC:=concat2_any (rc:=2) (cellD g4 0) (cellD g4 1) (hlt g4) r1 ((rv2.below (b24.mono z2)).more (by omega)) rfl HVN.out (by have:=HV5.out;have:=HVN.out;omega) (Nat.le_refl _)
  have AF:=fun w5 (b5:Below W4.heap.size W4 w5) va vc2 (o5:Own w5 W4.heap.size (.slice va nc.vn vc2) ([1]++val))=>HS.out f w5 A c n vs va vc2 w2.heap.size hfl (st2.below (b24.trans (b5.mono b24.size))) ((rk2.below ((b24.trans (b5.mono b24.size)).mono z2)).more (by have:=b5.size;omega)) (row_keep hrow (b24.trans (b5.mono b24.size))) hgd hlen (fun k e=>st2.sf e) (by have:=b5.size;omega) ((o5.down b24.size).cast HVAL.out.symm)
  have HA:=Lib.hid AF
  have HFD:=Lib.hid hfd
  have HST:=Lib.hid st2
  have HS3:=Lib.hid s3
  have HS4:=Lib.hid s4
  clear AF hfl hfd hrow hgd hlen rk2 rv2 s3 s4 r1 HS HC
  go_wp2_with (first
    | (go_at_call 71;(with_reducible refine CC.mono ?_);rintro e w5 ⟨⟨v5,rfl,o5⟩,b5⟩;obtain⟨va,vc2,rfl,-,-,-⟩:=o5.sl (n:=nc.vn) (by have:=HVL.out;simp;omega);have S5:=HA.out w5 b5 va vc2 o5)
    | (go_at_call 70;(with_reducible refine S5.mono ?_);rintro e w6 ⟨rfl,⟨D',v6,hD,h6⟩,k6⟩))
  go_ret
  have b25:=b24.trans (b5.mono b24.size)
  refine⟨rfl,⟨f,D',v6,?_,hD,h6⟩,?_⟩
  · rcases HFD.out with e|⟨e,-,-,e2⟩
    · exact .inl e
    · exact .inr ⟨e,e2⟩
  · have hn0:=HH.out.dk.base
    have hhf2:HiF X (D.hold f):=fun f' e=>by
      have e:some f=some f':=e
      injection e with e;subst e
      rcases HFD.out with e|⟨-,-,-,e2⟩
      · exact hhf _ e
      · exact e2
    have kb:=(kp_hi HH.out kw2 fun k e=>sg_hi hx hhf e).trans (b25.mono (by omega))
    exact kb.trans (k6.below (by have:=kb.size;omega) fun k hk e=>by
      rcases e with e|e
      · have:=sf_hi HST.out hx hhf2 e;omega
      · have:=hx.wk;omega)
end Go.Proofs.YtdbkocfbhpgpkaaGreat
namespace Go.Proofs.YtdbkocfbhpgpkaaGreat
open Go Go.RowKit Go.Shelf
set_option maxRecDepth 100000
set_option maxHeartbeats 4000000
section
variable {X:ST}{D:SD}{w w':World}
theorem StW.jour{J':JR}(h:StW X D w)(k:Kp (fun k=>k=X.B.j∨D.J.wv.ownBlock=some k) w w')(jb:JB w' X.B.j X.B.d J')(jo:Own w' X.n0 J'.wv J'.waits)(hz:∀ g,J'.wv.ownBlock=some g→D.J.wv.ownBlock=some g∨w.heap.size≤g):StW X { D with J:=J' } w':=by
  have ne:∀ {g:Nat} {y:Array Value} {u:TypeId} {z:Nat×Nat},w.heap[g]? = some (.cells y u z)→u≠232→u≠5→¬(g=X.B.j∨D.J.wv.ownBlock=some g):=fun {g y u z} e h2 h3 q=>by
    rcases q with q|q
    · exact tag_ne e h.jb h2 q
    · exact h.jo.tag e h3 q
  have nm:∀ {g:Nat} {m:List (Int×Value)},MapI w g m→¬(g=X.B.j∨D.J.wv.ownBlock=some g):=fun {g m} e q=>by
    rcases q with q|q
    · exact e.ne h.jb q
    · exact h.jo.tagm e q
  have hz':∀ g,g<w.heap.size→Zj J' g→Zj D.J g:=fun g hg e=>by
    rcases hz g e with e|e
    · exact e
    · omega
  refine⟨k.keep h.sb (ne h.sb (by decide) (by decide)),jb,jo,h.pb.kp k (ne h.pb.box (by decide) (by decide)) (nm h.pb.map) (fun f hf=>?_) hz',h.ab.kp k (ne h.ab.box (by decide) (by decide)) (nm h.ab.map),h.dk.other k (fun g o e q=>?_) hz' (fun g e=>jo.lt g e),k.keep h.tb (ne h.tb (by decide) (by decide)),h.tw,h.tm.kp k (nm h.tm),h.tr.kp k (fun g e q=>?_),h.wk.kp k (nm h.wk),h.d1,h.d2,h.d3,h.d4,h.d5,h.d6⟩
  · obtain⟨cur,e,-⟩:=(h.pb.fr f hf).row
    refine⟨ne e (by decide) (by decide),fun g e1 e2=>?_⟩
    rcases e2 with e2|e2
    · exact(h.pb.fr f hf).pay.tag h.jb (by decide) (e2▸e1)
    · exact(h.pb.fr f hf).dry g e1 e2
  · rcases e with e|e
    · rw[e,show w.heap[X.B.j]? = _ from h.jb] at q;injection q with q;subst q
      exact⟨NoD.cells (by decide) (by decide) (by decide),.inr fun y e=>by injection e with _ e;exact absurd e (by decide)⟩
    · refine⟨?_,.inl e⟩
      rcases h.jo.2 with⟨e1,-⟩|⟨g',cap,cur',e1,-,hg',-⟩
      · rw[e1] at e;cases e
      · rw[e1] at e;injection e with e;dsimp only at e;subst e
        rw[hg'] at q;injection q with q;subst q
        exact NoD.cells (by decide) (by decide) (by decide)
  · rcases q with q|q
    · exact h.tr.ne h.jb (by decide) (q▸e)
    · rcases h.jo.2 with⟨e1,-⟩|⟨g',cap,cur',e1,-,hg',-⟩
      · rw[e1] at q;cases q
      · rw[e1] at q;injection q with q;dsimp only at q;subst q
        exact h.tr.ne hg' (by decide) e
theorem record_st{tx:Nat}(h:StW X D w)(htx:tx≤1000000)(hr:Room D) :
    Calls Tryz.prog 73 #[.pointer (some ⟨X.s,0,none⟩),.agg #[.int .u8 2,.int .i64 (tx:Int),.slice none 0 0]] w fun e w'=>e=.returned (.int .i64 0)∧(∃ v' l',StW X { D with J:={ D.J with wv:=v',waits:=l',last:=D.J.last+1 } } w'∧D.J.waits.length+15≤l'.length∧l'.length≤D.J.waits.length+15)∧Kp (fun k=>k=X.B.j∨D.J.wv.ownBlock=some k) w w':=by
  obtain⟨W1,hW1,g1,b1,s1⟩:=box_alloc w (.cells #[.int .u8 2,.int .i64 (tx:Int),.slice none 0 0] 139)
  have b2:=below_drew W1
  have b12:=b1.trans (b2.mono b1.size)
  have h2:=h.below b12
  have c10:W1.drew.cell? ⟨X.s,10,none⟩=some (.pointer (some ⟨X.B.j,0,none⟩)):=cellD h2.sb 10
  have g2:=keepB b2 g1
  have y0:W1.drew.cell? ⟨w.heap.size,0,none⟩=some (.int .u8 2):=cellD g2 0
  have y1:W1.drew.cell? ⟨w.heap.size,1,none⟩=some (.int .i64 (tx:Int)):=cellD g2 1
  have y2:W1.drew.cell? ⟨w.heap.size,2,none⟩=some (.slice none 0 0):=cellD g2 2
  have AP:=jappend_any (x:=2) (tx:=tx) (n:=0) (c:=0) (A:=none) (M:=15) h2.jb h2.jo h2.dk.base (by have:=hr.w1;omega) (Nat.le_trans (Nat.add_le_add_right (need_mono (by omega)) _) hr.w2) hr.w3 hr.w4 hr.w5 (fun w3 b3=>by
    have E:=enc_any 2 tx htx none 0 0 [] w3 (fun hne=>absurd rfl hne) rfl (by decide) (fun x hx=>absurd hx (by simp)) (fun w4 b4=>rightC_any tx htx w4)
    exact E.mono fun e w5 ⟨⟨v,l,h1,h2,h3,h4⟩,h5⟩=>⟨⟨v,l,h1,h2,h3,by omega⟩,h5⟩)
  rw[show(((2:UInt8)).toNat:Int)=2 from rfl] at AP
  have HH:=Lib.hid h2
  have HB:=Lib.hid b12
  have HS1:=Lib.hid s1
  clear s1 h2 b12 hr htx h g1 g2 b1 b2
  go_enter Tryz.func73,Tryz.ntmps73
  go_upto_region 1 with fail
  go_region_law (first
    | (go_simp;go_at_call 168;(with_reducible refine AP.mono ?_);rintro e w3 ⟨rfl,v',l',j3,o3,q1,q2,qb,k3⟩)
    | fail)
  all_goals
    go_wp2
    go_ret
    exact⟨rfl,⟨v',l',HH.out.jour k3 j3 o3 qb,q1,q2⟩,(Kp.of HB.out).then k3⟩
theorem commit_st{tx p:Nat}{v:Value}(h:StW X D w)(hx:Hi X)(htx:tx≤1000000)(hr:Room D)(hw:D.wm=[((tx:Int),v)])(hl:D.tm.lookup (tx:Int)=some (mk 2 p))(ho:D.ov=[(tx:Int)])(hlast:D.T.last≤1000000) :
    Calls Tryz.prog 18 #[.pointer (some ⟨X.s,0,none⟩),.int .i64 (tx:Int)] w fun e w'=>e=.returned (.tuple #[.int .i64 ((D.J.last:Int)+1),.int .i64 0]) ∧
      (∃ v' l' u,StW X { D with J:={ D.J with wv:=v',waits:=l',last:=D.J.last+1 },T:={ D.T with ov:=u,last:=D.T.last+1 },tm:=mset D.tm (tx:Int) (mk 3 (D.T.last+1)),ov:=[],wm:=[] } w'∧D.J.waits.length+15≤l'.length∧l'.length≤D.J.waits.length+15)∧Below X.n0 w w':=by
  have RD:=ready_st h hl
  have R1:=fun w1 (b1:Below w.heap.size w w1)=>record_st (h.below b1) htx hr
  have HR:=Lib.hid R1
  have HH:=Lib.hid h
  have HW:=Lib.hid hw
  have HL:=Lib.hid hl
  have HO:=Lib.hid ho
  have HLA:=Lib.hid hlast
  clear h hw hl ho hlast R1 htx hr
  have hdel:mdel [((tx:Int),v)] (tx:Int)=[]:=by simp[mdel]
  have HD:=Lib.hid hdel
  clear hdel
  go_enter Tryz.func18,Tryz.ntmps18
  go_upto_region 4 with (go_at_call 67;(with_reducible refine RD.mono ?_);rintro e w1 ⟨rfl,b1⟩)
  have h1:=HH.out.below b1
  have m1:MapI w1 X.B.wk [((tx:Int),v)]:=HW.out▸h1.wk
  have LK:(Instr.lookup 123 (.map (some X.B.wk)) (.int .i64 (tx:Int)) true).run Tryz.prog w1=.ok (.tuple #[v,.bool true]) w1:=by
    have:=run_lookup_int_ok (P:=Tryz.prog) Tryz.underlying123 Tryz.underlying3 m1 (tx:Int) (zeroFn w1)
    simpa[List.lookup] using this
  have x14:w1.cell? ⟨X.s,14,none⟩=some (.map (some X.B.wk)):=cellD h1.sb 14
  have R1:=HR.out w1 b1
  have HH1:=Lib.hid h1
  clear h1 m1
  go_upto_region 9 with (go_at_call 73;(with_reducible refine R1.mono ?_);rintro e w2 ⟨rfl,⟨v2,l2,h2,q1,q2⟩,k2⟩)
  have m2:MapI w2 X.B.wk [((tx:Int),v)]:=HW.out▸h2.wk
  have y14:w2.cell? ⟨X.s,14,none⟩=some (.map (some X.B.wk)):=cellD h2.sb 14
  obtain⟨W3,hU,m3,o3,s3,os3,t3,u3⟩:=run_delete_int (P:=Tryz.prog) Tryz.underlying123 Tryz.underlying3 m2 (tx:Int) 0
  rw[HD.out] at m3
  have kk:Kp (·=X.B.wk) w2 W3:=⟨os3,t3,u3,Nat.le_of_eq s3.symm,fun k _ hk=>o3 k hk⟩
  have h3:=h2.work kk m3
  have z13:W3.cell? ⟨X.s,13,none⟩=some (.pointer (some ⟨X.B.t,0,none⟩)):=cellD h3.sb 13
  have CT:=tcommit_tab h3.tb (h3.tw▸h3.tm) (tx:Int) (HO.out▸h3.tr) p HL.out HLA.out
  have AF:=fun(w4:World) (u:Value) (t4:TB w4 X.B.t { D.T with ov:=u,last:=D.T.last+1 }) (m4:MapI w4 D.T.who (mset D.tm (tx:Int) (mk 3 (D.T.last+1)))) (o4:OR w4 X.n0 u []) (k4:Kp (TF X.B.t D.T) W3 w4)=>h3.table k4 t4 h3.tw (h3.tw▸m4) o4
  have HA:=Lib.hid AF
  have kw2:Kp (fun k=>SF X D k) w w2:=(Kp.of b1).then (k2.weaken fun k e=>e.elim (fun e=>.inr (.inl e)) fun e=>.inr (.inr (.inl e)))
  have HK:=Lib.hid (kw2.size)
  have hn0:=HH.out.dk.base
  have B3:Below X.n0 w W3:=(kp_hi HH.out (((Kp.of b1).then k2)) (fun k e=>by
    rcases e with e|e
    · rw[e];exact hx.j
    · exact HH.out.jo.blk k e)).trans (kk.below (Nat.le_trans hn0 kw2.size) fun g hg e=>by have:=hx.wk;have:g=X.B.wk:=e;omega)
  have HB3:=Lib.hid B3
  have HT:=Lib.hid (fun(k:Nat) (e:TF X.B.t D.T k)=>tf_ge h3 e)
  have HN3:=Lib.hid h3.dk.base
  clear AF kw2 B3 h2 h3 m2 m3 o3 os3 t3 u3 kk k2 LK x14 R1 s3
  go_upto_region 13 with (go_at_call 74;(with_reducible refine CT.mono ?_);rintro e w4 ⟨rfl,u,t4,m4,o4,-,k4⟩)
  have h4:=HA.out w4 u t4 m4 o4 k4
  have v10:w4.cell? ⟨X.s,10,none⟩=some (.pointer (some ⟨X.B.j,0,none⟩)):=cellD h4.sb 10
  have JL:=jlast_any h4.jb
  have HH4:=Lib.hid h4
  clear h4 t4 m4 o4 CT hU
  go_wp2_with (go_at_call 75;(with_reducible refine JL.mono ?_);rintro e w5 ⟨rfl,rfl⟩)
  go_ret2
  refine⟨by first | rfl | (congr 3;omega),⟨v2,l2,u,HH4.out,q1,q2⟩,HB3.out.trans (k4.below HN3.out fun g hg e=>?_)⟩
  rcases HT.out g e with e|e|e
  · have:=hx.t;omega
  · have:=hx.who;omega
  · omega
end
end Go.Proofs.YtdbkocfbhpgpkaaGreat
