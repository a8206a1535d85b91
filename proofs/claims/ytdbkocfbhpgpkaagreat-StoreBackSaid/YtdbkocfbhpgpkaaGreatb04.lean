/-
  chancery/disk: New, Fail, Durable: what each call does.
-/
import Derived.Test.YtdbkocfbhpgpkaaGreatb03
import Derived.Deep.RegionHeld3
import Derived.Deep.OwnRows
set_option linter.unusedVariables false
set_option linter.unusedSimpArgs false
namespace Go.Proofs.YtdbkocfbhpgpkaaGreat
open Go Go.RowKit
set_option maxRecDepth 100000
set_option maxHeartbeats 1600000
variable {Z:Nat→Prop}
def Bk (Z:Nat→Prop)(w:World)(v:Value)(l:List UInt8):Prop:=∃ g,v=.slice (some ⟨g,0,none⟩) 4096 4096∧w.heap[g]? = some (.cells (l.map u8V).toArray 5 (0,0))∧l.length=4096∧¬Z g
def Db (Z:Nat→Prop)(w:World)(v:Value)(l:List UInt8):Prop:=Bk Z w v l∨(v=.slice none 0 0∧l=zs)
theorem tag_ne{w:World}{a b:Nat}{x y:Array Value}{t u:TypeId}{z z':Nat×Nat}(h:w.heap[a]? = some (.cells x t z))(g:w.heap[b]? = some (.cells y u z'))(htu:t≠u):a≠b:=by
  rintro rfl
  rw[h] at g
  cases g
  exact htu rfl
theorem hlt{w:World}{a:Nat}{o:Obj}(h:w.heap[a]? = some o):a<w.heap.size:=(Array.getElem?_eq_some_iff.1 h).1
theorem Bk.rd{w:World}{v:Value}{l:List UInt8}(h:Bk Z w v l):∃ A,v=.slice A 4096 4096∧Rd w w.heap.size A l:=by
  obtain⟨g,rfl,hg,hl,-⟩:=h
  exact⟨_,rfl,fun _=>⟨g,0,rfl,hlt hg,fun k hk=>by simp[World.cell?,hg,hk]⟩⟩
theorem Bk.of_own{w:World}{base g:Nat}{l:List UInt8}(h:Own w base (.slice (some ⟨g,0,none⟩) 4096 4096) l)(hl:l.length=4096)(hz:¬Z g):Bk Z w (.slice (some ⟨g,0,none⟩) 4096 4096) l:=
  ⟨g,rfl,h.full hl (by omega),hl,hz⟩
theorem Bk.same{w w':World}{v:Value}{l:List UInt8}(h:Bk Z w v l)(hb:∀ (g:Nat) (x:Array Value),w.heap[g]? = some (.cells x 5 (0,0))→w'.heap[g]? = w.heap[g]?):Bk Z w' v l:=by
  obtain⟨g,rfl,hg,hl,hz⟩:=h
  exact⟨g,rfl,(hb g _ hg).trans hg,hl,hz⟩
theorem Bk.wet{Z':Nat→Prop}{w w':World}{v:Value}{l:List UInt8}(h:Bk Z w v l)(hz:∀ g,g<w.heap.size→Z' g→Z g)(hb:∀ (g:Nat) (x:Array Value),¬Z g→w.heap[g]? = some (.cells x 5 (0,0))→w'.heap[g]? = w.heap[g]?):Bk Z' w' v l:=by
  obtain⟨g,rfl,hg,hl,hn⟩:=h
  exact⟨g,rfl,(hb g _ hn hg).trans hg,hl,fun hh=>hn (hz g (Array.getElem?_eq_some_iff.1 hg).1 hh)⟩
theorem Db.same{w w':World}{v:Value}{l:List UInt8}(h:Db Z w v l)(hb:∀ (g:Nat) (x:Array Value),w.heap[g]? = some (.cells x 5 (0,0))→w'.heap[g]? = w.heap[g]?):Db Z w' v l:=
  h.imp (fun h=>h.same hb) id
theorem Db.rd{w:World}{v:Value}{l:List UInt8}(h:Db Z w v l):(∃ A,v=.slice A 4096 4096∧Rd w w.heap.size A l∧l.length=4096)∨(v=.slice none 0 0∧l=zs):=by
  rcases h with h|h
  · obtain⟨A,e,r⟩:=h.rd
    obtain⟨_,_,_,hl,-⟩:=h
    exact .inl ⟨A,e,r,hl⟩
  · exact .inr h
def wc:List (Nat×List UInt8)→List Value→List Value
  | x::ws,u::us=>.int .i64 (x.1:Int)::u::wc ws us
  | _,_=>[]
theorem wc_snoc:∀ (ws:List (Nat×List UInt8)) (us:List Value) (x:Nat×List UInt8) (u:Value),us.length=ws.length→wc (ws++[x]) (us++[u])=wc ws us++[.int .i64 (x.1:Int),u]
  | [],[],x,u,_=>rfl
  | y::ws,z::us,x,u,h=>by simp[wc,wc_snoc ws us x u (by simpa using h)]
theorem wc_at:∀ (ws:List (Nat×List UInt8)) (us:List Value) (k:Nat) (h:k<ws.length) (h':k<us.length),(wc ws us)[k * 2]? = some (.int .i64 (ws[k].1:Int))∧(wc ws us)[k * 2+1]? = some us[k]
  | x::ws,u::us,0,_,_=>⟨rfl,rfl⟩
  | x :: ws, u :: us, k + 1, h, h' => by
    have:=wc_at ws us k (by simpa using h) (by simpa using h')
    rw[show(k+1) * 2=k * 2+1+1 by omega]
    simpa[wc] using this
def Pn (Z:Nat→Prop)(w:World)(n0:Nat)(pv:Value)(ws:List (Nat×List UInt8)):Prop:=
  ∃ us:List Value,us.length=ws.length∧w.ownsRow n0 203 2 pv ws.length (wc ws us)∧∀ k (h:k<us.length) (h':k<ws.length),Bk Z w us[k] ws[k].2
structure Dk(Z:Nat→Prop)(w:World)(n0 d db:Nat)(pv:Value)(P:PD):Prop where
  box:DB w d db P.bs.length pv P.ft P.wh
  row:∃ cs:Array Value,w.heap[db]? = some (.cells cs 33 (0,0))∧cs.size=P.bs.length∧∀ k (h:k<P.bs.length),∃ u,cs[k]? = some u∧Db Z w u P.bs[k]
  pend:Pn Z w n0 pv P.ws
  ok:P.Ok
  base:n0≤w.heap.size
  wet:∀ g,Z g→g<w.heap.size
structure Fr(n0 d db:Nat)(w w':World):Prop where
  kp:Kp (fun k=>k=d∨k=db∨(n0≤k∧∃ x,w.heap[k]? = some (Obj.cells x 203 (0,0)))) w w'
theorem Fr.refl(n0 d db:Nat)(w:World):Fr n0 d db w w:=⟨Kp.refl _ _⟩
theorem Fr.then{n0 d db:Nat}{a b c:World}(h:Fr n0 d db a b)(g:Fr n0 d db b c):Fr n0 d db a c:=⟨h.kp.trans g.kp fun k hk hh=>by
  rcases hh with e|e|⟨hn,x,hx⟩
  · exact .inl e
  · exact .inr (.inl e)
  · refine Classical.byContradiction fun hc=>hc (.inr (.inr ⟨hn,x,?_⟩))
    rw[← h.kp.block k hk hc];exact hx⟩
theorem Fr.keep{n0 d db:Nat}{w w':World}(h:Fr n0 d db w w'){g:Nat}{o:Obj}(hx:w.heap[g]? = some o)(h1:g≠d)(h2:g≠db)(h3:∀ x,o≠Obj.cells x 203 (0,0)):w'.heap[g]? = w.heap[g]?:=
  h.kp.block g (Array.getElem?_eq_some_iff.1 hx).1 fun hh=>by
    rcases hh with e|e|⟨_,x,hy⟩
    · exact h1 e
    · exact h2 e
    · rw[hx] at hy;cases hy;exact h3 x rfl
theorem Fr.size{n0 d db:Nat}{w w':World}(h:Fr n0 d db w w'):w.heap.size≤w'.heap.size:=h.kp.size
theorem ownsRow_same{w w':World}{base:Nat}{e:TypeId}{size:Nat}{v:Value}{n:Nat}{xs:List Value}(h:w.ownsRow base e size v n xs)(hb:∀ (g:Nat) (x:Array Value),w.heap[g]? = some (.cells x e (0,0))→w'.heap[g]? = w.heap[g]?):w'.ownsRow base e size v n xs:=by
  refine⟨h.1,?_⟩
  rcases h.2 with e|⟨g,cap,cur,h1,h2,h3,h4⟩
  · exact .inl e
  · exact .inr ⟨g,cap,cur,h1,h2,(hb g _ h3).trans h3,h4⟩
theorem Pn.same{w w':World}{n0:Nat}{pv:Value}{ws:List (Nat×List UInt8)}(h:Pn Z w n0 pv ws)(h8:∀ (g:Nat) (x:Array Value),w.heap[g]? = some (.cells x 203 (0,0))→w'.heap[g]? = w.heap[g]?)(h5:∀ (g:Nat) (x:Array Value),w.heap[g]? = some (.cells x 5 (0,0))→w'.heap[g]? = w.heap[g]?):Pn Z w' n0 pv ws:=by
  obtain⟨us,h1,h2,h3⟩:=h
  exact⟨us,h1,ownsRow_same h2 h8,fun k a b=>(h3 k a b).same h5⟩
theorem Pn.nil(w:World)(n0:Nat):Pn Z w n0 (.slice none 0 0) []:=⟨[],rfl,World.ownsRow_nil _ _ _ _,fun k h=>by simp at h⟩
theorem Pn.form{w:World}{n0:Nat}{pv:Value}{ws:List (Nat×List UInt8)}(h:Pn Z w n0 pv ws):∃ A c,pv=.slice A ws.length c:=by
  obtain⟨us,h1,h2,h3⟩:=h
  rcases h2.2 with⟨rfl,e⟩|⟨g,c,_,rfl,_⟩
  · rw[e];exact⟨_,_,rfl⟩
  · exact⟨_,_,rfl⟩
theorem Pn.at_{w:World}{n0:Nat}{pv:Value}{ws:List (Nat×List UInt8)}(h:Pn Z w n0 pv ws){k:Nat}(hk:k<ws.length):∃ g c u,pv=.slice (some ⟨g,0,none⟩) ws.length c∧w.cell? ⟨g,k * 2,none⟩=some (.int .i64 (ws[k].1:Int))∧w.cell? ⟨g,k * 2+1,none⟩=some u∧Bk Z w u ws[k].2:=by
  obtain⟨us,h1,h2,h3⟩:=h
  rcases h2.2 with⟨_,e⟩|⟨g,c,cur,rfl,_,hg,_,_,_,ht⟩
  · omega
  · obtain⟨a,b⟩:=wc_at ws us k hk (by omega)
    rw[← ht,List.getElem?_take,if_pos (by omega)] at a b
    exact⟨g,c,us[k],rfl,by simpa[World.cell?,hg] using a,by simpa[World.cell?,hg] using b,h3 k (by omega) hk⟩
theorem Pn.blk{w:World}{n0:Nat}{pv:Value}{ws:List (Nat×List UInt8)}(h:Pn Z w n0 pv ws){k:Nat}(hk:pv.ownBlock=some k):n0≤k∧∃ x,w.heap[k]? = some (.cells x 203 (0,0)):=by
  obtain⟨us,h1,h2,h3⟩:=h
  rcases h2.2 with⟨rfl,e⟩|⟨g,c,cur,rfl,hn,hg,_⟩
  · simp[Value.ownBlock] at hk
  · simp only[Value.ownBlock,Option.some.injEq] at hk
    subst hk
    exact⟨hn,_,hg⟩
section
variable {w w':World}{n0 d db:Nat}{pv:Value}{P:PD}
theorem Dk.below(h:Dk Z w n0 d db pv P)(hb:Below w.heap.size w w'):Dk Z w' n0 d db pv P:=by
  have hs:∀ (g:Nat) (o:Obj),w.heap[g]? = some o→w'.heap[g]? = w.heap[g]?:=fun g o hg=>hb.block g (hlt hg)
  obtain⟨cs,h1,h2,h3⟩:=h.row
  exact⟨(hs _ _ h.box).trans h.box,⟨cs,(hs _ _ h1).trans h1,h2,fun k hk=>by obtain⟨u,a,b⟩:=h3 k hk;exact⟨u,a,b.same fun g x hg=>hs g _ hg⟩⟩,
    h.pend.same (fun g x hg=>hs g _ hg) fun g x hg=>hs g _ hg,h.ok,Nat.le_trans h.base hb.size,fun g hg=>Nat.lt_of_lt_of_le (h.wet g hg) hb.size⟩
theorem Fr.below(h:Below w.heap.size w w'):Fr n0 d db w w':=⟨Kp.of h⟩
theorem Dk.turnW(h:Dk Z w n0 d db pv P){ft wh:Int}(hD:DB w' d db P.bs.length pv ft wh)(hK:Kp (·=d) w w')(h1:-1≤ft)(h2:ft≤1000):Dk Z w' n0 d db pv { P with ft:=ft,wh:=wh }:=by
  have hs:∀ (g:Nat) (x:Array Value) (t:TypeId),w.heap[g]? = some (.cells x t (0,0))→t≠147→w'.heap[g]? = w.heap[g]?:=fun g x t hg ht=>hK.block g (hlt hg) (tag_ne hg h.box ht)
  obtain⟨cs,h3,h4,h5⟩:=h.row
  exact⟨hD,⟨cs,(hs _ _ _ h3 (by decide)).trans h3,h4,fun k hk=>by obtain⟨u,a,b⟩:=h5 k hk;exact⟨u,a,b.same fun g x hg=>hs g _ _ hg (by decide)⟩⟩,
    h.pend.same (fun g x hg=>hs g _ _ hg (by decide)) fun g x hg=>hs g _ _ hg (by decide),⟨h.ok.lens,h.ok.wlens,h1,h2⟩,Nat.le_trans h.base hK.size,fun g hg=>Nat.lt_of_lt_of_le (h.wet g hg) hK.size⟩
theorem Dk.turn(h:Dk Z w n0 d db pv P){ft:Int}(hD:DB w' d db P.bs.length pv ft P.wh)(hK:Kp (·=d) w w')(h1:-1≤ft)(h2:ft≤1000):Dk Z w' n0 d db pv { P with ft:=ft }:=h.turnW hD hK h1 h2
theorem Fr.of_d(hK:Kp (·=d) w w'):Fr n0 d db w w':=⟨hK.weaken fun _ h=>.inl h⟩
theorem whole_db{v:Value}{l:List UInt8}(h:Db Z w v l)(hw:∀ g,Z g→g<w.heap.size) :
    Calls Tryz.prog 140 #[v] w fun e w'=>(∃ u,e=.returned u∧Bk Z w' u l∧∃ g,u=.slice (some ⟨g,0,none⟩) 4096 4096∧w.heap.size≤g)∧Below w.heap.size w w':=by
  rcases h.rd with⟨A,rfl,hr,hl⟩|⟨rfl,rfl⟩
  · refine(whole_any A 4096 4096 l w hr hl.symm (by omega) (fun e=>by simp[e] at hl)).mono ?_
    rintro e w' ⟨⟨g,rfl,ho⟩,hb⟩
    exact⟨⟨_,rfl,by have:=Bk.of_own (Z:=Z) ho (pad_len (by omega)) (fun hz=>by have:=hw _ hz;have:=ho.blk g rfl;omega);rwa[pad_full hl] at this,g,rfl,ho.blk g rfl⟩,hb⟩
  · refine(whole_any none 0 0 [] w (.nil _ _ _) rfl (by simp) (fun _=>⟨rfl,rfl,rfl⟩)).mono ?_
    rintro e w' ⟨⟨g,rfl,ho⟩,hb⟩
    exact⟨⟨_,rfl,Bk.of_own ho zs_len (fun hz=>by have:=hw _ hz;have:=ho.blk g rfl;omega),g,rfl,ho.blk g rfl⟩,hb⟩
end
theorem apG{w:World}{ops:Array Oper}{rest:List Oper}{o:Oper}{a:Act}{Q:Exit→Act→World→Prop}(hgd:o.guard=none)(s x:Operand)(t e:TypeId)(z:Value)(size bytes:Nat)
    (ht:Tryz.prog.underlying t=some (.slice e)) (hi:(Tryz.prog.info? e).map (fun i=>(i.zero,i.size,i.bytes))=some (some z,size,bytes)) (hzs:z.cells.size=size) (hsz:0<size)
    (ho:o.op=.call { callee:=.builtin .append,args:=#[s,x],argTypes:=#[t,t] })
    (base:Nat) (v:Value) (n:Nat) (xs:List Value) (hs:a.eval s=v) (hown:w.ownsRow base e size v n xs) (ad:Addr) (m c:Nat) (news:List Value) (hx:a.eval x=.slice (some ad) m c) (hl:news.length=m * size)
    (hnews:∀ j u,news[j]? = some u→w.cell? (ad.add j)=some u) (h1:∀ u∈news,u.oneCell'=true) (h63:n+m≤maxLen) (hbytes:(n+m) * bytes≤140737488355328) (hbase:base≤w.heap.size)
    (h:∀ v' w',w'.ownsRow base e size v' (n+m) (xs++news)→w.grownBy w' v.ownBlock→(v'.ownBlock=v.ownBlock∨v'.ownBlock=some w.heap.size)→wpList Tryz.prog ops Q rest (a.put o.dst v') w'):wpList Tryz.prog ops Q (o::rest) a w:=by
  obtain⟨i0,hi,hz0,hz1,hz2⟩:=info_parts hi
  obtain⟨v',w',hrun,h2,h3,_,h5⟩:=run_append_own_at (P:=Tryz.prog) w base t o.type e i0 z size bytes ht hi hz0 hz1 hz2 hzs hsz v n xs hown ad m c news hl hnews h1 h63 hbytes hbase
  refine wpList_plain hgd fun _ hK=>?_
  unfold Oper.wp execOp
  simp only[ho,resolve,invoke,builtin,Sem.run_bind,Sem.run_pure,Result.andThen_ok,List.map_toArray,List.map_cons,List.map_nil,hs,hx,hrun]
  exact hK _ _ (h v' w' h2 h3 h5)
end Go.Proofs.YtdbkocfbhpgpkaaGreat
namespace Go.Proofs.YtdbkocfbhpgpkaaGreat
open Go Go.RowKit
set_option maxRecDepth 100000
set_option maxHeartbeats 1600000
variable {Z:Nat→Prop}
theorem cellD{w:World}{d:Nat}{cs:Array Value}{t:TypeId}{z:Nat×Nat}(h:w.heap[d]? = some (.cells cs t z))(k:Nat):w.cell? ⟨d,k,none⟩=cs[k]?:=by simp[World.cell?,h]
theorem frozenD{w:World}{d:Nat}{cs:Array Value}{t:TypeId}(h:w.heap[d]? = some (.cells cs t (0,0)))(k:Nat):w.frozen? ⟨d,k,none⟩=false:=by simp[World.frozen?,h]
theorem disarm_any{w:World}{d:Nat}{a0 a1 a2 a3 a4 a5 a6:Value}(hg:w.heap[d]? = some (.cells #[a0,a1,a2,a3,a4,a5,a6] 147 (0,0))) :
    Calls Tryz.prog 141 #[.pointer (some ⟨d,0,none⟩)] w fun e w'=>e=.returned (.tuple #[])∧w'.heap[d]? = some (.cells #[a0,a1,a2,a3,.int .i64 (-1),.int .i64 (-1),.int .i64 0] 147 (0,0))∧Kp (·=d) w w':=by
  have g1:(w.setCell ⟨d,4,none⟩ (.int .i64 (-1))).heap[d]? = some (.cells #[a0,a1,a2,a3,.int .i64 (-1),a5,a6] 147 (0,0)):=by rw[heap_setCell_same w d 4 _ _ _ hg];rfl
  have k1:Kp (·=d) w (w.setCell ⟨d,4,none⟩ (.int .i64 (-1))):=Kp.setCell (S:=(·=d)) w (p:=⟨d,4,none⟩) rfl _
  have s1:Calls Tryz.prog 142 #[.pointer (some ⟨d,4,none⟩),.int .i64 (-1)] w fun e w'=>e=.returned (.tuple #[])∧w'=w.setCell ⟨d,4,none⟩ (.int .i64 (-1)):=Store_any _ (cellD hg 4) (frozenD hg 4)
  generalize w.setCell ⟨d,4,none⟩ (.int .i64 (-1))=w1 at g1 k1 s1
  have g2:(w1.setCell ⟨d,5,none⟩ (.int .i64 (-1))).heap[d]? = some (.cells #[a0,a1,a2,a3,.int .i64 (-1),.int .i64 (-1),a6] 147 (0,0)):=by rw[heap_setCell_same w1 d 5 _ _ _ g1];rfl
  have k2:Kp (·=d) w (w1.setCell ⟨d,5,none⟩ (.int .i64 (-1))):=k1.then (Kp.setCell (S:=(·=d)) w1 (p:=⟨d,5,none⟩) rfl _)
  have s2:Calls Tryz.prog 142 #[.pointer (some ⟨d,5,none⟩),.int .i64 (-1)] w1 fun e w'=>e=.returned (.tuple #[])∧w'=w1.setCell ⟨d,5,none⟩ (.int .i64 (-1)):=Store_any _ (cellD g1 5) (frozenD g1 5)
  generalize w1.setCell ⟨d,5,none⟩ (.int .i64 (-1))=w2 at g2 k2 s2
  have c6:w2.cell? ⟨d,6,none⟩=some a6:=cellD g2 6
  have z6:w2.frozen? ⟨d,6,none⟩=false:=frozenD g2 6
  have g3:(w2.setCell ⟨d,6,none⟩ (.int .i64 0)).heap[d]? = some (.cells #[a0,a1,a2,a3,.int .i64 (-1),.int .i64 (-1),.int .i64 0] 147 (0,0)):=by rw[heap_setCell_same w2 d 6 _ _ _ g2];rfl
  have k3:Kp (·=d) w (w2.setCell ⟨d,6,none⟩ (.int .i64 0)):=k2.then (Kp.setCell (S:=(·=d)) w2 (p:=⟨d,6,none⟩) rfl _)
  clear g1 k1 g2 k2
  go_enter Tryz.func141,Tryz.ntmps141
  go_wp2_with (first
    | (go_at_call 142;refine s1.mono ?_;rintro e w1 ⟨rfl,rfl⟩)
    | (go_at_call 142;refine s2.mono ?_;rintro e w1 ⟨rfl,rfl⟩))
  go_end0
  exact⟨rfl,g3,k3⟩
theorem begun_any{w:World}{db n:Nat}{cs:Array Value}(hdb:w.heap[db]? = some (.cells cs 33 (0,0))) :
    Calls Tryz.prog 143 #[.slice (some ⟨db,0,none⟩) n n] w fun e w'=>(∃ d,e=.returned (.pointer (some ⟨d,0,none⟩))∧DB w' d db n (.slice none 0 0) (-1) 0∧w.heap.size≤d)∧Below w.heap.size w w':=by
  obtain⟨o,ho⟩:∃ o:Obj,o=.cells #[.pointer (some ⟨w.heap.size,0,none⟩),.slice (some ⟨db,0,none⟩) n n,.slice none 0 0,.bool false,.int .i64 0,.int .i64 0,.int .i64 0] 147 (0,0):=⟨_,rfl⟩
  have g1:=heap_alloc_new w o
  have b1:Below w.heap.size w (w.alloc o):=(Below.refl _ _).alloc (Nat.le_refl _) _
  rw[ho] at g1 b1
  have D:=disarm_any g1
  go_enter Tryz.func143,Tryz.ntmps143
  go_wp2_with (go_at_call 141;refine D.mono ?_;rintro e w1 ⟨rfl,hD,hK⟩)
  go_ret
  exact⟨⟨w.heap.size,rfl,hD,Nat.le_refl _⟩,b1.trans (hK.below b1.size fun k hk=>by omega)⟩
theorem info37:(Tryz.prog.info? 33).map (fun i=>(i.zero,i.size,i.bytes))=some (some (.slice none 0 0),1,24):=by kernel_rfl
theorem mkB(w:World)(n:Nat)(hn:n≤4096):(Instr.makeSlice 53 (.int .i64 (n:Int)) (.int .i64 (n:Int))).run Tryz.prog w=.ok (.slice (some ⟨w.heap.size,0,none⟩) n n) (w.alloc (.cells (madeCells #[.slice none 0 0] n) 33)):=
  run_make_row' (P:=Tryz.prog) 53 33 (.slice none 0 0) 24 Tryz.underlying53 info37 rfl .i64 .i64 n (by omega) (by omega) w
theorem madeB_get(n k:Nat)(h:k<n):(madeCells #[.slice none 0 0] n)[k]? = some (.slice none 0 0):=by
  simp[madeCells,h,Nat.mod_one]
theorem new_any(w:World)(n:Nat)(h1:1≤n)(h2:n≤4096)(hZ:∀ g,Z g→g<w.heap.size) :
    Calls Tryz.prog 56 #[.int .i64 (n:Int)] w fun e w'=>(∃ d db,e=.returned (.tuple #[.pointer (some ⟨d,0,none⟩),.int .i64 0])∧Dk Z w' w'.heap.size d db (.slice none 0 0) ⟨List.replicate n zs,[],-1,0⟩∧w.heap.size≤d∧w.heap.size≤db)∧Below w.heap.size w w':=by
  have M:=mkB w n h2
  have g1:=heap_alloc_new w (.cells (madeCells #[.slice none 0 0] n) 33)
  have b1:Below w.heap.size w (w.alloc (.cells (madeCells #[.slice none 0 0] n) 33)):=(Below.refl _ _).alloc (Nat.le_refl _) _
  have B:=begun_any (n:=n) g1
  generalize w.alloc (.cells (madeCells #[.slice none 0 0] n) 33)=w1 at M g1 b1 B
  have hz:w.heap.size<w1.heap.size:=hlt g1
  go_enter Tryz.func56,Tryz.ntmps56
  go_wp2_with (go_at_call 143;refine B.mono ?_;rintro e w2 ⟨⟨d,rfl,hD,hd⟩,hb⟩)
  all_goals first | omega | skip
  go_ret2
  refine⟨⟨d,w.heap.size,rfl,⟨?_,⟨madeCells #[.slice none 0 0] n,(hb.block _ hz).trans g1,by simp[madeCells],?_⟩,Pn.nil _ _,⟨?_,?_,?_,?_⟩,Nat.le_refl _,fun g hg=>by have:=hZ g hg;have:=hb.size;omega⟩,by omega,Nat.le_refl _⟩,b1.trans (hb.mono (by omega))⟩
  · simpa using hD
  · intro k hk
    refine⟨_,madeB_get n k (by simpa using hk),.inr ⟨rfl,?_⟩⟩
    simp
  · intro l hl
    simp only[List.mem_replicate] at hl
    rw[hl.2];exact zs_len
  · intro x hx;cases hx
  · show(-1:Int)≤-1;omega
  · show(-1:Int)≤1000;omega
end Go.Proofs.YtdbkocfbhpgpkaaGreat
