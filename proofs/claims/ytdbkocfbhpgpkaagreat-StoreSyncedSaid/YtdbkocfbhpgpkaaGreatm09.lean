/-
  chancery/disk: New, Fail, Durable: what each call does.
-/
import Derived.Test.YtdbkocfbhpgpkaaGreatm01
import Derived.Test.YtdbkocfbhpgpkaaGreatm02
import Derived.Test.YtdbkocfbhpgpkaaGreatm08
import Derived.Laws.ResultCell
import Derived.Laws.LoneSync
import Derived.LaidEqlPtr
import Derived.StillTailTactics
import Derived.Deep.RegionHeld3
import Derived.Deep.OwnRows
set_option linter.unusedVariables false
set_option linter.unusedSimpArgs false
namespace Go.Proofs.YtdbkocfbhpgpkaaGreat
open Go Go.RowKit
open Go.Ev (szOf run_storeCells_block putL run_loadVar_agg aggN)
set_option maxRecDepth 100000
set_option maxHeartbeats 1600000
theorem putL_toList(C:Array Value)(o:Nat)(vs:List Value)(h:o+vs.length≤C.size):(putL C o vs).toList=C.toList.take o++vs++C.toList.drop (o+vs.length):=by
  apply List.ext_getElem?
  intro k
  rw[Array.getElem?_toList,Go.Ev.putL_get _ _ _ _ h]
  by_cases h1:o≤k∧k<o+vs.length
  · rw[if_pos h1,List.append_assoc,List.getElem?_append_right (by simp;omega),List.getElem?_append_left (by simp;omega)]
    congr 1
    simp;omega
  · rw[if_neg h1,List.append_assoc]
    by_cases h2:k<o
    · rw[List.getElem?_append_left (by simp;omega),List.getElem?_take_of_lt h2,Array.getElem?_toList]
    · rw[List.getElem?_append_right (by simp;omega),List.getElem?_append_right (by simp;omega),List.getElem?_drop,Array.getElem?_toList]
      congr 1
      simp;omega
theorem stV{w:World}{ops:Array Oper}{rest:List Oper}{o:Oper}{a:Act}{Q:Exit→Act→World→Prop}(hgd:o.guard=none)(ty:TypeId)(p x:Operand)(ho:o.op=.store ty p x)(hdst:o.dst=none)
    (g k:Nat) (hp:a.eval p=.pointer (some ⟨g,k,none⟩)) (n:Nat) (hsz:szOf Tryz.prog ty=some n) (cs:Array Value) (v:Value) (t:TypeId) (hg:w.heap[g]? = some (.cells cs t (0,0))) (hx:a.eval x=v)
    (h1:k+n≤cs.size) (h2:v.cells.size=n) (hone:∀ u∈v.cells.toList,u.oneCell'=true)
    (h:∀ w',w'.heap[g]? = some (.cells (putL cs (k+0) v.cells.toList) t (0,0))→(∀ j,j≠g→w'.heap[j]? = w.heap[j]?)→(∀ B,B≤g→Below B w w')→w'.heap.size=w.heap.size→wpList Tryz.prog ops Q rest a w'):wpList Tryz.prog ops Q (o::rest) a w:=by
  refine wpList_plain hgd fun _ hK=>?_
  have hlt:=(Array.getElem?_eq_some_iff.1 hg).1
  have hrun:=run_storeCells_block (P:=Tryz.prog) g k t (0,0) v.cells.toList 0 cs w hg (by simp;omega) hone (by intro k _ _;simp)
  have hst:(Instr.storeAt ty (a.eval p) (a.eval x)).run Tryz.prog w=.ok () { w with heap:=w.heap.setIfInBounds g (.cells (putL cs (k+0) v.cells.toList) t (0,0)) }:=by
    rw[hp,hx]
    simp only[Instr.storeAt,Instr.sureAddr,Sem.run_bind,Sem.run_pure,Result.andThen_ok,storeVar,Go.Ev.run_szOf hsz,h2,ne_eq,not_true,if_false]
    exact hrun
  unfold Oper.wp execOp
  simp only[ho,Sem.run_bind,hst,Result.andThen_ok,Sem.run_pure]
  have hk:=hK a { w with heap:=w.heap.setIfInBounds g (.cells (putL cs (k+0) v.cells.toList) t (0,0)) } (h _ (by simp[hlt]) (fun k hk=>by simp[Array.getElem?_setIfInBounds,Ne.symm hk]) (fun B hB=>⟨rfl,rfl,rfl,by simp,fun k hk=>by simp[Array.getElem?_setIfInBounds,show g≠k by omega]⟩) (by simp))
  simpa[Oper.upon,Act.put,hdst] using hk
end Go.Proofs.YtdbkocfbhpgpkaaGreat
namespace Go.Proofs.YtdbkocfbhpgpkaaGreat
open Go Go.RowKit
set_option maxRecDepth 100000
def pad (l:List UInt8):List UInt8:=l++List.replicate (4096-l.length) 0
theorem pad_len{l:List UInt8}(h:l.length≤4096):(pad l).length=4096:=by simp[pad];omega
theorem pad_full{l:List UInt8}(h:l.length=4096):pad l=l:=by simp[pad,h]
def zs:List UInt8:=List.replicate 4096 0
theorem zs_len:zs.length=4096:=by simp[zs]
theorem pad_nil:pad []=zs:=rfl
def opE (ft wh:Int):Int:=if ft=0 then wh else 0
def opF (ft:Int):Int:=if ft=-1 then -1 else ft-1
theorem opF_lo{ft:Int}(h:-1≤ft):-1≤opF ft:=by unfold opF;split<;>omega
theorem opF_hi{ft:Int}(h:ft≤1000):opF ft≤1000:=by unfold opF;split<;>omega
structure PD where
  bs:List (List UInt8)
  ws:List (Nat×List UInt8)
  ft:Int
  wh:Int
structure PD.Ok(P:PD):Prop where
  lens:∀ l∈P.bs,l.length=4096
  wlens:∀ x∈P.ws,x.1<P.bs.length∧x.2.length=4096
  lo:-1≤P.ft
  hi:P.ft≤1000
def carry(bs:List (List UInt8))(ws:List (Nat×List UInt8)):List (List UInt8):=ws.foldl (fun bs x=>bs.set x.1 x.2) bs
theorem carry_len(ws:List (Nat×List UInt8)):∀ bs:List (List UInt8),(carry bs ws).length=bs.length:=by
  induction ws with
  | nil=>intro bs;rfl
  | cons x ws ih=>intro bs;show(carry (bs.set x.1 x.2) ws).length=_;rw[ih];simp
theorem carry_snoc(bs:List (List UInt8))(ws:List (Nat×List UInt8))(x:Nat×List UInt8):carry bs (ws++[x])=(carry bs ws).set x.1 x.2:=by
  simp[carry,List.foldl_append]
theorem carry_take{bs:List (List UInt8)}{ws:List (Nat×List UInt8)}{k:Nat}(h:k<ws.length):carry bs (ws.take (k+1))=(carry bs (ws.take k)).set ws[k].1 ws[k].2:=by
  rw[List.take_succ_eq_append_getElem h,carry_snoc]
def PD.stop(P:PD):PD:={ P with ft:=opF P.ft }
def PD.put(P:PD)(b:Nat)(l:List UInt8):PD×Int:=
  if opE P.ft P.wh=0 then({ P with ft:=opF P.ft,ws:=P.ws++[(b,l)] },0) else(P.stop,opE P.ft P.wh)
def PD.sync(P:PD):PD×Int:=
  if opE P.ft P.wh=0 then({ P with ft:=opF P.ft,bs:=carry P.bs P.ws,ws:=[] },0) else(P.stop,opE P.ft P.wh)
def taken:List UInt8:=3::List.replicate 4079 0
theorem taken_len:taken.length=4080:=by simp[taken]
set_option maxHeartbeats 1600000
theorem copyN{w w5:World}{base g B L c:Nat}{A:Option Addr}{l:List UInt8}(hf:w5.heap[g]? = some (.cells (zs.map u8V).toArray 5 (0,0)))(hr:Rd w5 B A l)(hne:l≠[])(hL:L=l.length)(hle:L≤4096)
    (hb:Below base w w5) (hg:base≤g):∃ w6,(Builtin.copy_ #[33,33] 3 #[.slice (some ⟨g,0,none⟩) 4096 4096,.slice A L c]).run Tryz.prog w5=.ok (goInt (l.map u8V).length) w6∧Own w6 base (.slice (some ⟨g,0,none⟩) 4096 4096) (pad l)∧Below base w w6:=by
  obtain⟨ad,rfl,hsrc⟩:=hr.addr hne
  have hcp:=run_copy_row (P:=Tryz.prog) w5 33 33 3 5 g 0 4096 4096 ad L c _ 5 (l.map u8V) Tryz.underlying33 size5 hf (by rw[List.length_map,← hL];exact(Nat.min_eq_left hle).symm) hsrc (by simp[zs];omega) (by intro v hv;simp at hv;obtain⟨_,_,rfl⟩:=hv;rfl)
  refine⟨_,hcp,Own.of_full ((setRow_heap _ _ _ _ _ _ hf).trans ?_) hg (by simp[pad];omega) (by simp[maxLen]),below_setRow hb hg _⟩
  congr 3
  simp only[List.take_zero,List.nil_append,zs,pad,List.map_replicate,List.drop_replicate,Nat.zero_add,List.length_map,List.map_append]
theorem copy0(w5:World)(g:Nat):(Builtin.copy_ #[33,33] 3 #[.slice (some ⟨g,0,none⟩) 4096 4096,.slice none 0 0]).run Tryz.prog w5=.ok (goInt 0) w5:=
  run_copy_nil (P:=Tryz.prog) w5 33 33 3 5 ⟨g,0,none⟩ 4096 4096 Tryz.underlying33 (by kernel_rfl)
theorem whole_any(A:Option Addr)(c n:Nat)(l:List UInt8)(w:World)(hr:Rd w w.heap.size A l)(hn:n=l.length)(hl:l.length≤4096)(h0:l=[]→A=none∧n=0∧c=0) :
    Calls Tryz.prog 140 #[.slice A n c] w fun e w'=>(∃ g,e=.returned (.slice (some ⟨g,0,none⟩) 4096 4096)∧Own w' w.heap.size (.slice (some ⟨g,0,none⟩) 4096 4096) (pad l))∧Below w.heap.size w w':=by
  have HN:=Lib.hid hn
  obtain⟨w5,hmk0,hown5,hb5⟩:=mkn w 4096 (by omega)
  have hmk:(Instr.makeSlice 33 (.int .i64 4096) (.int .i64 4096)).run Tryz.prog w=.ok (.slice (some ⟨w.heap.size,0,none⟩) 4096 4096) w5:=hmk0
  have hfull:=hown5.full (by simp) (by omega)
  by_cases hne:l=[]
  · obtain⟨rfl,rfl,rfl⟩:=h0 hne
    subst hne
    have hcp:=copy0 w5 w.heap.size
    clear hfull hmk0 HN hr hl hn h0
    go_enter Tryz.func140,Tryz.ntmps140
    go_wp2
    go_ret
    exact⟨⟨_,rfl,by rw[pad_nil];exact hown5⟩,hb5⟩
  · obtain⟨w6,hcp,hown6,hb6⟩:=copyN (c:=c) hfull (hr.below hb5) hne HN.out (by omega) hb5 (Nat.le_refl _)
    clear hmk0 hn h0 hr hfull hown5 hb5
    go_enter Tryz.func140,Tryz.ntmps140
    go_wp2
    go_ret
    exact⟨⟨_,rfl,hown6⟩,hb6⟩
structure Kp(S:Nat→Prop)(w w':World):Prop where
  os:w'.os=w.os
  tape:w'.tape=w.tape
  output:w'.output=w.output
  size:w.heap.size≤w'.heap.size
  block:∀ k,k<w.heap.size→¬S k→w'.heap[k]? = w.heap[k]?
theorem Kp.refl(S:Nat→Prop)(w:World):Kp S w w:=⟨rfl,rfl,rfl,Nat.le_refl _,fun _ _ _=>rfl⟩
theorem Kp.trans{S T:Nat→Prop}{a b c:World}(h:Kp S a b)(g:Kp T b c)(hT:∀ k,k<a.heap.size→T k→S k):Kp S a c:=
  ⟨g.os.trans h.os,g.tape.trans h.tape,g.output.trans h.output,Nat.le_trans h.size g.size,fun k hk hs=>(g.block k (Nat.lt_of_lt_of_le hk h.size) (fun ht=>hs (hT k hk ht))).trans (h.block k hk hs)⟩
theorem Kp.then{S:Nat→Prop}{a b c:World}(h:Kp S a b)(g:Kp S b c):Kp S a c:=h.trans g fun _ _ h=>h
theorem Kp.weaken{S T:Nat→Prop}{a b:World}(h:Kp S a b)(hT:∀ k,S k→T k):Kp T a b:=⟨h.os,h.tape,h.output,h.size,fun k hk hs=>h.block k hk fun x=>hs (hT k x)⟩
theorem Kp.of{S:Nat→Prop}{a b:World}(h:Below a.heap.size a b):Kp S a b:=⟨h.os,h.tape,h.output,h.size,fun k hk _=>h.block k hk⟩
theorem Kp.setCell{S:Nat→Prop}(w:World){p:Addr}(hp:S p.block)(u:Value):Kp S w (w.setCell p u):=
  ⟨rfl,rfl,rfl,by simp,fun k _ hs=>Below.heap_setCell w p u k (fun e=>hs (e▸hp))⟩
theorem Kp.below{S:Nat→Prop}{a b:World}{n:Nat}(h:Kp S a b)(hn:n≤a.heap.size)(hS:∀ k,k<n→¬S k):Below n a b:=⟨h.os,h.tape,h.output,h.size,fun k hk=>h.block k (by omega) (hS k hk)⟩
theorem load202{w:World}{a:Addr}{x:Int}(hc:w.cell? a=some (.int .i64 x)):(callFunc 226 #[.pointer (some a)]).run Tryz.prog w=.ok (.value (.int .i64 x)) w:=
  run_call_load Tryz.func226 (by kernel_rfl) (by kernel_rfl) (by kernel_rfl) .i64 (by kernel_rfl) hc
theorem store82{w:World}{a:Addr}{y:Int}{u:Value}(hc:w.cell? a=some u)(hz:w.frozen? a=false):(callFunc 225 #[.pointer (some a),.int .i64 y]).run Tryz.prog w=.ok (.value (.tuple #[])) (w.setCell a (.int .i64 y)):=
  run_call_store Tryz.func225 (by kernel_rfl) (by kernel_rfl) (by kernel_rfl) (by kernel_rfl) hc hz
theorem Load_any{w:World}{d i:Nat}{x:Int}(hc:w.cell? ⟨d,i,none⟩=some (.int .i64 x)) :
    Calls Tryz.prog 146 #[.pointer (some ⟨d,i,none⟩)] w fun e w'=>e=.returned (.int .i64 x)∧w'=w:=by
  have h:=load202 hc
  go_enter Tryz.func146,Tryz.ntmps146
  go_wp2
  go_ret
  exact⟨rfl,rfl⟩
theorem Store_any{w:World}{d i:Nat}{u:Value}(y:Int)(hc:w.cell? ⟨d,i,none⟩=some u)(hz:w.frozen? ⟨d,i,none⟩=false) :
    Calls Tryz.prog 142 #[.pointer (some ⟨d,i,none⟩),.int .i64 y] w fun e w'=>e=.returned (.tuple #[])∧w'=w.setCell ⟨d,i,none⟩ (.int .i64 y):=by
  have h:=store82 (y:=y) hc hz
  go_enter Tryz.func142,Tryz.ntmps142
  go_wp2
  go_end0
  exact⟨rfl,rfl⟩
theorem stillW{P:Program}{id:Nat}{Q:Exit→Act→World→Prop}{a:Act}{w:World}{l:List Oper}(n:Nat)(hm:P.follows .mixedOrders=true)(hB:Region.lexTailB .any l.toArray n=true)(w1:World)(hw:w.drew=w1)
    (h:wpStill P l.toArray w1 (fun a'=>wpList P l.toArray Q (l.drop n) a' w1) (l.take n) a):(Code.region id l.toArray true).wp P Q a w:=by
  subst hw
  exact wp_region_still_tail n hm hB h
def dV (d db B:Nat)(pv:Value)(ft wh:Int):Array Value:=#[.pointer (some ⟨d,0,none⟩),.slice (some ⟨db,0,none⟩) B B,pv,.bool false,.int .i64 (-1),.int .i64 ft,.int .i64 wh]
def DB (w:World)(d db B:Nat)(pv:Value)(ft wh:Int):Prop:=w.heap[d]? = some (.cells (dV d db B pv ft wh) 147 (0,0))
theorem DB.cell{w:World}{d db B:Nat}{pv:Value}{ft wh:Int}(h:DB w d db B pv ft wh)(k:Nat):w.cell? ⟨d,k,none⟩=(dV d db B pv ft wh)[k]?:=by
  unfold DB at h;simp[World.cell?,h]
theorem DB.cells{w:World}{d db B:Nat}{pv:Value}{ft wh:Int}(h:DB w d db B pv ft wh):w.cell? ⟨d,0,none⟩=some (.pointer (some ⟨d,0,none⟩))∧w.cell? ⟨d,1,none⟩=some (.slice (some ⟨db,0,none⟩) B B)∧w.cell? ⟨d,2,none⟩=some pv ∧
    w.cell? ⟨d,3,none⟩=some (.bool false)∧w.cell? ⟨d,4,none⟩=some (.int .i64 (-1))∧w.cell? ⟨d,5,none⟩=some (.int .i64 ft)∧w.cell? ⟨d,6,none⟩=some (.int .i64 wh):=
  ⟨h.cell 0,h.cell 1,h.cell 2,h.cell 3,h.cell 4,h.cell 5,h.cell 6⟩
theorem DB.lt{w:World}{d db B:Nat}{pv:Value}{ft wh:Int}(h:DB w d db B pv ft wh):d<w.heap.size:=(Array.getElem?_eq_some_iff.1 h).1
theorem DB.frozen{w:World}{d db B:Nat}{pv:Value}{ft wh:Int}(h:DB w d db B pv ft wh)(k:Nat):w.frozen? ⟨d,k,none⟩=false:=by
  unfold DB at h;simp[World.frozen?,h]
theorem DB.setF{w:World}{d db B:Nat}{pv:Value}{ft wh:Int}(h:DB w d db B pv ft wh)(n:Int):DB (w.setCell ⟨d,5,none⟩ (.int .i64 n)) d db B pv n wh:=by
  unfold DB at *
  rw[heap_setCell_same w d 5 _ _ _ h]
  rfl
theorem info93:(Tryz.prog.info? 147).isSome=true:=by kernel_rfl
theorem eqlD(w:World)(a:Addr):(binOp .eql 23 (.pointer (some a)) (.pointer (some a))).run Tryz.prog w=.ok (.bool true) w:=by
  obtain⟨j,hj⟩:=Option.isSome_iff_exists.1 info93
  exact run_eql_ptr_same w a Tryz.underlying23 hj
theorem made_any{w:World}{d db B:Nat}{pv:Value}{ft wh:Int}(h:DB w d db B pv ft wh) :
    Calls Tryz.prog 80 #[.pointer (some ⟨d,0,none⟩)] w fun e w'=>e=.returned (.bool true)∧w'=w:=by
  obtain⟨c0,-⟩:=h.cells
  have he:=fun w=>eqlD w ⟨d,0,none⟩
  go_enter Tryz.func80,Tryz.ntmps80
  go_wp2
  go_ret
  exact⟨rfl,rfl⟩
theorem stops_any{w:World}{d i:Nat}{n:Int}(hc:w.cell? ⟨d,i,none⟩=some (.int .i64 n))(hz:w.frozen? ⟨d,i,none⟩=false)(h1:-1≤n)(h2:n≤1000) :
    Calls Tryz.prog 229 #[.pointer (some ⟨d,i,none⟩)] w fun e w'=>e=.returned (.bool (decide (n=0)))∧w'=if n=-1 then w else w.setCell ⟨d,i,none⟩ (.int .i64 (n-1)):=by
  by_cases hm:n=-1
  · subst hm
    go_enter Tryz.func229,Tryz.ntmps229
    go_wp2_with (go_at_call 146;refine(Load_any hc).mono ?_;rintro e w1 ⟨rfl,rfl⟩)
    go_ret
    exact⟨rfl,rfl⟩
  · go_enter Tryz.func229,Tryz.ntmps229
    go_wp2_with (first
      | (go_at_call 146;refine(Load_any hc).mono ?_;rintro e w1 ⟨rfl,rfl⟩)
      | (go_at_call 142;refine(Store_any _ hc hz).mono ?_;rintro e w1 ⟨rfl,rfl⟩))
    go_ret
    exact⟨rfl,rfl⟩
theorem blocks_any{w:World}{d db B:Nat}{pv:Value}{ft wh:Int}(h:DB w d db B pv ft wh) :
    Calls Tryz.prog 129 #[.pointer (some ⟨d,0,none⟩)] w fun e w'=>e=.returned (.int .i64 (B:Int))∧w'=w:=by
  obtain⟨c0,c1,-⟩:=h.cells
  go_enter Tryz.func129,Tryz.ntmps129
  go_wp2_with (go_at_call 80;refine(made_any h).mono ?_;rintro e w1 ⟨rfl,rfl⟩)
  go_ret
  exact⟨rfl,rfl⟩
theorem pending_any{w:World}{d db B n c:Nat}{A:Option Addr}{ft wh:Int}(h:DB w d db B (.slice A n c) ft wh) :
    Calls Tryz.prog 21 #[.pointer (some ⟨d,0,none⟩)] w fun e w'=>e=.returned (.int .i64 (n:Int))∧w'=w:=by
  obtain⟨c0,c1,c2,-⟩:=h.cells
  go_enter Tryz.func21,Tryz.ntmps21
  go_wp2_with (go_at_call 80;refine(made_any h).mono ?_;rintro e w1 ⟨rfl,rfl⟩)
  go_ret
  exact⟨rfl,rfl⟩
theorem asked_any{w:World}{d db B:Nat}{pv:Value}{ft wh:Int}(h:DB w d db B pv ft wh)(b:Nat)(hb:b<B) :
    Calls Tryz.prog 153 #[.pointer (some ⟨d,0,none⟩),.int .i64 (b:Int)] w fun e w'=>e=.returned (.int .i64 0)∧w'=w:=by
  obtain⟨c0,c1,-⟩:=h.cells
  go_enter Tryz.func153,Tryz.ntmps153
  go_wp2_with (go_at_call 80;refine(made_any h).mono ?_;rintro e w1 ⟨rfl,rfl⟩)
  all_goals first | omega | skip
  go_ret
  exact⟨rfl,rfl⟩
theorem operation_any{w:World}{d db B:Nat}{pv:Value}{ft wh:Int}(h:DB w d db B pv ft wh)(h1:-1≤ft)(h2:ft≤1000) :
    Calls Tryz.prog 154 #[.pointer (some ⟨d,0,none⟩)] w fun e w'=>e=.returned (.int .i64 (opE ft wh))∧DB w' d db B pv (opF ft) wh∧Kp (·=d) w w':=by
  obtain⟨c0,c1,c2,c3,c4,c5,c6⟩:=h.cells
  have hz4:=h.frozen 4
  have hz5:=h.frozen 5
  have s4:Calls Tryz.prog 229 #[.pointer (some ⟨d,4,none⟩)] w.drew fun e w'=>e=.returned (.bool false)∧w'=w.drew:=
    (stops_any (w:=w.drew) c4 hz4 (by omega) (by omega)).mono fun e w' hh=>⟨hh.1,by rw[hh.2,if_pos rfl]⟩
  have k1:Kp (·=d) w w.drew:=⟨rfl,rfl,rfl,Nat.le_refl _,fun _ _ _=>rfl⟩
  have h':DB w.drew d db B pv ft wh:=h
  have H1:DB (if ft=-1 then w.drew else w.drew.setCell ⟨d,5,none⟩ (.int .i64 (ft-1))) d db B pv (opF ft) wh∧Kp (·=d) w (if ft=-1 then w.drew else w.drew.setCell ⟨d,5,none⟩ (.int .i64 (ft-1))):=by
    unfold opF
    by_cases hf:ft=-1
    · rw[if_pos hf,if_pos hf]
      subst hf
      exact⟨h',k1⟩
    · rw[if_neg hf,if_neg hf]
      exact⟨h'.setF _,k1.then (Kp.setCell (S:=(·=d)) w.drew (p:=⟨d,5,none⟩) rfl _)⟩
  have s5:Calls Tryz.prog 229 #[.pointer (some ⟨d,5,none⟩)] w.drew fun e w'=>e=.returned (.bool (decide (ft=0)))∧DB w' d db B pv (opF ft) wh∧Kp (·=d) w w':=
    (stops_any (w:=w.drew) c5 hz5 h1 h2).mono fun e w' hh=>⟨hh.1,by rw[hh.2];exact H1⟩
  clear H1 h' k1 c0 c1 c2 c4 c5 c6 hz4 hz5
  go_enter Tryz.func154,Tryz.ntmps154
  go_wp2
  go_still_tail 7,(by kernel_rfl)
  still_call s4
  repeat still_step
  refine wpStill_nil ?_
  change wpList _ _ _ _ _ w.drew
  generalize w.drew=wd at s5 ⊢
  by_cases hf:ft=0
  · subst hf
    go_wp2_with (go_at_call 229;refine s5.mono ?_;rintro e w1 ⟨rfl,hD,hK⟩;have c6:=hD.cells.2.2.2.2.2.2)
    go_ret
    exact⟨rfl,hD,hK⟩
  · go_wp2_with (go_at_call 229;refine s5.mono ?_;rintro e w1 ⟨rfl,hD,hK⟩;have c6:=hD.cells.2.2.2.2.2.2)
    go_ret
    exact⟨by rw[opE,if_neg hf];rfl,hD,hK⟩
end Go.Proofs.YtdbkocfbhpgpkaaGreat
namespace Go.Proofs.YtdbkocfbhpgpkaaGreat
open Go Go.RowKit
set_option maxRecDepth 100000
set_option maxHeartbeats 1600000
variable {Z:Nat→Prop}
def Bk (Z:Nat→Prop)(w:World)(v:Value)(l:List UInt8):Prop:=∃ g,v=.slice (some ⟨g,0,none⟩) 4096 4096∧w.heap[g]? = some (.cells (l.map u8V).toArray 5 (0,0))∧l.length=4096∧¬Z g
def Db (Z:Nat→Prop)(w:World)(v:Value)(l:List UInt8):Prop:=Bk Z w v l∨(v=.slice none 0 0∧l=zs)
theorem tag_ne{w:World}{a b:Nat}{x y:Array Value}{t u:TypeId}{z z':Nat×Nat}(h:w.heap[a]? = some (.cells x t z))(g:w.heap[b]? = some (.cells y u z'))(htu:t≠u):a≠b:=by
  rintro rfl
  rw[h] at g
  cases g
  exact htu rfl
theorem hlt{w:World}{a:Nat}{o:Obj}(h:w.heap[a]? = some o):a<w.heap.size:=(Array.getElem?_eq_some_iff.1 h).1
theorem Bk.rd{w:World}{v:Value}{l:List UInt8}(h:Bk Z w v l):∃ A,v=.slice A 4096 4096∧Rd w w.heap.size A l:=by
  obtain⟨g,rfl,hg,hl,-⟩:=h
  exact⟨_,rfl,fun _=>⟨g,0,rfl,hlt hg,fun k hk=>by simp[World.cell?,hg,hk]⟩⟩
theorem Bk.of_own{w:World}{base g:Nat}{l:List UInt8}(h:Own w base (.slice (some ⟨g,0,none⟩) 4096 4096) l)(hl:l.length=4096)(hz:¬Z g):Bk Z w (.slice (some ⟨g,0,none⟩) 4096 4096) l:=
  ⟨g,rfl,h.full hl (by omega),hl,hz⟩
theorem Bk.same{w w':World}{v:Value}{l:List UInt8}(h:Bk Z w v l)(hb:∀ (g:Nat) (x:Array Value),w.heap[g]? = some (.cells x 5 (0,0))→w'.heap[g]? = w.heap[g]?):Bk Z w' v l:=by
  obtain⟨g,rfl,hg,hl,hz⟩:=h
  exact⟨g,rfl,(hb g _ hg).trans hg,hl,hz⟩
theorem Bk.wet{Z':Nat→Prop}{w w':World}{v:Value}{l:List UInt8}(h:Bk Z w v l)(hz:∀ g,g<w.heap.size→Z' g→Z g)(hb:∀ (g:Nat) (x:Array Value),¬Z g→w.heap[g]? = some (.cells x 5 (0,0))→w'.heap[g]? = w.heap[g]?):Bk Z' w' v l:=by
  obtain⟨g,rfl,hg,hl,hn⟩:=h
  exact⟨g,rfl,(hb g _ hn hg).trans hg,hl,fun hh=>hn (hz g (Array.getElem?_eq_some_iff.1 hg).1 hh)⟩
theorem Db.same{w w':World}{v:Value}{l:List UInt8}(h:Db Z w v l)(hb:∀ (g:Nat) (x:Array Value),w.heap[g]? = some (.cells x 5 (0,0))→w'.heap[g]? = w.heap[g]?):Db Z w' v l:=
  h.imp (fun h=>h.same hb) id
theorem Db.rd{w:World}{v:Value}{l:List UInt8}(h:Db Z w v l):(∃ A,v=.slice A 4096 4096∧Rd w w.heap.size A l∧l.length=4096)∨(v=.slice none 0 0∧l=zs):=by
  rcases h with h|h
  · obtain⟨A,e,r⟩:=h.rd
    obtain⟨_,_,_,hl,-⟩:=h
    exact .inl ⟨A,e,r,hl⟩
  · exact .inr h
def wc:List (Nat×List UInt8)→List Value→List Value
  | x::ws,u::us=>.int .i64 (x.1:Int)::u::wc ws us
  | _,_=>[]
theorem wc_snoc:∀ (ws:List (Nat×List UInt8)) (us:List Value) (x:Nat×List UInt8) (u:Value),us.length=ws.length→wc (ws++[x]) (us++[u])=wc ws us++[.int .i64 (x.1:Int),u]
  | [],[],x,u,_=>rfl
  | y::ws,z::us,x,u,h=>by simp[wc,wc_snoc ws us x u (by simpa using h)]
theorem wc_at:∀ (ws:List (Nat×List UInt8)) (us:List Value) (k:Nat) (h:k<ws.length) (h':k<us.length),(wc ws us)[k * 2]? = some (.int .i64 (ws[k].1:Int))∧(wc ws us)[k * 2+1]? = some us[k]
  | x::ws,u::us,0,_,_=>⟨rfl,rfl⟩
  | x :: ws, u :: us, k + 1, h, h' => by
    have:=wc_at ws us k (by simpa using h) (by simpa using h')
    rw[show(k+1) * 2=k * 2+1+1 by omega]
    simpa[wc] using this
def Pn (Z:Nat→Prop)(w:World)(n0:Nat)(pv:Value)(ws:List (Nat×List UInt8)):Prop:=
  ∃ us:List Value,us.length=ws.length∧w.ownsRow n0 203 2 pv ws.length (wc ws us)∧∀ k (h:k<us.length) (h':k<ws.length),Bk Z w us[k] ws[k].2
structure Dk(Z:Nat→Prop)(w:World)(n0 d db:Nat)(pv:Value)(P:PD):Prop where
  box:DB w d db P.bs.length pv P.ft P.wh
  row:∃ cs:Array Value,w.heap[db]? = some (.cells cs 33 (0,0))∧cs.size=P.bs.length∧∀ k (h:k<P.bs.length),∃ u,cs[k]? = some u∧Db Z w u P.bs[k]
  pend:Pn Z w n0 pv P.ws
  ok:P.Ok
  base:n0≤w.heap.size
  wet:∀ g,Z g→g<w.heap.size
structure Fr(n0 d db:Nat)(w w':World):Prop where
  kp:Kp (fun k=>k=d∨k=db∨(n0≤k∧∃ x,w.heap[k]? = some (Obj.cells x 203 (0,0)))) w w'
theorem Fr.refl(n0 d db:Nat)(w:World):Fr n0 d db w w:=⟨Kp.refl _ _⟩
theorem Fr.then{n0 d db:Nat}{a b c:World}(h:Fr n0 d db a b)(g:Fr n0 d db b c):Fr n0 d db a c:=⟨h.kp.trans g.kp fun k hk hh=>by
  rcases hh with e|e|⟨hn,x,hx⟩
  · exact .inl e
  · exact .inr (.inl e)
  · refine Classical.byContradiction fun hc=>hc (.inr (.inr ⟨hn,x,?_⟩))
    rw[← h.kp.block k hk hc];exact hx⟩
theorem Fr.keep{n0 d db:Nat}{w w':World}(h:Fr n0 d db w w'){g:Nat}{o:Obj}(hx:w.heap[g]? = some o)(h1:g≠d)(h2:g≠db)(h3:∀ x,o≠Obj.cells x 203 (0,0)):w'.heap[g]? = w.heap[g]?:=
  h.kp.block g (Array.getElem?_eq_some_iff.1 hx).1 fun hh=>by
    rcases hh with e|e|⟨_,x,hy⟩
    · exact h1 e
    · exact h2 e
    · rw[hx] at hy;cases hy;exact h3 x rfl
theorem Fr.size{n0 d db:Nat}{w w':World}(h:Fr n0 d db w w'):w.heap.size≤w'.heap.size:=h.kp.size
theorem ownsRow_same{w w':World}{base:Nat}{e:TypeId}{size:Nat}{v:Value}{n:Nat}{xs:List Value}(h:w.ownsRow base e size v n xs)(hb:∀ (g:Nat) (x:Array Value),w.heap[g]? = some (.cells x e (0,0))→w'.heap[g]? = w.heap[g]?):w'.ownsRow base e size v n xs:=by
  refine⟨h.1,?_⟩
  rcases h.2 with e|⟨g,cap,cur,h1,h2,h3,h4⟩
  · exact .inl e
  · exact .inr ⟨g,cap,cur,h1,h2,(hb g _ h3).trans h3,h4⟩
theorem Pn.same{w w':World}{n0:Nat}{pv:Value}{ws:List (Nat×List UInt8)}(h:Pn Z w n0 pv ws)(h8:∀ (g:Nat) (x:Array Value),w.heap[g]? = some (.cells x 203 (0,0))→w'.heap[g]? = w.heap[g]?)(h5:∀ (g:Nat) (x:Array Value),w.heap[g]? = some (.cells x 5 (0,0))→w'.heap[g]? = w.heap[g]?):Pn Z w' n0 pv ws:=by
  obtain⟨us,h1,h2,h3⟩:=h
  exact⟨us,h1,ownsRow_same h2 h8,fun k a b=>(h3 k a b).same h5⟩
theorem Pn.nil(w:World)(n0:Nat):Pn Z w n0 (.slice none 0 0) []:=⟨[],rfl,World.ownsRow_nil _ _ _ _,fun k h=>by simp at h⟩
theorem Pn.form{w:World}{n0:Nat}{pv:Value}{ws:List (Nat×List UInt8)}(h:Pn Z w n0 pv ws):∃ A c,pv=.slice A ws.length c:=by
  obtain⟨us,h1,h2,h3⟩:=h
  rcases h2.2 with⟨rfl,e⟩|⟨g,c,_,rfl,_⟩
  · rw[e];exact⟨_,_,rfl⟩
  · exact⟨_,_,rfl⟩
theorem Pn.at_{w:World}{n0:Nat}{pv:Value}{ws:List (Nat×List UInt8)}(h:Pn Z w n0 pv ws){k:Nat}(hk:k<ws.length):∃ g c u,pv=.slice (some ⟨g,0,none⟩) ws.length c∧w.cell? ⟨g,k * 2,none⟩=some (.int .i64 (ws[k].1:Int))∧w.cell? ⟨g,k * 2+1,none⟩=some u∧Bk Z w u ws[k].2:=by
  obtain⟨us,h1,h2,h3⟩:=h
  rcases h2.2 with⟨_,e⟩|⟨g,c,cur,rfl,_,hg,_,_,_,ht⟩
  · omega
  · obtain⟨a,b⟩:=wc_at ws us k hk (by omega)
    rw[← ht,List.getElem?_take,if_pos (by omega)] at a b
    exact⟨g,c,us[k],rfl,by simpa[World.cell?,hg] using a,by simpa[World.cell?,hg] using b,h3 k (by omega) hk⟩
theorem Pn.blk{w:World}{n0:Nat}{pv:Value}{ws:List (Nat×List UInt8)}(h:Pn Z w n0 pv ws){k:Nat}(hk:pv.ownBlock=some k):n0≤k∧∃ x,w.heap[k]? = some (.cells x 203 (0,0)):=by
  obtain⟨us,h1,h2,h3⟩:=h
  rcases h2.2 with⟨rfl,e⟩|⟨g,c,cur,rfl,hn,hg,_⟩
  · simp[Value.ownBlock] at hk
  · simp only[Value.ownBlock,Option.some.injEq] at hk
    subst hk
    exact⟨hn,_,hg⟩
section
variable {w w':World}{n0 d db:Nat}{pv:Value}{P:PD}
theorem Dk.below(h:Dk Z w n0 d db pv P)(hb:Below w.heap.size w w'):Dk Z w' n0 d db pv P:=by
  have hs:∀ (g:Nat) (o:Obj),w.heap[g]? = some o→w'.heap[g]? = w.heap[g]?:=fun g o hg=>hb.block g (hlt hg)
  obtain⟨cs,h1,h2,h3⟩:=h.row
  exact⟨(hs _ _ h.box).trans h.box,⟨cs,(hs _ _ h1).trans h1,h2,fun k hk=>by obtain⟨u,a,b⟩:=h3 k hk;exact⟨u,a,b.same fun g x hg=>hs g _ hg⟩⟩,
    h.pend.same (fun g x hg=>hs g _ hg) fun g x hg=>hs g _ hg,h.ok,Nat.le_trans h.base hb.size,fun g hg=>Nat.lt_of_lt_of_le (h.wet g hg) hb.size⟩
theorem Fr.below(h:Below w.heap.size w w'):Fr n0 d db w w':=⟨Kp.of h⟩
theorem Dk.turnW(h:Dk Z w n0 d db pv P){ft wh:Int}(hD:DB w' d db P.bs.length pv ft wh)(hK:Kp (·=d) w w')(h1:-1≤ft)(h2:ft≤1000):Dk Z w' n0 d db pv { P with ft:=ft,wh:=wh }:=by
  have hs:∀ (g:Nat) (x:Array Value) (t:TypeId),w.heap[g]? = some (.cells x t (0,0))→t≠147→w'.heap[g]? = w.heap[g]?:=fun g x t hg ht=>hK.block g (hlt hg) (tag_ne hg h.box ht)
  obtain⟨cs,h3,h4,h5⟩:=h.row
  exact⟨hD,⟨cs,(hs _ _ _ h3 (by decide)).trans h3,h4,fun k hk=>by obtain⟨u,a,b⟩:=h5 k hk;exact⟨u,a,b.same fun g x hg=>hs g _ _ hg (by decide)⟩⟩,
    h.pend.same (fun g x hg=>hs g _ _ hg (by decide)) fun g x hg=>hs g _ _ hg (by decide),⟨h.ok.lens,h.ok.wlens,h1,h2⟩,Nat.le_trans h.base hK.size,fun g hg=>Nat.lt_of_lt_of_le (h.wet g hg) hK.size⟩
theorem Dk.turn(h:Dk Z w n0 d db pv P){ft:Int}(hD:DB w' d db P.bs.length pv ft P.wh)(hK:Kp (·=d) w w')(h1:-1≤ft)(h2:ft≤1000):Dk Z w' n0 d db pv { P with ft:=ft }:=h.turnW hD hK h1 h2
theorem Fr.of_d(hK:Kp (·=d) w w'):Fr n0 d db w w':=⟨hK.weaken fun _ h=>.inl h⟩
theorem whole_db{v:Value}{l:List UInt8}(h:Db Z w v l)(hw:∀ g,Z g→g<w.heap.size) :
    Calls Tryz.prog 140 #[v] w fun e w'=>(∃ u,e=.returned u∧Bk Z w' u l∧∃ g,u=.slice (some ⟨g,0,none⟩) 4096 4096∧w.heap.size≤g)∧Below w.heap.size w w':=by
  rcases h.rd with⟨A,rfl,hr,hl⟩|⟨rfl,rfl⟩
  · refine(whole_any A 4096 4096 l w hr hl.symm (by omega) (fun e=>by simp[e] at hl)).mono ?_
    rintro e w' ⟨⟨g,rfl,ho⟩,hb⟩
    exact⟨⟨_,rfl,by have:=Bk.of_own (Z:=Z) ho (pad_len (by omega)) (fun hz=>by have:=hw _ hz;have:=ho.blk g rfl;omega);rwa[pad_full hl] at this,g,rfl,ho.blk g rfl⟩,hb⟩
  · refine(whole_any none 0 0 [] w (.nil _ _ _) rfl (by simp) (fun _=>⟨rfl,rfl,rfl⟩)).mono ?_
    rintro e w' ⟨⟨g,rfl,ho⟩,hb⟩
    exact⟨⟨_,rfl,Bk.of_own ho zs_len (fun hz=>by have:=hw _ hz;have:=ho.blk g rfl;omega),g,rfl,ho.blk g rfl⟩,hb⟩
end
theorem apG{w:World}{ops:Array Oper}{rest:List Oper}{o:Oper}{a:Act}{Q:Exit→Act→World→Prop}(hgd:o.guard=none)(s x:Operand)(t e:TypeId)(z:Value)(size bytes:Nat)
    (ht:Tryz.prog.underlying t=some (.slice e)) (hi:(Tryz.prog.info? e).map (fun i=>(i.zero,i.size,i.bytes))=some (some z,size,bytes)) (hzs:z.cells.size=size) (hsz:0<size)
    (ho:o.op=.call { callee:=.builtin .append,args:=#[s,x],argTypes:=#[t,t] })
    (base:Nat) (v:Value) (n:Nat) (xs:List Value) (hs:a.eval s=v) (hown:w.ownsRow base e size v n xs) (ad:Addr) (m c:Nat) (news:List Value) (hx:a.eval x=.slice (some ad) m c) (hl:news.length=m * size)
    (hnews:∀ j u,news[j]? = some u→w.cell? (ad.add j)=some u) (h1:∀ u∈news,u.oneCell'=true) (h63:n+m≤maxLen) (hbytes:(n+m) * bytes≤140737488355328) (hbase:base≤w.heap.size)
    (h:∀ v' w',w'.ownsRow base e size v' (n+m) (xs++news)→w.grownBy w' v.ownBlock→(v'.ownBlock=v.ownBlock∨v'.ownBlock=some w.heap.size)→wpList Tryz.prog ops Q rest (a.put o.dst v') w'):wpList Tryz.prog ops Q (o::rest) a w:=by
  obtain⟨i0,hi,hz0,hz1,hz2⟩:=info_parts hi
  obtain⟨v',w',hrun,h2,h3,_,h5⟩:=run_append_own_at (P:=Tryz.prog) w base t o.type e i0 z size bytes ht hi hz0 hz1 hz2 hzs hsz v n xs hown ad m c news hl hnews h1 h63 hbytes hbase
  refine wpList_plain hgd fun _ hK=>?_
  unfold Oper.wp execOp
  simp only[ho,resolve,invoke,builtin,Sem.run_bind,Sem.run_pure,Result.andThen_ok,List.map_toArray,List.map_cons,List.map_nil,hs,hx,hrun]
  exact hK _ _ (h v' w' h2 h3 h5)
end Go.Proofs.YtdbkocfbhpgpkaaGreat
namespace Go.Proofs.YtdbkocfbhpgpkaaGreat
open Go Go.RowKit
set_option maxRecDepth 100000
set_option maxHeartbeats 1600000
variable {Z:Nat→Prop}
theorem cellD{w:World}{d:Nat}{cs:Array Value}{t:TypeId}{z:Nat×Nat}(h:w.heap[d]? = some (.cells cs t z))(k:Nat):w.cell? ⟨d,k,none⟩=cs[k]?:=by simp[World.cell?,h]
theorem frozenD{w:World}{d:Nat}{cs:Array Value}{t:TypeId}(h:w.heap[d]? = some (.cells cs t (0,0)))(k:Nat):w.frozen? ⟨d,k,none⟩=false:=by simp[World.frozen?,h]
theorem disarm_any{w:World}{d:Nat}{a0 a1 a2 a3 a4 a5 a6:Value}(hg:w.heap[d]? = some (.cells #[a0,a1,a2,a3,a4,a5,a6] 147 (0,0))) :
    Calls Tryz.prog 141 #[.pointer (some ⟨d,0,none⟩)] w fun e w'=>e=.returned (.tuple #[])∧w'.heap[d]? = some (.cells #[a0,a1,a2,a3,.int .i64 (-1),.int .i64 (-1),.int .i64 0] 147 (0,0))∧Kp (·=d) w w':=by
  have g1:(w.setCell ⟨d,4,none⟩ (.int .i64 (-1))).heap[d]? = some (.cells #[a0,a1,a2,a3,.int .i64 (-1),a5,a6] 147 (0,0)):=by rw[heap_setCell_same w d 4 _ _ _ hg];rfl
  have k1:Kp (·=d) w (w.setCell ⟨d,4,none⟩ (.int .i64 (-1))):=Kp.setCell (S:=(·=d)) w (p:=⟨d,4,none⟩) rfl _
  have s1:Calls Tryz.prog 142 #[.pointer (some ⟨d,4,none⟩),.int .i64 (-1)] w fun e w'=>e=.returned (.tuple #[])∧w'=w.setCell ⟨d,4,none⟩ (.int .i64 (-1)):=Store_any _ (cellD hg 4) (frozenD hg 4)
  generalize w.setCell ⟨d,4,none⟩ (.int .i64 (-1))=w1 at g1 k1 s1
  have g2:(w1.setCell ⟨d,5,none⟩ (.int .i64 (-1))).heap[d]? = some (.cells #[a0,a1,a2,a3,.int .i64 (-1),.int .i64 (-1),a6] 147 (0,0)):=by rw[heap_setCell_same w1 d 5 _ _ _ g1];rfl
  have k2:Kp (·=d) w (w1.setCell ⟨d,5,none⟩ (.int .i64 (-1))):=k1.then (Kp.setCell (S:=(·=d)) w1 (p:=⟨d,5,none⟩) rfl _)
  have s2:Calls Tryz.prog 142 #[.pointer (some ⟨d,5,none⟩),.int .i64 (-1)] w1 fun e w'=>e=.returned (.tuple #[])∧w'=w1.setCell ⟨d,5,none⟩ (.int .i64 (-1)):=Store_any _ (cellD g1 5) (frozenD g1 5)
  generalize w1.setCell ⟨d,5,none⟩ (.int .i64 (-1))=w2 at g2 k2 s2
  have c6:w2.cell? ⟨d,6,none⟩=some a6:=cellD g2 6
  have z6:w2.frozen? ⟨d,6,none⟩=false:=frozenD g2 6
  have g3:(w2.setCell ⟨d,6,none⟩ (.int .i64 0)).heap[d]? = some (.cells #[a0,a1,a2,a3,.int .i64 (-1),.int .i64 (-1),.int .i64 0] 147 (0,0)):=by rw[heap_setCell_same w2 d 6 _ _ _ g2];rfl
  have k3:Kp (·=d) w (w2.setCell ⟨d,6,none⟩ (.int .i64 0)):=k2.then (Kp.setCell (S:=(·=d)) w2 (p:=⟨d,6,none⟩) rfl _)
  clear g1 k1 g2 k2
  go_enter Tryz.func141,Tryz.ntmps141
  go_wp2_with (first
    | (go_at_call 142;refine s1.mono ?_;rintro e w1 ⟨rfl,rfl⟩)
    | (go_at_call 142;refine s2.mono ?_;rintro e w1 ⟨rfl,rfl⟩))
  go_end0
  exact⟨rfl,g3,k3⟩
theorem begun_any{w:World}{db n:Nat}{cs:Array Value}(hdb:w.heap[db]? = some (.cells cs 33 (0,0))) :
    Calls Tryz.prog 143 #[.slice (some ⟨db,0,none⟩) n n] w fun e w'=>(∃ d,e=.returned (.pointer (some ⟨d,0,none⟩))∧DB w' d db n (.slice none 0 0) (-1) 0∧w.heap.size≤d)∧Below w.heap.size w w':=by
  obtain⟨o,ho⟩:∃ o:Obj,o=.cells #[.pointer (some ⟨w.heap.size,0,none⟩),.slice (some ⟨db,0,none⟩) n n,.slice none 0 0,.bool false,.int .i64 0,.int .i64 0,.int .i64 0] 147 (0,0):=⟨_,rfl⟩
  have g1:=heap_alloc_new w o
  have b1:Below w.heap.size w (w.alloc o):=(Below.refl _ _).alloc (Nat.le_refl _) _
  rw[ho] at g1 b1
  have D:=disarm_any g1
  go_enter Tryz.func143,Tryz.ntmps143
  go_wp2_with (go_at_call 141;refine D.mono ?_;rintro e w1 ⟨rfl,hD,hK⟩)
  go_ret
  exact⟨⟨w.heap.size,rfl,hD,Nat.le_refl _⟩,b1.trans (hK.below b1.size fun k hk=>by omega)⟩
theorem info37:(Tryz.prog.info? 33).map (fun i=>(i.zero,i.size,i.bytes))=some (some (.slice none 0 0),1,24):=by kernel_rfl
theorem mkB(w:World)(n:Nat)(hn:n≤4096):(Instr.makeSlice 53 (.int .i64 (n:Int)) (.int .i64 (n:Int))).run Tryz.prog w=.ok (.slice (some ⟨w.heap.size,0,none⟩) n n) (w.alloc (.cells (madeCells #[.slice none 0 0] n) 33)):=
  run_make_row' (P:=Tryz.prog) 53 33 (.slice none 0 0) 24 Tryz.underlying53 info37 rfl .i64 .i64 n (by omega) (by omega) w
theorem madeB_get(n k:Nat)(h:k<n):(madeCells #[.slice none 0 0] n)[k]? = some (.slice none 0 0):=by
  simp[madeCells,h,Nat.mod_one]
theorem new_any(w:World)(n:Nat)(h1:1≤n)(h2:n≤4096)(hZ:∀ g,Z g→g<w.heap.size) :
    Calls Tryz.prog 56 #[.int .i64 (n:Int)] w fun e w'=>(∃ d db,e=.returned (.tuple #[.pointer (some ⟨d,0,none⟩),.int .i64 0])∧Dk Z w' w'.heap.size d db (.slice none 0 0) ⟨List.replicate n zs,[],-1,0⟩∧w.heap.size≤d∧w.heap.size≤db)∧Below w.heap.size w w':=by
  have M:=mkB w n h2
  have g1:=heap_alloc_new w (.cells (madeCells #[.slice none 0 0] n) 33)
  have b1:Below w.heap.size w (w.alloc (.cells (madeCells #[.slice none 0 0] n) 33)):=(Below.refl _ _).alloc (Nat.le_refl _) _
  have B:=begun_any (n:=n) g1
  generalize w.alloc (.cells (madeCells #[.slice none 0 0] n) 33)=w1 at M g1 b1 B
  have hz:w.heap.size<w1.heap.size:=hlt g1
  go_enter Tryz.func56,Tryz.ntmps56
  go_wp2_with (go_at_call 143;refine B.mono ?_;rintro e w2 ⟨⟨d,rfl,hD,hd⟩,hb⟩)
  all_goals first | omega | skip
  go_ret2
  refine⟨⟨d,w.heap.size,rfl,⟨?_,⟨madeCells #[.slice none 0 0] n,(hb.block _ hz).trans g1,by simp[madeCells],?_⟩,Pn.nil _ _,⟨?_,?_,?_,?_⟩,Nat.le_refl _,fun g hg=>by have:=hZ g hg;have:=hb.size;omega⟩,by omega,Nat.le_refl _⟩,b1.trans (hb.mono (by omega))⟩
  · simpa using hD
  · intro k hk
    refine⟨_,madeB_get n k (by simpa using hk),.inr ⟨rfl,?_⟩⟩
    simp
  · intro l hl
    simp only[List.mem_replicate] at hl
    rw[hl.2];exact zs_len
  · intro x hx;cases hx
  · show(-1:Int)≤-1;omega
  · show(-1:Int)≤1000;omega
end Go.Proofs.YtdbkocfbhpgpkaaGreat
