/-
  chancery/disk: what all of memory but some blocks keeps; the small functions of a disk.
-/
import GoSem.Core.World
import Derived.Laws.World
import Derived.Laws.Sem
import Derived.Laws.Cells
import Derived.Below
import Derived.MapKept
import Derived.Laws.StructEq
import Derived.ChangeKeysEq
import GoSem.Dispatch
import Derived.Laws.Build
import Derived.Laws.Tables
import Derived.Laws.MakeOwn
import Derived.Laws.BytesString
import Derived.Laws.LoneSync
import Derived.Great.BuildSlice
import Derived.Test.YtdbkocfbhpgpkaaGreatb01
import Derived.Test.YtdbkocfbhpgpkaaGreatb02
import Derived.Laws.ResultCell
import Derived.LaidEqlPtr
import Derived.StillTailTactics
set_option linter.unusedVariables false
set_option linter.unusedSimpArgs false
namespace Go.Ev
namespace T
variable {α:Type}
end T
def byte (n k:Nat):Nat:=(n >>> (8 * k)) % 256
end Go.Ev
namespace Go.Ev
open Go
noncomputable section
def free (fz:Nat×Nat)(top:Nat):Prop:=fz.1≤fz.2∧∀ o,o<top→(decide (fz.1≤o) && decide (o<fz.2))=false
end
end Go.Ev
namespace Go.Ev
open Go
noncomputable section
theorem ble_iff{a b:Nat}:Nat.ble a b=true↔a≤b:=by rw[Nat.ble_eq]
theorem cell?_of_block{w:World}{b o:Nat}{C:Array Value}{e:TypeId}{fz:Nat×Nat}(h:w.heap[b]? = some (.cells C e fz)):w.cell? ⟨b,o,none⟩=C[o]?:=by
  simp[World.cell?,h]
theorem frozen?_of_block{w:World}{b o:Nat}{C:Array Value}{e:TypeId}{fz:Nat×Nat}(h:w.heap[b]? = some (.cells C e fz)) :
    w.frozen? ⟨b,o,none⟩=(decide (fz.1≤o) && decide (o<fz.2)):=by
  simp[World.frozen?,h]
def putL:Array Value→Nat→List Value→Array Value
  | C,_,[]=>C
  | C,o,v::vs=>putL (C.setIfInBounds o v) (o+1) vs
theorem putL_size:∀ (vs:List Value) (C:Array Value) (o:Nat),(putL C o vs).size=C.size:=by
  intro vs
  induction vs with
  | nil=>intros;rfl
  | cons v vs ih=>intro C o;simp[putL,ih]
theorem putL_get:∀ (vs:List Value) (C:Array Value) (o k:Nat),o+vs.length≤C.size →
    (putL C o vs)[k]? = if o≤k∧k<o+vs.length then vs[k-o]? else C[k]?:=by
  intro vs
  induction vs with
  | nil=>intro C o k _;rw[if_neg (by simp)];rfl
  | cons v vs ih =>
    intro C o k h
    simp only[List.length_cons] at h
    rw[putL,ih _ _ _ (by simp;omega)]
    by_cases h1:o+1≤k∧k<o+1+vs.length
    · rw[if_pos h1,if_pos (by simp only[List.length_cons];omega)]
      have:k-o=(k-(o+1))+1:=by omega
      rw[this,List.getElem?_cons_succ]
    · rw[if_neg h1]
      by_cases h2:k=o
      · subst h2
        rw[if_pos (by simp only[List.length_cons];omega)]
        rw[Array.getElem?_setIfInBounds]
        have:k<C.size:=by omega
        simp[this]
      · rw[if_neg (by simp only[List.length_cons];omega),Array.getElem?_setIfInBounds]
        simp[Ne.symm h2]
theorem modify_eq{α:Type}(A:Array α)(b:Nat)(o:α)(f:α→α)(h:A[b]? = some o):A.modify b f=A.setIfInBounds b (f o):=by
  apply Array.ext_getElem?
  intro k
  rw[Array.getElem?_modify,Array.getElem?_setIfInBounds]
  by_cases e:b=k
  · subst e
    obtain⟨hb,rfl⟩:=Array.getElem?_eq_some_iff.1 h
    simp[hb]
  · simp[e]
theorem setCell_block{w:World}{b o:Nat}{C:Array Value}{e:TypeId}{fz:Nat×Nat}{v:Value}(h:w.heap[b]? = some (.cells C e fz)) :
    w.setCell ⟨b,o,none⟩ v={ w with heap:=w.heap.setIfInBounds b (.cells (C.setIfInBounds o v) e fz) }:=by
  unfold World.setCell
  rw[modify_eq w.heap b _ _ h]
  rfl
theorem setIfInBounds_twice{α:Type}(A:Array α)(b:Nat)(x y:α):(A.setIfInBounds b x).setIfInBounds b y=A.setIfInBounds b y:=by
  apply Array.ext_getElem?
  intro k
  simp only[Array.getElem?_setIfInBounds,Array.size_setIfInBounds]
  by_cases e:b=k<;>simp[e]
theorem setIfInBounds_self{α:Type}(A:Array α)(b:Nat)(x:α)(h:A[b]? = some x):A.setIfInBounds b x=A:=by
  apply Array.ext_getElem?
  intro k
  rw[Array.getElem?_setIfInBounds]
  by_cases e:b=k
  · subst e
    have hb:b<A.size:=(Array.getElem?_eq_some_iff.1 h).1
    rw[if_pos rfl,if_pos hb,h]
  · rw[if_neg e]
theorem run_storeCells_block{P:Program}(b o:Nat)(e:TypeId)(fz:Nat×Nat):∀ (vs:List Value) (i:Nat) (C:Array Value) (w:World),
    w.heap[b]? = some (.cells C e fz)→o+i+vs.length≤C.size→(∀ v∈vs,v.oneCell'=true) →
    (∀ k,o+i≤k→k<o+i+vs.length→(decide (fz.1≤k) && decide (k<fz.2))=false) →
    (storeCells ⟨b,o,none⟩ vs i).run P w=.ok () { w with heap:=w.heap.setIfInBounds b (.cells (putL C (o+i) vs) e fz) }:=by
  intro vs
  induction vs with
  | nil =>
    intro i C w h _ _ _
    simp only[storeCells,Sem.run_pure,putL]
    rw[setIfInBounds_self _ _ _ h]
  | cons v vs ih =>
    intro i C w h hlen hone hfz
    simp only[List.length_cons] at hlen hfz
    have hb:b<w.heap.size:=(Array.getElem?_eq_some_iff.1 h).1
    have hadd:(⟨b,o,none⟩:Addr).add i=⟨b,o+i,none⟩:=by
      unfold Addr.add;split
      · subst_vars;rfl
      · rfl
    have hcell:∃ u,w.cell? ⟨b,o+i,none⟩=some u:=by
      rw[cell?_of_block h];exact⟨_,Array.getElem?_eq_getElem (by omega)⟩
    obtain⟨u,hu⟩:=hcell
    have hfr:w.frozen? ⟨b,o+i,none⟩=false:=by
      rw[frozen?_of_block h];exact hfz (o+i) (by omega) (by omega)
    have h1:(store ⟨b,o+i,none⟩ v).run P w=.ok () (w.setCell ⟨b,o+i,none⟩ v):=by
      rw[run_store P w _ v .plain (hone v (by simp))]
      simp[hu,hfr]
    have hblk:(w.setCell ⟨b,o+i,none⟩ v).heap[b]? = some (.cells (C.setIfInBounds (o+i) v) e fz):=by
      rw[setCell_block h];simp[hb]
    have h2:=ih (i+1) (C.setIfInBounds (o+i) v) (w.setCell ⟨b,o+i,none⟩ v) hblk (by simp;omega) (fun x hx=>hone x (by simp[hx]))
      (fun k h1 h2=>hfz k (by omega) (by omega))
    simp only[storeCells,Sem.run_bind,hadd,h1,Result.andThen_ok]
    rw[h2]
    congr 1
    rw[setCell_block h]
    simp only[World.mk.injEq,and_true]
    rw[setIfInBounds_twice]
    rfl
end
end Go.Ev
namespace Go.Ev
open Go
noncomputable section
def aggN (P:Program)(t:TypeId):Option (Option Nat):=
  match P.info? t,P.underlying t with
  | some i,some d=>some (match d with | .struct _ | .array _ _=>some i.size | _=>none)
  | _,_=>none
def szOf (P:Program)(t:TypeId):Option Nat:=(P.info? t).map (·.size)
theorem run_szOf{P:Program}{t:TypeId}{n:Nat}(h:szOf P t=some n)(w:World):(sizeOf t).run P w=.ok n w:=by
  unfold szOf at h
  cases hi:P.info? t with
  | none=>rw[hi] at h;simp at h
  | some i=>rw[hi] at h;simp at h;rw[run_sizeOf w hi];simp[Program.cellsOf,hi,h]
theorem run_isAgg_of{P:Program}{t:TypeId}{d:TypeDesc}(h:P.underlying t=some d)(w:World) :
    (isAgg t).run P w=.ok (match d with | .struct _ | .array _ _=>true | _=>false) w:=by
  simp only[isAgg,Sem.run_bind,run_underlying h,Result.andThen_ok]
  cases d<;>rfl
theorem aggN_some{P:Program}{t:TypeId}{r:Option Nat}(h:aggN P t=some r)(w:World) :
    (isAgg t).run P w=.ok r.isSome w∧∀ n,r=some n→(sizeOf t).run P w=.ok n w:=by
  unfold aggN at h
  cases hi:P.info? t with
  | none=>rw[hi] at h;simp at h
  | some i =>
    cases hu:P.underlying t with
    | none=>rw[hi,hu] at h;simp at h
    | some d =>
      rw[hi,hu] at h
      simp only[Option.some.injEq] at h
      refine⟨?_,fun n hn=>?_⟩
      · rw[run_isAgg_of hu];cases d<;>simp at h<;>subst h<;>rfl
      · rw[run_sizeOf w hi]
        cases d<;>simp only[] at h<;>subst h<;>simp only[reduceCtorEq,Option.some.injEq] at hn<;>simp[Program.cellsOf,hi,hn]
end
end Go.Ev




namespace Go.Ev
open Go
noncomputable section
theorem run_checkKey_int{P:Program}{kt:TypeId}{q:IntKind}(h:P.underlying kt=some (.int q))(b:Bool)(v:Value)(w:World):(Instr.checkKey b 10000 kt v).run P w=.ok () w:=by
 have key:∀ n:Nat,(Instr.checkKey b (n+1) kt v).run P w=.ok () w:=by
  intro n
  cases v<;>simp[Instr.checkKey,run_underlying h]
 exact key 9999
theorem run_findKey_int{P:Program}{kt:TypeId}{q:IntKind}(h:P.underlying kt=some (.int q)){v:Value}{E:List MapEntry}{r:Option (Nat×Value)}(hr:Instr.findNow (.int q) v E 0=some r)(w:World) :
  (Instr.findKey kt v E).run P w=.ok r w:=by
 simp[Instr.findKey,run_underlying h,hr]
theorem run_loadVar_agg{P:Program}{w:World}{t:TypeId}{n:Nat}(h:aggN P t=some (some n)){a:Addr}{cs:List Value}(hl:cs.length=n)
  (hc:∀ (j:Nat) (v:Value),cs[j]? = some v→w.cell? (a.add j)=some v):(loadVar t a).run P w=.ok (.agg cs.toArray) w:=by
 obtain⟨h1,h2⟩:=aggN_some h w
 have:=run_loadCells_list (P:=P) w a cs hc
 rw[hl] at this
 simp[loadVar,h1,h2 n rfl,this]
theorem run_loadVar_one{P:Program}{w:World}{t:TypeId}(h:aggN P t=some none){a:Addr}{v:Value}(hc:w.cell? a=some v):(loadVar t a).run P w=.ok v w:=by
 obtain⟨h1,_⟩:=aggN_some h w
 simp[loadVar,h1,hc]
end
end Go.Ev
namespace Go.Ev
open Go
noncomputable section
structure SameOut(w w':World):Prop where
 os:w'.os=w.os
 tape:w'.tape=w.tape
 output:w'.output=w.output
theorem free_none(top:Nat):free (0,0) top:=⟨Nat.le_refl _,by intro o _;simp⟩
end
end Go.Ev
namespace Go.Ev
open Go
noncomputable section
def fitsA(need bytes:Nat):Bool:=Nat.ble ((2 * need+2000) * bytes) 281474976710656 && Nat.ble need 4611686018427387904
end
end Go.Ev
namespace Go.Proofs.YtdbkocfbhpgpkaaGreat
open Go Go.RowKit
open Go.Ev (szOf run_storeCells_block putL run_loadVar_agg aggN)
set_option maxRecDepth 100000
set_option maxHeartbeats 1600000
theorem stV{w:World}{ops:Array Oper}{rest:List Oper}{o:Oper}{a:Act}{Q:Exit→Act→World→Prop}(hgd:o.guard=none)(ty:TypeId)(p x:Operand)(ho:o.op=.store ty p x)(hdst:o.dst=none)
    (g k:Nat) (hp:a.eval p=.pointer (some ⟨g,k,none⟩)) (n:Nat) (hsz:szOf Tryz.prog ty=some n) (cs:Array Value) (v:Value) (t:TypeId) (hg:w.heap[g]? = some (.cells cs t (0,0))) (hx:a.eval x=v)
    (h1:k+n≤cs.size) (h2:v.cells.size=n) (hone:∀ u∈v.cells.toList,u.oneCell'=true)
    (h:∀ w',w'.heap[g]? = some (.cells (putL cs (k+0) v.cells.toList) t (0,0))→(∀ j,j≠g→w'.heap[j]? = w.heap[j]?)→(∀ B,B≤g→Below B w w')→w'.heap.size=w.heap.size→wpList Tryz.prog ops Q rest a w'):wpList Tryz.prog ops Q (o::rest) a w:=by
  refine wpList_plain hgd fun _ hK=>?_
  have hlt:=(Array.getElem?_eq_some_iff.1 hg).1
  have hrun:=run_storeCells_block (P:=Tryz.prog) g k t (0,0) v.cells.toList 0 cs w hg (by simp;omega) hone (by intro k _ _;simp)
  have hst:(Instr.storeAt ty (a.eval p) (a.eval x)).run Tryz.prog w=.ok () { w with heap:=w.heap.setIfInBounds g (.cells (putL cs (k+0) v.cells.toList) t (0,0)) }:=by
    rw[hp,hx]
    simp only[Instr.storeAt,Instr.sureAddr,Sem.run_bind,Sem.run_pure,Result.andThen_ok,storeVar,Go.Ev.run_szOf hsz,h2,ne_eq,not_true,if_false]
    exact hrun
  unfold Oper.wp execOp
  simp only[ho,Sem.run_bind,hst,Result.andThen_ok,Sem.run_pure]
  have hk:=hK a { w with heap:=w.heap.setIfInBounds g (.cells (putL cs (k+0) v.cells.toList) t (0,0)) } (h _ (by simp[hlt]) (fun k hk=>by simp[Array.getElem?_setIfInBounds,Ne.symm hk]) (fun B hB=>⟨rfl,rfl,rfl,by simp,fun k hk=>by simp[Array.getElem?_setIfInBounds,show g≠k by omega]⟩) (by simp))
  simpa[Oper.upon,Act.put,hdst] using hk
end Go.Proofs.YtdbkocfbhpgpkaaGreat
namespace Go.Proofs.YtdbkocfbhpgpkaaGreat
open Go Go.RowKit
set_option maxRecDepth 100000
def pad (l:List UInt8):List UInt8:=l++List.replicate (4096-l.length) 0
theorem pad_len{l:List UInt8}(h:l.length≤4096):(pad l).length=4096:=by simp[pad];omega
theorem pad_full{l:List UInt8}(h:l.length=4096):pad l=l:=by simp[pad,h]
def zs:List UInt8:=List.replicate 4096 0
theorem zs_len:zs.length=4096:=by simp[zs]
theorem pad_nil:pad []=zs:=rfl
def opE (ft wh:Int):Int:=if ft=0 then wh else 0
def opF (ft:Int):Int:=if ft=-1 then -1 else ft-1
theorem opF_lo{ft:Int}(h:-1≤ft):-1≤opF ft:=by unfold opF;split<;>omega
theorem opF_hi{ft:Int}(h:ft≤1000):opF ft≤1000:=by unfold opF;split<;>omega
structure PD where
  bs:List (List UInt8)
  ws:List (Nat×List UInt8)
  ft:Int
  wh:Int
structure PD.Ok(P:PD):Prop where
  lens:∀ l∈P.bs,l.length=4096
  wlens:∀ x∈P.ws,x.1<P.bs.length∧x.2.length=4096
  lo:-1≤P.ft
  hi:P.ft≤1000
def carry(bs:List (List UInt8))(ws:List (Nat×List UInt8)):List (List UInt8):=ws.foldl (fun bs x=>bs.set x.1 x.2) bs
theorem carry_len(ws:List (Nat×List UInt8)):∀ bs:List (List UInt8),(carry bs ws).length=bs.length:=by
  induction ws with
  | nil=>intro bs;rfl
  | cons x ws ih=>intro bs;show(carry (bs.set x.1 x.2) ws).length=_;rw[ih];simp
theorem carry_snoc(bs:List (List UInt8))(ws:List (Nat×List UInt8))(x:Nat×List UInt8):carry bs (ws++[x])=(carry bs ws).set x.1 x.2:=by
  simp[carry,List.foldl_append]
theorem carry_take{bs:List (List UInt8)}{ws:List (Nat×List UInt8)}{k:Nat}(h:k<ws.length):carry bs (ws.take (k+1))=(carry bs (ws.take k)).set ws[k].1 ws[k].2:=by
  rw[List.take_succ_eq_append_getElem h,carry_snoc]
def PD.stop(P:PD):PD:={ P with ft:=opF P.ft }
def PD.put(P:PD)(b:Nat)(l:List UInt8):PD×Int:=
  if opE P.ft P.wh=0 then({ P with ft:=opF P.ft,ws:=P.ws++[(b,l)] },0) else(P.stop,opE P.ft P.wh)
def PD.sync(P:PD):PD×Int:=
  if opE P.ft P.wh=0 then({ P with ft:=opF P.ft,bs:=carry P.bs P.ws,ws:=[] },0) else(P.stop,opE P.ft P.wh)
def taken:List UInt8:=3::List.replicate 4079 0
theorem taken_len:taken.length=4080:=by simp[taken]
set_option maxHeartbeats 1600000
theorem copyN{w w5:World}{base g B L c:Nat}{A:Option Addr}{l:List UInt8}(hf:w5.heap[g]? = some (.cells (zs.map u8V).toArray 5 (0,0)))(hr:Rd w5 B A l)(hne:l≠[])(hL:L=l.length)(hle:L≤4096)
    (hb:Below base w w5) (hg:base≤g):∃ w6,(Builtin.copy_ #[33,33] 3 #[.slice (some ⟨g,0,none⟩) 4096 4096,.slice A L c]).run Tryz.prog w5=.ok (goInt (l.map u8V).length) w6∧Own w6 base (.slice (some ⟨g,0,none⟩) 4096 4096) (pad l)∧Below base w w6:=by
  obtain⟨ad,rfl,hsrc⟩:=hr.addr hne
  have hcp:=run_copy_row (P:=Tryz.prog) w5 33 33 3 5 g 0 4096 4096 ad L c _ 5 (l.map u8V) Tryz.underlying33 size5 hf (by rw[List.length_map,← hL];exact(Nat.min_eq_left hle).symm) hsrc (by simp[zs];omega) (by intro v hv;simp at hv;obtain⟨_,_,rfl⟩:=hv;rfl)
  refine⟨_,hcp,Own.of_full ((setRow_heap _ _ _ _ _ _ hf).trans ?_) hg (by simp[pad];omega) (by simp[maxLen]),below_setRow hb hg _⟩
  congr 3
  simp only[List.take_zero,List.nil_append,zs,pad,List.map_replicate,List.drop_replicate,Nat.zero_add,List.length_map,List.map_append]
theorem copy0(w5:World)(g:Nat):(Builtin.copy_ #[33,33] 3 #[.slice (some ⟨g,0,none⟩) 4096 4096,.slice none 0 0]).run Tryz.prog w5=.ok (goInt 0) w5:=
  run_copy_nil (P:=Tryz.prog) w5 33 33 3 5 ⟨g,0,none⟩ 4096 4096 Tryz.underlying33 (by kernel_rfl)
theorem whole_any(A:Option Addr)(c n:Nat)(l:List UInt8)(w:World)(hr:Rd w w.heap.size A l)(hn:n=l.length)(hl:l.length≤4096)(h0:l=[]→A=none∧n=0∧c=0) :
    Calls Tryz.prog 140 #[.slice A n c] w fun e w'=>(∃ g,e=.returned (.slice (some ⟨g,0,none⟩) 4096 4096)∧Own w' w.heap.size (.slice (some ⟨g,0,none⟩) 4096 4096) (pad l))∧Below w.heap.size w w':=by
  have HN:=Lib.hid hn
  obtain⟨w5,hmk0,hown5,hb5⟩:=mkn w 4096 (by omega)
  have hmk:(Instr.makeSlice 33 (.int .i64 4096) (.int .i64 4096)).run Tryz.prog w=.ok (.slice (some ⟨w.heap.size,0,none⟩) 4096 4096) w5:=hmk0
  have hfull:=hown5.full (by simp) (by omega)
  by_cases hne:l=[]
  · obtain⟨rfl,rfl,rfl⟩:=h0 hne
    subst hne
    have hcp:=copy0 w5 w.heap.size
    clear hfull hmk0 HN hr hl hn h0
    go_enter Tryz.func140,Tryz.ntmps140
    go_wp2
    go_ret
    exact⟨⟨_,rfl,by rw[pad_nil];exact hown5⟩,hb5⟩
  · obtain⟨w6,hcp,hown6,hb6⟩:=copyN (c:=c) hfull (hr.below hb5) hne HN.out (by omega) hb5 (Nat.le_refl _)
    clear hmk0 hn h0 hr hfull hown5 hb5
    go_enter Tryz.func140,Tryz.ntmps140
    go_wp2
    go_ret
    exact⟨⟨_,rfl,hown6⟩,hb6⟩
structure Kp(S:Nat→Prop)(w w':World):Prop where
  os:w'.os=w.os
  tape:w'.tape=w.tape
  output:w'.output=w.output
  size:w.heap.size≤w'.heap.size
  block:∀ k,k<w.heap.size→¬S k→w'.heap[k]? = w.heap[k]?
theorem Kp.refl(S:Nat→Prop)(w:World):Kp S w w:=⟨rfl,rfl,rfl,Nat.le_refl _,fun _ _ _=>rfl⟩
theorem Kp.trans{S T:Nat→Prop}{a b c:World}(h:Kp S a b)(g:Kp T b c)(hT:∀ k,k<a.heap.size→T k→S k):Kp S a c:=
  ⟨g.os.trans h.os,g.tape.trans h.tape,g.output.trans h.output,Nat.le_trans h.size g.size,fun k hk hs=>(g.block k (Nat.lt_of_lt_of_le hk h.size) (fun ht=>hs (hT k hk ht))).trans (h.block k hk hs)⟩
theorem Kp.then{S:Nat→Prop}{a b c:World}(h:Kp S a b)(g:Kp S b c):Kp S a c:=h.trans g fun _ _ h=>h
theorem Kp.weaken{S T:Nat→Prop}{a b:World}(h:Kp S a b)(hT:∀ k,S k→T k):Kp T a b:=⟨h.os,h.tape,h.output,h.size,fun k hk hs=>h.block k hk fun x=>hs (hT k x)⟩
theorem Kp.of{S:Nat→Prop}{a b:World}(h:Below a.heap.size a b):Kp S a b:=⟨h.os,h.tape,h.output,h.size,fun k hk _=>h.block k hk⟩
theorem Kp.setCell{S:Nat→Prop}(w:World){p:Addr}(hp:S p.block)(u:Value):Kp S w (w.setCell p u):=
  ⟨rfl,rfl,rfl,by simp,fun k _ hs=>Below.heap_setCell w p u k (fun e=>hs (e▸hp))⟩
theorem Kp.below{S:Nat→Prop}{a b:World}{n:Nat}(h:Kp S a b)(hn:n≤a.heap.size)(hS:∀ k,k<n→¬S k):Below n a b:=⟨h.os,h.tape,h.output,h.size,fun k hk=>h.block k (by omega) (hS k hk)⟩
theorem load202{w:World}{a:Addr}{x:Int}(hc:w.cell? a=some (.int .i64 x)):(callFunc 226 #[.pointer (some a)]).run Tryz.prog w=.ok (.value (.int .i64 x)) w:=
  run_call_load Tryz.func226 (by kernel_rfl) (by kernel_rfl) (by kernel_rfl) .i64 (by kernel_rfl) hc
theorem store82{w:World}{a:Addr}{y:Int}{u:Value}(hc:w.cell? a=some u)(hz:w.frozen? a=false):(callFunc 225 #[.pointer (some a),.int .i64 y]).run Tryz.prog w=.ok (.value (.tuple #[])) (w.setCell a (.int .i64 y)):=
  run_call_store Tryz.func225 (by kernel_rfl) (by kernel_rfl) (by kernel_rfl) (by kernel_rfl) hc hz
theorem Load_any{w:World}{d i:Nat}{x:Int}(hc:w.cell? ⟨d,i,none⟩=some (.int .i64 x)) :
    Calls Tryz.prog 146 #[.pointer (some ⟨d,i,none⟩)] w fun e w'=>e=.returned (.int .i64 x)∧w'=w:=by
  have h:=load202 hc
  go_enter Tryz.func146,Tryz.ntmps146
  go_wp2
  go_ret
  exact⟨rfl,rfl⟩
theorem Store_any{w:World}{d i:Nat}{u:Value}(y:Int)(hc:w.cell? ⟨d,i,none⟩=some u)(hz:w.frozen? ⟨d,i,none⟩=false) :
    Calls Tryz.prog 142 #[.pointer (some ⟨d,i,none⟩),.int .i64 y] w fun e w'=>e=.returned (.tuple #[])∧w'=w.setCell ⟨d,i,none⟩ (.int .i64 y):=by
  have h:=store82 (y:=y) hc hz
  go_enter Tryz.func142,Tryz.ntmps142
  go_wp2
  go_end0
  exact⟨rfl,rfl⟩
theorem stillW{P:Program}{id:Nat}{Q:Exit→Act→World→Prop}{a:Act}{w:World}{l:List Oper}(n:Nat)(hm:P.follows .mixedOrders=true)(hB:Region.lexTailB .any l.toArray n=true)(w1:World)(hw:w.drew=w1)
    (h:wpStill P l.toArray w1 (fun a'=>wpList P l.toArray Q (l.drop n) a' w1) (l.take n) a):(Code.region id l.toArray true).wp P Q a w:=by
  subst hw
  exact wp_region_still_tail n hm hB h
def dV (d db B:Nat)(pv:Value)(ft wh:Int):Array Value:=#[.pointer (some ⟨d,0,none⟩),.slice (some ⟨db,0,none⟩) B B,pv,.bool false,.int .i64 (-1),.int .i64 ft,.int .i64 wh]
def DB (w:World)(d db B:Nat)(pv:Value)(ft wh:Int):Prop:=w.heap[d]? = some (.cells (dV d db B pv ft wh) 147 (0,0))
theorem DB.cell{w:World}{d db B:Nat}{pv:Value}{ft wh:Int}(h:DB w d db B pv ft wh)(k:Nat):w.cell? ⟨d,k,none⟩=(dV d db B pv ft wh)[k]?:=by
  unfold DB at h;simp[World.cell?,h]
theorem DB.cells{w:World}{d db B:Nat}{pv:Value}{ft wh:Int}(h:DB w d db B pv ft wh):w.cell? ⟨d,0,none⟩=some (.pointer (some ⟨d,0,none⟩))∧w.cell? ⟨d,1,none⟩=some (.slice (some ⟨db,0,none⟩) B B)∧w.cell? ⟨d,2,none⟩=some pv ∧
    w.cell? ⟨d,3,none⟩=some (.bool false)∧w.cell? ⟨d,4,none⟩=some (.int .i64 (-1))∧w.cell? ⟨d,5,none⟩=some (.int .i64 ft)∧w.cell? ⟨d,6,none⟩=some (.int .i64 wh):=
  ⟨h.cell 0,h.cell 1,h.cell 2,h.cell 3,h.cell 4,h.cell 5,h.cell 6⟩
theorem DB.lt{w:World}{d db B:Nat}{pv:Value}{ft wh:Int}(h:DB w d db B pv ft wh):d<w.heap.size:=(Array.getElem?_eq_some_iff.1 h).1
theorem DB.frozen{w:World}{d db B:Nat}{pv:Value}{ft wh:Int}(h:DB w d db B pv ft wh)(k:Nat):w.frozen? ⟨d,k,none⟩=false:=by
  unfold DB at h;simp[World.frozen?,h]
theorem DB.setF{w:World}{d db B:Nat}{pv:Value}{ft wh:Int}(h:DB w d db B pv ft wh)(n:Int):DB (w.setCell ⟨d,5,none⟩ (.int .i64 n)) d db B pv n wh:=by
  unfold DB at *
  rw[heap_setCell_same w d 5 _ _ _ h]
  rfl
theorem info93:(Tryz.prog.info? 147).isSome=true:=by kernel_rfl
theorem eqlD(w:World)(a:Addr):(binOp .eql 23 (.pointer (some a)) (.pointer (some a))).run Tryz.prog w=.ok (.bool true) w:=by
  obtain⟨j,hj⟩:=Option.isSome_iff_exists.1 info93
  exact run_eql_ptr_same w a Tryz.underlying23 hj
theorem made_any{w:World}{d db B:Nat}{pv:Value}{ft wh:Int}(h:DB w d db B pv ft wh) :
    Calls Tryz.prog 80 #[.pointer (some ⟨d,0,none⟩)] w fun e w'=>e=.returned (.bool true)∧w'=w:=by
  obtain⟨c0,-⟩:=h.cells
  have he:=fun w=>eqlD w ⟨d,0,none⟩
  go_enter Tryz.func80,Tryz.ntmps80
  go_wp2
  go_ret
  exact⟨rfl,rfl⟩
theorem stops_any{w:World}{d i:Nat}{n:Int}(hc:w.cell? ⟨d,i,none⟩=some (.int .i64 n))(hz:w.frozen? ⟨d,i,none⟩=false)(h1:-1≤n)(h2:n≤1000) :
    Calls Tryz.prog 229 #[.pointer (some ⟨d,i,none⟩)] w fun e w'=>e=.returned (.bool (decide (n=0)))∧w'=if n=-1 then w else w.setCell ⟨d,i,none⟩ (.int .i64 (n-1)):=by
  by_cases hm:n=-1
  · subst hm
    go_enter Tryz.func229,Tryz.ntmps229
    go_wp2_with (go_at_call 146;refine(Load_any hc).mono ?_;rintro e w1 ⟨rfl,rfl⟩)
    go_ret
    exact⟨rfl,rfl⟩
  · go_enter Tryz.func229,Tryz.ntmps229
    go_wp2_with (first
      | (go_at_call 146;refine(Load_any hc).mono ?_;rintro e w1 ⟨rfl,rfl⟩)
      | (go_at_call 142;refine(Store_any _ hc hz).mono ?_;rintro e w1 ⟨rfl,rfl⟩))
    go_ret
    exact⟨rfl,rfl⟩
theorem blocks_any{w:World}{d db B:Nat}{pv:Value}{ft wh:Int}(h:DB w d db B pv ft wh) :
    Calls Tryz.prog 129 #[.pointer (some ⟨d,0,none⟩)] w fun e w'=>e=.returned (.int .i64 (B:Int))∧w'=w:=by
  obtain⟨c0,c1,-⟩:=h.cells
  go_enter Tryz.func129,Tryz.ntmps129
  go_wp2_with (go_at_call 80;refine(made_any h).mono ?_;rintro e w1 ⟨rfl,rfl⟩)
  go_ret
  exact⟨rfl,rfl⟩
theorem asked_any{w:World}{d db B:Nat}{pv:Value}{ft wh:Int}(h:DB w d db B pv ft wh)(b:Nat)(hb:b<B) :
    Calls Tryz.prog 153 #[.pointer (some ⟨d,0,none⟩),.int .i64 (b:Int)] w fun e w'=>e=.returned (.int .i64 0)∧w'=w:=by
  obtain⟨c0,c1,-⟩:=h.cells
  go_enter Tryz.func153,Tryz.ntmps153
  go_wp2_with (go_at_call 80;refine(made_any h).mono ?_;rintro e w1 ⟨rfl,rfl⟩)
  all_goals first | omega | skip
  go_ret
  exact⟨rfl,rfl⟩
theorem operation_any{w:World}{d db B:Nat}{pv:Value}{ft wh:Int}(h:DB w d db B pv ft wh)(h1:-1≤ft)(h2:ft≤1000) :
    Calls Tryz.prog 154 #[.pointer (some ⟨d,0,none⟩)] w fun e w'=>e=.returned (.int .i64 (opE ft wh))∧DB w' d db B pv (opF ft) wh∧Kp (·=d) w w':=by
  obtain⟨c0,c1,c2,c3,c4,c5,c6⟩:=h.cells
  have hz4:=h.frozen 4
  have hz5:=h.frozen 5
  have s4:Calls Tryz.prog 229 #[.pointer (some ⟨d,4,none⟩)] w.drew fun e w'=>e=.returned (.bool false)∧w'=w.drew:=
    (stops_any (w:=w.drew) c4 hz4 (by omega) (by omega)).mono fun e w' hh=>⟨hh.1,by rw[hh.2,if_pos rfl]⟩
  have k1:Kp (·=d) w w.drew:=⟨rfl,rfl,rfl,Nat.le_refl _,fun _ _ _=>rfl⟩
  have h':DB w.drew d db B pv ft wh:=h
  have H1:DB (if ft=-1 then w.drew else w.drew.setCell ⟨d,5,none⟩ (.int .i64 (ft-1))) d db B pv (opF ft) wh∧Kp (·=d) w (if ft=-1 then w.drew else w.drew.setCell ⟨d,5,none⟩ (.int .i64 (ft-1))):=by
    unfold opF
    by_cases hf:ft=-1
    · rw[if_pos hf,if_pos hf]
      subst hf
      exact⟨h',k1⟩
    · rw[if_neg hf,if_neg hf]
      exact⟨h'.setF _,k1.then (Kp.setCell (S:=(·=d)) w.drew (p:=⟨d,5,none⟩) rfl _)⟩
  have s5:Calls Tryz.prog 229 #[.pointer (some ⟨d,5,none⟩)] w.drew fun e w'=>e=.returned (.bool (decide (ft=0)))∧DB w' d db B pv (opF ft) wh∧Kp (·=d) w w':=
    (stops_any (w:=w.drew) c5 hz5 h1 h2).mono fun e w' hh=>⟨hh.1,by rw[hh.2];exact H1⟩
  clear H1 h' k1 c0 c1 c2 c4 c5 c6 hz4 hz5
  go_enter Tryz.func154,Tryz.ntmps154
  go_wp2
  go_still_tail 7,(by kernel_rfl)
  still_call s4
  repeat still_step
  refine wpStill_nil ?_
  change wpList _ _ _ _ _ w.drew
  generalize w.drew=wd at s5 ⊢
  by_cases hf:ft=0
  · subst hf
    go_wp2_with (go_at_call 229;refine s5.mono ?_;rintro e w1 ⟨rfl,hD,hK⟩;have c6:=hD.cells.2.2.2.2.2.2)
    go_ret
    exact⟨rfl,hD,hK⟩
  · go_wp2_with (go_at_call 229;refine s5.mono ?_;rintro e w1 ⟨rfl,hD,hK⟩;have c6:=hD.cells.2.2.2.2.2.2)
    go_ret
    exact⟨by rw[opE,if_neg hf];rfl,hD,hK⟩
end Go.Proofs.YtdbkocfbhpgpkaaGreat
