/-
  Rows of numbers that the call itself makes; append onto such a row; chanceryref15.some: what the call does.
-/
import Derived.Test.YtdbkocfbhpgpkaaGreatProg
import Derived.WalkKit
import Derived.Maps.AppendAt
import Derived.Deep.AppendLies
import Derived.RegionTactic
import Derived.OwnWalk
import Derived.Lib.Hide
import Derived.KernelRfl
import Derived.Outline
import Derived.BigQuiet
import Derived.Deep.QuietTactic
import Derived.Shelf.Bytes.SlEqualAll
import Derived.Lib.Bytealg
import Derived.Laws.Externs
import Derived.Laws.OwnMore
set_option linter.unusedVariables false
set_option linter.unusedSimpArgs false
namespace Go.Proofs.YtdbkocfbhpgpkaaGreat
open Go Go.RowKit
abbrev u8V(x:UInt8):Value:=.int .u8 (x.toNat:Int)
def Rd (w:World)(B:Nat)(A:Option Addr)(l:List UInt8):Prop:=
  l≠[]→∃ b o,A=some ⟨b,o,none⟩∧b<B∧∀ k (h:k<l.length),w.cell? ⟨b,o+k,none⟩=some (u8V l[k])
def Own (w:World)(base:Nat)(v:Value)(l:List UInt8):Prop:=w.ownsRow base 5 1 v l.length (l.map u8V)
theorem Tryz.info5:(Tryz.prog.info? 5).map (fun i=>(i.zero,i.size,i.bytes))=some (some (.int .u8 0),1,1):=by kernel_rfl
section
variable {w w':World}{B B':Nat}{A:Option Addr}{l:List UInt8}{v:Value}
theorem Rd.nil(w:World)(B:Nat)(A:Option Addr):Rd w B A []:=fun h=>absurd rfl h
theorem Rd.keep(h:Rd w B A l)(hk:∀ p:Addr,p.block<B→w'.cell? p=w.cell? p):Rd w' B A l:=fun hl=>by
  obtain⟨b,o,e,hb,hc⟩:=h hl
  exact⟨b,o,e,hb,fun k hk'=>(hk _ hb).trans (hc k hk')⟩
theorem Rd.more(h:Rd w B A l)(hB:B≤B'):Rd w B' A l:=fun hl=>by
  obtain⟨b,o,e,hb,hc⟩:=h hl
  exact⟨b,o,e,by omega,hc⟩
theorem Rd.below(h:Rd w B A l)(hb:Below B w w'):Rd w' B A l:=h.keep fun _ hp=>hb.cell hp
theorem Rd.belowS(h:Rd w w.heap.size A l)(hb:Below w.heap.size w w'):Rd w' w'.heap.size A l:=(h.below hb).more hb.size
theorem Rd.at_(h:Rd w B A l){k:Nat}(hk:k<l.length):∃ b o,A=some ⟨b,o,none⟩∧b<B∧w.cell? ⟨b,o+k,none⟩=some (u8V l[k]):=by
  obtain⟨b,o,e,hb,hc⟩:=h (by rintro rfl;simp at hk)
  exact⟨b,o,e,hb,hc k hk⟩
theorem Rd.alloc(h:Rd w B A l)(hB:B≤w.heap.size)(o:Obj):Rd (w.alloc o) B A l:=h.keep fun p hp=>World.cell?_alloc_lt w o p (by omega)
theorem Rd.one(w:World)(x:UInt8):Rd (w.alloc (.cells #[u8V x] 5)) (w.heap.size+1) (some ⟨w.heap.size,0,none⟩) [x]:=fun _=>
  ⟨_,0,rfl,by omega,fun k hk=>by
    obtain rfl:k=0:=by simpa using hk
    rw[World.cell?_alloc_at _ _ _ _ rfl];rfl⟩
theorem Own.nil(w:World)(base:Nat):Own w base (.slice none 0 0) []:=World.ownsRow_nil _ _ _ _
theorem Own.form(h:Own w B v l):(v=.slice none 0 0∧l=[])∨∃ g cap,v=.slice (some ⟨g,0,none⟩) l.length cap∧B≤g∧g<w.heap.size∧l.length≤cap∧cap≤maxLen∧∀ k (hk:k<l.length),w.cell? ⟨g,k,none⟩=some (u8V l[k]):=by
  rcases h.2 with⟨h1,h2⟩|⟨g,cap,cur,h1,h2,h3,h4,h5,h6,h7⟩
  · exact .inl ⟨h1,List.eq_nil_of_length_eq_zero h2⟩
  · refine .inr ⟨g,cap,h1,h2,?_,h4,h5,fun k hk=>?_⟩
    · rcases Nat.lt_or_ge g w.heap.size with hlt|hge
      · exact hlt
      · rw[Array.getElem?_eq_none hge] at h3;cases h3
    · have e:(cur.toList.take (l.length * 1))[k]? = (l.map u8V)[k]?:=by rw[h7]
      rw[List.getElem?_take,if_pos (by omega),List.getElem?_map,List.getElem?_eq_getElem hk] at e
      simp only[World.cell?,h3]
      simpa using e
theorem Own.slice(h:Own w B v l):∃ A cap,v=.slice A l.length cap∧l.length≤cap∧cap≤maxLen∧Rd w w.heap.size A l:=by
  rcases h.form with⟨rfl,rfl⟩|⟨g,cap,rfl,_,hlt,h4,h5,hc⟩
  · exact⟨none,0,rfl,Nat.le_refl _,Nat.zero_le _,.nil _ _ _⟩
  · exact⟨_,cap,rfl,h4,h5,fun _=>⟨g,0,rfl,hlt,fun k hk=>by rw[Nat.zero_add];exact hc k hk⟩⟩
theorem Own.sl{n:Nat}(h:Own w B v l)(hn:l.length=n):∃ A cap,v=.slice A n cap∧n≤cap∧cap≤maxLen∧Rd w w.heap.size A l:=by subst hn;exact h.slice
theorem Own.cast{m:List UInt8}(h:Own w B v l)(e:l=m):Own w B v m:=by subst e;exact h
theorem Own.blk(h:Own w B v l):∀ k,v.ownBlock=some k→B≤k:=by
  intro k hk
  rcases h.form with⟨rfl,rfl⟩|⟨g,cap,rfl,h2,_⟩
  · simp[Value.ownBlock] at hk
  · simp[Value.ownBlock] at hk;omega
theorem Own.down(h:Own w B v l)(hB:B'≤B):Own w B' v l:=by
  refine⟨h.1,?_⟩
  rcases h.2 with e|⟨g,cap,cur,h1,h2,h3⟩
  · exact .inl e
  · exact .inr ⟨g,cap,cur,h1,by omega,h3⟩
theorem Own.blocks(h:Own w B v l)(hb:∀ k,v.ownBlock=some k→w'.heap[k]? = w.heap[k]?):Own w' B v l:=by
  refine⟨h.1,?_⟩
  rcases h.2 with e|⟨g,cap,cur,h1,h2,h3,h4⟩
  · exact .inl e
  · exact .inr ⟨g,cap,cur,h1,h2,(hb g (by rw[h1];rfl)).trans h3,h4⟩
theorem Own.lt(h:Own w B v l):∀ k,v.ownBlock=some k→k<w.heap.size:=by
  intro k hk
  rcases h.form with⟨rfl,rfl⟩|⟨g,cap,rfl,h2,h3,_⟩
  · simp[Value.ownBlock] at hk
  · simp[Value.ownBlock] at hk;omega
theorem Own.alloc(h:Own w B v l)(o:Obj):Own (w.alloc o) B v l:=h.blocks fun k hk=>Below.heap_alloc w o k (h.lt k hk)
theorem Own.belowS(h:Own w B v l)(hb:Below w.heap.size w w'):Own w' B v l:=h.blocks fun k hk=>hb.block k (h.lt k hk)
theorem Own.setCell(h:Own w B v l){p:Addr}(hp:v.ownBlock≠some p.block)(u:Value):Own (w.setCell p u) B v l:=
  h.blocks fun k hk=>Below.heap_setCell w p u k (fun e=>hp (by rw[hk,e]))
end
theorem apB{w:World}{ops:Array Oper}{rest:List Oper}{o:Oper}{a:Act}{Q:Exit→Act→World→Prop}(hgd:o.guard=none)(s x:Operand)
    (ho:o.op=.call { callee:=.builtin .append,args:=#[s,x],argTypes:=#[33,33] })
    (base:Nat) (v:Value) (l:List UInt8) (hs:a.eval s=v) (hown:Own w base v l) (B:Nat) (A:Option Addr) (m c:Nat) (news:List UInt8) (hx:a.eval x=.slice A m c) (hm:m=news.length) (hr:Rd w B A news)
    (hlen:l.length+news.length≤140737488355328) (hbase:base≤w.heap.size)
    (h:∀ v' w',Own w' base v' (l++news)→Below base w w'→(v'.ownBlock=v.ownBlock∨v'.ownBlock=some w.heap.size)→w.grownBy w' v.ownBlock→wpList Tryz.prog ops Q rest (a.put o.dst v') w'):wpList Tryz.prog ops Q (o::rest) a w:=by
  obtain⟨i0,hi,hz0,hz1,hz2⟩:=info_parts Tryz.info5
  subst hm
  have hb:=hown.blk
  rcases Nat.eq_zero_or_pos news.length with h0|h0
  · have hn:news=[]:=List.eq_nil_of_length_eq_zero h0
    subst hn
    have hx':a.eval x=.slice A 0 c:=hx
    refine wpList_plain hgd fun _ hK=>?_
    cases A with
    | none =>
      have hrun:(Builtin.append_ #[33,33] o.type #[v,.slice none 0 c]).run Tryz.prog w=.ok v w:=by
        rcases hown.2 with⟨rfl,_⟩|⟨g,cap,cur,rfl,_,_,hnc,_⟩
        · simp[Builtin.append_,run_underlying Tryz.underlying33,sizeOf,typeInfo,hi,Builtin.lenOf,Builtin.firstCells]
        · simp[Builtin.append_,run_underlying Tryz.underlying33,sizeOf,typeInfo,hi,Builtin.lenOf,Builtin.firstCells,hnc,storeCells]
      unfold Oper.wp execOp
      simp only[ho,resolve,invoke,builtin,Sem.run_bind,Sem.run_pure,Result.andThen_ok,List.map_toArray,List.map_cons,List.map_nil,hs,hx',hrun]
      exact hK _ _ (h v w (by simpa using hown) (Below.refl _ _) (.inl rfl) (World.grownBy.refl w _))
    | some ad =>
      obtain⟨v',w',hrun,h2,h3,_,h5⟩:=run_append_own_at (P:=Tryz.prog) w base 33 o.type 5 i0 (.int .u8 0) 1 1 Tryz.underlying33 hi hz0 hz1 hz2 rfl (by decide) v l.length (l.map u8V) hown ad 0 c []
        (by simp) (by intro j u hu;simp at hu) (by simp) (by unfold maxLen;omega) (by omega) hbase
      unfold Oper.wp execOp
      simp only[ho,resolve,invoke,builtin,Sem.run_bind,Sem.run_pure,Result.andThen_ok,List.map_toArray,List.map_cons,List.map_nil,hs,hx',hrun]
      exact hK _ _ (h v' w' (by simpa[Own] using h2) ⟨h3.os,h3.tape,h3.output,h3.size,fun k hk=>h3.block k (by omega) (fun e=>by have:=hb k e.symm;omega)⟩ h5 h3)
  · obtain⟨b,off,rfl,hbB,hc⟩:=hr (by rintro rfl;simp at h0)
    refine wpList_plain hgd fun _ hK=>?_
    have hcells:∀ j u,(news.map u8V)[j]? = some u→w.cell? ((⟨b,off,none⟩:Addr).add j)=some u:=by
      intro j u hu
      rw[List.getElem?_map] at hu
      rcases Nat.lt_or_ge j news.length with hj|hj
      · rw[List.getElem?_eq_getElem hj] at hu
        simp only[Option.map_some,Option.some.injEq] at hu
        subst hu
        have:(⟨b,off,none⟩:Addr).add j=⟨b,off+j,none⟩:=by unfold Addr.add;split<;>simp_all
        rw[this];exact hc j hj
      · rw[List.getElem?_eq_none hj] at hu;cases hu
    obtain⟨v',w',hrun,h2,h3,_,h5⟩:=run_append_own_at (P:=Tryz.prog) w base 33 o.type 5 i0 (.int .u8 0) 1 1 Tryz.underlying33 hi hz0 hz1 hz2 rfl (by decide) v l.length (l.map u8V) hown ⟨b,off,none⟩ news.length c (news.map u8V)
      (by simp) hcells (by intro u hu;simp at hu;obtain⟨_,_,rfl⟩:=hu;rfl) (by unfold maxLen;omega) (by omega) hbase
    unfold Oper.wp execOp
    simp only[ho,resolve,invoke,builtin,Sem.run_bind,Sem.run_pure,Result.andThen_ok,List.map_toArray,List.map_cons,List.map_nil,hs,hx,hrun]
    exact hK _ _ (h v' w' (by unfold Own;rw[List.length_append,List.map_append];exact h2) ⟨h3.os,h3.tape,h3.output,h3.size,fun k hk=>h3.block k (by omega) (fun e=>by have:=hb k e.symm;omega)⟩ h5 h3)
set_option maxRecDepth 100000
set_option maxHeartbeats 1600000
theorem conv_any{A:Option Addr}{c n:Nat}{l:List UInt8}{w:World}{B:Nat}(hr:Rd w B A l)(hn:n=l.length):(convert 33 9 (.slice A n c)).run Tryz.prog w=.ok (.string ⟨l.toArray⟩) w:=by
  subst hn
  have hb:Lib.BytesIn w A l.length (l.map fun x=>(x.toNat:Int)):=fun hn=>by
    obtain⟨b,o,e,_,hc⟩:=hr (by rintro rfl;simp at hn)
    exact⟨b,o,e,fun i hi=>by rw[hc i hi];simp[u8V,hi]⟩
  have h:=hb.convert (P:=Tryz.prog) (by simp) c 33 5 9 Tryz.underlying33 Tryz.underlying5 Tryz.underlying9
  rw[h]
  congr 2
  apply ByteArray.ext
  apply Array.ext'
  rw[strOfNums_data,List.map_map]
  show l.map _=l
  conv=>rhs;rw[← List.map_id l]
  apply List.map_congr_left
  intro x _
  simp
theorem same_any(A C:Option Addr)(c d n m:Nat)(l k:List UInt8)(w:World)(hr:Rd w w.heap.size A l)(hm:Rd w w.heap.size C k)(hn:n=l.length)(hn2:m=k.length) :
    Calls Tryz.prog 93 #[.slice A n c,.slice C m d] w fun e w'=>e=.returned (.bool (decide (l=k)))∧w=w':=by
  have h1:=conv_any (c:=c) hr hn
  have h2:=conv_any (c:=d) hm hn2
  have HN:=Lib.hid hn
  have HM:=Lib.hid hn2
  clear hn hn2
  go_enter Tryz.func93,Tryz.ntmps93
  go_wp2
  go_ret
  exact⟨by
    show Ending.returned (.bool _)=_
    congr 2
    rw[Bool.eq_iff_iff]
    simp,rfl⟩
def RdI (w:World)(B:Nat)(A:Option Addr)(l:List Int):Prop:=
  l≠[]→∃ b o,A=some ⟨b,o,none⟩∧b<B∧∀ k (h:k<l.length),w.cell? ⟨b,o+k,none⟩=some (.int .i64 l[k])
section
variable {w w':World}{B B':Nat}{A:Option Addr}{l:List Int}{v:Value}
theorem RdI.nil(w:World)(B:Nat)(A:Option Addr):RdI w B A []:=fun h=>absurd rfl h
theorem RdI.keep(h:RdI w B A l)(hk:∀ p:Addr,p.block<B→w'.cell? p=w.cell? p):RdI w' B A l:=fun hl=>by
  obtain⟨b,o,e,hb,hc⟩:=h hl
  exact⟨b,o,e,hb,fun k hk'=>(hk _ hb).trans (hc k hk')⟩
theorem RdI.more(h:RdI w B A l)(hB:B≤B'):RdI w B' A l:=fun hl=>by
  obtain⟨b,o,e,hb,hc⟩:=h hl
  exact⟨b,o,e,by omega,hc⟩
theorem RdI.below(h:RdI w B A l)(hb:Below B w w'):RdI w' B A l:=h.keep fun _ hp=>hb.cell hp
theorem RdI.belowS(h:RdI w w.heap.size A l)(hb:Below w.heap.size w w'):RdI w' w'.heap.size A l:=(h.below hb).more hb.size
theorem RdI.at_(h:RdI w B A l){k:Nat}(hk:k<l.length):∃ b o,A=some ⟨b,o,none⟩∧b<B∧w.cell? ⟨b,o+k,none⟩=some (.int .i64 l[k]):=by
  obtain⟨b,o,e,hb,hc⟩:=h (by rintro rfl;simp at hk)
  exact⟨b,o,e,hb,hc k hk⟩
end
def rise (lim:Int):Int→List Int→Bool
  | _,[]=>true
  | a,n::l=>decide (a<n) && (decide (n<lim) && rise lim n l)
theorem rise_at{lim a:Int}{l:List Int}{k:Nat}(hk:k<l.length):rise lim a (l.drop k)=(decide (a<l[k]) && (decide (l[k] < lim) && rise lim l[k] (l.drop (k+1)))):=by
  rw[List.drop_eq_getElem_cons hk,rise]
theorem below_any(A:Option Addr)(c n:Nat)(lim:Int)(l:List Int)(w:World)(hr:RdI w w.heap.size A l)(hn:n=l.length)(hl:l.length≤140737488355328) :
    Calls Tryz.prog 230 #[.slice A n c,.int .i64 lim] w fun e w'=>e=.returned (.bool (rise lim 0 l))∧w'=w:=by
  have HN:=Lib.hid hn
  have hnl:n≤140737488355328:=by omega
  clear hn hl
  go_enter Tryz.func230,Tryz.ntmps230
  go_wp2
  go_loopw [5,10] (fun x i wr=>∃ (k:Nat) (a:Int),k≤n∧i=.int .i64 k∧x=.int .i64 a∧rise lim 0 l=rise lim a (l.drop k)∧wr=w) (fun _ i _=>n-(intOf i).toNat)
  case atStart=>exact⟨0,0,by omega,rfl,rfl,by simp,rfl⟩
  case round=>
    obtain⟨k,a,hk,rfl,rfl,hrise,rfl⟩:=hrel
    have HR:=Lib.hid hrise
    clear hrise
    by_cases hlt:k<n
    · have hkl:k<l.length:=by have:=HN.out;omega
      have hat:=rise_at (lim:=lim) (a:=a) hkl
      obtain⟨b,o,rfl,hbB,hc⟩:=hr.at_ hkl
      by_cases h1:a<l[k]
      · by_cases h2:l[k] < lim
        · have HT:=Lib.hid hat
          clear hat
          go_wp2
          go_roundw
          case rel=>exact⟨k+1,l[k],by omega,by go_num,rfl,by rw[HR.out,HT.out];simp[h1,h2],trivial⟩
          case measure=>simp[intOf]<;>omega
        · have HT:=Lib.hid hat
          clear hat
          go_wp2
          go_ret
          exact⟨by rw[HR.out,HT.out];simp;intros;omega,rfl⟩
      · have HT:=Lib.hid hat
        clear hat
        go_wp2
        go_ret
        exact⟨by rw[HR.out,HT.out];simp;intros;omega,rfl⟩
    · obtain rfl:k=n:=by omega
      go_wp2
      go_ret
      exact⟨by rw[HR.out,List.drop_of_length_le (by have:=HN.out;omega)];rfl,rfl⟩
theorem drewN_below(w:World)(B n:Nat):Below B w (w.drewN n):=⟨rfl,rfl,rfl,Nat.le_refl _,fun _ _=>rfl⟩
theorem loadBytes_any{w:World}:∀ (l:List UInt8) (a:Addr) (acc:ByteArray),(∀ j v,(l.map u8V)[j]? = some v→w.cell? (a.add j)=some v) →
    (Extern.Bytes.loadBytes a l.length acc).run Tryz.prog w=.ok ⟨(acc.data.toList++l).toArray⟩ w
  | [],a,acc,_=>by simp[Extern.Bytes.loadBytes]
  | x :: l, a, acc, h => by
    have h0:=h 0 (u8V x) rfl
    rw[show a.add 0=a from rfl] at h0
    have ih:=loadBytes_any l (a.add 1) (acc.push x) (by
      intro j v hj
      have:(a.add 1).add j=a.add (j+1):=by
        unfold Addr.add
        by_cases hj0:j=0
        · subst hj0;simp
        · simp[hj0];omega
      rw[this]
      exact h (j+1) v (by simpa using hj))
    simp only[List.length_cons,Extern.Bytes.loadBytes,Sem.run_bind]
    have hl:(load a:Sem Value).run Tryz.prog w=.ok (u8V x) w:=by simp[h0]
    rw[hl]
    simp only[Result.andThen_ok,u8V]
    have hx:((x.toNat:Int)).toNat.toUInt8=x:=by simp
    rw[hx,ih]
    simp
theorem bytesOf_any{w:World}{B n c:Nat}{A:Option Addr}{l:List UInt8}(hr:Rd w B A l)(hn:n=l.length):(Extern.Bytes.bytesOf (.slice A n c)).run Tryz.prog w=.ok ⟨l.toArray⟩ w:=by
  subst hn
  cases l with
  | nil=>cases A<;>rfl
  | cons x l =>
    obtain⟨b,o,rfl,_,hc⟩:=hr (by simp)
    have h:=loadBytes_any (x::l) ⟨b,o,none⟩ .empty (w:=w) (by
      intro j v hj
      rw[List.getElem?_map] at hj
      rcases Nat.lt_or_ge j (x::l).length with hlt|hge
      · rw[List.getElem?_eq_getElem hlt] at hj
        simp only[Option.map_some,Option.some.injEq] at hj
        subst hj
        have:(⟨b,o,none⟩:Addr).add j=⟨b,o+j,none⟩:=by unfold Addr.add;split<;>simp_all
        rw[this];exact hc j hlt
      · rw[List.getElem?_eq_none hge] at hj;cases hj)
    exact h
theorem compareBytes_zero:∀ l k:List UInt8,Lib.compareBytes l k=0↔l=k
  | [],[]=>by simp[Lib.compareBytes]
  | [],y::k=>by simp[Lib.compareBytes]
  | x::l,[]=>by simp[Lib.compareBytes]
  | x :: l, y :: k => by
    have:=compareBytes_zero l k
    simp only[Lib.compareBytes]
    by_cases h1:x<y
    · rw[if_pos h1]
      constructor
      · intro h;omega
      · intro h;injection h with h _;subst h;exact absurd h1 (by simp)
    · rw[if_neg h1]
      by_cases h2:y<x
      · rw[if_pos h2]
        constructor
        · intro h;omega
        · intro h;injection h with h _;subst h;exact absurd h2 (by simp)
      · rw[if_neg h2,this]
        have:x=y:=by
          rw[UInt8.lt_iff_toNat_lt] at h1 h2
          exact UInt8.toNat_inj.1 (by omega)
        simp[this]
theorem compare_any(A C:Option Addr)(c d n m:Nat)(l k:List UInt8)(w:World)(hr:Rd w w.heap.size A l)(hm:Rd w w.heap.size C k)(hn:n=l.length)(hn2:m=k.length) :
    (callFunc 278 #[.slice A n c,.slice C m d]).run Tryz.prog w=.ok (.value (.int .i64 (Lib.compareBytes l k))) w:=by
  rw[run_callFunc_extern Tryz.func278 (by kernel_rfl) (by kernel_rfl) (by kernel_rfl) (e:=Extern.BytealgCompare.compare) (by kernel_rfl)]
  have h:(Extern.BytealgCompare.compare #[.slice A n c,.slice C m d])=(do pure (goInt (Extern.BytealgCompare.cmp (← Extern.Bytes.bytesOf (.slice A n c)) (← Extern.Bytes.bytesOf (.slice C m d)))):Sem Value):=rfl
  rw[h]
  simp only[Sem.run_bind,bytesOf_any hr hn,bytesOf_any hm hn2,Result.andThen_ok,Sem.run_pure,Lib.cmp_eq]
  rfl
theorem bcompare_any(A C:Option Addr)(c d n m:Nat)(l k:List UInt8)(w:World)(hr:Rd w w.heap.size A l)(hm:Rd w w.heap.size C k)(hn:n=l.length)(hn2:m=k.length) :
    Calls Tryz.prog 250 #[.slice A n c,.slice C m d] w fun e w'=>e=.returned (.int .i64 (Lib.compareBytes l k))∧w'=w:=by
  have h:=compare_any A C c d n m l k w hr hm hn hn2
  clear hn hn2
  go_enter Tryz.func250,Tryz.ntmps250
  go_wp2
  go_ret
  exact⟨rfl,rfl⟩
theorem cmp_any(A C:Option Addr)(c d n m:Nat)(l k:List UInt8)(w:World)(hr:Rd w w.heap.size A l)(hm:Rd w w.heap.size C k)(hn:n=l.length)(hn2:m=k.length) :
    Calls Tryz.prog 192 #[.slice A n c,.slice C m d] w fun e w'=>e=.returned (.int .i64 (Lib.compareBytes l k))∧w'=w:=by
  have HN:=Lib.hid hn
  have HM:=Lib.hid hn2
  clear hn hn2
  go_enter Tryz.func192,Tryz.ntmps192
  go_wp2_with (go_at_call 250;refine(bcompare_any _ _ _ _ _ _ l k _ hr hm HN.out HM.out).mono ?_;rintro e w1 ⟨rfl,rfl⟩)
  go_ret
  exact⟨rfl,rfl⟩
theorem osame_any(A C:Option Addr)(c d n m:Nat)(l k:List UInt8)(w:World)(hr:Rd w w.heap.size A l)(hm:Rd w w.heap.size C k)(hn:n=l.length)(hn2:m=k.length) :
    Calls Tryz.prog 97 #[.slice A n c,.slice C m d] w fun e w'=>e=.returned (.bool (decide (l=k)))∧w'=w:=by
  have HN:=Lib.hid hn
  have HM:=Lib.hid hn2
  have hz:(Lib.compareBytes l k==0)=decide (l=k):=by
    have:=compareBytes_zero l k
    rw[Bool.eq_iff_iff];simp[this]
  have HZ:=Lib.hid hz
  clear hn hn2 hz
  go_enter Tryz.func97,Tryz.ntmps97
  go_wp2_with (go_at_call 192;refine(cmp_any _ _ _ _ _ _ l k _ hr hm HN.out HM.out).mono ?_;rintro e w1 ⟨rfl,rfl⟩)
  go_ret
  exact⟨by rw[← HZ.out];rfl,rfl⟩
def leB (v i:Nat):UInt8:=UInt8.ofNat (v / 2 ^ (8 * i) % 256)
def le (n v:Nat):List UInt8:=(List.range n).map (leB v)
theorem le_len(n v:Nat):(le n v).length=n:=by simp[le]
theorem le_succ(n v:Nat):le (n+1) v=le n v++[leB v n]:=by simp[le,List.range_succ]
theorem leB_int(v i:Nat):(v:Int) / 2 ^ (8 * i) % 256=((leB v i).toNat:Int):=by
  unfold leB
  rw[UInt8.toNat_ofNat']
  simp
theorem madeCells_toList'(c:Nat):(madeCells (Value.int .u8 0).cells (c * 1)).toList=List.replicate c (.int .u8 0):=by
  apply List.ext_getElem?
  intro k
  simp only[madeCells,Nat.mul_one,Array.toList_map,Array.toList_range,List.getElem?_map,List.getElem?_replicate]
  by_cases h:k<c
  · rw[List.getElem?_range h,if_pos h];simp[Value.cells,Nat.mod_one]
  · rw[List.getElem?_eq_none (by simp;omega),if_neg h];rfl
theorem mk0(w:World)(c:Nat)(hc:c≤1000000000):∃ w0,(Instr.makeSlice 33 (.int .i64 0) (.int .i64 (c:Int))).run Tryz.prog w=.ok (.slice (some ⟨w.heap.size,0,none⟩) 0 c) w0 ∧
    Own w0 w.heap.size (.slice (some ⟨w.heap.size,0,none⟩) 0 c) []∧Below w.heap.size w w0:=by
  obtain⟨i0,hi,hz0,hz1,hz2⟩:=info_parts Tryz.info5
  obtain⟨w0,h1,h2,h3⟩:=run_make_own (P:=Tryz.prog) w w.heap.size 33 5 i0 _ 1 Tryz.underlying33 hi hz0 hz1 .i64 .i64 c (by rw[hz2];omega) (by unfold maxLen;omega) (Nat.le_refl _)
  exact⟨w0,h1,h2,⟨h3.os,h3.tape,h3.output,h3.size,fun k hk=>h3.block k hk (fun e=>by cases e)⟩⟩
theorem mkn(w:World)(c:Nat)(hc:c≤1000000000):∃ w0,(Instr.makeSlice 33 (.int .i64 (c:Int)) (.int .i64 (c:Int))).run Tryz.prog w=.ok (.slice (some ⟨w.heap.size,0,none⟩) c c) w0 ∧
    Own w0 w.heap.size (.slice (some ⟨w.heap.size,0,none⟩) c c) (List.replicate c 0)∧Below w.heap.size w w0:=by
  obtain⟨i0,hi,hz0,hz1,hz2⟩:=info_parts Tryz.info5
  obtain⟨w0,h1,h2,h3⟩:=run_make_full (P:=Tryz.prog) w w.heap.size 33 5 i0 _ 1 Tryz.underlying33 hi hz0 hz1 .i64 .i64 c (by rw[hz2];omega) (by unfold maxLen;omega) (Nat.le_refl _)
  refine⟨w0,h1,?_,⟨h3.os,h3.tape,h3.output,h3.size,fun k hk=>h3.block k hk (fun e=>by cases e)⟩⟩
  unfold Own
  have e1:(List.replicate c (0:UInt8)).map u8V=(madeCells (Value.int .u8 0).cells (c * 1)).toList:=by
    apply List.ext_getElem?
    intro k
    rw[madeCells_toList',List.map_replicate]
    rfl
  rw[e1,List.length_replicate]
  exact h2
theorem add_any(A:Option Addr)(c n v s:Nat)(l:List UInt8)(w:World)(hr:Rd w w.heap.size A l)(hn:n=l.length)(hl:l.length≤1000000)(hv:v≤18446744073709551615)(hs:s≤8) :
    Calls Tryz.prog 227 #[.slice A n c,.int .u64 v,.int .i64 s] w fun e w'=>∃ u,e=.returned u∧Own w' w.heap.size u (l++le s v)∧Below w.heap.size w w':=by
  have HN:=Lib.hid hn
  have hnl:n≤1000000:=by omega
  obtain⟨w0,hmk,hown0,hb0⟩:=mk0 w (n+s) (by omega)
  rw[Int.natCast_add] at hmk
  clear hn
  go_enter Tryz.func227,Tryz.ntmps227
  go_wp2_with (at_builtin;refine apB rfl (.tmp 14) (.tmp 15) rfl w.heap.size _ [] rfl hown0 _ _ n c l rfl HN.out (hr.below hb0) ?c1 ?c2 ?_)
  case c1=>simp;omega
  case c2=>exact hb0.size
  intro v1 w1 hown1 hb1 _ _
  have hb1':=hb0.trans hb1
  clear hown0 hb0 hb1 hmk
  go_wp2
  go_loopw [7,18] (fun u i wr=>∃ k:Nat,k≤s∧i=.int .i64 k∧Own wr w.heap.size u (l++le k v)∧Below w.heap.size w wr) (fun _ i _=>s-(intOf i).toNat)
  case atStart=>exact⟨0,by omega,rfl,by simpa[le] using hown1,hb1'⟩
  case round=>
    obtain⟨k,hk,rfl,hown,hb⟩:=hrel
    have hz:=hb.size
    by_cases hlt:k<s
    · have hB:=leB_int v k
      go_wp2_with (at_builtin;refine apB rfl (.tmp 21) (.tmp 27) rfl w.heap.size _ _ rfl (hown.alloc _) _ _ 1 1 [leB v k] rfl rfl (Rd.one _ _) ?c1 ?c2 ?_)
      case c1=>simp[le_len];omega
      case c2=>simp;omega
      intro v' w2 hown2 hb2 _ _
      have hown2':=hown2.cast (m:=l++le (k+1) v) (by rw[le_succ])
      have hbb2:=(hb.alloc hz _).trans hb2
      clear hown2 hb2 hown hB
      go_wp2
      go_roundw
      case rel=>exact⟨k+1,by omega,by go_num,hown2',hbb2⟩
      case measure=>simp[intOf]<;>omega
    · obtain rfl:k=s:=by omega
      go_wp2
      go_ret
      exact⟨_,rfl,hown,hb⟩
theorem add16_any(A:Option Addr)(c n v:Nat)(l:List UInt8)(w:World)(hr:Rd w w.heap.size A l)(hn:n=l.length)(hl:l.length≤1000000)(hv:v≤65535) :
    Calls Tryz.prog 150 #[.slice A n c,.int .u16 v] w fun e w'=>∃ u,e=.returned u∧Own w' w.heap.size u (l++le 2 v)∧Below w.heap.size w w':=by
  have HN:=Lib.hid hn
  clear hn
  go_enter Tryz.func150,Tryz.ntmps150
  go_wp2_with (go_at_call 227;refine(add_any _ _ _ v 2 l _ hr HN.out (by omega) (by omega) (by omega)).mono ?_;rintro e w1 ⟨u,rfl,hown,hb⟩)
  go_ret
  exact⟨_,rfl,hown,hb⟩
theorem add32_any(A:Option Addr)(c n v:Nat)(l:List UInt8)(w:World)(hr:Rd w w.heap.size A l)(hn:n=l.length)(hl:l.length≤1000000)(hv:v≤4294967295) :
    Calls Tryz.prog 151 #[.slice A n c,.int .u32 v] w fun e w'=>∃ u,e=.returned u∧Own w' w.heap.size u (l++le 4 v)∧Below w.heap.size w w':=by
  have HN:=Lib.hid hn
  clear hn
  go_enter Tryz.func151,Tryz.ntmps151
  go_wp2_with (go_at_call 227;refine(add_any _ _ _ v 4 l _ hr HN.out (by omega) (by omega) (by omega)).mono ?_;rintro e w1 ⟨u,rfl,hown,hb⟩)
  go_ret
  exact⟨_,rfl,hown,hb⟩
theorem add64_any(A:Option Addr)(c n v:Nat)(l:List UInt8)(w:World)(hr:Rd w w.heap.size A l)(hn:n=l.length)(hl:l.length≤1000000)(hv:v≤18446744073709551615) :
    Calls Tryz.prog 147 #[.slice A n c,.int .u64 v] w fun e w'=>∃ u,e=.returned u∧Own w' w.heap.size u (l++le 8 v)∧Below w.heap.size w w':=by
  have HN:=Lib.hid hn
  clear hn
  go_enter Tryz.func147,Tryz.ntmps147
  go_wp2_with (go_at_call 227;refine(add_any _ _ _ v 8 l _ hr HN.out (by omega) (by omega) (by omega)).mono ?_;rintro e w1 ⟨u,rfl,hown,hb⟩)
  go_ret
  exact⟨_,rfl,hown,hb⟩
def rest (v i:Nat):Nat:=v / 2 ^ (8 * i)
def leN:List UInt8→Nat
  | []=>0
  | x::l=>x.toNat+256 * leN l
def sub (l:List UInt8)(at_ n:Nat):List UInt8:=(l.drop at_).take n
theorem sub_len{l:List UInt8}{a n:Nat}(h:a+n≤l.length):(sub l a n).length=n:=by simp[sub];omega
theorem sub_get{l:List UInt8}{a n k:Nat}(h:a+n≤l.length)(hk:k<n):(sub l a n)[k]'(by rw[sub_len h];exact hk)=l[a+k]:=by simp[sub]
theorem leN_lt:∀ l:List UInt8,leN l<256 ^ l.length
  | []=>by simp[leN]
  | x :: l => by
    have h:=leN_lt l
    have hx:=x.toNat_lt
    simp only[leN,List.length_cons,Nat.pow_succ]
    omega
theorem leN_snoc:∀ (l:List UInt8) (x:UInt8),leN (l++[x])=leN l+x.toNat * 256 ^ l.length
  | [],x=>by simp[leN]
  | y :: l, x => by
    have h:=leN_snoc l x
    simp only[List.cons_append,leN,h,List.length_cons,Nat.pow_succ]
    rw[Nat.mul_add,← Nat.add_assoc,Nat.mul_comm 256 (x.toNat * _),Nat.mul_assoc]
theorem pow256(k:Nat):256 ^ k=2 ^ (8 * k):=by rw[Nat.pow_mul]
theorem or_bits(a x k:Nat)(h:a<256 ^ k)(hx:x<256)(hk:k<8):bits .or .u64 (a:Int) (IntKind.u64.wrap ((x:Int) * 2 ^ (8 * k)))=((a+x * 256 ^ k:Nat):Int):=by
  rw[pow256] at h ⊢
  have hp:2 ^ (8 * k) * 2 ^ (64-8 * k)=2 ^ 64:=by rw[← Nat.pow_add];congr 1;omega
  have h8:256≤2 ^ (64-8 * k):=Nat.pow_le_pow_right (n:=2) (by omega) (show 8≤64-8 * k by omega)
  have hb:x * 2 ^ (8 * k)+2 ^ (8 * k)≤2 ^ 64:=by
    rw[← hp,Nat.mul_comm (2 ^ (8 * k)) _,← Nat.succ_mul]
    exact Nat.mul_le_mul_right _ (by omega)
  have e0:((x:Int) * 2 ^ (8 * k))=((x * 2 ^ (8 * k):Nat):Int):=by simp
  rw[e0]
  generalize hy:x * 2 ^ (8 * k)=y at hb
  have hw:IntKind.u64.wrap (y:Int)=(y:Int):=by rw[IntKind.wrap_u64];omega
  rw[hw]
  have hor:a ||| y=a+y:=by
    have:=Nat.two_pow_add_eq_or_of_lt h x
    rw[Nat.mul_comm,hy] at this
    rw[Nat.or_comm,← this];omega
  have h1:(BitVec.ofInt 64 (a:Int)).toNat=a:=by rw[BitVec.ofInt_natCast,BitVec.toNat_ofNat];exact Nat.mod_eq_of_lt (by omega)
  have h2:(BitVec.ofInt 64 (y:Int)).toNat=y:=by rw[BitVec.ofInt_natCast,BitVec.toNat_ofNat];exact Nat.mod_eq_of_lt (by omega)
  have e:bits .or .u64 (a:Int) (y:Int)=IntKind.u64.wrap (((BitVec.ofInt 64 (a:Int)) ||| (BitVec.ofInt 64 (y:Int))).toNat:Int):=rfl
  rw[e,BitVec.toNat_or,h1,h2,hor,IntKind.wrap_u64]
  omega
theorem sub_succ{l:List UInt8}{p k:Nat}(h:p+k<l.length):sub l p (k+1)=sub l p k++[l[p+k]]:=by
  unfold sub
  rw[List.take_succ_eq_append_getElem (by simp;omega)]
  simp
theorem leN_sub{l:List UInt8}{p k:Nat}(h:p+k<l.length):leN (sub l p (k+1))=leN (sub l p k)+l[p+k].toNat * 256 ^ k:=by
  rw[sub_succ h,leN_snoc,sub_len (by omega)]
theorem leN_sub_lt{l:List UInt8}{p k:Nat}(h:p+k≤l.length):leN (sub l p k)<256 ^ k:=by
  have:=leN_lt (sub l p k)
  rwa[sub_len h] at this
theorem number_any(A:Option Addr)(c n s:Nat)(p:Nat)(l:List UInt8)(w:World)(hr:Rd w w.heap.size A l)(hn:n=l.length)(hl:l.length≤1000000)(hs:s≤8)(hp:p+s≤l.length) :
    Calls Tryz.prog 248 #[.slice A n c,.int .i64 p,.int .i64 s] w fun e w'=>e=.returned (.tuple #[.int .u64 (leN (sub l p s):Nat),.bool true])∧w'=w:=by
  have HN:=Lib.hid hn
  have hnl:n≤1000000:=by omega
  have hps:p+s≤n:=by omega
  clear hn hl hp
  go_enter Tryz.func248,Tryz.ntmps248
  go_wp2
  go_loopw [8,21] (fun v i wr=>∃ k:Nat,k≤s∧i=.int .i64 k∧v=.int .u64 (leN (sub l p k):Nat)∧wr=w) (fun _ i _=>s-(intOf i).toNat)
  case atStart=>exact⟨0,by omega,rfl,by simp[sub,leN],rfl⟩
  case round=>
    obtain⟨k,hk,rfl,rfl,rfl⟩:=hrel
    by_cases hlt:k<s
    · have hpk:p+k<l.length:=by have:=HN.out;omega
      obtain⟨b,o,rfl,hbB,hc⟩:=hr.at_ hpk
      have hB:=or_bits _ l[p+k].toNat k (leN_sub_lt (l:=l) (p:=p) (by omega)) l[p+k].toNat_lt (by omega)
      rw[← leN_sub hpk] at hB
      have hx8:=l[p+k].toNat_lt
      go_wp2
      go_roundw
      case rel=>exact⟨k+1,by omega,by go_num,rfl,trivial⟩
      case measure=>simp[intOf]<;>omega
    · obtain rfl:k=s:=by omega
      go_wp2
      go_ret2
      exact⟨rfl,rfl⟩
theorem u16_any(A:Option Addr)(c n p:Nat)(l:List UInt8)(w:World)(hr:Rd w w.heap.size A l)(hn:n=l.length)(hl:l.length≤1000000)(hp:p+2≤l.length) :
    Calls Tryz.prog 295 #[.slice A n c,.int .i64 p] w fun e w'=>e=.returned (.tuple #[.int .u16 (leN (sub l p 2):Nat),.bool true])∧w'=w:=by
  have HN:=Lib.hid hn
  have HP:=Lib.hid hp
  have hlt:=leN_sub_lt hp
  clear hn hp
  go_enter Tryz.func295,Tryz.ntmps295
  go_wp2_with (go_at_call 248;refine(number_any _ _ _ 2 p l _ hr HN.out hl (by omega) HP.out).mono ?_;rintro e w1 ⟨rfl,rfl⟩)
  go_ret2
  exact⟨rfl,rfl⟩
theorem u32_any(A:Option Addr)(c n p:Nat)(l:List UInt8)(w:World)(hr:Rd w w.heap.size A l)(hn:n=l.length)(hl:l.length≤1000000)(hp:p+4≤l.length) :
    Calls Tryz.prog 242 #[.slice A n c,.int .i64 p] w fun e w'=>e=.returned (.tuple #[.int .u32 (leN (sub l p 4):Nat),.bool true])∧w'=w:=by
  have HN:=Lib.hid hn
  have HP:=Lib.hid hp
  have hlt:=leN_sub_lt hp
  clear hn hp
  go_enter Tryz.func242,Tryz.ntmps242
  go_wp2_with (go_at_call 248;refine(number_any _ _ _ 4 p l _ hr HN.out hl (by omega) HP.out).mono ?_;rintro e w1 ⟨rfl,rfl⟩)
  go_ret2
  exact⟨rfl,rfl⟩
theorem u64_any(A:Option Addr)(c n p:Nat)(l:List UInt8)(w:World)(hr:Rd w w.heap.size A l)(hn:n=l.length)(hl:l.length≤1000000)(hp:p+8≤l.length) :
    Calls Tryz.prog 188 #[.slice A n c,.int .i64 p] w fun e w'=>e=.returned (.tuple #[.int .u64 (leN (sub l p 8):Nat),.bool true])∧w'=w:=by
  have HN:=Lib.hid hn
  have HP:=Lib.hid hp
  have hlt:=leN_sub_lt hp
  clear hn hp
  go_enter Tryz.func188,Tryz.ntmps188
  go_wp2_with (go_at_call 248;refine(number_any _ _ _ 8 p l _ hr HN.out hl (by omega) HP.out).mono ?_;rintro e w1 ⟨rfl,rfl⟩)
  go_ret2
  exact⟨rfl,rfl⟩
section
variable {w w':World}{B B':Nat}{A:Option Addr}{l:List Int}{v:Value}
end
end Go.Proofs.YtdbkocfbhpgpkaaGreat
