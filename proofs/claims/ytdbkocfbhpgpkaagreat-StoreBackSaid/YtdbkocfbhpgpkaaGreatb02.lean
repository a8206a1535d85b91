/-
  store.HeadBytes: what the call does.
-/
import Derived.Test.YtdbkocfbhpgpkaaGreatb01
import Derived.Lib.SlBytesConst
import Derived.Laws.CopyOwn
set_option linter.unusedVariables false
set_option linter.unusedSimpArgs false
namespace Go.Proofs.YtdbkocfbhpgpkaaGreat
open Go Go.RowKit
set_option maxRecDepth 100000
set_option maxHeartbeats 1600000
structure Hd where
  lg:Int
  ep:Int
  fr:Int
  ct:Int
  nx:Int
  op:List Int
  dd:List Int
structure OkH(h:Hd):Prop where
  lg1:24≤h.lg
  lg2:h.lg≤1024
  fr1:0≤h.fr
  fr2:h.fr<h.lg
  ep1:1≤h.ep
  ep2:h.ep≤4294967295
  ct1:1≤h.ct
  ct2:h.ct≤4294967295
  nx1:1≤h.nx
  nx2:h.nx≤4611686018427387904
  op1:h.op.length≤16
  dd1:h.dd.length≤64
  op2:rise h.nx 0 h.op=true
  dd2:rise h.nx 0 h.dd=true
  apart:∀ n∈h.op,n ∉ h.dd
open Classical in
noncomputable def okB(h:Hd):Bool:=decide (OkH h)
theorem okB_true{h:Hd}(o:OkH h):okB h=true:=by simp[okB,o]
theorem okB_false{h:Hd}(o:¬OkH h):okB h=false:=by simp[okB,o]
abbrev hdV(h:Hd)(A B:Option Addr)(n c m d:Nat):Array Value:=#[.int .i64 h.lg,.int .i64 h.ep,.int .i64 h.fr,.int .i64 h.ct,.int .i64 h.nx,.slice A n c,.slice B m d]
theorem not_take{x:Int}{l:List Int}{q:Nat}(h:x ∉ l.take q)(hq:q<l.length)(hx:¬x=l[q]):x ∉ l.take (q+1):=by
  rw[List.take_succ_eq_append_getElem hq]
  intro hm
  rcases List.mem_append.1 hm with hm|hm
  · exact h hm
  · exact hx (List.mem_singleton.1 hm)
theorem all_take{l d:List Int}{k:Nat}(h:∀ x∈l.take k,x ∉ d)(hk:k<l.length)(hx:l[k] ∉ d):∀ x∈l.take (k+1),x ∉ d:=by
  rw[List.take_succ_eq_append_getElem hk]
  intro x hm
  rcases List.mem_append.1 hm with hm|hm
  · exact h x hm
  · rw[List.mem_singleton.1 hm];exact hx
theorem right_any(h:Hd)(A B:Option Addr)(n c m d:Nat)(w:World)(hA:RdI w w.heap.size A h.op)(hB:RdI w w.heap.size B h.dd)(hn:n=h.op.length)(hm:m=h.dd.length)
    (hnl:n≤140737488355328) (hml:m≤140737488355328) :
    Calls Tryz.prog 155 #[.agg (hdV h A B n c m d)] w fun e w'=>e=.returned (.bool (okB h))∧Below w.heap.size w w':=by
  have HN:=Lib.hid hn
  have HM:=Lib.hid hm
  have hol:h.op.length≤140737488355328:=by omega
  have hdl:h.dd.length≤140737488355328:=by omega
  clear hn hm
  have leaf:∀ (x:Bool) (w':World),x=false→¬OkH h→Below w.heap.size w w'→Ending.returned (.bool x)=Ending.returned (.bool (okB h))∧Below w.heap.size w w':=by
    intro x w' h1 h2 h3
    exact⟨by rw[h1,okB_false h2],h3⟩
  go_enter Tryz.func155,Tryz.ntmps155
  have hb1:Below w.heap.size w (w.alloc (.cells (hdV h A B n c m d) 73)):=(Below.refl _ _).alloc (Nat.le_refl _) _
  have hA1:=hA.belowS hb1
  have hB1:=hB.belowS hb1
  go_wp2_with (first
    | (go_at_call 230;with_reducible refine(below_any A c n h.nx h.op _ hA1 HN.out hol).mono ?_;rintro e w1 ⟨rfl,rfl⟩)
    | (go_at_call 230;with_reducible refine(below_any B d m h.nx h.dd _ hB1 HM.out hdl).mono ?_;rintro e w1 ⟨rfl,rfl⟩))
  all_goals try (go_ret;refine leaf _ _ rfl (fun o=>?_) hb1;have o1:=o.lg1;have o2:=o.lg2;have o3:=o.fr1;have o4:=o.fr2;have o5:=o.ep1;have o6:=o.ep2;have o7:=o.ct1;have o8:=o.ct2;have o9:=o.nx1;have o10:=o.nx2;have o11:=o.op1;have o12:=o.dd1;have o13:=o.op2;have o14:=o.dd2;have oN:=HN.out;have oM:=HM.out;first | omega | (simp_all;done) | (simp only[o13,o14,Bool.not_true,Bool.false_eq_true,or_false] at *;omega))
  have r1:rise h.nx 0 h.op=true:=by assumption
  have r2:rise h.nx 0 h.dd=true:=by simp_all
  have OK0:(∀ x∈h.op,x ∉ h.dd)→OkH h:=fun ha=>by
    have oN:=HN.out
    have oM:=HM.out
    exact⟨by omega,by omega,by omega,by omega,by omega,by omega,by omega,by omega,by omega,by omega,by omega,by omega,r1,r2,ha⟩
  have HOK:=Lib.hid OK0
  clear OK0
  go_loopw [84] (fun i wr=>∃ k:Nat,k≤n∧i=.int .i64 k∧(∀ x∈h.op.take k,x ∉ h.dd)∧wr=w.alloc (.cells (hdV h A B n c m d) 73)) (fun i _=>n-(intOf i).toNat)
  case atStart=>exact⟨0,by omega,rfl,by simp,rfl⟩
  case round=>
    obtain⟨k,hk,rfl,hap,rfl⟩:=hrel
    have HA:=Lib.hid hap
    clear hap
    by_cases hlt:k<n
    · have hkl:k<h.op.length:=by have:=HN.out;omega
      obtain⟨b,o,rfl,hbB,hc⟩:=hA1.at_ hkl
      go_wp2
      go_loopw [91] (fun i wr=>∃ q:Nat,q≤m∧i=.int .i64 q∧(h.op[k] ∉ h.dd.take q)∧wr=w.alloc (.cells (hdV h (some ⟨b,o,none⟩) B n c m d) 73)) (fun i _=>m-(intOf i).toNat)
      case atStart=>exact⟨0,by omega,rfl,by simp,rfl⟩
      case round=>
        obtain⟨q,hq,rfl,hnq,rfl⟩:=hrel
        have HQ:=Lib.hid hnq
        clear hnq
        by_cases hqm:q<m
        · have hql:q<h.dd.length:=by have:=HM.out;omega
          obtain⟨b',o',rfl,hbB',hc'⟩:=hB1.at_ hql
          by_cases heq:h.op[k]=h.dd[q]
          · have hd:decide (h.op[k]=h.dd[q])=true:=by simp[heq]
            have hbad:¬OkH h:=fun o=>o.apart h.op[k] (List.getElem_mem _) (by rw[heq];exact List.getElem_mem _)
            have HB:=Lib.hid hbad
            clear hbad
            go_wp2
            go_ret
            exact leaf _ _ rfl HB.out hb1
          · have hd:decide (h.op[k]=h.dd[q])=false:=by simp[heq]
            have HE:=Lib.hid heq
            have hne:(h.op[k]==h.dd[q])=false:=by simpa using heq
            go_wp2
            exact⟨⟨q+1,by omega,by go_num,not_take HQ.out hql HE.out,trivial⟩,by simp[intOf];omega⟩
        · obtain rfl:q=m:=by omega
          go_wp2
          go_roundw
          case rel=>exact⟨k+1,by omega,by go_num,all_take HA.out hkl (by have:=HQ.out;rwa[List.take_of_length_le (by have:=HM.out;omega)] at this),trivial⟩
          case measure=>simp[intOf]<;>omega
    · obtain rfl:k=n:=by omega
      go_wp2
      go_ret
      exact⟨by rw[okB_true (HOK.out (by have:=HA.out;rwa[List.take_of_length_le (by have:=HN.out;omega)] at this))];rfl,hb1⟩
def flat (k:Nat)(l:List Int):List UInt8:=l.flatMap fun n=>le k n.toNat
theorem flat_snoc(k:Nat)(l:List Int)(x:Int):flat k (l++[x])=flat k l++le k x.toNat:=by simp[flat]
theorem flat_take{k:Nat}{l:List Int}{j:Nat}(h:j<l.length):flat k (l.take (j+1))=flat k (l.take j)++le k l[j].toNat:=by
  rw[List.take_succ_eq_append_getElem h,flat_snoc]
theorem flat_len(k:Nat):∀ l:List Int,(flat k l).length=k * l.length
  | []=>rfl
  | x :: l => by
    have:=flat_len k l
    simp only[flat,List.flatMap_cons,List.length_append,le_len,List.length_cons] at this ⊢
    rw[this,Nat.mul_add];omega
def magic:List UInt8:=[67,72,78,49]
def four (h:Hd):List Int:=[h.lg,h.ep,h.fr,h.ct]
def head1(h:Hd):List UInt8:=magic++flat 4 (four h)++le 8 h.nx.toNat
def head2(h:Hd):List UInt8:=head1 h++le 2 h.op.length++flat 8 h.op
def head3(h:Hd):List UInt8:=head2 h++le 2 h.dd.length++flat 8 h.dd
def headB(h:Hd):List UInt8:=head3 h++List.replicate (4080-(head3 h).length) 0
theorem head1_len(h:Hd):(head1 h).length=28:=by simp[head1,magic,flat_len,four,le_len]
theorem head2_len(h:Hd):(head2 h).length=30+8 * h.op.length:=by simp[head2,head1_len,flat_len,le_len];omega
theorem head3_len(h:Hd):(head3 h).length=32+8 * h.op.length+8 * h.dd.length:=by simp[head3,head2_len,flat_len,le_len];omega
theorem rise_mem{lim:Int}:∀ {l:List Int} {a:Int},rise lim a l=true→∀ x∈l,a<x∧x<lim
  | [],a,_,x,hx=>by simp at hx
  | n :: l, a, h, x, hx => by
    simp only[rise,Bool.and_eq_true,decide_eq_true_eq] at h
    rcases List.mem_cons.1 hx with rfl|hx
    · exact⟨h.1,h.2.1⟩
    · have:=rise_mem h.2.2 x hx
      omega
theorem rise_get{lim:Int}{l:List Int}(h:rise lim 0 l=true){k:Nat}(hk:k<l.length):0<l[k]∧l[k] < lim:=rise_mem h _ (List.getElem_mem hk)
theorem right_ok(h:Hd)(hok:OkH h)(A B:Option Addr)(n c m d:Nat)(w:World)(hA:RdI w w.heap.size A h.op)(hB:RdI w w.heap.size B h.dd)(hn:n=h.op.length)(hm:m=h.dd.length) :
    Calls Tryz.prog 155 #[.agg (hdV h A B n c m d)] w fun e w'=>e=.returned (.bool true)∧Below w.heap.size w w':=by
  refine(right_any h A B n c m d w hA hB hn hm (by have:=hok.op1;omega) (by have:=hok.dd1;omega)).mono ?_
  rintro e w' ⟨rfl,hb⟩
  exact⟨by rw[okB_true hok],hb⟩
theorem Rd.magic(w:World):Rd (w.alloc (.cells #[.int .u8 67,.int .u8 72,.int .u8 78,.int .u8 49] 5 (4,5))) (w.heap.size+1) (some ⟨w.heap.size,0,none⟩) magic:=fun _=>
  ⟨_,0,rfl,by omega,fun k hk=>by
    have hk2:k<4:=hk
    have hh:=heap_alloc_new w (.cells #[.int .u8 67,.int .u8 72,.int .u8 78,.int .u8 49] 5 (4,5))
    simp only[World.cell?,hh]
    have:k=0∨k=1∨k=2∨k=3:=by omega
    rcases this with rfl|rfl|rfl|rfl<;>rfl⟩
theorem RdI.four(w:World)(a b c d:Int):RdI (w.alloc (.cells #[.int .i64 a,.int .i64 b,.int .i64 c,.int .i64 d] 3)) (w.heap.size+1) (some ⟨w.heap.size,0,none⟩) [a,b,c,d]:=fun _=>
  ⟨_,0,rfl,by omega,fun k hk=>by
    have hk2:k<4:=hk
    rw[Nat.zero_add,World.cell?_alloc_at _ _ _ _ rfl]
    have:k=0∨k=1∨k=2∨k=3:=by omega
    rcases this with rfl|rfl|rfl|rfl<;>rfl⟩
def Box (w:World)(g:Nat)(V:Array Value):Prop:=w.heap[g]? = some (.cells V 73 (0,0))
section
variable {w w':World}{g:Nat}{V:Array Value}
theorem Box.lt(h:Box w g V):g<w.heap.size:=(Array.getElem?_eq_some_iff.1 h).1
theorem Box.below(h:Box w g V)(hb:Below w.heap.size w w'):Box w' g V:=(hb.block g h.lt).trans h
theorem Box.cell(h:Box w g V)(k:Nat):w.cell? ⟨g,k,none⟩=V[k]?:=by unfold Box at h;simp[World.cell?,h]
theorem Box.cells{h:Hd}{A B:Option Addr}{n c m d:Nat}(b:Box w g (hdV h A B n c m d)):w.cell? ⟨g,0,none⟩=some (.int .i64 h.lg)∧w.cell? ⟨g,1,none⟩=some (.int .i64 h.ep)∧w.cell? ⟨g,2,none⟩=some (.int .i64 h.fr) ∧
    w.cell? ⟨g,3,none⟩=some (.int .i64 h.ct)∧w.cell? ⟨g,4,none⟩=some (.int .i64 h.nx)∧w.cell? ⟨g,5,none⟩=some (.slice A n c)∧w.cell? ⟨g,6,none⟩=some (.slice B m d):=
  ⟨b.cell 0,b.cell 1,b.cell 2,b.cell 3,b.cell 4,b.cell 5,b.cell 6⟩
theorem Box.new(w:World)(V:Array Value):Box (w.alloc (.cells V 73 (0,0))) w.heap.size V:=heap_alloc_new w _
end
theorem four_ok{h:Hd}(ok:OkH h){k:Nat}(hk:k<4):∃ x:Nat,(four h)[k]? = some (x:Int)∧x≤4294967295:=by
  have:k=0∨k=1∨k=2∨k=3:=by omega
  have a1:=ok.lg1;have a2:=ok.lg2;have a3:=ok.fr1;have a4:=ok.fr2;have a5:=ok.ep1;have a6:=ok.ep2;have a7:=ok.ct1;have a8:=ok.ct2
  rcases this with rfl|rfl|rfl|rfl
  · exact⟨h.lg.toNat,by rw[Int.toNat_of_nonneg (by omega)];rfl,by omega⟩
  · exact⟨h.ep.toNat,by rw[Int.toNat_of_nonneg (by omega)];rfl,by omega⟩
  · exact⟨h.fr.toNat,by rw[Int.toNat_of_nonneg (by omega)];rfl,by omega⟩
  · exact⟨h.ct.toNat,by rw[Int.toNat_of_nonneg (by omega)];rfl,by omega⟩
theorem size5:(Tryz.prog.info? 5).map (·.size)=some 1:=by kernel_rfl
theorem Own.full{w:World}{base g n:Nat}{l:List UInt8}(h:Own w base (.slice (some ⟨g,0,none⟩) n n) l)(hl:l.length=n)(hn:0<n):w.heap[g]? = some (.cells (l.map u8V).toArray 5 (0,0)):=by
  subst hl
  rcases h.2 with⟨h1,_⟩|⟨g',cap,cur,h1,h2,h3,h4,h5,h6,h7⟩
  · cases h1
  · cases h1
    rw[h3]
    congr 2
    apply Array.ext'
    rw[List.take_of_length_le (by simp[h6])] at h7
    simpa using h7
theorem Own.of_full{w:World}{base g n:Nat}{l:List UInt8}(h:w.heap[g]? = some (.cells (l.map u8V).toArray 5 (0,0)))(hb:base≤g)(hl:l.length=n)(hn:n≤maxLen):Own w base (.slice (some ⟨g,0,none⟩) n n) l:=by
  subst hl
  exact⟨by simp,.inr ⟨g,_,_,rfl,hb,h,Nat.le_refl _,hn,by simp,by rw[List.take_of_length_le (by simp)]⟩⟩
theorem Rd.addr{w:World}{B:Nat}{A:Option Addr}{l:List UInt8}(h:Rd w B A l)(hne:l≠[]):∃ ad,A=some ad∧∀ j v,(l.map u8V)[j]? = some v→w.cell? (ad.add j)=some v:=by
  obtain⟨b,o,rfl,_,hc⟩:=h hne
  refine⟨_,rfl,fun j v hj=>?_⟩
  rw[List.getElem?_map] at hj
  rcases Nat.lt_or_ge j l.length with hlt|hge
  · rw[List.getElem?_eq_getElem hlt] at hj
    simp only[Option.map_some,Option.some.injEq] at hj
    subst hj
    have:(⟨b,o,none⟩:Addr).add j=⟨b,o+j,none⟩:=by unfold Addr.add;split<;>simp_all
    rw[this];exact hc j hlt
  · rw[List.getElem?_eq_none hge] at hj;cases hj
theorem copy_full{w w5:World}{base g B L c:Nat}{A:Option Addr}{l:List UInt8}(hf:w5.heap[g]? = some (.cells ((List.replicate 4080 (0:UInt8)).map u8V).toArray 5 (0,0)))(hr:Rd w5 B A l)(hne:l≠[])(hL:L=l.length)(hle:L≤4080)
    (hb:Below base w w5) (hg:base≤g):∃ w6,(Builtin.copy_ #[33,33] 3 #[.slice (some ⟨g,0,none⟩) 4080 4080,.slice A L c]).run Tryz.prog w5=.ok (goInt (l.map u8V).length) w6∧Own w6 base (.slice (some ⟨g,0,none⟩) 4080 4080) (l++List.replicate (4080-l.length) 0)∧Below base w w6:=by
  obtain⟨ad,rfl,hsrc⟩:=hr.addr hne
  have hcp:=run_copy_row (P:=Tryz.prog) w5 33 33 3 5 g 0 4080 4080 ad L c _ 5 (l.map u8V) Tryz.underlying33 size5 hf (by rw[List.length_map,← hL];exact(Nat.min_eq_left hle).symm) hsrc (by simp;omega) (by intro v hv;simp at hv;obtain⟨_,_,rfl⟩:=hv;rfl)
  refine⟨_,hcp,Own.of_full ((setRow_heap _ _ _ _ _ _ hf).trans ?_) hg (by simp;omega) (by simp[maxLen]),below_setRow hb hg _⟩
  congr 3
  simp only[List.take_zero,List.nil_append,List.map_replicate,List.drop_replicate,Nat.zero_add,List.length_map,List.map_append]
structure S2(h:Hd)(A B:Option Addr)(n c m d:Nat)(w:World)(g:Nat)(l:List UInt8)(v:Value)(wr:World):Prop where
  v:∃ A' L c',v=.slice A' L c'∧L=l.length∧Rd wr wr.heap.size A' l
  r0:wr.cell? ⟨g,0,none⟩=some (.slice A n c)
  r1:wr.cell? ⟨g,1,none⟩=some (.slice B m d)
  lt:g<wr.heap.size
  a:RdI wr wr.heap.size A h.op
  b:RdI wr wr.heap.size B h.dd
  bl:Below w.heap.size w wr
theorem S2.step{h:Hd}{A B:Option Addr}{n c m d:Nat}{w:World}{g:Nat}{l l':List UInt8}{v v':Value}{wr w':World}(s:S2 h A B n c m d w g l v wr)(hb:Below wr.heap.size wr w')(ho:Own w' wr.heap.size v' l') :
    S2 h A B n c m d w g l' v' w':=by
  obtain⟨A',c',e,_,_,hr⟩:=ho.slice
  exact⟨⟨A',_,c',e,rfl,hr⟩,(hb.cell s.lt).trans s.r0,(hb.cell s.lt).trans s.r1,Nat.lt_of_lt_of_le s.lt hb.size,s.a.belowS hb,s.b.belowS hb,s.bl.trans (hb.mono s.bl.size)⟩
theorem headbytes_ok(h:Hd)(hok:OkH h)(A B:Option Addr)(n c m d:Nat)(w:World)(hA:RdI w w.heap.size A h.op)(hB:RdI w w.heap.size B h.dd)(hn:n=h.op.length)(hm:m=h.dd.length) :
    Calls Tryz.prog 176 #[.agg (hdV h A B n c m d)] w fun e w'=>(∃ v,e=.returned (.tuple #[v,.int .i64 0])∧Own w' w.heap.size v (headB h))∧Below w.heap.size w w':=by
  have kc:=fun(w:World) (C:Array Value) (n c:Nat)=>Lib.run_convert_bytes_const (P:=Tryz.prog) w 33 5 C n c Tryz.underlying33 Tryz.underlying5
  have HN:=Lib.hid hn
  have HM:=Lib.hid hm
  have OK:=Lib.hid hok
  have hb1:Below w.heap.size w (w.alloc (.cells (hdV h A B n c m d) 73)):=(Below.refl _ _).alloc (Nat.le_refl _) _
  have hA1:=hA.belowS hb1
  have hB1:=hB.belowS hb1
  clear hn hm hok
  go_enter Tryz.func176,Tryz.ntmps176
  go_wp2_with (go_at_call 155;with_reducible refine(right_ok h OK.out A B n c m d _ hA1 hB1 HN.out HM.out).mono ?_;rintro e w1 ⟨rfl,hb2⟩;have hbx:=(Box.new w (hdV h A B n c m d)).below hb2;obtain⟨c0,c1,c2,c3,c4,c5,c6⟩:=hbx.cells;have hlt:=hbx.lt)
  have hb4:Below w1.heap.size w1 ((w1.alloc (.cells #[.int .u8 67,.int .u8 72,.int .u8 78,.int .u8 49] 5 (4,5))).alloc (.cells #[.int .i64 h.lg,.int .i64 h.ep,.int .i64 h.fr,.int .i64 h.ct] 3)):=((Below.refl _ _).alloc (Nat.le_refl _) _).alloc (by simp) _
  have hlg:=hbx.lt
  have hb5:=(hb1.trans (hb2.mono hb1.size)).trans (hb4.mono (by omega))
  have hmg:Rd ((w1.alloc (.cells #[.int .u8 67,.int .u8 72,.int .u8 78,.int .u8 49] 5 (4,5))).alloc (.cells #[.int .i64 h.lg,.int .i64 h.ep,.int .i64 h.fr,.int .i64 h.ct] 3)) (w1.heap.size+2) (some ⟨w1.heap.size,0,none⟩) magic:=((Rd.magic w1).alloc (by simp) _).more (by omega)
  have hrow:RdI ((w1.alloc (.cells #[.int .u8 67,.int .u8 72,.int .u8 78,.int .u8 49] 5 (4,5))).alloc (.cells #[.int .i64 h.lg,.int .i64 h.ep,.int .i64 h.fr,.int .i64 h.ct] 3)) (w1.heap.size+2) (some ⟨w1.heap.size+1,0,none⟩) (four h):=by
    have:=RdI.four (w1.alloc (.cells #[.int .u8 67,.int .u8 72,.int .u8 78,.int .u8 49] 5 (4,5))) h.lg h.ep h.fr h.ct
    simpa[four] using this
  have hA4:=(hA1.belowS hb2).belowS hb4
  have hB4:=(hB1.belowS hb2).belowS hb4
  have hbx4:=hbx.below hb4
  clear hb4 hb1 hA1 hB1 c0 c1 c2 c3 c4 c5 c6
  go_loopw [4,27] (fun v i wr=>∃ k:Nat,k≤4∧i=.int .i64 k∧(∃ A' c',v=.slice A' (4+4 * k) c'∧Rd wr wr.heap.size A' (magic++flat 4 ((four h).take k)))∧RdI wr wr.heap.size (some ⟨w1.heap.size+1,0,none⟩) (four h)∧Box wr w.heap.size (hdV h A B n c m d) ∧
    RdI wr wr.heap.size A h.op∧RdI wr wr.heap.size B h.dd∧Below w.heap.size w wr) (fun _ i _=>4-(intOf i).toNat)
  case atStart=>exact⟨0,by omega,rfl,⟨_,4,rfl,by simpa[flat] using hmg⟩,by simpa using hrow,hbx4,hA4,hB4,hb5⟩
  case round=>
    obtain⟨k,hk,rfl,⟨A',c',rfl,hrd⟩,hrw,hbox,hAr,hBr,hbr⟩:=hrel
    clear hmg hrow hA4 hB4 hbx4 hb5 hbx hlt hlg hb2
    by_cases hlt:k<4
    · obtain⟨x,hx,hx1⟩:=four_ok OK.out hlt
      obtain⟨hkl,hxe⟩:=List.getElem?_eq_some_iff.1 hx
      obtain⟨b,o,e,hbB,hc⟩:=hrw.at_ hkl
      rw[hxe] at hc
      cases e
      simp only[Nat.zero_add] at hc
      have hfl:=flat_take (k:=4) hkl
      rw[hxe,Int.toNat_natCast] at hfl
      have hlen:4+4 * k=(magic++flat 4 ((four h).take k)).length:=by simp[magic,flat_len,four];omega
      have HL:=Lib.hid hlen
      have HF:=Lib.hid hfl
      clear hlen hfl hx hxe
      go_wp2_with (go_at_call 151;with_reducible refine(add32_any A' c' (4+4 * k) x _ _ hrd HL.out (by rw[← HL.out];omega) (by omega)).mono ?_;rintro e w2 ⟨u,rfl,hown,hb⟩)
      obtain⟨A2,c2,rfl,_,_,hrd2⟩:=hown.sl (n:=4+4 * (k+1)) (by rw[List.length_append,← HL.out,le_len];omega)
      rw[List.append_assoc,← HF.out] at hrd2
      have hrw2:=hrw.belowS hb
      have hbox2:=hbox.below hb
      have hA2:=hAr.belowS hb
      have hB2:=hBr.belowS hb
      have hb2:=hbr.trans (hb.mono hbr.size)
      clear hown hb hrw hbox hAr hBr hbr hrd hc
      go_wp2
      go_roundw
      case rel=>exact⟨k+1,by omega,by go_num,⟨A2,c2,rfl,hrd2⟩,hrw2,hbox2,hA2,hB2,hb2⟩
      case measure=>simp[intOf]<;>omega
    · obtain rfl:k=4:=by omega
      have hfo:(four h).take 4=four h:=rfl
      rw[hfo] at hrd
      obtain⟨c0,c1,c2,c3,c4,c5,c6⟩:=hbox.cells
      obtain⟨N,hN,hN2⟩:∃ N:Nat,h.nx=(N:Int)∧N≤4611686018427387904:=⟨h.nx.toNat,by have:=OK.out.nx1;omega,by have:=OK.out.nx2;omega⟩
      have HNX:=Lib.hid hN
      rw[hN] at c4
      clear hN
      have hln:20=(magic++flat 4 (four h)).length:=by simp[magic,flat_len,four]
      have HL:=Lib.hid hln
      clear hln hrw hfo c0 c1 c2 c3
      go_wp2_with (go_at_call 147;with_reducible refine(add64_any A' c' 20 N _ _ hrd HL.out (by rw[← HL.out];omega) (by omega)).mono ?_;rintro e w2 ⟨u,rfl,hown,hb⟩;have hbox2:=hbox.below hb;obtain⟨_,_,_,_,_,c5',c6'⟩:=hbox2.cells)
      have e1:magic++flat 4 (four h)++le 8 N=head1 h:=by unfold head1;rw[HNX.out,Int.toNat_natCast]
      have s2:S2 h A B n c m d w w2.heap.size (head1 h) u (w2.alloc (.cells #[.slice A n c,.slice B m d] 22)):=by
        have hb9:=(Below.refl w2.heap.size w2).alloc (Nat.le_refl _) (.cells #[.slice A n c,.slice B m d] 22)
        obtain⟨A',c',e,_,_,hr⟩:=(hown.alloc (.cells #[.slice A n c,.slice B m d] 22)).slice
        refine⟨⟨A',_,c',e,?_,?_⟩,by rw[World.cell?_alloc_at _ _ _ _ rfl];rfl,by rw[World.cell?_alloc_at _ _ _ _ rfl];rfl,by simp,(hAr.belowS hb).belowS hb9,(hBr.belowS hb).belowS hb9,(hbr.trans (hb.mono hbr.size)).trans (hb9.mono (Nat.le_trans hbr.size hb.size))⟩
        · rw[← e1]
        · rw[← e1];exact hr
      clear hown hb hbox2 c5' c6' hbox hAr hBr hbr hrd c4 c5 c6
      go_loopw [4,47] (fun v i wr=>(i=.int .i64 0∧S2 h A B n c m d w w2.heap.size (head1 h) v wr)∨(i=.int .i64 1∧S2 h A B n c m d w w2.heap.size (head2 h) v wr)∨(i=.int .i64 2∧S2 h A B n c m d w w2.heap.size (head3 h) v wr)) (fun _ i _=>2-(intOf i).toNat)
      case atStart=>exact .inl ⟨rfl,s2⟩
      case round=>
        clear s2
        rcases hrel with⟨rfl,s⟩|⟨rfl,s⟩|⟨rfl,s⟩
        ·
          obtain⟨A3,L3,c3,rfl,hL3,hrd3⟩:=s.v
          have r0:=s.r0
          have r1:=s.r1
          have hn16:n≤64:=by have:=HN.out;have:=OK.out.op1;have:=OK.out.dd1;omega
          have HL3:=Lib.hid hL3
          have hl3:L3≤1000:=by rw[hL3,head1_len];have:=OK.out.op1;omega
          clear hL3
          go_wp2_with (go_at_call 150;with_reducible refine(add16_any A3 c3 L3 n (head1 h) _ hrd3 HL3.out (by rw[← HL3.out];omega) (by omega)).mono ?_;rintro e w5 ⟨u5,rfl,hown5,hb5⟩)
          have s5:=s.step hb5 hown5
          clear hown5 hb5 hrd3 r0 r1 s
          go_loopw [4,58] (fun v i wr=>∃ k:Nat,k≤n∧i=.int .i64 k∧S2 h A B n c m d w w2.heap.size (head1 h++le 2 n++flat 8 (h.op.take k)) v wr) (fun _ i _=>n-(intOf i).toNat)
          case atStart=>exact⟨0,by omega,rfl,by simpa[flat] using s5⟩
          case round=>
            obtain⟨k,hk,rfl,s6⟩:=hrel
            clear s5
            by_cases hlt:k<n
            · have hkl:k<h.op.length:=by have:=HN.out;omega
              obtain⟨b,o,rfl,hbB,hc⟩:=s6.a.at_ hkl
              obtain⟨y,hy,hy2⟩:∃ y:Nat,h.op[k]=(y:Int)∧y≤4611686018427387904:=⟨h.op[k].toNat,by have:=rise_get OK.out.op2 hkl;omega,by have:=rise_get OK.out.op2 hkl;have:=OK.out.nx2;omega⟩
              rw[hy] at hc
              have hfl:=flat_take (k:=8) hkl
              rw[hy,Int.toNat_natCast] at hfl
              obtain⟨A7,L7,c7,rfl,hL7,hrd7⟩:=s6.v
              have HL7:=Lib.hid hL7
              have HF:=Lib.hid hfl
              have hl7:L7≤2000:=by rw[hL7];simp[head1_len,le_len,flat_len];have:=OK.out.op1;omega
              clear hL7 hfl hy
              go_wp2_with (go_at_call 147;with_reducible refine(add64_any A7 c7 L7 y _ _ hrd7 HL7.out (by rw[← HL7.out];omega) (by omega)).mono ?_;rintro e w8 ⟨u8,rfl,hown8,hb8⟩)
              have s8:=s6.step hb8 hown8
              rw[List.append_assoc,← HF.out] at s8
              clear hown8 hb8 hrd7 s6 hc
              go_wp2
              exact⟨⟨k+1,by omega,by go_num,s8⟩,by simp[intOf];omega⟩
            · obtain rfl:k=n:=by omega
              have e:head1 h++le 2 k++flat 8 (h.op.take k)=head2 h:=by rw[List.take_of_length_le (by have:=HN.out;omega),HN.out];rfl
              rw[e] at s6
              have s9:=s6
              clear s6 e
              go_wp2
              go_roundw
              case rel=>exact .inr (.inl ⟨by go_num,s9⟩)
              case measure=>simp[intOf]<;>omega
        ·
          obtain⟨A3,L3,c3,rfl,hL3,hrd3⟩:=s.v
          have r0:=s.r0
          have r1:=s.r1
          have hn16:m≤64:=by have:=HM.out;have:=OK.out.op1;have:=OK.out.dd1;omega
          have HL3:=Lib.hid hL3
          have hl3:L3≤1000:=by rw[hL3,head2_len];have:=OK.out.op1;omega
          clear hL3
          go_wp2_with (go_at_call 150;with_reducible refine(add16_any A3 c3 L3 m (head2 h) _ hrd3 HL3.out (by rw[← HL3.out];omega) (by omega)).mono ?_;rintro e w5 ⟨u5,rfl,hown5,hb5⟩)
          have s5:=s.step hb5 hown5
          clear hown5 hb5 hrd3 r0 r1 s
          go_loopw [4,58] (fun v i wr=>∃ k:Nat,k≤m∧i=.int .i64 k∧S2 h A B n c m d w w2.heap.size (head2 h++le 2 m++flat 8 (h.dd.take k)) v wr) (fun _ i _=>m-(intOf i).toNat)
          case atStart=>exact⟨0,by omega,rfl,by simpa[flat] using s5⟩
          case round=>
            obtain⟨k,hk,rfl,s6⟩:=hrel
            clear s5
            by_cases hlt:k<m
            · have hkl:k<h.dd.length:=by have:=HM.out;omega
              obtain⟨b,o,rfl,hbB,hc⟩:=s6.b.at_ hkl
              obtain⟨y,hy,hy2⟩:∃ y:Nat,h.dd[k]=(y:Int)∧y≤4611686018427387904:=⟨h.dd[k].toNat,by have:=rise_get OK.out.dd2 hkl;omega,by have:=rise_get OK.out.dd2 hkl;have:=OK.out.nx2;omega⟩
              rw[hy] at hc
              have hfl:=flat_take (k:=8) hkl
              rw[hy,Int.toNat_natCast] at hfl
              obtain⟨A7,L7,c7,rfl,hL7,hrd7⟩:=s6.v
              have HL7:=Lib.hid hL7
              have HF:=Lib.hid hfl
              have hl7:L7≤2000:=by rw[hL7];simp[head2_len,le_len,flat_len];have:=OK.out.op1;omega
              clear hL7 hfl hy
              go_wp2_with (go_at_call 147;with_reducible refine(add64_any A7 c7 L7 y _ _ hrd7 HL7.out (by rw[← HL7.out];omega) (by omega)).mono ?_;rintro e w8 ⟨u8,rfl,hown8,hb8⟩)
              have s8:=s6.step hb8 hown8
              rw[List.append_assoc,← HF.out] at s8
              clear hown8 hb8 hrd7 s6 hc
              go_wp2
              exact⟨⟨k+1,by omega,by go_num,s8⟩,by simp[intOf];omega⟩
            · obtain rfl:k=m:=by omega
              have e:head2 h++le 2 k++flat 8 (h.dd.take k)=head3 h:=by rw[List.take_of_length_le (by have:=HM.out;omega),HM.out];rfl
              rw[e] at s6
              have s9:=s6
              clear s6 e
              go_wp2
              go_roundw
              case rel=>exact .inr (.inr ⟨by go_num,s9⟩)
              case measure=>simp[intOf]<;>omega
        · obtain⟨A3,L3,c3,rfl,hL3,hrd3⟩:=s.v
          obtain⟨w5,hmk0,hown5,hb5⟩:=mkn wr 4080 (by omega)
          have hmk:(Instr.makeSlice 33 (.int .i64 4080) (.int .i64 4080)).run Tryz.prog wr=.ok (.slice (some ⟨wr.heap.size,0,none⟩) 4080 4080) w5:=hmk0
          have hfull:=hown5.full (by simp) (by omega)
          have hrd5:=hrd3.below hb5
          have hbl5:=s.bl.trans (hb5.mono s.bl.size)
          have hbs:=s.bl.size
          have hL4:L3≤700:=by rw[hL3,head3_len];have:=OK.out.op1;have:=OK.out.dd1;omega
          have HL:=Lib.hid hL3
          clear hmk0 hL3 hown5 s hrd3 hb5
          obtain⟨w6,hcp,hown6,hb6⟩:=copy_full (c:=c3) hfull hrd5 (by intro e;have:=head3_len h;rw[e] at this;simp at this;omega) HL.out (by omega) hbl5 hbs
          clear hrd5 hfull hbl5
          go_wp2
          go_ret2
          exact⟨⟨_,rfl,hown6⟩,hb6⟩
end Go.Proofs.YtdbkocfbhpgpkaaGreat
