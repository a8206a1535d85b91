/-
  The pool holds page 0 beside page 1.
-/
import Derived.Test.YtdbkocfbhpgpkaaGreatb15
import Derived.Test.YtdbkocfbhpgpkaaGreatb03
import Derived.BigRegion
import Derived.Deep.DeepCutAuto
import Derived.Test.YtdbkocfbhpgpkaaGreatb29
import Derived.Test.YtdbkocfbhpgpkaaGreatb12
set_option linter.unusedVariables false
set_option linter.unusedSimpArgs false
namespace Go.Proofs.YtdbkocfbhpgpkaaGreat
open Go Go.RowKit Go.Shelf
set_option maxRecDepth 100000
set_option maxHeartbeats 2000000
theorem bits_all:((List.range 256).all fun y=>(List.range 8).all fun r=>(bits .and .u8 (y:Int) ((2:Int) ^ r % 256) != 0)==y.testBit r)=true:=by kernel_rfl
theorem bits_bit(y:UInt8){r:Nat}(hr:r<8):(bits .and .u8 (y.toNat:Int) ((2:Int) ^ r % 256) != 0)=y.toNat.testBit r:=by
  have h:=List.all_eq_true.1 bits_all y.toNat (List.mem_range.2 y.toNat_lt)
  have h2:=List.all_eq_true.1 h r (List.mem_range.2 hr)
  exact eq_of_beq h2
theorem has_any(b o c:Nat)(y:UInt8)(p:Nat)(hp:p<32640)(W:World)(hc:W.cell? ⟨b,o+p / 8,none⟩=some (u8V y)) :
    Calls Tryz.prog 245 #[.slice (some ⟨b,o,none⟩) 4080 c,.int .i64 (p:Int)] W fun e W'=>e=.returned (.bool (y.toNat.testBit (p % 8)))∧∃ q,W'=W.drewN q:=by
  have n1:Int.tdiv (p:Int) 8=((p / 8:Nat):Int):=by rw[Int.tdiv_eq_ediv_of_nonneg (by omega)];omega
  have n2:Int.tmod (p:Int) 8=((p % 8:Nat):Int):=by rw[Int.tmod_eq_emod_of_nonneg (by omega)];omega
  have n3:p / 8<4080:=by omega
  have n4:p % 8<8:=Nat.mod_lt _ (by decide)
  obtain⟨i,hi⟩:∃ i,p / 8=i:=⟨_,rfl⟩
  obtain⟨r,hr⟩:∃ r,p % 8=r:=⟨_,rfl⟩
  rw[hi] at n1 n3 hc
  rw[hr] at n2 n4 ⊢
  have e1:W.cell? ⟨b,o+i,none⟩=some (.int .u8 (y.toNat:Int)):=hc
  go_enter Tryz.func245,Tryz.ntmps245
  go_wp2
  have n5:(0:Int)≤(i:Int):=by omega
  have n6:(i:Int)<4080:=by omega
  go_quiet (fail)
  rw[bits_bit y n4]
  go_wp2
  go_ret
  exact⟨rfl,_,rfl⟩
def TK (W:World)(b o:Nat):Prop:=∀ k (h:k<taken.length),W.cell? ⟨b,o+k,none⟩=some (u8V taken[k])
theorem taken_bit(p:Nat)(hp:p<32640):((taken[p / 8]'(by rw[taken_len];omega)).toNat.testBit (p % 8))=decide (p<2):=by
  by_cases h8:p<8
  · have e:p / 8=0:=by omega
    have:(taken[p / 8]'(by rw[taken_len];omega))=3:=by simp only[e];rfl
    rw[this,Nat.mod_eq_of_lt h8]
    revert h8 p
    intro p _ h8 _ _
    match p,h8 with
    | 0,_=>rfl
    | 1,_=>rfl
    | 2,_=>rfl
    | 3,_=>rfl
    | 4,_=>rfl
    | 5,_=>rfl
    | 6,_=>rfl
    | 7,_=>rfl
  · have:(taken[p / 8]'(by rw[taken_len];omega))=0:=by
      unfold taken
      rw[List.getElem_cons,dif_neg (by omega),List.getElem_replicate]
    rw[this,decide_eq_false (by omega)]
    simp
theorem has_tk{W:World}{b o:Nat}(h:TK W b o)(c p:Nat)(hp:p<32640) :
    Calls Tryz.prog 245 #[.slice (some ⟨b,o,none⟩) 4080 c,.int .i64 (p:Int)] W fun e W'=>e=.returned (.bool (decide (p<2)))∧∃ q,W'=W.drewN q:=by
  have hl:p / 8<taken.length:=by rw[taken_len];omega
  refine(has_any b o c _ p hp W (h (p / 8) hl)).mono ?_
  rintro e W' ⟨rfl,hq⟩
  exact⟨by rw[taken_bit p hp],hq⟩
theorem pageMap_t(W:World)(x:Value)(R:Nat→Nat→Nat→World→Prop)
    (hG:Calls Tryz.prog 240 #[x,.int .i64 0] W fun e w1=>∃ b o c,e=.returned (.tuple #[.slice (some ⟨b,o,none⟩) 4080 c,.int .i64 0])∧TK w1 b o ∧
      ∀ q,Calls Tryz.prog 244 #[x] (w1.drewN q) fun e w2=>e=.returned (.int .i64 80)∧TK w2 b o∧R b o c w2) :
    Calls Tryz.prog 243 #[x] W fun e w3=>∃ b o c w2 q,e=.returned (.tuple #[.slice (some ⟨b,o,none⟩) 4080 c,.int .i64 0])∧TK w2 b o∧R b o c w2∧w3=w2.drewN q:=by
  go_enter Tryz.func243,Tryz.ntmps243
  go_wp2_with (first
    | (go_at_call 240;with_reducible refine hG.mono ?_;clear hG;rintro e w1 ⟨b,o,c,rfl,hp1,hP⟩;have hz:=has_tk hp1 c 0 (by decide);rw[show((0:Nat):Int)=0 from rfl,show decide (0<2)=true from rfl] at hz)
    | (go_at_call 245;with_reducible refine hz.mono ?_;rintro e w1' ⟨rfl,q,rfl⟩)
    | (go_at_call 244;with_reducible refine(hP q).mono ?_;clear hP;rintro e w2 ⟨rfl,hp2,hR⟩))
  go_loopw [6] (fun i wr=>∃ k q:Nat,80≤k∧k≤32640∧i=.int .i64 (k:Int)∧wr=w2.drewN q) (fun i _=>32640-(intOf i).toNat)
  case atStart=>exact⟨80,0,Nat.le_refl _,by decide,rfl,rfl⟩
  case round=>
    obtain⟨k,q2,hk,hk2,rfl,rfl⟩:=hrel
    have hpk:TK (w2.drewN q2) b o:=hp2
    by_cases hlt:k<32640
    · have hb:=has_tk hpk c k hlt
      rw[decide_eq_false (by omega)] at hb
      have hli:(k:Int)<32640:=by omega
      have hwr:IntKind.i64.wrap ((k:Int)+1)=(k:Int)+1:=by rw[IntKind.wrap_i64];omega
      clear hlt
      go_wp2_with (go_at_call 245;with_reducible refine hb.mono ?_;clear hb;rintro e w4 ⟨rfl,q4,rfl⟩)
      go_roundw
      case rel=>exact⟨k+1,q2+q4,by omega,by omega,by simp,by simp⟩
      case measure=>simp[intOf];omega
    · have hnl:¬((k:Int)<32640):=by omega
      go_wp2
      refine bodyPost_ret (results_tmp2 rfl _ _ _) rfl ?_
      exact⟨b,o,c,rfl,w2,hp2,hR,q2,rfl⟩
theorem TK.below{W W':World}{b o:Nat}(h:TK W b o)(hb:b<W.heap.size)(k:Below W.heap.size W W'):TK W' b o:=fun j hj=>(k.cell (p:=⟨b,o+j,none⟩) hb).trans (h j hj)
theorem take_01{k:Nat}(h:k<2):([0,1]:List Int).take (k+1)=([0,1]:List Int).take k++[(k:Int)]:=by
  rcases (show k=0∨k=1 by omega) with rfl|rfl<;>rfl
theorem all_t{Q:World→Prop}(W:World)(x:Value)
    (hPM:Calls Tryz.prog 243 #[x] W fun e w3=>∃ b o c,e=.returned (.tuple #[.slice (some ⟨b,o,none⟩) 4080 c,.int .i64 0])∧TK w3 b o∧b<w3.heap.size∧Q w3)
    (hP:∀ w3,Q w3→Calls Tryz.prog 244 #[x] w3 fun e w4=>e=.returned (.int .i64 80)∧w4=w3) :
    Calls Tryz.prog 184 #[x] W fun e w'=>∃ v w3,e=.returned (.tuple #[v,.int .i64 0])∧OR w' w3.heap.size v [0,1]∧Q w3∧Below w3.heap.size w3 w':=by
  have HP:=Lib.hid hP
  clear hP
  go_enter Tryz.func184,Tryz.ntmps184
  go_wp2_with (first
    | (go_at_call 243;with_reducible refine hPM.mono ?_;clear hPM;rintro e w3 ⟨b,o,c,rfl,hk,hb,hq⟩;have P3:=HP.out w3 hq)
    | (go_at_call 244;with_reducible refine P3.mono ?_;rintro e w3 ⟨rfl,rfl⟩))
  have HQ:=Lib.hid hq
  clear P3 hq
  go_loopw [6,18] (fun lv i wr=>∃ k:Nat,k≤80∧i=.int .i64 (k:Int)∧OR wr w3.heap.size lv (([0,1]:List Int).take k)∧Below w3.heap.size w3 wr) (fun _ i _=>80-(intOf i).toNat)
  case atStart=>exact⟨0,by decide,rfl,World.ownsRow_nil _ _ _ _,Below.refl _ _⟩
  case round=>
    obtain⟨k,hk80,rfl,ho,bb⟩:=hrel
    by_cases hlt:k<80
    · have hs:=has_tk (hk.below hb bb) c k (by omega)
      have hli:(k:Int)<80:=by omega
      have hwr:IntKind.i64.wrap ((k:Int)+1)=(k:Int)+1:=by rw[IntKind.wrap_i64];omega
      by_cases h2:k<2
      · rw[decide_eq_true h2] at hs
        have hlk:(([0,1]:List Int).take k).length=k:=by simp;omega
        obtain⟨A,cc,hv⟩:=ho.form
        rw[hlk] at hv
        subst hv
        have hsn:=take_01 h2
        have HSN:=Lib.hid hsn
        have HLK:=Lib.hid hlk
        have HO:=Lib.hid ho
        have HBB:=Lib.hid bb
        clear hsn hlk ho bb h2
        go_upto_region 9 with (go_at_call 245;with_reducible refine hs.mono ?_;clear hs;rintro e w4 ⟨rfl,q4,rfl⟩)
        have bq:Below w3.heap.size w3 (wr.drewN q4):=HBB.out.trans (drewN_below wr w3.heap.size q4)
        have hoq:=HO.out.kp (Kp.of (S:=fun _=>False) (drewN_below wr wr.heap.size q4)) (fun _ _ h=>h)
        obtain⟨W4,hW4,g4,b4,s4⟩:=box_alloc (wr.drewN q4) (.cells #[.int .i64 (k:Int)] 3)
        have ho4:OR W4 w3.heap.size (.slice A k cc) (([0,1]:List Int).take k):=hoq.kp (Kp.of (S:=fun _=>False) b4) (fun _ _ h=>h)
        have hnw:∀ j u,[Value.int .i64 (k:Int)][j]? = some u→W4.cell? ((⟨(wr.drewN q4).heap.size,0,none⟩:Addr).add j)=some u:=fun j u hu=>by
          have:((⟨(wr.drewN q4).heap.size,0,none⟩:Addr).add j)=⟨(wr.drewN q4).heap.size,j,none⟩:=by unfold Addr.add;split<;>simp_all
          rw[this,cellD g4]
          simpa using hu
        have HB4:=Lib.hid (bq.trans (b4.mono bq.size))
        have hz4:=HB4.out.size
        clear bq hoq s4
        go_wp2_with (at_builtin;refine apG rfl (.tmp 24) (.tmp 26) 22 3 (.int .i64 0) 1 8 Tryz.underlying22 info3' rfl (by decide) rfl w3.heap.size (.slice A k cc) k ((([0,1]:List Int).take k).map (Value.int .i64)) rfl (by have:=ho4;unfold OR at this;rw[HLK.out] at this;exact this) ⟨(wr.drewN q4).heap.size,0,none⟩ 1 1 [.int .i64 (k:Int)] rfl rfl hnw ?c1 (by show k+1≤maxLen;unfold maxLen;omega) (by omega) ?c2 ?_)
        case c1=>intro u hu;simp at hu;subst hu;rfl
        case c2=>exact hz4
        intro v5 W5 own5 grow5 at5
        have ho5:OR W5 w3.heap.size v5 (([0,1]:List Int).take (k+1)):=by
          rw[HSN.out]
          unfold OR
          rw[List.length_append,List.map_append,HLK.out,List.map_take]
          exact own5
        have b5:Below w3.heap.size w3 W5:=HB4.out.trans ((Kp.grow grow5).below hz4 fun g hg e=>by have:=(ho4.lt e).2;omega)
        go_wp2
        go_roundw
        case rel=>exact⟨k+1,by omega,by simp,ho5,b5⟩
        case measure=>simp[intOf];omega
      · rw[decide_eq_false h2] at hs
        have e1:([0,1]:List Int).take k=[0,1]:=List.take_of_length_le (by simp;omega)
        have e2:([0,1]:List Int).take (k+1)=[0,1]:=List.take_of_length_le (by simp;omega)
        rw[e1] at ho
        have HO:=Lib.hid ho
        have HE2:=Lib.hid e2
        clear e1 e2 ho h2
        go_wp2_with (go_at_call 245;with_reducible refine hs.mono ?_;clear hs;rintro e w4 ⟨rfl,q4,rfl⟩)
        go_roundw
        case rel=>exact⟨k+1,by omega,by simp,by rw[HE2.out];exact HO.out.kp (Kp.of (S:=fun _=>False) (drewN_below wr wr.heap.size q4)) (fun _ _ h=>h),bb.trans (drewN_below wr w3.heap.size q4)⟩
        case measure=>simp[intOf];omega
    · have hnl:¬((k:Int)<80):=by omega
      have e1:([0,1]:List Int).take k=[0,1]:=List.take_of_length_le (by simp;omega)
      rw[e1] at ho
      clear e1 hlt
      go_wp2
      go_ret2
      exact⟨_,rfl,w3,ho,HQ.out,bb⟩
end Go.Proofs.YtdbkocfbhpgpkaaGreat
namespace Go.Proofs.YtdbkocfbhpgpkaaGreat
open Go Go.RowKit
set_option maxRecDepth 100000
set_option maxHeartbeats 1600000
def pV2 (p d m fr c:Nat)(R:PR):Array Value:=#[.pointer (some ⟨p,0,none⟩),.pointer (some ⟨d,0,none⟩),.int .i64 (R.base:Int),.int .i64 (R.pages:Int),.int .i64 (R.nf:Int),.int .i64 (R.epoch:Int),R.wal,.bool false,.slice (some ⟨fr,0,none⟩) 2 c,.map (some m),.int .i64 0,.int .i64 (R.cnt:Int)]
structure PB2(w:World)(p d m fr c:Nat)(R:PR)(f:FR):Prop where
  box:w.heap[p]? = some (.cells (pV2 p d m fr c R) 318 (0,0))
  map:MapI w m [(1,.int .i64 0),(0,.int .i64 1)]
  row:∃ cur:Array Value,w.heap[fr]? = some (.cells cur 364 (0,0))∧5≤cur.size∧cur[1]? = some f.pv∧cur[4]? = some (.bool true)
  pay:Own w 0 f.pv f.bytes
  len:f.bytes.length=4080
  pg:2≤R.pages
section
variable {Z:Nat→Prop}{w:World}{p d m fr c:Nat}{R:PR}{f:FR}
theorem PB2.kp{S:Nat→Prop}{w':World}(h:PB2 w p d m fr c R f)(k:Kp S w w')(h0:¬S p)(hm:¬S m)(h1:¬S fr)(h2:∀ g,f.pv.ownBlock=some g→¬S g):PB2 w' p d m fr c R f:=by
  obtain⟨cur,e,r⟩:=h.row
  exact⟨k.keep h.box h0,h.map.kp k hm,⟨cur,k.keep e h1,r⟩,h.pay.kp k h2,h.len,h.pg⟩
theorem PB2.below{w':World}(h:PB2 w p d m fr c R f)(hb:Below w.heap.size w w'):PB2 w' p d m fr c R f:=
  h.kp (Kp.of (S:=fun _=>False) hb) id id id (fun _ _=>id)
theorem pmade2(h:PB2 w p d m fr c R f):Calls Tryz.prog 237 #[.pointer (some ⟨p,0,none⟩)] w fun e w'=>e=.returned (.bool true)∧w'=w:=by
  have c0:w.cell? ⟨p,0,none⟩=some (.pointer (some ⟨p,0,none⟩)):=cellD h.box 0
  have he:=fun w=>eqlP w ⟨p,0,none⟩
  go_enter Tryz.func237,Tryz.ntmps237
  go_wp2
  go_ret
  exact⟨rfl,rfl⟩
theorem pasked2(h:PB2 w p d m fr c R f):Calls Tryz.prog 311 #[.pointer (some ⟨p,0,none⟩),.int .i64 1] w fun e w'=>e=.returned (.int .i64 0)∧w'=w:=by
  have c3:w.cell? ⟨p,3,none⟩=some (.int .i64 (R.pages:Int)):=cellD h.box 3
  have f1:¬(R.pages:Int)≤1:=by have:=h.pg;omega
  have f2:¬R.pages≤1:=by have:=h.pg;omega
  have M:=pmade2 h
  go_enter Tryz.func311,Tryz.ntmps311
  go_wp2_with (go_at_call 237;(with_reducible refine M.mono ?_);rintro e w ⟨rfl,rfl⟩)
  go_ret
  exact⟨rfl,rfl⟩
theorem ppages2(h:PB2 w p d m fr c R f):Calls Tryz.prog 231 #[.pointer (some ⟨p,0,none⟩)] w fun e w'=>e=.returned (.int .i64 (R.pages:Int))∧w'=w:=by
  have c3:w.cell? ⟨p,3,none⟩=some (.int .i64 (R.pages:Int)):=cellD h.box 3
  have M:=pmade2 h
  go_enter Tryz.func231,Tryz.ntmps231
  go_wp2_with (go_at_call 237;(with_reducible refine M.mono ?_);rintro e w ⟨rfl,rfl⟩)
  go_ret
  exact⟨rfl,rfl⟩
theorem pget2(h:PB2 w p d m fr c R f):Calls Tryz.prog 274 #[.pointer (some ⟨p,0,none⟩),.int .i64 1] w fun e w'=>(∃ v,e=.returned (.tuple #[v,.int .i64 0])∧Own w' w.heap.size v f.bytes)∧PB2 w' p d m fr c R f∧Kp (·=fr) w w':=by
  obtain⟨cur,e1,e2,e4,e7⟩:=h.row
  have L:=lookP h.map 1
  have A:=pasked2 h
  have c9:w.cell? ⟨p,9,none⟩=some (.map (some m)):=cellD h.box 9
  have c8:w.cell? ⟨p,8,none⟩=some (.slice (some ⟨fr,0,none⟩) 2 c):=cellD h.box 8
  have x4:w.cell? ⟨fr,4,none⟩=some (.bool true):=(cellD e1 4).trans e7
  have z4:w.frozen? ⟨fr,4,none⟩=false:=frozenD e1 4
  obtain⟨W1,hW1,g1,k1,s1⟩:=set_name 4 e1 (.bool true)
  have hpf:p≠fr:=tag_ne h.box e1 (by decide)
  have hmf:m≠fr:=h.map.ne e1
  have d8:W1.cell? ⟨p,8,none⟩=some (.slice (some ⟨fr,0,none⟩) 2 c):=cellD (k1.keep h.box hpf) 8
  have d1:W1.cell? ⟨fr,1,none⟩=some f.pv:=by
    rw[cellD g1 1]
    simpa using e4
  obtain⟨pb,pc,hpv,-,hpl,-⟩:=(show ∃ g cap,f.pv=.slice (some ⟨g,0,none⟩) 4080 cap∧True∧g<w.heap.size∧True from by
    rcases h.pay.form with⟨_,h0⟩|⟨g,cap,e,_,h2,_⟩
    · have:=h.len;rw[h0] at this;cases this
    · exact⟨g,cap,by rw[e,h.len],trivial,h2,trivial⟩)
  have hpn:f.pv.ownBlock≠some fr:=h.pay.tag e1 (by decide)
  have P1:Own W1 0 f.pv f.bytes:=h.pay.kp k1 (fun k q1 q2=>hpn (by rw[q1,q2]))
  obtain⟨A1,c1,hA1,-,-,r1⟩:=P1.sl h.len
  rw[hA1] at hpv
  injection hpv with q1 q2 q3
  subst q1 q3
  rw[hA1] at d1
  have CL:=clone_any pb 0 c1 4080 f.bytes W1 r1 h.len.symm (by omega) (by omega)
  have HB1:PB2 W1 p d m fr c R f:=⟨k1.keep h.box hpf,h.map.kp k1 hmf,⟨_,g1,by simpa using e2,by simpa using e4,by
    have h5:4<cur.size:=by omega
    simp[h5]⟩,P1,h.len,h.pg⟩
  have HH:=Lib.hid HB1
  have HS:=Lib.hid s1
  clear s1 e2 e4 e7 HB1 h
  go_enter Tryz.func274,Tryz.ntmps274
  go_wp2_with (first
    | (go_at_call 311;(with_reducible refine A.mono ?_);rintro e w ⟨rfl,rfl⟩)
    | (go_at_call 99;(with_reducible refine CL.mono ?_);rintro e w2 ⟨⟨v,rfl,o2⟩,b2⟩))
  go_ret2
  exact⟨⟨_,rfl,o2.down (Nat.le_of_eq HS.out.symm)⟩,HH.out.below b2,k1.then (Kp.of b2)⟩
end
section
variable {Z:Nat→Prop}{w:World}{p d m:Nat}{R:PR}{f:FR}
theorem take10{A B:List Value}(hA:A.length=5)(hB:B.length=5){cur:Array Value}(h:cur.toList.take (2 * 5)=A++B):5≤cur.size∧∀ k,k<5→cur[k]? = A[k]?:=by
  refine⟨?_,fun k hk=>?_⟩
  · have:=congrArg List.length h
    simp[hA,hB] at this
    omega
  · have:=congrArg (fun l=>l[k]?) h
    simp only[List.getElem?_take,if_pos (show k<2 * 5 by omega),Array.getElem?_toList] at this
    rw[this,List.getElem?_append_left (by omega)]
theorem row_take{cur:Array Value}{a0 a1 a2 a3 a4:Value}(h:5≤cur.size)(h0:cur[0]? = some a0)(h1:cur[1]? = some a1)(h2:cur[2]? = some a2)(h3:cur[3]? = some a3)(h4:cur[4]? = some a4):cur.toList.take (1 * 5)=[a0,a1,a2,a3,a4]:=by
  refine List.ext_getElem? fun k=>?_
  rw[List.getElem?_take]
  by_cases hk:k<1 * 5
  · rw[if_pos hk,Array.getElem?_toList]
    match k,hk with
    | 0,_=>exact h0
    | 1,_=>exact h1
    | 2,_=>exact h2
    | 3,_=>exact h3
    | 4,_=>exact h4
  · rw[if_neg hk,List.getElem?_eq_none (by simp;omega)]
theorem hold2_fin{W3 w4:World}{pb pc g4 c4 B:Nat}{o:Obj}(h:PB Z w p d m R)(hf:R.held=some f){a0 a2 a3:Value}
    (k3:Kp (·=m) w W3) (m3:MapI W3 m [(1,.int .i64 0),(0,.int .i64 1)]) (own4:w4.ownsRow B 364 5 (.slice (some ⟨g4,0,none⟩) 2 c4) 2 ([a0,f.pv,a2,a3,.bool true]++[.int .i64 0,.slice (some ⟨pb,0,none⟩) 4080 pc,.int .i64 0,.bool false,.bool true]))
    (grow4:(W3.drew.alloc o).grownBy w4 (some f.fr)) :
    PB2 (w4.setCell ⟨p,8,none⟩ (.slice (some ⟨g4,0,none⟩) 2 c4)) p d m g4 c4 R f∧B≤g4∧Kp (fun k=>k=p∨k=m∨k=f.fr) w (w4.setCell ⟨p,8,none⟩ (.slice (some ⟨g4,0,none⟩) 2 c4)):=by
  have F:=h.fr f hf
  obtain⟨cur0,e1,-⟩:=F.row
  have hpm:p≠m:=fun e=>h.map.ne h.box e.symm
  have hpf:p≠f.fr:=tag_ne h.box e1 (by decide)
  have hmf:m≠f.fr:=h.map.ne e1
  have b4:Below W3.heap.size W3 (W3.drew.alloc o):=(below_drew W3).alloc (Nat.le_refl _) o
  have k4:Kp (fun k=>k=m∨k=f.fr) w w4:=((k3.weaken fun k e=>.inl e).then (Kp.of b4)).then ((Kp.grow grow4).weaken fun k e=>.inr (by injection e with e;exact e.symm))
  have h4:=k4.keep h.box (fun e=>e.elim hpm hpf)
  obtain⟨W5,hW5,g5,k5,s5⟩:=set_name 8 h4 (.slice (some ⟨g4,0,none⟩) 2 c4)
  rw[hW5]
  have m4:MapI w4 m [(1,.int .i64 0),(0,.int .i64 1)]:=(m3.below b4).kp (Kp.grow grow4) (fun e=>by injection e with e;exact hmf e.symm)
  obtain⟨-,⟨e,-⟩|⟨g',cap,cur,e,hB4,hc,h1c,hcm,hcs,htk⟩⟩:=own4
  · cases e
  injection e with e1' e2 e3
  injection e1' with e1'
  injection e1' with e1'
  subst e1' e3
  have hgp:g4≠p:=tag_ne hc h4 (by decide)
  have PP:=F.pay.kp k4 (fun k q1 q2=>by
    rcases q2 with q2|q2
    · subst q2;exact F.pay.tagm h.map q1
    · subst q2;exact F.pay.tag e1 (by decide) q1)
  have P5:=PP.kp k5 (fun k q1 q2=>by
    rw[q2] at q1
    exact PP.tag h4 (by decide) q1)
  obtain⟨hsz,hat⟩:=take10 rfl rfl htk
  refine⟨⟨?_,m4.kp k5 (fun e=>hpm e.symm),⟨cur,k5.keep hc hgp,hsz,hat 1 (by omega),hat 4 (by omega)⟩,P5,F.len,h.pg.1⟩,hB4,(k4.weaken fun k e=>.inr e).then (k5.weaken fun k e=>.inl e)⟩
  rw[g5];rfl
theorem hold2_any{pb pc B:Nat}(h:PB Z w p d m R)(hf:R.held=some f)(hB:B≤f.fr) :
    Calls Tryz.prog 312 #[.pointer (some ⟨p,0,none⟩),.agg #[.int .i64 0,.slice (some ⟨pb,0,none⟩) 4080 pc,.int .i64 0,.bool false,.bool true]] w fun e w'=>e=.returned (.int .i64 0) ∧
      ∃ fr c,PB2 w' p d m fr c R f∧B≤fr∧Kp (fun k=>k=p∨k=m∨k=f.fr) w w':=by
  have F:=h.fr f hf
  obtain⟨cur,e1,⟨e2,e2b,e2c⟩,e3,e4,e5,e6,e7⟩:=F.row
  have htk:=row_take e2 e3 e4 e5 e6 e7
  have hc1:=F.c1
  obtain⟨fr,hfr⟩:∃ fr,f.fr=fr:=⟨_,rfl⟩
  obtain⟨fc,hfc⟩:∃ fc,f.c=fc:=⟨_,rfl⟩
  have htv:R.tv=.slice (some ⟨fr,0,none⟩) 1 fc:=by unfold PR.tv;rw[hf,← hfr,← hfc]
  have hm0:MapI w m [(1,.int .i64 0)]:=by have:=h.map;unfold PR.m at this;rw[hf] at this;exact this
  rw[hfr] at e1
  rw[hfc] at e2b e2c hc1
  obtain⟨W1,hW1,g1,b1,s1⟩:=box_alloc w (.cells #[.int .i64 0,.slice (some ⟨pb,0,none⟩) 4080 pc,.int .i64 0,.bool false,.bool true] 364)
  have h1:=h.below b1
  have c8:W1.cell? ⟨p,8,none⟩=some (.slice (some ⟨fr,0,none⟩) 1 fc):=(cellD h1.box 8).trans (congrArg some htv)
  have c4:W1.cell? ⟨p,4,none⟩=some (.int .i64 (R.nf:Int)):=cellD h1.box 4
  have f4:(1:Int)<(R.nf:Int):=by have:=h.pg;omega
  have f4':1<R.nf:=by have:=h.pg;omega
  have hB1:B≤w.heap.size:=Nat.le_trans hB (Nat.le_of_lt F.lt)
  have HB:=Lib.hid (And.intro (show B≤fr by rw[← hfr];exact hB) hB1)
  clear hB hB1
  have HS1:=Lib.hid s1
  have HF:=Lib.hid F
  have HTK:=Lib.hid htk
  have HCC:=Lib.hid (And.intro hc1 (And.intro e2b e2c))
  clear s1 F e2 e2b e2c e3 e4 e5 e6 e7 htk hc1
  go_enter Tryz.func312,Tryz.ntmps312
  go_upto_region 1 with fail
  go_quiet (fail)
  go_upto_region 2 with fail
  obtain⟨W2,hW2,e2,b2'⟩:=drew_name (W1.drewN nq)
  have b2:Below W1.heap.size W1 W2:=(drewN_below W1 _ nq).trans b2'
  have h2:=h1.below b2
  have g2:=keepB b2 g1
  have m2:=(hm0.below b1).below b2
  obtain⟨W3,hU,m3,o3,s3,os3,t3,u3⟩:=run_update_int (P:=Tryz.prog) Tryz.underlying252 Tryz.underlying3 m2 0 (.int .i64 1)
  have c9:W2.cell? ⟨p,9,none⟩=some (.map (some m)):=cellD h2.box 9
  have c8':W2.cell? ⟨p,8,none⟩=some (.slice (some ⟨fr,0,none⟩) 1 fc):=(cellD h2.box 8).trans (congrArg some htv)
  have k0:W2.cell? ⟨w.heap.size,0,none⟩=some (.int .i64 0):=cellD g2 0
  have HS3:=Lib.hid s3
  clear c8 c4 e2 s3
  refine stillW 11 (by kernel_rfl) (by kernel_rfl) W2 hW2 ?_
  simp only[List.take_succ_cons,List.take_zero,List.drop_succ_cons,List.drop_zero]
  repeat still_step
  refine wpStill_nil ?_
  go_upto_region 3 with fail
  have hpm:p≠m:=fun e=>m2.ne h2.box e.symm
  have hwm:w.heap.size≠m:=fun e=>by have:=hm0.lt;omega
  have h3:W3.heap[p]? = some (.cells (pV p d m R) 318 (0,0)):=(o3 p hpm).trans h2.box
  have g3:W3.heap[w.heap.size]? = some _:=(o3 _ hwm).trans g2
  have k3:Kp (·=m) W2 W3:=⟨os3,t3,u3,Nat.le_of_eq HS3.out.symm,fun k _ hk=>o3 k hk⟩
  have k03:Kp (·=m) w W3:=((Kp.of b1).then (Kp.of b2)).then k3
  have r3:W3.heap[fr]? = some (.cells cur 364 (0,0)):=k03.keep e1 (fun e=>hm0.ne e1 e.symm)
  clear hU c9 c8' k0 b2' os3 t3 u3
  have hd:W3.drew.heap[p]? = some (.cells (pV p d m R) 318 (0,0)):=h3
  have HBZ:=Lib.hid (fun o=>show B≤(W3.alloc o).drew.heap.size from Nat.le_trans (Nat.le_trans HB.out.2 k03.size) (by show W3.heap.size≤(W3.alloc o).heap.size;rw[World.size_alloc];omega))
  have hdg:W3.drew.heap[w.heap.size]? = some (.cells #[.int .i64 0,.slice (some ⟨pb,0,none⟩) 4080 pc,.int .i64 0,.bool false,.bool true] 364 (0,0)):=g3
  have hdr:W3.drew.heap[fr]? = some (.cells cur 364 (0,0)):=r3
  have y8:W3.drew.cell? ⟨p,8,none⟩=some (.slice (some ⟨fr,0,none⟩) 1 fc):=(cellD hd 8).trans (congrArg some htv)
  have y8':∀ o,(W3.drew.alloc o).cell? ⟨p,8,none⟩=some (.slice (some ⟨fr,0,none⟩) 1 fc):=fun o=>(World.cell?_alloc_lt W3.drew o ⟨p,8,none⟩ (hlt hd)).trans y8
  have y9:W3.cell? ⟨p,8,none⟩=some (.slice (some ⟨fr,0,none⟩) 1 fc):=y8
  have y9':∀ o,(W3.alloc o).cell? ⟨p,8,none⟩=some (.slice (some ⟨fr,0,none⟩) 1 fc):=y8'
  have q0:W3.drew.cell? ⟨w.heap.size,0,none⟩=some (.int .i64 0):=cellD hdg 0
  have q1:W3.drew.cell? ⟨w.heap.size,1,none⟩=some (.slice (some ⟨pb,0,none⟩) 4080 pc):=cellD hdg 1
  have q2:W3.drew.cell? ⟨w.heap.size,2,none⟩=some (.int .i64 0):=cellD hdg 2
  have q3:W3.drew.cell? ⟨w.heap.size,3,none⟩=some (.bool false):=cellD hdg 3
  have q4:W3.drew.cell? ⟨w.heap.size,4,none⟩=some (.bool true):=cellD hdg 4
  obtain⟨i0,hi,hz0,hs0,hb0⟩:=info_parts infoF
  have NW:=Lib.hid (news5 (heap_alloc_new W3.drew (.cells #[.int .i64 0,.slice (some ⟨pb,0,none⟩) 4080 pc,.int .i64 0,.bool false,.bool true] 364)))
  have one5:∀ u∈[Value.int .i64 0,.slice (some ⟨pb,0,none⟩) 4080 pc,.int .i64 0,.bool false,.bool true],u.oneCell'=true:=by
    intro u hu
    simp at hu
    rcases hu with rfl|rfl|rfl|rfl|rfl<;>rfl
  have O5:=Lib.hid one5
  clear one5
  have ROW:∀ o,(W3.drew.alloc o).ownsRow B 364 5 (.slice (some ⟨fr,0,none⟩) 1 fc) 1 [.int .i64 1,f.pv,.int .i64 (f.lsn:Int),.bool f.dirty,.bool true]:=fun o=>
    ⟨rfl,.inr ⟨fr,fc,cur,rfl,HB.out.1,(Below.heap_alloc W3.drew o fr (hlt hdr)).trans hdr,HCC.out.1,HCC.out.2.2,HCC.out.2.1,HTK.out⟩⟩
  have HR:=Lib.hid ROW
  clear ROW
  go_region_law
    (first
      | (refine step_append_lies _ rfl (.tmp 32) (.tmp 34) 316 rfl B 364 i0 _ 5 48 Tryz.underlying316 hi hz0 hs0 hb0 rfl (by decide) (.slice (some ⟨fr, 0, none⟩) 1 fc) 1 [.int .i64 1, f.pv, .int .i64 (f.lsn : Int), .bool f.dirty, .bool true] rfl (HR.out _) ⟨W3.heap.size, 0, none⟩ 1 1 [.int .i64 0, .slice (some ⟨pb, 0, none⟩) 4080 pc, .int .i64 0, .bool false, .bool true] rfl rfl NW.out O5.out (by decide) ?_ ?_ (HBZ.out _) _ rfl ?_
         · decide
         · decide
         intro g4 c4 w4 own4 grow4 at4 lt4
         have hpf:p≠fr:=tag_ne hd hdr (by decide)
         have h4:=(grow4.block p (Nat.lt_of_lt_of_le (hlt hd) (by simp)) (fun e=>by injection e with e;exact hpf e)).trans ((Below.heap_alloc W3.drew _ p (hlt hd)).trans hd)
         have d8:w4.cell? ⟨p,8,none⟩=some R.tv:=cellD h4 8
         have z8:w4.frozen? ⟨p,8,none⟩=false:=frozenD h4 8))
  all_goals
    have FIN:=hold2_fin h hf k03 m3 own4 (by rw[hfr];exact grow4)
    have HFN:=Lib.hid FIN
    clear FIN
    go_wp2
    go_ret
    exact⟨rfl,_,_,HFN.out⟩
end
end Go.Proofs.YtdbkocfbhpgpkaaGreat
