/-
  slices.Insert of a cell at any place; what the page's cells are behind it.
-/
import Derived.Test.YtdbkocfbhpgpkaaGreatm32
import Derived.Test.YtdbkocfbhpgpkaaGreatm33
import Derived.Test.YtdbkocfbhpgpkaaGreatm34
import Derived.Test.YtdbkocfbhpgpkaaGreatm35
import Derived.Test.YtdbkocfbhpgpkaaGreatm12
import Derived.WalkMore
set_option linter.unusedVariables false
set_option linter.unusedSimpArgs false
namespace Go.Proofs.YtdbkocfbhpgpkaaGreat
open Go Go.RowKit Go.Shelf
open Go.Ev (PgM PageOk CellsOut rowsOf rowsV rowV rowsOf_len)
set_option maxRecDepth 100000
set_option maxHeartbeats 4000000
def Soft (t:TypeId):Prop:=t=116∨t=260
structure Stb(Q:World→Prop):Prop where
  b:∀ w1 w2,Below w1.heap.size w1 w2→Q w1→Q w2
  s:∀ w1 w2 N cs t,Soft t→w1.heap[N]? = some (.cells cs t (0,0))→Kp (·=N) w1 w2→Q w1→Q w2
theorem Kp.base{S:Nat→Prop}{w a b:World}(h:Kp S w a)(g:Below w.heap.size a b):Kp S w b:=⟨g.os.trans h.os,g.tape.trans h.tape,g.output.trans h.output,Nat.le_trans h.size g.size,fun k hk hs=>(g.block k hk).trans (h.block k hk hs)⟩
theorem load_any{S:Nat→Prop}{Q:World→Prop}{w:World}{x:Nat}{cs:List NC}(hok:PageOk 1 0 cs)(hv1:∀ c∈cs,1≤c.vn)(hQ:Stb Q)(hS:∀ k,S k→k<w.heap.size)
    (G:∀ w1,Below w.heap.size w w1→Calls Tryz.prog 240 #[.pointer (some ⟨x,0,none⟩),.int .i64 1] w1 fun e w2=>(∃ v,e=.returned (.tuple #[v,.int .i64 0])∧Own w2 0 v (pgL 1 0 cs))∧Q w2∧Kp S w1 w2) :
    Calls Tryz.prog 180 #[.pointer (some ⟨x,0,none⟩),.int .i64 1] w fun e w'=>(∃ v,e=.returned (.tuple #[.agg #[.int .u8 1,.int .i64 0,v],.int .i64 0])∧CellsOut 219 w.heap.size w' v cs)∧Q w'∧Kp S w w':=by
  have hlen:=pg_len hok
  obtain⟨W1,hW1,g1,b1,s1⟩:=box_alloc w (.cells #[.int .u8 0,.int .i64 0,.slice none 0 0] 116)
  have G1:=G W1 b1
  have HL:=Lib.hid hlen
  have HS:=Lib.hid s1
  have UC:=fun(w2:World) (g c:Nat) (hg:g<w2.heap.size) (hc:4080≤c) (hr:Rd w2 w2.heap.size (some ⟨g,0,none⟩) (pgL 1 0 cs))=>unp_call 1 0 cs g 0 c w2 hok hv1 hg hc (fun k hk=>by
    obtain⟨b,o,e,-,h⟩:=hr (by intro e;rw[e] at hk;exact absurd hk (by simp))
    injection e with e
    injection e with e1 e2
    subst e1 e2
    exact h k hk)
  have HU:=Lib.hid UC
  clear G hok hv1 hlen s1 UC
  go_enter Tryz.func180,Tryz.ntmps180
  go_upto_region 1 with fail
  clear hW1
  go_upto_region 4 with (go_at_call 240;(with_reducible refine G1.mono ?_);rintro e w2 ⟨⟨v,rfl,o2⟩,hq2,k2⟩)
  obtain⟨g,c,rfl,hc,hg,hr⟩:=o2.rd0 HL.out (by decide)
  have U:=HU.out w2 g c hg hc hr
  rw[show(((1:Nat)):Int)=1 from rfl,show(((0:Nat)):Int)=0 from rfl] at U
  have e2:=k2.keep g1 (fun q=>Nat.lt_irrefl _ (hS _ q))
  go_upto_region 5 with (go_at_call 241;(with_reducible refine U.mono ?_);rintro e w3 ⟨⟨v,rfl,hout⟩,b3⟩;have e3:=keepB b3 e2;obtain⟨A,d,rfl,-⟩:=out_pgm hout)
  obtain⟨W4,hW4,g4,b4,s4⟩:=box_alloc w3 (.cells #[.int .u8 1,.int .i64 0,.slice A cs.length d] 116)
  rw[hW4]
  have e4:=keepB b4 e3
  have hne:w.heap.size≠w3.heap.size:=by have:=hlt e3;omega
  have x0:W4.cell? ⟨w3.heap.size,0,none⟩=some (.int .u8 1):=cellD g4 0
  have x1:W4.cell? ⟨w3.heap.size,1,none⟩=some (.int .i64 0):=cellD g4 1
  have x2:W4.cell? ⟨w3.heap.size,2,none⟩=some (.slice A cs.length d):=cellD g4 2
  clear s4
  go_wp2_with (refine stP rfl 116 (.tmp 4) (.tmp 50) rfl rfl w.heap.size 0 rfl 3 sz98 _ (.agg #[.int .u8 1,.int .i64 0,.slice A cs.length d]) 116 e4 rfl (by simp) rfl (by intro u hu;simp only[Value.cells,List.mem_cons,List.not_mem_nil,or_false] at hu;rcases hu with rfl | rfl | rfl;exact rfl;exact rfl;exact rfl) ?_;intro w5 g5 o5 b5 z5)
  have g6:w5.heap[w.heap.size]? = some (.cells #[.int .u8 1,.int .i64 0,.slice A cs.length d] 116 (0,0)):=by rw[g5];congr 2
  refine bodyPost_ret (ret_page rfl rfl g6 rfl) rfl ?_
  have hsz:=k2.size
  have b1s:=b1.size
  have out4:=out_belowS (Z:=w.heap.size) hout e3 b4
  refine⟨⟨_,rfl,out_down (out_blocks out4 e4 fun j _ hj=>o5 j hj) (by omega)⟩,?_,?_⟩
  · exact hQ.s W4 w5 _ _ _ (.inl rfl) e4 ⟨(b5 0 (Nat.zero_le _)).os,(b5 0 (Nat.zero_le _)).tape,(b5 0 (Nat.zero_le _)).output,(b5 0 (Nat.zero_le _)).size,fun k _ hk=>o5 k hk⟩ (hQ.b _ _ b4 (hQ.b _ _ b3 hq2))
  · exact((((Kp.of b1).then k2).then (Kp.of b3)).then (Kp.of b4)).base (b5 _ (Nat.le_refl _))
end Go.Proofs.YtdbkocfbhpgpkaaGreat
namespace Go.Proofs.YtdbkocfbhpgpkaaGreat
open Go Go.RowKit Go.Shelf
open Go.Ev (PgM PageOk CellsOut rowsOf rowsV rowV rowsOf_len BelowIs)
set_option maxRecDepth 100000
set_option maxHeartbeats 4000000
theorem tplace_any(cs:List NC)(A B:Option Addr)(n c m d j:Nat)(l:List UInt8)(w:World)(hn:n=cs.length)(hn1:n≤100000)(hp:PgM w w.heap.size A cs)(hr:Rd w w.heap.size B l)(hm:m=l.length)(hj:BelowIs cs l j)(hno:∀ c∈cs,c.key≠l) :
    Calls Tryz.prog 247 #[.agg #[.int .u8 1,.int .i64 0,.slice A n c],.slice B m d] w fun e w'=>e=.returned (.tuple #[.int .i64 (j:Nat),.bool false])∧Below w.heap.size w w':=by
  obtain⟨W1,hW1,g1,b1,s1⟩:=box_alloc w (.cells #[.int .u8 1,.int .i64 0,.slice A n c] 116)
  have BC:=below_call (.int .u8 1) (.int .i64 0) cs A B n c m d j l W1 rfl rfl hn hn1 ((hp.below b1).more b1.size) ((hr.below b1).more b1.size) hm hj
  have x0:W1.cell? ⟨w.heap.size,0,none⟩=some (.int .u8 1):=cellD g1 0
  have x1:W1.cell? ⟨w.heap.size,1,none⟩=some (.int .i64 0):=cellD g1 1
  have x2:W1.cell? ⟨w.heap.size,2,none⟩=some (.slice A n c):=cellD g1 2
  have HN:=Lib.hid hn
  have HM:=Lib.hid hm
  clear s1 hn hm
  cases j with
  | zero =>
    rw[show(((0:Nat)):Int)=0 from rfl] at BC ⊢
    go_enter Tryz.func247,Tryz.ntmps247
    go_wp2_with (go_at_call 277;(with_reducible refine BC.mono ?_);rintro e w2 ⟨rfl,b2⟩)
    go_ret2
    exact⟨rfl,b1.trans (b2.mono b1.size)⟩
  | succ i =>
    have hi:i<cs.length:=hj.1
    obtain⟨b,o,ka,kc,va,vc,rfl,hbb,e1,e2,hk1,hv1⟩:=hp.at_ hi
    rw[show(((i+1:Nat)):Int)=(i:Int)+1 from rfl] at BC ⊢
    have hib:i<100000:=by have:=HN.out;omega
    have hw:wrap64 ((i:Int)+1-1)=(i:Int):=by rw[IntWalk.wrap64_in _ (by omega)];omega
    have f1:decide ((0:Int)<(i:Int)+1)=true:=by simp<;>omega
    have f2:(i:Int)<(n:Int):=by have:=HN.out;omega
    have f3:((i:Int)).toNat=i:=by omega
    have hne:decide (cs[i].key=l)=false:=by simp;exact hno _ (List.getElem_mem hi)
    have HW:=Lib.hid hW1
    go_enter Tryz.func247,Tryz.ntmps247
    go_upto_region 2 with (go_at_call 277;(with_reducible refine BC.mono ?_);rintro e w2 ⟨rfl,b2⟩)
    have b12:=b1.trans (b2.mono b1.size)
    have y2:w2.cell? ⟨w.heap.size,2,none⟩=some (.slice (some ⟨b,o,none⟩) n c):=cellD (keepB b2 g1) 2
    have z1:w2.cell? ⟨b,o+i * 2,none⟩=some (.slice ka cs[i].kn kc):=(b12.cell (p:=⟨b,o+i * 2,none⟩) hbb).trans e1
    have OS:=osame_any ka B kc d cs[i].kn m cs[i].key l w2 ((hk1.below b12).more b12.size) ((hr.below b12).more b12.size) (by simp[NC.key,bl]) HM.out
    rw[hne] at OS
    go_wp2_with (go_at_call 97;(with_reducible refine OS.mono ?_);rintro e w3 ⟨rfl,rfl⟩)
    go_ret2
    exact⟨rfl,b12⟩
theorem out_kp{S:Nat→Prop}{et n₀:Nat}{W W':World}{v:Value}{cs:List NC}(h:CellsOut et n₀ W v cs)(k:Kp S W W')(hS:∀ j,S j→j<n₀):CellsOut et n₀ W' v cs:=by
  obtain⟨gs,hg,hrow,h3,h4,hc⟩:=h
  refine⟨gs,hg,⟨hrow.1,?_⟩,h3,h4,fun i p g h1 h2=>⟨(hc i p g h1 h2).1,(hc i p g h1 h2).2.kp k fun j q1 q2=>?_⟩⟩
  · rcases hrow.2 with q|⟨g,cap,cur,e,hb,hg2,r⟩
    · exact .inl q
    · exact .inr ⟨g,cap,cur,e,hb,k.keep hg2 (fun q=>by have:=hS _ q;omega),r⟩
  · have:=hS _ q2
    have:=(hc i p g h1 h2).2.blk j q1
    omega
theorem down_any{S:Nat→Prop}{Q:World→Prop}{w:World}{x:Nat}{key:Value}{cs:List NC}(hQ:Stb Q)
    (LD:Calls Tryz.prog 180 #[.pointer (some ⟨x,0,none⟩),.int .i64 1] w fun e w'=>(∃ v,e=.returned (.tuple #[.agg #[.int .u8 1,.int .i64 0,v],.int .i64 0])∧CellsOut 219 w.heap.size w' v cs)∧Q w'∧Kp S w w') :
    Calls Tryz.prog 246 #[.pointer (some ⟨x,0,none⟩),key] w fun e w'=>(∃ g c A d zs,e=.returned (.tuple #[.slice (some ⟨g,0,none⟩) 1 c,.int .i64 0])∧w.heap.size≤g∧w'.heap[g]? = some (.cells (#[.int .i64 1,.int .u8 1,.int .i64 0,.slice A cs.length d,.int .i64 0]++zs) 260 (0,0))∧CellsOut 219 w.heap.size w' (.slice A cs.length d) cs)∧Q w'∧Kp S w w':=by
  go_enter Tryz.func246,Tryz.ntmps246
  go_wp2
  go_step3
  go_wp2
  go_step3
  go_wp2
  go_loopw [6,7] (fun s i wr=>s=.slice none 0 0∧i=.int .i64 1∧wr=w) (fun _ _ _=>0)
  case atStart=>exact⟨rfl,rfl,rfl⟩
  case round=>
    obtain⟨rfl,rfl,rfl⟩:=hrel
    go_upto_region 6 with (go_at_call 180;(with_reducible refine LD.mono ?_);rintro e w2 ⟨⟨v,rfl,hout⟩,hq2,k2⟩;obtain⟨A,d,rfl,-⟩:=out_pgm hout)
    obtain⟨W3,hW3,g3,b3,s3⟩:=box_alloc w2 (.cells #[.int .u8 1,.int .i64 0,.slice A cs.length d] 116)
    rw[hW3]
    have y0:W3.cell? ⟨w2.heap.size,0,none⟩=some (.int .u8 1):=cellD g3 0
    have y1:W3.cell? ⟨w2.heap.size,1,none⟩=some (.int .i64 0):=cellD g3 1
    have y2:W3.cell? ⟨w2.heap.size,2,none⟩=some (.slice A cs.length d):=cellD g3 2
    clear s3
    go_upto_region 9 with fail
    obtain⟨W4,hW4,g4,b4,s4⟩:=box_alloc W3 (.cells #[.int .i64 1,.int .u8 1,.int .i64 0,.slice A cs.length d,.int .i64 0] 260)
    rw[hW4]
    have g34:=keepB b4 g3
    have x0:W4.cell? ⟨w2.heap.size,0,none⟩=some (.int .u8 1):=cellD g34 0
    have z0:W4.cell? ⟨W3.heap.size,0,none⟩=some (.int .i64 1):=cellD g4 0
    have z1:W4.cell? ⟨W3.heap.size,1,none⟩=some (.int .u8 1):=cellD g4 1
    have z2:W4.cell? ⟨W3.heap.size,2,none⟩=some (.int .i64 0):=cellD g4 2
    have z3:W4.cell? ⟨W3.heap.size,3,none⟩=some (.slice A cs.length d):=cellD g4 3
    have z4:W4.cell? ⟨W3.heap.size,4,none⟩=some (.int .i64 0):=cellD g4 4
    clear s4 y0 y1 y2
    go_wp2
    rw[Exit.noGoto_ret]
    generalize (Question.appendCap 1 0 260).cut (W4.tape W4.drawn (Question.appendCap 1 0 260))=C
    obtain⟨W5,hW5,g5,b5,s5⟩:=box_alloc W4 (.cells #[.int .i64 1,.int .u8 1,.int .i64 0,.slice A cs.length d,.int .i64 0] 260)
    rw[hW5]
    obtain⟨W6,hW6,g6,b6,s6⟩:=box_alloc W5 (.cells (#[.int .i64 1,.int .u8 1,.int .i64 0,.slice A cs.length d,.int .i64 0]++Builtin.zeroCells #[.int .i64 0,.int .u8 0,.int .i64 0,.slice none 0 0,.int .i64 0] (C-1)) 260)
    rw[hW6]
    obtain⟨W7,hW7,-,b7⟩:=drew_name W6
    rw[hW7]
    go_ret2
    have bb:Below w2.heap.size w2 W7:=(((b3.trans (b4.mono b3.size)).trans (b5.mono (Nat.le_trans b3.size b4.size))).trans (b6.mono (Nat.le_trans b3.size (Nat.le_trans b4.size b5.size)))).trans (b7.mono (Nat.le_trans b3.size (Nat.le_trans b4.size (Nat.le_trans b5.size b6.size))))
    rw[← s5]
    have h5:=Nat.le_trans b3.size (Nat.le_trans b4.size b5.size)
    exact⟨⟨_,_,A,d,_,rfl,Nat.le_trans k2.size h5,keepB b7 g6,out_kp hout (Kp.of (S:=fun _=>False) bb) (fun _ h=>h.elim)⟩,hQ.b _ _ bb hq2,k2.then (Kp.of bb)⟩
theorem ins_end{w:World}{n c vb vc:Nat}{A:Option Addr}{xs:List Value}{x1 x2:Value}(hown:w.ownsRow 0 219 2 (.slice A n c) n xs)(hn:n≤100000)(h1:w.cell? ⟨vb,0,none⟩=some x1)(h2:w.cell? ⟨vb,1,none⟩=some x2)(o1:x1.oneCell'=true)(o2:x2.oneCell'=true) :
    Calls Tryz.prog 251 #[.slice A n c,.int .i64 (n:Int),.slice (some ⟨vb,0,none⟩) 1 vc] w fun e w'=>∃ g cap,e=.returned (.slice (some ⟨g,0,none⟩) (n+1) cap)∧w'.ownsRow 0 219 2 (.slice (some ⟨g,0,none⟩) (n+1) cap) (n+1) (xs++[x1,x2])∧w.grownBy w' (Value.slice A n c).ownBlock∧((Value.slice A n c).ownBlock=some g∨g=w.heap.size):=by
  obtain⟨i0,hi,hz0,hs0,hb0⟩:=info_parts infoCell
  have hcell:∀ j u,[x1,x2][j]? = some u→w.cell? ((⟨vb,0,none⟩:Addr).add j)=some u:=fun j u hj=>by
    match j,hj with
    | 0,hj=>injection hj with hj;subst hj;exact h1
    | 1,hj=>injection hj with hj;subst hj;exact h2
    | j+2,hj=>simp at hj
  have hone:∀ u∈[x1,x2],u.oneCell'=true:=fun u hu=>by
    simp at hu
    rcases hu with rfl|rfl
    · exact o1
    · exact o2
  have HCC:=Lib.hid hcell
  have HO:=Lib.hid hone
  have HN:=Lib.hid hn
  have hnc:n≤c:=by
    rcases hown.2 with⟨e,e0⟩|⟨g,cap,cur,e,-,-,e4,-⟩
    · omega
    · injection e with _ _ e;omega
  have f1:(n:Int)≤(c:Int):=by omega
  have f2:¬((c:Int)<(n:Int)):=by omega
  clear hcell hone h1 h2
  rcases hown.2 with⟨e,e0⟩|⟨g,cap,cur,e,-,hg,e4,e5,e6,-⟩
  · injection e with e1 e2 e3
    subst e1 e2 e3
    go_enter Tryz.func251,Tryz.ntmps251
    go_wp2_with (at_builtin;refine wpList_append_lies _ rfl (.tmp 23) (.tmp 24) 114 rfl 0 219 i0 _ 2 48 Tryz.underlying114 hi hz0 hs0 hb0 rfl (by decide) (.slice none 0 0) 0 xs rfl hown ⟨vb,0,none⟩ 1 vc [x1,x2] rfl rfl HCC.out HO.out (by decide) (by decide) (by decide) (Nat.zero_le _) _ rfl ?_;intro g cap w' own grow at_ lt_)
    go_ret
    exact⟨g,cap,rfl,own,grow,at_⟩
  · injection e with e1 e2 e3
    subst e1 e3
    go_enter Tryz.func251,Tryz.ntmps251
    go_wp2_with (at_builtin;refine wpList_append_lies _ rfl (.tmp 23) (.tmp 24) 114 rfl 0 219 i0 _ 2 48 Tryz.underlying114 hi hz0 hs0 hb0 rfl (by decide) (.slice (some ⟨g,0,none⟩) n c) n xs rfl hown ⟨vb,0,none⟩ 1 vc [x1,x2] rfl rfl HCC.out HO.out (by decide) (by have:=HN.out;simp[maxLen];omega) (by have:=HN.out;omega) (Nat.zero_le _) _ rfl ?_;intro g cap w' own grow at_ lt_)
    all_goals
      go_ret
      exact⟨_,_,rfl,own,grow,at_⟩
theorem tins_row{w:World}{n₀ n d j vb vc:Nat}{A:Option Addr}{rows:List Value}{x1 x2:Value}{tt:TypeId}(hrow:w.ownsRow n₀ 219 2 (.slice A n d) n rows)(hj:j≤n)(hn:n≤2000)(hvb:w.heap[vb]? = some (.cells #[x1,x2] tt (0,0)))(hne:(Value.slice A n d).ownBlock≠some vb)(o1:x1.oneCell'=true)(o2:x2.oneCell'=true)(hone:∀ v∈rows,v.oneCell'=true) :
    Calls Tryz.prog 251 #[.slice A n d,.int .i64 (j:Int),.slice (some ⟨vb,0,none⟩) 1 vc] w fun e w'=>∃ g cap,e=.returned (.slice (some ⟨g,0,none⟩) (n+1) cap)∧(∃ cur,w'.heap[g]? = some (.cells cur 219 (0,0)))∧(∀ (k:Nat) (v:Value),(rows.take (j * 2)++([x1,x2]++rows.drop (j * 2)))[k]? = some v→w'.cell? ⟨g,k,none⟩=some v)∧Kp (fun k=>(Value.slice A n d).ownBlock=some k) w w':=by
  have hlen:=hrow.1
  rcases Nat.lt_or_ge j n with q|q
  · rcases hrow.2 with⟨e,e0⟩|⟨g,cap,cur,e,hb,hg,e4,e5,e6,e7⟩
    · omega
    · injection e with e1 e2 e3
      subst e1 e3
      have hf:Go.Ev.fitsA (n+1) 48=true:=by
        simp only[Go.Ev.fitsA,Bool.and_eq_true,Go.Ev.ble_iff]
        simp[maxLen];omega
      have hgv:vb≠g:=fun e=>hne (by rw[e];rfl)
      refine(insAt.call g 0 n d j vb 0 vc rows [x1,x2] w cur #[x1,x2] 219 tt (0,0) (0,0) q hf hgv hlen rfl hg hvb (fun k v hk=>?_) (fun k v hk=>?_) e4 (by omega) (Go.Ev.free_none _) (Go.Ev.free_none _) hone (fun v hv=>by simp at hv;rcases hv with rfl | rfl;exact o1;exact o2)).mono ?_
      · rw[← e7] at hk
        rw[List.getElem?_take] at hk
        split at hk
        · simpa using hk
        · cases hk
      · simpa using hk
      · rintro e w' ⟨so,⟨C',h1,rfl,h2,h3,h4⟩|⟨C',cap',h1,rfl,h2,h3,h4⟩⟩
        · have hg':w'.heap[g]? = some (.cells C' 219 (0,0)):=by rw[h3];simp[hlt hg]
          refine⟨g,d,rfl,⟨_,hg'⟩,fun k v hk=>(cellD hg' k).trans (by simpa using h4 k v hk),⟨so.os,so.tape,so.output,by rw[h3];simp,fun k hk hs=>?_⟩⟩
          rw[h3,Array.getElem?_setIfInBounds_ne (fun e=>hs (by rw[← e];rfl))]
        · have hg':w'.heap[w.heap.size]? = some (.cells C' 219 (0,0)):=by rw[h3];simp
          refine⟨w.heap.size,cap',rfl,⟨_,hg'⟩,fun k v hk=>(cellD hg' k).trans (by simpa using h4 k v hk),⟨so.os,so.tape,so.output,by rw[h3];simp,fun k hk hs=>?_⟩⟩
          rw[h3,Array.getElem?_push_lt hk]
          simp[hk]
  · obtain rfl:j=n:=by omega
    have h0:w.ownsRow 0 219 2 (.slice A j d) j rows:=by
      refine⟨hrow.1,?_⟩
      rcases hrow.2 with h|⟨g,cap,cur,a,b,c⟩
      · exact .inl h
      · exact .inr ⟨g,cap,cur,a,Nat.zero_le _,c⟩
    refine(ins_end (vc:=vc) h0 (by omega) (cellD hvb 0) (cellD hvb 1) o1 o2).mono ?_
    rintro e w' ⟨g,cap,rfl,own,grow,-⟩
    rcases own.2 with⟨e,-⟩|⟨g',cap',cur,e,-,hg,-,-,e6,e7⟩
    · cases e
    · injection e with e1 e2 e3
      injection e1 with e1
      injection e1 with e1
      subst e1
      refine⟨g,cap,rfl,⟨_,hg⟩,fun k v hk=>?_,Kp.grow grow⟩
      rw[cellD hg k]
      have ht:rows.take (j * 2)=rows:=List.take_of_length_le (by omega)
      have hd:rows.drop (j * 2)=[]:=List.drop_of_length_le (by omega)
      have e7':cur.toList.take ((j+1) * 2)=rows++[x1,x2]:=e7
      rw[ht,hd,List.append_nil,← e7',List.getElem?_take] at hk
      split at hk
      · simpa using hk
      · cases hk
end Go.Proofs.YtdbkocfbhpgpkaaGreat
