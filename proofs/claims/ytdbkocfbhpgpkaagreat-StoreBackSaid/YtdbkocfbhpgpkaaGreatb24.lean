/-
  tree.Scan over one leaf.
-/
import Derived.Test.YtdbkocfbhpgpkaaGreatb23
import Derived.Deep.RegionLaw
set_option linter.unusedVariables false
set_option linter.unusedSimpArgs false
namespace Go.Proofs.YtdbkocfbhpgpkaaGreat
open Go Go.RowKit Go.Shelf
open Go.Ev (PgM PageOk CellsOut rowsOf rowsV rowV rowsOf_len BelowIs)
set_option maxRecDepth 100000
set_option maxHeartbeats 4000000
def mkCV:List NC→List (Nat×Nat)→List CV
  | c::cs,g1::g2::gs=>⟨some ⟨g1.1,0,none⟩,c.kn,g1.2,some ⟨g2.1,0,none⟩,c.vn,g2.2⟩::mkCV cs gs
  | _,_=>[]
def fmC (l:List CV):List Value:=l.flatMap fun c=>[c.k,c.v]
theorem fmC_get:∀ (l:List CV) (i:Nat) (h:i<l.length),(fmC l)[i * 2]? = some l[i].k∧(fmC l)[i * 2+1]? = some l[i].v
  | [],i,h=>absurd h (by simp)
  | c::l,0,_=>⟨rfl,rfl⟩
  | c :: l, i + 1, h => by
    have:=fmC_get l i (by simpa using h)
    have e:(i+1) * 2=i * 2+1+1:=by omega
    rw[e]
    exact this
theorem fmC_cut:∀ (l:List CV) (j:Nat),(fmC l).take (j * 2)=fmC (l.take j)∧(fmC l).drop (j * 2)=fmC (l.drop j)
  | [],j=>by simp[fmC]
  | c::l,0=>by simp[fmC]
  | c :: l, j + 1 => by
    have:=fmC_cut l j
    have e:(j+1) * 2=j * 2+1+1:=by omega
    rw[e]
    exact⟨congrArg (fun x=>c.k::c.v::x) this.1,this.2⟩
theorem mkCV_row:∀ (cs:List NC) (gs:List (Nat×Nat)),gs.length=(rowsOf cs).length→rowsV (rowsOf cs) gs=fmC (mkCV cs gs)∧(mkCV cs gs).length=cs.length
  | [], gs, h => by
    have:gs=[]:=List.eq_nil_of_length_eq_zero (by simpa[rowsOf] using h)
    subst this
    exact⟨rfl,rfl⟩
  | ⟨kn,K,vn,V⟩::cs,[],h=>by simp[rowsOf] at h
  | ⟨kn,K,vn,V⟩::cs,[g],h=>by simp[rowsOf] at h
  | ⟨kn, K, vn, V⟩ :: cs, g1 :: g2 :: gs, h => by
    have:=mkCV_row cs gs (by simpa[rowsOf] using h)
    exact⟨congrArg (fun x=>rowV (kn,K) g1::rowV (vn,V) g2::x) this.1,by simp[mkCV,this.2]⟩
theorem mkCV_ok{w:World}{B:Nat}(hB:w.heap.size≤B):∀ (cs:List NC) (gs:List (Nat×Nat)),gs.length=(rowsOf cs).length→(∀ (k:Nat) (p g:Nat×Nat),(rowsOf cs)[k]? = some p→gs[k]? = some g→Own w 0 (.slice (some ⟨g.1,0,none⟩) p.1 g.2) (bl p.1 p.2)) →
    ∀ i (h:i<(mkCV cs gs).length) (g:i<cs.length),(mkCV cs gs)[i].kn=cs[i].kn∧(mkCV cs gs)[i].vn=cs[i].vn∧Rd w B (mkCV cs gs)[i].ka cs[i].key∧Rd w B (mkCV cs gs)[i].va cs[i].val
  | [],gs,h,_=>fun i _ g=>absurd g (by simp)
  | ⟨kn,K,vn,V⟩::cs,[],h,_=>by simp[rowsOf] at h
  | ⟨kn,K,vn,V⟩::cs,[g],h,_=>by simp[rowsOf] at h
  | ⟨kn, K, vn, V⟩ :: cs, g1 :: g2 :: gs, h, H => by
    intro i hi hg
    have rd:∀ {g:Nat×Nat} {n N:Nat},Own w 0 (.slice (some ⟨g.1,0,none⟩) n g.2) (bl n N)→Rd w B (some ⟨g.1,0,none⟩) (bl n N):=fun o=>by
      obtain⟨A,c,e,-,-,r⟩:=o.slice
      injection e with e1 e2 e3
      rw[e1]
      exact r.more hB
    cases i with
    | zero=>exact⟨rfl,rfl,rd (H 0 (kn,K) g1 rfl rfl),rd (H 1 (vn,V) g2 rfl rfl)⟩
    | succ i =>
      exact mkCV_ok hB cs gs (by simpa[rowsOf] using h) (fun k p g h1 h2=>H (k+2) p g h1 h2) i (by simpa[mkCV] using hi) (by simpa using hg)
theorem tins_pgm{w:World}{n₀ d j vb vc kc vc2:Nat}{A ka va:Option Addr}{cs:List NC}{nc:NC}{tt:TypeId}(hout:CellsOut 219 n₀ w (.slice A cs.length d) cs)(hj:j≤cs.length)(hn:cs.length≤2000)
    (hvb:w.heap[vb]? = some (.cells #[.slice ka nc.kn kc,.slice va nc.vn vc2] tt (0,0))) (hne:(Value.slice A cs.length d).ownBlock≠some vb) (hn0:n₀≤w.heap.size) (hk:Rd w n₀ ka nc.key) (hv:Rd w n₀ va nc.val) :
    Calls Tryz.prog 251 #[.slice A cs.length d,.int .i64 (j:Int),.slice (some ⟨vb,0,none⟩) 1 vc] w fun e w'=>∃ g cap,e=.returned (.slice (some ⟨g,0,none⟩) (cs.length+1) cap)∧PgM w' w'.heap.size (some ⟨g,0,none⟩) (cs.take j++nc::cs.drop j)∧Below n₀ w w'∧Kp (fun k=>(Value.slice A cs.length d).ownBlock=some k) w w'∧(∀ (N:Nat) (w2:World) (xs:Array Value) (t:TypeId),n₀≤N→w'.heap[N]? = some (.cells xs t (0,0))→t≠5→t≠219→Kp (·=N) w' w2→PgM w2 w2.heap.size (some ⟨g,0,none⟩) (cs.take j++nc::cs.drop j)):=by
  obtain⟨gs,hg,hrow,h3,h4,hc⟩:=hout
  obtain⟨r1,r2⟩:=mkCV_row cs gs hg
  rw[r1] at hrow
  have hblk:∀ k,(Value.slice A cs.length d).ownBlock=some k→n₀≤k∧∃ cur,w.heap[k]? = some (.cells cur 219 (0,0)):=fun k e=>by
    rcases hrow.2 with⟨e1,-⟩|⟨g,cap,cur,e1,hb,hg2,-⟩
    · rw[e1] at e;cases e
    · rw[e1] at e
      injection e with e
      dsimp only at e
      subst e
      exact⟨hb,cur,hg2⟩
  have hone:∀ v∈fmC (mkCV cs gs),v.oneCell'=true:=fun v hv=>by
    unfold fmC at hv
    obtain⟨c,-,hc⟩:=List.mem_flatMap.1 hv
    simp at hc
    rcases hc with rfl|rfl<;>rfl
  refine(tins_row hrow hj hn hvb hne rfl rfl hone).mono ?_
  rintro e w' ⟨g,cap,rfl,⟨cur0,hg0⟩,hcell,kk⟩
  have bel:Below n₀ w w':=⟨kk.os,kk.tape,kk.output,kk.size,fun k hk=>kk.block k (by omega) fun e=>by have:=(hblk k e).1;omega⟩
  suffices key:∀ w2:World,w2.heap[g]? = w'.heap[g]?→(∀ (v:Value) (l:List UInt8),Own w' 0 v l→Own w2 0 v l)→Below n₀ w w2→PgM w2 w2.heap.size (some ⟨g,0,none⟩) (cs.take j++nc::cs.drop j) by
    exact⟨g,cap,rfl,key w' rfl (fun _ _ h=>h) bel,bel,kk,fun N w2 xs t hN hx t5 tc k2=>key w2 (k2.block g (hlt hg0) fun e=>by rw[← e,hg0] at hx;injection hx with hx;injection hx with _ hx;exact tc hx.symm) (fun v l o=>o.kp k2 fun k q1 q2=>o.tag hx t5 (q2▸q1)) (bel.trans ⟨k2.os,k2.tape,k2.output,k2.size,fun k hk=>k2.block k (Nat.lt_of_lt_of_le hk (Nat.le_trans hn0 kk.size)) (by omega)⟩)⟩
  intro w2 hg2 hown2 bel2
  have z2:=bel2.size
  refine⟨(mkCV cs gs).take j++⟨ka,nc.kn,kc,va,nc.vn,vc2⟩::(mkCV cs gs).drop j,by simp[r2],fun _=>⟨g,0,rfl,hlt (hg2.trans hg0),fun i hi=>?_⟩,fun i hi hi2=>?_⟩
  · have hl:fmC ((mkCV cs gs).take j++⟨ka,nc.kn,kc,va,nc.vn,vc2⟩::(mkCV cs gs).drop j)=(fmC (mkCV cs gs)).take (j * 2)++([.slice ka nc.kn kc,.slice va nc.vn vc2]++(fmC (mkCV cs gs)).drop (j * 2)):=by
      rw[(fmC_cut _ j).1,(fmC_cut _ j).2]
      simp[fmC,CV.k,CV.v]
    have:=fmC_get _ i hi
    rw[hl] at this
    rw[Nat.zero_add]
    exact⟨(cellK hg2).trans (hcell _ _ this.1),(cellK hg2).trans (hcell _ _ this.2)⟩
  · have ok:=mkCV_ok (w:=w2) (B:=w2.heap.size) (Nat.le_refl _) cs gs hg (fun k p g' h1 h2=>by
      have o:=(hc k p g' h1 h2).2
      exact hown2 _ _ ((o.kp kk fun q q1 q2=>by
        obtain⟨-,cur,hcur⟩:=hblk q q2
        exact o.tag hcur (by decide) q1).down (Nat.zero_le _)))
    have hlj:((mkCV cs gs).take j).length=j:=by simp[r2];omega
    have hlj2:(cs.take j).length=j:=by simp;omega
    rcases Nat.lt_trichotomy i j with q|q|q
    · have h1:i<(mkCV cs gs).length:=by omega
      have:=ok i h1 (by omega)
      simp only[List.getElem_append_left (show i<((mkCV cs gs).take j).length by omega),List.getElem_append_left (show i<(cs.take j).length by omega),List.getElem_take]
      exact this
    · subst q
      have e1:((mkCV cs gs).take i++(⟨ka,nc.kn,kc,va,nc.vn,vc2⟩:CV)::(mkCV cs gs).drop i)[i]=⟨ka,nc.kn,kc,va,nc.vn,vc2⟩:=by
        rw[List.getElem_append_right (by omega)]
        simp[hlj]
      have e2:(cs.take i++nc::cs.drop i)[i]=nc:=by
        rw[List.getElem_append_right (by omega)]
        simp[hlj2]
      rw[e1,e2]
      exact⟨rfl,rfl,(hk.below bel2).more (Nat.le_trans hn0 bel2.size),(hv.below bel2).more (Nat.le_trans hn0 bel2.size)⟩
    · obtain⟨r,rfl⟩:∃ r,i=j+1+r:=⟨i-(j+1),by omega⟩
      have hi3:j+r<cs.length:=by simp at hi2;omega
      have e1:((mkCV cs gs).take j++(⟨ka,nc.kn,kc,va,nc.vn,vc2⟩:CV)::(mkCV cs gs).drop j)[j+1+r]=(mkCV cs gs)[j+r]'(by omega):=by
        rw[List.getElem_append_right (by omega)]
        have:j+1+r-((mkCV cs gs).take j).length=r+1:=by omega
        simp only[this,List.getElem_cons_succ,List.getElem_drop]
      have e2:(cs.take j++nc::cs.drop j)[j+1+r]=cs[j+r]:=by
        rw[List.getElem_append_right (by omega)]
        have:j+1+r-(cs.take j).length=r+1:=by omega
        simp only[this,List.getElem_cons_succ,List.getElem_drop]
      rw[e1,e2]
      exact ok (j+r) (by omega) hi3
section
variable {Z:Nat→Prop}{w:World}{p d m a j im x s n c:Nat}{A:Option Addr}{R:PR}{b:Bool}{cs:List NC}
def TW (Z:Nat→Prop)(x a s:Nat)(cs:List NC)(w w':World):Prop:=(∃ v,XB Z w' x a s (some (v,pgL 1 0 cs))∧∀ k,v.ownBlock=some k→w.heap.size≤k)∧Kp (·=s) w w'
theorem TW.of{w0:World}(hb:Below w0.heap.size w0 w){w':World}(h:TW Z x a s cs w w'):TW Z x a s cs w0 w':=by
  obtain⟨⟨v,h1,h2⟩,k⟩:=h
  exact⟨⟨v,h1,fun k e=>Nat.le_trans hb.size (h2 k e)⟩,(Kp.of hb).then k⟩
theorem twrite_any(h:XB Z w x a s none)(h2:AB w a p j im b)(h3:PB Z w p d m R)(hok:PageOk 1 0 cs)(hp:PgM w w.heap.size A cs)(hn:n=cs.length)(hz:∀ k,Z k→k<w.heap.size) :
    Calls Tryz.prog 284 #[.pointer (some ⟨x,0,none⟩),.int .i64 1,.agg #[.int .u8 1,.int .i64 0,.slice A n c]] w fun e w'=>e=.returned (.int .i64 0)∧TW Z x a s cs w w':=by
  obtain⟨W1,hW1,g1,b1,s1⟩:=box_alloc w (.cells #[.int .u8 1,.int .i64 0,.slice A n c] 116)
  have PK:=pack_call 1 0 cs A n c W1 hok hn ((hp.below b1).more b1.size)
  rw[show(((1:Nat)):Int)=1 from rfl,show(((0:Nat)):Int)=0 from rfl] at PK
  have hl:=pg_len hok
  have x0:W1.cell? ⟨w.heap.size,0,none⟩=some (.int .u8 1):=cellD g1 0
  have x1:W1.cell? ⟨w.heap.size,1,none⟩=some (.int .i64 0):=cellD g1 1
  have x2:W1.cell? ⟨w.heap.size,2,none⟩=some (.slice A n c):=cellD g1 2
  have hO:∀ (v:Value) (w2:World),Below W1.heap.size W1 w2→Own w2 W1.heap.size v (pgL 1 0 cs)→∃ g c,v=.slice (some ⟨g,0,none⟩) 4080 c∧Calls Tryz.prog 320 #[.pointer (some ⟨x,0,none⟩),.int .i64 1,.slice (some ⟨g,0,none⟩) 4080 c] w2 fun e w'=>e=.returned (.int .i64 0)∧TW Z x a s cs w2 w':=fun v w2 b2 o=>by
    obtain⟨g,c,rfl,-,-,hr⟩:=(o.down (Nat.zero_le _)).rd0 hl (by decide)
    exact⟨g,c,rfl,xset_any ((h.below b1).below b2) ((h2.below b1).below b2) ((h3.below b1).below b2) hr hl (fun k e=>Nat.lt_of_lt_of_le (hz k e) (Nat.le_trans b1.size b2.size))⟩
  have HO:=Lib.hid hO
  clear hO s1 hok hn hl hp
  go_enter Tryz.func284,Tryz.ntmps284
  go_upto_region 2 with (go_at_call 59;(with_reducible refine PK.mono ?_);rintro e w2 ⟨⟨v,rfl,o2⟩,b2⟩;obtain⟨g,c2,rfl,ST⟩:=HO.out v w2 b2 o2)
  go_wp2_with (go_at_call 320;(with_reducible refine ST.mono ?_);rintro e w3 ⟨rfl,hT⟩)
  go_ret
  exact⟨rfl,(hT.of b2).of b1⟩
theorem ttop_any(h:XB Z w x a s none)(h2:AB w a p j im b)(h3:PB Z w p d m R)(hok:PageOk 1 0 cs)(hp:PgM w w.heap.size A cs)(hn:n=cs.length)(hz:∀ k,Z k→k<w.heap.size) :
    Calls Tryz.prog 285 #[.pointer (some ⟨x,0,none⟩),.agg #[.int .u8 1,.int .i64 0,.slice A n c]] w fun e w'=>e=.returned (.int .i64 0)∧TW Z x a s cs w w':=by
  obtain⟨W1,hW1,g1,b1,s1⟩:=box_alloc w (.cells #[.int .u8 1,.int .i64 0,.slice A n c] 116)
  have hfit:=hok.fits
  have SZ:=size_call (.int .u8 1) (.int .i64 0) cs A n c W1 rfl rfl hn (by omega) hok.ok ((hp.below b1).more b1.size)
  obtain⟨N,hN⟩:∃ N:Nat,2 * n+bodyS cs=N:=⟨_,rfl⟩
  have hN2:N≤4072:=by omega
  rw[hN] at SZ
  have f1:decide ((4072:Int)<(N:Int))=false:=by simp;omega
  have x0:W1.cell? ⟨w.heap.size,0,none⟩=some (.int .u8 1):=cellD g1 0
  have x1:W1.cell? ⟨w.heap.size,1,none⟩=some (.int .i64 0):=cellD g1 1
  have x2:W1.cell? ⟨w.heap.size,2,none⟩=some (.slice A n c):=cellD g1 2
  have WR:=fun(w2:World) (b2:Below W1.heap.size W1 w2)=>twrite_any (c:=c) ((h.below b1).below b2) ((h2.below b1).below b2) ((h3.below b1).below b2) hok ((((hp.below b1).more b1.size).below b2).more b2.size) hn (fun k e=>Nat.lt_of_lt_of_le (hz k e) (Nat.le_trans b1.size b2.size))
  have HW:=Lib.hid WR
  clear WR s1 hok hn hp hfit hN hN2
  go_enter Tryz.func285,Tryz.ntmps285
  go_upto_region 2 with (go_at_call 281;(with_reducible refine SZ.mono ?_);rintro e w2 ⟨rfl,b2⟩;have y0:w2.cell? ⟨w.heap.size,0,none⟩=some (.int .u8 1):=cellD (keepB b2 g1) 0;have y1:w2.cell? ⟨w.heap.size,1,none⟩=some (.int .i64 0):=cellD (keepB b2 g1) 1;have y2:w2.cell? ⟨w.heap.size,2,none⟩=some (.slice A n c):=cellD (keepB b2 g1) 2;have WR:=HW.out w2 b2)
  go_loopw [5] (fun _ wr=>wr=w2) (fun _ _=>0)
  case atStart=>exact rfl
  case round=>
    obtain rfl:=hrel
    go_wp2_with (go_at_call 284;(with_reducible refine WR.mono ?_);rintro e w3 ⟨rfl,hT⟩)
    go_ret
    exact⟨rfl,(hT.of b2).of b1⟩
theorem tsettle_any{g c2:Nat}(h:XB Z w x a s none)(h2:AB w a p j im b)(h3:PB Z w p d m R)(hok:PageOk 1 0 cs)(hp:PgM w w.heap.size A cs)(hn:n=cs.length)(hz:∀ k,Z k→k<w.heap.size)
    (y1:w.cell? ⟨g,1,none⟩=some (.int .u8 1)) (y2:w.cell? ⟨g,2,none⟩=some (.int .i64 0)) (y3:w.cell? ⟨g,3,none⟩=some (.slice A n c)) :
    Calls Tryz.prog 252 #[.pointer (some ⟨x,0,none⟩),.slice (some ⟨g,0,none⟩) 1 c2] w fun e w'=>e=.returned (.int .i64 0)∧TW Z x a s cs w w':=by
  have TP:=ttop_any (c:=c) h h2 h3 hok hp hn hz
  clear h h2 h3 hok hp hn hz
  go_enter Tryz.func252,Tryz.ntmps252
  go_wp2
  go_loopw [5] (fun i wr=>i=.int .i64 0∧wr=w) (fun _ _=>0)
  case atStart=>exact⟨rfl,rfl⟩
  case round=>
    obtain⟨rfl,rfl⟩:=hrel
    go_wp2_with (go_at_call 285;(with_reducible refine TP.mono ?_);rintro e w3 ⟨rfl,hT⟩)
    go_ret
    exact⟨rfl,hT⟩
end
theorem out_row{n₀ n d:Nat}{w:World}{A:Option Addr}{cs:List NC}(h:CellsOut 219 n₀ w (.slice A n d) cs){k:Nat}(e:(Value.slice A n d).ownBlock=some k):n₀≤k∧∃ cur,w.heap[k]? = some (.cells cur 219 (0,0)):=by
  obtain⟨gs,-,hrow,-⟩:=h
  rcases hrow.2 with⟨e1,-⟩|⟨g,cap,cur,e1,hb,hg2,-⟩
  · rw[e1] at e;cases e
  · rw[e1] at e
    injection e with e
    dsimp only at e
    subst e
    exact⟨hb,cur,hg2⟩
theorem tput_any{Z S:Nat→Prop}{Q:World→Prop}{Pr:PR→Prop}{w:World}{a x s p dd mm j0 im kc vc i:Nat}{ka va:Option Addr}{b:Bool}{cs:List NC}{nc:NC}
    (DN:Calls Tryz.prog 246 #[.pointer (some ⟨x,0,none⟩),.slice ka nc.kn kc] w fun e w'=>(∃ g c A d zs,e=.returned (.tuple #[.slice (some ⟨g,0,none⟩) 1 c,.int .i64 0])∧w.heap.size≤g∧w'.heap[g]? = some (.cells (#[.int .i64 1,.int .u8 1,.int .i64 0,.slice A cs.length d,.int .i64 0]++zs) 260 (0,0))∧CellsOut 219 w.heap.size w' (.slice A cs.length d) cs)∧Q w'∧Kp S w w')
    (hQ:∀ w',Q w'→XB Z w' x a s none∧AB w' a p j0 im b∧∃ R,Pr R∧PB Z w' p dd mm R) (hk:∀ w',Kp S w w'→Rd w' w.heap.size ka nc.key) (hv:∀ w',Kp S w w'→Rd w' w.heap.size va nc.val) (hz:∀ k,Z k→k<w.heap.size)
    (hj:BelowIs cs nc.key i) (hno:∀ c∈cs,c.key≠nc.key) (hok:PageOk 1 0 (cs.take i++nc::cs.drop i)) (h1:1≤nc.kn) (h2:nc.kn≤320) (h3:nc.vn≤576) (hn:cs.length≤2000) :
    Calls Tryz.prog 198 #[.pointer (some ⟨x,0,none⟩),.slice ka nc.kn kc,.slice va nc.vn vc] w fun e w'=>e=.returned (.int .i64 0)∧∃ w8,AB w8 a p j0 im b∧(∃ R,Pr R∧PB Z w8 p dd mm R)∧Kp S w w8∧TW Z x a s (cs.take i++nc::cs.drop i) w8 w':=by
  have f1:decide ((nc.kn:Int)<1)=false:=by simp;omega
  have f2:decide ((320:Int)<(nc.kn:Int))=false:=by simp;omega
  have f3:decide ((576:Int)<(nc.vn:Int))=false:=by simp;omega
  have f4:decide (nc.kn<1)=false:=by simp;omega
  have f5:decide (320<nc.kn)=false:=by simp;omega
  have f6:decide (576<nc.vn)=false:=by simp;omega
  have HN:=Lib.hid hn
  have H1:=Lib.hid h1
  have H2:=Lib.hid h2
  have H3:=Lib.hid h3
  clear h1 h2 h3 hn
  obtain⟨kn,hkn⟩:∃ kn,kn=nc.kn:=⟨_,rfl⟩
  go_enter Tryz.func198,Tryz.ntmps198
  go_upto_region 8 with (go_at_call 246;(with_reducible refine DN.mono ?_);rintro e w2 ⟨⟨g,c,A,d,zs,rfl,hg,hgr,hout⟩,hq,k2⟩)
  obtain⟨W3,hW3,g3,b3,s3⟩:=box_alloc w2 (.cells #[.slice ka nc.kn kc,.slice va nc.vn vc] 219)
  rw[hW3]
  have cellz:∀ (w':World),w'.heap[g]? = some (.cells (#[.int .i64 1,.int .u8 1,.int .i64 0,.slice A cs.length d,.int .i64 0]++zs) 260 (0,0))→w'.cell? ⟨g,1,none⟩=some (.int .u8 1)∧w'.cell? ⟨g,2,none⟩=some (.int .i64 0)∧w'.cell? ⟨g,3,none⟩=some (.slice A cs.length d):=fun w' h=>by
    refine⟨?_,?_,?_⟩<;>(rw[cellD h,Array.getElem?_append_left (by simp)];rfl)
  obtain⟨y1,y2,y3⟩:=cellz W3 (keepB b3 hgr)
  have z2:=k2.size
  have z3:=b3.size
  have hout3:=out_kp hout (Kp.of (S:=fun _=>False) b3) (fun _ h=>h.elim)
  have hkr:=hk w2 k2
  have hvr:=hv w2 k2
  have hp3:PgM W3 W3.heap.size A cs:=by
    obtain⟨A',c',e,h⟩:=out_pgm hout3
    injection e with e1 e2 e3
    rw[e1];exact h
  have PL:=tplace_any cs A ka cs.length d nc.kn kc i nc.key W3 rfl (by have:=HN.out;omega) hp3 ((hkr.below (b3.mono z2)).more (Nat.le_trans z2 z3)) (by simp[NC.key,bl]) hj hno
  have HS3:=Lib.hid s3
  clear s3 DN hno hp3
  go_upto_region 11 with (go_at_call 247;(with_reducible refine PL.mono ?_);rintro e w4 ⟨rfl,b4⟩)
  have b34:Below w2.heap.size w2 w4:=b3.trans (b4.mono z3)
  have z4:=b4.size
  have hg4:=keepB b4 (keepB b3 hgr)
  have g4:=keepB b4 g3
  have hout4:=out_kp hout3 (Kp.of (S:=fun _=>False) b4) (fun _ h=>h.elim)
  have bD:Below w4.heap.size w4 w4.drew:=below_drew w4
  have gD:=keepB bD hg4
  have cD:=keepB bD g4
  have u3:w4.drew.cell? ⟨g,3,none⟩=some (.slice A cs.length d):=(cellz _ gD).2.2
  have u3'':∀ o,(w4.alloc o).drew.cell? ⟨g,3,none⟩=some (.slice A cs.length d):=fun o=>(World.cell?_alloc_lt w4.drew o ⟨g,3,none⟩ (hlt gD)).trans u3
  have u4:∀ o,(w4.alloc o).cell? ⟨g,3,none⟩=some (.slice A cs.length d):=u3''
  have u3':∀ o,(w4.drew.alloc o).cell? ⟨g,3,none⟩=some (.slice A cs.length d):=fun o=>(World.cell?_alloc_lt w4.drew o ⟨g,3,none⟩ (hlt gD)).trans u3
  have v3:w4.cell? ⟨g,3,none⟩=some (.slice A cs.length d):=u3
  have k0:w4.drew.cell? ⟨w2.heap.size,0,none⟩=some (.slice ka nc.kn kc):=cellD cD 0
  have k1:w4.drew.cell? ⟨w2.heap.size,1,none⟩=some (.slice va nc.vn vc):=cellD cD 1
  have b6:Below w4.heap.size w4 (w4.alloc (.cells #[.slice ka nc.kn kc,.slice va nc.vn vc] 219)).drew:=bD.trans (show Below w4.drew.heap.size w4.drew (w4.drew.alloc (.cells #[.slice ka nc.kn kc,.slice va nc.vn vc] 219)) from(Below.refl _ _).alloc (Nat.le_refl _) _)
  have hout6:=out_kp hout4 (Kp.of (S:=fun _=>False) b6) (fun _ h=>h.elim)
  have z6:=b6.size
  have b26:=b34.trans (b6.mono (Nat.le_trans z3 z4))
  have ne6:(Value.slice A cs.length d).ownBlock≠some w4.heap.size:=fun e=>by
    obtain⟨-,cur,hc⟩:=out_row hout4 e
    exact Nat.lt_irrefl _ (hlt hc)
  have INS:=tins_pgm (vc:=1) (vb:=w4.heap.size) hout6 hj.1 HN.out (w:=(w4.alloc (.cells #[.slice ka nc.kn kc,.slice va nc.vn vc] 219)).drew) (heap_alloc_new w4 _) ne6 (Nat.le_trans z2 b26.size) (hkr.below (b26.mono z2)) (hvr.below (b26.mono z2))
  have g6:=keepB b6 hg4
  have AFT:∀ w7,Kp (fun k=>(Value.slice A cs.length d).ownBlock=some k) ((w4.alloc (.cells #[.slice ka nc.kn kc,.slice va nc.vn vc] 219)).drew) w7→w7.heap[g]? = some (.cells (#[.int .i64 1,.int .u8 1,.int .i64 0,.slice A cs.length d,.int .i64 0]++zs) 260 (0,0)):=fun w7 kk=>kk.keep g6 fun e=>by
    obtain⟨-,cur,hc⟩:=out_row hout6 e
    rw[g6] at hc
    injection hc with hc
    injection hc with _ hc
    exact absurd hc (by decide)
  have HA:=Lib.hid AFT
  clear AFT y1 y2 y3 b6 gD cD hout3 hout4
  go_region_law (first
    | (go_simp;go_at_call 251;(with_reducible refine INS.mono ?_);rintro e w7 ⟨g7,c7,rfl,hp7,b7,k7,pk7⟩;have h7:=HA.out w7 k7;have t3:w7.cell? ⟨g,3,none⟩=some (.slice A cs.length d):=(cellz _ h7).2.2;have x3:w7.frozen? ⟨g,3,none⟩=false:=frozenD h7 3)
    | fail)
  all_goals
    obtain⟨W8,hW8,g8,k8,s8⟩:=set_name 3 h7 (.slice (some ⟨g7,0,none⟩) (cs.length+1) c7)
    rw[hW8]
    obtain⟨hx2,ha2,RR,hPr,hp2⟩:=hQ w2 hq
    have hx6:=hx2.below b26
    have ha6:=ha2.below b26
    have hp6:=hp2.below b26
    have nT:∀ {k:Nat} {x:Array Value} {t:TypeId},(w4.alloc (.cells #[.slice ka nc.kn kc,.slice va nc.vn vc] 219)).drew.heap[k]? = some (.cells x t (0,0))→t≠219→¬(Value.slice A cs.length d).ownBlock=some k:=fun {k x t} e t1 q=>by
      obtain⟨-,cur,hc⟩:=out_row hout6 q
      exact tag_ne e hc t1 rfl
    have nM:∀ {k:Nat} {l:List (Int×Value)},MapI (w4.alloc (.cells #[.slice ka nc.kn kc,.slice va nc.vn vc] 219)).drew k l→¬(Value.slice A cs.length d).ownBlock=some k:=fun {k l} e q=>by
      obtain⟨-,cur,hc⟩:=out_row hout6 q
      exact e.ne hc rfl
    have nO:∀ {v:Value} {l:List UInt8} {k:Nat},Own (w4.alloc (.cells #[.slice ka nc.kn kc,.slice va nc.vn vc] 219)).drew 0 v l→v.ownBlock=some k→¬(Value.slice A cs.length d).ownBlock=some k:=fun {v l k} o e q=>by
      obtain⟨-,cur,hc⟩:=out_row hout6 q
      exact o.tag hc (by decide) e
    have hx7:=hx6.kp k7 (nT hx6.box (by decide)) (nM hx6.map) (fun u e=>nomatch e) (fun _ _ h=>h)
    have ha7:=ha6.kp k7 (nT ha6.box (by decide)) (nM ha6.map)
    have hp7':=hp6.kp k7 (nT hp6.box (by decide)) (nM hp6.map) (fun f hf=>by
      obtain⟨cur,e,-⟩:=(hp6.fr f hf).row
      exact⟨nT e (by decide),fun q q1 q2=>nO (hp6.fr f hf).pay q1 q2⟩) (fun _ _ h=>h)
    have hx8:=hx7.kp k8 (tag_ne hx7.box h7 (by decide)) (hx7.map.ne h7) (fun u e=>nomatch e) (fun _ _ h=>h)
    have ha8:=ha7.kp k8 (tag_ne ha7.box h7 (by decide)) (ha7.map.ne h7)
    have hp8:=hp7'.kp k8 (tag_ne hp7'.box h7 (by decide)) (hp7'.map.ne h7) (fun f hf=>by
      obtain⟨cur,e,-⟩:=(hp7'.fr f hf).row
      exact⟨tag_ne e h7 (by decide),fun q q1 q2=>(hp7'.fr f hf).pay.tag h7 (by decide) (q2▸q1)⟩) (fun _ _ h=>h)
    have hpg8:=pk7 g W8 _ _ hg h7 (by decide) (by decide) k8
    have z7:=b7.size
    have z8:=k8.size
    have t1:W8.cell? ⟨g,1,none⟩=some (.int .u8 1):=by rw[cellD g8];simp;rw[Array.getElem?_append_left (by simp)];rfl
    have t2:W8.cell? ⟨g,2,none⟩=some (.int .i64 0):=by rw[cellD g8];simp;rw[Array.getElem?_append_left (by simp)];rfl
    have t4:W8.cell? ⟨g,3,none⟩=some (.slice (some ⟨g7,0,none⟩) (cs.length+1) c7):=by rw[cellD g8];simp;rw[Array.getElem?_append_left (by simp)];rfl
    have hji:=hj.1
    have kw8:Kp S w W8:=k2.base (((b26.mono z2).trans b7).trans (k8.below (Nat.le_trans (Nat.le_trans z2 b26.size) z7) fun k hk e=>by omega))
    have ST:=tsettle_any (c:=c7) (c2:=c) hx8 ha8 hp8 hok hpg8 (by simp;omega) (fun k e=>Nat.lt_of_lt_of_le (hz k e) kw8.size) t1 t2 t4
    have HK:=Lib.hid kw8
    clear s8 kw8 hji z7 z8
    go_wp2_with (go_at_call 252;(with_reducible refine ST.mono ?_);rintro e w9 ⟨rfl,hT⟩)
    go_ret
    exact⟨rfl,W8,ha8,⟨RR,hPr,hp8⟩,HK.out,hT⟩
theorem infoPair:(Tryz.prog.info? 68).map (fun i=>(i.zero,i.size,i.bytes))=some (some (.agg #[.slice none 0 0,.slice none 0 0]),2,48):=by kernel_rfl
def cvX (cv:List CV):List Value:=cv.flatMap fun c=>[c.k,c.v]
theorem cvX_snoc(cv:List CV)(c:CV):cvX (cv++[c])=cvX cv++[c.k,c.v]:=by simp[cvX]
theorem cvX_at:∀ (cv:List CV) (i:Nat) (h:i<cv.length),(cvX cv)[i * 2]? = some cv[i].k∧(cvX cv)[i * 2+1]? = some cv[i].v
  | c::cv,0,_=>⟨rfl,rfl⟩
  | c :: cv, i + 1, h => by
    have:=cvX_at cv i (by simpa using h)
    have e:∀ j,(cvX (c::cv))[j+2]? = (cvX cv)[j]?:=fun j=>rfl
    rw[show(i+1) * 2=i * 2+2 by omega,show i * 2+2+1=(i * 2+1)+2 by omega,e,e]
    exact this
theorem row_rdc{w:World}{base t n:Nat}{v:Value}{cv:List CV}(h:w.ownsRow base t 2 v n (cvX cv))(hn:n=cv.length):∃ A c,v=.slice A n c∧RdC w w.heap.size A cv:=by
  rcases h.2 with⟨rfl,h0⟩|⟨g,cap,cur,rfl,h1,h2,h3,h4,h5,h6⟩
  · subst h0
    exact⟨none,0,rfl,fun e=>absurd (List.eq_nil_of_length_eq_zero hn.symm) e⟩
  · refine⟨_,cap,rfl,fun _=>⟨g,0,rfl,hlt h2,fun i hi=>?_⟩⟩
    obtain⟨e1,e2⟩:=cvX_at cv i hi
    rw[← h6,List.getElem?_take,if_pos (by omega)] at e1 e2
    refine⟨(cellD h2 _).trans ?_,(cellD h2 _).trans ?_⟩
    · rw[Nat.zero_add];simpa using e1
    · rw[Nat.zero_add];simpa using e2
theorem row_keep{w w':World}{base e size n:Nat}{v:Value}{xs:List Value}(h:w.ownsRow base e size v n xs)(hb:Below w.heap.size w w'):w'.ownsRow base e size v n xs:=ownsRow_same h fun g _ hg=>hb.block g (hlt hg)
end Go.Proofs.YtdbkocfbhpgpkaaGreat
