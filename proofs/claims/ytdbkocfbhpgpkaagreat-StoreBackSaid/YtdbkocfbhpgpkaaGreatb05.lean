/-
  A disk keeps, whatever else is written.
-/
import Derived.Test.YtdbkocfbhpgpkaaGreatb04
import Derived.Deep.AppendLies
import Derived.Deep.Cut
set_option linter.unusedVariables false
set_option linter.unusedSimpArgs false
namespace Go.Proofs.YtdbkocfbhpgpkaaGreat
open Go Go.RowKit
set_option maxRecDepth 100000
set_option maxHeartbeats 1600000
variable {Z:Nat→Prop}
theorem Rd.kd{w w':World}{B d db n:Nat}{A0 A:Option Addr}{n1 c1:Nat}{ft wh:Int}{l:List UInt8}(h:Rd w B A l)(hB:B≤w.heap.size)(hD:DB w d db n (.slice A0 n1 c1) ft wh)(hK:Kp (·=d) w w'):Rd w' B A l:=fun hl=>by
  obtain⟨b,o,e,hb,hc⟩:=h hl
  have hne:b≠d:=by
    rintro rfl
    have h0:0<l.length:=by cases l with | nil=>exact absurd rfl hl | cons=>simp
    have hc0:=hc 0 h0
    rw[hD.cell] at hc0
    have:∀ (i:Nat) (x:UInt8),(dV b db n (.slice A0 n1 c1) ft wh)[i]? = (some (u8V x):Option Value)→False:=by
      intro i x hx
      unfold dV at hx
      match i,hx with
      | 0,hx=>simp at hx
      | 1,hx=>simp at hx
      | 2,hx=>simp at hx
      | 3,hx=>simp at hx
      | 4,hx=>simp at hx
      | 5,hx=>simp at hx
      | 6,hx=>simp at hx
      | k+7,hx=>simp at hx
    exact this _ _ hc0
  exact⟨b,o,e,hb,fun k hk=>by rw[← hc k hk];simp[World.cell?,hK.block b (by omega) hne]⟩
theorem info98:(Tryz.prog.info? 203).map (fun i=>(i.zero,i.size,i.bytes))=some (some (.agg #[.int .i64 0,.slice none 0 0]),2,32):=by kernel_rfl
theorem Dk.push{w w1 w2:World}{n0 d db b:Nat}{pv pv' u:Value}{P:PD}{l:List UInt8}{us:List Value}(h:Dk Z w n0 d db pv P)(hus:us.length=P.ws.length)(hbk:∀ k (h:k<us.length) (h':k<P.ws.length),Bk Z w us[k] P.ws[k].2)
    (hb1:Below w.heap.size w w1) (hu:Bk Z w1 u l) (own2:w2.ownsRow n0 203 2 pv' (P.ws.length+1) (wc P.ws us++[.int .i64 (b:Int),u])) (hg:w1.grownBy w2 pv.ownBlock) (hb:b<P.bs.length) (hl:l.length=4096) :
    Dk Z (w2.setCell ⟨d,2,none⟩ pv') n0 d db pv' { P with ws:=P.ws++[(b,l)] }∧Fr n0 d db w (w2.setCell ⟨d,2,none⟩ pv'):=by
  have h1:=h.below hb1
  have hs2:∀ (g:Nat) (x:Array Value) (t:TypeId),w1.heap[g]? = some (.cells x t (0,0))→t≠203→w2.heap[g]? = w1.heap[g]?:=by
    intro g x t hx ht
    refine hg.block g (hlt hx) fun e=>?_
    obtain⟨_,y,hy⟩:=h1.pend.blk e.symm
    exact tag_ne hx hy ht rfl
  have hd2:w2.heap[d]? = some (.cells (dV d db P.bs.length pv P.ft P.wh) 147 (0,0)):=(hs2 _ _ _ h1.box (by decide)).trans h1.box
  have hs3:∀ (g:Nat) (x:Array Value) (t:TypeId),w2.heap[g]? = some (.cells x t (0,0))→t≠147→(w2.setCell ⟨d,2,none⟩ pv').heap[g]? = w2.heap[g]?:=fun g x t hx ht=>Below.heap_setCell w2 _ _ g (tag_ne hx hd2 ht)
  have hs:∀ (g:Nat) (x:Array Value) (t:TypeId),w1.heap[g]? = some (.cells x t (0,0))→t≠203→t≠147→(w2.setCell ⟨d,2,none⟩ pv').heap[g]? = w1.heap[g]?:=fun g x t hx h98 h93=>by
    have:=hs2 g x t hx h98
    exact(hs3 g x t (this.trans hx) h93).trans this
  obtain⟨cs,r1,r2,r3⟩:=h1.row
  refine⟨⟨?_,⟨cs,(hs _ _ _ r1 (by decide) (by decide)).trans r1,r2,fun k hk=>by obtain⟨v,a,b⟩:=r3 k hk;exact⟨v,a,b.same fun g x hg=>hs g _ _ hg (by decide) (by decide)⟩⟩,⟨us++[u],?_,?_,?_⟩,?_,?_,?_⟩,?_⟩
  · unfold DB
    rw[heap_setCell_same w2 d 2 _ _ _ hd2]
    rfl
  · simp[hus]
  · have e1:(P.ws++[(b,l)]).length=P.ws.length+1:=by simp
    simp only[e1]
    rw[wc_snoc _ _ _ _ hus]
    exact ownsRow_same own2 fun g x hx=>hs3 g x _ hx (by decide)
  · intro k hk hk'
    by_cases hlt':k<us.length
    · rw[List.getElem_append_left hlt']
      have e2:(P.ws++[(b,l)])[k]=P.ws[k]:=List.getElem_append_left (by omega)
      simp only[e2]
      exact((hbk k hlt' (by omega)).same fun g x hx=>hb1.block g (hlt hx)).same fun g x hx=>hs g x _ hx (by decide) (by decide)
    · have hk2:k=us.length:=by simp at hk;omega
      subst hk2
      have e3:(us++[u])[us.length]=u:=by simp
      have e4:(P.ws++[(b,l)])[us.length]'hk'=(b,l):=by simp[hus]
      rw[e3]
      simp only[e4]
      exact hu.same fun g x hx=>hs g x _ hx (by decide) (by decide)
  · refine⟨h.ok.lens,fun x hx=>?_,h.ok.lo,h.ok.hi⟩
    rcases List.mem_append.1 hx with hx|hx
    · exact h.ok.wlens x hx
    · rw[List.mem_singleton.1 hx];exact⟨hb,hl⟩
  · have:=h.base;have:=hb1.size;have:=hg.size;simp;omega
  · intro g hz;have:=h.wet g hz;have:=hb1.size;have:=hg.size;simp;omega
  · refine(Fr.below hb1).then ((Fr.mk ⟨hg.os,hg.tape,hg.output,hg.size,fun k hk hn=>hg.block k hk fun e=>?_⟩:Fr n0 d db w1 w2).then (Fr.of_d (Kp.setCell (S:=(·=d)) w2 (p:=⟨d,2,none⟩) rfl _)))
    obtain⟨hn0,x,hx⟩:=h1.pend.blk e.symm
    exact hn (.inr (.inr ⟨hn0,x,hx⟩))
theorem push_own{w w2:World}{n0 n:Nat}{v:Value}{xs:List Value}(h:w.ownsRow n0 203 2 v n xs)(hb:Below w.heap.size w w2)(o:Obj):(w2.alloc o).ownsRow n0 203 2 v n xs:=
  ownsRow_same (ownsRow_same h fun g x hx=>hb.block g (hlt hx)) fun g x hx=>Below.heap_alloc w2 o g (hlt hx)
theorem news2(w:World)(x y:Value):∀ (j:Nat) (u:Value),[x,y][j]? = some u→(w.alloc (.cells #[x,y] 203)).cell? ((⟨w.heap.size,0,none⟩:Addr).add j)=some u:=fun j u hj=>by
  have:((⟨w.heap.size,0,none⟩:Addr).add j)=⟨w.heap.size,j,none⟩:=by unfold Addr.add;split<;>simp_all
  rw[this,World.cell?_alloc_at _ _ _ _ rfl]
  simpa using hj
theorem cell_d{w w2 w4:World}{n0 d db:Nat}{pv:Value}{P:PD}{o:Obj}(hg:(w2.alloc o).grownBy w4 pv.ownBlock)(h:Dk Z w n0 d db pv P)(hb:Below w.heap.size w w2):w4.cell? ⟨d,2,none⟩=w2.cell? ⟨d,2,none⟩:=by
  have h1:=h.below hb
  have e1:(w2.alloc o).heap[d]? = w2.heap[d]?:=Below.heap_alloc w2 o d h1.box.lt
  have e2:w4.heap[d]? = (w2.alloc o).heap[d]?:=hg.block d (by have:=h1.box.lt;simp;omega) fun e=>by
    obtain⟨_,y,hy⟩:=h1.pend.blk e.symm
    exact tag_ne h1.box hy (by decide) rfl
  simp[World.cell?,e2,e1]
theorem frozen_d{w w2 w4:World}{n0 d db:Nat}{pv:Value}{P:PD}{o:Obj}(hg:(w2.alloc o).grownBy w4 pv.ownBlock)(h:Dk Z w n0 d db pv P)(hb:Below w.heap.size w w2):w4.frozen? ⟨d,2,none⟩=false:=by
  have h1:=h.below hb
  have e1:(w2.alloc o).heap[d]? = w2.heap[d]?:=Below.heap_alloc w2 o d h1.box.lt
  have e2:w4.heap[d]? = (w2.alloc o).heap[d]?:=hg.block d (by have:=h1.box.lt;simp;omega) fun e=>by
    obtain⟨_,y,hy⟩:=h1.pend.blk e.symm
    exact tag_ne h1.box hy (by decide) rfl
  exact frozenD ((e2.trans e1).trans h1.box) 2
theorem one2(b:Int)(g n c:Nat):∀ u∈[Value.int .i64 b,.slice (some ⟨g,0,none⟩) n c],u.oneCell'=true:=by
  intro u hu
  simp at hu
  rcases hu with rfl|rfl<;>rfl
theorem put_ok{P:PD}{b:Nat}{l:List UInt8}(h:opE P.ft P.wh=0):P.put b l=({ P with ft:=opF P.ft,ws:=P.ws++[(b,l)] },0):=if_pos h
theorem put_no{P:PD}{b:Nat}{l:List UInt8}(h:opE P.ft P.wh≠0):P.put b l=(P.stop,opE P.ft P.wh):=if_neg h
theorem write_any{w:World}{n0 d db:Nat}{pv:Value}{P:PD}(h:Dk Z w n0 d db pv P)(b:Nat)(hb:b<P.bs.length)(A:Option Addr)(c:Nat)(l:List UInt8)(hr:Rd w w.heap.size A l)(hl:l.length=4096)(hw:P.ws.length≤100) :
    Calls Tryz.prog 60 #[.pointer (some ⟨d,0,none⟩),.int .i64 (b:Int),.slice A 4096 c] w fun e w'=>e=.returned (.int .i64 (P.put b l).2)∧(∃ pv',Dk Z w' n0 d db pv' (P.put b l).1)∧Fr n0 d db w w':=by
  obtain⟨A0,c0,rfl⟩:=h.pend.form
  have hA:=asked_any h.box b hb
  have hO:=operation_any h.box h.ok.lo h.ok.hi
  by_cases he:opE P.ft P.wh=0
  · rw[put_ok he]
    rw[he] at hO
    have HL:=Lib.hid hl
    clear hl
    go_enter Tryz.func60,Tryz.ntmps60
    go_wp2_with (first
      | (go_at_call 153;refine hA.mono ?_;rintro e w ⟨rfl,rfl⟩)
      | (go_at_call 154;refine hO.mono ?_;rintro e w1 ⟨rfl,hD,hK⟩))
    have hr1:=(hr.kd (Nat.le_refl _) h.box hK).more hK.size
    have h1:=h.turn hD hK (opF_lo h.ok.lo) (opF_hi h.ok.hi)
    obtain⟨us,hus,hown,hbk⟩:=h1.pend
    obtain⟨W0,hW0⟩:∃ W0,W0=w1.drew:=⟨_,rfl⟩
    have h2:Dk Z W0 n0 d db (.slice A0 P.ws.length c0) { P with ft:=opF P.ft }:=by rw[hW0];exact h1.below ⟨rfl,rfl,rfl,Nat.le_refl _,fun _ _=>rfl⟩
    have hown2:W0.ownsRow n0 203 2 (.slice A0 P.ws.length c0) P.ws.length (wc P.ws us):=by rw[hW0];exact hown
    have hbk2:∀ k (h:k<us.length) (h':k<P.ws.length),Bk Z W0 us[k] P.ws[k].2:=by rw[hW0];exact hbk
    have W:=whole_any A c 4096 l W0 (by rw[hW0];exact hr1) HL.out.symm (by have:=HL.out;omega) (fun e=>by have:=HL.out;simp[e] at this)
    have HF:Fr n0 d db w W0:=by rw[hW0];exact(Fr.of_d hK).then (Fr.below ⟨rfl,rfl,rfl,Nat.le_refl _,fun _ _=>rfl⟩)
    have c2:=h2.box.cells.2.2.1
    have z2:=h2.box.lt
    have hbase:=h2.base
    clear hr hr1 hA hO h1 hown hbk hD hK
    rw[hW0] at W c2
    obtain⟨i98,hi98,hz98,hs98,hb98⟩:=info_parts info98
    go_region_law
      (first
        | (go_simp;go_at_call 140;refine W.mono ?_;rintro e w2 ⟨⟨g,rfl,hO2⟩,hb2⟩;rw[← hW0] at hb2;have c3:=(hb2.cell (p:=⟨d,2,none⟩) z2).trans (hW0▸c2);have z3:=Nat.lt_of_lt_of_le z2 hb2.size;have c3':=fun o=>(World.cell?_alloc_lt w2 o ⟨d,2,none⟩ z3).trans c3)
        | (refine step_append_lies _ rfl (.tmp 27) (.tmp 32) 140 rfl n0 203 i98 _ 2 32 Tryz.underlying140 hi98 hz98 hs98 hb98 rfl (by decide) (.slice A0 P.ws.length c0) P.ws.length (wc P.ws us) rfl ?_ ⟨w2.heap.size, 0, none⟩ 1 1 [.int .i64 (b : Int), .slice (some ⟨g, 0, none⟩) 4096 4096] rfl rfl ?_ ?_ (by decide) ?_ ?_ ?_ _ rfl ?_
           · exact push_own hown2 hb2 _
           · exact news2 _ _ _
           · exact one2 _ _ _ _
           · exact Nat.le_trans (show P.ws.length+1≤1000 by omega) (by decide)
           · omega
           · exact Nat.le_trans hbase (Nat.le_trans hb2.size (by rw[World.size_alloc];exact Nat.le_succ _))
           intro g2 cap2 w4 hown4 hgrow hat hlt4
           have c4:=(cell_d hgrow h2 hb2).trans c3
           have f4:=frozen_d hgrow h2 hb2))
    all_goals
      have hsz:W0.heap.size≤w2.heap.size:=hb2.size
      have hbk3:Bk Z w2 (.slice (some ⟨g,0,none⟩) 4096 4096) l:=by
        have:=Bk.of_own (Z:=Z) hO2 (pad_len (Nat.le_of_eq HL.out)) (fun hz=>by have h9:=h2.wet _ hz;rw[hW0] at h9;have:=hO2.blk g rfl;omega)
        rwa[pad_full HL.out] at this
      have X:=h2.push (b:=b) (l:=l) hus hbk2 (hb2.alloc hsz _) (hbk3.same fun g' x hx=>Below.heap_alloc w2 _ g' (hlt hx)) hown4 hgrow hb HL.out
      go_wp2
      go_ret
      exact⟨rfl,⟨_,X.1⟩,HF.then X.2⟩
  · rw[put_no he]
    go_enter Tryz.func60,Tryz.ntmps60
    go_wp2_with (first
      | (go_at_call 153;refine hA.mono ?_;rintro e w ⟨rfl,rfl⟩)
      | (go_at_call 154;refine hO.mono ?_;rintro e w1 ⟨rfl,hD,hK⟩))
    all_goals first | omega | skip
    go_ret
    exact⟨rfl,⟨_,h.turn hD hK (opF_lo h.ok.lo) (opF_hi h.ok.hi)⟩,Fr.of_d hK⟩
theorem Dk.setB{w:World}{n0 d db b:Nat}{pv u:Value}{P:PD}{l:List UInt8}(h:Dk Z w n0 d db pv P)(hu:Bk Z w u l)(hb:b<P.bs.length) :
    Dk Z (w.setCell ⟨db,b,none⟩ u) n0 d db pv { P with bs:=P.bs.set b l }∧Fr n0 d db w (w.setCell ⟨db,b,none⟩ u):=by
  obtain⟨cs,r1,r2,r3⟩:=h.row
  have hs:∀ (g:Nat) (x:Array Value) (t:TypeId),w.heap[g]? = some (.cells x t (0,0))→t≠33→(w.setCell ⟨db,b,none⟩ u).heap[g]? = w.heap[g]?:=fun g x t hx ht=>Below.heap_setCell w _ _ g (tag_ne hx r1 ht)
  have hl:l.length=4096:=by obtain⟨_,_,_,hl,-⟩:=hu;exact hl
  refine⟨⟨?_,⟨cs.setIfInBounds b u,?_,by simp[r2],?_⟩,h.pend.same (fun g x hg=>hs g _ _ hg (by decide)) fun g x hg=>hs g _ _ hg (by decide),?_,?_,?_⟩,⟨Kp.setCell w (p:=⟨db,b,none⟩) (.inr (.inl rfl)) _⟩⟩
  · show DB _ d db (P.bs.set b l).length pv P.ft P.wh
    rw[List.length_set]
    exact(hs _ _ _ h.box (by decide)).trans h.box
  · rw[heap_setCell_same w db b _ _ _ r1]
  · intro k hk
    have hk':k<P.bs.length:=by simpa using hk
    by_cases e:b=k
    · subst e
      refine⟨u,by simp[r2,hb],?_⟩
      have:(P.bs.set b l)[b]=l:=by simp
      show Db Z _ u (P.bs.set b l)[b]
      rw[this]
      exact .inl (hu.same fun g x hg=>hs g _ _ hg (by decide))
    · obtain⟨v,a,c⟩:=r3 k hk'
      refine⟨v,by rw[Array.getElem?_setIfInBounds_ne e];exact a,?_⟩
      have:(P.bs.set b l)[k]'hk=P.bs[k]:=List.getElem_set_ne e _
      show Db Z _ v (P.bs.set b l)[k]
      rw[this]
      exact c.same fun g x hg=>hs g _ _ hg (by decide)
  · refine⟨fun x hx=>?_,fun x hx=>?_,h.ok.lo,h.ok.hi⟩
    · rcases List.mem_or_eq_of_mem_set hx with hx|rfl
      · exact h.ok.lens x hx
      · exact hl
    · have:=h.ok.wlens x hx
      simpa using this
  · have:=h.base;simpa using this
  · intro g hz;have:=h.wet g hz;simpa using this
theorem sync_ok{P:PD}(h:opE P.ft P.wh=0):P.sync=({ P with ft:=opF P.ft,bs:=carry P.bs P.ws,ws:=[] },0):=if_pos h
theorem sync_no{P:PD}(h:opE P.ft P.wh≠0):P.sync=(P.stop,opE P.ft P.wh):=if_neg h
theorem Pn.atN{w:World}{n0 n c0:Nat}{A0:Option Addr}{ws:List (Nat×List UInt8)}(h:Pn Z w n0 (.slice A0 n c0) ws){k:Nat}(hk:k<ws.length):∃ g u,A0=some ⟨g,0,none⟩∧w.cell? ⟨g,k * 2,none⟩=some (.int .i64 (ws[k].1:Int))∧w.cell? ⟨g,k * 2+1,none⟩=some u∧Bk Z w u ws[k].2:=by
  obtain⟨g,c,u,e,a,b,d⟩:=h.at_ hk
  cases e
  exact⟨g,u,rfl,a,b,d⟩
theorem Dk.drop{w:World}{n0 d db:Nat}{pv:Value}{P:PD}(h:Dk Z w n0 d db pv P) :
    Dk Z (w.setCell ⟨d,2,none⟩ (.slice none 0 0)) n0 d db (.slice none 0 0) { P with ws:=[] }∧Fr n0 d db w (w.setCell ⟨d,2,none⟩ (.slice none 0 0)):=by
  obtain⟨cs,r1,r2,r3⟩:=h.row
  have hs:∀ (g:Nat) (x:Array Value) (t:TypeId),w.heap[g]? = some (.cells x t (0,0))→t≠147→(w.setCell ⟨d,2,none⟩ (.slice none 0 0)).heap[g]? = w.heap[g]?:=fun g x t hx ht=>Below.heap_setCell w _ _ g (tag_ne hx h.box ht)
  refine⟨⟨?_,⟨cs,(hs _ _ _ r1 (by decide)).trans r1,r2,fun k hk=>by obtain⟨v,a,c⟩:=r3 k hk;exact⟨v,a,c.same fun g x hg=>hs g _ _ hg (by decide)⟩⟩,Pn.nil _ _,⟨h.ok.lens,fun x hx=>(by cases hx),h.ok.lo,h.ok.hi⟩,by have:=h.base;simpa using this,fun g hz=>by have:=h.wet g hz;simpa using this⟩,⟨Kp.setCell w (p:=⟨d,2,none⟩) (.inl rfl) _⟩⟩
  have hb:=h.box
  unfold DB at hb ⊢
  rw[heap_setCell_same w d 2 _ _ _ hb]
  rfl
theorem sync_any{w:World}{n0 d db:Nat}{pv:Value}{P:PD}(h:Dk Z w n0 d db pv P)(hw:P.ws.length≤100) :
    Calls Tryz.prog 61 #[.pointer (some ⟨d,0,none⟩)] w fun e w'=>e=.returned (.int .i64 P.sync.2)∧(∃ pv',Dk Z w' n0 d db pv' P.sync.1∧(P.sync.2=0→pv'=.slice none 0 0))∧Fr n0 d db w w':=by
  have hA:=made_any h.box
  have hO:=operation_any h.box h.ok.lo h.ok.hi
  by_cases he:opE P.ft P.wh=0
  · rw[sync_ok he]
    rw[he] at hO
    obtain⟨n,hn⟩:∃ n,n=P.ws.length:=⟨_,rfl⟩
    have HN:=Lib.hid hn
    obtain⟨A0,c0,hpv⟩:∃ A0 c0,pv=.slice A0 n c0:=by rw[hn];exact h.pend.form
    subst hpv
    have hn2:n≤100:=by omega
    clear hn
    go_enter Tryz.func61,Tryz.ntmps61
    go_wp2_with (first
      | (go_at_call 80;refine hA.mono ?_;rintro e w ⟨rfl,rfl⟩)
      | (go_at_call 154;refine hO.mono ?_;rintro e w1 ⟨rfl,hD,hK⟩;have c2:=hD.cells.2.2.1))
    have h1:=h.turn hD hK (opF_lo h.ok.lo) (opF_hi h.ok.hi)
    have HF:Fr n0 d db w w1:=Fr.of_d hK
    clear hA hO hD hK h
    go_loopw [19] (fun i wr=>∃ k:Nat,k≤n∧i=.int .i64 k∧Dk Z wr n0 d db (.slice A0 n c0) { P with ft:=opF P.ft,bs:=carry P.bs (P.ws.take k) }∧Fr n0 d db w1 wr) (fun i _=>n-(intOf i).toNat)
    case atStart=>exact⟨0,by omega,rfl,h1,Fr.refl _ _ _ _⟩
    case round=>
      obtain⟨k,hk,rfl,hk1,hF1⟩:=hrel
      by_cases hlt':k<n
      · have hkl:k<P.ws.length:=by have:=HN.out;omega
        have hd1:decide (k<n)=true:=by simp[hlt']
        obtain⟨g,u,rfl,q0,q1,qb⟩:=hk1.pend.atN hkl
        have qb0:=qb
        obtain⟨gb,rfl,-,-,-⟩:=qb0
        have hbl:P.ws[k].1<(carry P.bs (P.ws.take k)).length:=by rw[carry_len];exact(h1.ok.wlens _ (List.getElem_mem hkl)).1
        obtain⟨b0,hb0⟩:∃ b0,b0=P.ws[k].1:=⟨_,rfl⟩
        rw[← hb0] at hbl
        obtain⟨-,c1,-⟩:=hk1.box.cells
        simp only at c1 q0 q1
        rw[← hb0] at q0
        have HB:=Lib.hid hb0
        clear hb0
        obtain⟨m,hm⟩:∃ m,m=(carry P.bs (P.ws.take k)).length:=⟨_,rfl⟩
        rw[← hm] at c1 hbl
        have HM:=Lib.hid hm
        clear hm
        go_wp2
        obtain⟨W1,hW1⟩:∃ W1,(wr.alloc (.cells #[.int .i64 (b0:Int),.slice (some ⟨gb,0,none⟩) 4096 4096] 203)).drew=W1:=⟨_,rfl⟩
        have hz1:d<wr.heap.size:=hk1.box.lt
        have c1':W1.cell? ⟨d,1,none⟩=some (.slice (some ⟨db,0,none⟩) m m):=by rw[← hW1];exact(World.cell?_alloc_lt wr _ ⟨d,1,none⟩ hz1).trans c1
        have t0:W1.cell? ⟨wr.heap.size,0,none⟩=some (.int .i64 (b0:Int)):=by rw[← hW1];exact World.cell?_alloc_at _ _ _ _ rfl
        have t1:W1.cell? ⟨wr.heap.size,1,none⟩=some (.slice (some ⟨gb,0,none⟩) 4096 4096):=by rw[← hW1];exact World.cell?_alloc_at _ _ _ _ rfl
        have hb3:Below wr.heap.size wr W1:=by rw[← hW1];exact((Below.refl _ _).alloc (Nat.le_refl _) _).trans ⟨rfl,rfl,rfl,Nat.le_refl _,fun _ _=>rfl⟩
        have hk2:=hk1.below hb3
        obtain⟨cs,q1,q2,q3⟩:=hk2.row
        have fz:W1.frozen? ⟨db,b0,none⟩=false:=frozenD q1 b0
        obtain⟨v0,hv0,-⟩:=q3 b0 (by show b0<(carry P.bs (P.ws.take k)).length;rw[← HM.out];exact hbl)
        have cv:W1.cell? ⟨db,b0,none⟩=some v0:=(cellD q1 b0).trans hv0
        have X:=hk2.setB (b:=b0) (qb.same fun g x hx=>hb3.block g (hlt hx)) (by rw[← HM.out];exact hbl)
        clear q1 q2 q3 c1 q0
        refine stillW 9 (by kernel_rfl) (by kernel_rfl) W1 hW1 ?_
        simp only[List.take_succ_cons,List.take_zero,List.drop_succ_cons,List.drop_zero]
        repeat still_step
        refine wpStill_nil ?_
        go_wp2
        refine⟨⟨k+1,by omega,by go_num,?_,hF1.then ((Fr.below hb3).then X.2)⟩,by simp[intOf]<;>omega⟩
        have Y:=X.1
        simp only at Y
        have e9:(carry P.bs (P.ws.take k)).set b0 P.ws[k].2=carry P.bs (P.ws.take (k+1)):=by rw[HB.out,carry_take hkl]
        rw[e9] at Y
        exact Y
      · obtain rfl:k=n:=by omega
        have HK:=Lib.hid hk
        have X:=hk1.drop
        have hz:=hk1.box.frozen 2
        have c2':=hk1.box.cells.2.2.1
        go_wp2
        go_ret
        have Y:=X.1
        rw[List.take_of_length_le (by have:=HN.out;omega)] at Y
        refine⟨rfl,?_,HF.then (hF1.then X.2)⟩
        first | exact⟨_,Y,fun _=>rfl⟩ | exact Y
  · rw[sync_no he]
    go_enter Tryz.func61,Tryz.ntmps61
    go_wp2_with (first
      | (go_at_call 80;refine hA.mono ?_;rintro e w ⟨rfl,rfl⟩)
      | (go_at_call 154;refine hO.mono ?_;rintro e w1 ⟨rfl,hD,hK⟩))
    all_goals first | omega | skip
    go_ret
    exact⟨rfl,⟨_,h.turn hD hK (opF_lo h.ok.lo) (opF_hi h.ok.hi),fun e=>absurd e he⟩,Fr.of_d hK⟩
end Go.Proofs.YtdbkocfbhpgpkaaGreat
namespace Go.Proofs.YtdbkocfbhpgpkaaGreat
open Go Go.RowKit
set_option maxRecDepth 100000
structure PD.Fine(P:PD):Prop where
  ft:P.ft=-1
  wh:P.wh=0
def PD.vis(P:PD):List (List UInt8):=carry P.bs P.ws
theorem PD.vis_len(P:PD):P.vis.length=P.bs.length:=carry_len _ _
theorem PD.Fine.op{P:PD}(h:P.Fine):opE P.ft P.wh=0:=by rw[h.ft];rfl
theorem PD.Fine.put_eq{P:PD}(h:P.Fine)(b:Nat)(l:List UInt8):P.put b l=({ P with ws:=P.ws++[(b,l)] },0):=by
  rw[put_ok h.op]
  have:opF P.ft=P.ft:=by rw[h.ft];rfl
  rw[this]
theorem PD.Fine.sync_eq{P:PD}(h:P.Fine):P.sync=({ P with bs:=P.vis,ws:=[] },0):=by
  rw[sync_ok h.op]
  have:opF P.ft=P.ft:=by rw[h.ft];rfl
  rw[this]
  rfl
theorem PD.put_vis(P:PD)(b:Nat)(l:List UInt8):({ P with ws:=P.ws++[(b,l)] }:PD).vis=P.vis.set b l:=carry_snoc _ _ _
def Off (lo hi:Nat)(a b:List (List UInt8)):Prop:=a.length=b.length∧∀ i,i<lo∨hi≤i→a[i]? = b[i]?
theorem Off.refl(lo hi:Nat)(a:List (List UInt8)):Off lo hi a a:=⟨rfl,fun _ _=>rfl⟩
theorem Off.set{lo hi:Nat}{a b:List (List UInt8)}(h:Off lo hi a b){i:Nat}(h1:lo≤i)(h2:i<hi)(l:List UInt8):Off lo hi a (b.set i l):=
  ⟨by rw[List.length_set];exact h.1,fun j hj=>by rw[List.getElem?_set_ne (by omega)];exact h.2 j hj⟩
set_option maxHeartbeats 1600000
theorem box_alloc(w:World)(o:Obj):∃ W,w.alloc o=W∧W.heap[w.heap.size]? = some o∧Below w.heap.size w W∧W.heap.size=w.heap.size+1:=
  ⟨_,rfl,heap_alloc_new _ _,(Below.refl _ _).alloc (Nat.le_refl _) _,by simp⟩
theorem drew_name(w:World):∃ W,w.drew=W∧W.heap=w.heap∧Below w.heap.size w W:=⟨_,rfl,rfl,⟨rfl,rfl,rfl,Nat.le_refl _,fun _ _=>rfl⟩⟩
theorem below_drew(w:World):Below w.heap.size w w.drew:=⟨rfl,rfl,rfl,Nat.le_refl _,fun _ _=>rfl⟩
theorem keepB{w w':World}(hb:Below w.heap.size w w'){g:Nat}{o:Obj}(h:w.heap[g]? = some o):w'.heap[g]? = some o:=(hb.block _ (hlt h)).trans h
theorem loadAgg{ty:TypeId}{n:Nat}(hn:Go.Ev.aggN Tryz.prog ty=some (some n)){w:World}{g:Nat}{V:Array Value}{t:TypeId}(hV:w.heap[g]? = some (.cells V t (0,0)))(hz:V.size=n):(loadVar ty ⟨g,0,none⟩).run Tryz.prog w=.ok (.agg V) w:=by
  have:=Go.Ev.run_loadVar_agg (P:=Tryz.prog) (w:=w) hn (a:=⟨g,0,none⟩) (cs:=V.toList) (by simp[hz]) (by
    intro j v hj
    have:(⟨g,0,none⟩:Addr).add j=⟨g,j,none⟩:=by unfold Addr.add;split<;>simp_all
    rw[this]
    simp only[World.cell?,hV]
    simpa using hj)
  simpa using this
theorem ret_c1{fn:Func}{p:Tmp}{ty:TypeId}(h:fn.results=#[.cell p ty]){n:Nat}(hn:Go.Ev.aggN Tryz.prog ty=some (some n)){tmps:Array Value}{w:World}{g:Nat}{V:Array Value}{t:TypeId}(hp:tmps.getD p undef=.pointer (some ⟨g,0,none⟩))(hV:w.heap[g]? = some (.cells V t (0,0)))(hz:V.size=n) :
    (results fn tmps).run Tryz.prog w=.ok (.agg V) w:=by
  have hl:=loadAgg hn hV hz
  have ha:asAddr (.pointer (some ⟨g,0,none⟩))=pure ⟨g,0,none⟩:=rfl
  simp only[results,h]
  have hp':tmps[p]?.getD undef=.pointer (some ⟨g,0,none⟩):=by rw[← hp];simp
  simp[Sem.run_bind,Result.andThen,hp',ha,hl]
theorem add163{w:World}{a:Addr}{x y:Int}(hc:w.cell? a=some (.int .i64 x))(hz:w.frozen? a=false):(callFunc 232 #[.pointer (some a),.int .i64 y]).run Tryz.prog w=.ok (.value (.int .i64 (wrap64 (x+y)))) (w.setCell a (.int .i64 (wrap64 (x+y)))):=
  run_call_add Tryz.func232 (by kernel_rfl) (by kernel_rfl) (by kernel_rfl) .i64 (by kernel_rfl) hc hz (by simp[go_sem,wrap64,IntKind.wrap_i64])
theorem Add_any{w:World}{d i:Nat}{x y:Int}(hc:w.cell? ⟨d,i,none⟩=some (.int .i64 x))(hz:w.frozen? ⟨d,i,none⟩=false) :
    Calls Tryz.prog 163 #[.pointer (some ⟨d,i,none⟩),.int .i64 y] w fun e w'=>e=.returned (.int .i64 (wrap64 (x+y)))∧w'=w.setCell ⟨d,i,none⟩ (.int .i64 (wrap64 (x+y))):=by
  have h:=add163 (y:=y) hc hz
  go_enter Tryz.func163,Tryz.ntmps163
  go_wp2
  go_ret
  exact⟨rfl,rfl⟩
theorem set_heap{w:World}{g k:Nat}{cs:Array Value}{t:TypeId}(h:w.heap[g]? = some (.cells cs t (0,0)))(v:Value):(w.setCell ⟨g,k,none⟩ v).heap[g]? = some (.cells (cs.set! k v) t (0,0)):=by
  rw[heap_setCell_same w g k _ _ _ h]
  simp
theorem set_name{w:World}{g:Nat}(k:Nat){cs:Array Value}{t:TypeId}(h:w.heap[g]? = some (.cells cs t (0,0)))(v:Value):∃ W,w.setCell ⟨g,k,none⟩ v=W∧W.heap[g]? = some (.cells (cs.set! k v) t (0,0))∧Kp (·=g) w W∧W.heap.size=w.heap.size:=
  ⟨_,rfl,set_heap h v,Kp.setCell (S:=(·=g)) w (p:=⟨g,k,none⟩) rfl v,by simp⟩
theorem Kp.keep{S:Nat→Prop}{w w':World}(h:Kp S w w'){g:Nat}{o:Obj}(hg:w.heap[g]? = some o)(hs:¬S g):w'.heap[g]? = some o:=(h.block g (hlt hg) hs).trans hg
theorem cellK{w w':World}{g k:Nat}(h:w'.heap[g]? = w.heap[g]?):w'.cell? ⟨g,k,none⟩=w.cell? ⟨g,k,none⟩:=by simp[World.cell?,h]
structure NoD(o:Obj):Prop where
  d:∀ x,o≠.cells x 147 (0,0)
  r:∀ x,o≠.cells x 33 (0,0)
  p:∀ x,o≠.cells x 203 (0,0)
theorem NoD.cells{x:Array Value}{t:TypeId}(h1:t≠147)(h2:t≠33)(h3:t≠203):NoD (.cells x t (0,0)):=
  ⟨fun _ e=>by injection e with _ e _;exact h1 e,fun _ e=>by injection e with _ e _;exact h2 e,fun _ e=>by injection e with _ e _;exact h3 e⟩
theorem NoD.map(E:Array MapEntry)(c:Nat):NoD (.map E c):=⟨fun _ e=>(by cases e),fun _ e=>(by cases e),fun _ e=>(by cases e)⟩
theorem Dk.other{Z Z' S:Nat→Prop}{w w':World}{n0 d db:Nat}{pv:Value}{P:PD}(h:Dk Z w n0 d db pv P)(K:Kp S w w')(hS:∀ k o,S k→w.heap[k]? = some o→NoD o∧(Z k∨∀ x,o≠.cells x 5 (0,0)))
    (hz:∀ g,g<w.heap.size→Z' g→Z g) (hw:∀ g,Z' g→g<w'.heap.size):Dk Z' w' n0 d db pv P:=by
  have k5:∀ (g:Nat) (x:Array Value),¬Z g→w.heap[g]? = some (.cells x 5 (0,0))→w'.heap[g]? = w.heap[g]?:=fun g x hg e=>K.block g (hlt e) fun s=>by
    rcases (hS g _ s e).2 with q|q
    · exact hg q
    · exact q x rfl
  have bk:∀ v l,Bk Z w v l→Bk Z' w' v l:=fun v l b=>b.wet hz k5
  obtain⟨cs,h1,h2,h3⟩:=h.row
  refine⟨K.keep h.box fun s=>(hS _ _ s h.box).1.d _ rfl,⟨cs,K.keep h1 fun s=>(hS _ _ s h1).1.r _ rfl,h2,fun k hk=>?_⟩,?_,h.ok,Nat.le_trans h.base K.size,hw⟩
  · obtain⟨u,a,b⟩:=h3 k hk
    exact⟨u,a,b.imp (bk _ _) id⟩
  · obtain⟨us,q1,q2,q3⟩:=h.pend
    exact⟨us,q1,ownsRow_same q2 fun g x e=>K.block g (hlt e) fun s=>(hS _ _ s e).1.p _ rfl,fun k a b=>bk _ _ (q3 k a b)⟩
theorem Dk.apart{Z S:Nat→Prop}{w w':World}{n0 d db:Nat}{pv:Value}{P:PD}(h:Dk Z w n0 d db pv P)(K:Kp S w w')(hS:∀ k o,S k→w.heap[k]? = some o→NoD o∧(Z k∨∀ x,o≠.cells x 5 (0,0))):Dk Z w' n0 d db pv P:=
  h.other K hS (fun _ _ h=>h) (fun g hg=>Nat.lt_of_lt_of_le (h.wet g hg) K.size)
end Go.Proofs.YtdbkocfbhpgpkaaGreat
