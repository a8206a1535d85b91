/-
  store.Checkpoint with any open numbers; what it may turn.
-/
import Derived.Test.YtdbkocfbhpgpkaaGreatb29
import Derived.Test.YtdbkocfbhpgpkaaGreatb28
set_option linter.unusedVariables false
set_option linter.unusedSimpArgs false
namespace Go.Proofs.YtdbkocfbhpgpkaaGreat
open Go Go.RowKit
set_option maxRecDepth 100000
set_option maxHeartbeats 1600000
section
variable {w:World}{t n0:Nat}{T:TR}{m:List (Int×Value)}
def confN(same:Bool)(b:Int)(q p:Nat):Int:=if b=2∧same=false then 7 else if b=3∧¬q≤p then 8 else 0
theorem conflict_g(h:TB w t T)(hm:MapI w T.who m)(n k:Int)(p q:Nat)(b:Int)(hb:b=2∨b=3∨b=5)(hl:m.lookup n=some (mk 2 p))(hk:m.lookup k=some (mk b q)) :
    Calls Tryz.prog 164 #[.pointer (some ⟨t,0,none⟩),.int .i64 n,.int .i64 k] w fun e w'=>e=.returned (.int .i64 (confN (decide (k=n)) b q p))∧Below w.heap.size w w':=by
  have A:=asked_tab h hm n p hl
  have O1:=fun w' (bl:Below w.heap.size w w')=>of_tab (h.below bl) (hm.below bl) k b q hk
  have O2:=fun w' (bl:Below w.heap.size w w')=>of_tab (h.below bl) (hm.below bl) n 2 p hl
  have S:=shown_g 2 b p q hb
  unfold mk at O1 O2 S
  go_enter Tryz.func164,Tryz.ntmps164
  go_upto_region 4 with (go_at_call 169;(with_reducible refine A.mono ?_);rintro e w2 ⟨rfl,b2⟩)
  have B0:=O1 w2 b2
  go_upto_region 5 with (go_at_call 194;(with_reducible refine B0.mono ?_);rintro e w3 ⟨rfl,b3⟩)
  have b3':=b2.trans (b3.mono b2.size)
  obtain⟨W4,hW4,g4,b4,z4⟩:=box_alloc w3 (.cells #[.int .u8 b,.int .i64 (q:Int)] 239)
  have b4':=b3'.trans (b4.mono b3'.size)
  have b5':=b4'.trans ((below_drew W4).mono b4'.size)
  have B1:=O2 W4.drew b5'
  have g5:W4.drew.heap[w3.heap.size]? = _:=g4
  rw[hW4]
  have k0:W4.cell? ⟨w3.heap.size,0,none⟩=some (.int .u8 b):=cellD g4 0
  have k1:W4.cell? ⟨w3.heap.size,1,none⟩=some (.int .i64 (q:Int)):=cellD g4 1
  have kk:=And.intro k0 k1
  clear z4 hW4
  rcases hb with rfl|rfl|rfl
  · by_cases hkn:k=n
    · have f1:(k != n)=false:=by simp[hkn]
      have e1:confN (decide (k=n)) 2 q p=0:=by simp[confN,hkn]
      have HE:=Lib.hid e1
      clear e1 hkn hl hk
      go_upto_region 7 with fail
      go_quiet (fail)
      go_wp2
      go_ret
      exact⟨by rw[HE.out];rfl,b4'.trans ((drewN_below _ _ _).mono b4'.size)⟩
    · have f1:(k != n)=true:=by simpa using hkn
      have e1:confN (decide (k=n)) 2 q p=7:=by simp[confN,hkn]
      have HE:=Lib.hid e1
      clear e1 hkn hl hk
      go_wp2
      go_ret
      exact⟨by rw[HE.out];rfl,b4'⟩
  · have HK:=Lib.hid hk
    by_cases hq:q≤p
    · have e1:confN (decide (k=n)) 3 q p=0:=by simp[confN,hq]
      have e2:visB 3 q p=true:=by simp[visB,hq]
      have HE:=Lib.hid e1
      rw[e2] at S
      clear e1 e2 hl hk
      go_upto_region 7 with fail
      go_region_held3 (fun w'=>w'.cell? ⟨w3.heap.size,0,none⟩=some (.int .u8 3)∧w'.cell? ⟨w3.heap.size,1,none⟩=some (.int .i64 (q:Int)))
        (first | with_reducible exact kk | with_reducible exact kk5 | with_reducible exact kk6 | go_keep)
        (first
          | (go_at_call 194;with_reducible refine B1.mono ?_;rintro e w5 ⟨rfl,b5⟩;have kk5:=And.intro (cellD (keepB b5 g5) 0) (cellD (keepB b5 g5) 1))
          | (go_at_call 193;with_reducible refine(S _ _).mono ?_;rintro e w6 ⟨rfl,b6⟩;have kk6:=And.intro (cellD (keepB b6 (keepB b5 g5)) 0) (cellD (keepB b6 (keepB b5 g5)) 1))
          | fail)
      all_goals
        go_wp2
        go_ret
        exact⟨by rw[HE.out];rfl,b5'.trans ((b5.mono b5'.size).trans (b6.mono (Nat.le_trans b5'.size b5.size)))⟩
    · have e1:confN (decide (k=n)) 3 q p=8:=by simp[confN];omega
      have e2:visB 3 q p=false:=by simp[visB];omega
      have HE:=Lib.hid e1
      rw[e2] at S
      clear e1 e2 hl hk
      go_upto_region 7 with fail
      go_region_held3 (fun w'=>w'.cell? ⟨w3.heap.size,0,none⟩=some (.int .u8 3)∧w'.cell? ⟨w3.heap.size,1,none⟩=some (.int .i64 (q:Int)))
        (first | with_reducible exact kk | with_reducible exact kk5 | with_reducible exact kk6 | go_keep)
        (first
          | (go_at_call 194;with_reducible refine B1.mono ?_;rintro e w5 ⟨rfl,b5⟩;have kk5:=And.intro (cellD (keepB b5 g5) 0) (cellD (keepB b5 g5) 1))
          | (go_at_call 193;with_reducible refine(S _ _).mono ?_;rintro e w6 ⟨rfl,b6⟩;have kk6:=And.intro (cellD (keepB b6 (keepB b5 g5)) 0) (cellD (keepB b6 (keepB b5 g5)) 1))
          | fail)
      all_goals
        go_wp2
        go_ret
        exact⟨by rw[HE.out];rfl,b5'.trans ((b5.mono b5'.size).trans (b6.mono (Nat.le_trans b5'.size b5.size)))⟩
  · have e1:confN (decide (k=n)) 5 q p=0:=by simp[confN]
    have HE:=Lib.hid e1
    clear e1 hl hk
    go_upto_region 7 with fail
    go_quiet (fail)
    go_wp2
    go_ret
    exact⟨by rw[HE.out];rfl,b4'.trans ((drewN_below _ _ _).mono b4'.size)⟩
theorem cloneI_any{L c:Nat}{A:Option Addr}{ov:List Int}(ho:OR w n0 (.slice A L c) ov)(hL:L=ov.length)(hL2:L≤1000) :
    Calls Tryz.prog 139 #[.slice A L c] w fun e w'=>(∃ v,e=.returned v∧OR w' w.heap.size v ov)∧Below w.heap.size w w':=by
  cases A with
  | none =>
    have hq:(binOp .eql 22 (.slice none L c) (.slice none 0 0)).run Tryz.prog w=.ok (.bool true) w:=Go.run_eql_slice_nil (P:=Tryz.prog) w 22 3 none L c Tryz.underlying22
    have hnil:ov=[]:=by
      rcases ho.2 with⟨e,h0⟩|⟨g,c',cur,e,-⟩
      · exact List.length_eq_zero_iff.1 h0
      · cases e
    subst hnil
    obtain rfl:L=0:=by simpa using hL
    clear ho hL
    go_enter Tryz.func139,Tryz.ntmps139
    go_wp2
    go_ret
    exact⟨⟨_,rfl,World.ownsRow_nil _ _ _ _⟩,Below.refl _ _⟩
  | some A =>
    have hq:(binOp .eql 22 (.slice (some A) L c) (.slice none 0 0)).run Tryz.prog w=.ok (.bool false) w:=Go.run_eql_slice_nil (P:=Tryz.prog) w 22 3 (some A) L c Tryz.underlying22
    have hb1:Below w.heap.size w (w.alloc (.cells #[] 3)):=(Below.refl _ _).alloc (Nat.le_refl _) _
    have ho1:OR (w.alloc (.cells #[] 3)) w.heap.size (.slice (some ⟨w.heap.size,0,none⟩) 0 0) []:=⟨rfl,.inr ⟨_,0,_,rfl,Nat.le_refl _,heap_alloc_new w _,Nat.le_refl _,Nat.zero_le _,rfl,rfl⟩⟩
    rcases ho.2 with⟨e,h0⟩|⟨g,c',cur,e,hg0,hg,h1,h2,h3,h4⟩
    · cases e
    · injection e with e1 e2 e3
      injection e1 with e1
      subst e1 e3
      have hnw:∀ j u,(ov.map (Value.int .i64))[j]? = some u→(w.alloc (.cells #[] 3)).cell? ((⟨g,0,none⟩:Addr).add j)=some u:=fun j u hu=>by
        have:((⟨g,0,none⟩:Addr).add j)=⟨g,j,none⟩:=by unfold Addr.add;split<;>simp_all
        rw[this,cellD (keepB hb1 hg)]
        rw[← h4,List.getElem?_take] at hu
        split at hu
        · simpa using hu
        · cases hu
      have HL:=Lib.hid hL
      clear ho hL h4 h1 h2 h3 e2
      go_enter Tryz.func139,Tryz.ntmps139
      go_wp2_with (at_builtin;(refine apG rfl (.tmp 5) (.tmp 6) 22 3 (.int .i64 0) 1 8 Tryz.underlying22 info3' rfl (by decide) rfl w.heap.size _ 0 [] rfl ho1 ⟨g,0,none⟩ L c (ov.map (Value.int .i64)) rfl (by have:=HL.out;simp;omega) hnw ?c1 (by unfold maxLen;omega) (by omega) ?c2 ?_))
      case c1=>intro u hu;simp at hu;obtain⟨_,_,rfl⟩:=hu;rfl
      case c2=>exact hb1.size
      intro v w2 o2 gr at2
      go_wp2
      go_ret
      refine⟨⟨_,rfl,?_⟩,hb1.trans ((Kp.grow gr).below hb1.size fun k hk e=>by injection e with e;have e:w.heap.size=k:=e;omega)⟩
      unfold OR
      rw[← HL.out]
      simpa using o2
theorem open_g(h:TB w t T){ov:List Int}(ho:OR w n0 T.ov ov)(hL2:ov.length≤1000):Calls Tryz.prog 124 #[.pointer (some ⟨t,0,none⟩)] w fun e w'=>(∃ v,e=.returned v∧OR w' w.heap.size v ov)∧Below w.heap.size w w':=by
  have M:=tmade_any h
  obtain⟨L,hL⟩:∃ L,ov.length=L:=⟨_,rfl⟩
  obtain⟨A,c,hv⟩:=ho.form
  rw[hL] at hv hL2
  have c5:w.cell? ⟨t,5,none⟩=some (.slice A L c):=by rw[← hv];exact h.cell 5
  rw[hv] at ho
  have C:=cloneI_any ho hL.symm hL2
  clear ho hv hL
  go_enter Tryz.func124,Tryz.ntmps124
  go_wp2_with (first
    | (go_at_call 162;(with_reducible refine M.mono ?_);rintro e w ⟨rfl,rfl⟩)
    | (go_at_call 139;(with_reducible refine C.mono ?_);rintro e w1 ⟨⟨v,rfl,o1⟩,b1⟩))
  go_ret
  exact⟨⟨_,rfl,o1⟩,b1⟩
end
end Go.Proofs.YtdbkocfbhpgpkaaGreat
namespace Go.Proofs.YtdbkocfbhpgpkaaGreat
open Go Go.RowKit Go.Shelf
set_option maxRecDepth 100000
set_option maxHeartbeats 4000000
def CX (X:ST)(w:World)(k:Nat):Prop:=k=X.s∨k=X.B.j∨k=X.B.p∨k=X.im∨k=X.B.d∨k=X.db∨(X.n0≤k∧∃ cs t,w.heap[k]? = some (.cells cs t (0,0))∧(t=364∨t=203))
theorem Kp.cx{X:ST}{a b c:World}(h:Kp (CX X a) a b)(g:Kp (CX X b) b c):Kp (CX X a) a c:=h.trans g fun k hk e=>by
  rcases e with e|e|e|e|e|e|⟨hn,cs,t,e,ht⟩
  · exact .inl e
  · exact .inr (.inl e)
  · exact .inr (.inr (.inl e))
  · exact .inr (.inr (.inr (.inl e)))
  · exact .inr (.inr (.inr (.inr (.inl e))))
  · exact .inr (.inr (.inr (.inr (.inr (.inl e)))))
  · by_cases q:CX X a k
    · exact q
    · exact .inr (.inr (.inr (.inr (.inr (.inr ⟨hn,cs,t,(h.block k hk q)▸e,ht⟩)))))
section
variable {X:ST}{D:SD}{w w':World}
theorem cx_df{k:Nat}(e:DF X w k):CX X w k:=by
  rcases e with e|e|e|⟨hn,x,e⟩
  · exact .inr (.inl e)
  · exact .inr (.inr (.inr (.inr (.inl e))))
  · exact .inr (.inr (.inr (.inr (.inr (.inl e)))))
  · exact .inr (.inr (.inr (.inr (.inr (.inr ⟨hn,_,_,e,.inr rfl⟩)))))
theorem cx_fr{k:Nat}(e:k=X.B.d∨k=X.db∨(X.n0≤k∧∃ x,w.heap[k]? = some (Obj.cells x 203 (0,0)))):CX X w k:=cx_df (.inr e)
theorem cx_wp(h:StW X D w){k:Nat}(e:WPX X D w k):CX X w k:=by
  rcases e with e|⟨f,hf,e⟩|e|e|e|⟨hn,x,e⟩
  · exact .inr (.inr (.inl e))
  · obtain⟨cur,hc,-⟩:=(h.pb.fr f hf).row
    exact .inr (.inr (.inr (.inr (.inr (.inr ⟨by rw[e];exact h.hi f hf,_,_,by rw[e];exact hc,.inl rfl⟩)))))
  · exact .inl e
  · exact .inr (.inr (.inr (.inr (.inl e))))
  · exact .inr (.inr (.inr (.inr (.inr (.inl e)))))
  · exact .inr (.inr (.inr (.inr (.inr (.inr ⟨hn,_,_,e,.inr rfl⟩)))))
structure JFl(J J':JR):Prop where
  first:J'.first=J.first
  blocks:J'.blocks=J.blocks
  last:J'.last=J.last
  synced:J'.synced=J.last
  waits:J'.waits=[]
  wv:∃ A c,J'.wv=.slice A 0 c
  count:J.count≤J'.count∧J'.count≤J.count+62
  pos:J'.pos<J.blocks
  own:∀ k,J'.wv.ownBlock=some k→J.wv.ownBlock=some k
structure FlG(D D':SD):Prop where
  ex:∃ J' pv' P',D'={ D with J:=J',pv:=pv',P:=P' }∧JFl D.J J'∧P'.Fine∧P'.ws=[]∧Ln D P'
structure DiskG(D:SD):Prop where
  fine:D.P.Fine
  ws:D.P.ws=[]
  first:D.J.first+D.J.blocks≤D.P.bs.length
  len:D.P.bs.length≤10000
  pos:D.J.pos<D.J.blocks
  bl:D.J.blocks≤1000
  cnt:D.J.count≤4000000000
  used:D.J.used≤90000
  wl:D.J.waits.length≤250000
  sy:D.J.waits=[]→D.J.synced=D.J.last
theorem lflush_g(h:StW X D w)(ok:DiskG D):Calls Tryz.prog 76 #[.pointer (some ⟨X.B.j,0,none⟩)] w fun e w'=>e=.returned (.int .i64 0)∧(∃ D',FlG D D'∧StW X D' w')∧Kp (CX X w) w w':=by
  have hp:=ok.pos
  have hb:=ok.bl
  by_cases h0:D.J.waits=[]
  · have hv:∃ A c,D.J.wv=.slice A 0 c:=by
      rcases h.jo.form with⟨e,-⟩|⟨g,c,hv,-⟩
      · exact⟨_,_,e⟩
      · rw[h0] at hv;exact⟨_,_,hv⟩
    obtain⟨A,c,hv⟩:=hv
    refine(jflush_none h.jb hv).mono ?_
    rintro e w' ⟨rfl,rfl⟩
    exact⟨rfl,⟨D,⟨D.J,D.pv,D.P,rfl,⟨rfl,rfl,rfl,ok.sy h0,h0,⟨A,c,hv⟩,⟨Nat.le_refl _,Nat.le_add_right _ _⟩,hp,fun _ e=>e⟩,ok.fine,ok.ws,⟨rfl,fun _ _=>rfl⟩⟩,h⟩,Kp.refl _ _⟩
  · have w0:0<D.J.waits.length:=List.length_pos_iff.2 h0
    have hn:=need_le ok.wl
    refine(lflush_st h ⟨ok.fine,ok.ws,ok.first,ok.len,by omega,ok.cnt,by omega,ok.used,ok.wl,w0⟩).mono ?_
    rintro e w' ⟨rfl,⟨D',⟨pv',P',rfl,a1,a2,a3⟩,h'⟩,k⟩
    exact⟨rfl,⟨_,⟨D.J.flushed (need D.J.waits.length),pv',P',rfl,⟨rfl,rfl,rfl,rfl,rfl,⟨_,_,rfl⟩,⟨Nat.le_add_right _ _,Nat.add_le_add_left hn _⟩,Nat.mod_lt _ (by omega),fun k e=>by cases (show(Value.slice none 0 0).ownBlock=some k from e)⟩,a1,a2,a3⟩,h'⟩,k.weaken fun _ e=>cx_df e⟩
theorem plflush_g(h:StW X D w)(hw:D.R.wal=.func (.func 158) #[.pointer (some ⟨X.s,0,none⟩)] #[])(hl:∀ f,D.R.held=some f→f.lsn≤D.J.synced)(hfi:D.P.Fine)(hws:D.P.ws=[])(hb:D.R.base+1<D.P.bs.length)(hB:D.P.bs.length≤10000)(hc:D.R.cnt≤1000000)(ha:D.S.asked≤1000000) :
    Calls Tryz.prog 174 #[.pointer (some ⟨X.B.p,0,none⟩)] w fun e w'=>e=.returned (.int .i64 0)∧(∃ D',PlD D D'∧StW X D' w')∧Kp (CX X w) w w':=by
  by_cases hd:∃ f,D.R.held=some f∧f.dirty=true
  · obtain⟨f,hf,hd⟩:=hd
    refine(plflush_st h hf hd hw (hl f hf) hfi hws hb hB hc ha).mono ?_
    rintro e w' ⟨rfl,a,k⟩
    exact⟨rfl,a,k.weaken fun _ e=>cx_wp h e⟩
  · refine(pflushC_any h.pb (fun f hf=>by cases hh:f.dirty with | false=>rfl | true=>exact absurd ⟨f,hf,hh⟩ hd) h.sb h.dk hfi (by rw[hws];exact Nat.zero_le _)).mono ?_
    rintro e w' ⟨rfl,⟨c,a,P',pb,hc',sb,ha',dk,hf',hws',hlen,hoth⟩,k⟩
    have sg:=h.wpT
    have neg:∀ {g:Nat} {y:Array Value} {u:TypeId} {z:Nat×Nat},w.heap[g]? = some (.cells y u z)→u≠318→u≠364→u≠125→u≠147→u≠33→u≠203→¬WPX X D w g:=fun {g y u z} e h1 h2 h3 h4 h5 h6 q=>by
      obtain⟨cs,t,hg,ht⟩:=sg g q (hlt e)
      refine tag_ne e hg (fun e=>?_) rfl
      subst e
      rcases ht with e|e|e|e|e|e
      · exact h1 e
      · exact h2 e
      · exact h3 e
      · exact h4 e
      · exact h5 e
      · exact h6 e
    have hard:∀ g,WPX X D w g→g<w.heap.size→∃ cs t,w.heap[g]? = some (.cells cs t (0,0))∧Hard t:=fun g q hg=>by
      obtain⟨cs,t,e,ht⟩:=sg g q hg
      refine⟨cs,t,e,?_⟩
      rcases ht with rfl|rfl|rfl|rfl|rfl|rfl<;>exact⟨by decide,by decide,by decide⟩
    refine⟨rfl,⟨_,⟨c,a,_,P',rfl,hc',ha',hf',hws',⟨hlen,fun _ e=>by rw[hoth 62 (by omega),vis_nil hws]⟩⟩,h.core k hard sb (k.keep h.jb (neg h.jb (by decide) (by decide) (by decide) (by decide) (by decide) (by decide))) (h.jo.kp k fun g e q=>?_) pb dk (hi_clean h.hi)⟩,k.weaken fun _ e=>cx_wp h e⟩
    obtain⟨cs,t,hg,ht⟩:=sg g q (h.jo.lt g e)
    exact h.jo.tag hg (by rcases ht with rfl | rfl | rfl | rfl | rfl | rfl<;>decide) e
theorem OR.rdI{w:World}{n0:Nat}{v:Value}{l:List Int}(h:OR w n0 v l):∃ A c,v=.slice A l.length c∧RdI w w.heap.size A l:=by
  rcases h.2 with⟨e,h0⟩|⟨g,cap,cur,e,h1,h2,h3,h4,h5,h6⟩
  · have:l=[]:=List.eq_nil_of_length_eq_zero h0
    subst this
    exact⟨none,0,e,RdI.nil _ _ _⟩
  · refine⟨_,cap,e,fun _=>⟨g,0,rfl,hlt h2,fun k hk=>?_⟩⟩
    rw[cellD h2,Nat.zero_add,← Array.getElem?_toList]
    have:(cur.toList.take (l.length * 1))[k]? = (l.map (Value.int .i64))[k]?:=by rw[h6]
    rw[List.getElem?_take_of_lt (by omega)] at this
    rw[this,List.getElem?_map,List.getElem?_eq_getElem hk]
    rfl
end
structure PageG(X:ST)(D:SD):Prop where
  wal:D.R.wal=.func (.func 158) #[.pointer (some ⟨X.s,0,none⟩)] #[]
  lsn:∀ f,D.R.held=some f→f.lsn≤D.J.last
  base:D.R.base+1<D.P.bs.length
  cnt:D.R.cnt≤900000
  asked:D.S.asked≤900000
structure HeadG(D:SD):Prop where
  log:D.S.log=60
  ep:D.S.epoch=1
  bl:D.J.blocks=60
  c1:1≤D.J.count
  c2:D.J.count≤1000000
  n1:1≤D.T.next
  n2:D.T.next≤1000000
  gen:D.S.gen≤1000000
  len:2≤D.P.bs.length
  ovl:D.ov.length≤16
  ov:rise (D.T.next:Int) 0 D.ov=true
section
variable {X:ST}{D:SD}{w w':World}
structure FpG(D D':SD):Prop where
  ex:∃ J' c a pv' P',D'={ D with J:=J',S:={ D.S with asked:=a },R:=D.R.clean c,pv:=pv',P:=P' }∧JFl D.J J'∧c≤D.R.cnt+1∧a≤D.S.asked+1∧P'.Fine∧P'.ws=[]∧Ln D P'
theorem hdG_ok{pos cnt nx:Nat}{ov:List Int}(h1:pos<60)(h2:1≤cnt)(h3:cnt≤4294967295)(h4:1≤nx)(h5:nx≤1000000)(h6:ov.length≤16)(h7:rise (nx:Int) 0 ov=true):OkH ⟨60,1,(pos:Int),(cnt:Int),(nx:Int),ov,[]⟩:=
  ⟨by dsimp only;decide,by dsimp only;decide,by dsimp only;omega,by dsimp only;omega,by dsimp only;decide,by dsimp only;decide,by dsimp only;omega,by dsimp only;omega,by dsimp only;omega,by dsimp only;omega,h6,by simp,h7,rfl,by simp⟩
theorem puthead_g(h:StW X D w)(ok:DiskG D)(pg:PageG X D)(hd:HeadG D) :
    Calls Tryz.prog 77 #[.pointer (some ⟨X.s,0,none⟩)] w fun e w'=>e=.returned (.int .i64 0)∧(∃ D' D'',FpG D D'∧D''={ D' with S:={ D'.S with gen:=D'.S.gen+1 },pv:=D''.pv,P:=D''.P }∧D''.P.Fine∧D''.P.ws=[]∧Ln D D''.P∧StW X D'' w')∧Kp (CX X w) w w':=by
  have LF:=lflush_g h ok
  have c10:w.cell? ⟨X.s,10,none⟩=some (.pointer (some ⟨X.B.j,0,none⟩)):=cellD h.sb 10
  have PF:∀ w1 D1,FlG D D1→StW X D1 w1→Calls Tryz.prog 174 #[.pointer (some ⟨X.B.p,0,none⟩)] w1 fun e w'=>e=.returned (.int .i64 0)∧(∃ D',PlD D1 D'∧StW X D' w')∧Kp (CX X w1) w1 w':=fun w1 D1 hF h1=>by
    obtain⟨J',pv',P',rfl,jf,a1,a2,a3⟩:=hF.ex
    exact plflush_g h1 pg.wal (fun f hf=>by show f.lsn≤J'.synced;rw[jf.synced];exact pg.lsn f hf) a1 a2 (by show _<P'.bs.length;rw[a3.len];exact pg.base) (by show P'.bs.length≤_;rw[a3.len];exact ok.len) (Nat.le_trans pg.cnt (by decide)) (Nat.le_trans pg.asked (by decide))
  have HP:=Lib.hid PF
  have HH:=Lib.hid h
  have HO:=Lib.hid ok
  have HG:=Lib.hid pg
  have HD:=Lib.hid hd
  clear PF h ok pg hd
  go_enter Tryz.func77,Tryz.ntmps77
  go_upto_region 7 with (first
    | (go_at_call 76;(with_reducible refine LF.mono ?_);rintro e w1 ⟨rfl,⟨D1,hF1,h1⟩,k1⟩;have P1:=HP.out w1 D1 hF1 h1;have x11:w1.cell? ⟨X.s,11,none⟩=some (.pointer (some ⟨X.B.p,0,none⟩)):=cellD h1.sb 11;have HH1:=Lib.hid h1;clear h1)
    | (go_at_call 174;(with_reducible refine P1.mono ?_);rintro e w2 ⟨rfl,⟨D2,hP2,h2⟩,k2⟩))
  have b12:Kp (CX X w) w w2:=k1.cx k2
  have hFp:FpG D D2:=by
    obtain⟨J',pv',P',rfl,jf,a1,a2,a3⟩:=hF1.ex
    obtain⟨c,a,pv2,P2,rfl,c1,c2,c3,c4,c5⟩:=hP2.ex
    exact⟨J',c,a,pv2,P2,rfl,jf,c1,c2,c3,c4,c5.len.trans a3.len,fun h1 h2=>(c5.p0 (by show J'.first+J'.blocks≤62;rw[jf.first,jf.blocks];exact h1) h2).trans (a3.p0 h1 h2)⟩
  have NUM:D2.S.log=60∧D2.S.epoch=1∧D2.J.pos<60∧1≤D2.J.count∧D2.J.count≤2000000∧D2.T=D.T∧D2.ov=D.ov∧D2.S.gen=D.S.gen∧D2.P.Fine∧D2.P.ws=[]∧D2.P.bs.length=D.P.bs.length:=by
    obtain⟨J',c,a,pv2,P2,rfl,jf,c1,c2,c3,c4,c5⟩:=hFp.ex
    have hd:=HD.out
    have hb:=hd.bl
    have:=hd.c2
    have:=hd.c1
    have:=jf.count
    have:=jf.pos
    refine⟨hd.log,hd.ep,?_,?_,?_,rfl,rfl,rfl,c3,c4,c5.len⟩
    · show J'.pos<60
      omega
    · show 1≤J'.count
      omega
    · show J'.count≤2000000
      omega
  obtain⟨n1,n2,n3,n4,n5,n6,n7,n8,n9,n10,n11⟩:=NUM
  have y2:w2.cell? ⟨X.s,2,none⟩=some (.int .i64 60):=(cellD h2.sb 2).trans (by show some (Value.int .i64 (D2.S.log:Int))=_;rw[n1];rfl)
  have y3:w2.cell? ⟨X.s,3,none⟩=some (.int .i64 1):=(cellD h2.sb 3).trans (by show some (Value.int .i64 (D2.S.epoch:Int))=_;rw[n2];rfl)
  have y4:w2.cell? ⟨X.s,4,none⟩=some (.int .i64 0):=cellD h2.sb 4
  have y5:w2.cell? ⟨X.s,5,none⟩=some (.int .i64 0):=cellD h2.sb 5
  have y6:w2.cell? ⟨X.s,6,none⟩=some (.int .i64 0):=cellD h2.sb 6
  have y7:w2.cell? ⟨X.s,7,none⟩=some (.slice none 0 0):=cellD h2.sb 7
  have y8:w2.cell? ⟨X.s,8,none⟩=some (.slice none 0 0):=cellD h2.sb 8
  have HK:=Lib.hid (And.intro k1 k2)
  clear k1 k2 P1 x11 c10 LF
  go_upto_region 8 with fail
  obtain⟨W3,hW3,g3,b3,s3⟩:=box_alloc w2 (.cells #[.int .i64 60,.int .i64 1,.int .i64 0,.int .i64 0,.int .i64 0,.slice none 0 0,.slice none 0 0] 73)
  rw[hW3]
  clear hW3 y2 y3 y4 y5 y6 y7 y8
  have h3:=h2.below b3
  have z10:W3.cell? ⟨X.s,10,none⟩=some (.pointer (some ⟨X.B.j,0,none⟩)):=cellD h3.sb 10
  obtain⟨pos,hpos⟩:∃ pos,D2.J.pos=pos:=⟨_,rfl⟩
  obtain⟨cnt,hcnt⟩:∃ cnt,D2.J.count=cnt:=⟨_,rfl⟩
  have AT:=jat_any h3.jb
  rw[hpos,hcnt] at AT
  have HH2:=Lib.hid h2
  have HN:=Lib.hid (And.intro n1 (And.intro n2 (And.intro n3 (And.intro n4 (And.intro n5 (And.intro n6 (And.intro n7 (And.intro n8 (And.intro n9 (And.intro n10 n11))))))))))
  have HPC:=Lib.hid (And.intro hpos hcnt)
  have HS3:=Lib.hid s3
  clear s3 n1 n2 n3 n4 n5 n6 n7 n8 n9 n10 n11 hpos hcnt h2 h3
  go_upto_region 9 with (go_at_call 175;(with_reducible refine AT.mono ?_);rintro e w4 ⟨rfl,b4⟩;have g4:=keepB b4 g3;have q2:w4.cell? ⟨w2.heap.size,2,none⟩=some (.int .i64 0):=cellD g4 2;have f2:w4.frozen? ⟨w2.heap.size,2,none⟩=false:=frozenD g4 2;obtain⟨W5,hW5,g5,k5,s5⟩:=set_name 2 g4 (.int .i64 (pos:Int));have q3:W5.cell? ⟨w2.heap.size,3,none⟩=some (.int .i64 0):=cellD g5 3;have f3:W5.frozen? ⟨w2.heap.size,3,none⟩=false:=frozenD g5 3;obtain⟨W6,hW6,g6,k6,s6⟩:=set_name 3 g5 (.int .i64 (cnt:Int)))
  have z3:=b3.size
  have z4:=b4.size
  have b26:Below w2.heap.size w2 W6:=((b3.trans (b4.mono z3)).trans (k5.below (Nat.le_trans z3 z4) fun k hk e=>by have:k=w2.heap.size:=e;omega)).trans (k6.below (Nat.le_trans (Nat.le_trans z3 z4) k5.size) fun k hk e=>by have:k=w2.heap.size:=e;omega)
  have bD:=below_drew W6
  have b2D:=b26.trans (bD.mono b26.size)
  have hD:=HH2.out.below b2D
  have g6D:=keepB bD g6
  have S0:W6.drew.cell? ⟨X.s,13,none⟩=some (.pointer (some ⟨X.B.t,0,none⟩)):=cellD hD.sb 13
  have NX:=next_tab hD.tb
  rw[HN.out.2.2.2.2.2.1] at NX
  have htr:=hD.tr
  rw[HN.out.2.2.2.2.2.2.1] at htr
  have OP:=open_g hD.tb htr (Nat.le_trans HD.out.ovl (by decide))
  have AFD:=Lib.hid (fun w7 (b7:Below W6.drew.heap.size W6.drew w7)=>And.intro (dead_tab (hD.below b7).tb) (And.intro (keepB b7 g6D) (show w7.cell? ⟨X.s,13,none⟩=some (.pointer (some ⟨X.B.t,0,none⟩)) from cellD (hD.below b7).sb 13)))
  have HB26:=Lib.hid b2D
  have HSH:=Lib.hid (show X.s≠w2.heap.size from fun e=>by have:=hlt HH2.out.sb;omega)
  have HSL:=Lib.hid (fun w7 (b7:Below W6.drew.heap.size W6.drew w7)=>hlt (hD.below b7).sb)
  obtain⟨L,hL⟩:∃ L,D.ov.length=L:=⟨_,rfl⟩
  have HLL:=Lib.hid hL
  obtain⟨nx,hnx⟩:∃ nx,D.T.next=nx:=⟨_,rfl⟩
  rw[hnx] at NX
  have HNX:=Lib.hid hnx
  clear hL htr hD bD b2D b26 z3 z4 hnx q2 f2 q3 f3 hW5 hW6 k5 k6 s5 s6 AT z10 b3 b4 g3 g4 g5
  go_region_held3 (fun w7=>w7.cell? ⟨X.s,13,none⟩=some (.pointer (some ⟨X.B.t,0,none⟩)))
    (first | with_reducible exact S0 | with_reducible exact S2 | with_reducible exact S3 | with_reducible exact S4 | with_reducible exact S5)
    (first
      | (go_at_call 92;(with_reducible refine NX.mono ?_);rintro e w7 ⟨rfl,rfl⟩)
      | (go_at_call 124;(with_reducible refine OP.mono ?_);rintro e w7 ⟨⟨vB,rfl,oB⟩,b7⟩;obtain⟨B,dd,hvB⟩:∃ B dd,vB=.slice B L dd:=(by obtain⟨B,dd,e⟩:=oB.form;rw[HLL.out] at e;exact⟨B,dd,e⟩);subst hvB;have HOB:=Lib.hid oB;clear oB;obtain⟨DE,g7,S2⟩:=AFD.out w7 b7)
      | (go_at_call 105;(with_reducible refine DE.mono ?_);rintro e w7 ⟨rfl,rfl⟩;have r4:w7.cell? ⟨w2.heap.size,4,none⟩=some (.int .i64 0):=cellD g7 4;have e4:w7.frozen? ⟨w2.heap.size,4,none⟩=false:=frozenD g7 4;obtain⟨W8,hW8,g8,k8,s8⟩:=set_name 4 g7 (.int .i64 (nx:Int));have r5:W8.cell? ⟨w2.heap.size,5,none⟩=some (.slice none 0 0):=cellD g8 5;have e5:W8.frozen? ⟨w2.heap.size,5,none⟩=false:=frozenD g8 5;obtain⟨W9,hW9,g9,k9,s9⟩:=set_name 5 g8 (.slice B L dd);have r6:W9.cell? ⟨w2.heap.size,6,none⟩=some (.slice none 0 0):=cellD g9 6;have e6:W9.frozen? ⟨w2.heap.size,6,none⟩=false:=frozenD g9 6;obtain⟨W10,hW10,g10,k10,s10⟩:=set_name 6 g9 (.slice none 0 0);have sh:X.s≠w2.heap.size:=HSH.out;have S3:W8.cell? ⟨X.s,13,none⟩=some (.pointer (some ⟨X.B.t,0,none⟩)):=(cell_same (k8.block _ (HSL.out w7 b7) sh) 13).trans S2;have S4:W9.cell? ⟨X.s,13,none⟩=some (.pointer (some ⟨X.B.t,0,none⟩)):=(cell_same (k9.block _ (Nat.lt_of_lt_of_le (HSL.out w7 b7) k8.size) sh) 13).trans S3;have S5:W10.cell? ⟨X.s,13,none⟩=some (.pointer (some ⟨X.B.t,0,none⟩)):=(cell_same (k10.block _ (Nat.lt_of_lt_of_le (Nat.lt_of_lt_of_le (HSL.out w7 b7) k8.size) k9.size) sh) 13).trans S4)
      | fail)
  all_goals
    have zw7:=b7.size
    have b210:Below w2.heap.size w2 W10:=by
      have b27:Below w2.heap.size w2 w7:=HB26.out.trans (b7.mono HB26.out.size)
      have z:=b27.size
      exact((b27.trans (k8.below z fun k hk e=>by have:k=w2.heap.size:=e;omega)).trans (k9.below (Nat.le_trans z k8.size) fun k hk e=>by have:k=w2.heap.size:=e;omega)).trans (k10.below (Nat.le_trans (Nat.le_trans z k8.size) k9.size) fun k hk e=>by have:k=w2.heap.size:=e;omega)
    have h10:=HH2.out.below b210
    have p0:W10.cell? ⟨w2.heap.size,0,none⟩=some (.int .i64 60):=cellD g10 0
    have p1:W10.cell? ⟨w2.heap.size,1,none⟩=some (.int .i64 1):=cellD g10 1
    have p2:W10.cell? ⟨w2.heap.size,2,none⟩=some (.int .i64 (pos:Int)):=cellD g10 2
    have p3:W10.cell? ⟨w2.heap.size,3,none⟩=some (.int .i64 (cnt:Int)):=cellD g10 3
    have p4:W10.cell? ⟨w2.heap.size,4,none⟩=some (.int .i64 (nx:Int)):=cellD g10 4
    have p5:W10.cell? ⟨w2.heap.size,5,none⟩=some (.slice B L dd):=cellD g10 5
    have p6:W10.cell? ⟨w2.heap.size,6,none⟩=some (.slice none 0 0):=cellD g10 6
    obtain⟨n1,n2,n3,n4,n5,n6,n7,n8,n9,n10,n11⟩:=HN.out
    obtain⟨hpos,hcnt⟩:=HPC.out
    have hok:OkH ⟨60,1,(pos:Int),(cnt:Int),(nx:Int),D.ov,[]⟩:=by
      have hnx:=HNX.out
      have h1:=HD.out.n1
      have h2:=HD.out.n2
      exact hdG_ok (by omega) (by omega) (by omega) (by omega) (by omega) HD.out.ovl (by rw[← hnx];exact HD.out.ov)
    have rB:RdI W10 W10.heap.size B D.ov:=by
      have o7:=HOB.out
      have zb:=HB26.out.size
      have h26:w2.heap.size<W6.drew.heap.size:=by
        have:=hlt g6D
        omega
      have lo:∀ g,(Value.slice B L dd).ownBlock=some g→g≠w2.heap.size:=fun g e q=>by have:=(o7.lt e).2;omega
      have o10:=((o7.kp k8 (fun g e q=>lo g e q)).kp k9 (fun g e q=>lo g e q)).kp k10 (fun g e q=>lo g e q)
      obtain⟨A',c',e',r⟩:=o10.rdI
      injection e' with e1
      rw[e1];exact r
    have HBY:Calls Tryz.prog 176 #[.agg #[.int .i64 60,.int .i64 1,.int .i64 (pos:Int),.int .i64 (cnt:Int),.int .i64 (nx:Int),.slice B L dd,.slice none 0 0]] W10 fun e w'=>(∃ v,e=.returned (.tuple #[v,.int .i64 0])∧Own w' W10.heap.size v (headB ⟨60,1,(pos:Int),(cnt:Int),(nx:Int),D.ov,[]⟩))∧Below W10.heap.size W10 w':=headbytes_ok ⟨60,1,(pos:Int),(cnt:Int),(nx:Int),D.ov,[]⟩ hok B none L dd 0 0 W10 rB (RdI.nil _ _ _) HLL.out.symm rfl
    have hlen:(headB ⟨60,1,(pos:Int),(cnt:Int),(nx:Int),D.ov,[]⟩).length=4080:=by unfold headB;rw[List.length_append,head3_len];simp;have:=HD.out.ovl;omega
    have HLN:=Lib.hid hlen
    have HB210:=Lib.hid b210
    clear hlen hok b210 h10 n1 n2 n3 n4 n5 n6 n7 n8 n9 n10 n11 hpos hcnt r4 e4 r5 e5 r6 e6 hW8 hW9 hW10 g8 g9 g7 g10 k8 k9 k10 s8 s9 s10 S0 S2 S3 S4 S5 NX OP DE zw7 b7 sh
    go_upto_region 13 with (go_at_call 176;(with_reducible refine HBY.mono ?_);rintro e w11 ⟨⟨v,rfl,o11⟩,b11⟩;obtain⟨A11,c11,rfl,-,-,r11⟩:=o11.sl HLN.out)
  all_goals
    have b211:=HB210.out.trans (b11.mono HB210.out.size)
    have h11:=HH2.out.below b211
    obtain⟨gn,hgn⟩:∃ gn,D2.S.gen=gn:=⟨_,rfl⟩
    have hgl:gn≤1000000:=by have:=HN.out.2.2.2.2.2.2.2.1;have:=HD.out.gen;omega
    have c9:w11.cell? ⟨X.s,9,none⟩=some (.int .i64 (gn:Int)):=(cellD h11.sb 9).trans (by show some (Value.int .i64 (D2.S.gen:Int))=_;rw[hgn])
    have u1:IntKind.u64.wrap (gn:Int)=(gn:Int):=by rw[IntKind.wrap_u64];omega
    have u2:IntKind.u64.wrap ((gn:Int)+1)=(gn:Int)+1:=by rw[IntKind.wrap_u64];omega
    have SE:=seal_any (Z:=Zj D2.J) A11 4080 c11 (gn+1) _ w11 r11 HLN.out.symm (by rw[HLN.out];decide) (by rw[HLN.out];decide) (by omega) (fun g e=>h11.jo.lt g e)
    rw[show((gn+1:Nat):Int)=(gn:Int)+1 from rfl] at SE
    have HGN:=Lib.hid (And.intro hgn hgl)
    have HB211:=Lib.hid b211
    clear hgn hgl h11 b211 b11 p0 p1 p2 p3 p4 p5 p6 HBY o11 r11
    go_upto_region 16 with (go_at_call 57;(with_reducible refine SE.mono ?_);rintro e w12 ⟨⟨gb,rfl,bk,gbl⟩,b12s⟩)
  all_goals
    obtain⟨W13,hW13,-,b13⟩:=drew_name w12
    have b213:=(HB211.out.trans (b12s.mono HB211.out.size)).trans (b13.mono (Nat.le_trans HB211.out.size b12s.size))
    have h13:=HH2.out.below b213
    have c1:W13.cell? ⟨X.s,1,none⟩=some (.pointer (some ⟨X.B.d,0,none⟩)):=cellD h13.sb 1
    have c9':W13.cell? ⟨X.s,9,none⟩=some (.int .i64 (gn:Int)):=(cellD h13.sb 9).trans (by show some (Value.int .i64 (D2.S.gen:Int))=_;rw[HGN.out.1])
    have hgl:=HGN.out.2
    obtain⟨md,hmd,hm2⟩:∃ md:Nat,(gn+1) % 2=md∧md<2:=⟨_,rfl,Nat.mod_lt _ (by decide)⟩
    have v1:IntKind.i64.wrap ((gn:Int)+1)=(gn:Int)+1:=by rw[IntKind.wrap_i64];omega
    have em:((gn:Int)+1) % 2=(md:Int):=by omega
    obtain⟨n1,n2,n3,n4,n5,n6,n7,n8,n9,n10,n11⟩:=HN.out
    obtain⟨A12,eA,rb⟩:=bk.rd
    injection eA with eA
    subst eA
    obtain⟨bl,hbl⟩:∃ bl,sealed (padP (headB ⟨60,1,(pos:Int),(cnt:Int),(nx:Int),D.ov,[]⟩)) (gn+1)=bl:=⟨_,rfl⟩
    rw[hbl] at rb
    have hbll:bl.length=4096:=by rw[← hbl];exact sealed_len (padP_len (by rw[HLN.out];decide))
    have WR:=write_any h13.dk md (by rw[n11];have:=HD.out.len;omega) (some ⟨gb,0,none⟩) 4096 bl ((rb.below b13).more b13.size) hbll (by rw[n10];exact Nat.zero_le _)
    rw[n9.put_eq,← em] at WR
    have HW:=Lib.hid b213
    have HNN:=Lib.hid (And.intro n9 (And.intro n10 n11))
    have HH13:=Lib.hid h13
    have HML:=Lib.hid (And.intro hm2 hbll)
    clear em b213 h13 n1 n2 n3 n4 n5 n6 n7 n8 n9 n10 n11 rb bk hbll hbl hgl hmd hm2 b13 b12s c9 SE
    refine stillW 11 (by kernel_rfl) (by kernel_rfl) W13 hW13 ?_
    simp only[List.take_succ_cons,List.take_zero,List.drop_succ_cons,List.drop_zero]
    repeat still_step
    refine wpStill_nil ?_
    go_upto_region 19 with (go_at_call 60;(with_reducible refine WR.mono ?_);rintro e w14 ⟨rfl,⟨pv14,d14⟩,f14⟩)
  all_goals
    obtain⟨n9,n10,n11⟩:=HNN.out
    have h14:=HH13.out.fr f14 d14
    have c1:w14.cell? ⟨X.s,1,none⟩=some (.pointer (some ⟨X.B.d,0,none⟩)):=cellD h14.sb 1
    have SY:=sync_any h14.dk (by show(D2.P.ws++[(md,bl)]).length≤100;rw[n10];simp)
    have fine14:({ D2.P with ws:=D2.P.ws++[(md,bl)] }:PD).Fine:=⟨n9.ft,n9.wh⟩
    rw[fine14.sync_eq] at SY
    have HF14:=Lib.hid fine14
    have HH14:=Lib.hid h14
    have HFr14:=Lib.hid f14
    clear n9 n10 n11 h14 fine14 f14 d14 c9' v1 WR
    go_upto_region 22 with (go_at_call 61;(with_reducible refine SY.mono ?_);rintro e w15 ⟨rfl,⟨pv15,d15,-⟩,f15⟩)
    have h15:=HH14.out.fr f15 d15
    have c9:w15.cell? ⟨X.s,9,none⟩=some (.int .i64 (gn:Int)):=(cellD h15.sb 9).trans (by show some (Value.int .i64 (D2.S.gen:Int))=_;rw[HGN.out.1])
    have z9:w15.frozen? ⟨X.s,9,none⟩=false:=frozenD h15.sb 9
    have hgl:=HGN.out.2
    obtain⟨W16,hW16,g16,k16,s16⟩:=set_name 9 h15.sb (.int .i64 ((gn:Int)+1))
    have HH15:=Lib.hid h15
    clear SY c1 h15 s16
    go_wp2
    go_ret
    have h16:=HH15.out.sset (S':={ D2.S with gen:=D2.S.gen+1 }) k16 (by
      unfold SB;rw[g16]
      have e:=HGN.out.1
      rw[← e];rfl)
    have hF:=HF14.out
    refine⟨rfl,⟨D2,hFp,({ D2 with S:={ D2.S with gen:=D2.S.gen+1 },pv:=pv15,P:={ ({ D2.P with ws:=D2.P.ws++[(md,bl)] }:PD) with bs:=({ D2.P with ws:=D2.P.ws++[(md,bl)] }:PD).vis,ws:=[] } }:SD),rfl,⟨hF.ft,hF.wh⟩,rfl,⟨?_,fun h1 h2=>?_⟩,h16⟩,(((b12.cx (Kp.of HW.out)).cx (HFr14.out.kp.weaken fun _ e=>cx_fr e)).cx (f15.kp.weaken fun _ e=>cx_fr e)).cx (k16.weaken fun _ e=>.inl e)⟩
    · rw[← HNN.out.2.2]
      exact PD.vis_len _
    · have e:D2.P.bs[62]? = D.P.bs[62]?:=by
        obtain⟨J',c,a,pv2,P2,rfl,jf,c1,c2,c3,c4,c5⟩:=hFp.ex
        exact c5.p0 h1 h2
      rw[← e]
      show(({ D2.P with ws:=D2.P.ws++[(md,bl)] }:PD).vis)[62]? = _
      rw[PD.put_vis,List.getElem?_set_ne (by have:=HML.out.1;omega),vis_nil HNN.out.2.1]
end
section
variable {X:ST}{D:SD}{w w':World}
structure CkG(D D':SD):Prop where
  ex:∃ J' c a pv' P',D'={ D with J:=J',S:={ D.S with asked:=a,gen:=D.S.gen+1 },R:=D.R.clean c,pv:=pv',P:=P',b:=false }∧JFl D.J J'∧J'.used=0∧c≤D.R.cnt+1∧a≤D.S.asked+1∧P'.Fine∧P'.ws=[]∧Ln D P'
theorem checkpoint_g(h:StW X D w)(ok:DiskG D)(pg:PageG X D)(hd:HeadG D) :
    Calls Tryz.prog 20 #[.pointer (some ⟨X.s,0,none⟩)] w fun e w'=>e=.returned (.int .i64 0)∧(∃ D',CkG D D'∧StW X D' w')∧Kp (CX X w) w w':=by
  have WH:=whole_st h
  have PH:=Lib.hid (fun w1 (b1:Below w.heap.size w w1)=>puthead_g (h.below b1) ok pg hd)
  have HH:=Lib.hid h
  clear h ok pg hd
  go_enter Tryz.func20,Tryz.ntmps20
  go_upto_region 8 with (first
    | (go_at_call 65;(with_reducible refine WH.mono ?_);rintro e w1 ⟨rfl,b1⟩;have P1:=PH.out w1 b1)
    | (go_at_call 77;(with_reducible refine P1.mono ?_);rintro e w2 ⟨rfl,⟨D1,D2,hF,hD2,hf2,hws2,hl2,h2⟩,b2⟩))
  obtain⟨A,c,hwv⟩:∃ A c,D2.J.wv=.slice A 0 c:=by
    obtain⟨J',c,a,pv',P',rfl,jf,-⟩:=hF.ex
    obtain⟨A,c,e⟩:=jf.wv
    exact⟨A,c,by rw[hD2];exact e⟩
  have c10:w2.cell? ⟨X.s,10,none⟩=some (.pointer (some ⟨X.B.j,0,none⟩)):=cellD h2.sb 10
  have FR:=jfree_any h2.jb hwv
  have HH2:=Lib.hid h2
  have HD2:=Lib.hid hD2
  clear h2 hD2 hwv P1
  go_upto_region 12 with (go_at_call 78;(with_reducible refine FR.mono ?_);rintro e w3 ⟨rfl,j3,k3⟩)
  have h3:StW X { D2 with J:={ D2.J with used:=0 } } w3:=HH2.out.jour (k3.weaken fun k e=>.inl e) j3 (HH2.out.jo.kp k3 fun g e q=>by have q:g=X.B.j:=q;subst q;exact HH2.out.jo.tag HH2.out.jb (by decide) e) (fun g e=>.inl e)
  have c12:w3.cell? ⟨X.s,12,none⟩=some (.pointer (some ⟨X.B.a,0,none⟩)):=cellD h3.sb 12
  have FH:=afresh_any h3.ab
  have HH3:=Lib.hid h3
  clear h3 j3 FR c10
  go_wp2_with (go_at_call 79;(with_reducible refine FH.mono ?_);rintro e w4 ⟨⟨n,rfl⟩,a4,k4⟩)
  go_ret
  have h4:=HH3.out.fresh k4 a4
  refine⟨rfl,⟨_,?_,h4⟩,(((Kp.of b1).cx b2).cx (k3.weaken fun _ e=>.inr (.inl e))).cx (k4.weaken fun _ e=>.inr (.inr (.inr (.inl e))))⟩
  obtain⟨J',c,a,pv',P',rfl,jf,c1,c2,c3,c4,c5⟩:=hF.ex
  have e:=HD2.out
  refine⟨{ J' with used:=0 },c,a,D2.pv,D2.P,?_,⟨jf.first,jf.blocks,jf.last,jf.synced,jf.waits,jf.wv,jf.count,jf.pos,jf.own⟩,rfl,c1,c2,hf2,hws2,hl2⟩
  rw[e]
end
end Go.Proofs.YtdbkocfbhpgpkaaGreat
