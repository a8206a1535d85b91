/-
  store.set: the version written, how it is taken back kept.
-/
import Derived.Test.YtdbkocfbhpgpkaaGreatm39
set_option linter.unusedVariables false
set_option linter.unusedSimpArgs false
namespace Go.Proofs.YtdbkocfbhpgpkaaGreat
open Go Go.RowKit Go.Shelf
open Go.Ev (PgM PageOk CellsOut rowsOf rowsV rowV rowsOf_len BelowIs)
set_option maxRecDepth 100000
set_option maxHeartbeats 4000000
theorem own_sg{S:Nat→Prop}{w:World}{B n c:Nat}{A:Option Addr}{l:List UInt8}(o:Own w B (.slice A n c) l)(hS:∀ k,S k→k<B):∀ w',Kp S w w'→Rd w' w.heap.size A l:=fun w' kk=>by
  obtain⟨A',c',e,-,-,r⟩:=(o.kp kk fun g e q=>by have:=o.blk g e;have:=hS g q;omega).slice
  injection e with e1 e2 e3
  subst e1
  intro hne
  obtain⟨b,o',e4,-,hc⟩:=r hne
  exact⟨b,o',e4,o.lt b (by rw[e4];rfl),hc⟩
section
variable {X:ST}{D:SD}{w w':World}{l:List UInt8}
theorem put_st{w0:World}{x sx kc vc i:Nat}{ka va:Option Addr}{f:FR}{cs:List NC}{nc:NC}(h0:StW X D w0)(hb0:Below w0.heap.size w0 w)(hx:XB (Zj D.J) w x X.B.a sx none)(hxl:w0.heap.size≤x)(hsl:w0.heap.size≤sx)
    (hf:D.R.held=some f) (hfl:f.bytes=pgL 1 0 cs) (hok:PageOk 1 0 cs) (hv1:∀ c∈cs,1≤c.vn) (hb:D.R.base+1<D.P.bs.length) (hB:D.R.base≤100000)
    (hk:∀ w',Kp (SG X D) w w'→Rd w' w.heap.size ka nc.key) (hv:∀ w',Kp (SG X D) w w'→Rd w' w.heap.size va nc.val)
    (hj:BelowIs cs nc.key i) (hno:∀ c∈cs,c.key≠nc.key) (hok':PageOk 1 0 (cs.take i++nc::cs.drop i)) (h1:1≤nc.kn) (h2:nc.kn≤320) (h3:nc.vn≤576) (hn:cs.length≤2000) :
    Calls Tryz.prog 198 #[.pointer (some ⟨x,0,none⟩),.slice ka nc.kn kc,.slice va nc.vn vc] w fun e w'=>e=.returned (.int .i64 0)∧(∃ v,XB (Zj D.J) w' x X.B.a sx (some (v,pgL 1 0 (cs.take i++nc::cs.drop i))))∧StW X D w'∧Kp (SG X D) w0 w':=by
  have h:=h0.below hb0
  have hl:=pg_len hok
  have hp:PgIs D (pgL 1 0 cs):=.inl ⟨f,hf,hfl⟩
  have Q:=stb_qs (Zj D.J) X D (pgL 1 0 cs) x sx
  have LD:=load_any (S:=SG X D) (x:=x) hok hv1 Q (fun k e=>h.sg e) (fun w2 b2=>xget_st (h.below b2) (hx.below b2) (fun e=>by have:=h0.pb.map.lt;omega) hp hl hb hB)
  have DN:=down_any (key:=.slice ka nc.kn kc) Q LD
  refine(tput_any (p:=X.B.p) (dd:=X.B.d) (mm:=X.m) (j0:=X.B.j) (im:=X.im) (b:=D.b) (Pr:=fun R=>R=D.R) DN (fun w' q=>⟨q.1,?_⟩) hk hv (fun k e=>h.jo.lt k e) hj hno hok' h1 h2 h3 hn).mono ?_
  · obtain⟨f',e1,e2,e3⟩:=q.2
    have:D.hold f'=D:=by
      rcases e2 with e2|⟨e2,-⟩
      · exact SD.hold_self e2
      · rw[hf] at e2;cases e2
    rw[this] at e3
    exact⟨e3.ab,_,rfl,e3.pb⟩
  · rintro e w' ⟨rfl,w8,ha8,⟨R,rfl,hp8⟩,k8,⟨v,hx',-⟩,kt⟩
    have k08:Kp (SG X D) w0 w8:=(Kp.of hb0).then k8
    have k0:Kp (SG X D) w0 w':=k08.trans kt fun k hk e=>by have:k=sx:=e;omega
    have hF:=h0.pb.fr f hf
    have pb':PB (Zj D.J) w' X.B.p X.B.d X.m D.R:=hp8.kp kt (fun e=>by have:=hlt h0.pb.box;have:X.B.p=sx:=e;omega) (fun e=>by have:=h0.pb.map.lt;have:X.m=sx:=e;omega) (fun f' hf'=>by
      rw[hf] at hf';injection hf' with hf';subst hf'
      exact⟨fun e=>by have:=hF.lt;have:f.fr=sx:=e;omega,fun g e1 e2=>by have:=hF.pay.lt g e1;have:g=sx:=e2;omega⟩) (fun _ _ h=>h)
    exact⟨rfl,⟨v,hx'⟩,h0.pool k0 h0.sgT pb',k0⟩
structure DnD(D D':SD)(l:List UInt8):Prop where
  ex:∃ v' l' f',D'={ D with J:={ D.J with wv:=v',waits:=l',last:=D.J.last+1 },R:={ D.R with held:=some f' },b:=true }∧f'.bytes=l∧f'.lsn=D.J.last+1∧f'.dirty=true∧D.J.waits.length+15≤l'.length∧l'.length≤D.J.waits.length+4115∧0<l'.length∧∀ f,D.R.held=some f→f'.fr=f.fr
def SF (X:ST)(D:SD)(k:Nat):Prop:=SG X D k∨k=X.B.j∨D.J.wv.ownBlock=some k∨k=X.im
structure Room(D:SD):Prop where
  w1:D.J.waits.length+4115≤500000
  w2:need (D.J.waits.length+4115)+D.J.used≤D.J.blocks
  w3:D.J.blocks≤100000
  w4:D.J.count≤4000000000
  w5:D.J.last≤1000000
theorem StW.sf(h:StW X D w){k:Nat}(e:SF X D k):k<w.heap.size:=by
  rcases e with e|e|e|e
  · exact h.sg e
  · rw[e];exact hlt h.jb
  · exact h.jo.lt k e
  · rw[e];exact h.ab.map.lt
theorem done_st{x sx tx:Nat}{v:Value}{f:FR}(h:StW X D w)(hx:XB (Zj D.J) w x X.B.a sx (some (v,l)))(hf:D.R.held=some f)(hne:f.bytes≠l)(hsi:sx≠X.im)(hr:Room D)(htx:tx≤1000000) :
    Calls Tryz.prog 256 #[.pointer (some ⟨x,0,none⟩),.int .i64 (tx:Int)] w fun e w'=>e=.returned (.tuple #[.int .i64 ((D.J.last:Int)+1),.int .i64 0])∧(∃ D',DnD D D' l∧StW X D' w')∧Kp (fun k=>SF X D k∨k=x) w w':=by
  refine(xdone_any hx h.ab h.pb hf hne h.jb h.jo h.dk.base hsi h.d1 hr.w1 hr.w2 hr.w3 hr.w4 hr.w5 htx).mono ?_
  rintro e w' ⟨rfl,v',l',pv,j',o',q1,q2,qb,p',a',k⟩
  have hF:=h.pb.fr f hf
  obtain⟨cur,hfr,-⟩:=hF.row
  have ne:∀ {g:Nat} {y:Array Value} {u:TypeId} {z:Nat×Nat},w.heap[g]? = some (.cells y u z)→u≠364→u≠232→u≠5→u≠276→¬WD D.J f X.B.j X.im x g:=fun {g y u z} e h1 h2 h3 h4 q=>by
    rcases q with q|q|q|q|q
    · exact tag_ne e hfr h1 q
    · exact tag_ne e h.jb h2 q
    · exact h.jo.tag e h3 q
    · exact h.ab.map.ne e q.symm
    · exact tag_ne e hx.box h4 q
  have nm:∀ {g:Nat} {m:List (Int×Value)},MapI w g m→X.im≠g→¬WD D.J f X.B.j X.im x g:=fun {g m} e h1 q=>by
    rcases q with q|q|q|q|q
    · exact e.ne hfr q
    · exact e.ne h.jb q
    · exact h.jo.tagm e q
    · exact h1 q.symm
    · exact e.ne hx.box q
  have hsz:=k.size
  refine⟨rfl,⟨_,⟨v',l',f.turn pv l (D.J.last+1) true,rfl,rfl,rfl,rfl,q1,q2,by omega,fun f2 e=>by rw[hf] at e;injection e with e;rw[← e];rfl⟩,?_⟩,k.weaken fun g e=>?_⟩
  · refine⟨k.keep h.sb (ne h.sb (by decide) (by decide) (by decide) (by decide)),j',o',p',a',h.dk.other k (fun g o e q=>?_) (fun g hg e=>?_) (fun g e=>o'.lt g e),k.keep h.tb (ne h.tb (by decide) (by decide) (by decide) (by decide)),h.tw,h.tm.kp k (nm h.tm h.d4),h.tr.kp k (fun g e q=>?_),h.wk.kp k (nm h.wk h.d5),h.d1,h.d2,h.d3,h.d4,h.d5,h.d6⟩
    · rcases e with e|e|e|e|e
      · rw[e,hfr] at q;injection q with q;subst q
        exact⟨NoD.cells (by decide) (by decide) (by decide),.inr fun y e=>by injection e with _ e;exact absurd e (by decide)⟩
      · rw[e] at q;rw[show w.heap[X.B.j]? = _ from h.jb] at q;injection q with q;subst q
        exact⟨NoD.cells (by decide) (by decide) (by decide),.inr fun y e=>by injection e with _ e;exact absurd e (by decide)⟩
      · refine⟨?_,.inl e⟩
        rcases h.jo.2 with⟨e1,-⟩|⟨g',cap,cur',e1,-,hg',-⟩
        · rw[e1] at e;cases e
        · rw[e1] at e;injection e with e;dsimp only at e;subst e
          rw[hg'] at q;injection q with q;subst q
          exact NoD.cells (by decide) (by decide) (by decide)
      · subst e
        obtain⟨E,c,hE,-⟩:=h.ab.map
        rw[hE] at q;injection q with q;subst q
        exact⟨NoD.map _ _,.inr fun x e=>nomatch e⟩
      · rw[e,hx.box] at q;injection q with q;subst q
        exact⟨NoD.cells (by decide) (by decide) (by decide),.inr fun y e=>by injection e with _ e;exact absurd e (by decide)⟩
    · rcases qb g e with e|e
      · exact e
      · omega
    · rcases q with q|q|q|q|q
      · exact h.tr.ne hfr (by decide) (q▸e)
      · exact h.tr.ne h.jb (by decide) (q▸e)
      · rcases h.jo.2 with⟨e1,-⟩|⟨g',cap,cur',e1,-,hg',-⟩
        · rw[e1] at q;cases q
        · rw[e1] at q;injection q with q;dsimp only at q;subst q
          exact h.tr.ne hg' (by decide) e
      · exact h.tr.nem h.ab.map (q▸e)
      · exact h.tr.ne hx.box (by decide) (q▸e)
  · rcases e with e|e|e|e|e
    · exact .inl (.inl (.inr (.inr ⟨f,hf,e⟩)))
    · exact .inl (.inr (.inl e))
    · exact .inl (.inr (.inr (.inl e)))
    · exact .inl (.inr (.inr (.inr e)))
    · exact .inr e
end
section
variable {X:ST}{D:SD}{w w':World}{l:List UInt8}
theorem finish_st{x sx tx:Nat}{v:Value}{f:FR}(h:StW X D w)(hx:XB (Zj D.J) w x X.B.a sx (some (v,l)))(hf:D.R.held=some f)(hne:f.bytes≠l)(hsi:sx≠X.im)(hr:Room D)(htx:tx≤1000000)(ha:D.S.asked≤1000000)(hc:D.R.cnt≤1000000) :
    Calls Tryz.prog 200 #[.pointer (some ⟨X.s,0,none⟩),.pointer (some ⟨x,0,none⟩),.int .i64 (tx:Int)] w fun e w'=>e=.returned (.int .i64 0)∧(∃ D',DnD D D' l∧StW X D' w')∧Kp (fun k=>SF X D k∨k=x) w w':=by
  have c15:w.cell? ⟨X.s,15,none⟩=some (.int .i64 (D.S.asked:Int)):=cellD h.sb 15
  have c11:w.cell? ⟨X.s,11,none⟩=some (.pointer (some ⟨X.B.p,0,none⟩)):=cellD h.sb 11
  have PC:=fun n=>pcount_any (h.below (drewN_below w _ n)).pb
  have DN:=fun n=>done_st (h.below (drewN_below w _ n)) (hx.below (drewN_below w _ n)) hf hne hsi hr htx
  have HDN:=Lib.hid DN
  have hw:IntKind.i64.wrap ((D.S.asked:Int)-(D.R.cnt:Int))=(D.S.asked:Int)-(D.R.cnt:Int):=by rw[IntKind.wrap_i64];omega
  clear hx hne hsi hr htx ha hc DN
  go_enter Tryz.func200,Tryz.ntmps200
  go_upto_region 1 with fail
  go_quiet (first
      | (go_at_call 255;refine Calls.quiet_of_same (PC _)))
  have b1:=drewN_below w w.heap.size nq
  have DN:=HDN.out nq
  obtain⟨W1,hW1⟩:∃ W1,w.drewN nq=W1:=⟨_,rfl⟩
  rw[hW1] at b1 DN ⊢
  clear PC hW1
  go_upto_region 3 with (go_at_call 256;(with_reducible refine DN.mono ?_);rintro e w3 ⟨rfl,hD,k3⟩)
  have HB:=Lib.hid ((Kp.of (S:=fun k=>SF X D k∨k=x) b1).then k3)
  clear b1 DN HDN c15 c11
  go_quiet (fail)
  go_wp2
  go_ret
  exact⟨rfl,⟨_,hD.choose_spec.1,hD.choose_spec.2.below (drewN_below _ _ _)⟩,HB.out.then (Kp.of (drewN_below _ _ _))⟩
theorem write_st{kc vc i tx BB:Nat}{ka va:Option Addr}{f:FR}{cs:List NC}{nc:NC}(h:StW X D w)
    (hf:D.R.held=some f) (hfl:f.bytes=pgL 1 0 cs) (hok:PageOk 1 0 cs) (hv1:∀ c∈cs,1≤c.vn) (hb:D.R.base+1<D.P.bs.length) (hB:D.R.base≤100000)
    (hBB:∀ k,SF X D k→k<BB) (hk:Own w BB (.slice ka nc.kn kc) nc.key) (hv:Own w BB (.slice va nc.vn vc) nc.val)
    (hj:BelowIs cs nc.key i) (hno:∀ c∈cs,c.key≠nc.key) (hok':PageOk 1 0 (cs.take i++nc::cs.drop i)) (hne:pgL 1 0 cs≠pgL 1 0 (cs.take i++nc::cs.drop i)) (h1:1≤nc.kn) (h2:nc.kn≤320) (hv2:1≤nc.vn) (h3:nc.vn≤576) (hn:cs.length≤2000)
    (hr:Room D) (htx:tx≤1000000) (ha:D.S.asked≤1000000) (hc:D.R.cnt≤1000000) :
    Calls Tryz.prog 104 #[.pointer (some ⟨X.s,0,none⟩),.int .i64 (tx:Int),.slice ka nc.kn kc,.slice va nc.vn vc] w fun e w'=>e=.returned (.int .i64 0)∧(∃ D',DnD D D' (pgL 1 0 (cs.take i++nc::cs.drop i))∧StW X D' w')∧Kp (SF X D) w w':=by
  have BG:=abegin_any (Z:=Zj D.J) h.ab
  have c12:w.cell? ⟨X.s,12,none⟩=some (.pointer (some ⟨X.B.a,0,none⟩)):=cellD h.sb 12
  have PT:∀ w1 x sx,Below w.heap.size w w1→XB (Zj D.J) w1 x X.B.a sx none→w.heap.size≤x→w.heap.size≤sx→_:=fun w1 x sx b1 hx hxl hsl=>
    put_st (kc:=kc) (vc:=vc) (i:=i) (ka:=ka) (va:=va) h b1 hx hxl hsl hf hfl hok hv1 hb hB (own_sg (hk.belowS b1) fun k e=>hBB k (.inl e)) (own_sg (hv.belowS b1) fun k e=>hBB k (.inl e)) hj hno hok' h1 h2 h3 hn
  have FN:∀ (w2:World) x sx v,StW X D w2→XB (Zj D.J) w2 x X.B.a sx (some (v,pgL 1 0 (cs.take i++nc::cs.drop i)))→w.heap.size≤sx→_:=fun w2 x sx v h2 hx hsl=>
    finish_st h2 hx hf (by rw[hfl];exact hne) (fun e=>by have:=h.ab.map.lt;omega) hr htx ha hc
  have HP:=Lib.hid PT
  have HF:=Lib.hid FN
  have f1:(0:Int)<(nc.vn:Int):=by omega
  have f2:0<nc.vn:=hv2
  clear hf hfl hok hv1 hb hB hBB hk hv hj hno hok' hne h1 h2 hv2 h3 hn hr htx ha hc PT FN
  go_enter Tryz.func104,Tryz.ntmps104
  go_wp2_with (first
    | (go_at_call 87;(with_reducible refine BG.mono ?_);rintro e w1 ⟨⟨x,sx,rfl,hx1,hxl,hsl⟩,b1⟩;have P1:=HP.out w1 x sx b1 hx1 hxl hsl)
    | (go_at_call 198;(with_reducible refine P1.mono ?_);rintro e w2 ⟨rfl,⟨v,hx2⟩,h2,k2⟩;have F2:=HF.out w2 x sx v h2 hx2 hsl)
    | (go_at_call 200;(with_reducible refine F2.mono ?_);rintro e w3 ⟨rfl,hD,k3⟩))
  go_ret
  refine⟨rfl,hD,(k2.weaken fun k e=>.inl e).trans k3 fun k hk e=>?_⟩
  rcases e with e|e
  · exact e
  · omega
end
section
variable {X:ST}{D:SD}{w w':World}{l:List UInt8}
theorem StW.work{wm':List (Int×Value)}(h:StW X D w)(k:Kp (·=X.B.wk) w w')(m:MapI w' X.B.wk wm'):StW X { D with wm:=wm' } w':=by
  have ne:∀ {g:Nat} {x:Array Value} {u:TypeId} {z:Nat×Nat},w.heap[g]? = some (.cells x u z)→¬g=X.B.wk:=fun e q=>h.wk.ne e q.symm
  refine⟨k.keep h.sb (ne h.sb),k.keep h.jb (ne h.jb),h.jo.kp k (fun g e q=>h.jo.tagm h.wk (q▸e)),h.pb.kp k (ne h.pb.box) h.d3 (fun f hf=>?_) (fun _ _ h=>h),h.ab.kp k (ne h.ab.box) h.d5,h.dk.apart k (fun g o e q=>?_),k.keep h.tb (ne h.tb),h.tw,h.tm.kp k h.d6,h.tr.kp k (fun g e q=>h.tr.nem h.wk (q▸e)),m,h.d1,h.d2,h.d3,h.d4,h.d5,h.d6⟩
  · obtain⟨cur,e,-⟩:=(h.pb.fr f hf).row
    exact⟨ne e,fun g e1 e2=>(h.pb.fr f hf).pay.tagm h.wk (e2▸e1)⟩
  · have e:g=X.B.wk:=e
    subst e
    obtain⟨E,c,hE,-⟩:=h.wk
    rw[hE] at q;injection q with q;subst q
    exact⟨NoD.map _ _,.inr fun x e=>nomatch e⟩
theorem infoFn:(Tryz.prog.info? 36).map (fun i=>(i.zero,i.size,i.bytes))=some (some .nilFunc,1,8):=by kernel_rfl
theorem zeroFn(w:World):(zeroValue 133).run Tryz.prog w=.ok (.slice none 0 0) w:=by kernel_rfl
theorem one_new(w:World)(v:Value)(t:TypeId):∀ j u,[v][j]? = some u→(w.alloc (.cells #[v] t)).drew.cell? ((⟨w.heap.size,0,none⟩:Addr).add j)=some u:=fun j u hu=>by
  have:((⟨w.heap.size,0,none⟩:Addr).add j)=⟨w.heap.size,j,none⟩:=by unfold Addr.add;split<;>simp_all
  rw[this]
  refine(cellD (w:=(w.alloc (.cells #[v] t)).drew) (heap_alloc_new w _) j).trans ?_
  simpa using hu
theorem one_fn{fn:Fn}{a b:Array Value}:∀ v,v=Value.func fn a b→∀ u∈[v],u.oneCell'=true:=fun v h u hu=>by
  simp at hu;subst hu;subst h;rfl
theorem below_grown{w w4:World}{o:Obj}(h:(w.alloc o).drew.grownBy w4 (Value.slice none 0 0).ownBlock):Below w.drew.heap.size w.drew w4:=
  Below.trans (show Below w.drew.heap.size w.drew (w.drew.alloc o) from(Below.refl _ _).alloc (Nat.le_refl _) o) ((Kp.grow h).below (by show w.heap.size≤(w.alloc o).heap.size;rw[World.size_alloc];exact Nat.le_succ _) fun k hk e=>by cases e)
theorem set_st{kn kc vc sc i tx BB n:Nat}{kA va sA:Option Addr}{k:List UInt8}{f:FR}{cs:List NC}{nc:NC}{vs:List VR}(h:StW X D w)(hwm:D.wm=[])
    (hr:Rd w w.heap.size kA k) (hkn:kn=k.length) (hk1:1≤k.length) (hk2:k.length≤128)
    (hrow:w.ownsRow n 158 4 (.slice sA vs.length sc) vs.length (vX vs)) (hvs:∀ x∈vs,x.by_≠tx) (hvl:vs.length≤60)
    (hf:D.R.held=some f) (hfl:f.bytes=pgL 1 0 cs) (hok:PageOk 1 0 cs) (hv1:∀ c∈cs,1≤c.vn) (hb:D.R.base+1<D.P.bs.length) (hB:D.R.base≤100000)
    (hBB:∀ k,SF X D k→k<BB) (hBw:BB≤w.heap.size) (hkey:nc.key=vkey k tx) (hv:Own w BB (.slice va nc.vn vc) nc.val)
    (hj:BelowIs cs nc.key i) (hno:∀ c∈cs,c.key≠nc.key) (hok':PageOk 1 0 (cs.take i++nc::cs.drop i)) (hne:pgL 1 0 cs≠pgL 1 0 (cs.take i++nc::cs.drop i)) (h1:1≤nc.kn) (h2:nc.kn≤320) (hv2:1≤nc.vn) (h3:nc.vn≤576) (hn:cs.length≤2000)
    (hrm:Room D) (htx:tx≤1000000) (ha:D.S.asked≤1000000) (hc:D.R.cnt≤1000000) :
    Calls Tryz.prog 70 #[.pointer (some ⟨X.s,0,none⟩),.int .i64 (tx:Int),.slice kA kn kc,.slice va nc.vn vc,.slice sA vs.length sc] w fun e w'=>e=.returned (.int .i64 0)∧(∃ D' v,DnD D D' (pgL 1 0 (cs.take i++nc::cs.drop i))∧StW X { D' with wm:=[((tx:Int),v)] } w')∧Kp (fun k=>SF X D k∨k=X.B.wk) w w':=by
  have hmf:∀ (fn:Fn) (first cap:Array Value) (w:World),(Instr.makeFunc fn first cap).run Tryz.prog w=.ok (.func fn first cap) w:=fun _ _ _ _=>rfl
  obtain⟨W1,hW1,g1,b1,s1⟩:=box_alloc w (.cells #[.pointer (some ⟨X.s,0,none⟩)] 24)
  obtain⟨W2,hW2,g2,b2,s2⟩:=box_alloc W1 (.cells #[.int .i64 (tx:Int)] 3)
  have b12:=b1.trans (b2.mono b1.size)
  have g12:=keepB b2 g1
  have y1:W2.cell? ⟨w.heap.size,0,none⟩=some (.pointer (some ⟨X.s,0,none⟩)):=cellD g12 0
  have y2:W2.cell? ⟨W1.heap.size,0,none⟩=some (.int .i64 (tx:Int)):=cellD g2 0
  have JN:=join_any kA kn kc tx k W2 ((hr.below b12).more b12.size) hkn hk1 hk2 (by omega)
  have WR:∀ w5,Below w.heap.size w w5→∀ {ka:Option Addr} {kc:Nat},Own w5 BB (.slice ka nc.kn kc) nc.key→_:=fun w5 b5 ka kc hk=>
    write_st (h.below b5) hf hfl hok hv1 hb hB hBB hk (hv.belowS b5) hj hno hok' hne h1 h2 hv2 h3 hn hrm htx ha hc
  have HW:=Lib.hid @WR
  have HH:=Lib.hid h
  have HWM:=Lib.hid hwm
  have HBB:=Lib.hid hBB
  have HBW:=Lib.hid hBw
  have HKY:=Lib.hid hkey
  have HRW:=Lib.hid hrow
  have HVS:=Lib.hid hvs
  have HB12:=Lib.hid b12
  have HS1:=Lib.hid s1
  have HS2:=Lib.hid s2
  have hkl:nc.kn=(vkey k tx).length:=by rw[← hkey];simp[NC.key,bl]
  have HKL:=Lib.hid hkl
  obtain⟨L,hL⟩:∃ L,vs.length=L:=⟨_,rfl⟩
  have HL:=Lib.hid hL
  have hL60:L≤60:=by omega
  rw[hL]
  clear h hwm hr hkn hk1 hk2 hrow hvs hvl hf hfl hok hv1 hb hB hBB hBw hkey hv hj hno hok' hne h1 h2 hv2 h3 hn hrm htx ha hc WR b12 s1 s2 hkl hL
  go_enter Tryz.func70,Tryz.ntmps70
  go_upto_region 5 with (go_at_call 165;(with_reducible refine JN.mono ?_);rintro e w3 ⟨⟨u,rfl,o3⟩,b3⟩;obtain⟨ka,kc3,rfl,-⟩:=o3.sl HKL.out.symm)
  obtain⟨W4,hW4,g4,b4,s4⟩:=box_alloc w3 (.cells #[.slice ka nc.kn kc3] 33)
  obtain⟨W5,hW5,g5,b5,s5⟩:=box_alloc W4 (.cells #[.slice none 0 0] 33)
  rw[← s4,hW4,hW5]
  have z1:=HS1.out
  have z2:=HS2.out
  have z3:=b3.size
  have b25:=(b3.trans (b4.mono z3)).trans (b5.mono (Nat.le_trans z3 b4.size))
  have o5:=((o3.belowS b4).belowS b5).down (Nat.le_trans HBW.out HB12.out.size)
  have g15:W5.heap[w.heap.size]? = some (.cells #[.pointer (some ⟨X.s,0,none⟩)] 24 (0,0)):=keepB b25 g12
  have g25:=keepB b25 g2
  have g45:=keepB b5 g4
  have HO5:=Lib.hid o5
  have HZ:=Lib.hid (And.intro z1 (And.intro z2 (And.intro z3 (And.intro s4 s5))))
  have HB05:=Lib.hid (HB12.out.trans (b25.mono HB12.out.size))
  have hform:=row_ver HRW.out
  have HF:=Lib.hid hform
  clear o3 o5 s4 s5 z1 z2 z3 hW1 hW2 hW4 hW5 y1 y2 g1 g2 g12 b1 b2 b3 b4 b5 b25 g4 JN hform
  go_wp2
  go_loopw [27] (fun kq wr=>∃ q:Nat,q≤L∧kq=.int .i64 (q:Nat)∧Below W5.heap.size W5 wr) (fun kq _=>L-(RowKit.intOf kq).toNat)
  case atStart=>exact⟨0,Nat.zero_le _,rfl,Below.refl _ _⟩
  case round=>
    obtain⟨q,hq,rfl,b6⟩:=hrel
    by_cases hlq:q<L
    · have hqv:q<vs.length:=by rw[HL.out];exact hlq
      rcases HF.out with⟨-,e⟩|⟨g,c',eg,hg,-,hc⟩
      · subst e;simp at hqv
      injection eg with eg e2 e3
      subst eg e3
      obtain⟨⟨aA,an,ac,vA,vn',vc',by_,sA',sn,scc⟩,hX⟩:∃ X,vs[q]=X:=⟨_,rfl⟩
      have hgq:=HVS.out vs[q] (List.getElem_mem hqv)
      rw[hX] at hgq
      have b06:=HB05.out.trans (b6.mono HB05.out.size)
      have c0:wr.cell? ⟨g,q * 4,none⟩=some (.slice aA an ac):=(b06.cell (p:=⟨g,q * 4,none⟩) hg).trans (by have:=hc q hqv 0 (by decide);rw[hX] at this;exact this)
      have c1:wr.cell? ⟨g,q * 4+1,none⟩=some (.slice vA vn' vc'):=(b06.cell (p:=⟨g,q * 4+1,none⟩) hg).trans (by have:=hc q hqv 1 (by decide);rw[hX] at this;exact this)
      have c2:wr.cell? ⟨g,q * 4+2,none⟩=some (.int .i64 (by_:Int)):=(b06.cell (p:=⟨g,q * 4+2,none⟩) hg).trans (by have:=hc q hqv 2 (by decide);rw[hX] at this;exact this)
      have c3:wr.cell? ⟨g,q * 4+3,none⟩=some (.slice sA' sn scc):=(b06.cell (p:=⟨g,q * 4+3,none⟩) hg).trans (by have:=hc q hqv 3 (by decide);rw[hX] at this;exact this)
      have hgq':by_≠tx:=hgq
      have f1:((by_:Int)==(tx:Int))=false:=by simp;omega
      have f2:¬((by_:Int)=(tx:Int)):=by omega
      obtain⟨W7,hW7,g7,b7,s7⟩:=box_alloc wr (.cells #[.slice aA an ac,.slice vA vn' vc',.int .i64 (by_:Int),.slice sA' sn scc] 158)
      have x2:W7.cell? ⟨wr.heap.size,2,none⟩=some (.int .i64 (by_:Int)):=cellD g7 2
      have x6:W7.cell? ⟨W1.heap.size,0,none⟩=some (.int .i64 (tx:Int)):=cellD (keepB b7 (keepB b6 g25)) 0
      have b67:=b6.trans (b7.mono b6.size)
      clear s7 hX hgq hgq' hc e2 hg hqv b06
      go_wp2
      refine⟨⟨q+1,by omega,rfl,b67⟩,?_⟩
      simp[RowKit.intOf];omega
    · obtain rfl:q=L:=by omega
      clear hlq hq
      have b06:=HB05.out.trans (b6.mono HB05.out.size)
      have WC:=HW.out wr b06 (HKY.out▸(HO5.out.belowS b6))
      have r1:=keepB b6 g15
      have r2:=keepB b6 g25
      have r4:=keepB b6 g45
      have r5:=keepB b6 g5
      have x5:wr.cell? ⟨w.heap.size,0,none⟩=some (.pointer (some ⟨X.s,0,none⟩)):=cellD r1 0
      have x6:wr.cell? ⟨W1.heap.size,0,none⟩=some (.int .i64 (tx:Int)):=cellD r2 0
      have x11:wr.cell? ⟨w3.heap.size,0,none⟩=some (.slice ka nc.kn kc3):=cellD r4 0
      clear b6 HW g15 g25 g45 g5
      go_upto_region 14 with (go_at_call 104;(with_reducible refine WC.mono ?_);rintro e w7 ⟨rfl,⟨D',hD,h7⟩,k7⟩)
      obtain⟨z1,z2,z3,z4,z5⟩:=HZ.out
      have zb:=HBW.out
      have q1:=k7.keep r1 (fun e=>by have:=HBB.out _ e;omega)
      have q2:=k7.keep r2 (fun e=>by have:=HBB.out _ e;omega)
      have q4:=k7.keep r4 (fun e=>by have:=HBB.out _ e;omega)
      have q5:=k7.keep r5 (fun e=>by have:=HBB.out _ e;omega)
      have b8:=below_drew w7
      have h8:=h7.below b8
      have hwm:D'.wm=[]:=by
        obtain⟨-,-,-,rfl,-⟩:=hD.ex
        exact HWM.out
      have u1:=keepB b8 q1
      have u2:=keepB b8 q2
      have y5:w7.drew.cell? ⟨w.heap.size,0,none⟩=some (.pointer (some ⟨X.s,0,none⟩)):=cellD u1 0
      have y6:w7.drew.cell? ⟨W1.heap.size,0,none⟩=some (.int .i64 (tx:Int)):=cellD u2 0
      have y14:w7.drew.cell? ⟨X.s,14,none⟩=some (.map (some X.B.wk)):=cellD h8.sb 14
      have hm8:MapI w7.drew X.B.wk []:=hwm▸h8.wk
      have LK:(Instr.lookup 123 (.map (some X.B.wk)) (.int .i64 (tx:Int)) false).run Tryz.prog w7.drew=.ok (.slice none 0 0) w7.drew:=run_lookup_int (P:=Tryz.prog) Tryz.underlying123 Tryz.underlying3 hm8 (tx:Int) (zeroFn _)
      have LK1:∀ o,(Instr.lookup 123 (.map (some X.B.wk)) (.int .i64 (tx:Int)) false).run Tryz.prog (w7.alloc o).drew=.ok (.slice none 0 0) (w7.alloc o).drew:=fun o=>run_lookup_int (P:=Tryz.prog) Tryz.underlying123 Tryz.underlying3 (hm8.below (w':=(w7.alloc o).drew) ((show Below w7.drew.heap.size w7.drew (w7.drew.alloc o) from(Below.refl _ _).alloc (Nat.le_refl _) o))) (tx:Int) (zeroFn _)
      obtain⟨i0,hi,hz0,hs0,hb0⟩:=info_parts infoFn
      have KEEP:∀ W,Below w7.drew.heap.size w7.drew W→(W.cell? ⟨w.heap.size,0,none⟩=some (.pointer (some ⟨X.s,0,none⟩))∧W.cell? ⟨W1.heap.size,0,none⟩=some (.int .i64 (tx:Int))∧W.cell? ⟨X.s,14,none⟩=some (.map (some X.B.wk))):=fun W b=>⟨cellD (keepB b u1) 0,cellD (keepB b u2) 0,cellD (keepB b h8.sb) 14⟩
      have HK:=Lib.hid KEEP
      have HH8:=Lib.hid h8
      have HM8:=Lib.hid hm8
      have HQ5:=Lib.hid q5
      have S0:=And.intro y5 (And.intro y6 y14)
      have HNE:=Lib.hid (And.intro (fun e=>hm8.ne u1 e.symm) (And.intro (fun e=>hm8.ne u2 e.symm) (fun e=>hm8.ne h8.sb e.symm)):w.heap.size≠X.B.wk∧W1.heap.size≠X.B.wk∧X.s≠X.B.wk)
      have S1:∀ o,((w7.alloc o).drew.cell? ⟨w.heap.size,0,none⟩=some (.pointer (some ⟨X.s,0,none⟩))∧(w7.alloc o).drew.cell? ⟨W1.heap.size,0,none⟩=some (.int .i64 (tx:Int))∧(w7.alloc o).drew.cell? ⟨X.s,14,none⟩=some (.map (some X.B.wk))):=fun o=>KEEP (w7.drew.alloc o) ((Below.refl _ _).alloc (Nat.le_refl _) o)
      have FW:=Lib.hid (fun(w4:World) (hb4:Below w7.drew.heap.size w7.drew w4) (v:Value)=>run_update_int (P:=Tryz.prog) Tryz.underlying123 Tryz.underlying3 (hm8.below hb4) (tx:Int) v)
      clear x5 x6 x11 WC h7 q1 q2 q4 q5 r1 r2 r4 r5 z1 z2 z3 z4 z5 h8 hm8 KEEP u1 u2
      go_region_held3 (fun W=>W.cell? ⟨w.heap.size,0,none⟩=some (.pointer (some ⟨X.s,0,none⟩))∧W.cell? ⟨W1.heap.size,0,none⟩=some (.int .i64 (tx:Int))∧W.cell? ⟨X.s,14,none⟩=some (.map (some X.B.wk)))
        (first | with_reducible exact S0 | with_reducible exact S1 _ | with_reducible exact S2 | with_reducible exact S3 | go_keep)
        (first
          | (refine step_append_lies _ rfl (.tmp 56) (.tmp 58) 133 rfl 0 36 i0 _ 1 8 Tryz.underlying133 hi hz0 hs0 hb0 rfl (by decide) (.slice none 0 0) 0 [] rfl (World.ownsRow_nil _ _ _ _) ⟨w7.heap.size, 0, none⟩ 1 1 [.func (.func 166) #[] #[.pointer (some ⟨w.heap.size, 0, none⟩), .pointer (some ⟨W1.heap.size, 0, none⟩), .pointer (some ⟨w3.heap.size, 0, none⟩), .pointer (some ⟨W4.heap.size, 0, none⟩)]] rfl rfl ?_ ?_ (by decide) (by decide) (by decide) (Nat.zero_le _) _ rfl ?_
             · exact one_new w7 _ _
             · exact one_fn _ rfl
             intro g4 c4 w4 own4 grow4 at4 lt4
             have hb4:Below w7.drew.heap.size w7.drew w4:=below_grown grow4
             have S2:=HK.out w4 hb4
             obtain⟨W5',hU,m5,o5,s5,os5,t5,u5⟩:=FW.out w4 hb4 (.slice (some ⟨g4,0,none⟩) 1 c4)
             have S3:(W5'.cell? ⟨w.heap.size,0,none⟩=some (.pointer (some ⟨X.s,0,none⟩))∧W5'.cell? ⟨W1.heap.size,0,none⟩=some (.int .i64 (tx:Int))∧W5'.cell? ⟨X.s,14,none⟩=some (.map (some X.B.wk))):=⟨(cell_same (o5 _ HNE.out.1) 0).trans S2.1,(cell_same (o5 _ HNE.out.2.1) 0).trans S2.2.1,(cell_same (o5 _ HNE.out.2.2) 14).trans S2.2.2⟩)
          | fail)
      all_goals
        go_wp2
        go_ret
        have kk:Kp (·=X.B.wk) w4 W5':=⟨os5,t5,u5,Nat.le_of_eq s5.symm,fun k _ hk=>o5 k hk⟩
        refine⟨rfl,⟨D',_,hD,(HH8.out.below hb4).work kk m5⟩,?_⟩
        have k07:Kp (fun k=>SF X D k∨k=X.B.wk) w w7:=(Kp.of b06).then (k7.weaken fun k e=>.inl e)
        exact(k07.then (Kp.of ((below_drew w7).trans hb4))).then (kk.weaken fun k e=>.inr e)
end
end Go.Proofs.YtdbkocfbhpgpkaaGreat
