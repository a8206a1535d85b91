/-
  store.Checkpoint.
-/
import Derived.Test.YtdbkocfbhpgpkaaGreatb26
import Derived.Test.YtdbkocfbhpgpkaaGreatb27
set_option linter.unusedVariables false
set_option linter.unusedSimpArgs false
namespace Go.Proofs.YtdbkocfbhpgpkaaGreat
open Go Go.RowKit Go.Shelf
set_option maxRecDepth 100000
set_option maxHeartbeats 4000000
structure Hard(t:TypeId):Prop where
  t1:t≠251
  t2:t≠235
  t3:t≠3
section
variable {X:ST}{D:SD}{w w':World}
theorem StW.core{Sx:Nat→Prop}{S':SR}{J':JR}{R':PR}{P':PD}{pv':Value}(h:StW X D w)(k:Kp Sx w w')(hS:∀ g,Sx g→g<w.heap.size→∃ cs t,w.heap[g]? = some (.cells cs t (0,0))∧Hard t)
    (sb:SB w' X.s X.B S') (jb:JB w' X.B.j X.B.d J') (jo:Own w' X.n0 J'.wv J'.waits) (pb:PB (Zj J') w' X.B.p X.B.d X.m R') (dk:Dk (Zj J') w' X.n0 X.B.d X.db pv' P') (hR:∀ f,R'.held=some f→X.n0≤f.fr):StW X { D with S:=S',J:=J',R:=R',P:=P',pv:=pv' } w':=by
  have nm:∀ {g:Nat} {m:List (Int×Value)},MapI w g m→¬Sx g:=fun {g m} e q=>by
    obtain⟨cs,t,hg,-⟩:=hS g q e.lt
    exact e.ne hg rfl
  refine⟨sb,jb,jo,pb,h.ab.kp k (fun q=>?_) (nm h.ab.map),dk,k.keep h.tb (fun q=>?_),h.tw,h.tm.kp k (nm h.tm),h.tr.kp k (fun g e q=>?_),h.wk.kp k (nm h.wk),h.d1,h.d2,h.d3,h.d4,h.d5,h.d6,hR⟩
  · obtain⟨cs,t,hg,ht⟩:=hS _ q (hlt h.ab.box)
    exact tag_ne h.ab.box hg (fun e=>ht.t1 e.symm) rfl
  · obtain⟨cs,t,hg,ht⟩:=hS _ q (hlt h.tb)
    exact tag_ne h.tb hg (fun e=>ht.t2 e.symm) rfl
  · obtain⟨cs,t,hg,ht⟩:=hS _ q (h.tr.lt e).1
    exact h.tr.ne hg ht.t3 e
def DF (X:ST)(w:World)(k:Nat):Prop:=k=X.B.j∨k=X.B.d∨k=X.db∨(X.n0≤k∧∃ x,w.heap[k]? = some (Obj.cells x 203 (0,0)))
theorem StW.dfT(h:StW X D w):∀ g,DF X w g→g<w.heap.size→∃ cs t,w.heap[g]? = some (.cells cs t (0,0))∧(t=232∨t=147∨t=33∨t=203):=fun g e _=>by
  rcases e with e|e|e|⟨-,x,e⟩
  · exact⟨_,_,by rw[e];exact h.jb,.inl rfl⟩
  · exact⟨_,_,by rw[e];exact h.dk.box,.inr (.inl rfl)⟩
  · obtain⟨cs,hc,-⟩:=h.dk.row
    exact⟨_,_,by rw[e];exact hc,.inr (.inr (.inl rfl))⟩
  · exact⟨_,_,e,.inr (.inr (.inr rfl))⟩
structure Ln(D:SD)(P':PD):Prop where
  len:P'.bs.length=D.P.bs.length
  p0:D.J.first+D.J.blocks≤62→D.R.base=62→P'.bs[62]? = D.P.bs[62]?
theorem vis_nil{P:PD}(h:P.ws=[]):P.vis=P.bs:=by unfold PD.vis;rw[h];rfl
structure FlD(D D':SD):Prop where
  ex:∃ pv' P',D'={ D with J:=D.J.flushed (need D.J.waits.length),pv:=pv',P:=P' }∧P'.Fine∧P'.ws=[]∧Ln D P'
structure DiskOk(D:SD):Prop where
  fine:D.P.Fine
  ws:D.P.ws=[]
  first:D.J.first+D.J.blocks≤D.P.bs.length
  len:D.P.bs.length≤10000
  pos:D.J.pos≤90000
  cnt:D.J.count≤4000000000
  bl:0<D.J.blocks
  used:D.J.used≤90000
  wl:D.J.waits.length≤250000
  w0:0<D.J.waits.length
theorem lflush_st(h:StW X D w)(ok:DiskOk D):Calls Tryz.prog 76 #[.pointer (some ⟨X.B.j,0,none⟩)] w fun e w'=>e=.returned (.int .i64 0)∧(∃ D',FlD D D'∧StW X D' w')∧Kp (DF X w) w w':=by
  rcases h.jo.form with⟨-,e⟩|⟨g,c,hv,-,-,-,-,-⟩
  · have:=ok.w0;rw[e] at this;exact absurd this (by decide)
  have jo:Own w X.n0 (.slice (some ⟨g,0,none⟩) D.J.waits.length c) D.J.waits:=hv▸h.jo
  refine(jflush_any h.dk ok.fine ok.ws h.jb hv (jo.toSl rfl) ok.w0 ok.wl ok.first (Nat.le_trans ok.len (by decide)) ok.pos ok.cnt ok.bl ok.used).mono ?_
  rintro e w' ⟨rfl,⟨pv',P',dk,hf,hws,hlen,hoff⟩,jb,w1,F,kj⟩
  have k:Kp (DF X w) w w':=by
    refine(F.kp.weaken (T:=DF X w) fun g e=>?_).trans kj fun g hg e=>.inl e
    rcases e with e|e|e
    · exact .inr (.inl e)
    · exact .inr (.inr (.inl e))
    · exact .inr (.inr (.inr e))
  have nz:∀ g,¬Zj (D.J.flushed (need D.J.waits.length)) g:=fun g e=>by cases (show(Value.slice none 0 0).ownBlock=some g from e)
  have sg:=h.dfT
  have neg:∀ {g:Nat} {y:Array Value} {u:TypeId} {z:Nat×Nat},w.heap[g]? = some (.cells y u z)→u≠232→u≠147→u≠33→u≠203→¬DF X w g:=fun {g y u z} e h1 h2 h3 h4 q=>by
    obtain⟨cs,t,hg,ht⟩:=sg g q (hlt e)
    refine tag_ne e hg (fun e=>?_) rfl
    subst e
    rcases ht with e|e|e|e
    · exact h1 e
    · exact h2 e
    · exact h3 e
    · exact h4 e
  have hard:∀ g,DF X w g→g<w.heap.size→∃ cs t,w.heap[g]? = some (.cells cs t (0,0))∧Hard t:=fun g q hg=>by
    obtain⟨cs,t,e,ht⟩:=sg g q hg
    refine⟨cs,t,e,?_⟩
    rcases ht with rfl|rfl|rfl|rfl<;>exact⟨by decide,by decide,by decide⟩
  refine⟨rfl,⟨_,⟨pv',P',rfl,hf,hws,⟨hlen,fun h1 _=>by have:=hoff.2 62 (.inr h1);rw[vis_nil ok.ws,vis_nil hws] at this;exact this.symm⟩⟩,h.core k hard (k.keep h.sb (neg h.sb (by decide) (by decide) (by decide) (by decide))) jb (Own.nil _ _) ?_ ?_ h.hi⟩,k⟩
  · refine h.pb.kp k (neg h.pb.box (by decide) (by decide) (by decide) (by decide)) (fun q=>?_) (fun f hf=>?_) (fun g _ e=>absurd e (nz g))
    · obtain⟨cs,t,hg,-⟩:=sg _ q h.pb.map.lt
      exact h.pb.map.ne hg rfl
    · obtain⟨cur,e,-⟩:=(h.pb.fr f hf).row
      refine⟨neg e (by decide) (by decide) (by decide) (by decide),fun g e1 q=>?_⟩
      obtain⟨cs,t,hg,ht⟩:=sg g q ((h.pb.fr f hf).pay.lt g e1)
      exact(h.pb.fr f hf).pay.tag hg (by rcases ht with rfl | rfl | rfl | rfl<;>decide) e1
  · exact dk.other (Kp.refl (fun _=>False) w') (fun g o e=>e.elim) (fun g _ e=>absurd e (nz g)) (fun g e=>absurd e (nz g))
end
section
variable {X:ST}{D:SD}{w w':World}
def WPX (X:ST)(D:SD)(w:World)(k:Nat):Prop:=WP X.n0 X.B.d X.db X.B.p X.s D.R w k
theorem StW.wpT(h:StW X D w):∀ g,WPX X D w g→g<w.heap.size→∃ cs t,w.heap[g]? = some (.cells cs t (0,0))∧(t=318∨t=364∨t=125∨t=147∨t=33∨t=203):=fun g e _=>by
  rcases e with e|⟨f,hf,e⟩|e|e|e|⟨-,x,e⟩
  · exact⟨_,_,by rw[e];exact h.pb.box,.inl rfl⟩
  · obtain⟨cur,hc,-⟩:=(h.pb.fr f hf).row
    exact⟨_,_,by rw[e];exact hc,.inr (.inl rfl)⟩
  · exact⟨_,_,by rw[e];exact h.sb,.inr (.inr (.inl rfl))⟩
  · exact⟨_,_,by rw[e];exact h.dk.box,.inr (.inr (.inr (.inl rfl)))⟩
  · obtain⟨cs,hc,-⟩:=h.dk.row
    exact⟨_,_,by rw[e];exact hc,.inr (.inr (.inr (.inr (.inl rfl))))⟩
  · exact⟨_,_,e,.inr (.inr (.inr (.inr (.inr rfl))))⟩
theorem hi_clean{X:ST}{R:PR}{c:Nat}(h:∀ f,R.held=some f→X.n0≤f.fr):∀ f,(R.clean c).held=some f→X.n0≤f.fr:=fun f e=>by
  have e:R.held.map (fun f=>{ f with dirty:=false })=some f:=e
  cases hh:R.held with
  | none=>rw[hh] at e;cases e
  | some f'=>rw[hh] at e;injection e with e;subst e;exact h f' hh
structure PlD(D D':SD):Prop where
  ex:∃ c a pv' P',D'={ D with S:={ D.S with asked:=a },R:=D.R.clean c,pv:=pv',P:=P' }∧c≤D.R.cnt+1∧a≤D.S.asked+1∧P'.Fine∧P'.ws=[]∧Ln D P'
theorem plflush_st{f:FR}(h:StW X D w)(hf:D.R.held=some f)(hd:f.dirty=true)(hw:D.R.wal=.func (.func 158) #[.pointer (some ⟨X.s,0,none⟩)] #[])(hl:f.lsn≤D.J.synced)(hfi:D.P.Fine)(hws:D.P.ws=[])(hb:D.R.base+1<D.P.bs.length)(hB:D.P.bs.length≤10000)(hc:D.R.cnt≤1000000)(ha:D.S.asked≤1000000) :
    Calls Tryz.prog 174 #[.pointer (some ⟨X.B.p,0,none⟩)] w fun e w'=>e=.returned (.int .i64 0)∧(∃ D',PlD D D'∧StW X D' w')∧Kp (WPX X D w) w w':=by
  refine(pflushD_any h.pb hf hd hw h.sb h.jb hl h.dk hfi (by rw[hws];exact Nat.zero_le _) hb (Nat.le_trans hB (by decide)) hc ha).mono ?_
  rintro e w' ⟨rfl,⟨c,a,P',pb,hc',sb,ha',dk,hf',hws',hlen,hoth⟩,k⟩
  have sg:=h.wpT
  have neg:∀ {g:Nat} {y:Array Value} {u:TypeId} {z:Nat×Nat},w.heap[g]? = some (.cells y u z)→u≠318→u≠364→u≠125→u≠147→u≠33→u≠203→¬WPX X D w g:=fun {g y u z} e h1 h2 h3 h4 h5 h6 q=>by
    obtain⟨cs,t,hg,ht⟩:=sg g q (hlt e)
    refine tag_ne e hg (fun e=>?_) rfl
    subst e
    rcases ht with e|e|e|e|e|e
    · exact h1 e
    · exact h2 e
    · exact h3 e
    · exact h4 e
    · exact h5 e
    · exact h6 e
  have hard:∀ g,WPX X D w g→g<w.heap.size→∃ cs t,w.heap[g]? = some (.cells cs t (0,0))∧Hard t:=fun g q hg=>by
    obtain⟨cs,t,e,ht⟩:=sg g q hg
    refine⟨cs,t,e,?_⟩
    rcases ht with rfl|rfl|rfl|rfl|rfl|rfl<;>exact⟨by decide,by decide,by decide⟩
  refine⟨rfl,⟨_,⟨c,a,_,P',rfl,hc',ha',hf',hws',⟨hlen,fun _ e=>by rw[hoth 62 (by omega),vis_nil hws]⟩⟩,h.core k hard sb (k.keep h.jb (neg h.jb (by decide) (by decide) (by decide) (by decide) (by decide) (by decide))) (h.jo.kp k fun g e q=>?_) pb dk (hi_clean h.hi)⟩,k⟩
  obtain⟨cs,t,hg,ht⟩:=sg g q (h.jo.lt g e)
  exact h.jo.tag hg (by rcases ht with rfl | rfl | rfl | rfl | rfl | rfl<;>decide) e
end
section
variable {X:ST}{D:SD}{w w':World}
theorem StW.fr{P':PD}{pv':Value}(h:StW X D w)(F:Fr X.n0 X.B.d X.db w w')(dk:Dk (Zj D.J) w' X.n0 X.B.d X.db pv' P'):StW X { D with P:=P',pv:=pv' } w':=by
  have hT:∀ g,(g=X.B.d∨g=X.db∨(X.n0≤g∧∃ x,w.heap[g]? = some (Obj.cells x 203 (0,0))))→g<w.heap.size→∃ cs t,w.heap[g]? = some (.cells cs t (0,0))∧(t=147∨t=33∨t=203):=fun g e hg=>by
    obtain⟨cs,t,e1,e2⟩:=h.dfT g (.inr e) hg
    refine⟨cs,t,e1,?_⟩
    rcases e2 with e2|e2
    · subst e2
      rcases e with e|e|⟨-,x,e⟩
      · subst e;exact absurd rfl (tag_ne e1 h.dk.box (by decide))
      · obtain⟨cs',hc,-⟩:=h.dk.row
        subst e;exact absurd rfl (tag_ne e1 hc (by decide))
      · rw[e] at e1;injection e1 with e1;injection e1 with _ e1;exact absurd e1 (by decide)
    · exact e2
  have neg:∀ {g:Nat} {y:Array Value} {u:TypeId} {z:Nat×Nat},w.heap[g]? = some (.cells y u z)→u≠147→u≠33→u≠203→¬(g=X.B.d∨g=X.db∨(X.n0≤g∧∃ x,w.heap[g]? = some (Obj.cells x 203 (0,0)))):=fun {g y u z} e h2 h3 h4 q=>by
    obtain⟨cs,t,hg,ht⟩:=hT g q (hlt e)
    refine tag_ne e hg (fun e=>?_) rfl
    subst e
    rcases ht with e|e|e
    · exact h2 e
    · exact h3 e
    · exact h4 e
  refine h.core F.kp (fun g q hg=>by
    obtain⟨cs,t,e,ht⟩:=hT g q hg
    refine⟨cs,t,e,?_⟩
    rcases ht with rfl|rfl|rfl<;>exact⟨by decide,by decide,by decide⟩) (F.kp.keep h.sb (neg h.sb (by decide) (by decide) (by decide))) (F.kp.keep h.jb (neg h.jb (by decide) (by decide) (by decide))) (h.jo.kp F.kp fun g e q=>?_) (h.pb.kp F.kp (neg h.pb.box (by decide) (by decide) (by decide)) (fun q=>?_) (fun f hf=>?_) (fun _ _ h=>h)) dk h.hi
  · obtain⟨cs,t,hg,ht⟩:=hT g q (h.jo.lt g e)
    exact h.jo.tag hg (by rcases ht with rfl | rfl | rfl<;>decide) e
  · obtain⟨cs,t,hg,-⟩:=hT _ q h.pb.map.lt
    exact h.pb.map.ne hg rfl
  · obtain⟨cur,e,-⟩:=(h.pb.fr f hf).row
    refine⟨neg e (by decide) (by decide) (by decide),fun g e1 q=>?_⟩
    obtain⟨cs,t,hg,ht⟩:=hT g q ((h.pb.fr f hf).pay.lt g e1)
    exact(h.pb.fr f hf).pay.tag hg (by rcases ht with rfl | rfl | rfl<;>decide) e1
theorem StW.sset{S':SR}(h:StW X D w)(k:Kp (·=X.s) w w')(sb:SB w' X.s X.B S'):StW X { D with S:=S' } w':=by
  have ne:∀ {g:Nat} {y:Array Value} {u:TypeId} {z:Nat×Nat},w.heap[g]? = some (.cells y u z)→u≠125→¬g=X.s:=fun e h2 q=>tag_ne e h.sb h2 q
  refine h.core k (fun g q hg=>by have q:g=X.s:=q;subst q;exact⟨_,_,h.sb,⟨by decide,by decide,by decide⟩⟩) sb (k.keep h.jb (ne h.jb (by decide))) (h.jo.kp k fun g e q=>h.jo.tag h.sb (by decide) (by have q:g=X.s:=q;rw[← q];exact e)) (h.pb.kp k (ne h.pb.box (by decide)) (fun q=>h.pb.map.ne h.sb q) (fun f hf=>?_) (fun _ _ h=>h)) (h.dk.apart k (fun g o e q=>?_)) h.hi
  · obtain⟨cur,e,-⟩:=(h.pb.fr f hf).row
    exact⟨ne e (by decide),fun g e1 q=>(h.pb.fr f hf).pay.tag h.sb (by decide) (by have q:g=X.s:=q;rw[← q];exact e1)⟩
  · have e:g=X.s:=e
    rw[e,show w.heap[X.s]? = _ from h.sb] at q;injection q with q;subst q
    exact⟨NoD.cells (by decide) (by decide) (by decide),.inr fun y e=>by injection e with _ e;exact absurd e (by decide)⟩
end
section
variable {X:ST}{D:SD}{w w':World}
theorem StW.fresh{b':Bool}(h:StW X D w)(k:Kp (·=X.im) w w')(a:AB w' X.B.a X.B.p X.B.j X.im b'):StW X { D with b:=b' } w':=by
  have ne:∀ {g:Nat} {x:Array Value} {u:TypeId} {z:Nat×Nat},w.heap[g]? = some (.cells x u z)→¬g=X.im:=fun e q=>h.ab.map.ne e q.symm
  refine⟨k.keep h.sb (ne h.sb),k.keep h.jb (ne h.jb),h.jo.kp k (fun g e q=>h.jo.tagm h.ab.map (q▸e)),h.pb.kp k (ne h.pb.box) h.d1 (fun f hf=>?_) (fun _ _ h=>h),a,h.dk.apart k (fun g o e q=>?_),k.keep h.tb (ne h.tb),h.tw,h.tm.kp k h.d4.symm,h.tr.kp k (fun g e q=>h.tr.nem h.ab.map (q▸e)),h.wk.kp k h.d5.symm,h.d1,h.d2,h.d3,h.d4,h.d5,h.d6,h.hi⟩
  · obtain⟨cur,e,-⟩:=(h.pb.fr f hf).row
    exact⟨ne e,fun g e1 e2=>(h.pb.fr f hf).pay.tagm h.ab.map (e2▸e1)⟩
  · have e:g=X.im:=e
    subst e
    obtain⟨E,c,hE,-⟩:=h.ab.map
    rw[hE] at q;injection q with q;subst q
    exact⟨NoD.map _ _,.inr fun x e=>nomatch e⟩
end
end Go.Proofs.YtdbkocfbhpgpkaaGreat
