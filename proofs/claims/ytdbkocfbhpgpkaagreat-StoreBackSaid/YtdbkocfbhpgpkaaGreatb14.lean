/-
  change.Diff of two pages: the call.
-/
import Derived.Test.YtdbkocfbhpgpkaaGreatb13
import Derived.Laws.EntriesVeiled
set_option linter.unusedVariables false
set_option linter.unusedSimpArgs false
namespace Go.Proofs.YtdbkocfbhpgpkaaGreat
open Go Go.RowKit Go.Shelf
set_option maxRecDepth 100000
set_option maxHeartbeats 2000000
attribute [local go_sem] Oper.semAt_some
theorem ixU_lt(la lb:List UInt8):∀ k,∀ y∈ixU la lb k,y.val<k
  | 0=>by simp[ixU]
  | k + 1 => by
    intro y hy
    by_cases h:la[k]? = lb[k]?
    · rw[ixU_same h] at hy;have:=ixU_lt la lb k y hy;omega
    · by_cases hk:k<4080
      · rw[ixU_hit hk h] at hy
        rcases List.mem_append.1 hy with hy|hy
        · have:=ixU_lt la lb k y hy;omega
        · simp at hy;subst hy;simp
      · have:=y.isLt;omega
theorem ixU_asc(la lb:List UInt8):∀ k,k≤4080→(ixU la lb k).Pairwise (fun x y=>x.val<y.val)
  | 0,_=>by simp[ixU]
  | k + 1, hk => by
    by_cases h:la[k]? = lb[k]?
    · rw[ixU_same h];exact ixU_asc la lb k (by omega)
    · rw[ixU_hit (by omega) h]
      refine List.pairwise_append.2 ⟨ixU_asc la lb k (by omega),by simp,?_⟩
      intro x hx y hy
      simp at hy;subst hy
      exact ixU_lt la lb k x hx
theorem asc_of_pre{la lb:List UInt8}{l:List (Fin 4080)}(h:l <+: ixU la lb 4080):l.Pairwise (fun x y=>x.val<y.val):=(ixU_asc la lb 4080 (Nat.le_refl _)).sublist h.sublist
structure PsOk(l:List (Fin 4080))(s:PS):Prop where
  n:s.2=none→l=[]
  e:l=[]→s=([],none)
  c:∀ f t,s.2=some (f,t)→f≤t∧t<4080∧∃ y∈l,y.val=t
  k:s.1.length+(if s.2=none then 0 else 1)≤l.length
  b:∀ p∈s.1,0<p.2∧p.1+p.2≤4080
theorem PsOk.snoc{l:List (Fin 4080)}{x:Fin 4080}(hx:∀ y∈l,y.val<x.val){s:PS}(h:PsOk l s):PsOk (l++[x]) (psStep s x.val):=by
  obtain⟨ps,cur⟩:=s
  have hxl:=x.isLt
  cases cur with
  | none =>
    have h1:=h.k
    simp at h1
    exact⟨by simp[psStep],by simp,by intro f t e;simp[psStep] at e;obtain⟨rfl,rfl⟩:=e;exact⟨Nat.le_refl _,hxl,x,by simp,rfl⟩,by simp[psStep];omega,h.b⟩
  | some ft =>
    obtain⟨f,t⟩:=ft
    obtain⟨h1,h2,y,hy,hyt⟩:=h.c f t rfl
    have h3:=h.k
    simp at h3
    have h4:=hx y hy
    by_cases hn:x.val-t≤8
    · refine⟨by simp[psStep,hn],by simp,?_,by simp[psStep,hn];omega,by simpa[psStep,hn] using h.b⟩
      intro f' t' e
      simp[psStep,hn] at e
      obtain⟨rfl,rfl⟩:=e
      exact⟨by omega,hxl,x,by simp,rfl⟩
    · refine⟨by simp[psStep,hn],by simp,?_,by simp[psStep,hn,psFin];omega,?_⟩
      · intro f' t' e
        simp[psStep,hn] at e
        obtain⟨rfl,rfl⟩:=e
        exact⟨Nat.le_refl _,hxl,x,by simp,rfl⟩
      · intro p hp
        simp[psStep,hn,psFin] at hp
        rcases hp with hp|rfl
        · exact h.b p hp
        · simp;omega
theorem psOk_of_rev:∀ (r:List (Fin 4080)),r.reverse.Pairwise (fun x y=>x.val<y.val)→PsOk r.reverse (psOf r.reverse)
  | [],_=>⟨fun _=>rfl,fun _=>rfl,by intro f t e;simp[psOf] at e,by simp[psOf],by simp[psOf]⟩
  | x :: r, h => by
    rw[List.reverse_cons] at h ⊢
    rw[psOf_snoc]
    obtain⟨h1,_,h3⟩:=List.pairwise_append.1 h
    exact(psOk_of_rev r h1).snoc (fun y hy=>h3 y hy x (by simp))
theorem psOk(l:List (Fin 4080))(h:l.Pairwise (fun x y=>x.val<y.val)):PsOk l (psOf l):=by
  have:=psOk_of_rev l.reverse (by rwa[List.reverse_reverse])
  rwa[List.reverse_reverse] at this
def tOf (s:PS):Int:=match s.2 with | none=>-1 | some (_,t)=>t
def fOf (s:PS):Int:=match s.2 with | none=>0 | some (f,_)=>f
theorem rows_ne{W:World}{b1 b2:Nat}{e1 e2:TypeId}{z1 z2:Nat}{v1 v2:Value}{k1 k2:Nat}{x1 x2:List Value}(h1:W.ownsRow b1 e1 z1 v1 k1 x1)(h2:W.ownsRow b2 e2 z2 v2 k2 x2)(hne:e1≠e2):∀ g,v1.ownBlock=some g→v2.ownBlock≠some g:=by
  intro g hg hg2
  rcases h1.2 with⟨rfl,_⟩|⟨b,cap,cur,rfl,_,hb,_⟩
  · simp[Value.ownBlock] at hg
  · rcases h2.2 with⟨rfl,_⟩|⟨b',cap',cur',rfl,_,hb',_⟩
    · simp[Value.ownBlock] at hg2
    · simp[Value.ownBlock] at hg hg2
      subst hg;subst hg2
      rw[hb] at hb'
      simp at hb'
      exact hne hb'.2
theorem pcells_snoc{ps gs:List (Nat×Nat)}(h:gs.length=ps.length)(p g:Nat×Nat):pcells (ps++[p]) (gs++[g])=pcells ps gs++pcell p g:=by
  unfold pcells
  rw[List.zip_append (by omega),List.flatMap_append]
  simp
theorem pcs_put{n₀ Bl f m:Nat}{sb lb:List UInt8}{v:Value}{ps gs:List (Nat×Nat)}{W W':World}(hgl:gs.length=ps.length)(hrow:W.ownsRow n₀ 355 2 v ps.length (pcells ps gs))(hnd:(gs.map (·.1)).Nodup)
    (hall:∀ (k:Nat) (p g:Nat×Nat),ps[k]? = some p→gs[k]? = some g→n₀≤g.1∧Own W n₀ (.slice (some ⟨g.1,0,none⟩) p.2 g.2) ((lb.drop p.1).take p.2))
    (hn₀:n₀≤W.heap.size) (hl:Boxed W Bl 304 v) (hm:sb.length=m) (hsb:sb=(lb.drop f).take m) (hp:PutOkS n₀ Bl f sb v ps.length (pcells ps gs) W W') :
    ∃ v',Boxed W' Bl 304 v'∧Pcs n₀ W' lb v' (ps++[(f,m)])∧(∀ B t u,Boxed W B t u→t≠304→t≠355→Boxed W' B t u)∧(n₀≤Bl→Below n₀ W W')∧KeepsOthers W W':=by
  subst hm
  obtain⟨v',g,cap,hb',hne,hrow',hg,hg',hown,hkeep,hsz,h1,h2,h3⟩:=hp
  have hlt:=ownB_lt hrow
  refine⟨v',hb',⟨gs++[(g,cap)],by simp[hgl],by rw[pcells_snoc hgl];simpa using hrow',by simp[hne],?_,?_⟩,?_,?_,?_⟩
  · rw[List.map_append,List.nodup_append]
    refine⟨hnd,by simp,?_⟩
    intro a ha b hb e
    simp at hb
    obtain⟨q,hq,rfl⟩:=List.mem_map.1 ha
    obtain⟨k,hk,rfl⟩:=List.getElem_of_mem hq
    obtain⟨_,ho⟩:=hall k (ps[k]'(by omega)) gs[k] (List.getElem?_eq_getElem _) (List.getElem?_eq_getElem hk)
    have:=ho.lt gs[k].1 rfl
    omega
  · intro k p q hpk hqk
    by_cases hk:k<ps.length
    · rw[List.getElem?_append_left hk] at hpk
      rw[List.getElem?_append_left (by omega)] at hqk
      obtain⟨h4,h5⟩:=hall k p q hpk hqk
      refine⟨h4,h5.blocks fun j hj=>hkeep j (h5.lt j hj) (fun e=>?_) (fun e=>?_)⟩
      · exact hl.not_row (by decide) h5 (by rw[hj,e])
      · exact rows_ne h5 hrow (by decide) j hj e.symm
    · have hkl:=(List.getElem?_eq_some_iff.1 hpk).1
      simp at hkl
      have:k=ps.length:=by omega
      subst this
      rw[List.getElem?_append_right (Nat.le_refl _)] at hpk
      rw[List.getElem?_append_right (by omega)] at hqk
      simp at hpk
      simp[hgl] at hqk
      subst hpk;subst hqk
      exact⟨Nat.le_trans hn₀ hg,by rw[← hsb];exact hown⟩
  · intro B t u hB h259 h263
    exact(hkeep B hB.lt (box_ne hB hl h259) (hB.not_row h263 hrow)).trans hB
  · intro hBl
    refine⟨h1,h2,h3,hsz,fun B hB=>hkeep B (by omega) (by omega) (fun e=>?_)⟩
    rcases hrow.2 with⟨rfl,_⟩|⟨b,_,_,rfl,hb,_⟩
    · simp[Value.ownBlock] at e
    · simp[Value.ownBlock] at e;omega
  · refine⟨hsz,fun B o hB ho=>(hkeep B (Array.getElem?_eq_some_iff.1 hB).1 (fun e=>?_) (fun e=>?_)).trans hB⟩
    · subst e
      rw[show W.heap[B]? = _ from hl] at hB;cases hB;cases ho
    · rcases hrow.2 with⟨rfl,_⟩|⟨b,cap',cur,rfl,hb,hgb,_⟩
      · simp[Value.ownBlock] at e
      · simp[Value.ownBlock] at e
        subst e
        rw[hgb] at hB;cases hB;cases ho
structure DI(w:World)(b1 o1 c1 b2 o2 c2:Nat)(lb:List UInt8)(pre:List (Fin 4080))(W:World):Prop where
  l:∃ v,Boxed W (w.heap.size+1) 304 v∧Pcs w.heap.size W lb v (psOf pre).1
  f:Boxed W (w.heap.size+2) 3 (.int .i64 (fOf (psOf pre)))
  t:Boxed W (w.heap.size+3) 3 (.int .i64 (tOf (psOf pre)))
  n:Boxed W w.heap.size 33 (.slice (some ⟨b2,o2,none⟩) 4080 c2)
  p:Boxed W (w.heap.size+4) 1 (.func (.func 339) #[] #[.pointer (some ⟨w.heap.size+3,0,none⟩),.pointer (some ⟨w.heap.size+1,0,none⟩),.pointer (some ⟨w.heap.size+2,0,none⟩),.pointer (some ⟨w.heap.size,0,none⟩)])
  x1:Boxed W (w.heap.size+5) 33 (.slice (some ⟨b1,o1,none⟩) 4080 c1)
  x2:Boxed W (w.heap.size+6) 33 (.slice (some ⟨b2,o2,none⟩) 4080 c2)
  b:Below w.heap.size w W
theorem box_far{W W':World}{row:Option Nat}{B:Nat}{t:TypeId}{v:Value}(h:Boxed W B t v)(hg:W.grownBy W' row)(hr:∀ r,row=some r→∃ o:Obj,W.heap[r]? = some o∧o.isCells=false):Boxed W' B t v:=
  h.kept hg fun e=>by
    obtain⟨o,ho,hc⟩:=hr B e.symm
    rw[show W.heap[B]? = _ from h] at ho;cases ho;cases hc
theorem row_far{W W':World}{row:Option Nat}{n₀ z k:Nat}{e:TypeId}{v:Value}{xs:List Value}(h:W.ownsRow n₀ e z v k xs)(hg:W.grownBy W' row)(hr:∀ r,row=some r→∃ o:Obj,W.heap[r]? = some o∧o.isCells=false):W'.ownsRow n₀ e z v k xs:=by
  refine h.kept hg ?_
  rcases h.2 with⟨rfl,_⟩|⟨g,cap,cur,rfl,_,hgb,_⟩
  · exact .inl rfl
  · refine .inr fun e'=>?_
    obtain⟨o,ho,hc⟩:=hr g (by simpa[Value.ownBlock] using e'.symm)
    rw[hgb] at ho;cases ho;cases hc
theorem Pcs.far{n₀:Nat}{W W':World}{row:Option Nat}{lb:List UInt8}{v:Value}{ps:List (Nat×Nat)}(h:Pcs n₀ W lb v ps)(hg:W.grownBy W' row)(hr:∀ r,row=some r→∃ o:Obj,W.heap[r]? = some o∧o.isCells=false):Pcs n₀ W' lb v ps:=by
  obtain⟨gs,h1,h2,h3,h4,h5⟩:=h
  exact⟨gs,h1,row_far h2 hg hr,h3,h4,fun k p q hp hq=>⟨(h5 k p q hp hq).1,row_far (h5 k p q hp hq).2 hg hr⟩⟩
theorem Pcs.set{n₀:Nat}{W:World}{lb:List UInt8}{v:Value}{ps:List (Nat×Nat)}(h:Pcs n₀ W lb v ps){B:Nat}{t:TypeId}{u:Value}(hB:Boxed W B t u)(h5:t≠5)(h263:t≠355)(u':Value):Pcs n₀ (W.setCell ⟨B,0,none⟩ u') lb v ps:=by
  obtain⟨gs,h1,h2,h3,h4,h5'⟩:=h
  refine⟨gs,h1,h2.kept (grownBy_setCell' W B u') (.inr (hB.not_row h263 h2).symm),h3,h4,fun k p q hp hq=>⟨(h5' k p q hp hq).1,?_⟩⟩
  have:=(h5' k p q hp hq).2
  exact World.ownsRow.kept this (grownBy_setCell' W B u') (.inr (hB.not_row h5 this).symm)
theorem DI.own(w:World)(b1 o1 c1 b2 o2 c2:Nat)(lb:List UInt8)(B:Nat)(hB:w.heap.size≤B):OwnFrom B (DI w b1 o1 c1 b2 o2 c2 lb):=by
  intro pre W W' row h hg hr
  have hr':∀ r,row=some r→∃ o:Obj,W.heap[r]? = some o∧o.isCells=false:=fun r e=>(hr r e).2
  obtain⟨v,hv,hp⟩:=h.l
  exact⟨⟨v,box_far hv hg hr',hp.far hg hr'⟩,box_far h.f hg hr',box_far h.t hg hr',box_far h.n hg hr',box_far h.p hg hr',box_far h.x1 hg hr',box_far h.x2 hg hr',h.b.grown hg h.b.size fun r e=>Nat.le_trans hB (hr r e).1⟩
abbrev putV(N:Nat):Value:=.func (.func 339) #[] #[.pointer (some ⟨N+3,0,none⟩),.pointer (some ⟨N+1,0,none⟩),.pointer (some ⟨N+2,0,none⟩),.pointer (some ⟨N,0,none⟩)]
def diffW(w:World)(b1 o1 c1 b2 o2 c2:Nat):World:=
  (((((((w.alloc (.cells #[.slice (some ⟨b2,o2,none⟩) 4080 c2] 33)).alloc (.cells #[.slice none 0 0] 304)).alloc (.cells #[.int .i64 0] 3)).alloc (.cells #[.int .i64 (-1)] 3)).alloc (.cells #[putV w.heap.size] 1)).alloc (.cells #[.slice (some ⟨b1,o1,none⟩) 4080 c1] 33)).alloc (.cells #[.slice (some ⟨b2,o2,none⟩) 4080 c2] 33))
theorem diffW_size(w:World)(b1 o1 c1 b2 o2 c2:Nat):(diffW w b1 o1 c1 b2 o2 c2).heap.size=w.heap.size+7:=by simp[diffW]
theorem new_at{w:World}{N:Nat}(h:w.heap.size=N)(t:TypeId)(v:Value):Boxed (w.alloc (.cells #[v] t)) N t v:=by subst h;exact Boxed.new w t v
theorem DI.start(w:World)(b1 o1 c1 b2 o2 c2:Nat)(lb:List UInt8):DI w b1 o1 c1 b2 o2 c2 lb [] (diffW w b1 o1 c1 b2 o2 c2):=by
  have hb:Below w.heap.size w (diffW w b1 o1 c1 b2 o2 c2):=by
    unfold diffW
    repeat (first | exact Below.refl _ _ | refine Below.alloc ?_ (by simp;try omega) _)
  refine⟨⟨.slice none 0 0,?_,[],rfl,World.ownsRow_nil _ _ _ _,by simp[psOf],by simp,by simp[psOf]⟩,?_,?_,?_,?_,?_,?_,hb⟩
  all_goals unfold diffW
  · exact(((((new_at (by simp) _ _).alloc _).alloc _).alloc _).alloc _).alloc _
  · exact((((new_at (by simp) _ _).alloc _).alloc _).alloc _).alloc _
  · exact(((new_at (by simp) _ _).alloc _).alloc _).alloc _
  · exact((((((new_at (by simp) _ _).alloc _).alloc _).alloc _).alloc _).alloc _).alloc _
  · exact((new_at (by simp) _ _).alloc _).alloc _
  · exact(new_at (by simp) _ _).alloc _
  · exact new_at (by simp) _ _
theorem tOf_some{s:PS}{f t:Nat}(h:s.2=some (f,t)):tOf s=t∧fOf s=f:=by simp[tOf,fOf,h]
theorem psStep_keep{s:PS}{f t x:Nat}(h:s.2=some (f,t))(hn:x-t≤8):psStep s x=(s.1,some (f,x)):=by simp[psStep,h,hn]
theorem psStep_new{s:PS}{f t x:Nat}(h:s.2=some (f,t))(hn:¬x-t≤8):psStep s x=(s.1++[(f,t+1-f)],some (x,x)):=by simp[psStep,psFin,h,hn]
theorem psStep_none{s:PS}{x:Nat}(h:s.2=none):psStep s x=(s.1,some (x,x)):=by simp[psStep,h]
structure D0(w:World)(b1 o1 c1 b2 o2 c2:Nat)(lb:List UInt8)(ps:List (Nat×Nat))(W:World):Prop where
  l:∃ v,Boxed W (w.heap.size+1) 304 v∧Pcs w.heap.size W lb v ps
  n:Boxed W w.heap.size 33 (.slice (some ⟨b2,o2,none⟩) 4080 c2)
  p:Boxed W (w.heap.size+4) 1 (putV w.heap.size)
  x1:Boxed W (w.heap.size+5) 33 (.slice (some ⟨b1,o1,none⟩) 4080 c1)
  x2:Boxed W (w.heap.size+6) 33 (.slice (some ⟨b2,o2,none⟩) 4080 c2)
  b:Below w.heap.size w W
theorem D0.set{w:World}{b1 o1 c1 b2 o2 c2:Nat}{lb:List UInt8}{ps:List (Nat×Nat)}{W:World}(h:D0 w b1 o1 c1 b2 o2 c2 lb ps W){B:Nat}{u:Value}(hB:Boxed W B 3 u)(h2:B=w.heap.size+2∨B=w.heap.size+3)(u':Value) :
    D0 w b1 o1 c1 b2 o2 c2 lb ps (W.setCell ⟨B,0,none⟩ u')∧Kd w.heap.size (w.heap.size+5) (w.heap.size+6) W (W.setCell ⟨B,0,none⟩ u'):=by
  obtain⟨⟨v,hv,hp⟩,hn,hpp,h5,h6,hb⟩:=h
  refine⟨⟨⟨v,hv.other (by omega) _,hp.set hB (by decide) (by decide) _⟩,hn.other (by omega) _,hpp.other (by omega) _,h5.other (by omega) _,h6.other (by omega) _,hb.setCell (p:=⟨B,0,none⟩) (by show w.heap.size≤B;omega) _⟩,
    (Below.refl _ W).setCell (p:=⟨B,0,none⟩) (by show w.heap.size≤B;omega) _,?_,?_⟩
  · exact(show Boxed _ _ _ _ from h5.other (B':=B) (by omega) u').trans (show W.heap[w.heap.size+5]? = _ from h5).symm
  · exact(show Boxed _ _ _ _ from h6.other (B':=B) (by omega) u').trans (show W.heap[w.heap.size+6]? = _ from h6).symm
theorem D0.put{w:World}{b1 o1 c1 b2 o2 c2 f m:Nat}{sb lb:List UInt8}{v:Value}{ps gs:List (Nat×Nat)}{W W':World}(hgl:gs.length=ps.length)(hrow:W.ownsRow w.heap.size 355 2 v ps.length (pcells ps gs))(hnd:(gs.map (·.1)).Nodup)
    (hall:∀ (k:Nat) (p g:Nat×Nat),ps[k]? = some p→gs[k]? = some g→w.heap.size≤g.1∧Own W w.heap.size (.slice (some ⟨g.1,0,none⟩) p.2 g.2) ((lb.drop p.1).take p.2))
    (hl:Boxed W (w.heap.size+1) 304 v) (hm:sb.length=m) (hsb:sb=(lb.drop f).take m) (h:D0 w b1 o1 c1 b2 o2 c2 lb ps W) (hp:PutOkS w.heap.size (w.heap.size+1) f sb v ps.length (pcells ps gs) W W') :
    D0 w b1 o1 c1 b2 o2 c2 lb (ps++[(f,m)]) W'∧(∀ B t u,Boxed W B t u→t≠304→t≠355→Boxed W' B t u)∧Kd w.heap.size (w.heap.size+5) (w.heap.size+6) W W'∧KeepsOthers W W':=by
  obtain⟨v',hb',hpc,hk,hbl,hko⟩:=pcs_put hgl hrow hnd hall h.b.size hl hm hsb hp
  have hbl:=hbl (Nat.le_succ _)
  have k5:=hk _ _ _ h.x1 (by decide) (by decide)
  have k6:=hk _ _ _ h.x2 (by decide) (by decide)
  exact⟨⟨⟨v',hb',hpc⟩,hk _ _ _ h.n (by decide) (by decide),hk _ _ _ h.p (by decide) (by decide),k5,k6,h.b.trans hbl⟩,hk,⟨hbl,k5.trans h.x1.symm,k6.trans h.x2.symm⟩,hko⟩
theorem diff_any(w:World)(b1 o1 c1 b2 o2 c2:Nat)(la lb:List UInt8)(hla:la.length=4080)(hlb:lb.length=4080)(hb1:b1<w.heap.size)(hb2:b2<w.heap.size)(hc2:4080≤c2)
    (hv1:∀ k (h:k<la.length),w.cell? ⟨b1,o1+k,none⟩=some (u8V la[k])) (hv2:∀ k (h:k<lb.length),w.cell? ⟨b2,o2+k,none⟩=some (u8V lb[k])) :
    Calls Tryz.prog 325 #[.slice (some ⟨b1,o1,none⟩) 4080 c1,.slice (some ⟨b2,o2,none⟩) 4080 c2] w fun e W'=>∃ v,e=.returned (.tuple #[v,.int .i64 0])∧Pcs w.heap.size W' lb v (psFin (psOf (ixU la lb 4080)))∧Below w.heap.size w W':=by
  refine(callsIn_wide (n:=9)).1 ?_
  refine callsIn_of_wp_marks Tryz.func325 rfl trivial ?_ rfl
  simp only[Tryz.ntmps325,List.size_toArray,List.length_cons,List.length_nil,Nat.reduceAdd,Nat.reduceSub,Array.replicate_succ,Array.replicate_zero,List.push_toArray,List.append_toArray,List.nil_append,List.cons_append]
  gi_wp2_with (refine⟨trivial,?_⟩;gi_at_call 340;refine(unlike_in _ _ _ _ _ _ _ _).mono ?_;rintro e w' ⟨rfl,rfl⟩)
  simp only[World.size_alloc,Nat.add_assoc,Nat.reduceAdd]
  have hW0:diffW w b1 o1 c1 b2 o2 c2=diffW w b1 o1 c1 b2 o2 c2:=rfl
  have h0:=DI.start w b1 o1 c1 b2 o2 c2 lb
  have hz:=diffW_size w b1 o1 c1 b2 o2 c2
  show Code.wpIn _ _ _ _ _ _ (diffW w b1 o1 c1 b2 o2 c2)
  generalize diffW w b1 o1 c1 b2 o2 c2=W0 at h0 hz ⊢
  clear hW0
  have hcell:∀ (p:Addr),p.block<w.heap.size→W0.cell? p=w.cell? p:=fun p hp=>h0.b.cell hp
  have hgo:∀ (l:Nat) (pre:List (Fin 4080)) (x:Fin 4080),pre++[x] <+: ixU la lb 4080→PsOk pre (psOf pre)∧∀ y∈pre,y.val<x.val:=fun _ pre x hp=>by
    have ha:=asc_of_pre hp
    obtain⟨h1,_,h3⟩:=List.pairwise_append.1 ha
    exact⟨psOk pre h1,fun y hy=>h3 y hy x (by simp)⟩
  generalize hN:w.heap.size=N at *
  refine rangeFunc_next (F:=Fence.wide) (n:=9) (gf:=349) (lb:=#[.pointer (some ⟨N+5,0,none⟩),.pointer (some ⟨N+6,0,none⟩)]) rfl (by omega) rfl trivial (enters_of Tryz.func349 (by kernel_rfl) rfl)
    (unlike_next 8 (by omega) (N+5) (N+6) N b1 o1 c1 b2 o2 c2 la lb hla hlb hb1 hb2 W0 (by omega) (by omega) (by omega) (by subst hN;exact h0.x1.cell) (by subst hN;exact h0.x2.cell) (fun k h=>(hcell _ hb1).trans (hv1 k h)) (fun k h=>(hcell _ hb2).trans (hv2 k h)))
    Kd.trans ?kb (fun _=>rfl) (DI w b1 o1 c1 b2 o2 c2 lb) (DI.own w b1 o1 c1 b2 o2 c2 lb W0.heap.size (by omega)) h0
    (fun x=>{ tmps:=#[.slice (some ⟨b1,o1,none⟩) 4080 c1,.slice (some ⟨b2,o2,none⟩) 4080 c2,undef,.pointer (some ⟨N,0,none⟩),.slice none 0 0,.int .i64 0,.pointer (some ⟨N+1,0,none⟩),.pointer (some ⟨N+2,0,none⟩),.pointer (some ⟨N+3,0,none⟩),.pointer (some ⟨N+4,0,none⟩),.int .i64 x.val,
      .slice (some ⟨b1,o1,none⟩) 4080 c1,.int .i64 4080,.bool false,.bool false,.slice (some ⟨b2,o2,none⟩) 4080 c2,.int .i64 4080,.bool false,.bool false,putV N,.slice (some ⟨b1,o1,none⟩) 4080 c1,.slice (some ⟨b2,o2,none⟩) 4080 c2,
      .func (.func 349) #[] #[.pointer (some ⟨N+5,0,none⟩),.pointer (some ⟨N+6,0,none⟩)],.int .i64 x.val,undef,undef,undef,undef,undef,undef,undef,undef,undef,undef,undef,undef,undef,undef,undef],defers:=[] }) ?assign ?body ?done
  case kb=>
    intro W l o o' hl ho hc
    exact⟨(Below.refl N W).grown (grownBy_putObj' W l o') (by have:=(Array.getElem?_eq_some_iff.1 ho).1;omega) (fun r e=>by cases e;omega),World.putObj_heap_other (by omega),World.putObj_heap_other (by omega)⟩
  case assign=>
    intro l x W K hK
    gi_wp2
    exact hK
  case body=>
    rintro l pre x W hI hpx
    obtain⟨⟨v,hv,hpc⟩,bf,bt,bn,bp,bx1,bx2,hb⟩:=hI
    obtain⟨hok,hasc⟩:=hgo l pre x hpx
    have hd0:D0 w b1 o1 c1 b2 o2 c2 lb (psOf pre).1 W:=⟨⟨v,hv,hpc⟩,bn,bp,bx1,bx2,hb⟩
    have hs:psOf (pre++[x])=psStep (psOf pre) x.val:=psOf_snoc _ _
    have hxl:=x.isLt
    rw[hN] at hv hpc bf bt bn bp
    have cf:=bf.cell
    have ct:=bt.cell
    have cp:=bp.cell
    have ff:=bf.frozen
    have ft:=bt.frozen
    have hb':=hb
    rw[hN] at hb'
    rcases hcur:(psOf pre).2 with _|⟨f,t⟩
    · have ht:tOf (psOf pre)=-1:=by simp[tOf,hcur]
      rw[ht] at ct bt
      rw[psStep_none hcur] at hs
      gi_wp2_with (refine⟨trivial,?_⟩;gi_at_call 339;refine(CallsIn.inRound l (callsIn_wide.2 (put_none W (N+1) (N+3) (N+2) N bt))).mono ?_;rintro e W' ⟨⟨_,rfl⟩,rfl⟩)
      subst hN
      have d1:=hd0.set bf (.inl rfl) (.int .i64 x.val)
      have t1:=bt.other (B':=w.heap.size+2) (by omega) (.int .i64 x.val)
      have d2:=d1.1.set t1 (.inr rfl) (.int .i64 x.val)
      exact⟨((KeepsOthers.setCell _ _ _).trans (KeepsOthers.setCell _ _ _)).from _,d1.2.trans d2.2,⟨by rw[hs];exact d2.1.l,by rw[hs];exact(bf.set _).other (by omega) _,by rw[hs];exact t1.set _,d2.1.n,d2.1.p,d2.1.x1,d2.1.x2,d2.1.b⟩⟩
    · obtain⟨h1,h2,y,hy,hyt⟩:=hok.c f t hcur
      obtain⟨ht,hf⟩:=tOf_some hcur
      have hxt:=hasc y hy
      rw[hyt] at hxt
      rw[ht] at ct bt
      rw[hf] at cf bf
      have m1:¬((t:Int)<0):=by omega
      have m2:IntKind.i64.wrap ((x.val:Int)-(t:Int))=(x.val:Int)-(t:Int):=by rw[IntKind.wrap_i64];omega
      by_cases hn:x.val-t≤8
      · rw[psStep_keep hcur hn] at hs
        have m3:¬((8:Int)<(x.val:Int)-(t:Int)):=by omega
        gi_wp2
        subst hN
        have d2:=hd0.set bt (.inr rfl) (.int .i64 x.val)
        exact⟨(KeepsOthers.setCell _ _ _).from _,d2.2,⟨by rw[hs];exact d2.1.l,by rw[hs];exact bf.other (by omega) _,by rw[hs];exact bt.set _,d2.1.n,d2.1.p,d2.1.x1,d2.1.x2,d2.1.b⟩⟩
      · rw[psStep_new hcur hn] at hs
        have m3:(8:Int)<(x.val:Int)-(t:Int):=by omega
        obtain⟨gs,hgl,hrow,hnil,hnd,hall⟩:=hpc
        have hk4:(psOf pre).1.length≤4080:=by have:=hok.k;have:=List.IsPrefix.length_le hpx;have:=ixU_len la lb 4080;simp at *;omega
        have hPut:=put_some W N (N+1) (N+3) (N+2) N b2 o2 c2 f t lb hlb h1 h2 hc2 v _ _ hk4 bt bf hv bn hb2 (by rw[← hN];exact hb.size) (fun k h=>(hb'.cell (p:=⟨b2,o2+k,none⟩) hb2).trans (hv2 k h)) hrow
        have hPut2:=hPut.mono (R':=fun e W'=>(∃ v,e=.returned v)∧∃ W'',W''=W'∧D0 w b1 o1 c1 b2 o2 c2 lb ((psOf pre).1++[(f,t+1-f)]) W''∧Boxed W'' (N+2) 3 (.int .i64 f)∧Boxed W'' (N+3) 3 (.int .i64 t)∧Kd N (N+5) (N+6) W W''∧KeepsOthers W W'') (by
          rintro e W' ⟨hv',ho⟩
          subst hN
          obtain⟨e1,e2,e3,e4⟩:=D0.put hgl hrow hnd hall hv (by simp;omega) rfl hd0 ho
          exact⟨hv',_,rfl,e1,e2 _ _ _ bf (by decide) (by decide),e2 _ _ _ bt (by decide) (by decide),e3,e4⟩)
        clear hPut
        gi_wp2_with (refine⟨trivial,?_⟩;gi_at_call 339;refine(CallsIn.inRound l (callsIn_wide.2 hPut2)).mono ?_;clear hPut2;rintro e W' ⟨⟨_,rfl⟩,W'',rfl,e1,e2,e3,e4,e5⟩;have cf2:=e2.cell;have ct2:=e3.cell;have ff2:=e2.frozen;have ft2:=e3.frozen)
        subst hN
        have d1:=e1.set e2 (.inl rfl) (.int .i64 x.val)
        have t1:=e3.other (B':=w.heap.size+2) (by omega) (.int .i64 x.val)
        have d2:=d1.1.set t1 (.inr rfl) (.int .i64 x.val)
        exact⟨(e5.trans ((KeepsOthers.setCell _ _ _).trans (KeepsOthers.setCell _ _ _))).from _,e4.trans (d1.2.trans d2.2),⟨by rw[hs];exact d2.1.l,by rw[hs];exact(e2.set _).other (by omega) _,by rw[hs];exact t1.set _,d2.1.n,d2.1.p,d2.1.x1,d2.1.x2,d2.1.b⟩⟩
  case done=>
    rintro D W hD hI hK
    obtain⟨⟨v,hv,hpc⟩,bf,bt,bn,bp,bx1,bx2,hb⟩:=hI
    have hok:=psOk _ (ixU_asc la lb 4080 (Nat.le_refl _))
    have hd0:D0 w b1 o1 c1 b2 o2 c2 lb (psOf (ixU la lb 4080)).1 W:=⟨⟨v,hv,hpc⟩,bn,bp,bx1,bx2,hb⟩
    rw[hN] at hv hpc bf bt bn bp
    have cv:=hv.cell
    have cp:=bp.cell
    have hb':=hb
    rw[hN] at hb'
    have hDN:w.heap.size≤D:=by omega
    rcases hcur:(psOf (ixU la lb 4080)).2 with _|⟨f,t⟩
    · have ht:tOf (psOf (ixU la lb 4080))=-1:=by simp[tOf,hcur]
      rw[ht] at bt
      gi_wp2_with (refine⟨trivial,?_⟩;gi_at_call 339;refine(callsIn_wide.2 (put_none W (N+1) (N+3) (N+2) N bt)).mono ?_;rintro e W' ⟨⟨_,rfl⟩,rfl⟩)
      refine⟨by simp,.inl ⟨_,_,rfl,run_takeDeferred hK,?_⟩⟩
      refine⟨_,results_tmp2 rfl _ _ _,v,rfl,?_,hb.trans (belowK_b (w:=w) (Nat.le_refl _) W' D _ _ hDN hK rfl rfl)⟩
      rw[hN,show psFin (psOf (ixU la lb 4080))=(psOf (ixU la lb 4080)).1 by simp[psFin,hcur]]
      exact hpc.far (grownBy_putObj' W' D _) (fun r e=>by cases e;exact⟨_,hK,rfl⟩)
    · obtain⟨h1,h2,y,hy,hyt⟩:=hok.c f t hcur
      obtain⟨ht,hf⟩:=tOf_some hcur
      rw[ht] at bt
      rw[hf] at bf
      obtain⟨gs,hgl,hrow,hnil,hnd,hall⟩:=hpc
      have hk4:(psOf (ixU la lb 4080)).1.length≤4080:=by have:=hok.k;have:=ixU_len la lb 4080;omega
      have hPut:=put_some W N (N+1) (N+3) (N+2) N b2 o2 c2 f t lb hlb h1 h2 hc2 v _ _ hk4 bt bf hv bn hb2 (by rw[← hN];exact hb.size) (fun k h=>(hb'.cell (p:=⟨b2,o2+k,none⟩) hb2).trans (hv2 k h)) hrow
      have hPut2:=hPut.mono (R':=fun e W'=>(∃ v,e=.returned v)∧∃ W'',W''=W'∧D0 w b1 o1 c1 b2 o2 c2 lb (psFin (psOf (ixU la lb 4080))) W''∧KeepsOthers W W'') (by
        rintro e W' ⟨hv',ho⟩
        subst hN
        obtain⟨e1,e2,e3,e4⟩:=D0.put hgl hrow hnd hall hv (by simp;omega) rfl hd0 ho
        exact⟨hv',_,rfl,by rw[show psFin (psOf (ixU la lb 4080))=(psOf (ixU la lb 4080)).1++[(f,t+1-f)] by simp[psFin,hcur]];exact e1,e4⟩)
      clear hPut
      gi_wp2_with (refine⟨trivial,?_⟩;gi_at_call 339;refine(callsIn_wide.2 hPut2).mono ?_;clear hPut2;rintro e W' ⟨⟨_,rfl⟩,W'',rfl,e1,e5⟩;obtain⟨v2,hv2',hpc2⟩:=e1.l;have hK2:=e5.same D _ hK rfl;rw[hN] at hv2';have cv2:=hv2'.cell)
      refine⟨by simp,.inl ⟨_,_,rfl,run_takeDeferred hK2,?_⟩⟩
      refine⟨_,results_tmp2 rfl _ _ _,v2,rfl,?_,e1.b.trans (belowK_b (w:=w) (Nat.le_refl _) W'' D _ _ hDN hK2 rfl rfl)⟩
      exact hpc2.far (grownBy_putObj' W'' D _) (fun r e=>by cases e;exact⟨_,hK2,rfl⟩)
end Go.Proofs.YtdbkocfbhpgpkaaGreat
