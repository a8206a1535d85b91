/-
  change.Diff of two pages: the closure put, the call.
-/
import Derived.Test.YtdbkocfbhpgpkaaGreatb10
import Derived.Deep.RegionHeld
import Derived.BigRegion
import Derived.Deep.DeepCutAuto
set_option linter.unusedVariables false
set_option linter.unusedSimpArgs false
namespace Go.Proofs.YtdbkocfbhpgpkaaGreat
open Go Go.RowKit Go.Shelf
set_option maxRecDepth 100000
set_option maxHeartbeats 2000000
set_option linter.unusedSimpArgs false
attribute [local go_sem] Oper.semAt_some
theorem unlike_in(n:Nat)(A B:Option Addr)(a b c d:Nat)(w:World) :
    CallsIn Fence.wide n Tryz.prog 340 #[.slice A a b,.slice B c d] w fun e w'=>e=.returned (.func (.func 349) #[] #[.pointer (some ⟨w.heap.size,0,none⟩),.pointer (some ⟨w.heap.size+1,0,none⟩)])∧w'=(w.alloc (.cells #[.slice A a b] 33)).alloc (.cells #[.slice B c d] 33):=by
  refine callsIn_of_wp Tryz.func340 rfl trivial ?_ rfl
  simp only[Tryz.ntmps340,List.size_toArray,List.length_cons,List.length_nil,Nat.reduceAdd,Nat.reduceSub,Array.replicate_succ,Array.replicate_zero,List.push_toArray,List.append_toArray,List.nil_append,List.cons_append]
  gi_wp2
  go_ret
  exact⟨rfl,rfl⟩
abbrev PS:=List (Nat×Nat)×Option (Nat×Nat)
def psFin(s:PS):List (Nat×Nat):=match s.2 with | none=>s.1 | some (f,t)=>s.1++[(f,t+1-f)]
def psStep(s:PS)(x:Nat):PS:=match s.2 with
  | none=>(s.1,some (x,x))
  | some (f,t)=>if x-t≤8 then(s.1,some (f,x)) else(psFin s,some (x,x))
def psOf (l:List (Fin 4080)):PS:=l.foldl (fun s x=>psStep s x.val) ([],none)
theorem psOf_snoc(l:List (Fin 4080))(x:Fin 4080):psOf (l++[x])=psStep (psOf l) x.val:=by simp[psOf]
def pcell(p g:Nat×Nat):List Value:=[.int .i64 (p.1:Int),.slice (some ⟨g.1,0,none⟩) p.2 g.2]
def pcells(ps gs:List (Nat×Nat)):List Value:=(ps.zip gs).flatMap fun x=>pcell x.1 x.2
def Pcs (n₀:Nat)(W:World)(lb:List UInt8)(v:Value)(ps:List (Nat×Nat)):Prop:=
  ∃ gs:List (Nat×Nat),gs.length=ps.length∧W.ownsRow n₀ 355 2 v ps.length (pcells ps gs)∧(v=.slice none 0 0↔ps=[])∧(gs.map (·.1)).Nodup ∧
    ∀ (k:Nat) (p g:Nat×Nat),ps[k]? = some p→gs[k]? = some g→n₀≤g.1∧Own W n₀ (.slice (some ⟨g.1,0,none⟩) p.2 g.2) ((lb.drop p.1).take p.2)
theorem put_none(W:World)(Bl Bt Bf Bn:Nat)(ht:Boxed W Bt 3 (.int .i64 (-1))) :
    Calls Tryz.prog 339 #[.pointer (some ⟨Bt,0,none⟩),.pointer (some ⟨Bl,0,none⟩),.pointer (some ⟨Bf,0,none⟩),.pointer (some ⟨Bn,0,none⟩)] W fun e W'=>(∃ v,e=.returned v)∧W'=W:=by
  have hc:=ht.cell
  go_enter Tryz.func339,Tryz.ntmps339
  go_wp2
  go_end0
  exact⟨⟨_,rfl⟩,rfl⟩
theorem info263:(Tryz.prog.info? 355).map (fun i=>(i.zero,i.size,i.bytes))=some (some (.agg #[.int .i64 0,.slice none 0 0]),2,32):=by kernel_rfl
theorem Own.nonnil{w:World}{base:Nat}{v:Value}{l:List UInt8}(h:Own w base v l)(hl:0<l.length):∃ g cap,v=.slice (some ⟨g,0,none⟩) l.length cap∧base≤g∧g<w.heap.size:=by
  rcases h.form with⟨_,h0⟩|⟨g,cap,e,h1,h2,_⟩
  · subst h0;simp at hl
  · exact⟨g,cap,e,h1,h2⟩
theorem ownB_lt{w:World}{base size n:Nat}{e:TypeId}{v:Value}{xs:List Value}(h:w.ownsRow base e size v n xs):∀ g,v.ownBlock=some g→g<w.heap.size:=by
  intro g hg
  rcases h.2 with⟨rfl,_⟩|⟨b,cap,cur,rfl,_,hb,_⟩
  · simp[Value.ownBlock] at hg
  · simp[Value.ownBlock] at hg;subst hg;exact(Array.getElem?_eq_some_iff.1 hb).1
theorem boxS{W W':World}{B:Nat}{t:TypeId}{v:Value}(h:Boxed W B t v)(hb:Below W.heap.size W W'):Boxed W' B t v:=(hb.block B h.lt).trans h
theorem row_belowS{w w':World}{base size n:Nat}{e:TypeId}{v:Value}{xs:List Value}(h:w.ownsRow base e size v n xs)(hb:Below w.heap.size w w'):w'.ownsRow base e size v n xs:=by
  refine⟨h.1,?_⟩
  rcases h.2 with hn|⟨g,cap,cur,rfl,h1,hgg,rest⟩
  · exact .inl hn
  · exact .inr ⟨g,cap,cur,rfl,h1,(hb.block g (Array.getElem?_eq_some_iff.1 hgg).1).trans hgg,rest⟩
theorem box_ne{W:World}{A B:Nat}{t s:TypeId}{u v:Value}(h1:Boxed W A t u)(h2:Boxed W B s v)(hts:t≠s):A≠B:=by
  rintro rfl
  have h:W.heap[A]? = _:=h1
  rw[show W.heap[A]? = _ from h2] at h
  simp at h
  exact hts h.2.symm
structure SP(n₀ Bl Bt Bf Bn b2 o2 c2 f t:Nat)(v:Value)(k:Nat)(xs:List Value)(W0 W:World):Prop where
  t:Boxed W Bt 3 (.int .i64 t)
  f:Boxed W Bf 3 (.int .i64 f)
  l:Boxed W Bl 304 v
  n:Boxed W Bn 33 (.slice (some ⟨b2,o2,none⟩) 4080 c2)
  row:W.ownsRow n₀ 355 2 v k xs
  bl:Below W0.heap.size W0 W
theorem SP.step{n₀ Bl Bt Bf Bn b2 o2 c2 f t:Nat}{v:Value}{k:Nat}{xs:List Value}{W0 W W':World}(s:SP n₀ Bl Bt Bf Bn b2 o2 c2 f t v k xs W0 W)(hb:Below W.heap.size W W'):SP n₀ Bl Bt Bf Bn b2 o2 c2 f t v k xs W0 W':=
  ⟨boxS s.t hb,boxS s.f hb,boxS s.l hb,boxS s.n hb,row_belowS s.row hb,s.bl.trans (hb.mono s.bl.size)⟩
def PutOkS(n₀ Bl f:Nat)(sb:List UInt8)(v:Value)(k:Nat)(xs:List Value)(W W':World):Prop:=
  ∃ v' g cap,Boxed W' Bl 304 v'∧v'≠.slice none 0 0∧W'.ownsRow n₀ 355 2 v' (k+1) (xs++pcell (f,sb.length) (g,cap))∧W.heap.size≤g∧g<W'.heap.size∧Own W' n₀ (.slice (some ⟨g,0,none⟩) sb.length cap) sb ∧
    (∀ B,B<W.heap.size→B≠Bl→some B≠v.ownBlock→W'.heap[B]? = W.heap[B]?)∧W.heap.size≤W'.heap.size∧W'.os=W.os∧W'.tape=W.tape∧W'.output=W.output
theorem put_end{n₀ Bl Bt Bf Bn b2 o2 c2 f t:Nat}{v:Value}{k:Nat}{xs:List Value}{W wA w2:World}{sb:List UInt8}{g cap g2 cap2:Nat}(hrow:W.ownsRow n₀ 355 2 v k xs)(hn₀:n₀≤W.heap.size)
    (sA:SP n₀ Bl Bt Bf Bn b2 o2 c2 f t v k xs W wA) (ownA:Own wA W.drew.heap.size (.slice (some ⟨g,0,none⟩) sb.length cap) sb) (hg:W.drew.heap.size≤g) (hgl:g<wA.heap.size) (hBl:Bl<W.heap.size)
    (hl2:Boxed w2 Bl 304 v) (hown2:w2.ownsRow n₀ 355 2 (.slice (some ⟨g2,0,none⟩) (k+1) cap2) (k+1) (xs++pcell (f,sb.length) (g,cap))) (hgrow2:wA.grownBy w2 v.ownBlock) :
    PutOkS n₀ Bl f sb v k xs W (w2.setCell ⟨Bl,0,none⟩ (.slice (some ⟨g2,0,none⟩) (k+1) cap2)):=by
  have hs:W.heap.size≤wA.heap.size:=sA.bl.size
  have hz2:(w2.setCell ⟨Bl,0,none⟩ (.slice (some ⟨g2,0,none⟩) (k+1) cap2)).heap.size=w2.heap.size:=by simp[World.setCell]
  have hrl:=ownB_lt hrow
  have gb:∀ B,B<wA.heap.size→B≠Bl→some B≠v.ownBlock→(w2.setCell ⟨Bl,0,none⟩ (.slice (some ⟨g2,0,none⟩) (k+1) cap2)).heap[B]? = wA.heap[B]?:=fun B h1 h2 h3=>
    (Below.heap_setCell _ _ _ B (fun e=>h2 e)).trans (hgrow2.block B h1 h3)
  have hgW:W.heap.size≤g:=hg
  refine⟨_,g,cap,hl2.set _,by simp,hown2.kept (grownBy_setCell' w2 Bl _) (.inr (hl2.not_row (by decide) hown2).symm),hg,?_,?_,?_,?_,?_,?_,?_⟩
  · rw[hz2];exact Nat.lt_of_lt_of_le hgl hgrow2.size
  · refine(ownA.blocks fun j hj=>?_).down (B':=n₀) hn₀
    obtain rfl:g=j:=by simpa[Value.ownBlock] using hj
    exact gb g hgl (by omega) (fun e=>by have:=hrl g e.symm;omega)
  · intro B h1 h2 h3
    exact(gb B (by omega) h2 h3).trans (sA.bl.block B h1)
  · rw[hz2];exact Nat.le_trans hs hgrow2.size
  · exact(show _=w2.os from rfl).trans (hgrow2.os.trans sA.bl.os)
  · exact(show _=w2.tape from rfl).trans (hgrow2.tape.trans sA.bl.tape)
  · exact(show _=w2.output from rfl).trans (hgrow2.output.trans sA.bl.output)
theorem put_some(W:World)(n₀ Bl Bt Bf Bn b2 o2 c2:Nat)(f t:Nat)(lb:List UInt8)(hlb:lb.length=4080)(hft:f≤t)(ht4:t<4080)(hc2:4080≤c2)(v:Value)(k:Nat)(xs:List Value)(hk:k≤4080)
    (ht:Boxed W Bt 3 (.int .i64 t)) (hf:Boxed W Bf 3 (.int .i64 f)) (hl:Boxed W Bl 304 v) (hn:Boxed W Bn 33 (.slice (some ⟨b2,o2,none⟩) 4080 c2)) (hb2:b2<n₀) (hn₀:n₀≤W.heap.size)
    (hv:∀ k (h:k<lb.length),W.cell? ⟨b2,o2+k,none⟩=some (u8V lb[k])) (hrow:W.ownsRow n₀ 355 2 v k xs) :
    Calls Tryz.prog 339 #[.pointer (some ⟨Bt,0,none⟩),.pointer (some ⟨Bl,0,none⟩),.pointer (some ⟨Bf,0,none⟩),.pointer (some ⟨Bn,0,none⟩)] W fun e W'=>(∃ v,e=.returned v)∧PutOkS n₀ Bl f ((lb.drop f).take (t+1-f)) v k xs W W':=by
  have s0:SP n₀ Bl Bt Bf Bn b2 o2 c2 f t v k xs W W.drew:=⟨ht,hf,hl,hn,hrow,⟨rfl,rfl,rfl,Nat.le_refl _,fun _ _=>rfl⟩⟩
  have ct:=ht.cell
  have cf:=hf.cell
  have cl:=hl.cell
  have cn:=hn.cell
  have hrd:Rd W.drew W.drew.heap.size (some ⟨b2,o2+f,none⟩) ((lb.drop f).take (t+1-f)):=fun _=>⟨b2,o2+f,rfl,by show b2<W.heap.size;omega,fun j hj=>by
    have hj':j<t+1-f:=by simp at hj;omega
    have:=hv (f+j) (by omega)
    show W.cell? _=_
    rw[Nat.add_assoc,this]
    simp⟩
  have hrl:t+1-f=((lb.drop f).take (t+1-f)).length:=by simp;omega
  have hrp:0<((lb.drop f).take (t+1-f)).length:=by omega
  have hrb:((lb.drop f).take (t+1-f)).length≤1000000:=by omega
  have hBl:=hl.lt
  obtain⟨sb,hsb⟩:∃ sb,sb=(lb.drop f).take (t+1-f):=⟨_,rfl⟩
  rw[← hsb] at hrd hrl hrp hrb ⊢
  have HL:=Lib.hid hrl
  clear hsb hv hrl
  obtain⟨i0,hi,hz0,hz1,hz2⟩:=info_parts info263
  have mixed:Tryz.prog.follows .mixedOrders=true:=by kernel_rfl
  have n1:(t:Int)+1≤(c2:Int):=by omega
  have n2:(f:Int)≤(t:Int)+1:=by omega
  have n3:((t:Int)+1).toNat=t+1:=by omega
  have n4:(0:Int)≤(t:Int)+1:=by omega
  have n5:IntKind.i64.wrap ((t:Int)+1)=(t:Int)+1:=by rw[IntKind.wrap_i64];omega
  have n6:¬(c2=f):=by omega
  go_enter Tryz.func339,Tryz.ntmps339
  go_upto_region 1 with fail
  refine wp_region_held_drew (S:=fun w'=>w'.cell? ⟨Bt,0,none⟩=some (.int .i64 t)∧w'.cell? ⟨Bf,0,none⟩=some (.int .i64 f)∧w'.cell? ⟨Bn,0,none⟩=some (.slice (some ⟨b2,o2,none⟩) 4080 c2)) (by kernel_rfl) ⟨ct,cf,cn⟩ (fun hS0=>?_)
  refine wpAnyH_take (i:=1) (oi:={ dst:=some 7,op:=.load 3 (.tmp 2),type:=3,pos := "change.go:36",after:=#[],guard:=none }) (v:=.int .i64 f) rfl (by kernel_rfl) (by kernel_rfl) (by kernel_rfl) (fun _ _ _ h=>h) (Or.inl ⟨by rfl,by intro w hSw;(try dsimp only at hSw);go_simp⟩) (by assumption) ?_
  simp only[Act.put,List.setIfInBounds_toArray,List.set_cons_zero,List.set_cons_succ]
  refine wpAnyH_take (i:=2) (oi:={ dst:=some 8,op:=.load 33 (.tmp 3),type:=33,pos := "change.go:36",after:=#[],guard:=none }) (v:=.slice (some ⟨b2,o2,none⟩) 4080 c2) rfl (by kernel_rfl) (by kernel_rfl) (by kernel_rfl) (fun _ _ _ h=>h) (Or.inl ⟨by rfl,by intro w hSw;(try dsimp only at hSw);go_simp⟩) (by assumption) ?_
  simp only[Act.put,List.setIfInBounds_toArray,List.set_cons_zero,List.set_cons_succ]
  refine wpAnyH_take (i:=3) (oi:={ dst:=some 9,op:=.load 3 (.tmp 2),type:=3,pos := "change.go:36",after:=#[],guard:=none }) (v:=.int .i64 f) rfl (by kernel_rfl) (by kernel_rfl) (by kernel_rfl) (fun _ _ _ h=>h) (Or.inl ⟨by rfl,by intro w hSw;(try dsimp only at hSw);go_simp⟩) (by assumption) ?_
  simp only[Act.put,List.setIfInBounds_toArray,List.set_cons_zero,List.set_cons_succ]
  refine wpAnyH_take (i:=4) (oi:={ dst:=some 10,op:=.load 3 (.tmp 0),type:=3,pos := "change.go:36",after:=#[],guard:=none }) (v:=.int .i64 t) rfl (by kernel_rfl) (by kernel_rfl) (by kernel_rfl) (fun _ _ _ h=>h) (Or.inl ⟨by rfl,by intro w hSw;(try dsimp only at hSw);go_simp⟩) (by assumption) ?_
  simp only[Act.put,List.setIfInBounds_toArray,List.set_cons_zero,List.set_cons_succ]
  refine wpAnyH_take (i:=5) (oi:={ dst:=some 11,op:=.binOp .add 3 (.tmp 10) (.const (.int .i64 1)) 3,type:=3,pos := "change.go:36",after:=#[{ on:=4,ground:=.data }],guard:=none }) (v:=.int .i64 ((t:Int)+1)) rfl (by kernel_rfl) (by kernel_rfl) (by kernel_rfl) (fun _ _ _ h=>h) (Or.inl ⟨by rfl,by intro w hSw;(try dsimp only at hSw);go_simp⟩) (by assumption) ?_
  simp only[Act.put,List.setIfInBounds_toArray,List.set_cons_zero,List.set_cons_succ]
  refine wpAnyH_take (i:=6) (oi:={ dst:=some 12,op:=.slice 33 (.tmp 8) (some (.tmp 9)) (some (.tmp 11)) none,type:=33,pos := "change.go:36",after:=#[{ on:=2,ground:=.data },{ on:=3,ground:=.data },{ on:=5,ground:=.data }],guard:=none }) (v:=.slice (some ⟨b2,o2+f,none⟩) (t+1-f) (c2-f)) rfl (by kernel_rfl) (by kernel_rfl) (by kernel_rfl) (fun _ _ _ h=>h) (Or.inl ⟨by rfl,by intro w hSw;(try dsimp only at hSw);go_simp⟩) (by assumption) ?_
  simp only[Act.put,List.setIfInBounds_toArray,List.set_cons_zero,List.set_cons_succ]
  refine wpAnyH_ready (rs:=[0,7]) (by kernel_rfl) (by simp) ?_
  refine AllReadyH.cons (o:={ dst:=some 6,op:=.load 304 (.tmp 1),type:=304,pos := "change.go:36",after:=#[],guard:=none }) rfl (fun K hK=>?_) ?_
  rotate_left
  · refine AllReadyH.cons (o:={ dst:=some 13,op:=.call { callee:=.value (.func 99),args:=#[.tmp 12],argTypes:=#[33] },type:=33,pos := "change.go:36",after:=#[{ on:=6,ground:=.data }],guard:=none }) rfl (fun K hK=>?_) AllReadyH.nil
    go_simp
    go_at_call 99
    with_reducible refine(cloneA_any ⟨b2,o2+f,none⟩ (c2-f) (t+1-f) sb _ hrd HL.out hrb).mono ?_
    rintro e w1 ⟨u,rfl,own1,hb1⟩
    have s1:=s0.step hb1
    obtain⟨g,cap,rfl,hg,hgl⟩:=own1.nonnil hrp
    have cl1:=s1.l.cell
    have sA:=s1.step ((Below.refl _ _).alloc (Nat.le_refl _) (.cells #[.int .i64 f,.slice (some ⟨g,0,none⟩) sb.length cap] 355))
    have ownA:=own1.alloc (.cells #[.int .i64 f,.slice (some ⟨g,0,none⟩) sb.length cap] 355)
    have hzA:=sA.bl.size
    have clA:=sA.l.cell
    clear s0
    try go_simp
    refine hK _ _ ⟨s1.t.cell,s1.f.cell,s1.n.cell⟩ (fun hS1=>?_)
    clear hK K
    refine wpAnyH_take (i:=8) (oi:={ dst:=some 14,op:=.build 355 #[(0,.tmp 7),(1,.tmp 13)],type:=355,pos := "change.go:36",after:=#[{ on:=1,ground:=.data },{ on:=7,ground:=.data }],guard:=none }) (v:=.agg #[.int .i64 f,.slice (some ⟨g,0,none⟩) sb.length cap]) rfl (by kernel_rfl) (by kernel_rfl) (by kernel_rfl) (fun _ _ _ h=>h) (Or.inl ⟨by rfl,by intro w hSw;(try dsimp only at hSw);go_simp⟩) (by assumption) ?_
    simp only[Act.put,List.setIfInBounds_toArray,List.set_cons_zero,List.set_cons_succ]
    refine wpAnyH_ready (rs:=[0,9]) (by kernel_rfl) (by simp) ?_
    refine AllReadyH.cons (o:={ dst:=some 6,op:=.load 304 (.tmp 1),type:=304,pos := "change.go:36",after:=#[],guard:=none }) rfl (fun K hK=>?_) ?_
    rotate_left
    · refine AllReadyH.cons (o:={ dst:=some 15,op:=.buildSlice 304 1 #[(0,.tmp 14)],type:=304,pos := "change.go:36",after:=#[{ on:=8,ground:=.data }],guard:=none }) rfl (fun K hK=>?_) AllReadyH.nil
      go_simp
      refine hK _ _ ⟨sA.t.cell,sA.f.cell,sA.n.cell⟩ (fun hS2=>?_)
      clear hK K
      refine wpAnyH_ready (rs:=[0]) (by kernel_rfl) (by simp) ?_
      refine AllReadyH.cons (o:={ dst:=some 6,op:=.load 304 (.tmp 1),type:=304,pos := "change.go:36",after:=#[],guard:=none }) rfl (fun K hK=>?_) AllReadyH.nil
      go_simp
      refine hK _ _ ⟨sA.t.cell,sA.f.cell,sA.n.cell⟩ (fun hS2=>?_)
      clear hK K
      refine wpAnyH_ready (rs:=[10]) (by kernel_rfl) (by simp) ?_
      refine AllReadyH.cons (o:={ dst:=some 16,op:=.call { callee:=.builtin .append,args:=#[.tmp 6,.tmp 15],argTypes:=#[304,304] },type:=304,pos := "change.go:36",after:=#[{ on:=0,ground:=.data },{ on:=9,ground:=.data },{ on:=7,ground:=.chain }],guard:=none }) rfl (fun K hK=>?_) AllReadyH.nil
      refine step_append_lies _ rfl (.tmp 6) (.tmp 15) 304 rfl n₀ 355 i0 _ 2 32 Tryz.underlying304 hi hz0 hz1 hz2 rfl (by decide) v k xs rfl sA.row ⟨w1.heap.size,0,none⟩ 1 1 (pcell (f,sb.length) (g,cap)) rfl rfl (World.news_of_block (heap_alloc_new w1 _)) (by simp[pcell,Value.oneCell']) (by decide) (by unfold maxLen;omega) (by omega) (by omega) _ rfl ?_
      intro g2 cap2 w2 hown2 hgrow2 hwhich hg2
      have hl2:Boxed w2 Bl 304 v:=sA.l.kept hgrow2 (sA.l.not_row (by decide) sA.row)
      have ht2:Boxed w2 Bt 3 (.int .i64 t):=sA.t.kept hgrow2 (sA.t.not_row (by decide) sA.row)
      have hf2:Boxed w2 Bf 3 (.int .i64 f):=sA.f.kept hgrow2 (sA.f.not_row (by decide) sA.row)
      have hn2:Boxed w2 Bn 33 (.slice (some ⟨b2,o2,none⟩) 4080 c2):=sA.n.kept hgrow2 (sA.n.not_row (by decide) sA.row)
      refine hK _ _ ⟨ht2.cell,hf2.cell,hn2.cell⟩ (fun hS3=>?_)
      clear hK K
      simp only[Act.put,List.setIfInBounds_toArray,List.set_cons_zero,List.set_cons_succ]
      have cl3:=hl2.cell
      have cf3:=hl2.frozen
      have d1:=box_ne ht2 hl2 (by decide)
      have d2:=box_ne hf2 hl2 (by decide)
      have d3:=box_ne hn2 hl2 (by decide)
      refine wpAnyH_ready (rs:=[11]) (by kernel_rfl) (by simp) ?_
      refine AllReadyH.cons (o:={ dst:=none,op:=.store 304 (.tmp 1) (.tmp 16),type:=0,pos := "change.go:36",after:=#[{ on:=10,ground:=.data },{ on:=10,ground:=.chain },{ on:=0,ground:=.phase },{ on:=1,ground:=.phase },{ on:=2,ground:=.phase },{ on:=3,ground:=.phase },{ on:=4,ground:=.phase },{ on:=5,ground:=.phase },{ on:=6,ground:=.phase },{ on:=7,ground:=.phase },{ on:=8,ground:=.phase },{ on:=9,ground:=.phase },{ on:=10,ground:=.phase }],guard:=none }) rfl (fun K hK=>?_) AllReadyH.nil
      go_simp
      refine hK _ _ ⟨(ht2.other d1 _).cell,(hf2.other d2 _).cell,(hn2.other d3 _).cell⟩ (fun hS2=>?_)
      clear hK K
      refine wpAnyH_done (by kernel_rfl) ?_ _
      go_wp2
      go_end0
      exact⟨⟨_,rfl⟩,put_end hrow hn₀ sA ownA hg (ownA.lt _ rfl) hBl hl2 hown2 hgrow2⟩
    · go_simp
      refine hK _ _ ⟨s1.t.cell,s1.f.cell,s1.n.cell⟩ (fun hS2=>?_)
      clear hK K
      refine wpAnyH_ready (rs:=[9]) (by kernel_rfl) (by simp) ?_
      refine AllReadyH.cons (o:={ dst:=some 15,op:=.buildSlice 304 1 #[(0,.tmp 14)],type:=304,pos := "change.go:36",after:=#[{ on:=8,ground:=.data }],guard:=none }) rfl (fun K hK=>?_) AllReadyH.nil
      go_simp
      refine hK _ _ ⟨sA.t.cell,sA.f.cell,sA.n.cell⟩ (fun hS2=>?_)
      clear hK K
      refine wpAnyH_ready (rs:=[10]) (by kernel_rfl) (by simp) ?_
      refine AllReadyH.cons (o:={ dst:=some 16,op:=.call { callee:=.builtin .append,args:=#[.tmp 6,.tmp 15],argTypes:=#[304,304] },type:=304,pos := "change.go:36",after:=#[{ on:=0,ground:=.data },{ on:=9,ground:=.data },{ on:=7,ground:=.chain }],guard:=none }) rfl (fun K hK=>?_) AllReadyH.nil
      refine step_append_lies _ rfl (.tmp 6) (.tmp 15) 304 rfl n₀ 355 i0 _ 2 32 Tryz.underlying304 hi hz0 hz1 hz2 rfl (by decide) v k xs rfl sA.row ⟨w1.heap.size,0,none⟩ 1 1 (pcell (f,sb.length) (g,cap)) rfl rfl (World.news_of_block (heap_alloc_new w1 _)) (by simp[pcell,Value.oneCell']) (by decide) (by unfold maxLen;omega) (by omega) (by omega) _ rfl ?_
      intro g2 cap2 w2 hown2 hgrow2 hwhich hg2
      have hl2:Boxed w2 Bl 304 v:=sA.l.kept hgrow2 (sA.l.not_row (by decide) sA.row)
      have ht2:Boxed w2 Bt 3 (.int .i64 t):=sA.t.kept hgrow2 (sA.t.not_row (by decide) sA.row)
      have hf2:Boxed w2 Bf 3 (.int .i64 f):=sA.f.kept hgrow2 (sA.f.not_row (by decide) sA.row)
      have hn2:Boxed w2 Bn 33 (.slice (some ⟨b2,o2,none⟩) 4080 c2):=sA.n.kept hgrow2 (sA.n.not_row (by decide) sA.row)
      refine hK _ _ ⟨ht2.cell,hf2.cell,hn2.cell⟩ (fun hS3=>?_)
      clear hK K
      simp only[Act.put,List.setIfInBounds_toArray,List.set_cons_zero,List.set_cons_succ]
      have cl3:=hl2.cell
      have cf3:=hl2.frozen
      have d1:=box_ne ht2 hl2 (by decide)
      have d2:=box_ne hf2 hl2 (by decide)
      have d3:=box_ne hn2 hl2 (by decide)
      refine wpAnyH_ready (rs:=[11]) (by kernel_rfl) (by simp) ?_
      refine AllReadyH.cons (o:={ dst:=none,op:=.store 304 (.tmp 1) (.tmp 16),type:=0,pos := "change.go:36",after:=#[{ on:=10,ground:=.data },{ on:=10,ground:=.chain },{ on:=0,ground:=.phase },{ on:=1,ground:=.phase },{ on:=2,ground:=.phase },{ on:=3,ground:=.phase },{ on:=4,ground:=.phase },{ on:=5,ground:=.phase },{ on:=6,ground:=.phase },{ on:=7,ground:=.phase },{ on:=8,ground:=.phase },{ on:=9,ground:=.phase },{ on:=10,ground:=.phase }],guard:=none }) rfl (fun K hK=>?_) AllReadyH.nil
      go_simp
      refine hK _ _ ⟨(ht2.other d1 _).cell,(hf2.other d2 _).cell,(hn2.other d3 _).cell⟩ (fun hS2=>?_)
      clear hK K
      refine wpAnyH_done (by kernel_rfl) ?_ _
      go_wp2
      go_end0
      exact⟨⟨_,rfl⟩,put_end hrow hn₀ sA ownA hg (ownA.lt _ rfl) hBl hl2 hown2 hgrow2⟩
  · go_simp
    refine hK _ _ ⟨ct,cf,cn⟩ (fun hS2=>?_)
    clear hK K
    refine wpAnyH_ready (rs:=[7]) (by kernel_rfl) (by simp) ?_
    refine AllReadyH.cons (o:={ dst:=some 13,op:=.call { callee:=.value (.func 99),args:=#[.tmp 12],argTypes:=#[33] },type:=33,pos := "change.go:36",after:=#[{ on:=6,ground:=.data }],guard:=none }) rfl (fun K hK=>?_) AllReadyH.nil
    go_simp
    go_at_call 99
    with_reducible refine(cloneA_any ⟨b2,o2+f,none⟩ (c2-f) (t+1-f) sb _ hrd HL.out hrb).mono ?_
    rintro e w1 ⟨u,rfl,own1,hb1⟩
    have s1:=s0.step hb1
    obtain⟨g,cap,rfl,hg,hgl⟩:=own1.nonnil hrp
    have cl1:=s1.l.cell
    have sA:=s1.step ((Below.refl _ _).alloc (Nat.le_refl _) (.cells #[.int .i64 f,.slice (some ⟨g,0,none⟩) sb.length cap] 355))
    have ownA:=own1.alloc (.cells #[.int .i64 f,.slice (some ⟨g,0,none⟩) sb.length cap] 355)
    have hzA:=sA.bl.size
    have clA:=sA.l.cell
    clear s0
    try go_simp
    refine hK _ _ ⟨s1.t.cell,s1.f.cell,s1.n.cell⟩ (fun hS1=>?_)
    clear hK K
    refine wpAnyH_take (i:=8) (oi:={ dst:=some 14,op:=.build 355 #[(0,.tmp 7),(1,.tmp 13)],type:=355,pos := "change.go:36",after:=#[{ on:=1,ground:=.data },{ on:=7,ground:=.data }],guard:=none }) (v:=.agg #[.int .i64 f,.slice (some ⟨g,0,none⟩) sb.length cap]) rfl (by kernel_rfl) (by kernel_rfl) (by kernel_rfl) (fun _ _ _ h=>h) (Or.inl ⟨by rfl,by intro w hSw;(try dsimp only at hSw);go_simp⟩) (by assumption) ?_
    simp only[Act.put,List.setIfInBounds_toArray,List.set_cons_zero,List.set_cons_succ]
    refine wpAnyH_ready (rs:=[9]) (by kernel_rfl) (by simp) ?_
    refine AllReadyH.cons (o:={ dst:=some 15,op:=.buildSlice 304 1 #[(0,.tmp 14)],type:=304,pos := "change.go:36",after:=#[{ on:=8,ground:=.data }],guard:=none }) rfl (fun K hK=>?_) AllReadyH.nil
    go_simp
    refine hK _ _ ⟨sA.t.cell,sA.f.cell,sA.n.cell⟩ (fun hS2=>?_)
    clear hK K
    refine wpAnyH_ready (rs:=[10]) (by kernel_rfl) (by simp) ?_
    refine AllReadyH.cons (o:={ dst:=some 16,op:=.call { callee:=.builtin .append,args:=#[.tmp 6,.tmp 15],argTypes:=#[304,304] },type:=304,pos := "change.go:36",after:=#[{ on:=0,ground:=.data },{ on:=9,ground:=.data },{ on:=7,ground:=.chain }],guard:=none }) rfl (fun K hK=>?_) AllReadyH.nil
    refine step_append_lies _ rfl (.tmp 6) (.tmp 15) 304 rfl n₀ 355 i0 _ 2 32 Tryz.underlying304 hi hz0 hz1 hz2 rfl (by decide) v k xs rfl sA.row ⟨w1.heap.size,0,none⟩ 1 1 (pcell (f,sb.length) (g,cap)) rfl rfl (World.news_of_block (heap_alloc_new w1 _)) (by simp[pcell,Value.oneCell']) (by decide) (by unfold maxLen;omega) (by omega) (by omega) _ rfl ?_
    intro g2 cap2 w2 hown2 hgrow2 hwhich hg2
    have hl2:Boxed w2 Bl 304 v:=sA.l.kept hgrow2 (sA.l.not_row (by decide) sA.row)
    have ht2:Boxed w2 Bt 3 (.int .i64 t):=sA.t.kept hgrow2 (sA.t.not_row (by decide) sA.row)
    have hf2:Boxed w2 Bf 3 (.int .i64 f):=sA.f.kept hgrow2 (sA.f.not_row (by decide) sA.row)
    have hn2:Boxed w2 Bn 33 (.slice (some ⟨b2,o2,none⟩) 4080 c2):=sA.n.kept hgrow2 (sA.n.not_row (by decide) sA.row)
    refine hK _ _ ⟨ht2.cell,hf2.cell,hn2.cell⟩ (fun hS3=>?_)
    clear hK K
    simp only[Act.put,List.setIfInBounds_toArray,List.set_cons_zero,List.set_cons_succ]
    have cl3:=hl2.cell
    have cf3:=hl2.frozen
    have d1:=box_ne ht2 hl2 (by decide)
    have d2:=box_ne hf2 hl2 (by decide)
    have d3:=box_ne hn2 hl2 (by decide)
    refine wpAnyH_ready (rs:=[11]) (by kernel_rfl) (by simp) ?_
    refine AllReadyH.cons (o:={ dst:=none,op:=.store 304 (.tmp 1) (.tmp 16),type:=0,pos := "change.go:36",after:=#[{ on:=10,ground:=.data },{ on:=10,ground:=.chain },{ on:=0,ground:=.phase },{ on:=1,ground:=.phase },{ on:=2,ground:=.phase },{ on:=3,ground:=.phase },{ on:=4,ground:=.phase },{ on:=5,ground:=.phase },{ on:=6,ground:=.phase },{ on:=7,ground:=.phase },{ on:=8,ground:=.phase },{ on:=9,ground:=.phase },{ on:=10,ground:=.phase }],guard:=none }) rfl (fun K hK=>?_) AllReadyH.nil
    go_simp
    refine hK _ _ ⟨(ht2.other d1 _).cell,(hf2.other d2 _).cell,(hn2.other d3 _).cell⟩ (fun hS2=>?_)
    clear hK K
    refine wpAnyH_done (by kernel_rfl) ?_ _
    go_wp2
    go_end0
    exact⟨⟨_,rfl⟩,put_end hrow hn₀ sA ownA hg (ownA.lt _ rfl) hBl hl2 hown2 hgrow2⟩
end Go.Proofs.YtdbkocfbhpgpkaaGreat
