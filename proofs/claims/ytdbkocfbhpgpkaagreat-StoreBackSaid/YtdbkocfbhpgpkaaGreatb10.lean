/-
  change.Diff of two pages: slices.Clone of bytes; the iterator unlike.
-/
import Derived.RangeFuncNested
import Derived.RangeFuncBound
import Derived.RangeFuncCalls
import Derived.RangeFuncLeaves
import Derived.RangeFuncBox
import Derived.Shelf.Abstract
import Derived.Shelf.RegionOpen
import Derived.OwnWalkIn
import Derived.Test.YtdbkocfbhpgpkaaGreatb01
import Derived.Lib.SliceRun
import Derived.TacticsInMore
import Derived.LoopNIn
import Derived.LoopIn
set_option linter.unusedVariables false
set_option linter.unusedSimpArgs false
namespace Go.Proofs.YtdbkocfbhpgpkaaGreat
open Go Go.RowKit Go.Shelf
set_option maxRecDepth 100000
set_option maxHeartbeats 2000000
def SeqNext{α:Type}(F:Fence)(n:Nat)(P:Program)(g:Nat)(lb:Array Value)(encs:α→Array Value)(Kp:World→World→Prop)(xs:List α)(w:World):Prop:=
  ∀ (l:Nat) (J:List α→World→Prop) (W:World),Below w.heap.size w W→AbidesFrom W.heap.size J →
    (∀ pre x W1,J pre W1→pre++[x] <+: xs→YieldAt F (n-1) P l (encs x) W1 fun e W'=>e=.returned (.bool true)∧J (pre++[x]) W'∧Kp W1 W') →
    J [] W→CallsIn F n P g (#[.func (.yield l) #[] #[]]++lb) W fun e W'=>(∃ v,e=.returned v)∧J xs W'
theorem rangeFunc_next{F:Fence}{n:Nat}{P:Program}{α:Type}{g:Operand}{ps:Array Tmp}{assign body:Code}{Q:Exit→Act→World→Prop}{a:Act}{w:World}
    (hro:F.round=none) (h1:1≤n) {gf:Nat} {lb:Array Value} (hg:a.eval g=.func (.func gf) #[] lb) (hFg:F.fn gf) (eg:∀ args w,(callFunc gf args).run P w=.ok (.enter gf args) w)
    {encs:α→Array Value} {Kp:World→World→Prop} {xs:List α} (hseq:SeqNext F (n-1) P gf lb encs Kp xs w)
    (hKt:∀ {A B C:World},Kp A B→Kp B C→Kp A C) (hKb:∀ (W:World) (l:Nat) (o o':Obj),w.heap.size≤l→W.heap[l]? = some o→o.isCells=false→Kp W (W.putObj l o')) (hps:∀ x,(encs x).size=ps.size)
    (I:List α→World→Prop) (hI:OwnFrom w.heap.size I) (h0:I [] w) (a₁:α→Act)
    (hassign:∀ (l:Nat) (x:α) (W:World) (K:Act→World→Prop),K (a₁ x) W →
      assign.wpIn (F.inRound l) (n-1-1) P (Exit.then K (fun _ _ _=>False)) { tmps:=(ps.zip (encs x)).foldl (fun t (p,v)=>t.setIfInBounds p v) a.tmps,defers:=[] } W)
    (hbody:∀ (l:Nat) (pre:List α) (x:α) (W:World),I pre W→pre++[x] <+: xs →
      body.wpIn (F.inRound l) (n-1-1) P (Exit.then (fun _ W'=>KeepsFrom w.heap.size W W'∧Kp W W'∧I (pre++[x]) W') (fun _ _ _=>False)) (a₁ x) W)
    (hdone:∀ (D:Nat) (W:World),w.heap.size≤D→I xs W→W.heap[D]? = some (.deferred (some []))→Q .normal { a with defers:={ target:=.collected D,args:=#[] } :: a.defers } W) :
    (Code.rangeFunc g ps assign body).wpIn F n P Q a w:=by
  refine wpIn_rangeFunc fun fn hfn=>?_
  rw[hro]
  obtain⟨rec,hrec⟩:∃ rec:LoopState→Option Code→Loop,rec=fun st pe=>{ state:=st,pending:=pe,fn,tmps:=a.tmps,params:=ps,assign,body,defers:=w.heap.size }:=⟨_,rfl⟩
  obtain⟨W1,hW1⟩:∃ W1,(w.alloc (.deferred (some []))).alloc (.loop (rec .ready none))=W1:=⟨_,rfl⟩
  have hz1:W1.heap.size=w.heap.size+2:=by rw[← hW1];simp
  have hL1:W1.heap[w.heap.size+1]? = some (.loop (rec .ready none)):=by
    have:=World.alloc_heap_new (w.alloc (.deferred (some []))) (.loop (rec .ready none))
    rw[World.size_alloc,hW1] at this
    exact this
  have hK1:W1.heap[w.heap.size]? = some (.deferred (some [])):=by
    have:=(Below.heap_alloc (w.alloc (.deferred (some []))) (.loop (rec .ready none)) w.heap.size (by simp)).trans (World.alloc_heap_new w _)
    rw[hW1] at this
    exact this
  have hI1:I [] W1:=by rw[← hW1];exact hI.alloc _ (hI.alloc _ h0)
  have hb1:Below w.heap.size w W1:=by rw[← hW1];exact((Below.refl _ w).alloc (Nat.le_refl _) _).alloc (by simp) _
  refine⟨w.heap.size+1,[{ target:=.collected w.heap.size,args:=#[] }],W1,{ target:=.fn (.func gf) lb,args:=#[.func (.yield (w.heap.size+1)) #[] #[]] },W1,gf,
    #[.func (.yield (w.heap.size+1)) #[] #[]]++lb,W1,?_,?_,?_,?_,fun _=>h1,?_⟩
  · rw[← hW1,hrec];exact run_enterLoop_outer _ _ _ _ _
  · simp only[resolve,hg];simp[go_sem]
  · intro f' hf';simp[Target.leads] at hf';subst hf';exact hFg
  · simp[invoke,go_sem,eg]
  let J:List α→World→Prop:=fun pre W=>I pre W∧W.heap[w.heap.size+1]? = some (.loop (rec .ready none))∧W.heap[w.heap.size]? = some (.deferred (some []))
  have hJ:AbidesFrom W1.heap.size J:=fun s A B row hs hg' hr=>
    ⟨hI s A B row hs.1 hg' (fun r e=>by obtain⟨hB,o,ho,hw⟩:=hr r e;exact⟨by omega,o,ho,Obj.not_cells_of_walk hw⟩),
      (grownBy_keeps hg' (fun r e=>(hr r e).2) hs.2.1 rfl).trans hs.2.1,(grownBy_keeps hg' (fun r e=>(hr r e).2) hs.2.2 rfl).trans hs.2.2⟩
  refine(hseq (w.heap.size+1) J W1 hb1 hJ ?_ ⟨hI1,hL1,hK1⟩).mono ?_
  · rintro pre x W ⟨hi,hl,hk⟩ hpx
    have hlt:w.heap.size+1<W.heap.size:=(Array.getElem?_eq_some_iff.1 hl).1
    have hy:=run_yield (P:=P) (args:=encs x) hl (by rw[hrec];exact hps x)
    rw[hrec] at hy
    obtain⟨W2,hW2⟩:∃ W2,W.putObj (w.heap.size+1) (.loop { rec .ready none with state:=.busy })=W2:=⟨_,rfl⟩
    have hl2:W2.heap[w.heap.size+1]? = some (.loop { rec .ready none with state:=.busy }):=by rw[← hW2];exact World.putObj_heap_same hlt
    have hk2:W2.heap[w.heap.size]? = some (.deferred (some [])):=by rw[← hW2];exact(World.putObj_heap_other (by omega)).trans hk
    have hw2:Kp W W2:=by rw[← hW2];exact hKb _ _ _ _ (by omega) hl rfl
    have hi2:I pre W2:=by rw[← hW2];exact hI.putObj _ hi (by omega) hl rfl
    refine⟨fn,_,assign,body,hy,roundIn_of_wpIn hfn (hassign _ x W _ ⟨_,run_beginRound hl (by rw[hrec]),?_⟩)⟩
    rw[hW2]
    refine wpIn_mono (hbody _ pre x W2 hi2 hpx) ?_
    rintro e a3 W3 hp
    cases e<;>first | exact hp.elim | skip
    obtain⟨hk3,hkp3,hi3⟩:=hp
    have hl3:=hk3.same _ _ (by omega) hl2 rfl
    have hd3:=hk3.same _ _ (Nat.le_refl _) hk2 rfl
    have her:=run_endRound (P:=P) none hl3
    rw[hrec] at her hl3
    refine⟨_,_,her,rfl,⟨hI.putObj _ hi3 (by omega) hl3 rfl,?_,(World.putObj_heap_other (by omega)).trans hd3⟩,hKt (hKt hw2 hkp3) (hKb _ _ _ _ (by omega) hl3 rfl)⟩
    rw[hrec]
    exact World.putObj_heap_same (Array.getElem?_eq_some_iff.1 hl3).1
  · rintro e W2 ⟨⟨v,rfl⟩,hi,hl,hk⟩
    have he:=run_endLoop (P:=P) hl (by rw[hrec];simp)
    refine⟨none,_,by rw[hrec] at he;exact he,?_⟩
    exact hdone _ _ (Nat.le_refl _) (hI.putObj _ hi (by omega) hl rfl) ((World.putObj_heap_other (by omega)).trans hk)
end Go.Proofs.YtdbkocfbhpgpkaaGreat
namespace Go.Proofs.YtdbkocfbhpgpkaaGreat
open Go Go.RowKit Go.Shelf
set_option maxRecDepth 100000
set_option maxHeartbeats 2000000
theorem cloneA_any(A:Addr)(c n:Nat)(l:List UInt8)(w:World)(hr:Rd w w.heap.size (some A) l)(hn:n=l.length)(hl:l.length≤1000000) :
    Calls Tryz.prog 99 #[.slice (some A) n c] w fun e w'=>∃ v,e=.returned v∧Own w' w.heap.size v l∧Below w.heap.size w w':=by
  have HN:=Lib.hid hn
  have q25:∀ (w:World) (a:Option Addr) (n c n' c':Nat),(binOp .eql 33 (.slice a n c) (.slice none n' c')).run Tryz.prog w=.ok (.bool a.isNone) w:=fun w a n c n' c'=>Lib.run_eql_slice_nil w _ _ a n c n' c' Tryz.underlying33
  clear hn
  go_enter Tryz.func99,Tryz.ntmps99
  go_wp2_with (at_builtin;refine apB rfl (.tmp 5) (.tmp 6) rfl w.heap.size _ [] rfl (World.ownsRow_made w #[] 0 (Nat.le_refl _) (Nat.zero_le _) rfl) _ _ n c l rfl HN.out (hr.alloc (Nat.le_refl _) _) ?c1 ?c2 ?_)
  case c1=>simp;omega
  case c2=>simp
  intro v w1 hown hb _ _
  have hbb:=((Below.refl w.heap.size w).alloc (Nat.le_refl _) (.cells #[] 5)).trans hb
  have hown':Own w1 w.heap.size v l:=by simpa using hown
  clear hown hb
  go_wp2
  go_ret
  exact⟨_,rfl,hown',hbb⟩
attribute [local go_sem] Oper.semAt_some
def ixU (la lb:List UInt8)(k:Nat):List (Fin 4080):=(List.range k).filterMap fun j=>if h:j<4080 then if la[j]? = lb[j]? then none else some ⟨j,h⟩ else none
theorem ixU_len(la lb:List UInt8):∀ k,(ixU la lb k).length≤k
  | 0=>Nat.le_refl _
  | k + 1 => by
    have:=ixU_len la lb k
    unfold ixU at this ⊢
    rw[List.range_succ,List.filterMap_append,List.length_append]
    have h1:(List.filterMap (fun j=>if h:j<4080 then if la[j]? = lb[j]? then none else some (⟨j,h⟩:Fin 4080) else none) [k]).length≤1:=List.length_filterMap_le _ _
    omega
theorem ixU_same{la lb:List UInt8}{k:Nat}(h:la[k]? = lb[k]?):ixU la lb (k+1)=ixU la lb k:=by
  unfold ixU
  rw[List.range_succ,List.filterMap_append]
  simp[h]
theorem ixU_hit{la lb:List UInt8}{k:Nat}(hk:k<4080)(h:¬la[k]? = lb[k]?):ixU la lb (k+1)=ixU la lb k++[⟨k,hk⟩]:=by
  unfold ixU
  rw[List.range_succ,List.filterMap_append]
  simp[h,hk]
theorem ixU_pre(la lb:List UInt8){k:Nat}(hk:k<4080):ixU la lb (k+1) <+: ixU la lb 4080:=by
  have go:∀ j,k+1+j≤4080→ixU la lb (k+1) <+: ixU la lb (k+1+j):=by
    intro j
    induction j with
    | zero=>exact fun _=>List.prefix_refl _
    | succ j ih =>
      intro hj
      by_cases h:la[k+1+j]? = lb[k+1+j]?
      · rw[← Nat.add_assoc,ixU_same h];exact ih (by omega)
      · rw[← Nat.add_assoc,ixU_hit (by omega) h];exact(ih (by omega)).trans (List.prefix_append _ _)
  have:=go (4080-(k+1)) (by omega)
  rwa[show k+1+(4080-(k+1))=4080 by omega] at this
theorem belowN(w:World)(B q:Nat):Below B w (w.drewN q):=⟨rfl,rfl,rfl,Nat.le_refl _,fun _ _=>rfl⟩
structure Kd(n₀ B1 B2:Nat)(W W':World):Prop where
  b:Below n₀ W W'
  x1:W'.heap[B1]? = W.heap[B1]?
  x2:W'.heap[B2]? = W.heap[B2]?
theorem Kd.refl(n₀ B1 B2:Nat)(W:World):Kd n₀ B1 B2 W W:=⟨Below.refl _ _,rfl,rfl⟩
theorem Kd.trans{n₀ B1 B2:Nat}{A B C:World}(h:Kd n₀ B1 B2 A B)(k:Kd n₀ B1 B2 B C):Kd n₀ B1 B2 A C:=⟨h.b.trans k.b,k.x1.trans h.x1,k.x2.trans h.x2⟩
theorem Kd.drewN(n₀ B1 B2:Nat)(W:World)(q:Nat):Kd n₀ B1 B2 W (W.drewN q):=⟨belowN _ _ _,rfl,rfl⟩
theorem cell_of_blk{W W':World}{B k:Nat}{v:Value}(h:W'.heap[B]? = W.heap[B]?)(hc:W.cell? ⟨B,k,none⟩=some v):W'.cell? ⟨B,k,none⟩=some v:=by
  simp only[World.cell?] at hc ⊢
  rw[h];exact hc
theorem unlike1_in(n:Nat)(hn:1≤n)(l B1 B2 n₀ b1 o1 c1 b2 o2 c2:Nat)(la lb:List UInt8)(hla:la.length=4080)(hlb:lb.length=4080)(hb1:b1<n₀)(hb2:b2<n₀)(J:List (Fin 4080)→World→Prop)
    (hJd:∀ pre W q,J pre W→J pre (W.drewN q))
    (hY:∀ pre x W,J pre W→pre++[x] <+: ixU la lb 4080→YieldAt Fence.wide (n-1) Tryz.prog l #[.int .i64 (x.val:Int)] W fun e W'=>
      e=.returned (.bool true)∧J (pre++[x]) W'∧Kd n₀ B1 B2 W W')
    (W:World) (hc1:W.cell? ⟨B1,0,none⟩=some (.slice (some ⟨b1,o1,none⟩) 4080 c1)) (hc2:W.cell? ⟨B2,0,none⟩=some (.slice (some ⟨b2,o2,none⟩) 4080 c2))
    (hv1:∀ k (h:k<la.length),W.cell? ⟨b1,o1+k,none⟩=some (u8V la[k])) (hv2:∀ k (h:k<lb.length),W.cell? ⟨b2,o2+k,none⟩=some (u8V lb[k])) (h0:J [] W) :
    CallsIn Fence.wide n Tryz.prog 349 #[.func (.yield l) #[] #[],.pointer (some ⟨B1,0,none⟩),.pointer (some ⟨B2,0,none⟩)] W fun e W'=>(∃ v,e=.returned v)∧J (ixU la lb 4080) W':=by
  have mixed:Tryz.prog.follows .mixedOrders=true:=by kernel_rfl
  refine callsIn_of_wp Tryz.func349 rfl trivial ?_ rfl
  simp only[Tryz.ntmps349,List.size_toArray,List.length_cons,List.length_nil,Nat.reduceAdd,Nat.reduceSub,Array.replicate_succ,Array.replicate_zero,List.push_toArray,List.append_toArray,List.nil_append,List.cons_append]
  gi_wp2
  gi_loopw [7] (fun i wr=>∃ k:Nat,k≤4080∧i=.int .i64 k∧J (ixU la lb k) wr∧Kd n₀ B1 B2 W wr)
    (fun i _=>4080-(intOf i).toNat)
  case atStart=>exact⟨0,Nat.zero_le _,rfl,h0,Kd.refl _ _ _ _⟩
  case round=>
    obtain⟨k,hk,rfl,hJs,hnx⟩:=hrel
    by_cases hlt:k<4080
    · have d1:wr.cell? ⟨B1,0,none⟩=some (.slice (some ⟨b1,o1,none⟩) 4080 c1):=cell_of_blk hnx.x1 hc1
      have d2:wr.cell? ⟨B2,0,none⟩=some (.slice (some ⟨b2,o2,none⟩) 4080 c2):=cell_of_blk hnx.x2 hc2
      obtain⟨x,hx⟩:∃ x,la[k]'(by omega)=x:=⟨_,rfl⟩
      obtain⟨y,hy2⟩:∃ y,lb[k]'(by omega)=y:=⟨_,rfl⟩
      have e1:wr.cell? ⟨b1,o1+k,none⟩=some (.int .u8 (x.toNat:Int)):=by rw[← hx];exact(hnx.b.cell (p:=⟨b1,o1+k,none⟩) hb1).trans (hv1 k (by omega))
      have e2:wr.cell? ⟨b2,o2+k,none⟩=some (.int .u8 (y.toNat:Int)):=by rw[← hy2];exact(hnx.b.cell (p:=⟨b2,o2+k,none⟩) hb2).trans (hv2 k (by omega))
      have g1:la[k]? = some x:=by rw[List.getElem?_eq_getElem (by omega),hx]
      have g2:lb[k]? = some y:=by rw[List.getElem?_eq_getElem (by omega),hy2]
      by_cases hxy:x=y
      · have hst:ixU la lb (k+1)=ixU la lb k:=ixU_same (by rw[g1,g2,hxy])
        subst hxy
        have hd:(((x.toNat:Int)) != ((x.toNat:Int)))=false:=by simp
        gi_wp2
        refine wpIn_region_quiet_lit rfl (by kernel_rfl) (by kernel_rfl) ?_
        repeat (gi_big_quiet_step (fail))
        refine BigFrame.wpQuietIn_skip (fun _ _ _ _=>trivial) rfl ?_
        show wpQuietIn _ _ _ _ _ _ _ ⟨#[_,_,_,_,_,_,_,_,_,_,_,_,_,_,_,_,_,_,_,_,_,_,undef,_,_,_],[]⟩
        repeat (gi_big_quiet_step (fail))
        refine wpQuietIn_nil ?_
        intro _ hw'
        obtain⟨nq,hw''⟩:=hw'
        subst hw''
        gi_wp2
        go_roundw
        case rel=>exact⟨k+1,by omega,by simp,by rw[hst];exact hJd _ _ _ hJs,hnx.trans (Kd.drewN _ _ _ _ _)⟩
        case measure=>simp[intOf];omega
      · have hst:ixU la lb (k+1)=ixU la lb k++[⟨k,hlt⟩]:=ixU_hit hlt (by rw[g1,g2];simpa using hxy)
        have hd:(((x.toNat:Int)) != ((y.toNat:Int)))=true:=by
          simp only[bne_iff_ne,ne_eq]
          intro h
          exact hxy (UInt8.toNat_inj.1 (by omega))
        obtain⟨fn,tmps,assign,body,hy,hR⟩:=hY _ ⟨k,hlt⟩ wr.drew (hJd _ _ 1 hJs) (by rw[← hst];exact ixU_pre la lb hlt)
        dsimp only at hy
        have hR':RoundIn Fence.wide (n-1) Tryz.prog l fn tmps assign body wr.drew (fun e W'=>e=.returned (.bool true)∧J (ixU la lb (k+1)) W'∧Kd n₀ B1 B2 wr.drew W'):=by
          refine hR.mono ?_
          rw[hst]
          exact fun _ _ h=>h
        clear hR
        gi_wp2
        refine wpIn_mono (Q:=Exit.then (fun a w'=>∃ (v8 v9 v10 v11 v12 v13 v14 v15 v16 v17 v18 v19 v20 v21 v22 v23 v25:Value),a=⟨#[.func (.yield l) #[] #[],.pointer (some ⟨B1,0,none⟩),.pointer (some ⟨B2,0,none⟩),undef,.int .i64 k,.slice (some ⟨b1,o1,none⟩) 4080 c1,.int .i64 4080,.int .i64 k,v8,v9,v10,v11,v12,v13,v14,v15,v16,v17,v18,v19,v20,v21,v22,v23,.bool false,v25],[]⟩∧J (ixU la lb (k+1)) w'∧Kd n₀ B1 B2 wr.drew w') (fun _ _ _=>False)) ?reg ?imp
        case reg=>
          gi_region_with_o (refine hR'.mono ?_;rintro e W3 ⟨rfl,hor⟩)
          all_goals exact⟨_,_,_,_,_,_,_,_,_,_,_,_,_,_,_,_,_,rfl,hor⟩
        case imp=>
          intro e a W3 hq
          cases e<;>first | exact hq.elim | skip
          obtain⟨v8,v9,v10,v11,v12,v13,v14,v15,v16,v17,v18,v19,v20,v21,v22,v23,v25,rfl,hJ3,hk3⟩:=hq
          gi_wp2
          go_roundw
          case rel=>exact⟨k+1,by omega,by simp,hJ3,(hnx.trans (Kd.drewN _ _ _ _ 1)).trans hk3⟩
          case measure=>simp[intOf];omega
    · obtain rfl:k=4080:=by omega
      gi_wp2
      go_end0
      exact⟨⟨_,rfl⟩,hJs⟩
theorem unlike_next(n:Nat)(hn:1≤n)(B1 B2 n₀ b1 o1 c1 b2 o2 c2:Nat)(la lb:List UInt8)(hla:la.length=4080)(hlb:lb.length=4080)(hb1:b1<n₀)(hb2:b2<n₀)
    (w:World) (hn₀:n₀≤w.heap.size) (hB1:B1<w.heap.size) (hB2:B2<w.heap.size) (hc1:w.cell? ⟨B1,0,none⟩=some (.slice (some ⟨b1,o1,none⟩) 4080 c1)) (hc2:w.cell? ⟨B2,0,none⟩=some (.slice (some ⟨b2,o2,none⟩) 4080 c2))
    (hv1:∀ k (h:k<la.length),w.cell? ⟨b1,o1+k,none⟩=some (u8V la[k])) (hv2:∀ k (h:k<lb.length),w.cell? ⟨b2,o2+k,none⟩=some (u8V lb[k])) :
    SeqNext Fence.wide n Tryz.prog 349 #[.pointer (some ⟨B1,0,none⟩),.pointer (some ⟨B2,0,none⟩)] (fun x:Fin 4080=>#[Value.int .i64 (x.val:Int)]) (Kd n₀ B1 B2) (ixU la lb 4080) w:=fun l J W hW hJ hY h0=>
  unlike1_in n hn l B1 B2 n₀ b1 o1 c1 b2 o2 c2 la lb hla hlb hb1 hb2 J (fun pre W q h=>hJ pre _ _ none h ⟨rfl,rfl,rfl,Nat.le_refl _,fun _ _ _=>rfl⟩ (fun r e=>by cases e)) hY W
    ((hW.cell (p:=⟨B1,0,none⟩) hB1).trans hc1) ((hW.cell (p:=⟨B2,0,none⟩) hB2).trans hc2) (fun k h=>(hW.cell (p:=⟨b1,o1+k,none⟩) (Nat.lt_of_lt_of_le hb1 hn₀)).trans (hv1 k h)) (fun k h=>(hW.cell (p:=⟨b2,o2+k,none⟩) (Nat.lt_of_lt_of_le hb2 hn₀)).trans (hv2 k h)) h0
end Go.Proofs.YtdbkocfbhpgpkaaGreat
