/-
  tree.Check at a tree of one leaf.
-/
import Derived.Test.YtdbkocfbhpgpkaaGreatb50
import Derived.Test.YtdbkocfbhpgpkaaGreatb35
import Derived.Test.YtdbkocfbhpgpkaaGreatb23
import Derived.Test.YtdbkocfbhpgpkaaGreatb46
set_option linter.unusedVariables false
set_option linter.unusedSimpArgs false
namespace Go.Proofs.YtdbkocfbhpgpkaaGreat
open Go Go.RowKit Go.Shelf
set_option maxRecDepth 100000
set_option maxHeartbeats 1600000
theorem read_g{Z:Nat→Prop}{w:World}{n0 d db cA:Nat}{A:Option Addr}{P:PD}(h:Dk Z w n0 d db (.slice A 0 cA) P)(b:Nat)(hb:b<P.bs.length) :
    Calls Tryz.prog 213 #[.pointer (some ⟨d,0,none⟩),.int .i64 (b:Int)] w fun e w'=>(∃ g,e=.returned (.tuple #[.slice (some ⟨g,0,none⟩) 4096 4096,.int .i64 0])∧Bk Z w' (.slice (some ⟨g,0,none⟩) 4096 4096) P.bs[b])∧Below w.heap.size w w':=by
  obtain⟨W0,hW0⟩:∃ W0,((w.alloc (.cells #[.int .i64 (b:Int)] 3)).alloc (.cells #[.slice none 0 0] 33)).alloc (.cells #[.int .i64 0] 29)=W0:=⟨_,rfl⟩
  have hb0:Below w.heap.size w W0:=by rw[← hW0];exact(((Below.refl _ _).alloc (Nat.le_refl _) _).alloc (by simp) _).alloc (by simp;omega) _
  have hs0:W0.heap.size=w.heap.size+3:=by rw[← hW0];simp
  have g3:W0.heap[w.heap.size]? = some (.cells #[.int .i64 (b:Int)] 3 (0,0)):=by
    rw[← hW0]
    exact(Below.heap_alloc _ _ _ (by simp;omega)).trans ((Below.heap_alloc _ _ _ (by simp)).trans (heap_alloc_new w _))
  have g4:W0.heap[w.heap.size+1]? = some (.cells #[.slice none 0 0] 33 (0,0)):=by
    rw[← hW0]
    refine(Below.heap_alloc _ _ _ (by simp)).trans ?_
    have:=heap_alloc_new (w.alloc (.cells #[.int .i64 (b:Int)] 3)) (.cells #[.slice none 0 0] 33)
    simpa using this
  have g5:W0.heap[w.heap.size+1+1]? = some (.cells #[.int .i64 0] 29 (0,0)):=by
    rw[← hW0]
    have:=heap_alloc_new ((w.alloc (.cells #[.int .i64 (b:Int)] 3)).alloc (.cells #[.slice none 0 0] 33)) (.cells #[.int .i64 0] 29)
    simpa using this
  have h0:=h.below hb0
  have hA:=asked_any h0.box b hb
  have cb:W0.cell? ⟨w.heap.size,0,none⟩=some (.int .i64 (b:Int)):=cellD g3 0
  obtain⟨-,-,c2,c3,-⟩:=h0.box.cells
  have hB:=fun w=>backward_any A 0 cA w
  refine(callsIn_wide (n:=5)).1 ?_
  refine callsIn_of_wp_marks (F:=Fence.wide) (n:=5) Tryz.func213 rfl trivial ?_ rfl
  refine wpIn_wide.2 ?_
  simp only[Tryz.ntmps213,List.size_toArray,List.length_cons,List.length_nil,Nat.reduceAdd,Nat.reduceSub,Array.replicate_succ,Array.replicate_zero,List.push_toArray,List.append_toArray,List.nil_append,List.cons_append]
  go_wp2_with (first
    | (go_at_call 153;refine hA.mono ?_;rintro e W0 ⟨rfl,rfl⟩)
    | (go_at_call 258;refine(hB _).mono ?_;rintro e W1 ⟨rfl,hW1⟩))
  have b01:Below W0.heap.size W0 (W0.alloc (.cells #[.slice A 0 cA] 140)):=(Below.refl _ _).alloc (Nat.le_refl _) _
  have cp:(W0.alloc (.cells #[.slice A 0 cA] 140)).cell? ⟨w.heap.size+3,0,none⟩=some (.slice A 0 cA):=World.cell?_alloc_at _ _ _ _ (by simp[hs0])
  clear hW1
  generalize W0.alloc (.cells #[.slice A 0 cA] 140)=W1 at b01 cp
  refine range_none (gf:=291) (lb:=#[.pointer (some ⟨w.heap.size+3,0,none⟩)]) rfl (fun args w=>by simp[go_sem,Tryz.func291]) (fun l W2 hb2=>?_) fun D W3 hb3 hD hzD=>?_
  · refine(none_back _ _ cA A W2 ((hb2.cell (p:=⟨w.heap.size+3,0,none⟩) ?_).trans cp)).mono ?_
    · have:=b01.size
      have:w.heap.size+3<W1.heap.size:=by
        simp only[World.cell?] at cp
        split at cp
        · rename_i hh;exact hlt hh
        all_goals cases cp
      exact this
    · rintro e w' ⟨rfl,rfl⟩;exact⟨⟨_,rfl⟩,rfl⟩
  have b03:Below W0.heap.size W0 W3:=b01.trans (hb3.mono b01.size)
  have h3:=h0.below b03
  have hz0:∀ k,k<W0.heap.size→W3.heap[k]? = W0.heap[k]?:=fun k hk=>b03.block k hk
  obtain⟨W4,hW4⟩:∃ W4,W3.drew=W4:=⟨_,rfl⟩
  have h4:Dk Z W4 n0 d db (.slice A 0 cA) P:=by rw[← hW4];exact h3.below ⟨rfl,rfl,rfl,Nat.le_refl _,fun _ _=>rfl⟩
  have e4:W4.heap=W3.heap:=by rw[← hW4];rfl
  have b34:Below W3.heap.size W3 W4:=by rw[← hW4];exact⟨rfl,rfl,rfl,Nat.le_refl _,fun _ _=>rfl⟩
  have b04:Below w.heap.size w W4:=hb0.trans ((b03.trans (b34.mono b03.size)).mono (by omega))
  have c1':=h4.box.cells.2.1
  have cb':W4.cell? ⟨w.heap.size,0,none⟩=some (.int .i64 (b:Int)):=by simp[World.cell?,e4,hz0 w.heap.size (by omega),g3]
  obtain⟨cs,hr1,hr2,hr3⟩:=h4.row
  obtain⟨u,hu,hd⟩:=hr3 b hb
  have cu:W4.cell? ⟨db,b,none⟩=some u:=(cellD hr1 b).trans hu
  have W:=whole_db hd h4.wet
  have g4':W4.heap[w.heap.size+1]? = some (.cells #[.slice none 0 0] 33 (0,0)):=by rw[e4,hz0 _ (by omega)];exact g4
  have g5':W4.heap[w.heap.size+1+1]? = some (.cells #[.int .i64 0] 29 (0,0)):=by rw[e4,hz0 _ (by omega)];exact g5
  have hD4:W4.heap[D]? = some (.deferred (some [])):=by rw[e4];exact hD
  have hDz:w.heap.size+3≤D:=by have:=b01.size;omega
  have hz4:w.heap.size+1+1<W4.heap.size:=hlt g5'
  go_wp2
  refine stillW 7 (by kernel_rfl) (by kernel_rfl) W4 hW4 ?_
  simp only[List.take_succ_cons,List.take_zero,List.drop_succ_cons,List.drop_zero]
  repeat still_step
  refine wpStill_nil ?_
  go_wp2_with (go_at_call 140;refine W.mono ?_;rintro e W5 ⟨⟨u1,rfl,hB,g,rfl,hg⟩,hb5⟩;have q4:=(hb5.block _ (by omega)).trans g4';have q5:=(hb5.block _ hz4).trans g5';have hD5:=(hb5.block _ (hlt hD4)).trans hD4;have z4:=frozenD q4 0;have z5:=frozenD q5 0;have k4:=cellD q4 0;have k5:=cellD q5 0)
  have q6:(W5.setCell ⟨w.heap.size+1,0,none⟩ (.slice (some ⟨g,0,none⟩) 4096 4096)).heap[w.heap.size+1]? = some (.cells #[.slice (some ⟨g,0,none⟩) 4096 4096] 33 (0,0)):=by rw[heap_setCell_same W5 _ 0 _ _ _ q4];rfl
  have b6:∀ k,k≠w.heap.size+1→(W5.setCell ⟨w.heap.size+1,0,none⟩ (.slice (some ⟨g,0,none⟩) 4096 4096)).heap[k]? = W5.heap[k]?:=fun k hk=>Below.heap_setCell W5 _ _ k hk
  have s6:(W5.setCell ⟨w.heap.size+1,0,none⟩ (.slice (some ⟨g,0,none⟩) 4096 4096)).heap.size=W5.heap.size:=by simp
  have B6:Below w.heap.size w (W5.setCell ⟨w.heap.size+1,0,none⟩ (.slice (some ⟨g,0,none⟩) 4096 4096)):=(b04.trans (hb5.mono (by omega))).setCell (by simp) _
  generalize W5.setCell ⟨w.heap.size+1,0,none⟩ (.slice (some ⟨g,0,none⟩) 4096 4096)=W6 at *
  have q7:(W6.setCell ⟨w.heap.size+1+1,0,none⟩ (.int .i64 0)).heap[w.heap.size+1+1]? = some (.cells #[.int .i64 0] 29 (0,0)):=by rw[heap_setCell_same W6 _ 0 _ _ _ ((b6 _ (by omega)).trans q5)];rfl
  have b7:∀ k,k≠w.heap.size+1+1→(W6.setCell ⟨w.heap.size+1+1,0,none⟩ (.int .i64 0)).heap[k]? = W6.heap[k]?:=fun k hk=>Below.heap_setCell W6 _ _ k hk
  have B7:Below w.heap.size w (W6.setCell ⟨w.heap.size+1+1,0,none⟩ (.int .i64 0)):=B6.setCell (by simp;omega) _
  generalize W6.setCell ⟨w.heap.size+1+1,0,none⟩ (.int .i64 0)=W7 at *
  have hD7:W7.heap[D]? = some (.deferred (some [])):=by rw[b7 _ (by omega),b6 _ (by omega)];exact hD5
  have k4':W7.cell? ⟨w.heap.size+1,0,none⟩=some (.slice (some ⟨g,0,none⟩) 4096 4096):=by simp[World.cell?,b7 _ (show w.heap.size+1≠w.heap.size+1+1 by omega),q6]
  have k5':W7.cell? ⟨w.heap.size+1+1,0,none⟩=some (.int .i64 0):=cellD q7 0
  have hgz:W4.heap.size≤g:=hg
  have hBk:Bk Z W7 (.slice (some ⟨g,0,none⟩) 4096 4096) P.bs[b]:=by
    obtain⟨g',e,hh,hl⟩:=hB
    cases e
    exact⟨g,rfl,(b7 _ (by omega)).trans ((b6 _ (by omega)).trans hh),hl⟩
  have hDl:=hlt hD7
  have kk:∀ (k:Nat) (hk:k≠D),(W7.putObj D (.deferred none)).heap[k]? = W7.heap[k]?:=fun k hk=>World.putObj_heap_other hk
  refine⟨by simp,.inl ⟨_,_,rfl,run_takeDeferred hD7,?_⟩⟩
  refine⟨_,ret_cc rfl rfl rfl (u:=.slice (some ⟨g,0,none⟩) 4096 4096) (v:=.int .i64 0) ?_ ?_,⟨⟨g,rfl,?_⟩,?_⟩⟩
  · simp only[World.cell?,kk _ (show w.heap.size+1≠D by omega)];exact k4'
  · simp only[World.cell?,kk _ (show w.heap.size+1+1≠D by omega)];exact k5'
  · obtain⟨g',e,hh,hl⟩:=hBk
    cases e
    refine⟨g,rfl,(kk _ ?_).trans hh,hl⟩
    rintro rfl
    rw[hD7] at hh;cases hh
  · exact⟨B7.os,B7.tape,B7.output,by have:=B7.size;simpa[World.putObj] using this,fun k hk=>(kk _ (by omega)).trans (B7.block k hk)⟩
section
variable {Z:Nat→Prop}{w:World}{p d m:Nat}{R:PR}{f:FR}
theorem pasked0(h:PB Z w p d m R):Calls Tryz.prog 311 #[.pointer (some ⟨p,0,none⟩),.int .i64 0] w fun e w'=>e=.returned (.int .i64 0)∧w'=w:=by
  have c3:w.cell? ⟨p,3,none⟩=some (.int .i64 (R.pages:Int)):=cellD h.box 3
  have f1:¬(R.pages:Int)≤0:=by have:=h.pg;omega
  have f2:¬R.pages≤0:=by have:=h.pg;omega
  have f3:¬R.pages=0:=by have:=h.pg;omega
  have M:=pmade_any h
  go_enter Tryz.func311,Tryz.ntmps311
  go_wp2_with (go_at_call 237;(with_reducible refine M.mono ?_);rintro e w ⟨rfl,rfl⟩)
  go_ret
  exact⟨rfl,rfl⟩
theorem pget0{n0 db s c0 B:Nat}{A0:Option Addr}{P:PD}{l:List UInt8}(h:PB Z w p d m R)(hf:R.held=some f)(hBf:B≤f.fr)(D:Dk Z w n0 d db (.slice A0 0 c0) P)(hb:R.base<P.bs.length)(hB:R.base≤100000)(hp:P.bs[R.base]? = some (sealed l s))(hl:l.length=4080) :
    Calls Tryz.prog 274 #[.pointer (some ⟨p,0,none⟩),.int .i64 0] w fun e w'=>(∃ v,e=.returned (.tuple #[v,.int .i64 0])∧Own w' w.heap.size v l)∧(∃ fr c,PB2 w' p d m fr c R f∧B≤fr)∧Kp (fun k=>k=p∨k=m∨k=f.fr) w w':=by
  have hm0:MapI w m [(1,.int .i64 0)]:=by have:=h.map;unfold PR.m at this;rw[hf] at this;exact this
  have L:=lookP hm0 0
  have A:=pasked0 h
  have c9:w.cell? ⟨p,9,none⟩=some (.map (some m)):=cellD h.box 9
  have hpb:P.bs[R.base]=sealed l s:=by rw[List.getElem?_eq_getElem hb] at hp;injection hp
  have RD:=read_g (w:=w.drew) (D.below (below_drew w)) R.base hb
  rw[hpb] at RD
  have f0:IntKind.i64.wrap (R.base:Int)=(R.base:Int):=by rw[IntKind.wrap_i64];omega
  have c1:w.drew.cell? ⟨p,1,none⟩=some (.pointer (some ⟨d,0,none⟩)):=cellD (w:=w.drew) h.box 1
  have c2:w.drew.cell? ⟨p,2,none⟩=some (.int .i64 (R.base:Int)):=cellD (w:=w.drew) h.box 2
  have kk:=And.intro c1 c2
  have KK:∀ w2,Below w.drew.heap.size w.drew w2→w2.cell? ⟨p,1,none⟩=some (.pointer (some ⟨d,0,none⟩))∧w2.cell? ⟨p,2,none⟩=some (.int .i64 (R.base:Int)):=fun w2 b=>⟨cellD (keepB b h.box) 1,cellD (keepB b h.box) 2⟩
  go_enter Tryz.func274,Tryz.ntmps274
  go_upto_region 8 with (go_at_call 311;(with_reducible refine A.mono ?_);rintro e w ⟨rfl,rfl⟩)
  go_region_held3 (fun w'=>w'.cell? ⟨p,1,none⟩=some (.pointer (some ⟨d,0,none⟩))∧w'.cell? ⟨p,2,none⟩=some (.int .i64 (R.base:Int)))
    (first | with_reducible exact kk | with_reducible exact kk2 | go_keep)
    (first
      | (go_at_call 213;(with_reducible refine RD.mono ?_);rintro e w2 ⟨⟨g,rfl,B2⟩,b2⟩;have kk2:=KK w2 b2)
      | fail)
  all_goals
    obtain⟨g',e0,hg',hlen,hzg⟩:=B2
    injection e0 with e0
    injection e0 with e0
    injection e0 with e0
    subst e0
    have r2:Rd w2 w2.heap.size (some ⟨g,0,none⟩) (sealed l s):=fun _=>⟨g,0,rfl,hlt hg',fun k hk=>by
      rw[Nat.zero_add,cellD hg']
      simp[hk]⟩
    have OP:=open_any g 0 4096 (sealed l s) w2 r2 hlen (Nat.le_refl _)
    rw[sealed_a,sealed_m hl,sealed_z hl] at OP
    have bw2:Below w.heap.size w w2:=(below_drew w).trans b2
    have h2:=h.below bw2
    clear A L c1 c2 kk kk2 KK RD r2
    go_upto_region 14 with (go_at_call 259;(with_reducible refine OP.mono ?_);rintro e w3 ⟨⟨-,A3,c3,rfl,o3⟩ | ⟨hne,-⟩,b3⟩)
    all_goals first | exact absurd rfl hne | skip
    obtain⟨q3,hq3⟩:∃ q3,A3=some ⟨q3,0,none⟩:=by
      rcases o3.form with⟨e,e2⟩|⟨q,cp,e,-⟩
      · rw[e2] at hl;cases hl
      · injection e with e;exact⟨q,e⟩
    subst hq3
    have h3:=h2.below b3
    have HO:=hold2_any (pb:=q3) (pc:=c3) h3 hf hBf
    have bw3:=bw2.trans (b3.mono bw2.size)
    have hne:∀ k,(Value.slice (some ⟨q3,0,none⟩) 4080 c3).ownBlock=some k→¬(k=p∨k=m∨k=f.fr):=fun k e q=>by
      rcases q with q|q|q
      · subst q;exact o3.tag h3.box (by decide) e
      · subst q;exact o3.tagm h3.map e
      · subst q
        obtain⟨cur,hcur,-⟩:=(h3.fr f hf).row
        exact o3.tag hcur (by decide) e
    have HNE:=Lib.hid hne
    clear OP h2 h3 hne
    go_upto_region 17 with (go_at_call 312;(with_reducible refine HO.mono ?_);rintro e w4 ⟨rfl,fr,c4,H4,hB4,k4⟩)
    have F4:=o3.kp k4 HNE.out
    obtain⟨A5,c5,e5,-,-,r5⟩:=F4.sl hl
    injection e5 with e5 e6 e7
    subst e5 e7
    have CL:=clone_any q3 0 c3 4080 l w4 r5 hl.symm (by omega) (by omega)
    have z4:w.heap.size≤w4.heap.size:=Nat.le_trans bw3.size k4.size
    clear HO F4
    go_wp2_with (go_at_call 99;(with_reducible refine CL.mono ?_);rintro e w5 ⟨⟨v,rfl,o5⟩,b5⟩)
    go_ret2
    exact⟨⟨_,rfl,o5.down z4⟩,⟨_,_,H4.below b5,hB4⟩,((Kp.of bw3).then k4).then (Kp.of b5)⟩
end
section
variable {Z:Nat→Prop}{w:World}{p d m a j im x s:Nat}{R:PR}{b:Bool}
theorem xget_pool0{Q:Value→World→Prop}(h:XB Z w x a s none)(h2:AB w a p j im b)(G:Calls Tryz.prog 274 #[.pointer (some ⟨p,0,none⟩),.int .i64 0] w fun e w'=>∃ v,e=.returned (.tuple #[v,.int .i64 0])∧Q v w') :
    Calls Tryz.prog 240 #[.pointer (some ⟨x,0,none⟩),.int .i64 0] w fun e w'=>∃ v,e=.returned (.tuple #[v,.int .i64 0])∧Q v w':=by
  have ST:=xstands_any h h2
  have hm:MapI w s []:=h.map
  have L:=lookX hm 0
  have c2:w.cell? ⟨x,2,none⟩=some (.map (some s)):=cellD h.box 2
  have c1:w.cell? ⟨x,1,none⟩=some (.pointer (some ⟨a,0,none⟩)):=cellD h.box 1
  have d1:w.cell? ⟨a,1,none⟩=some (.pointer (some ⟨p,0,none⟩)):=cellD h2.box 1
  go_enter Tryz.func240,Tryz.ntmps240
  go_wp2_with (first
    | (go_at_call 273;(with_reducible refine ST.mono ?_);rintro e w ⟨rfl,rfl⟩)
    | (go_at_call 274;(with_reducible refine G.mono ?_);rintro e w2 ⟨v,rfl,q⟩))
  go_ret2
  exact⟨_,rfl,q⟩
theorem xpages2{fr c:Nat}{f:FR}(h:XB Z w x a s none)(h2:AB w a p j im b)(h3:PB2 w p d m fr c R f):Calls Tryz.prog 244 #[.pointer (some ⟨x,0,none⟩)] w fun e w'=>e=.returned (.int .i64 (R.pages:Int))∧w'=w:=by
  have M:=xmade_any h
  have M2:=ppages2 h3
  have c1:w.cell? ⟨x,1,none⟩=some (.pointer (some ⟨a,0,none⟩)):=cellD h.box 1
  have d1:w.cell? ⟨a,1,none⟩=some (.pointer (some ⟨p,0,none⟩)):=cellD h2.box 1
  go_enter Tryz.func244,Tryz.ntmps244
  go_wp2_with (first
    | (go_at_call 276;(with_reducible refine M.mono ?_);rintro e w ⟨rfl,rfl⟩)
    | (go_at_call 231;(with_reducible refine M2.mono ?_);rintro e w ⟨rfl,rfl⟩))
  go_ret
  exact⟨rfl,rfl⟩
end
set_option maxHeartbeats 4000000
theorem holds_t(v:Value)(w:World):Calls Tryz.prog 181 #[.int .i64 1,.agg #[.int .u8 1,.int .i64 0,v]] w fun e w'=>e=.returned (.bool true)∧Below w.heap.size w w':=by
  obtain⟨W1,hW1,g1,b1,s1⟩:=box_alloc w (.cells #[.int .u8 1,.int .i64 0,v] 116)
  have c0:W1.cell? ⟨w.heap.size,0,none⟩=some (.int .u8 1):=cellD g1 0
  clear s1
  go_enter Tryz.func181,Tryz.ntmps181
  go_wp2
  go_ret
  exact⟨rfl,b1⟩
theorem cmp_nil(k:List UInt8):0≤Lib.compareBytes k []:=by cases k<;>simp[Lib.compareBytes]
theorem within_t{w:World}{A:Option Addr}{n c:Nat}{cv:List CV}{ks:List (List UInt8)}(hl:cv.length=n)(hrd:RdC w w.heap.size A cv)(hn:n≤100000)(hk:∀ j (h:j<cv.length) (g:j<ks.length),cv[j].kn=ks[j].length∧Rd w w.heap.size cv[j].ka ks[j])(hkl:ks.length=cv.length) :
    Calls Tryz.prog 182 #[.agg #[.int .u8 1,.int .i64 0,.slice A n c],.slice none 0 0,.slice none 0 0] w fun e w'=>e=.returned (.bool true)∧Below w.heap.size w w':=by
  obtain⟨W1,hW1,g1,b1,s1⟩:=box_alloc w (.cells #[.int .u8 1,.int .i64 0,.slice A n c] 116)
  have c2:W1.cell? ⟨w.heap.size,2,none⟩=some (.slice A n c):=cellD g1 2
  have HK:=Lib.hid hk
  have HKL:=Lib.hid hkl
  have HRD:=Lib.hid hrd
  have HL:=Lib.hid hl
  clear s1 hk hkl hrd hl
  go_enter Tryz.func182,Tryz.ntmps182
  go_wp2
  go_loopw [12] (fun k wr=>∃ q:Nat,q≤n∧k=.int .i64 (q:Nat)∧Below w.heap.size w wr) (fun k _=>n-(RowKit.intOf k).toNat)
  case atStart=>exact⟨0,Nat.zero_le _,rfl,b1⟩
  case round=>
    obtain⟨q,hq,rfl,bb⟩:=hrel
    by_cases hqn:q<n
    · have hqc:q<cv.length:=by rw[HL.out];exact hqn
      have hqk:q<ks.length:=by rw[HKL.out];exact hqc
      obtain⟨b,o,rfl,hb,hcc⟩:=HRD.out (fun e=>by rw[e] at hqc;simp at hqc)
      obtain⟨x1,x2⟩:=hcc q hqc
      obtain⟨k1,k2⟩:=HK.out q hqc hqk
      obtain⟨⟨ka,kn,kc,va,vn,vc⟩,hX⟩:∃ X,cv[q]=X:=⟨_,rfl⟩
      rw[hX] at x1 x2 k1 k2
      have d1:wr.cell? ⟨b,o+q * 2,none⟩=some (.slice ka kn kc):=(bb.cell (p:=⟨b,o+q * 2,none⟩) hb).trans x1
      have d2:wr.cell? ⟨b,o+q * 2+1,none⟩=some (.slice va vn vc):=(bb.cell (p:=⟨b,o+q * 2+1,none⟩) hb).trans x2
      obtain⟨W6,hW6,g6,b6,s6⟩:=box_alloc wr (.cells #[.slice ka kn kc,.slice va vn vc] 219)
      have y0:W6.cell? ⟨wr.heap.size,0,none⟩=some (.slice ka kn kc):=cellD g6 0
      have b06:=bb.trans (b6.mono bb.size)
      have CM:=cmp_any ka none kc 0 kn 0 ks[q] [] W6 ((k2.below b06).more b06.size) (fun h=>absurd rfl h) k1 rfl
      have hz:=cmp_nil ks[q]
      obtain⟨z,ez⟩:∃ z,Lib.compareBytes ks[q] []=z:=⟨_,rfl⟩
      rw[ez] at CM hz
      have f1:¬(z<0):=by omega
      clear s6 hX x1 x2 hcc k1 k2 ez
      go_wp2_with (go_at_call 192;(with_reducible refine CM.mono ?_);rintro e w7 ⟨rfl,rfl⟩)
      refine⟨⟨q+1,by omega,by simp,b06⟩,?_⟩
      simp[RowKit.intOf];omega
    · obtain rfl:q=n:=by omega
      clear hqn hq
      go_wp2
      go_ret
      exact⟨rfl,bb⟩
theorem linked_t{w:World}{g c n d:Nat}{B:Option Addr}(h0:w.cell? ⟨g,0,none⟩=some (.int .i64 1))(h1:w.cell? ⟨g,1,none⟩=some (.int .u8 1))(h2:w.cell? ⟨g,2,none⟩=some (.int .i64 0))(h3:w.cell? ⟨g,3,none⟩=some (.slice B n d))(h4:w.cell? ⟨g,4,none⟩=some (.int .i64 0))(hc:1≤c) :
    Calls Tryz.prog 185 #[.slice (some ⟨g,0,none⟩) 1 c] w fun e w'=>e=.returned (.bool true)∧Below w.heap.size w w':=by
  obtain⟨W6,hW6,g6,b6,s6⟩:=box_alloc w (.cells #[.int .i64 1,.int .u8 1,.int .i64 0,.slice B n d,.int .i64 0] 260)
  have y4:W6.cell? ⟨w.heap.size,4,none⟩=some (.int .i64 0):=cellD g6 4
  have z4:W6.frozen? ⟨w.heap.size,4,none⟩=false:=frozenD g6 4
  obtain⟨W7,hW7,g7,k7,s7⟩:=set_name 4 g6 (.int .i64 0)
  have y2:W7.cell? ⟨w.heap.size,2,none⟩=some (.int .i64 0):=cellD g7 2
  have b7:Below w.heap.size w W7:=b6.trans (k7.below b6.size fun g hg e=>by have:g=w.heap.size:=e;omega)
  clear s6 s7
  go_enter Tryz.func185,Tryz.ntmps185
  go_wp2
  go_loopw [8] (fun k wr=>(k=.int .i64 0∧wr=w)∨(k=.int .i64 1∧wr=W7)) (fun k _=>2-(RowKit.intOf k).toNat)
  case atStart=>exact .inl ⟨rfl,rfl⟩
  case round=>
    rcases hrel with⟨rfl,rfl⟩|⟨rfl,rfl⟩
    · go_wp2
      go_roundw
      case rel=>exact .inr ⟨by first | rfl | trivial,by first | rfl | trivial⟩
      case measure=>decide
    · go_wp2
      go_ret
      exact⟨rfl,b7⟩
theorem covers_t{w:World}{g m c:Nat}(hm:MapI w m [(1,.int .i64 1)])(h0:w.cell? ⟨g,0,none⟩=some (.int .i64 0))(h1:w.cell? ⟨g,1,none⟩=some (.int .i64 1))(hc:2≤c) :
    Calls Tryz.prog 186 #[.map (some m),.slice (some ⟨g,0,none⟩) 2 c] w fun e w'=>e=.returned (.bool true)∧w'=w:=by
  have L:=run_lookup_int (P:=Tryz.prog) Tryz.underlying252 Tryz.underlying3 hm 1 (zero3 w)
  have L2:(Instr.lookup 252 (.map (some m)) (.int .i64 1) false).run Tryz.prog w=.ok (.int .i64 1) w:=L
  clear L
  have LN:=fun ty=>run_len_int (P:=Tryz.prog) Tryz.underlying252 hm ty
  rw[show(([(1,Value.int .i64 1)]:List (Int×Value)).length:Int)=1 from rfl] at LN
  go_enter Tryz.func186,Tryz.ntmps186
  go_wp2
  go_loopw [16] (fun k wr=>(k=.int .i64 0∧wr=w)∨(k=.int .i64 1∧wr=w)) (fun k _=>2-(RowKit.intOf k).toNat)
  case atStart=>exact .inl ⟨rfl,rfl⟩
  case round=>
    rcases hrel with⟨rfl,rfl⟩|⟨rfl,rfl⟩
    · go_wp2
      go_roundw
      case rel=>exact .inr ⟨by first | rfl | trivial,by first | rfl | trivial⟩
      case measure=>decide
    · go_wp2
      go_ret
      exact⟨rfl,rfl⟩
end Go.Proofs.YtdbkocfbhpgpkaaGreat
namespace Go.Proofs.YtdbkocfbhpgpkaaGreat
open Go Go.RowKit Go.Shelf
open Go.Ev (PgM PageOk CellsOut rowsOf rowsV rowV rowsOf_len BelowIs)
set_option maxRecDepth 100000
set_option maxHeartbeats 4000000
theorem infoSt:(Tryz.prog.info? 260).map (fun i=>(i.zero,i.size,i.bytes))=some (some (.agg #[.int .i64 0,.int .u8 0,.int .i64 0,.slice none 0 0,.int .i64 0]),5,56):=by kernel_rfl
theorem walk_t{S:Nat→Prop}{Q:World→Prop}{w:World}{x bx bm bl bw m:Nat}{cs:List NC}(hn:cs.length≤60)
    (LD:Calls Tryz.prog 180 #[.pointer (some ⟨x,0,none⟩),.int .i64 1] w fun e w'=>(∃ v,e=.returned (.tuple #[.agg #[.int .u8 1,.int .i64 0,v],.int .i64 0])∧CellsOut 219 w.heap.size w' v cs)∧Q w'∧Kp S w w')
    (hx:w.cell? ⟨bx,0,none⟩=some (.pointer (some ⟨x,0,none⟩))) (hm:w.heap[bm]? = some (.cells #[.map (some m)] 252 (0,0))) (hmm:MapI w m []) (hl:w.heap[bl]? = some (.cells #[.slice none 0 0] 253 (0,0)))
    (h1:¬S bm) (h2:¬S bl) (h3:¬S m) :
    Calls Tryz.prog 179 #[.int .i64 1,.int .i64 1,.slice none 0 0,.slice none 0 0,.pointer (some ⟨bx,0,none⟩),.pointer (some ⟨bm,0,none⟩),.pointer (some ⟨bl,0,none⟩),.pointer (some ⟨bw,0,none⟩)] w fun e w'=>e=.returned (.tuple #[.int .i64 1,.int .i64 0])∧∃ w2,Q w2∧Kp S w w2∧Kp (fun b=>b=bl∨b=m) w2 w'∧MapI w' m [(1,.int .i64 1)] ∧
      ∃ g c n d B,w'.cell? ⟨bl,0,none⟩=some (.slice (some ⟨g,0,none⟩) 1 c)∧1≤c∧(∃ cur,w'.heap[g]? = some (.cells cur 260 (0,0)))∧w'.cell? ⟨g,0,none⟩=some (.int .i64 1)∧w'.cell? ⟨g,1,none⟩=some (.int .u8 1)∧w'.cell? ⟨g,2,none⟩=some (.int .i64 0)∧w'.cell? ⟨g,3,none⟩=some (.slice B n d)∧w'.cell? ⟨g,4,none⟩=some (.int .i64 0):=by
  have HM:=Lib.hid (And.intro hm (And.intro hmm hl))
  clear hm hmm hl
  go_enter Tryz.func179,Tryz.ntmps179
  go_upto_region 2 with (go_at_call 180;(with_reducible refine LD.mono ?_);rintro e w2 ⟨⟨v,rfl,ho⟩,hq,k2⟩;obtain⟨A,c,cv,rfl,hl,hrd,hcv⟩:=out_cvo ho)
  obtain⟨W3,hW3,g3,b3,s3⟩:=box_alloc w2 (.cells #[.int .u8 1,.int .i64 0,.slice A cs.length c] 116)
  try rw[hW3]
  have hm2:=k2.keep HM.out.1 h1
  have mm2:=HM.out.2.1.kp k2 h3
  have hl2:=k2.keep HM.out.2.2 h2
  have x2:W3.cell? ⟨bm,0,none⟩=some (.map (some m)):=cellD (keepB b3 hm2) 0
  have L:=run_lookup_int (P:=Tryz.prog) Tryz.underlying252 Tryz.underlying3 (mm2.below b3) 1 (zero3 W3)
  have L2:(Instr.lookup 252 (.map (some m)) (.int .i64 1) false).run Tryz.prog W3=.ok (.int .i64 0) W3:=L
  clear L
  have HO:=holds_t (.slice A cs.length c) W3
  have hz2:=k2.size
  have WI:=Lib.hid (fun w4 (b4:Below W3.heap.size W3 w4)=>within_t (A:=A) (n:=cs.length) (c:=c) (cv:=cv) (ks:=cs.map NC.key) (w:=w4) hl (fun hne=>by
    obtain⟨b,o,e,hb,hc⟩:=hrd hne
    have b24:=b3.trans (b4.mono b3.size)
    exact⟨b,o,e,Nat.lt_of_lt_of_le hb b24.size,fun j hj=>⟨(b24.cell (p:=⟨b,o+j * 2,none⟩) hb).trans (hc j hj).1,(b24.cell (p:=⟨b,o+j * 2+1,none⟩) hb).trans (hc j hj).2⟩⟩) (Nat.le_trans hn (by decide)) (fun j hj hg=>by
    have b24:=b3.trans (b4.mono b3.size)
    have o:=hcv j hj (by simpa using hg)
    rw[List.getElem_map]
    exact⟨o.kn.trans (show cs[j].kn=cs[j].key.length from(bl_length _ _).symm),(o.rk.below b24).more b24.size⟩) (by simp[hl]))
  have FX:=Lib.hid (fun w4 (b4:Below W3.heap.size W3 w4)=>show w4.heap[w2.heap.size]? = some (.cells #[.int .u8 1,.int .i64 0,.slice A cs.length c] 116 (0,0)) from keepB b4 g3)
  have HK:=Lib.hid (And.intro hm2 (And.intro mm2 (And.intro hl2 (And.intro hq (And.intro k2 b3)))))
  clear hcv hrd ho hm2 mm2 hl2 hq k2 hn LD
  have y0:=cellD (FX.out W3 (Below.refl _ _)) 0
  have y1:=cellD (FX.out W3 (Below.refl _ _)) 1
  have y2:=cellD (FX.out W3 (Below.refl _ _)) 2
  have y0:W3.cell? ⟨w2.heap.size,0,none⟩=some (.int .u8 1):=y0
  have y1:W3.cell? ⟨w2.heap.size,1,none⟩=some (.int .i64 0):=y1
  have y2:W3.cell? ⟨w2.heap.size,2,none⟩=some (.slice A cs.length c):=y2
  go_upto_region 6 with (first
    | (go_at_call 181;(with_reducible refine HO.mono ?_);rintro e w4 ⟨rfl,b4⟩;have W4:=WI.out w4 b4;have u0:w4.cell? ⟨w2.heap.size,0,none⟩=some (.int .u8 1):=cellD (FX.out w4 b4) 0;have u1:w4.cell? ⟨w2.heap.size,1,none⟩=some (.int .i64 0):=cellD (FX.out w4 b4) 1;have u2:w4.cell? ⟨w2.heap.size,2,none⟩=some (.slice A cs.length c):=cellD (FX.out w4 b4) 2)
    | (go_at_call 182;(with_reducible refine W4.mono ?_);rintro e w5 ⟨rfl,b5⟩))
  have b35:=b4.trans (b5.mono b4.size)
  obtain⟨hm2,mm2,hl2,hq,k2,b3⟩:=HK.out
  have b25:=b3.trans (b35.mono b3.size)
  have mm5:=mm2.below b25
  have x5:w5.cell? ⟨bm,0,none⟩=some (.map (some m)):=cellD (keepB b25 hm2) 0
  obtain⟨W6,hU,m6,o6,s6,os6,t6,u6⟩:=run_update_int (P:=Tryz.prog) Tryz.underlying252 Tryz.underlying3 mm5 1 (.int .i64 1)
  have k6:Kp (·=m) w5 W6:=⟨os6,t6,u6,Nat.le_of_eq s6.symm,fun k _ hk=>o6 k hk⟩
  have p5:=FX.out w5 b35
  have p6:=k6.keep p5 (fun e=>mm5.ne p5 e.symm)
  have v0:W6.cell? ⟨w2.heap.size,0,none⟩=some (.int .u8 1):=cellD p6 0
  have v1:W6.cell? ⟨w2.heap.size,1,none⟩=some (.int .i64 0):=cellD p6 1
  have v2:W6.cell? ⟨w2.heap.size,2,none⟩=some (.slice A cs.length c):=cellD p6 2
  have l5:=keepB b25 hl2
  have l6:=k6.keep l5 (fun e=>mm5.ne l5 e.symm)
  have x6:W6.cell? ⟨bl,0,none⟩=some (.slice none 0 0):=cellD l6 0
  obtain⟨W7,hW7,g7,b7,s7⟩:=box_alloc W6 (.cells #[.int .i64 1,.int .u8 1,.int .i64 0,.slice A cs.length c,.int .i64 0] 260)
  have nw:=news5 g7
  have HX:=Lib.hid (And.intro b25 (And.intro k6 (And.intro m6 (And.intro l6 (And.intro g7 b7)))))
  clear HO W4 u0 u1 u2 y0 y1 y2 x2 L2 s6 os6 t6 u6 o6 mm5 mm2 hm2 hl2 hq k2 b3 b25 b35 b4 b5 k6 m6 p5 p6 l5 l6 s3 g3 hW3
  go_upto_region 8 with fail
  go_wp2_with (at_builtin;refine apG rfl (.tmp 62) (.tmp 66) 253 260 (.agg #[.int .i64 0,.int .u8 0,.int .i64 0,.slice none 0 0,.int .i64 0]) 5 56 Tryz.underlying253 infoSt rfl (by decide) rfl 0 (.slice none 0 0) 0 [] rfl (World.ownsRow_nil _ _ _ _) ⟨W6.heap.size,0,none⟩ 1 1 [.int .i64 1,.int .u8 1,.int .i64 0,.slice A cs.length c,.int .i64 0] rfl rfl nw ?c1 (by decide) (by decide) ?c2 ?_)
  case c1=>intro u hu;simp at hu;rcases hu with rfl | rfl | rfl | rfl | rfl<;>rfl
  case c2=>exact Nat.zero_le _
  intro v8 W8 own8 grow8 at8
  obtain⟨-,⟨e8,h8⟩|⟨g8,c8,cur8,rfl,-,hc8,h81,-,-,htk⟩⟩:=own8
  · exact absurd h8 (by decide)
  obtain⟨b25,k6,m6,l6,g7,b7⟩:=HX.out
  have kk8:Kp (fun _=>False) W7 W8:=(Kp.grow grow8).weaken fun b e=>by cases e
  have b78:Below W7.heap.size W7 W8:=kk8.below (Nat.le_refl _) fun _ _ e=>e
  have b68:=b7.trans (b78.mono b7.size)
  have l8:=keepB b68 l6
  have x8:W8.cell? ⟨bl,0,none⟩=some (.slice none 0 0):=cellD l8 0
  have z8:W8.frozen? ⟨bl,0,none⟩=false:=frozenD l8 0
  obtain⟨W9,hW9,g9,k9,s9⟩:=set_name 0 l8 (.slice (some ⟨g8,0,none⟩) 1 c8)
  have hgb:g8≠bl:=tag_ne hc8 l8 (by decide)
  have hc9:=k9.keep hc8 hgb
  have hmb:m≠bl:=fun e=>m6.ne l6 e
  have m9:=(m6.below b68).kp k9 hmb
  have HF:=Lib.hid (And.intro b25 (And.intro k6 (And.intro b68 (And.intro k9 (And.intro hc9 (And.intro m9 (And.intro g9 (And.intro htk h81))))))))
  clear b25 k6 m6 l6 g7 b7 kk8 b78 b68 l8 k9 hc9 m9 g9 s9 htk h81 hc8 grow8 at8 nw s7
  go_wp2
  go_ret2
  obtain⟨b25,k6,b68,k9,hc9,m9,g9,htk,h81⟩:=HF.out
  obtain⟨-,-,-,hq,k2,-⟩:=HK.out
  have at_:∀ j,j<5→cur8[j]? = ([Value.int .i64 1,.int .u8 1,.int .i64 0,.slice A cs.length c,.int .i64 0])[j]?:=fun j hj=>by
    have:=congrArg (fun l=>l[j]?) htk
    simp only[List.getElem?_take,if_pos (show j<1 * 5 by omega),Array.getElem?_toList] at this
    exact this
  refine⟨rfl,w2,hq,k2,?_,m9,g8,c8,cs.length,c,A,cellD g9 0,h81,⟨_,hc9⟩,(cellD hc9 0).trans (at_ 0 (by decide)),(cellD hc9 1).trans (at_ 1 (by decide)),(cellD hc9 2).trans (at_ 2 (by decide)),(cellD hc9 3).trans (at_ 3 (by decide)),(cellD hc9 4).trans (at_ 4 (by decide))⟩
  exact(((Kp.of (S:=fun b=>b=bl∨b=m) b25).then (k6.weaken fun _ e=>.inr e)).then (Kp.of b68)).then (k9.weaken fun _ e=>.inl e)
end Go.Proofs.YtdbkocfbhpgpkaaGreat
namespace Go.Proofs.YtdbkocfbhpgpkaaGreat
open Go Go.RowKit Go.Shelf
set_option maxRecDepth 100000
set_option maxHeartbeats 4000000
section
variable {X:ST}{D:SD}{w w':World}
theorem StW.steps{bl m:Nat}{c1:Array Value}{mm:List (Int×Value)}(st:StW X D w)(kk:Kp (fun b=>b=bl∨b=m) w w')(h1:w.heap[bl]? = some (.cells c1 253 (0,0)))(h2:MapI w m mm)(d1:m≠X.m)(d2:m≠X.im)(d3:m≠X.who)(d4:m≠X.B.wk):StW X D w':=by
  have ne:∀ {g:Nat} {x:Array Value} {u:TypeId} {z:Nat×Nat},w.heap[g]? = some (.cells x u z)→u≠253→¬(g=bl∨g=m):=fun e hu q=>by
    rcases q with q|q
    · exact tag_ne e h1 hu q
    · exact h2.ne e q.symm
  have nm:∀ {g:Nat} {l:List (Int×Value)},MapI w g l→m≠g→¬(g=bl∨g=m):=fun e hg q=>by
    rcases q with q|q
    · exact e.ne h1 q
    · exact hg q.symm
  have no:∀ {B:Nat} {v:Value} {l:List UInt8},Own w B v l→∀ g,v.ownBlock=some g→¬(g=bl∨g=m):=fun o g e q=>by
    rcases q with q|q
    · exact o.tag h1 (by decide) (q▸e)
    · exact o.tagm h2 (q▸e)
  have d:=st.dk
  refine⟨kk.keep st.sb (ne st.sb (by decide)),kk.keep st.jb (ne st.jb (by decide)),st.jo.kp kk (no st.jo),st.pb.kp kk (ne st.pb.box (by decide)) (nm st.pb.map d1) (fun f hf=>?_) (fun _ _ h=>h),st.ab.kp kk (ne st.ab.box (by decide)) (nm st.ab.map d2),?_,kk.keep st.tb (ne st.tb (by decide)),st.tw,st.tm.kp kk (nm st.tm d3),st.tr.kp kk (fun g e q=>?_),st.wk.kp kk (nm st.wk d4),st.d1,st.d2,st.d3,st.d4,st.d5,st.d6,st.hi⟩
  · obtain⟨cur,e,-⟩:=(st.pb.fr f hf).row
    exact⟨ne e (by decide),no (st.pb.fr f hf).pay⟩
  · have k5:∀ (g:Nat) (x:Array Value),¬Zj D.J g→w.heap[g]? = some (.cells x 5 (0,0))→w'.heap[g]? = w.heap[g]?:=fun g x _ e=>kk.block g (hlt e) (ne e (by decide))
    have bk:∀ v l,Bk (Zj D.J) w v l→Bk (Zj D.J) w' v l:=fun v l b=>b.wet (fun _ _ h=>h) k5
    obtain⟨cs,h3,h4,h5⟩:=d.row
    refine⟨kk.keep d.box (ne d.box (by decide)),⟨cs,kk.keep h3 (ne h3 (by decide)),h4,fun k hk=>?_⟩,?_,d.ok,Nat.le_trans d.base kk.size,fun g hg=>Nat.lt_of_lt_of_le (d.wet g hg) kk.size⟩
    · obtain⟨u,a,b⟩:=h5 k hk
      exact⟨u,a,b.imp (bk _ _) id⟩
    · obtain⟨us,q1,q2,q3⟩:=d.pend
      exact⟨us,q1,ownsRow_same q2 fun g x e=>kk.block g (hlt e) (ne e (by decide)),fun k a b=>bk _ _ (q3 k a b)⟩
  · rcases q with q|q
    · exact st.tr.ne h1 (by decide) (q▸e)
    · exact st.tr.nem h2 (q▸e)
end
end Go.Proofs.YtdbkocfbhpgpkaaGreat
namespace Go.Proofs.YtdbkocfbhpgpkaaGreat
open Go Go.RowKit Go.Shelf
open Go.Ev (PgM PageOk CellsOut rowsOf rowsV rowV rowsOf_len BelowIs)
set_option maxRecDepth 100000
set_option maxHeartbeats 4000000
structure CK(X:ST)(D:SD)(f:FR)(fr c:Nat)(w:World):Prop where
  sb:SB w X.s X.B D.S
  ab:AB w X.B.a X.B.p X.B.j X.im D.b
  tb:TB w X.B.t D.T
  pb:PB2 w X.B.p X.B.d X.m fr c D.R f
  lo:X.n0≤fr
  d1:X.m≠X.im
theorem free_bool:Free 4:=⟨by decide,by decide,by decide,by decide,by decide,by decide,by decide,by decide,by decide,by decide,by decide⟩
section
variable {X:ST}{D:SD}{f:FR}{fr c:Nat}{w w':World}{k:Nat}{cs:List NC}{U:Int→Option Us}
theorem CK.below(h:CK X D f fr c w)(b:Below w.heap.size w w'):CK X D f fr c w':=⟨keepB b h.sb,h.ab.below b,h.tb.below b,h.pb.below b,h.lo,h.d1⟩
theorem CK.soft{N:Nat}{cs:Array Value}{t:TypeId}(h:CK X D f fr c w)(k:Kp (·=N) w w')(hg:w.heap[N]? = some (.cells cs t (0,0)))(ht:Free t):CK X D f fr c w':=by
  have ne:∀ {g:Nat} {x:Array Value} {u:TypeId} {z:Nat×Nat},w.heap[g]? = some (.cells x u z)→t≠u→¬g=N:=fun e hu q=>tag_ne e hg (fun q=>hu q.symm) q
  have nm:∀ {g:Nat} {l:List (Int×Value)},MapI w g l→¬g=N:=fun e q=>e.ne hg q
  obtain⟨cur,e,-⟩:=h.pb.row
  exact⟨k.keep h.sb (ne h.sb ht.t1),h.ab.kp k (ne h.ab.box ht.t6) (nm h.ab.map),k.keep h.tb (ne h.tb ht.t10),h.pb.kp k (ne h.pb.box ht.t4) (nm h.pb.map) (ne e ht.t5) fun g e q=>h.pb.pay.tag hg ht.t3 (q▸e),h.lo,h.d1⟩
theorem CK.pool{w':World}(h:CK X D f fr c w)(k:Kp (·=fr) w w')(pb:PB2 w' X.B.p X.B.d X.m fr c D.R f):CK X D f fr c w':=by
  obtain⟨cur,e,-⟩:=h.pb.row
  have ne:∀ {g:Nat} {x:Array Value} {u:TypeId} {z:Nat×Nat},w.heap[g]? = some (.cells x u z)→u≠364→¬g=fr:=fun e1 hu q=>tag_ne e1 e hu q
  exact⟨k.keep h.sb (ne h.sb (by decide)),h.ab.kp k (ne h.ab.box (by decide)) (h.ab.map.ne e),k.keep h.tb (ne h.tb (by decide)),pb,h.lo,h.d1⟩
def CP (X:ST)(f:FR)(k:Nat):Prop:=k=X.B.p∨k=X.m∨k=f.fr
theorem pend_nil{Z:Nat→Prop}{n0:Nat}{pv:Value}(h:Pn Z w n0 pv []):∃ A c,pv=.slice A 0 c:=by
  obtain⟨us,q1,q2,q3⟩:=h
  rcases q2.2 with⟨rfl,-⟩|⟨g,c,cur,rfl,-⟩
  · exact⟨_,_,rfl⟩
  · exact⟨_,_,rfl⟩
theorem getz_t{Z:Nat→Prop}{x sx st0:Nat}(st:StW X (D.hold f) w)(hx:XB Z w x X.B.a sx none)(hm:sx≠X.m)(hws:D.P.ws=[])(hb:D.R.base=62)(hl:D.P.bs.length=142)(hp:D.P.bs[62]? = some (sealed (padP taken) st0)) :
    Calls Tryz.prog 240 #[.pointer (some ⟨x,0,none⟩),.int .i64 0] w fun e w'=>∃ b o cc,e=.returned (.tuple #[.slice (some ⟨b,o,none⟩) 4080 cc,.int .i64 0])∧TK w' b o∧b<w'.heap.size∧(∃ fr c,CK X (D.hold f) f fr c w')∧XB Z w' x X.B.a sx none∧Kp (CP X f) w w':=by
  have dk:=st.dk
  have pn:=dk.pend
  rw[show(D.hold f).P=D.P from rfl,hws] at pn
  obtain⟨A0,c0,hpv⟩:=pend_nil pn
  rw[hpv] at dk
  obtain⟨cur,hcur,-⟩:=(st.pb.fr f rfl).row
  have ne:∀ {g:Nat} {y:Array Value} {u:TypeId} {z:Nat×Nat},w.heap[g]? = some (.cells y u z)→u≠318→u≠364→¬CP X f g:=fun {g y u z} e h1 h2 q=>by
    rcases q with q|q|q
    · exact tag_ne e st.pb.box h1 q
    · exact st.pb.map.ne e q.symm
    · exact tag_ne e hcur h2 q
  have nm:∀ {g:Nat} {l:List (Int×Value)},MapI w g l→g≠X.m→¬CP X f g:=fun {g l} e h1 q=>by
    rcases q with q|q|q
    · exact e.ne st.pb.box q
    · exact h1 q
    · exact e.ne hcur q
  have hb2:(D.hold f).R.base=62:=hb
  have G:=pget0 (R:=(D.hold f).R) (f:=f) (B:=X.n0) (s:=st0) (l:=taken) st.pb rfl (st.hi f rfl) dk (by rw[hb2];show 62<D.P.bs.length;omega) (by rw[hb2];decide) (by rw[hb2,← padP_full taken_len];exact hp) taken_len
  refine(xget_pool0 (Q:=fun v w'=>Own w' w.heap.size v taken∧(∃ fr c,PB2 w' X.B.p X.B.d X.m fr c (D.hold f).R f∧X.n0≤fr)∧Kp (CP X f) w w') hx st.ab (G.mono ?_)).mono ?_
  · rintro e w' ⟨⟨v,rfl,ho⟩,pb,kk⟩
    exact⟨v,rfl,ho,pb,kk⟩
  · rintro e w' ⟨v,rfl,ho,⟨fr,c,pb,hlo⟩,kk⟩
    rcases ho.form with⟨-,e⟩|⟨g,cap,rfl,hg,hgl,hcc,hmm,hcell⟩
    · cases e
    · refine⟨g,0,cap,by rw[taken_len],fun j hj=>by rw[Nat.zero_add];exact hcell j hj,hgl,⟨fr,c,⟨kk.keep st.sb (ne st.sb (by decide) (by decide)),st.ab.kp kk (ne st.ab.box (by decide) (by decide)) (nm st.ab.map fun e=>st.d1 e.symm),kk.keep st.tb (ne st.tb (by decide) (by decide)),pb,hlo,st.d1⟩⟩,hx.kp kk (ne hx.box (by decide) (by decide)) (nm hx.map hm) (fun u e=>nomatch e) (fun _ _ h=>h),kk⟩
theorem spaceall_t{Z:Nat→Prop}{x sx st0:Nat}(st:StW X (D.hold f) w)(hx:XB Z w x X.B.a sx none)(hm:sx≠X.m)(hws:D.P.ws=[])(hb:D.R.base=62)(hl:D.P.bs.length=142)(hp:D.P.bs[62]? = some (sealed (padP taken) st0))(hpg:D.R.pages=80) :
    Calls Tryz.prog 184 #[.pointer (some ⟨x,0,none⟩)] w fun e w'=>(∃ g c,e=.returned (.tuple #[.slice (some ⟨g,0,none⟩) 2 c,.int .i64 0])∧2≤c∧w'.cell? ⟨g,0,none⟩=some (.int .i64 0)∧w'.cell? ⟨g,1,none⟩=some (.int .i64 1))∧(∃ fr c,CK X (D.hold f) f fr c w')∧Kp (CP X f) w w':=by
  have pages:∀ w1,(∃ fr c,CK X (D.hold f) f fr c w1)→XB Z w1 x X.B.a sx none→Calls Tryz.prog 244 #[.pointer (some ⟨x,0,none⟩)] w1 fun e w2=>e=.returned (.int .i64 80)∧w2=w1:=fun w1 ⟨fr,c,ck⟩ hx1=>by
    have h:=xpages2 hx1 ck.ab ck.pb
    rw[show(D.hold f).R.pages=80 from hpg] at h
    exact h
  refine(all_t (Q:=fun w1=>(∃ fr c,CK X (D.hold f) f fr c w1)∧XB Z w1 x X.B.a sx none∧Kp (CP X f) w w1) w (.pointer (some ⟨x,0,none⟩)) ((pageMap_t w (.pointer (some ⟨x,0,none⟩)) (fun b o c w2=>b<w2.heap.size∧(∃ fr c,CK X (D.hold f) f fr c w2)∧XB Z w2 x X.B.a sx none∧Kp (CP X f) w w2) ((getz_t st hx hm hws hb hl hp).mono ?_)).mono ?_) fun w3 q=>pages w3 q.1 q.2.1).mono ?_
  · rintro e w1 ⟨b,o,cc,rfl,tk,hbl,⟨fr,c,ck⟩,hx1,kk⟩
    refine⟨b,o,cc,rfl,tk,fun q=>?_⟩
    have bq:=drewN_below w1 w1.heap.size q
    refine(pages _ ⟨fr,c,ck.below bq⟩ (hx1.below bq)).mono ?_
    rintro e w2 ⟨rfl,rfl⟩
    exact⟨rfl,tk.below hbl bq,Nat.lt_of_lt_of_le hbl bq.size,⟨fr,c,ck.below bq⟩,hx1.below bq,kk.then (Kp.of bq)⟩
  · rintro e w3 ⟨b,o,cc,w2,q,rfl,tk,⟨hbl,⟨fr,c,ck⟩,hx1,kk⟩,rfl⟩
    have bq:=drewN_below w2 w2.heap.size q
    exact⟨b,o,cc,rfl,tk.below hbl bq,Nat.lt_of_lt_of_le hbl bq.size,⟨fr,c,ck.below bq⟩,hx1.below bq,kk.then (Kp.of bq)⟩
  · rintro e w' ⟨v,w3,rfl,ho,⟨⟨fr,c,ck⟩,hx1,kk⟩,b3⟩
    refine⟨?_,⟨fr,c,ck.below b3⟩,kk.then (Kp.of b3)⟩
    rcases ho.2 with⟨-,h0⟩|⟨g,cap,cur,e,h1,h2,h3,h4,h5,h6⟩
    · exact absurd h0 (by decide)
    · have at_:∀ j,j<2→cur[j]? = ([Value.int .i64 0,.int .i64 1])[j]?:=fun j hj=>by
        have:=congrArg (fun l=>l[j]?) h6
        simp only[List.getElem?_take,Array.getElem?_toList] at this
        rw[if_pos (show j<([0,1]:List Int).length * 1 by show j<2;omega)] at this
        exact this
      exact⟨g,cap,by rw[e];rfl,h3,(cellD h2 0).trans (at_ 0 (by decide)),(cellD h2 1).trans (at_ 1 (by decide))⟩
end
end Go.Proofs.YtdbkocfbhpgpkaaGreat
