/-
  slices.Insert(s, i, x) of one value at []api.Cell (two cells a value), i below len(s): what the call does, where there is room and where there is none.
-/
import Derived.Test.YtdbkocfbhpgpkaaGreatm23
import Derived.Test.YtdbkocfbhpgpkaaGreatProg
import Derived.Shelf.Spec.SlicesInsertGrow
import Derived.WalkKit
import Derived.KernelRfl
set_option linter.unusedVariables false
set_option linter.unusedSimpArgs false
namespace Go.Ev
open Go Go.RowKit
noncomputable section
structure InsAt(P:Program)(f et:Nat):Prop where
  enter:enters P f=true
  call:∀ (b off n c i vb voff vc:Nat) (cs vs:List Value) (w:World) (C D:Array Value) (e e2:TypeId) (fz fz2:Nat×Nat),
    i<n→fitsA (n+1) 48=true→vb≠b→cs.length=n * 2→vs.length=2→w.heap[b]? = some (.cells C e fz)→w.heap[vb]? = some (.cells D e2 fz2) →
    (∀ (j:Nat) (v:Value),cs[j]? = some v→C[off+j]? = some v)→(∀ (j:Nat) (v:Value),vs[j]? = some v→D[voff+j]? = some v)→n≤c→off+c * 2≤C.size→free fz (C.size+1)→free fz2 (D.size+1) →
    (∀ v∈cs,v.oneCell'=true)→(∀ v∈vs,v.oneCell'=true) →
    Calls P f #[.slice (some ⟨b,off,none⟩) n c,.int .i64 i,.slice (some ⟨vb,voff,none⟩) 1 vc] w fun x w'=>SameOut w w' ∧
      ((∃ C' : Array Value, n + 1 ≤ c ∧ x = .returned (.slice (some ⟨b, off, none⟩) (n + 1) c) ∧ C'.size = C.size ∧ w'.heap = w.heap.setIfInBounds b (.cells C' e fz) ∧ ∀ (k : Nat) (v : Value), (cs.take (i * 2) ++ (vs ++ cs.drop (i * 2)))[k]? = some v → C'[off + k]? = some v) ∨
       (∃ (C':Array Value) (cap':Nat),n+1≤cap'∧x=.returned (.slice (some ⟨w.heap.size,0,none⟩) (n+1) cap')∧C'.size=cap' * 2∧w'.heap=w.heap.push (.cells C' et (0,0))∧∀ (k:Nat) (v:Value),(cs.take (i * 2)++(vs++cs.drop (i * 2)))[k]? = some v→C'[0+k]? = some v))
def insA (j off n o k jv offv lv:Nat)(st:St):Option (AV×St):=
  bif (Nat.beq o 2 && Nat.beq lv 1) && (Nat.blt k n && (fitsA (n+1) 48 && (st.room && not (Nat.beq j jv)))) then
    match st.obj j,st.obj jv with
    | .cells true sz d t, .cells true sz2 d2 t2 => match (AO.cells true sz d t).blk off (n * 2), (AO.cells true sz2 d2 t2).blk offv 2 with
      | some (.l ol),some (.l xl)=>bif ol.all AV.one && xl.all AV.one then
          match mkRow (.l (ol.take (k * 2)++(xl++ol.drop (k * 2)))) with
          | some ob=>some (.slice st.next 0 (n+1) (n+1) 2,(st.put j .dead).alloc ob)
          | none=>none
        else none
      | _,_=>none
    | _,_=>none
  else none
def insE:List FuncId→ExtF
  | [],_,_,_=>none
  | fI::T,f,args,st=>bif Nat.beq f fI then
      match args with
      | [.slice j off n _ o,.int .i64 (.ofNat k),.slice jv offv lv _ _]=>insA j off n o k jv offv lv st
      | _=>none
    else insE T f args st
theorem row_of_cells{ρ:Ren}{st:St}{w:World}(hR:Rel ρ st w){j sz d:Nat}{t:T AV}(h:st.obj j=.cells true sz d t) :
    j<st.next∧st.heap.get j=.cells true sz d t∧∃ L C e fz,ρ j=some L∧w.heap[L.b]? = some (.cells C e fz)∧L.top≤C.size∧free fz (C.size+1):=by
  obtain⟨hi,hg⟩:=St.obj_live (st:=st) (i:=j) (by rw[h];rfl)
  rw[hg] at h
  obtain⟨L,ob,hL,hob,hr⟩:=hR.live j hi (by rw[h];rfl)
  rw[h] at hr
  obtain⟨_,_,C,e,fz,rfl,_,h2,_,h3⟩:=hr
  exact⟨hi,h,L,C,e,fz,hL,hob,h2,h3 rfl⟩
theorem insA_sound{P:Program}{f et:Nat}(K:InsAt P f et){j off n cap o k jv offv lv cv ov:Nat}{st st':St}{v:AV}(h:insA j off n o k jv offv lv st=some (v,st')){ρ:Ren}{w:World}{v0 v2:Value}
    (hR:Rel ρ st w) (h0:VR ρ (.slice j off n cap o) v0) (h2:VR ρ (.slice jv offv lv cv ov) v2) :
    Calls P f #[v0,.int .i64 (k:Int),v2] w fun e w'=>∃ vc,e=.returned vc∧∃ ρ',VR ρ' v vc∧Good ρ st w ρ' st' w':=by
  unfold insA at h
  obtain⟨hc,h'⟩:=bif_some h
  clear h;have h:=h';clear h'
  simp only[Bool.and_eq_true] at hc
  obtain⟨⟨ho,hlv⟩,hk,hfit,hroom,hne⟩:=hc
  have ho:=Nat.eq_of_beq_eq_true ho
  have hlv:=Nat.eq_of_beq_eq_true hlv
  subst ho;subst hlv
  have hk:k<n:=blt_iff.1 hk
  have hjne:j≠jv:=fun e=>by subst e;rw[show Nat.beq j j=true from Nat.beq_refl j] at hne;cases hne
  split at h
  · rename_i sz d t sz2 d2 t2 hoj hov
    split at h
    · rename_i ol xl hbj hbv
      obtain⟨hone,h'⟩:=bif_some h
      clear h;have h:=h';clear h'
      simp only[Bool.and_eq_true] at hone
      split at h
      · rename_i ob hob
        simp only[Option.some.injEq,Prod.mk.injEq] at h
        obtain⟨rfl,rfl⟩:=h
        rw[← hoj] at hbj
        rw[← hov] at hbv
        obtain⟨hj,hgj,L,C,e,fz,hL,hC,htop,hfz⟩:=row_of_cells hR hoj
        obtain⟨hjv,hgv,M,D,e2,fz2,hM,hD,_,hfz2⟩:=row_of_cells hR hov
        obtain⟨L',hL',cs,hcs,hcl,hcc,_⟩:=hR.blk hbj
        rw[hL] at hL';cases hL'
        obtain⟨M',hM',vs,hvs,hvl,hvv,_⟩:=hR.blk hbv
        rw[hM] at hM';cases hM'
        simp only[Blk.toL] at hcs hvs
        have hbne:M.b≠L.b:=hR.inj jv j M L hjv hj (Ne.symm hjne) (by rw[hgv];rfl) (by rw[hgj];rfl) hM hL
        obtain⟨c,rfl,hnc,hct⟩:∃ c,v0=.slice (some (L.at off)) n c∧n≤c∧L.sh+off+c * 2≤L.top:=by
          cases h0 with
          | slice _ _ _ _ _ cap' L' hL' hp hl g0 g1 =>
            rw[hL] at hL';cases hL'
            have:=g1 (by omega)
            exact⟨cap',rfl,by omega,this.2⟩
          | slice0=>omega
        obtain⟨vc,rfl⟩:∃ vc,v2=.slice (some (M.at offv)) 1 vc:=by
          cases h2 with
          | slice _ _ _ _ _ cap' L' hL' hp hl g0 g1 =>
            rw[hM] at hL';cases hL'
            exact⟨cap',rfl⟩
        have hone1:∀ v∈cs,v.oneCell'=true:=one_of_VRs hcs hone.1
        have hone2:∀ v∈vs,v.oneCell'=true:=one_of_VRs hvs hone.2
        have hjoin:VRs ρ (ol.take (k * 2)++(xl++ol.drop (k * 2))) (cs.take (k * 2)++(vs++cs.drop (k * 2))):=(hcs.take _).append (hvs.append (hcs.drop _))
        have hjl:(cs.take (k * 2)++(vs++cs.drop (k * 2))).length=(n+1) * 2:=by
          simp only[List.length_append,List.length_take,List.length_drop,hcl,hvl];omega
        have hwr:(st.heap.get j).writable=true:=by rw[hgj];rfl
        refine(K.call L.b (L.sh+off) n c k M.b (M.sh+offv) vc cs vs w C D e e2 fz fz2 hk hfit hbne hcl hvl hC hD
          (fun i u hu=>by have:=hcc i u hu;rw[Loc.at,cell?_of_block hC] at this;rw[Nat.add_assoc];exact this)
          (fun i u hu=>by have:=hvv i u hu;rw[Loc.at,cell?_of_block hD] at this;rw[Nat.add_assoc];exact this) hnc (by omega) hfz hfz2 hone1 hone2).mono ?_
        rintro x w' ⟨hs,hx⟩
        rcases hx with⟨C',hroomc,rfl,hsz,hheap,hget⟩|⟨C',cap',hcap,rfl,hsz,hheap,hget⟩
        · refine⟨_,rfl,ρ.set st.next ⟨L.b,L.sh+off,L.top⟩,?_,(hR.move (ob:=.cells C' e fz) (sh:=L.sh+off) (top:=L.top) hj hwr hL hroom ?_ rfl).congr hheap ⟨hs.os,hs.tape,hs.output⟩⟩
          · exact .slice st.next 0 (n+1) (n+1) 2 c ⟨L.b,L.sh+off,L.top⟩ (Ren.set_same _ _ _) (by omega) (Nat.le_refl _) (fun h=>absurd h (by omega)) (fun _=>⟨hroomc,by simpa using hct⟩)
          · refine mkRow_rel_at hob (vs:=cs.take (k * 2)++(vs++cs.drop (k * 2))) (hjoin.ext (Ren.ext_set (hR.fresh _ (Nat.le_refl _)))) hget (by rw[hjl];omega) (by omega) (hfz.mono (by omega)) (fun _ _=>by rw[hsz];exact hfz)
        · refine⟨_,rfl,ρ.set st.next ⟨w.heap.size,0,C'.size⟩,?_,(hR.kill hj).trans (Good.alloc' (sh:=0) (top:=C'.size) (hR.kill hj).rel hroom hheap hs ?_)⟩
          · exact .slice st.next 0 (n+1) (n+1) 2 cap' ⟨w.heap.size,0,C'.size⟩ (Ren.set_same _ _ _) (by omega) (Nat.le_refl _) (fun h=>absurd h (by omega)) (fun _=>⟨hcap,by simp[hsz]⟩)
          · refine mkRow_rel_at hob (vs:=cs.take (k * 2)++(vs++cs.drop (k * 2))) (hjoin.ext (Ren.ext_set (hR.fresh _ (Nat.le_refl _)))) hget (by rw[hjl];omega) (Nat.le_refl _) (free_none _) (fun _ _=>free_none _)
      · cases h
    · cases h
  · cases h
theorem insE_ok{P:Program}{G:Nat}:∀ {T:List FuncId},(∀ f∈T,∃ et,InsAt P f et)→ExtOk P G (insE T):=by
  intro T
  induction T with
  | nil=>intro _ f args st v st' h;cases h
  | cons fI T ih =>
    intro hT f args st v st' h ρ w cargs hR hG hA
    have hT':=ih (fun x hx=>hT x (by simp[hx]))
    obtain⟨et,K⟩:=hT fI (by simp)
    unfold insE at h
    cases hf:Nat.beq f fI with
    | false =>
      rw[hf] at h
      exact hT' f args st v st' h ρ w cargs hR hG hA
    | true =>
      rw[hf] at h
      simp only[cond_true] at h
      have:=Nat.eq_of_beq_eq_true hf
      subst this
      refine .inl ⟨enters_spec K.enter cargs,?_⟩
      obtain⟨cl⟩:=cargs
      split at h
      · rename_i j off n cap o k jv offv lv cv ov
        cases hA with | cons h0 hA=>
        cases hA with | cons h1 hA=>
        cases hA with | cons h2 hA=>
        cases hA
        cases h1
        exact insA_sound K h hR h0 h2
      · cases h
end
end Go.Ev
namespace Go.Proofs.YtdbkocfbhpgpkaaGreat
open Go Go.RowKit Go.Lib
theorem run_copy_cells2{P:Program}(w:World)(dT sT ty elem:TypeId)(b o dLen dCap:Nat)(a:Addr)(sLen sCap:Nat)(cs:List Value)
    (hu:P.underlying dT=some (.slice elem)) (hs:(P.info? elem).map (·.size)=some 2) (hn:cs.length=Nat.min sLen dLen * 2)
    (hsrc:∀ j v,cs[j]? = some v→w.cell? (a.add j)=some v) (hc:∀ j,j<cs.length→(w.cell? ⟨b,o+j,none⟩).isSome=true) (hf:∀ j,j<cs.length→w.frozen? ⟨b,o+j,none⟩=false) (h1:∀ v∈cs,v.oneCell'=true) :
    (Builtin.copy_ #[dT,sT] ty #[.slice (some ⟨b,o,none⟩) dLen dCap,.slice (some a) sLen sCap]).run P w=.ok (goInt (Nat.min sLen dLen)) (w.setCells b o cs):=by
  have hl:=run_loadCells_list (P:=P) w a cs hsrc
  have hst:=run_storeCells_cells (P:=P) b o cs 0 w (by simpa using hc) (by simpa using hf) h1
  rw[hn] at hl
  cases hq:P.info? elem with
  | none=>simp[hq] at hs
  | some i =>
    have hi:i.size=2:=by simpa[hq] using hs
    simp[Builtin.copy_,run_underlying hu,Builtin.lenOf,Builtin.firstCells,sizeOf,typeInfo,hq,hi,hl,hst]
theorem szCell:(Tryz.prog.info? 219).map (·.size)=some 2:=by kernel_rfl
theorem infoCell:(Tryz.prog.info? 219).map (fun i=>(i.zero,i.size,i.bytes))=some (some (.agg #[.slice none 0 0,.slice none 0 0]),2,48):=by kernel_rfl
set_option maxHeartbeats 4000000 in
set_option maxRecDepth 100000 in
theorem ins_shift(b off n c i vb voff vc:Nat)(cs vs:List Value)(w:World)(hi:i<n)(hroom:n+1≤c)(hc63:n+1≤9223372036854775807)(hvb:vb≠b)
    (hcl:cs.length=n * 2) (hvl:vs.length=2)
    (hcs:∀ j v,cs[j]? = some v→w.cell? ⟨b,off+j,none⟩=some v) (hsp:∀ j,j<(n+1) * 2→(w.cell? ⟨b,off+j,none⟩).isSome=true) (hfz:∀ j,j<(n+1) * 2→w.frozen? ⟨b,off+j,none⟩=false)
    (hvs:∀ j v,vs[j]? = some v→w.cell? ⟨vb,voff+j,none⟩=some v) (h1c:∀ v∈cs,v.oneCell'=true) (h1v:∀ v∈vs,v.oneCell'=true)
    (tA tB:TypeId) (kA kB:Nat) (hsa:w.shape? vb=some (tA,kA)) (hsb:w.shape? b=some (tB,kB)) (hkB:kB≠0) (hfa:w.frozen? ⟨vb,voff,none⟩=false) (hfe:w.frozen? ⟨vb,kA,none⟩=false) :
    Calls Tryz.prog 251 #[.slice (some ⟨b,off,none⟩) n c,.int .i64 i,.slice (some ⟨vb,voff,none⟩) 1 vc] w fun e w'=>
      e=.returned (.slice (some ⟨b,off,none⟩) (n+1) c)∧w'=(w.drew.setCells b (off+(i+1) * 2) (cs.drop (i * 2))).setCells b (off+i * 2) vs:=by
  have hz2:¬((i:Int)=(n:Int)):=by omega
  have hov:∀ lb cb,(callFunc 279 #[.slice (some ⟨vb,voff,none⟩) 1 vc,.slice (some ⟨b,off+(i+1) * 2,none⟩) lb cb]).run Tryz.prog w=.ok (.value (.bool false)) w:=fun lb cb=>by
    rw[run_callFunc_extern Tryz.func279 (by kernel_rfl) (by kernel_rfl) (by kernel_rfl) (e:=Extern.SlicesOverlaps.overlaps #[114,114] #[4]) (by kernel_rfl),
      Lib.run_overlaps_apart w 114 4 219 Tryz.underlying114 2 (fun w=>by obtain⟨i0,h0,_,h2,_⟩:=info_parts infoCell;simp[Go.sizeOf,typeInfo,h0,h2]) ⟨vb,voff,none⟩ ⟨b,off+(i+1) * 2,none⟩ 1 vc lb cb hvb tA tB kA kB hsa hsb hkB hfa hfe]
    rfl
  have hdl:(cs.drop (i * 2)).length=(n-i) * 2:=by rw[List.length_drop,hcl];omega
  have mixed:Tryz.prog.follows .mixedOrders=true:=by kernel_rfl
  have hw1:IntKind.i64.wrap ((i:Int)+1)=(i:Int)+1:=by rw[IntKind.wrap_i64];omega
  have hb1:(0:Int)≤(i:Int)+1:=by omega
  have hin:i≤n:=by omega
  have htn:((i:Int)+1).toNat=i+1:=by omega
  have hb2:¬(c=i+1):=by omega
  have hb3:(i:Int)≤(n:Int)+1:=by omega
  have hb4:¬(c=i):=by omega
  have hcp1:∀ ty dc sc,(Builtin.copy_ #[114,114] ty #[.slice (some ⟨b,off+(i+1) * 2,none⟩) (n-i) dc,.slice (some ⟨b,off+i * 2,none⟩) (n+1-i) sc]).run Tryz.prog w.drew=.ok (goInt (Nat.min (n+1-i) (n-i))) (w.drew.setCells b (off+(i+1) * 2) (cs.drop (i * 2))):=fun ty dc sc=>
    run_copy_cells2 w.drew _ _ ty 219 b (off+(i+1) * 2) (n-i) dc ⟨b,off+i * 2,none⟩ (n+1-i) sc (cs.drop (i * 2)) Tryz.underlying114 szCell (by rw[hdl];simp only[Nat.min_def];split<;>omega)
      (fun j v hj=>by rw[Addr.add_lit,Nat.add_assoc];exact hcs (i * 2+j) v (by rwa[List.getElem?_drop] at hj))
      (fun j hj=>by rw[Nat.add_assoc];exact hsp _ (by omega)) (fun j hj=>by rw[Nat.add_assoc];exact hfz _ (by omega)) (fun v hv=>h1c v (List.mem_of_mem_drop hv))
  obtain⟨W1,hW1⟩:∃ W1,W1=w.drew.setCells b (off+(i+1) * 2) (cs.drop (i * 2)):=⟨_,rfl⟩
  have hsp1:∀ k,k<(n+1) * 2→(W1.cell? ⟨b,off+k,none⟩).isSome=true:=fun k hk=>by
    rw[hW1]
    exact isSome_setCells b _ _ _ (fun j hj=>by rw[Nat.add_assoc];exact hsp _ (by omega)) _ (hsp k hk)
  have hcp2:∀ (W:World),(∀ x,W.cell? x=W1.cell? x)→(∀ x,W.frozen? x=W1.frozen? x)→∀ ty dc,(Builtin.copy_ #[114,114] ty #[.slice (some ⟨b,off+i * 2,none⟩) (n+1-i) dc,.slice (some ⟨vb,voff,none⟩) 1 vc]).run Tryz.prog W=.ok (goInt (Nat.min 1 (n+1-i))) (W.setCells b (off+i * 2) vs):=fun W hWc hWf ty dc=>
    run_copy_cells2 W _ _ ty 219 b (off+i * 2) (n+1-i) dc ⟨vb,voff,none⟩ 1 vc vs Tryz.underlying114 szCell (by rw[hvl];simp only[Nat.min_def];split<;>omega)
      (fun j v hj=>by
        rw[Addr.add_lit,hWc,hW1,World.cell?_setCells_out b _ _ _ _ (fun h _=>absurd h hvb)]
        exact hvs j v hj)
      (fun j hj=>by rw[hWc,Nat.add_assoc];exact hsp1 _ (by omega)) (fun j hj=>by rw[hWf,hW1,World.frozen?_setCells,Nat.add_assoc];exact hfz _ (by omega)) h1v
  rw[← hW1] at hcp1
  go_enter Tryz.func251,Tryz.ntmps251
  go_wp2_with (simp only[hov])
  go_region_law_o (refine step_copy_runI rfl _ _ 114 114 rfl _ _ (by simp[Act.eval,Act.put]) (by simp[Act.eval,Act.put]) (hcp1 _ _ _) ?_)
  go_wp2_with (at_builtin;refine wpList_copy_runI _ rfl _ _ 114 114 rfl _ _ rfl rfl (hcp2 _ (fun _=>rfl) (fun _=>rfl) _ _) ?_)
  go_ret
  first | exact⟨rfl,rfl⟩ | exact⟨rfl,by rw[hW1]⟩
abbrev zC:Array Value:=(Value.agg #[.slice none 0 0,.slice none 0 0]).cells
theorem zeroCells_len(k:Nat):(Builtin.zeroCells zC k).size=k * 2:=by simp[Builtin.zeroCells,zC,Value.cells]
set_option maxHeartbeats 4000000 in
set_option maxRecDepth 100000 in
theorem ins_grow(b off n c i vb voff vc:Nat)(cs vs:List Value)(w:World)(hi:i<n)(hnc:n≤c)(hroom:c<n+1)(hbig:(n+1) * 48≤140737488355328)
    (hcl:cs.length=n * 2) (hvl:vs.length=2)
    (hcs:∀ j v,cs[j]? = some v→w.cell? ⟨b,off+j,none⟩=some v)
    (hvs:∀ j v,vs[j]? = some v→w.cell? ⟨vb,voff+j,none⟩=some v) (h1c:∀ v∈cs,v.oneCell'=true) (h1v:∀ v∈vs,v.oneCell'=true) :
    Calls Tryz.prog 251 #[.slice (some ⟨b,off,none⟩) n c,.int .i64 i,.slice (some ⟨vb,voff,none⟩) 1 vc] w fun e w'=>
      e=.returned (.slice (some ⟨w.heap.size,0,none⟩) (n+1) (grownCap w (n+1) c 219)) ∧
      w'=(((w.alloc (.cells ((cs.take (i * 2)).toArray++Builtin.zeroCells zC (n+1-i)++Builtin.zeroCells zC (grownCap w (n+1) c 219-(n+1))) 219)).drew.setCells w.heap.size (i * 2) vs).drew).setCells w.heap.size ((i+1) * 2) (cs.drop (i * 2)):=by
  have mixed:Tryz.prog.follows .mixedOrders=true:=by kernel_rfl
  obtain⟨i0,hi0,hz0,hzs,hzb⟩:=info_parts infoCell
  have hz2:¬((i:Int)=(n:Int)):=by omega
  have hz3:(c:Int)<(n:Int)+1:=by omega
  have hbw:b<w.heap.size:=block_lt_of_cell (hcs 0 _ (List.getElem?_eq_getElem (by omega)))
  have hvw:vb<w.heap.size:=block_lt_of_cell (hvs 0 _ (List.getElem?_eq_getElem (by omega)))
  have hkk:(n:Int)+1-(i:Int)=((n+1-i:Nat):Int):=by omega
  have hik:i+(n+1-i)=n+1:=by omega
  have hold:(Builtin.firstCells i0.size i (.slice (some ⟨b,off,none⟩) i c)).run Tryz.prog w.drew=.ok (cs.take (i * 2)).toArray w.drew:=by
    rw[hzs]
    exact run_firstCells_some w.drew 2 i ⟨b,off,none⟩ i c (cs.take (i * 2)) (by rw[List.length_take];omega) (fun j v hj=>by
      rw[Addr.add_lit]
      rw[List.getElem?_take] at hj
      split at hj
      · exact hcs j v hj
      · cases hj)
  have hrz:∀ ty,(Builtin.append_ #[114,3] ty #[.slice (some ⟨b,off,none⟩) i c,.int .i64 ((n:Int)+1-(i:Int))]).run Tryz.prog w =
      .ok (.slice (some ⟨w.heap.size,0,none⟩) (n+1) (grownCap w (n+1) c 219)) (w.drew.alloc (.cells ((cs.take (i * 2)).toArray++Builtin.zeroCells zC (n+1-i)++Builtin.zeroCells zC (grownCap w (n+1) c 219-(n+1))) 219)):=fun ty=>by
    have h:=Lib.run_append_grow_zeros w 114 3 ty 219 i0 _ .i64 .i64 Tryz.underlying114 Tryz.underlying3 hi0 hz0 (some ⟨b,off,none⟩) i c (cs.take (i * 2)) hold (n+1-i) (by omega) (by omega) (by omega) (by omega) (by rw[hzb];omega) (by rw[hzb,hik];exact growslice_fits hroom hbig)
    rw[hik] at h
    rw[hkk]
    exact h
  obtain⟨G,hG⟩:∃ G,G=grownCap w (n+1) c 219:=⟨_,rfl⟩
  obtain⟨ROW,hROW⟩:∃ ROW:Array Value,ROW=(cs.take (i * 2)).toArray++Builtin.zeroCells zC (n+1-i)++Builtin.zeroCells zC (G-(n+1)):=⟨_,rfl⟩
  rw[← hG] at hrz ⊢
  rw[← hROW] at hrz ⊢
  have hRl:(n+1) * 2≤ROW.size:=by
    rw[hROW]
    simp only[Array.size_append,List.size_toArray,List.length_take,zeroCells_len,hcl]
    omega
  obtain⟨W1,hW1⟩:∃ W1,W1=w.drew.alloc (.cells ROW 219):=⟨_,rfl⟩
  rw[← hW1] at hrz
  have hN:∀ j,j<(n+1) * 2→(W1.cell? ⟨w.heap.size,j,none⟩).isSome=true:=fun j hj=>by
    rw[hW1,World.cell?_alloc_at (w:=w.drew) ROW _ w.heap.size j rfl,Array.getElem?_eq_getElem (by omega)];rfl
  have hNf:∀ j,W1.frozen? ⟨w.heap.size,j,none⟩=false:=fun j=>by rw[hW1];exact World.frozen?_alloc_at (w:=w.drew) ROW _ w.heap.size j rfl
  have hOb:∀ j v,w.cell? ⟨b,j,none⟩=some v→W1.cell? ⟨b,j,none⟩=some v:=fun j v h=>by rw[hW1,World.cell?_alloc_past (w:=w.drew) _ b j hbw];exact h
  have hOv:∀ j v,w.cell? ⟨vb,j,none⟩=some v→W1.cell? ⟨vb,j,none⟩=some v:=fun j v h=>by rw[hW1,World.cell?_alloc_past (w:=w.drew) _ vb j hvw];exact h
  have hcpA:∀ (W:World),(∀ x,W.cell? x=W1.cell? x)→(∀ x,W.frozen? x=W1.frozen? x)→∀ ty dc,(Builtin.copy_ #[114,114] ty #[.slice (some ⟨w.heap.size,i * 2,none⟩) (n+1-i) dc,.slice (some ⟨vb,voff,none⟩) 1 vc]).run Tryz.prog W=.ok (goInt (Nat.min 1 (n+1-i))) (W.setCells w.heap.size (i * 2) vs):=fun W hWc hWf ty dc=>
    run_copy_cells2 W _ _ ty 219 w.heap.size (i * 2) (n+1-i) dc ⟨vb,voff,none⟩ 1 vc vs Tryz.underlying114 szCell (by rw[hvl];simp only[Nat.min_def];split<;>omega)
      (fun j v hj=>by rw[Addr.add_lit,hWc];exact hOv _ v (hvs j v hj))
      (fun j hj=>by rw[hWc];exact hN _ (by omega)) (fun j hj=>by rw[hWf];exact hNf _) h1v
  have hGn:n+1≤G:=by rw[hG];exact grownCap_ge w _ _ _
  have hG63:G≤9223372036854775807:=by
    have:=grownCap_le_maxLen w (n+1) c 219 (by unfold maxLen;omega)
    rw[← hG] at this
    unfold maxLen at this
    omega
  have hGi:¬(G=i):=by omega
  have hGim:¬(G=i+1):=by omega
  have hci:¬(c=i):=by omega
  have hbN:b≠w.heap.size:=by omega
  have hdl:(cs.drop (i * 2)).length=(n-i) * 2:=by rw[List.length_drop,hcl];omega
  have hcpB:∀ (W:World),(∀ x,W.cell? x=(W1.setCells w.heap.size (i * 2) vs).cell? x)→(∀ x,W.frozen? x=(W1.setCells w.heap.size (i * 2) vs).frozen? x)→∀ ty dc sc,(Builtin.copy_ #[114,114] ty #[.slice (some ⟨w.heap.size,(i+1) * 2,none⟩) (n-i) dc,.slice (some ⟨b,off+i * 2,none⟩) (n-i) sc]).run Tryz.prog W=.ok (goInt (Nat.min (n-i) (n-i))) (W.setCells w.heap.size ((i+1) * 2) (cs.drop (i * 2))):=fun W hWc hWf ty dc sc=>
    run_copy_cells2 W _ _ ty 219 w.heap.size ((i+1) * 2) (n-i) dc ⟨b,off+i * 2,none⟩ (n-i) sc (cs.drop (i * 2)) Tryz.underlying114 szCell (by rw[hdl];simp only[Nat.min_def];split<;>omega)
      (fun j v hj=>by
        rw[Addr.add_lit,hWc,World.cell?_setCells_out _ _ _ _ _ (fun h _=>absurd h hbN),Nat.add_assoc]
        exact hOb _ v (hcs (i * 2+j) v (by rwa[List.getElem?_drop] at hj)))
      (fun j hj=>by rw[hWc];exact isSome_setCells _ _ _ _ (fun t ht=>hN _ (by omega)) _ (hN _ (by omega)))
      (fun j hj=>by rw[hWf,World.frozen?_setCells];exact hNf _) (fun v hv=>h1c v (List.mem_of_mem_drop hv))
  subst hW1
  have hE1:∀ x,((w.alloc (.cells ROW 219)).drew).cell? x=(w.drew.alloc (.cells ROW 219)).cell? x:=fun x=>rfl
  have hE2:∀ x,((w.alloc (.cells ROW 219)).drew).frozen? x=(w.drew.alloc (.cells ROW 219)).frozen? x:=fun x=>rfl
  have hF1:∀ x,(((w.alloc (.cells ROW 219)).drew.setCells w.heap.size (i * 2) vs).drew).cell? x=((w.drew.alloc (.cells ROW 219)).setCells w.heap.size (i * 2) vs).cell? x:=fun x=>rfl
  have hF2:∀ x,(((w.alloc (.cells ROW 219)).drew.setCells w.heap.size (i * 2) vs).drew).frozen? x=((w.drew.alloc (.cells ROW 219)).setCells w.heap.size (i * 2) vs).frozen? x:=fun x=>rfl
  have hw1:IntKind.i64.wrap ((i:Int)+1)=(i:Int)+1:=by rw[IntKind.wrap_i64];omega
  have hb1:(0:Int)≤(i:Int)+1:=by omega
  have hin:i≤n:=by omega
  have htn:((i:Int)+1).toNat=i+1:=by omega
  have hb3:(i:Int)≤(n:Int):=by omega
  clear hkk hik hold hROW hG hRl
  go_enter Tryz.func251,Tryz.ntmps251
  go_wp2_with (first
    | (at_builtin;refine Lib.wpList_append_run _ rfl _ _ _ _ rfl _ _ rfl rfl _ _ (hrz _) ?_)
    | (at_builtin;refine wpList_copy_runI _ rfl _ _ 114 114 rfl _ _ rfl rfl (hcpA _ hE1 hE2 _ _) ?_)
    | (at_builtin;refine wpList_copy_runI _ rfl _ _ 114 114 rfl _ _ rfl rfl (hcpB _ (fun _=>rfl) (fun _=>rfl) _ _ _) ?_))
  go_region_law_o (refine step_copy_runI rfl _ _ 114 114 rfl (.slice (some ⟨w.heap.size,(i+1) * 2,none⟩) (n-i) (G-(i+1))) (.slice (some ⟨b,off+i * 2,none⟩) (n-i) (c-i)) (by simp[Act.eval,Act.put]) (by simp[Act.eval,Act.put]) (hcpB _ hF1 hF2 3 (G-(i+1)) (c-i)) ?_)
  go_wp2
  go_ret
  exact⟨rfl,rfl⟩
open Go.Ev (putL putL_size putL_get free cell?_of_block frozen?_of_block SameOut InsAt fitsA ble_iff)
theorem setCells_blk{w:World}{b:Nat}{C:Array Value}{e:TypeId}{fz:Nat×Nat}(h:w.heap[b]? = some (.cells C e fz))(o:Nat)(vs:List Value)(hle:o+vs.length≤C.size)(h1:∀ v∈vs,v.oneCell'=true)(hfz:free fz (C.size+1)) :
    w.setCells b o vs={ w with heap:=w.heap.setIfInBounds b (.cells (putL C o vs) e fz) }:=by
  have e1:=run_storeCells_cells (P:=Tryz.prog) b o vs 0 w (fun j hj=>by rw[cell?_of_block h,Array.getElem?_eq_getElem (by omega)];rfl) (fun j hj=>by rw[frozen?_of_block h];exact hfz.2 _ (by omega)) h1
  have e2:=Go.Ev.run_storeCells_block (P:=Tryz.prog) b o e fz vs 0 C w h (by omega) h1 (fun k _ hk=>hfz.2 k (by omega))
  rw[e1] at e2
  simpa using e2
theorem ins_get{C C':Array Value}{off n i:Nat}{cs vs:List Value}(hi:i<n)(hcl:cs.length=n * 2)(hvl:vs.length=2)(hsz:off+(n+1) * 2≤C.size)(hC:∀ (j:Nat) (v:Value),(cs.take (i * 2))[j]? = some v→C[off+j]? = some v)
    (hC':∀ k,C'[k]? = if off+i * 2≤k∧k<off+i * 2+2 then vs[k-(off+i * 2)]? else if off+(i+1) * 2≤k∧k<off+(i+1) * 2+(n-i) * 2 then(cs.drop (i * 2))[k-(off+(i+1) * 2)]? else C[k]?) (k:Nat) (v:Value)
    (hk:(cs.take (i * 2)++(vs++cs.drop (i * 2)))[k]? = some v):C'[off+k]? = some v:=by
  have htl:(cs.take (i * 2)).length=i * 2:=by rw[List.length_take];omega
  have hdl:(cs.drop (i * 2)).length=(n-i) * 2:=by rw[List.length_drop,hcl];omega
  have hklt:k<(n+1) * 2:=by
    have:=(List.getElem?_eq_some_iff.1 hk).1
    simp only[List.length_append,htl,hvl,hdl] at this
    omega
  rw[hC']
  by_cases h1:k<i * 2
  · rw[if_neg (by omega),if_neg (by omega)]
    rw[List.getElem?_append_left (by omega)] at hk
    exact hC k v hk
  · rw[List.getElem?_append_right (by omega),htl] at hk
    by_cases h2:k<i * 2+2
    · rw[if_pos (by omega)]
      rw[List.getElem?_append_left (by omega)] at hk
      rw[show off+k-(off+i * 2)=k-i * 2 by omega];exact hk
    · rw[if_neg (by omega),if_pos (by omega)]
      rw[List.getElem?_append_right (by omega),hvl] at hk
      rw[show off+k-(off+(i+1) * 2)=k-i * 2-2 by omega];exact hk
theorem insAt:InsAt Tryz.prog 251 219:=by
  refine⟨by kernel_rfl,?_⟩
  intro b off n c i vb voff vc cs vs w C D e e2 fz fz2 hi hfit hvb hcl hvl hC hD hcs hvs hnc hct hfz hfz2 h1c h1v
  simp only[fitsA,Bool.and_eq_true,ble_iff] at hfit
  have hdl:(cs.drop (i * 2)).length=(n-i) * 2:=by rw[List.length_drop,hcl];omega
  have hdone:∀ v∈cs.drop (i * 2),v.oneCell'=true:=fun v hv=>h1c v (List.mem_of_mem_drop hv)
  have hblt:b<w.heap.size:=(Array.getElem?_eq_some_iff.1 hC).1
  have hvs2:voff+2≤D.size:=by
    have:=hvs 1 _ (List.getElem?_eq_getElem (by omega))
    have:=(Array.getElem?_eq_some_iff.1 this).1
    omega
  by_cases hroom:n+1≤c
  · have hs1:=setCells_blk (w:=w.drew) (b:=b) hC (off+(i+1) * 2) (cs.drop (i * 2)) (by rw[hdl];omega) hdone hfz
    have hg1:(w.drew.setCells b (off+(i+1) * 2) (cs.drop (i * 2))).heap[b]? = some (.cells (putL C (off+(i+1) * 2) (cs.drop (i * 2))) e fz):=by
      rw[hs1]
      show(w.heap.setIfInBounds b _)[b]? = _
      rw[Array.getElem?_setIfInBounds_self_of_lt hblt]
    have hs2:=setCells_blk hg1 (off+i * 2) vs (by rw[putL_size];omega) h1v (by rw[putL_size];exact hfz)
    refine(ins_shift b off n c i vb voff vc cs vs w hi hroom (by omega) hvb hcl hvl (fun j v hj=>by rw[cell?_of_block hC];exact hcs j v hj)
      (fun j hj=>by rw[cell?_of_block hC,Array.getElem?_eq_getElem (by omega)];rfl) (fun j hj=>by rw[frozen?_of_block hC];exact hfz.2 _ (by omega)) (fun j v hj=>by rw[cell?_of_block hD];exact hvs j v hj) h1c h1v
      e2 e D.size C.size (by simp[World.shape?,hD]) (by simp[World.shape?,hC]) (by omega) (by rw[frozen?_of_block hD];exact hfz2.2 _ (by omega)) (by rw[frozen?_of_block hD];exact hfz2.2 _ (by omega))).mono ?_
    rintro x w' ⟨rfl,rfl⟩
    rw[hs2,hs1]
    refine⟨⟨rfl,rfl,rfl⟩,.inl ⟨putL (putL C (off+(i+1) * 2) (cs.drop (i * 2))) (off+i * 2) vs,hroom,rfl,by rw[putL_size,putL_size],?_,?_⟩⟩
    · show(w.heap.setIfInBounds b _).setIfInBounds b _=_
      rw[Array.setIfInBounds_setIfInBounds]
    · refine ins_get (C:=C) hi hcl hvl (by omega) (fun j v hj=>?_) (fun k=>?_)
      · rw[List.getElem?_take] at hj
        split at hj
        · exact hcs j v hj
        · cases hj
      · rw[putL_get _ _ _ _ (by rw[putL_size];omega),putL_get _ _ _ _ (by rw[hdl];omega),hvl,hdl]
  · refine(ins_grow b off n c i vb voff vc cs vs w hi hnc (by omega) (by omega) hcl hvl (fun j v hj=>by rw[cell?_of_block hC];exact hcs j v hj) (fun j v hj=>by rw[cell?_of_block hD];exact hvs j v hj) h1c h1v).mono ?_
    rintro x w' ⟨rfl,rfl⟩
    obtain⟨G,hG⟩:∃ G,G=grownCap w (n+1) c 219:=⟨_,rfl⟩
    have hGn:n+1≤G:=by rw[hG];exact grownCap_ge w _ _ _
    rw[← hG]
    obtain⟨ROW,hROW⟩:∃ ROW:Array Value,ROW=(cs.take (i * 2)).toArray++Builtin.zeroCells zC (n+1-i)++Builtin.zeroCells zC (G-(n+1)):=⟨_,rfl⟩
    have hRl:ROW.size=G * 2:=by
      rw[hROW]
      simp only[Array.size_append,List.size_toArray,List.length_take,zeroCells_len,hcl]
      omega
    rw[← hROW]
    have hf0:free (0,0) (ROW.size+1):=Go.Ev.free_none _
    have hg0:(w.alloc (.cells ROW 219)).drew.heap[w.heap.size]? = some (.cells ROW 219 (0,0)):=heap_alloc_new w _
    have hs1:=setCells_blk hg0 (i * 2) vs (by omega) h1v hf0
    have hg1:((w.alloc (.cells ROW 219)).drew.setCells w.heap.size (i * 2) vs).drew.heap[w.heap.size]? = some (.cells (putL ROW (i * 2) vs) 219 (0,0)):=by
      rw[hs1]
      show((w.alloc (.cells ROW 219)).heap.setIfInBounds w.heap.size _)[w.heap.size]? = _
      rw[Array.getElem?_setIfInBounds_self_of_lt (by simp)]
    have hs2:=setCells_blk hg1 ((i+1) * 2) (cs.drop (i * 2)) (by rw[putL_size,hdl];omega) hdone (by rw[putL_size];exact hf0)
    rw[hs2,hs1]
    refine⟨⟨rfl,rfl,rfl⟩,.inr ⟨putL (putL ROW (i * 2) vs) ((i+1) * 2) (cs.drop (i * 2)),G,hGn,rfl,by rw[putL_size,putL_size,hRl],?_,?_⟩⟩
    · show(((w.alloc (.cells ROW 219)).heap.setIfInBounds w.heap.size _).setIfInBounds w.heap.size _)=_
      rw[Array.setIfInBounds_setIfInBounds,← World.alloc_eq]
      apply Array.ext_getElem?
      intro k
      by_cases hk:k=w.heap.size
      · subst hk;simp
      · simp[Array.getElem?_push,Array.getElem?_setIfInBounds,hk,Ne.symm hk]
    · refine ins_get (C:=ROW) hi hcl hvl (by omega) (fun j v hj=>?_) (fun k=>?_)
      · rw[hROW,Nat.zero_add]
        have hjl:=(List.getElem?_eq_some_iff.1 hj).1
        rw[Array.append_assoc,Array.getElem?_append_left (by simpa using hjl)]
        simpa using hj
      · rw[putL_get _ _ _ _ (by rw[putL_size,hdl];omega),putL_get _ _ _ _ (by omega),hvl,hdl]
        simp only[Nat.zero_add]
        by_cases h1:i * 2≤k∧k<i * 2+2
        · rw[if_neg (by omega),if_pos h1,if_pos h1]
        · rw[if_neg h1]
          by_cases h2:(i+1) * 2≤k∧k<(i+1) * 2+(n-i) * 2
          · simp only[if_pos h2,if_neg h1]
          · simp only[if_neg h2,if_neg h1]
end Go.Proofs.YtdbkocfbhpgpkaaGreat
