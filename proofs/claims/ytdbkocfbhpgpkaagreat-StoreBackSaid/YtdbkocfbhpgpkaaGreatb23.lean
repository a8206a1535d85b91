/-
  slices.Insert of a cell at any place; what the page's cells are behind it.
-/
import Derived.Test.YtdbkocfbhpgpkaaGreatb11
import Derived.Test.YtdbkocfbhpgpkaaGreatProg
import Derived.Shelf.Spec.SlicesInsertGrow
import Derived.WalkKit
import Derived.KernelRfl
import Derived.Test.YtdbkocfbhpgpkaaGreatb20
import Derived.Test.YtdbkocfbhpgpkaaGreatb21
import Derived.Test.YtdbkocfbhpgpkaaGreatb22
import Derived.Test.YtdbkocfbhpgpkaaGreatb06
import Derived.WalkMore
set_option linter.unusedVariables false
set_option linter.unusedSimpArgs false
namespace Go.Ev
open Go Go.RowKit
noncomputable section
structure InsAt(P:Program)(f et:Nat):Prop where
  enter:enters P f=true
  call:∀ (b off n c i vb voff vc:Nat) (cs vs:List Value) (w:World) (C D:Array Value) (e e2:TypeId) (fz fz2:Nat×Nat),
    i<n→fitsA (n+1) 48=true→vb≠b→cs.length=n * 2→vs.length=2→w.heap[b]? = some (.cells C e fz)→w.heap[vb]? = some (.cells D e2 fz2) →
    (∀ (j:Nat) (v:Value),cs[j]? = some v→C[off+j]? = some v)→(∀ (j:Nat) (v:Value),vs[j]? = some v→D[voff+j]? = some v)→n≤c→off+c * 2≤C.size→free fz (C.size+1)→free fz2 (D.size+1) →
    (∀ v∈cs,v.oneCell'=true)→(∀ v∈vs,v.oneCell'=true) →
    Calls P f #[.slice (some ⟨b,off,none⟩) n c,.int .i64 i,.slice (some ⟨vb,voff,none⟩) 1 vc] w fun x w'=>SameOut w w' ∧
      ((∃ C' : Array Value, n + 1 ≤ c ∧ x = .returned (.slice (some ⟨b, off, none⟩) (n + 1) c) ∧ C'.size = C.size ∧ w'.heap = w.heap.setIfInBounds b (.cells C' e fz) ∧ ∀ (k : Nat) (v : Value), (cs.take (i * 2) ++ (vs ++ cs.drop (i * 2)))[k]? = some v → C'[off + k]? = some v) ∨
       (∃ (C':Array Value) (cap':Nat),n+1≤cap'∧x=.returned (.slice (some ⟨w.heap.size,0,none⟩) (n+1) cap')∧C'.size=cap' * 2∧w'.heap=w.heap.push (.cells C' et (0,0))∧∀ (k:Nat) (v:Value),(cs.take (i * 2)++(vs++cs.drop (i * 2)))[k]? = some v→C'[0+k]? = some v))
end
end Go.Ev
namespace Go.Proofs.YtdbkocfbhpgpkaaGreat
open Go Go.RowKit Go.Lib
theorem run_copy_cells2{P:Program}(w:World)(dT sT ty elem:TypeId)(b o dLen dCap:Nat)(a:Addr)(sLen sCap:Nat)(cs:List Value)
    (hu:P.underlying dT=some (.slice elem)) (hs:(P.info? elem).map (·.size)=some 2) (hn:cs.length=Nat.min sLen dLen * 2)
    (hsrc:∀ j v,cs[j]? = some v→w.cell? (a.add j)=some v) (hc:∀ j,j<cs.length→(w.cell? ⟨b,o+j,none⟩).isSome=true) (hf:∀ j,j<cs.length→w.frozen? ⟨b,o+j,none⟩=false) (h1:∀ v∈cs,v.oneCell'=true) :
    (Builtin.copy_ #[dT,sT] ty #[.slice (some ⟨b,o,none⟩) dLen dCap,.slice (some a) sLen sCap]).run P w=.ok (goInt (Nat.min sLen dLen)) (w.setCells b o cs):=by
  have hl:=run_loadCells_list (P:=P) w a cs hsrc
  have hst:=run_storeCells_cells (P:=P) b o cs 0 w (by simpa using hc) (by simpa using hf) h1
  rw[hn] at hl
  cases hq:P.info? elem with
  | none=>simp[hq] at hs
  | some i =>
    have hi:i.size=2:=by simpa[hq] using hs
    simp[Builtin.copy_,run_underlying hu,Builtin.lenOf,Builtin.firstCells,sizeOf,typeInfo,hq,hi,hl,hst]
theorem szCell:(Tryz.prog.info? 219).map (·.size)=some 2:=by kernel_rfl
theorem infoCell:(Tryz.prog.info? 219).map (fun i=>(i.zero,i.size,i.bytes))=some (some (.agg #[.slice none 0 0,.slice none 0 0]),2,48):=by kernel_rfl
set_option maxHeartbeats 4000000 in
set_option maxRecDepth 100000 in
theorem ins_shift(b off n c i vb voff vc:Nat)(cs vs:List Value)(w:World)(hi:i<n)(hroom:n+1≤c)(hc63:n+1≤9223372036854775807)(hvb:vb≠b)
    (hcl:cs.length=n * 2) (hvl:vs.length=2)
    (hcs:∀ j v,cs[j]? = some v→w.cell? ⟨b,off+j,none⟩=some v) (hsp:∀ j,j<(n+1) * 2→(w.cell? ⟨b,off+j,none⟩).isSome=true) (hfz:∀ j,j<(n+1) * 2→w.frozen? ⟨b,off+j,none⟩=false)
    (hvs:∀ j v,vs[j]? = some v→w.cell? ⟨vb,voff+j,none⟩=some v) (h1c:∀ v∈cs,v.oneCell'=true) (h1v:∀ v∈vs,v.oneCell'=true)
    (tA tB:TypeId) (kA kB:Nat) (hsa:w.shape? vb=some (tA,kA)) (hsb:w.shape? b=some (tB,kB)) (hkB:kB≠0) (hfa:w.frozen? ⟨vb,voff,none⟩=false) (hfe:w.frozen? ⟨vb,kA,none⟩=false) :
    Calls Tryz.prog 251 #[.slice (some ⟨b,off,none⟩) n c,.int .i64 i,.slice (some ⟨vb,voff,none⟩) 1 vc] w fun e w'=>
      e=.returned (.slice (some ⟨b,off,none⟩) (n+1) c)∧w'=(w.drew.setCells b (off+(i+1) * 2) (cs.drop (i * 2))).setCells b (off+i * 2) vs:=by
  have hz2:¬((i:Int)=(n:Int)):=by omega
  have hov:∀ lb cb,(callFunc 279 #[.slice (some ⟨vb,voff,none⟩) 1 vc,.slice (some ⟨b,off+(i+1) * 2,none⟩) lb cb]).run Tryz.prog w=.ok (.value (.bool false)) w:=fun lb cb=>by
    rw[run_callFunc_extern Tryz.func279 (by kernel_rfl) (by kernel_rfl) (by kernel_rfl) (e:=Extern.SlicesOverlaps.overlaps #[114,114] #[4]) (by kernel_rfl),
      Lib.run_overlaps_apart w 114 4 219 Tryz.underlying114 2 (fun w=>by obtain⟨i0,h0,_,h2,_⟩:=info_parts infoCell;simp[Go.sizeOf,typeInfo,h0,h2]) ⟨vb,voff,none⟩ ⟨b,off+(i+1) * 2,none⟩ 1 vc lb cb hvb tA tB kA kB hsa hsb hkB hfa hfe]
    rfl
  have hdl:(cs.drop (i * 2)).length=(n-i) * 2:=by rw[List.length_drop,hcl];omega
  have mixed:Tryz.prog.follows .mixedOrders=true:=by kernel_rfl
  have hw1:IntKind.i64.wrap ((i:Int)+1)=(i:Int)+1:=by rw[IntKind.wrap_i64];omega
  have hb1:(0:Int)≤(i:Int)+1:=by omega
  have hin:i≤n:=by omega
  have htn:((i:Int)+1).toNat=i+1:=by omega
  have hb2:¬(c=i+1):=by omega
  have hb3:(i:Int)≤(n:Int)+1:=by omega
  have hb4:¬(c=i):=by omega
  have hcp1:∀ ty dc sc,(Builtin.copy_ #[114,114] ty #[.slice (some ⟨b,off+(i+1) * 2,none⟩) (n-i) dc,.slice (some ⟨b,off+i * 2,none⟩) (n+1-i) sc]).run Tryz.prog w.drew=.ok (goInt (Nat.min (n+1-i) (n-i))) (w.drew.setCells b (off+(i+1) * 2) (cs.drop (i * 2))):=fun ty dc sc=>
    run_copy_cells2 w.drew _ _ ty 219 b (off+(i+1) * 2) (n-i) dc ⟨b,off+i * 2,none⟩ (n+1-i) sc (cs.drop (i * 2)) Tryz.underlying114 szCell (by rw[hdl];simp only[Nat.min_def];split<;>omega)
      (fun j v hj=>by rw[Addr.add_lit,Nat.add_assoc];exact hcs (i * 2+j) v (by rwa[List.getElem?_drop] at hj))
      (fun j hj=>by rw[Nat.add_assoc];exact hsp _ (by omega)) (fun j hj=>by rw[Nat.add_assoc];exact hfz _ (by omega)) (fun v hv=>h1c v (List.mem_of_mem_drop hv))
  obtain⟨W1,hW1⟩:∃ W1,W1=w.drew.setCells b (off+(i+1) * 2) (cs.drop (i * 2)):=⟨_,rfl⟩
  have hsp1:∀ k,k<(n+1) * 2→(W1.cell? ⟨b,off+k,none⟩).isSome=true:=fun k hk=>by
    rw[hW1]
    exact isSome_setCells b _ _ _ (fun j hj=>by rw[Nat.add_assoc];exact hsp _ (by omega)) _ (hsp k hk)
  have hcp2:∀ (W:World),(∀ x,W.cell? x=W1.cell? x)→(∀ x,W.frozen? x=W1.frozen? x)→∀ ty dc,(Builtin.copy_ #[114,114] ty #[.slice (some ⟨b,off+i * 2,none⟩) (n+1-i) dc,.slice (some ⟨vb,voff,none⟩) 1 vc]).run Tryz.prog W=.ok (goInt (Nat.min 1 (n+1-i))) (W.setCells b (off+i * 2) vs):=fun W hWc hWf ty dc=>
    run_copy_cells2 W _ _ ty 219 b (off+i * 2) (n+1-i) dc ⟨vb,voff,none⟩ 1 vc vs Tryz.underlying114 szCell (by rw[hvl];simp only[Nat.min_def];split<;>omega)
      (fun j v hj=>by
        rw[Addr.add_lit,hWc,hW1,World.cell?_setCells_out b _ _ _ _ (fun h _=>absurd h hvb)]
        exact hvs j v hj)
      (fun j hj=>by rw[hWc,Nat.add_assoc];exact hsp1 _ (by omega)) (fun j hj=>by rw[hWf,hW1,World.frozen?_setCells,Nat.add_assoc];exact hfz _ (by omega)) h1v
  rw[← hW1] at hcp1
  go_enter Tryz.func251,Tryz.ntmps251
  go_wp2_with (simp only[hov])
  go_region_law_o (refine step_copy_runI rfl _ _ 114 114 rfl _ _ (by simp[Act.eval,Act.put]) (by simp[Act.eval,Act.put]) (hcp1 _ _ _) ?_)
  go_wp2_with (at_builtin;refine wpList_copy_runI _ rfl _ _ 114 114 rfl _ _ rfl rfl (hcp2 _ (fun _=>rfl) (fun _=>rfl) _ _) ?_)
  go_ret
  first | exact⟨rfl,rfl⟩ | exact⟨rfl,by rw[hW1]⟩
abbrev zC:Array Value:=(Value.agg #[.slice none 0 0,.slice none 0 0]).cells
theorem zeroCells_len(k:Nat):(Builtin.zeroCells zC k).size=k * 2:=by simp[Builtin.zeroCells,zC,Value.cells]
set_option maxHeartbeats 4000000 in
set_option maxRecDepth 100000 in
theorem ins_grow(b off n c i vb voff vc:Nat)(cs vs:List Value)(w:World)(hi:i<n)(hnc:n≤c)(hroom:c<n+1)(hbig:(n+1) * 48≤140737488355328)
    (hcl:cs.length=n * 2) (hvl:vs.length=2)
    (hcs:∀ j v,cs[j]? = some v→w.cell? ⟨b,off+j,none⟩=some v)
    (hvs:∀ j v,vs[j]? = some v→w.cell? ⟨vb,voff+j,none⟩=some v) (h1c:∀ v∈cs,v.oneCell'=true) (h1v:∀ v∈vs,v.oneCell'=true) :
    Calls Tryz.prog 251 #[.slice (some ⟨b,off,none⟩) n c,.int .i64 i,.slice (some ⟨vb,voff,none⟩) 1 vc] w fun e w'=>
      e=.returned (.slice (some ⟨w.heap.size,0,none⟩) (n+1) (grownCap w (n+1) c 219)) ∧
      w'=(((w.alloc (.cells ((cs.take (i * 2)).toArray++Builtin.zeroCells zC (n+1-i)++Builtin.zeroCells zC (grownCap w (n+1) c 219-(n+1))) 219)).drew.setCells w.heap.size (i * 2) vs).drew).setCells w.heap.size ((i+1) * 2) (cs.drop (i * 2)):=by
  have mixed:Tryz.prog.follows .mixedOrders=true:=by kernel_rfl
  obtain⟨i0,hi0,hz0,hzs,hzb⟩:=info_parts infoCell
  have hz2:¬((i:Int)=(n:Int)):=by omega
  have hz3:(c:Int)<(n:Int)+1:=by omega
  have hbw:b<w.heap.size:=block_lt_of_cell (hcs 0 _ (List.getElem?_eq_getElem (by omega)))
  have hvw:vb<w.heap.size:=block_lt_of_cell (hvs 0 _ (List.getElem?_eq_getElem (by omega)))
  have hkk:(n:Int)+1-(i:Int)=((n+1-i:Nat):Int):=by omega
  have hik:i+(n+1-i)=n+1:=by omega
  have hold:(Builtin.firstCells i0.size i (.slice (some ⟨b,off,none⟩) i c)).run Tryz.prog w.drew=.ok (cs.take (i * 2)).toArray w.drew:=by
    rw[hzs]
    exact run_firstCells_some w.drew 2 i ⟨b,off,none⟩ i c (cs.take (i * 2)) (by rw[List.length_take];omega) (fun j v hj=>by
      rw[Addr.add_lit]
      rw[List.getElem?_take] at hj
      split at hj
      · exact hcs j v hj
      · cases hj)
  have hrz:∀ ty,(Builtin.append_ #[114,3] ty #[.slice (some ⟨b,off,none⟩) i c,.int .i64 ((n:Int)+1-(i:Int))]).run Tryz.prog w =
      .ok (.slice (some ⟨w.heap.size,0,none⟩) (n+1) (grownCap w (n+1) c 219)) (w.drew.alloc (.cells ((cs.take (i * 2)).toArray++Builtin.zeroCells zC (n+1-i)++Builtin.zeroCells zC (grownCap w (n+1) c 219-(n+1))) 219)):=fun ty=>by
    have h:=Lib.run_append_grow_zeros w 114 3 ty 219 i0 _ .i64 .i64 Tryz.underlying114 Tryz.underlying3 hi0 hz0 (some ⟨b,off,none⟩) i c (cs.take (i * 2)) hold (n+1-i) (by omega) (by omega) (by omega) (by omega) (by rw[hzb];omega) (by rw[hzb,hik];exact growslice_fits hroom hbig)
    rw[hik] at h
    rw[hkk]
    exact h
  obtain⟨G,hG⟩:∃ G,G=grownCap w (n+1) c 219:=⟨_,rfl⟩
  obtain⟨ROW,hROW⟩:∃ ROW:Array Value,ROW=(cs.take (i * 2)).toArray++Builtin.zeroCells zC (n+1-i)++Builtin.zeroCells zC (G-(n+1)):=⟨_,rfl⟩
  rw[← hG] at hrz ⊢
  rw[← hROW] at hrz ⊢
  have hRl:(n+1) * 2≤ROW.size:=by
    rw[hROW]
    simp only[Array.size_append,List.size_toArray,List.length_take,zeroCells_len,hcl]
    omega
  obtain⟨W1,hW1⟩:∃ W1,W1=w.drew.alloc (.cells ROW 219):=⟨_,rfl⟩
  rw[← hW1] at hrz
  have hN:∀ j,j<(n+1) * 2→(W1.cell? ⟨w.heap.size,j,none⟩).isSome=true:=fun j hj=>by
    rw[hW1,World.cell?_alloc_at (w:=w.drew) ROW _ w.heap.size j rfl,Array.getElem?_eq_getElem (by omega)];rfl
  have hNf:∀ j,W1.frozen? ⟨w.heap.size,j,none⟩=false:=fun j=>by rw[hW1];exact World.frozen?_alloc_at (w:=w.drew) ROW _ w.heap.size j rfl
  have hOb:∀ j v,w.cell? ⟨b,j,none⟩=some v→W1.cell? ⟨b,j,none⟩=some v:=fun j v h=>by rw[hW1,World.cell?_alloc_past (w:=w.drew) _ b j hbw];exact h
  have hOv:∀ j v,w.cell? ⟨vb,j,none⟩=some v→W1.cell? ⟨vb,j,none⟩=some v:=fun j v h=>by rw[hW1,World.cell?_alloc_past (w:=w.drew) _ vb j hvw];exact h
  have hcpA:∀ (W:World),(∀ x,W.cell? x=W1.cell? x)→(∀ x,W.frozen? x=W1.frozen? x)→∀ ty dc,(Builtin.copy_ #[114,114] ty #[.slice (some ⟨w.heap.size,i * 2,none⟩) (n+1-i) dc,.slice (some ⟨vb,voff,none⟩) 1 vc]).run Tryz.prog W=.ok (goInt (Nat.min 1 (n+1-i))) (W.setCells w.heap.size (i * 2) vs):=fun W hWc hWf ty dc=>
    run_copy_cells2 W _ _ ty 219 w.heap.size (i * 2) (n+1-i) dc ⟨vb,voff,none⟩ 1 vc vs Tryz.underlying114 szCell (by rw[hvl];simp only[Nat.min_def];split<;>omega)
      (fun j v hj=>by rw[Addr.add_lit,hWc];exact hOv _ v (hvs j v hj))
      (fun j hj=>by rw[hWc];exact hN _ (by omega)) (fun j hj=>by rw[hWf];exact hNf _) h1v
  have hGn:n+1≤G:=by rw[hG];exact grownCap_ge w _ _ _
  have hG63:G≤9223372036854775807:=by
    have:=grownCap_le_maxLen w (n+1) c 219 (by unfold maxLen;omega)
    rw[← hG] at this
    unfold maxLen at this
    omega
  have hGi:¬(G=i):=by omega
  have hGim:¬(G=i+1):=by omega
  have hci:¬(c=i):=by omega
  have hbN:b≠w.heap.size:=by omega
  have hdl:(cs.drop (i * 2)).length=(n-i) * 2:=by rw[List.length_drop,hcl];omega
  have hcpB:∀ (W:World),(∀ x,W.cell? x=(W1.setCells w.heap.size (i * 2) vs).cell? x)→(∀ x,W.frozen? x=(W1.setCells w.heap.size (i * 2) vs).frozen? x)→∀ ty dc sc,(Builtin.copy_ #[114,114] ty #[.slice (some ⟨w.heap.size,(i+1) * 2,none⟩) (n-i) dc,.slice (some ⟨b,off+i * 2,none⟩) (n-i) sc]).run Tryz.prog W=.ok (goInt (Nat.min (n-i) (n-i))) (W.setCells w.heap.size ((i+1) * 2) (cs.drop (i * 2))):=fun W hWc hWf ty dc sc=>
    run_copy_cells2 W _ _ ty 219 w.heap.size ((i+1) * 2) (n-i) dc ⟨b,off+i * 2,none⟩ (n-i) sc (cs.drop (i * 2)) Tryz.underlying114 szCell (by rw[hdl];simp only[Nat.min_def];split<;>omega)
      (fun j v hj=>by
        rw[Addr.add_lit,hWc,World.cell?_setCells_out _ _ _ _ _ (fun h _=>absurd h hbN),Nat.add_assoc]
        exact hOb _ v (hcs (i * 2+j) v (by rwa[List.getElem?_drop] at hj)))
      (fun j hj=>by rw[hWc];exact isSome_setCells _ _ _ _ (fun t ht=>hN _ (by omega)) _ (hN _ (by omega)))
      (fun j hj=>by rw[hWf,World.frozen?_setCells];exact hNf _) (fun v hv=>h1c v (List.mem_of_mem_drop hv))
  subst hW1
  have hE1:∀ x,((w.alloc (.cells ROW 219)).drew).cell? x=(w.drew.alloc (.cells ROW 219)).cell? x:=fun x=>rfl
  have hE2:∀ x,((w.alloc (.cells ROW 219)).drew).frozen? x=(w.drew.alloc (.cells ROW 219)).frozen? x:=fun x=>rfl
  have hF1:∀ x,(((w.alloc (.cells ROW 219)).drew.setCells w.heap.size (i * 2) vs).drew).cell? x=((w.drew.alloc (.cells ROW 219)).setCells w.heap.size (i * 2) vs).cell? x:=fun x=>rfl
  have hF2:∀ x,(((w.alloc (.cells ROW 219)).drew.setCells w.heap.size (i * 2) vs).drew).frozen? x=((w.drew.alloc (.cells ROW 219)).setCells w.heap.size (i * 2) vs).frozen? x:=fun x=>rfl
  have hw1:IntKind.i64.wrap ((i:Int)+1)=(i:Int)+1:=by rw[IntKind.wrap_i64];omega
  have hb1:(0:Int)≤(i:Int)+1:=by omega
  have hin:i≤n:=by omega
  have htn:((i:Int)+1).toNat=i+1:=by omega
  have hb3:(i:Int)≤(n:Int):=by omega
  clear hkk hik hold hROW hG hRl
  go_enter Tryz.func251,Tryz.ntmps251
  go_wp2_with (first
    | (at_builtin;refine Lib.wpList_append_run _ rfl _ _ _ _ rfl _ _ rfl rfl _ _ (hrz _) ?_)
    | (at_builtin;refine wpList_copy_runI _ rfl _ _ 114 114 rfl _ _ rfl rfl (hcpA _ hE1 hE2 _ _) ?_)
    | (at_builtin;refine wpList_copy_runI _ rfl _ _ 114 114 rfl _ _ rfl rfl (hcpB _ (fun _=>rfl) (fun _=>rfl) _ _ _) ?_))
  go_region_law_o (refine step_copy_runI rfl _ _ 114 114 rfl (.slice (some ⟨w.heap.size,(i+1) * 2,none⟩) (n-i) (G-(i+1))) (.slice (some ⟨b,off+i * 2,none⟩) (n-i) (c-i)) (by simp[Act.eval,Act.put]) (by simp[Act.eval,Act.put]) (hcpB _ hF1 hF2 3 (G-(i+1)) (c-i)) ?_)
  go_wp2
  go_ret
  exact⟨rfl,rfl⟩
open Go.Ev (putL putL_size putL_get free cell?_of_block frozen?_of_block SameOut InsAt fitsA ble_iff)
theorem setCells_blk{w:World}{b:Nat}{C:Array Value}{e:TypeId}{fz:Nat×Nat}(h:w.heap[b]? = some (.cells C e fz))(o:Nat)(vs:List Value)(hle:o+vs.length≤C.size)(h1:∀ v∈vs,v.oneCell'=true)(hfz:free fz (C.size+1)) :
    w.setCells b o vs={ w with heap:=w.heap.setIfInBounds b (.cells (putL C o vs) e fz) }:=by
  have e1:=run_storeCells_cells (P:=Tryz.prog) b o vs 0 w (fun j hj=>by rw[cell?_of_block h,Array.getElem?_eq_getElem (by omega)];rfl) (fun j hj=>by rw[frozen?_of_block h];exact hfz.2 _ (by omega)) h1
  have e2:=Go.Ev.run_storeCells_block (P:=Tryz.prog) b o e fz vs 0 C w h (by omega) h1 (fun k _ hk=>hfz.2 k (by omega))
  rw[e1] at e2
  simpa using e2
theorem ins_get{C C':Array Value}{off n i:Nat}{cs vs:List Value}(hi:i<n)(hcl:cs.length=n * 2)(hvl:vs.length=2)(hsz:off+(n+1) * 2≤C.size)(hC:∀ (j:Nat) (v:Value),(cs.take (i * 2))[j]? = some v→C[off+j]? = some v)
    (hC':∀ k,C'[k]? = if off+i * 2≤k∧k<off+i * 2+2 then vs[k-(off+i * 2)]? else if off+(i+1) * 2≤k∧k<off+(i+1) * 2+(n-i) * 2 then(cs.drop (i * 2))[k-(off+(i+1) * 2)]? else C[k]?) (k:Nat) (v:Value)
    (hk:(cs.take (i * 2)++(vs++cs.drop (i * 2)))[k]? = some v):C'[off+k]? = some v:=by
  have htl:(cs.take (i * 2)).length=i * 2:=by rw[List.length_take];omega
  have hdl:(cs.drop (i * 2)).length=(n-i) * 2:=by rw[List.length_drop,hcl];omega
  have hklt:k<(n+1) * 2:=by
    have:=(List.getElem?_eq_some_iff.1 hk).1
    simp only[List.length_append,htl,hvl,hdl] at this
    omega
  rw[hC']
  by_cases h1:k<i * 2
  · rw[if_neg (by omega),if_neg (by omega)]
    rw[List.getElem?_append_left (by omega)] at hk
    exact hC k v hk
  · rw[List.getElem?_append_right (by omega),htl] at hk
    by_cases h2:k<i * 2+2
    · rw[if_pos (by omega)]
      rw[List.getElem?_append_left (by omega)] at hk
      rw[show off+k-(off+i * 2)=k-i * 2 by omega];exact hk
    · rw[if_neg (by omega),if_pos (by omega)]
      rw[List.getElem?_append_right (by omega),hvl] at hk
      rw[show off+k-(off+(i+1) * 2)=k-i * 2-2 by omega];exact hk
theorem insAt:InsAt Tryz.prog 251 219:=by
  refine⟨by kernel_rfl,?_⟩
  intro b off n c i vb voff vc cs vs w C D e e2 fz fz2 hi hfit hvb hcl hvl hC hD hcs hvs hnc hct hfz hfz2 h1c h1v
  simp only[fitsA,Bool.and_eq_true,ble_iff] at hfit
  have hdl:(cs.drop (i * 2)).length=(n-i) * 2:=by rw[List.length_drop,hcl];omega
  have hdone:∀ v∈cs.drop (i * 2),v.oneCell'=true:=fun v hv=>h1c v (List.mem_of_mem_drop hv)
  have hblt:b<w.heap.size:=(Array.getElem?_eq_some_iff.1 hC).1
  have hvs2:voff+2≤D.size:=by
    have:=hvs 1 _ (List.getElem?_eq_getElem (by omega))
    have:=(Array.getElem?_eq_some_iff.1 this).1
    omega
  by_cases hroom:n+1≤c
  · have hs1:=setCells_blk (w:=w.drew) (b:=b) hC (off+(i+1) * 2) (cs.drop (i * 2)) (by rw[hdl];omega) hdone hfz
    have hg1:(w.drew.setCells b (off+(i+1) * 2) (cs.drop (i * 2))).heap[b]? = some (.cells (putL C (off+(i+1) * 2) (cs.drop (i * 2))) e fz):=by
      rw[hs1]
      show(w.heap.setIfInBounds b _)[b]? = _
      rw[Array.getElem?_setIfInBounds_self_of_lt hblt]
    have hs2:=setCells_blk hg1 (off+i * 2) vs (by rw[putL_size];omega) h1v (by rw[putL_size];exact hfz)
    refine(ins_shift b off n c i vb voff vc cs vs w hi hroom (by omega) hvb hcl hvl (fun j v hj=>by rw[cell?_of_block hC];exact hcs j v hj)
      (fun j hj=>by rw[cell?_of_block hC,Array.getElem?_eq_getElem (by omega)];rfl) (fun j hj=>by rw[frozen?_of_block hC];exact hfz.2 _ (by omega)) (fun j v hj=>by rw[cell?_of_block hD];exact hvs j v hj) h1c h1v
      e2 e D.size C.size (by simp[World.shape?,hD]) (by simp[World.shape?,hC]) (by omega) (by rw[frozen?_of_block hD];exact hfz2.2 _ (by omega)) (by rw[frozen?_of_block hD];exact hfz2.2 _ (by omega))).mono ?_
    rintro x w' ⟨rfl,rfl⟩
    rw[hs2,hs1]
    refine⟨⟨rfl,rfl,rfl⟩,.inl ⟨putL (putL C (off+(i+1) * 2) (cs.drop (i * 2))) (off+i * 2) vs,hroom,rfl,by rw[putL_size,putL_size],?_,?_⟩⟩
    · show(w.heap.setIfInBounds b _).setIfInBounds b _=_
      rw[Array.setIfInBounds_setIfInBounds]
    · refine ins_get (C:=C) hi hcl hvl (by omega) (fun j v hj=>?_) (fun k=>?_)
      · rw[List.getElem?_take] at hj
        split at hj
        · exact hcs j v hj
        · cases hj
      · rw[putL_get _ _ _ _ (by rw[putL_size];omega),putL_get _ _ _ _ (by rw[hdl];omega),hvl,hdl]
  · refine(ins_grow b off n c i vb voff vc cs vs w hi hnc (by omega) (by omega) hcl hvl (fun j v hj=>by rw[cell?_of_block hC];exact hcs j v hj) (fun j v hj=>by rw[cell?_of_block hD];exact hvs j v hj) h1c h1v).mono ?_
    rintro x w' ⟨rfl,rfl⟩
    obtain⟨G,hG⟩:∃ G,G=grownCap w (n+1) c 219:=⟨_,rfl⟩
    have hGn:n+1≤G:=by rw[hG];exact grownCap_ge w _ _ _
    rw[← hG]
    obtain⟨ROW,hROW⟩:∃ ROW:Array Value,ROW=(cs.take (i * 2)).toArray++Builtin.zeroCells zC (n+1-i)++Builtin.zeroCells zC (G-(n+1)):=⟨_,rfl⟩
    have hRl:ROW.size=G * 2:=by
      rw[hROW]
      simp only[Array.size_append,List.size_toArray,List.length_take,zeroCells_len,hcl]
      omega
    rw[← hROW]
    have hf0:free (0,0) (ROW.size+1):=Go.Ev.free_none _
    have hg0:(w.alloc (.cells ROW 219)).drew.heap[w.heap.size]? = some (.cells ROW 219 (0,0)):=heap_alloc_new w _
    have hs1:=setCells_blk hg0 (i * 2) vs (by omega) h1v hf0
    have hg1:((w.alloc (.cells ROW 219)).drew.setCells w.heap.size (i * 2) vs).drew.heap[w.heap.size]? = some (.cells (putL ROW (i * 2) vs) 219 (0,0)):=by
      rw[hs1]
      show((w.alloc (.cells ROW 219)).heap.setIfInBounds w.heap.size _)[w.heap.size]? = _
      rw[Array.getElem?_setIfInBounds_self_of_lt (by simp)]
    have hs2:=setCells_blk hg1 ((i+1) * 2) (cs.drop (i * 2)) (by rw[putL_size,hdl];omega) hdone (by rw[putL_size];exact hf0)
    rw[hs2,hs1]
    refine⟨⟨rfl,rfl,rfl⟩,.inr ⟨putL (putL ROW (i * 2) vs) ((i+1) * 2) (cs.drop (i * 2)),G,hGn,rfl,by rw[putL_size,putL_size,hRl],?_,?_⟩⟩
    · show(((w.alloc (.cells ROW 219)).heap.setIfInBounds w.heap.size _).setIfInBounds w.heap.size _)=_
      rw[Array.setIfInBounds_setIfInBounds,← World.alloc_eq]
      apply Array.ext_getElem?
      intro k
      by_cases hk:k=w.heap.size
      · subst hk;simp
      · simp[Array.getElem?_push,Array.getElem?_setIfInBounds,hk,Ne.symm hk]
    · refine ins_get (C:=ROW) hi hcl hvl (by omega) (fun j v hj=>?_) (fun k=>?_)
      · rw[hROW,Nat.zero_add]
        have hjl:=(List.getElem?_eq_some_iff.1 hj).1
        rw[Array.append_assoc,Array.getElem?_append_left (by simpa using hjl)]
        simpa using hj
      · rw[putL_get _ _ _ _ (by rw[putL_size,hdl];omega),putL_get _ _ _ _ (by omega),hvl,hdl]
        simp only[Nat.zero_add]
        by_cases h1:i * 2≤k∧k<i * 2+2
        · rw[if_neg (by omega),if_pos h1,if_pos h1]
        · rw[if_neg h1]
          by_cases h2:(i+1) * 2≤k∧k<(i+1) * 2+(n-i) * 2
          · simp only[if_pos h2,if_neg h1]
          · simp only[if_neg h2,if_neg h1]
end Go.Proofs.YtdbkocfbhpgpkaaGreat
namespace Go.Proofs.YtdbkocfbhpgpkaaGreat
open Go Go.RowKit Go.Shelf
open Go.Ev (PgM PageOk CellsOut rowsOf rowsV rowV rowsOf_len)
set_option maxRecDepth 100000
set_option maxHeartbeats 4000000
def Soft (t:TypeId):Prop:=t=116∨t=260
structure Stb(Q:World→Prop):Prop where
  b:∀ w1 w2,Below w1.heap.size w1 w2→Q w1→Q w2
  s:∀ w1 w2 N cs t,Soft t→w1.heap[N]? = some (.cells cs t (0,0))→Kp (·=N) w1 w2→Q w1→Q w2
theorem Kp.base{S:Nat→Prop}{w a b:World}(h:Kp S w a)(g:Below w.heap.size a b):Kp S w b:=⟨g.os.trans h.os,g.tape.trans h.tape,g.output.trans h.output,Nat.le_trans h.size g.size,fun k hk hs=>(g.block k hk).trans (h.block k hk hs)⟩
theorem load_any{S:Nat→Prop}{Q:World→Prop}{w:World}{x:Nat}{cs:List NC}(hok:PageOk 1 0 cs)(hv1:∀ c∈cs,1≤c.vn)(hQ:Stb Q)(hS:∀ k,S k→k<w.heap.size)
    (G:∀ w1,Below w.heap.size w w1→Calls Tryz.prog 240 #[.pointer (some ⟨x,0,none⟩),.int .i64 1] w1 fun e w2=>(∃ v,e=.returned (.tuple #[v,.int .i64 0])∧Own w2 0 v (pgL 1 0 cs))∧Q w2∧Kp S w1 w2) :
    Calls Tryz.prog 180 #[.pointer (some ⟨x,0,none⟩),.int .i64 1] w fun e w'=>(∃ v,e=.returned (.tuple #[.agg #[.int .u8 1,.int .i64 0,v],.int .i64 0])∧CellsOut 219 w.heap.size w' v cs)∧Q w'∧Kp S w w':=by
  have hlen:=pg_len hok
  obtain⟨W1,hW1,g1,b1,s1⟩:=box_alloc w (.cells #[.int .u8 0,.int .i64 0,.slice none 0 0] 116)
  have G1:=G W1 b1
  have HL:=Lib.hid hlen
  have HS:=Lib.hid s1
  have UC:=fun(w2:World) (g c:Nat) (hg:g<w2.heap.size) (hc:4080≤c) (hr:Rd w2 w2.heap.size (some ⟨g,0,none⟩) (pgL 1 0 cs))=>unp_call 1 0 cs g 0 c w2 hok hv1 hg hc (fun k hk=>by
    obtain⟨b,o,e,-,h⟩:=hr (by intro e;rw[e] at hk;exact absurd hk (by simp))
    injection e with e
    injection e with e1 e2
    subst e1 e2
    exact h k hk)
  have HU:=Lib.hid UC
  clear G hok hv1 hlen s1 UC
  go_enter Tryz.func180,Tryz.ntmps180
  go_upto_region 1 with fail
  clear hW1
  go_upto_region 4 with (go_at_call 240;(with_reducible refine G1.mono ?_);rintro e w2 ⟨⟨v,rfl,o2⟩,hq2,k2⟩)
  obtain⟨g,c,rfl,hc,hg,hr⟩:=o2.rd0 HL.out (by decide)
  have U:=HU.out w2 g c hg hc hr
  rw[show(((1:Nat)):Int)=1 from rfl,show(((0:Nat)):Int)=0 from rfl] at U
  have e2:=k2.keep g1 (fun q=>Nat.lt_irrefl _ (hS _ q))
  go_upto_region 5 with (go_at_call 241;(with_reducible refine U.mono ?_);rintro e w3 ⟨⟨v,rfl,hout⟩,b3⟩;have e3:=keepB b3 e2;obtain⟨A,d,rfl,-⟩:=out_pgm hout)
  obtain⟨W4,hW4,g4,b4,s4⟩:=box_alloc w3 (.cells #[.int .u8 1,.int .i64 0,.slice A cs.length d] 116)
  rw[hW4]
  have e4:=keepB b4 e3
  have hne:w.heap.size≠w3.heap.size:=by have:=hlt e3;omega
  have x0:W4.cell? ⟨w3.heap.size,0,none⟩=some (.int .u8 1):=cellD g4 0
  have x1:W4.cell? ⟨w3.heap.size,1,none⟩=some (.int .i64 0):=cellD g4 1
  have x2:W4.cell? ⟨w3.heap.size,2,none⟩=some (.slice A cs.length d):=cellD g4 2
  clear s4
  go_wp2_with (refine stP rfl 116 (.tmp 4) (.tmp 50) rfl rfl w.heap.size 0 rfl 3 sz98 _ (.agg #[.int .u8 1,.int .i64 0,.slice A cs.length d]) 116 e4 rfl (by simp) rfl (by intro u hu;simp only[Value.cells,List.mem_cons,List.not_mem_nil,or_false] at hu;rcases hu with rfl | rfl | rfl;exact rfl;exact rfl;exact rfl) ?_;intro w5 g5 o5 b5 z5)
  have g6:w5.heap[w.heap.size]? = some (.cells #[.int .u8 1,.int .i64 0,.slice A cs.length d] 116 (0,0)):=by rw[g5];congr 2
  refine bodyPost_ret (ret_page rfl rfl g6 rfl) rfl ?_
  have hsz:=k2.size
  have b1s:=b1.size
  have out4:=out_belowS (Z:=w.heap.size) hout e3 b4
  refine⟨⟨_,rfl,out_down (out_blocks out4 e4 fun j _ hj=>o5 j hj) (by omega)⟩,?_,?_⟩
  · exact hQ.s W4 w5 _ _ _ (.inl rfl) e4 ⟨(b5 0 (Nat.zero_le _)).os,(b5 0 (Nat.zero_le _)).tape,(b5 0 (Nat.zero_le _)).output,(b5 0 (Nat.zero_le _)).size,fun k _ hk=>o5 k hk⟩ (hQ.b _ _ b4 (hQ.b _ _ b3 hq2))
  · exact((((Kp.of b1).then k2).then (Kp.of b3)).then (Kp.of b4)).base (b5 _ (Nat.le_refl _))
end Go.Proofs.YtdbkocfbhpgpkaaGreat
namespace Go.Proofs.YtdbkocfbhpgpkaaGreat
open Go Go.RowKit Go.Shelf
open Go.Ev (PgM PageOk CellsOut rowsOf rowsV rowV rowsOf_len BelowIs)
set_option maxRecDepth 100000
set_option maxHeartbeats 4000000
theorem tplace_any(cs:List NC)(A B:Option Addr)(n c m d j:Nat)(l:List UInt8)(w:World)(hn:n=cs.length)(hn1:n≤100000)(hp:PgM w w.heap.size A cs)(hr:Rd w w.heap.size B l)(hm:m=l.length)(hj:BelowIs cs l j)(hno:∀ c∈cs,c.key≠l) :
    Calls Tryz.prog 247 #[.agg #[.int .u8 1,.int .i64 0,.slice A n c],.slice B m d] w fun e w'=>e=.returned (.tuple #[.int .i64 (j:Nat),.bool false])∧Below w.heap.size w w':=by
  obtain⟨W1,hW1,g1,b1,s1⟩:=box_alloc w (.cells #[.int .u8 1,.int .i64 0,.slice A n c] 116)
  have BC:=below_call (.int .u8 1) (.int .i64 0) cs A B n c m d j l W1 rfl rfl hn hn1 ((hp.below b1).more b1.size) ((hr.below b1).more b1.size) hm hj
  have x0:W1.cell? ⟨w.heap.size,0,none⟩=some (.int .u8 1):=cellD g1 0
  have x1:W1.cell? ⟨w.heap.size,1,none⟩=some (.int .i64 0):=cellD g1 1
  have x2:W1.cell? ⟨w.heap.size,2,none⟩=some (.slice A n c):=cellD g1 2
  have HN:=Lib.hid hn
  have HM:=Lib.hid hm
  clear s1 hn hm
  cases j with
  | zero =>
    rw[show(((0:Nat)):Int)=0 from rfl] at BC ⊢
    go_enter Tryz.func247,Tryz.ntmps247
    go_wp2_with (go_at_call 277;(with_reducible refine BC.mono ?_);rintro e w2 ⟨rfl,b2⟩)
    go_ret2
    exact⟨rfl,b1.trans (b2.mono b1.size)⟩
  | succ i =>
    have hi:i<cs.length:=hj.1
    obtain⟨b,o,ka,kc,va,vc,rfl,hbb,e1,e2,hk1,hv1⟩:=hp.at_ hi
    rw[show(((i+1:Nat)):Int)=(i:Int)+1 from rfl] at BC ⊢
    have hib:i<100000:=by have:=HN.out;omega
    have hw:wrap64 ((i:Int)+1-1)=(i:Int):=by rw[IntWalk.wrap64_in _ (by omega)];omega
    have f1:decide ((0:Int)<(i:Int)+1)=true:=by simp<;>omega
    have f2:(i:Int)<(n:Int):=by have:=HN.out;omega
    have f3:((i:Int)).toNat=i:=by omega
    have hne:decide (cs[i].key=l)=false:=by simp;exact hno _ (List.getElem_mem hi)
    have HW:=Lib.hid hW1
    go_enter Tryz.func247,Tryz.ntmps247
    go_upto_region 2 with (go_at_call 277;(with_reducible refine BC.mono ?_);rintro e w2 ⟨rfl,b2⟩)
    have b12:=b1.trans (b2.mono b1.size)
    have y2:w2.cell? ⟨w.heap.size,2,none⟩=some (.slice (some ⟨b,o,none⟩) n c):=cellD (keepB b2 g1) 2
    have z1:w2.cell? ⟨b,o+i * 2,none⟩=some (.slice ka cs[i].kn kc):=(b12.cell (p:=⟨b,o+i * 2,none⟩) hbb).trans e1
    have OS:=osame_any ka B kc d cs[i].kn m cs[i].key l w2 ((hk1.below b12).more b12.size) ((hr.below b12).more b12.size) (by simp[NC.key,bl]) HM.out
    rw[hne] at OS
    go_wp2_with (go_at_call 97;(with_reducible refine OS.mono ?_);rintro e w3 ⟨rfl,rfl⟩)
    go_ret2
    exact⟨rfl,b12⟩
theorem out_kp{S:Nat→Prop}{et n₀:Nat}{W W':World}{v:Value}{cs:List NC}(h:CellsOut et n₀ W v cs)(k:Kp S W W')(hS:∀ j,S j→j<n₀):CellsOut et n₀ W' v cs:=by
  obtain⟨gs,hg,hrow,h3,h4,hc⟩:=h
  refine⟨gs,hg,⟨hrow.1,?_⟩,h3,h4,fun i p g h1 h2=>⟨(hc i p g h1 h2).1,(hc i p g h1 h2).2.kp k fun j q1 q2=>?_⟩⟩
  · rcases hrow.2 with q|⟨g,cap,cur,e,hb,hg2,r⟩
    · exact .inl q
    · exact .inr ⟨g,cap,cur,e,hb,k.keep hg2 (fun q=>by have:=hS _ q;omega),r⟩
  · have:=hS _ q2
    have:=(hc i p g h1 h2).2.blk j q1
    omega
theorem down_any{S:Nat→Prop}{Q:World→Prop}{w:World}{x:Nat}{key:Value}{cs:List NC}(hQ:Stb Q)
    (LD:Calls Tryz.prog 180 #[.pointer (some ⟨x,0,none⟩),.int .i64 1] w fun e w'=>(∃ v,e=.returned (.tuple #[.agg #[.int .u8 1,.int .i64 0,v],.int .i64 0])∧CellsOut 219 w.heap.size w' v cs)∧Q w'∧Kp S w w') :
    Calls Tryz.prog 246 #[.pointer (some ⟨x,0,none⟩),key] w fun e w'=>(∃ g c A d zs,e=.returned (.tuple #[.slice (some ⟨g,0,none⟩) 1 c,.int .i64 0])∧w.heap.size≤g∧w'.heap[g]? = some (.cells (#[.int .i64 1,.int .u8 1,.int .i64 0,.slice A cs.length d,.int .i64 0]++zs) 260 (0,0))∧CellsOut 219 w.heap.size w' (.slice A cs.length d) cs)∧Q w'∧Kp S w w':=by
  go_enter Tryz.func246,Tryz.ntmps246
  go_wp2
  go_step3
  go_wp2
  go_step3
  go_wp2
  go_loopw [6,7] (fun s i wr=>s=.slice none 0 0∧i=.int .i64 1∧wr=w) (fun _ _ _=>0)
  case atStart=>exact⟨rfl,rfl,rfl⟩
  case round=>
    obtain⟨rfl,rfl,rfl⟩:=hrel
    go_upto_region 6 with (go_at_call 180;(with_reducible refine LD.mono ?_);rintro e w2 ⟨⟨v,rfl,hout⟩,hq2,k2⟩;obtain⟨A,d,rfl,-⟩:=out_pgm hout)
    obtain⟨W3,hW3,g3,b3,s3⟩:=box_alloc w2 (.cells #[.int .u8 1,.int .i64 0,.slice A cs.length d] 116)
    rw[hW3]
    have y0:W3.cell? ⟨w2.heap.size,0,none⟩=some (.int .u8 1):=cellD g3 0
    have y1:W3.cell? ⟨w2.heap.size,1,none⟩=some (.int .i64 0):=cellD g3 1
    have y2:W3.cell? ⟨w2.heap.size,2,none⟩=some (.slice A cs.length d):=cellD g3 2
    clear s3
    go_upto_region 9 with fail
    obtain⟨W4,hW4,g4,b4,s4⟩:=box_alloc W3 (.cells #[.int .i64 1,.int .u8 1,.int .i64 0,.slice A cs.length d,.int .i64 0] 260)
    rw[hW4]
    have g34:=keepB b4 g3
    have x0:W4.cell? ⟨w2.heap.size,0,none⟩=some (.int .u8 1):=cellD g34 0
    have z0:W4.cell? ⟨W3.heap.size,0,none⟩=some (.int .i64 1):=cellD g4 0
    have z1:W4.cell? ⟨W3.heap.size,1,none⟩=some (.int .u8 1):=cellD g4 1
    have z2:W4.cell? ⟨W3.heap.size,2,none⟩=some (.int .i64 0):=cellD g4 2
    have z3:W4.cell? ⟨W3.heap.size,3,none⟩=some (.slice A cs.length d):=cellD g4 3
    have z4:W4.cell? ⟨W3.heap.size,4,none⟩=some (.int .i64 0):=cellD g4 4
    clear s4 y0 y1 y2
    go_wp2
    rw[Exit.noGoto_ret]
    generalize (Question.appendCap 1 0 260).cut (W4.tape W4.drawn (Question.appendCap 1 0 260))=C
    obtain⟨W5,hW5,g5,b5,s5⟩:=box_alloc W4 (.cells #[.int .i64 1,.int .u8 1,.int .i64 0,.slice A cs.length d,.int .i64 0] 260)
    rw[hW5]
    obtain⟨W6,hW6,g6,b6,s6⟩:=box_alloc W5 (.cells (#[.int .i64 1,.int .u8 1,.int .i64 0,.slice A cs.length d,.int .i64 0]++Builtin.zeroCells #[.int .i64 0,.int .u8 0,.int .i64 0,.slice none 0 0,.int .i64 0] (C-1)) 260)
    rw[hW6]
    obtain⟨W7,hW7,-,b7⟩:=drew_name W6
    rw[hW7]
    go_ret2
    have bb:Below w2.heap.size w2 W7:=(((b3.trans (b4.mono b3.size)).trans (b5.mono (Nat.le_trans b3.size b4.size))).trans (b6.mono (Nat.le_trans b3.size (Nat.le_trans b4.size b5.size)))).trans (b7.mono (Nat.le_trans b3.size (Nat.le_trans b4.size (Nat.le_trans b5.size b6.size))))
    rw[← s5]
    have h5:=Nat.le_trans b3.size (Nat.le_trans b4.size b5.size)
    exact⟨⟨_,_,A,d,_,rfl,Nat.le_trans k2.size h5,keepB b7 g6,out_kp hout (Kp.of (S:=fun _=>False) bb) (fun _ h=>h.elim)⟩,hQ.b _ _ bb hq2,k2.then (Kp.of bb)⟩
theorem ins_end{w:World}{n c vb vc:Nat}{A:Option Addr}{xs:List Value}{x1 x2:Value}(hown:w.ownsRow 0 219 2 (.slice A n c) n xs)(hn:n≤100000)(h1:w.cell? ⟨vb,0,none⟩=some x1)(h2:w.cell? ⟨vb,1,none⟩=some x2)(o1:x1.oneCell'=true)(o2:x2.oneCell'=true) :
    Calls Tryz.prog 251 #[.slice A n c,.int .i64 (n:Int),.slice (some ⟨vb,0,none⟩) 1 vc] w fun e w'=>∃ g cap,e=.returned (.slice (some ⟨g,0,none⟩) (n+1) cap)∧w'.ownsRow 0 219 2 (.slice (some ⟨g,0,none⟩) (n+1) cap) (n+1) (xs++[x1,x2])∧w.grownBy w' (Value.slice A n c).ownBlock∧((Value.slice A n c).ownBlock=some g∨g=w.heap.size):=by
  obtain⟨i0,hi,hz0,hs0,hb0⟩:=info_parts infoCell
  have hcell:∀ j u,[x1,x2][j]? = some u→w.cell? ((⟨vb,0,none⟩:Addr).add j)=some u:=fun j u hj=>by
    match j,hj with
    | 0,hj=>injection hj with hj;subst hj;exact h1
    | 1,hj=>injection hj with hj;subst hj;exact h2
    | j+2,hj=>simp at hj
  have hone:∀ u∈[x1,x2],u.oneCell'=true:=fun u hu=>by
    simp at hu
    rcases hu with rfl|rfl
    · exact o1
    · exact o2
  have HCC:=Lib.hid hcell
  have HO:=Lib.hid hone
  have HN:=Lib.hid hn
  have hnc:n≤c:=by
    rcases hown.2 with⟨e,e0⟩|⟨g,cap,cur,e,-,-,e4,-⟩
    · omega
    · injection e with _ _ e;omega
  have f1:(n:Int)≤(c:Int):=by omega
  have f2:¬((c:Int)<(n:Int)):=by omega
  clear hcell hone h1 h2
  rcases hown.2 with⟨e,e0⟩|⟨g,cap,cur,e,-,hg,e4,e5,e6,-⟩
  · injection e with e1 e2 e3
    subst e1 e2 e3
    go_enter Tryz.func251,Tryz.ntmps251
    go_wp2_with (at_builtin;refine wpList_append_lies _ rfl (.tmp 23) (.tmp 24) 114 rfl 0 219 i0 _ 2 48 Tryz.underlying114 hi hz0 hs0 hb0 rfl (by decide) (.slice none 0 0) 0 xs rfl hown ⟨vb,0,none⟩ 1 vc [x1,x2] rfl rfl HCC.out HO.out (by decide) (by decide) (by decide) (Nat.zero_le _) _ rfl ?_;intro g cap w' own grow at_ lt_)
    go_ret
    exact⟨g,cap,rfl,own,grow,at_⟩
  · injection e with e1 e2 e3
    subst e1 e3
    go_enter Tryz.func251,Tryz.ntmps251
    go_wp2_with (at_builtin;refine wpList_append_lies _ rfl (.tmp 23) (.tmp 24) 114 rfl 0 219 i0 _ 2 48 Tryz.underlying114 hi hz0 hs0 hb0 rfl (by decide) (.slice (some ⟨g,0,none⟩) n c) n xs rfl hown ⟨vb,0,none⟩ 1 vc [x1,x2] rfl rfl HCC.out HO.out (by decide) (by have:=HN.out;simp[maxLen];omega) (by have:=HN.out;omega) (Nat.zero_le _) _ rfl ?_;intro g cap w' own grow at_ lt_)
    all_goals
      go_ret
      exact⟨_,_,rfl,own,grow,at_⟩
theorem tins_row{w:World}{n₀ n d j vb vc:Nat}{A:Option Addr}{rows:List Value}{x1 x2:Value}{tt:TypeId}(hrow:w.ownsRow n₀ 219 2 (.slice A n d) n rows)(hj:j≤n)(hn:n≤2000)(hvb:w.heap[vb]? = some (.cells #[x1,x2] tt (0,0)))(hne:(Value.slice A n d).ownBlock≠some vb)(o1:x1.oneCell'=true)(o2:x2.oneCell'=true)(hone:∀ v∈rows,v.oneCell'=true) :
    Calls Tryz.prog 251 #[.slice A n d,.int .i64 (j:Int),.slice (some ⟨vb,0,none⟩) 1 vc] w fun e w'=>∃ g cap,e=.returned (.slice (some ⟨g,0,none⟩) (n+1) cap)∧(∃ cur,w'.heap[g]? = some (.cells cur 219 (0,0)))∧(∀ (k:Nat) (v:Value),(rows.take (j * 2)++([x1,x2]++rows.drop (j * 2)))[k]? = some v→w'.cell? ⟨g,k,none⟩=some v)∧Kp (fun k=>(Value.slice A n d).ownBlock=some k) w w':=by
  have hlen:=hrow.1
  rcases Nat.lt_or_ge j n with q|q
  · rcases hrow.2 with⟨e,e0⟩|⟨g,cap,cur,e,hb,hg,e4,e5,e6,e7⟩
    · omega
    · injection e with e1 e2 e3
      subst e1 e3
      have hf:Go.Ev.fitsA (n+1) 48=true:=by
        simp only[Go.Ev.fitsA,Bool.and_eq_true,Go.Ev.ble_iff]
        simp[maxLen];omega
      have hgv:vb≠g:=fun e=>hne (by rw[e];rfl)
      refine(insAt.call g 0 n d j vb 0 vc rows [x1,x2] w cur #[x1,x2] 219 tt (0,0) (0,0) q hf hgv hlen rfl hg hvb (fun k v hk=>?_) (fun k v hk=>?_) e4 (by omega) (Go.Ev.free_none _) (Go.Ev.free_none _) hone (fun v hv=>by simp at hv;rcases hv with rfl | rfl;exact o1;exact o2)).mono ?_
      · rw[← e7] at hk
        rw[List.getElem?_take] at hk
        split at hk
        · simpa using hk
        · cases hk
      · simpa using hk
      · rintro e w' ⟨so,⟨C',h1,rfl,h2,h3,h4⟩|⟨C',cap',h1,rfl,h2,h3,h4⟩⟩
        · have hg':w'.heap[g]? = some (.cells C' 219 (0,0)):=by rw[h3];simp[hlt hg]
          refine⟨g,d,rfl,⟨_,hg'⟩,fun k v hk=>(cellD hg' k).trans (by simpa using h4 k v hk),⟨so.os,so.tape,so.output,by rw[h3];simp,fun k hk hs=>?_⟩⟩
          rw[h3,Array.getElem?_setIfInBounds_ne (fun e=>hs (by rw[← e];rfl))]
        · have hg':w'.heap[w.heap.size]? = some (.cells C' 219 (0,0)):=by rw[h3];simp
          refine⟨w.heap.size,cap',rfl,⟨_,hg'⟩,fun k v hk=>(cellD hg' k).trans (by simpa using h4 k v hk),⟨so.os,so.tape,so.output,by rw[h3];simp,fun k hk hs=>?_⟩⟩
          rw[h3,Array.getElem?_push_lt hk]
          simp[hk]
  · obtain rfl:j=n:=by omega
    have h0:w.ownsRow 0 219 2 (.slice A j d) j rows:=by
      refine⟨hrow.1,?_⟩
      rcases hrow.2 with h|⟨g,cap,cur,a,b,c⟩
      · exact .inl h
      · exact .inr ⟨g,cap,cur,a,Nat.zero_le _,c⟩
    refine(ins_end (vc:=vc) h0 (by omega) (cellD hvb 0) (cellD hvb 1) o1 o2).mono ?_
    rintro e w' ⟨g,cap,rfl,own,grow,-⟩
    rcases own.2 with⟨e,-⟩|⟨g',cap',cur,e,-,hg,-,-,e6,e7⟩
    · cases e
    · injection e with e1 e2 e3
      injection e1 with e1
      injection e1 with e1
      subst e1
      refine⟨g,cap,rfl,⟨_,hg⟩,fun k v hk=>?_,Kp.grow grow⟩
      rw[cellD hg k]
      have ht:rows.take (j * 2)=rows:=List.take_of_length_le (by omega)
      have hd:rows.drop (j * 2)=[]:=List.drop_of_length_le (by omega)
      have e7':cur.toList.take ((j+1) * 2)=rows++[x1,x2]:=e7
      rw[ht,hd,List.append_nil,← e7',List.getElem?_take] at hk
      split at hk
      · simpa using hk
      · cases hk
end Go.Proofs.YtdbkocfbhpgpkaaGreat
