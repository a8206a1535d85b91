/-
  page.Unpack: the walk, over the bytes of a page that is right.
-/
import Derived.Test.YtdbkocfbhpgpkaaGreatb15
import Derived.Test.YtdbkocfbhpgpkaaGreatb01
import Derived.Test.YtdbkocfbhpgpkaaGreatb14
import Derived.Test.YtdbkocfbhpgpkaaGreatb03
import Derived.Laws.ResultCell
import Derived.Deep.AppendLies
import Derived.Deep.RegionLaw
set_option linter.unusedVariables false
set_option linter.unusedSimpArgs false
namespace Go.Proofs.YtdbkocfbhpgpkaaGreat
open Go Go.RowKit Go.Shelf
open Go.Ev (PgM PageOk CellsOut rowsOf rowsV rowV rowsOf_len szOf run_storeCells_block putL run_loadVar_agg aggN)
set_option maxRecDepth 100000
set_option maxHeartbeats 4000000
theorem sub_mid{A M B:List UInt8}{a m:Nat}(ha:A.length=a)(hm:M.length=m):sub (A++(M++B)) a m=M:=by
  subst ha;subst hm
  simp[sub]
theorem leN_small:∀ (s v:Nat),v<256 ^ s→leN (le s v)=v:=by
  have hB:∀ v i,(leB v i).toNat=v / 256 ^ i % 256:=fun v i=>by
    simp[leB,pow256]
  have key:∀ n v,leN (le n v)=v % 256 ^ n:=by
    intro n
    induction n with
    | zero=>intro v;simp[le,leN,Nat.mod_one]
    | succ n ih=>intro v;rw[le_succ,leN_snoc,ih,le_len,hB,Nat.mod_pow_succ,Nat.mul_comm (256 ^ n)]
  intro s v h
  rw[key,Nat.mod_eq_of_lt h]
theorem pg_len{kind next:Nat}{cs:List NC}(hok:PageOk kind next cs):(pgL kind next cs).length=4080:=by
  have:=hok.fits
  simp[pgL,pkL,frontL_len,placesL_len,bodyL_len]
  omega
theorem pg_cell{kind next:Nat}{cs:List NC}{k:Nat}(hk:k<cs.length) :
    sub (pgL kind next cs) (8+2 * cs.length+bodyS (cs.take k)) 2=le 2 cs[k].kn∧sub (pgL kind next cs) (8+2 * cs.length+bodyS (cs.take k)+2) 2=le 2 cs[k].vn ∧
    sub (pgL kind next cs) (8+2 * cs.length+bodyS (cs.take k)+4) cs[k].kn=cs[k].key∧sub (pgL kind next cs) (8+2 * cs.length+bodyS (cs.take k)+4+cs[k].kn) cs[k].vn=cs[k].val:=by
  obtain⟨post,hpost⟩:∃ post,pgL kind next cs=(frontL kind next cs.length++placesL (8+2 * cs.length) cs++bodyL (cs.take k))++(cs[k].body++post):=by
    refine⟨bodyL (cs.drop (k+1))++List.replicate (4080-(8+2 * cs.length+bodyS cs)) 0,?_⟩
    have:bodyL cs=bodyL (cs.take k)++(cs[k].body++bodyL (cs.drop (k+1))):=by
      have h1:bodyL cs=bodyL (cs.take k)++bodyL (cs.drop k):=by unfold bodyL;rw[← List.flatMap_append,List.take_append_drop]
      rw[h1,List.drop_eq_getElem_cons hk]
      unfold bodyL
      rw[List.flatMap_cons]
    simp only[pgL,pkL,this,List.append_assoc]
  have hl:(frontL kind next cs.length++placesL (8+2 * cs.length) cs++bodyL (cs.take k)).length=8+2 * cs.length+bodyS (cs.take k):=by simp[frontL_len,placesL_len,bodyL_len];omega
  generalize frontL kind next cs.length++placesL (8+2 * cs.length) cs++bodyL (cs.take k)=A at hpost hl
  generalize 8+2 * cs.length+bodyS (cs.take k)=p at hl ⊢
  rw[hpost]
  unfold NC.body
  refine⟨?_,?_,?_,?_⟩
  · rw[show A++(le 2 cs[k].kn++le 2 cs[k].vn++cs[k].key++cs[k].val++post)=A++(le 2 cs[k].kn++(le 2 cs[k].vn++cs[k].key++cs[k].val++post)) by simp]
    exact sub_mid hl (le_len _ _)
  · rw[show A++(le 2 cs[k].kn++le 2 cs[k].vn++cs[k].key++cs[k].val++post)=(A++le 2 cs[k].kn)++(le 2 cs[k].vn++(cs[k].key++cs[k].val++post)) by simp]
    exact sub_mid (by simp[hl,le_len]) (le_len _ _)
  · rw[show A++(le 2 cs[k].kn++le 2 cs[k].vn++cs[k].key++cs[k].val++post)=(A++le 2 cs[k].kn++le 2 cs[k].vn)++(cs[k].key++(cs[k].val++post)) by simp]
    exact sub_mid (by simp[hl,le_len]) (by simp[NC.key,bl_length])
  · rw[show A++(le 2 cs[k].kn++le 2 cs[k].vn++cs[k].key++cs[k].val++post)=(A++le 2 cs[k].kn++le 2 cs[k].vn++cs[k].key)++(cs[k].val++post) by simp]
    exact sub_mid (by simp[hl,le_len,NC.key,bl_length];omega) (by simp[NC.val,bl_length])
theorem pg_front{kind next:Nat}{cs:List NC}:sub (pgL kind next cs) 2 2=le 2 cs.length∧sub (pgL kind next cs) 4 4=le 4 next∧(pgL kind next cs)[0]? = some (UInt8.ofNat kind):=by
  have e:pgL kind next cs=le 2 kind++(le 2 cs.length++(le 4 next++(placesL (8+2 * cs.length) cs++bodyL cs++List.replicate (4080-(8+2 * cs.length+bodyS cs)) 0))):=by
    simp only[pgL,pkL,frontL,List.append_assoc]
  rw[e]
  refine⟨sub_mid (le_len _ _) (le_len _ _),?_,?_⟩
  · rw[← List.append_assoc]
    exact sub_mid (by simp[le_len]) (le_len _ _)
  · simp[le,List.range_succ,leB]
    apply UInt8.toNat_inj.1
    simp
theorem info161:(Tryz.prog.info? 219).map (fun i=>(i.zero,i.size,i.bytes))=some (some (.agg #[.slice none 0 0,.slice none 0 0]),2,48):=by kernel_rfl
def Bx (W:World)(G kind next:Nat)(v:Value):Prop:=W.heap[G]? = some (.cells #[.int .u8 kind,.int .i64 next,v] 116 (0,0))
theorem Bx.lt{W:World}{G kind next:Nat}{v:Value}(h:Bx W G kind next v):G<W.heap.size:=(Array.getElem?_eq_some_iff.1 h).1
theorem Bx.cell{W:World}{G kind next:Nat}{v:Value}(h:Bx W G kind next v):W.cell? ⟨G,2,none⟩=some v:=by unfold Bx at h;simp[World.cell?,h]
theorem Bx.not_row{W:World}{G kind next base size n:Nat}{v u:Value}{e:TypeId}{xs:List Value}(h:Bx W G kind next v)(he:e≠116)(hr:W.ownsRow base e size u n xs):u.ownBlock≠some G:=by
  intro hu
  rcases hr.2 with⟨rfl,_⟩|⟨b,cap,cur,rfl,_,hb,_⟩
  · simp[Value.ownBlock] at hu
  · simp[Value.ownBlock] at hu
    subst hu
    unfold Bx at h
    rw[hb] at h
    simp at h
    exact he h.2
structure RI(w:World)(kind next:Nat)(ps:List NC)(W:World):Prop where
  z:Bx W w.heap.size 0 0 (.slice none 0 0)
  g:∃ v,Bx W (w.heap.size+1) kind next v∧CellsOut 219 w.heap.size W v ps
  bl:Below w.heap.size w W
  sz:w.heap.size+2≤W.heap.size
theorem rowsOf_snoc:∀ (ps:List NC) (c:NC),rowsOf (ps++[c])=rowsOf ps++[(c.kn,c.K),(c.vn,c.V)]
  | [],⟨_,_,_,_⟩=>rfl
  | ⟨_,_,_,_⟩::ps,c=>by simp[rowsOf,rowsOf_snoc ps c]
theorem rowsV_snoc{ps gs:List (Nat×Nat)}(h:gs.length=ps.length)(a b:List (Nat×Nat)):rowsV (ps++a) (gs++b)=rowsV ps gs++rowsV a b:=by
  unfold rowsV
  rw[List.zip_append (by omega),List.map_append]
theorem ri_step{w W w3 w4:World}{kind next:Nat}{ps:List NC}{v:Value}{gs:List (Nat×Nat)}{cl:NC}{gk ck gv cv g2 cap2 kk:Nat}(hkk:ps.length=kk)(hz:Bx W w.heap.size 0 0 (.slice none 0 0))(hg:Bx W (w.heap.size+1) kind next v)(hbl:Below w.heap.size w W)(hsz:w.heap.size+2≤W.heap.size)
    (hgl:gs.length=(rowsOf ps).length) (hrow:W.ownsRow w.heap.size 219 2 v kk (rowsV (rowsOf ps) gs)) (hnd:(gs.map (·.1)).Nodup)
    (hall:∀ (k:Nat) (p g:Nat×Nat),(rowsOf ps)[k]? = some p→gs[k]? = some g→w.heap.size≤g.1∧Own W w.heap.size (.slice (some ⟨g.1,0,none⟩) p.1 g.2) (bl p.1 p.2))
    (hb3:Below W.heap.size W w3) (own1:Own w3 W.heap.size (.slice (some ⟨gk,0,none⟩) cl.kn ck) cl.key) (own2:Own w3 W.heap.size (.slice (some ⟨gv,0,none⟩) cl.vn cv) cl.val) (hne:gk≠gv)
    (hgrow:w3.grownBy w4 v.ownBlock) (hrow2:w4.ownsRow w.heap.size 219 2 (.slice (some ⟨g2,0,none⟩) (kk+1) cap2) (kk+1) (rowsV (rowsOf ps) gs++[.slice (some ⟨gk,0,none⟩) cl.kn ck,.slice (some ⟨gv,0,none⟩) cl.vn cv])) :
    RI w kind next (ps++[cl]) (w4.setCell ⟨w.heap.size+1,2,none⟩ (.slice (some ⟨g2,0,none⟩) (kk+1) cap2)):=by
  subst hkk
  have hlt:=ownB_lt hrow
  have hgk:=own1.lt gk rfl
  have hgv:=own2.lt gv rfl
  have hk1:=own1.blk gk rfl
  have hv1:=own2.blk gv rfl
  have hs3:=hb3.size
  have keep:∀ B,B<w3.heap.size→B≠w.heap.size+1→some B≠v.ownBlock→(w4.setCell ⟨w.heap.size+1,2,none⟩ (.slice (some ⟨g2,0,none⟩) (ps.length+1) cap2)).heap[B]? = w3.heap[B]?:=fun B h1 h2 h3=>
    (Below.heap_setCell _ _ _ B (fun e=>h2 e)).trans (hgrow.block B h1 h3)
  have keepW:∀ B,B<W.heap.size→B≠w.heap.size+1→some B≠v.ownBlock→(w4.setCell ⟨w.heap.size+1,2,none⟩ (.slice (some ⟨g2,0,none⟩) (ps.length+1) cap2)).heap[B]? = W.heap[B]?:=fun B h1 h2 h3=>
    (keep B (by omega) h2 h3).trans (hb3.block B h1)
  have hnz:=hz.not_row (by decide) hrow
  have hng:=hg.not_row (by decide) hrow
  have hg3:Bx w3 (w.heap.size+1) kind next v:=(hb3.block _ (by omega)).trans hg
  have hg4:Bx w4 (w.heap.size+1) kind next v:=(hgrow.block _ (by omega) (fun e=>hng e.symm)).trans hg3
  have hng4:=hg4.not_row (by decide) hrow2
  refine⟨(keepW _ (by omega) (by omega) (fun e=>hnz e.symm)).trans hz,⟨.slice (some ⟨g2,0,none⟩) (ps.length+1) cap2,?_,gs++[(gk,ck),(gv,cv)],?_,?_,?_,?_,?_⟩,?_,?_⟩
  · unfold Bx at hg4 ⊢
    have hlt4:w.heap.size+1<w4.heap.size:=hg4 |> fun h=>(Array.getElem?_eq_some_iff.1 h).1
    simp[World.setCell,Array.getElem?_modify,hg4]
  · rw[rowsOf_snoc];simp[hgl]
  · rw[rowsOf_snoc,rowsV_snoc hgl,List.length_append]
    refine⟨by have:=hrow2.1;simpa[rowsV,rowV] using this,?_⟩
    rcases hrow2.2 with⟨e,_⟩|⟨b,cap,cur,e,h1,h2,h3,h4,h5,h6⟩
    · cases e
    · cases e
      refine .inr ⟨g2,cap2,cur,rfl,h1,(Below.heap_setCell _ _ _ _ (fun e=>hng4 (by simp[Value.ownBlock,e]))).trans h2,h3,h4,h5,?_⟩
      simpa[rowsV,rowV] using h6
  · simp
  · rw[List.map_append,List.nodup_append]
    refine⟨hnd,by simp[hne],?_⟩
    intro a ha b hb e
    obtain⟨q,hq,rfl⟩:=List.mem_map.1 ha
    obtain⟨k,hk,rfl⟩:=List.getElem_of_mem hq
    obtain⟨_,ho⟩:=hall k ((rowsOf ps)[k]'(by omega)) gs[k] (List.getElem?_eq_getElem _) (List.getElem?_eq_getElem hk)
    have:=ho.lt gs[k].1 rfl
    simp at hb
    omega
  · intro k p q hpk hqk
    rw[rowsOf_snoc] at hpk
    by_cases hk:k<(rowsOf ps).length
    · rw[List.getElem?_append_left hk] at hpk
      rw[List.getElem?_append_left (by omega)] at hqk
      obtain⟨h4,h5⟩:=hall k p q hpk hqk
      refine⟨h4,h5.blocks fun j hj=>keepW j (h5.lt j hj) (fun e=>?_) (fun e=>?_)⟩
      · exact hg.not_row (by decide) h5 (by rw[hj,e])
      · exact rows_ne h5 hrow (by decide) j hj e.symm
    · rw[List.getElem?_append_right (by omega)] at hpk
      rw[List.getElem?_append_right (by omega),hgl] at hqk
      have h2:k-(rowsOf ps).length=0∨k-(rowsOf ps).length=1:=by
        have:=(List.getElem?_eq_some_iff.1 hpk).1
        simp at this
        omega
      rcases h2 with h2|h2
      · rw[h2] at hpk hqk
        simp at hpk hqk
        subst hpk;subst hqk
        refine⟨by show w.heap.size≤gk;omega,(own1.blocks fun j hj=>?_).down (B':=w.heap.size) (by omega)⟩
        obtain rfl:gk=j:=by simpa[Value.ownBlock] using hj
        exact keep gk hgk (by omega) (fun e=>by have:=hlt gk e.symm;omega)
      · rw[h2] at hpk hqk
        simp at hpk hqk
        subst hpk;subst hqk
        refine⟨by show w.heap.size≤gv;omega,(own2.blocks fun j hj=>?_).down (B':=w.heap.size) (by omega)⟩
        obtain rfl:gv=j:=by simpa[Value.ownBlock] using hj
        exact keep gv hgv (by omega) (fun e=>by have:=hlt gv e.symm;omega)
  · have hrb:∀ r,v.ownBlock=some r→w.heap.size≤r:=by
      intro r hr
      rcases hrow.2 with⟨rfl,_⟩|⟨b,_,_,rfl,hb,_⟩
      · simp[Value.ownBlock] at hr
      · simp[Value.ownBlock] at hr;omega
    refine hbl.trans ⟨?_,?_,?_,?_,fun B hB=>keepW B (by omega) (by omega) (fun e=>by have:=hrb B e.symm;omega)⟩
    · exact(show _=w4.os from rfl).trans (hgrow.os.trans hb3.os)
    · exact(show _=w4.tape from rfl).trans (hgrow.tape.trans hb3.tape)
    · exact(show _=w4.output from rfl).trans (hgrow.output.trans hb3.output)
    · have:=hgrow.size
      have e:(w4.setCell ⟨w.heap.size+1,2,none⟩ (.slice (some ⟨g2,0,none⟩) (ps.length+1) cap2)).heap.size=w4.heap.size:=by simp[World.setCell]
      omega
  · have:=hgrow.size
    have e:(w4.setCell ⟨w.heap.size+1,2,none⟩ (.slice (some ⟨g2,0,none⟩) (ps.length+1) cap2)).heap.size=w4.heap.size:=by simp[World.setCell]
    omega
theorem stP{w:World}{ops:Array Oper}{rest:List Oper}{o:Oper}{a:Act}{Q:Exit→Act→World→Prop}(hgd:o.guard=none)(ty:TypeId)(p x:Operand)(ho:o.op=.store ty p x)(hdst:o.dst=none)
    (g k:Nat) (hp:a.eval p=.pointer (some ⟨g,k,none⟩)) (n:Nat) (hsz:szOf Tryz.prog ty=some n) (cs:Array Value) (v:Value) (t:TypeId) (hg:w.heap[g]? = some (.cells cs t (0,0))) (hx:a.eval x=v)
    (h1:k+n≤cs.size) (h2:v.cells.size=n) (hone:∀ u∈v.cells.toList,u.oneCell'=true)
    (h:∀ w',w'.heap[g]? = some (.cells (putL cs (k+0) v.cells.toList) t (0,0))→(∀ j,j≠g→w'.heap[j]? = w.heap[j]?)→(∀ B,B≤g→Below B w w')→w'.heap.size=w.heap.size→wpList Tryz.prog ops Q rest a w'):wpList Tryz.prog ops Q (o::rest) a w:=by
  refine wpList_plain hgd fun _ hK=>?_
  have hlt:=(Array.getElem?_eq_some_iff.1 hg).1
  have hrun:=run_storeCells_block (P:=Tryz.prog) g k t (0,0) v.cells.toList 0 cs w hg (by simp;omega) hone (by intro k _ _;simp)
  have hst:(Instr.storeAt ty (a.eval p) (a.eval x)).run Tryz.prog w=.ok () { w with heap:=w.heap.setIfInBounds g (.cells (putL cs (k+0) v.cells.toList) t (0,0)) }:=by
    rw[hp,hx]
    simp only[Instr.storeAt,Instr.sureAddr,Sem.run_bind,Sem.run_pure,Result.andThen_ok,storeVar,Go.Ev.run_szOf hsz,h2,ne_eq,not_true,if_false]
    exact hrun
  unfold Oper.wp execOp
  simp only[ho,Sem.run_bind,hst,Result.andThen_ok,Sem.run_pure]
  have hk:=hK a { w with heap:=w.heap.setIfInBounds g (.cells (putL cs (k+0) v.cells.toList) t (0,0)) } (h _ (by simp[hlt]) (fun k hk=>by simp[Array.getElem?_setIfInBounds,Ne.symm hk]) (fun B hB=>⟨rfl,rfl,rfl,by simp,fun k hk=>by simp[Array.getElem?_setIfInBounds,show g≠k by omega]⟩) (by simp))
  simpa[Oper.upon,Act.put,hdst] using hk
theorem sz98:szOf Tryz.prog 116=some 3:=by kernel_rfl
theorem agg98:aggN Tryz.prog 116=some (some 3):=by kernel_rfl
theorem ret_page{fn:Func}{p u:Tmp}(h:fn.results=#[.cell p 116,.tmp u]){tmps:Array Value}{w:World}{g:Nat}{V:Array Value}(hp:tmps.getD p undef=.pointer (some ⟨g,0,none⟩))(hV:w.heap[g]? = some (.cells V 116 (0,0)))(hz:V.size=3) :
    (results fn tmps).run Tryz.prog w=.ok (.tuple #[.agg V,tmps.getD u undef]) w:=by
  rw[results_cell_tmp h,hp]
  have hl:=run_loadVar_agg (P:=Tryz.prog) (w:=w) agg98 (a:=⟨g,0,none⟩) (cs:=V.toList) (by simp[hz]) (by
    intro j v hj
    have:(⟨g,0,none⟩:Addr).add j=⟨g,j,none⟩:=by unfold Addr.add;split<;>simp_all
    rw[this]
    simp only[World.cell?,hV]
    simpa using hj)
  have ha:asAddr (.pointer (some ⟨g,0,none⟩))=pure ⟨g,0,none⟩:=rfl
  rw[ha]
  simp only[Sem.run_pure,Result.andThen_ok]
  rw[hl]
  rfl
theorem pgread_any(kind next:Nat)(cs:List NC)(b o c:Nat)(w:World)(hok:PageOk kind next cs)(hv1:∀ c∈cs,1≤c.vn)(hbw:b<w.heap.size)(hc:4080≤c)(hcell:∀ k (h:k<(pgL kind next cs).length),w.cell? ⟨b,o+k,none⟩=some (u8V (pgL kind next cs)[k])) :
    Calls Tryz.prog 275 #[.slice (some ⟨b,o,none⟩) 4080 c] w fun e w'=>(∃ v,e=.returned (.tuple #[.agg #[.int .u8 kind,.int .i64 next,v],.bool true])∧CellsOut 219 w.heap.size w' v cs)∧Below w.heap.size w w':=by
  have hlen:=pg_len hok
  obtain⟨f1,f2,f3⟩:=pg_front (kind:=kind) (next:=next) (cs:=cs)
  have hnx:=hok.next
  have hfit:=hok.fits
  have hkd:=hok.kind
  have hrd:Rd w w.heap.size (some ⟨b,o,none⟩) (pgL kind next cs):=fun _=>⟨b,o,rfl,hbw,hcell⟩
  have h0:w.cell? ⟨b,o,none⟩=some (.int .u8 kind):=by
    have:=hcell 0 (by omega)
    rw[List.getElem?_eq_getElem (by omega)] at f3
    simp only[Option.some.injEq] at f3
    rw[f3] at this
    simp only[Nat.add_zero,u8V] at this
    rw[this]
    have:(UInt8.ofNat kind).toNat=kind:=by simp;omega
    rw[this]
  have HOK:=Lib.hid hok
  have HV:=Lib.hid hv1
  obtain⟨l,hl⟩:∃ l,l=pgL kind next cs:=⟨_,rfl⟩
  obtain⟨n,hn⟩:∃ n,n=cs.length:=⟨_,rfl⟩
  rw[← hl] at hlen f1 f2 hrd
  rw[← hn] at f1 hfit
  have HLN:=Lib.hid hlen
  have HN:=Lib.hid hn
  have HL:=Lib.hid hl
  have hn2:leN (sub l 2 2)=n:=by rw[f1];exact leN_small 2 n (by omega)
  have hx2:leN (sub l 4 4)=next:=by rw[f2];exact leN_small 4 next (by omega)
  have hn2040:n≤2040:=by omega
  have hrd1:Rd (w.alloc (.cells #[.int .u8 0,.int .i64 0,.slice none 0 0] 116)) (w.heap.size+1) (some ⟨b,o,none⟩) l:=(hrd.alloc (Nat.le_refl _) _).more (by omega)
  have h1:=(World.cell?_alloc_lt w (.cells #[.int .u8 0,.int .i64 0,.slice none 0 0] 116) ⟨b,o,none⟩ hbw).trans h0
  obtain⟨W1,hW1⟩:∃ W1,W1=w.alloc (.cells #[.int .u8 0,.int .i64 0,.slice none 0 0] 116):=⟨_,rfl⟩
  have hz1:W1.heap.size=w.heap.size+1:=by rw[hW1];simp
  rw[← hW1] at hrd1 h1
  have hrdW:=hrd1.more (B':=W1.heap.size) (by omega)
  have C2:Calls Tryz.prog 295 #[.slice (some ⟨b,o,none⟩) 4080 c,.int .i64 2] W1 fun e w'=>e=.returned (.tuple #[.int .u16 (n:Nat),.bool true])∧w'=W1:=by
    have:=u16_any (some ⟨b,o,none⟩) c 4080 2 l W1 hrdW hlen.symm (by omega) (by omega)
    rw[hn2] at this
    exact this
  have C4:Calls Tryz.prog 242 #[.slice (some ⟨b,o,none⟩) 4080 c,.int .i64 4] W1 fun e w'=>e=.returned (.tuple #[.int .u32 (next:Nat),.bool true])∧w'=W1:=by
    have:=u32_any (some ⟨b,o,none⟩) c 4080 4 l W1 hrdW hlen.symm (by omega) (by omega)
    rw[hx2] at this
    exact this
  have hbl0:Below w.heap.size w W1:=by rw[hW1];exact(Below.refl _ _).alloc (Nat.le_refl _) _
  have hZ:Bx W1 w.heap.size 0 0 (.slice none 0 0):=by rw[hW1];exact heap_alloc_new _ _
  have HZ:=Lib.hid hz1
  have HRD:=Lib.hid hrd
  clear hlen hl hn f1 f2 f3 h0 hok hv1 hcell hkd hrdW hrd1 hrd hz1
  go_enter Tryz.func275,Tryz.ntmps275
  go_upto_region 3 with fail
  rw[← hW1]
  clear hW1
  go_wp2_with (first
    | (go_at_call 295;with_reducible refine C2.mono ?_;clear C2;rintro e w1 ⟨rfl,hw1⟩;rw[hw1];clear hw1 w1)
    | (go_at_call 242;with_reducible refine C4.mono ?_;clear C4;rintro e w1 ⟨rfl,hw1⟩;rw[hw1];clear hw1 w1))
  rw[HZ.out]
  have hz1:=HZ.out
  have ri0:RI w kind next [] (W1.alloc (.cells #[.int .u8 kind,.int .i64 next,.slice none 0 0] 116)):=by
    refine⟨(Below.heap_alloc W1 _ _ (by omega)).trans hZ,⟨.slice none 0 0,?_,[],rfl,⟨rfl,.inl ⟨rfl,rfl⟩⟩,by simp,by simp,fun k p q h=>by simp[rowsOf] at h⟩,hbl0.alloc (by omega) _,by simp;omega⟩
    show(W1.alloc _).heap[w.heap.size+1]? = _
    rw[← hz1]
    exact heap_alloc_new W1 _
  clear hz1 hZ hbl0 h1
  go_loopw [9,42] (fun a i wr=>∃ k p:Nat,k≤n∧i=.int .i64 k∧p=8+2 * n+bodyS (cs.take k)∧a=.int .i64 p∧RI w kind next (cs.take k) wr) (fun _ i _=>n-natOf i)
  case atStart=>exact⟨0,8+2 * n,by omega,rfl,by simp[bodyS],by simp,by simpa using ri0⟩
  case round=>
    obtain⟨k,p,hk,rfl,hp,rfl,ri⟩:=hrel
    clear ri0
    by_cases hlt:k<n
    · have hkl:k<cs.length:=by have:=HN.out;omega
      obtain⟨g1,g2,g3,g4⟩:=pg_cell (kind:=kind) (next:=next) hkl
      rw[← HN.out,← HL.out,← hp] at g1 g2 g3 g4
      have oks:=HOK.out.ok _ (List.getElem_mem hkl)
      have ov:=HV.out _ (List.getElem_mem hkl)
      have hle:=bodyS_le cs k
      have hsn:=bodyS_snoc cs k hkl
      have hle2:=bodyS_le cs (k+1)
      obtain⟨cl,hcl⟩:∃ cl,cl=cs[k]:=⟨_,rfl⟩
      rw[← hcl] at g1 g2 g3 g4 oks ov hsn
      have htk:cs.take (k+1)=cs.take k++[cl]:=by rw[List.take_succ_eq_append_getElem hkl,hcl]
      have hkn:=oks.k1
      have hkn0:=oks.k0
      have hvn:=oks.v1
      have e1:leN (sub l p 2)=cl.kn:=by rw[g1];exact leN_small 2 _ (by omega)
      have e2:leN (sub l (p+2) 2)=cl.vn:=by rw[g2];exact leN_small 2 _ (by omega)
      obtain⟨p2,hp2⟩:∃ q,q=p+2:=⟨_,rfl⟩
      obtain⟨kp,hkp⟩:∃ q,q=p+4:=⟨_,rfl⟩
      obtain⟨vp,hvp⟩:∃ q,q=kp+cl.kn:=⟨_,rfl⟩
      obtain⟨ap,hap⟩:∃ q,q=vp+cl.vn:=⟨_,rfl⟩
      rw[← hp2] at e2 g2
      rw[← hkp] at g3 g4
      rw[← hvp] at g4
      have hap4:ap≤4080:=by omega
      have HAP:=Lib.hid (show ap=8+2 * n+bodyS (cs.take (k+1)) by omega)
      have i1:(p:Int)+2=(p2:Int):=by omega
      have i2:(p:Int)+4=(kp:Int):=by omega
      have i3:(kp:Int)+(cl.kn:Int)=(vp:Int):=by omega
      have i4:(vp:Int)+(cl.vn:Int)=(ap:Int):=by omega
      have r1:(kp:Int)≤(vp:Int):=by omega
      have r2:(vp:Int)≤(c:Int):=by omega
      have r3:(vp:Int)≤(ap:Int):=by omega
      have r4:(ap:Int)≤(c:Int):=by omega
      have r5:vp-kp=cl.kn:=by omega
      have r6:ap-vp=cl.vn:=by omega
      have r7:¬(c=kp):=by omega
      have r8:¬(c=vp):=by omega
      have r9:¬((4080:Int)<(ap:Int)):=by omega
      have hps:p2+2≤4080:=by omega
      have rdw:Rd wr wr.heap.size (some ⟨b,o,none⟩) l:=(HRD.out.below ri.bl).more ri.bl.size
      have rk:sub l kp cl.kn=cl.key:=g3
      have rv:sub l vp cl.vn=cl.val:=g4
      have HRK:=Lib.hid rk
      have HRV:=Lib.hid rv
      have HTK:=Lib.hid htk
      have E1:=Lib.hid e1
      have E2:=Lib.hid e2
      have hpb:p+2≤4080:=by omega
      clear g1 g2 g3 g4 oks hle hsn hle2 hp hp2 hkp hvp hap rk rv htk hcl e1 e2
      go_upto_region 16 with (first
        | (go_at_call 295;with_reducible refine(u16_any _ _ _ p l _ rdw HLN.out.symm (by rw[HLN.out];omega) (by rw[HLN.out];omega)).mono ?_;rintro e w1 ⟨rfl,hw1⟩;rw[hw1,E1.out];clear hw1 w1)
        | (go_at_call 295;with_reducible refine(u16_any _ _ _ p2 l _ rdw HLN.out.symm (by rw[HLN.out];omega) (by rw[HLN.out];omega)).mono ?_;rintro e w1 ⟨rfl,hw1⟩;rw[hw1,E2.out];clear hw1 w1))
      obtain⟨hZ,⟨v,hG,gs,hgl,hrow,_,hnd,hall⟩,hbl,hsz⟩:=ri
      obtain⟨i0,hi,hz0,hz1,hz2⟩:=info_parts info161
      have hkk:(cs.take k).length=k:=by simp;omega
      have HALL:=Lib.hid hall
      have HKK:=Lib.hid hkk
      have HI:=Lib.hid hi
      have hov:0<cl.val.length:=by simp[NC.val,bl_length];omega
      have hok1:0<cl.key.length:=by simp[NC.key,bl_length];omega
      have HLK:=Lib.hid (show cl.kn=cl.key.length by simp[NC.key,bl_length])
      have HLV:=Lib.hid (show cl.vn=cl.val.length by simp[NC.val,bl_length])
      have RS:∀ (W:World) (q m:Nat) (M:List UInt8),Below wr.heap.size wr W→sub l q m=M→q+m≤4080→Rd W W.heap.size (some ⟨b,o+q,none⟩) M:=fun W q m M hb hs hq _=>by
        obtain⟨b',o',e,hb',hcl⟩:=rdw (by intro e;have:=HLN.out;rw[e] at this;simp at this)
        cases e
        refine⟨b,o+q,rfl,by have:=hb.size;omega,fun j hj=>?_⟩
        subst hs
        rw[sub_len (by rw[HLN.out];omega)] at hj
        have:=hcl (q+j) (by rw[HLN.out];omega)
        rw[sub_get (by rw[HLN.out];omega) hj,Nat.add_assoc]
        exact(hb.cell (p:=⟨b,o+(q+j),none⟩) hb').trans this
      have HRS:=Lib.hid RS
      have bd:Below wr.heap.size wr wr.drew:=⟨rfl,rfl,rfl,Nat.le_refl _,fun _ _=>rfl⟩
      have cG0:wr.drew.cell? ⟨w.heap.size+1,2,none⟩=some v:=hG.cell
      have hGl:w.heap.size+1<wr.heap.size:=by omega
      have T1:∀ (W w1:World) (u:Value) (m:Nat) (M:List UInt8),Below wr.heap.size wr W→W.cell? ⟨w.heap.size+1,2,none⟩=some v→Own w1 W.heap.size u M→Below W.heap.size W w1→M.length=m→0<m →
          ∃ g cp,u=.slice (some ⟨g,0,none⟩) m cp∧W.heap.size≤g∧g<w1.heap.size∧w1.cell? ⟨w.heap.size+1,2,none⟩=some v∧Below wr.heap.size wr w1:=by
        intro W w1 u m M hb hc ho hb1 hm hm0
        obtain⟨g,cp,rfl,h1,h2⟩:=ho.nonnil (by omega)
        exact⟨g,cp,by rw[hm],h1,h2,(hb1.cell (p:=⟨w.heap.size+1,2,none⟩) (Nat.lt_of_lt_of_le hGl hb.size)).trans hc,hb.trans (hb1.mono hb.size)⟩
      rw[hkk] at hrow
      have hng:=hG.not_row (by decide) hrow
      have T3:∀ W:World,Below wr.heap.size wr W→W.ownsRow w.heap.size 219 2 v k (rowsV (rowsOf (cs.take k)) gs):=fun W hb=>row_belowS hrow hb
      have T4:∀ (w2:World) (X:Obj),Below wr.heap.size wr w2→Below wr.heap.size wr (w2.alloc X):=fun w2 X hb=>hb.alloc hb.size X
      have T5:∀ W:World,Below wr.heap.size wr W→w.heap.size≤W.heap.size:=fun W hb=>by have:=hb.size;omega
      have T6:∀ W3 w4:World,Below wr.heap.size wr W3→W3.grownBy w4 v.ownBlock→w4.cell? ⟨w.heap.size+1,2,none⟩=some v∧w4.frozen? ⟨w.heap.size+1,2,none⟩=false:=fun W3 w4 hb hg=>by
        have h3:W3.heap[w.heap.size+1]? = _:=(hb.block _ hGl).trans hG
        have h4:w4.heap[w.heap.size+1]? = _:=(hg.block _ (by have:=hb.size;omega) (fun e=>hng e.symm)).trans h3
        exact⟨by simp[World.cell?,h4],by simp[World.frozen?,h4]⟩
      have T7:∀ (w2:World),Below wr.heap.size wr w2→w2.cell? ⟨w.heap.size+1,2,none⟩=some v→∀ X:Obj,(w2.alloc X).cell? ⟨w.heap.size+1,2,none⟩=some v:=fun w2 hb hc X=>
        (World.cell?_alloc_lt w2 X ⟨w.heap.size+1,2,none⟩ (by have:=hb.size;show w.heap.size+1<_;omega)).trans hc
      have HT3:=Lib.hid T3
      have HT4:=Lib.hid T4
      have HT5:=Lib.hid T5
      have HT6:=Lib.hid T6
      have HT7:=Lib.hid T7
      have HZ2:=Lib.hid hZ
      have HG2:=Lib.hid hG
      have HROW:=Lib.hid hrow
      have hk63:k+1≤maxLen:=by unfold maxLen;omega
      have hk48:(k+1) * 48≤140737488355328:=by omega
      clear T3 T4 T5 T6 T7 hZ hG hrow
      have HT1:=Lib.hid T1
      have ha1:kp+cl.kn≤4080:=by omega
      have ha2:vp+cl.vn≤4080:=by omega
      have ha3:cl.key.length≤1000000:=by rw[← HLK.out];omega
      have ha4:cl.val.length≤1000000:=by rw[← HLV.out];omega
      have hb3:0<cl.kn:=by omega
      have hb4:0<cl.vn:=by omega
      clear hall hkk hi RS rdw T1
      go_region_law (first
        | (go_simp;go_at_call 99;with_reducible refine(cloneA_any ⟨b,o+kp,none⟩ (c-kp) cl.kn cl.key _ (HRS.out _ kp cl.kn _ bd HRK.out ha1) HLK.out ha3).mono ?_;rintro e w1 ⟨u,rfl,own1,hb1⟩;obtain⟨gk,ck,rfl,hgk,hgkl,cG1,bd1⟩:=HT1.out _ _ _ cl.kn _ bd cG0 own1 hb1 HLK.out.symm hb3)
        | (go_simp;go_at_call 99;with_reducible refine(cloneA_any ⟨b,o+vp,none⟩ (c-vp) cl.vn cl.val _ (HRS.out _ vp cl.vn _ bd1 HRV.out ha2) HLV.out ha4).mono ?_;rintro e w2 ⟨u,rfl,own2,hb2⟩;obtain⟨gv,cv,rfl,hgv,hgvl,cG2,bd2⟩:=HT1.out _ _ _ cl.vn _ bd1 cG1 own2 hb2 HLV.out.symm hb4;have cG3:=HT7.out _ bd2 cG2)
        | (refine step_append_lies _ rfl (.tmp 77) (.tmp 89) 114 rfl w.heap.size 219 i0 _ 2 48 Tryz.underlying114 HI.out hz0 hz1 hz2 rfl (by decide) v k _ rfl (HT3.out _ (HT4.out w2 _ bd2)) ⟨w2.heap.size,0,none⟩ 1 1 [.slice (some ⟨gk,0,none⟩) cl.kn ck,.slice (some ⟨gv,0,none⟩) cl.vn cv] rfl rfl (World.news_of_block (heap_alloc_new w2 _)) (by simp[Value.oneCell']) (by decide) hk63 hk48 (HT5.out _ (HT4.out w2 _ bd2)) _ rfl ?_;intro g2 cap2 w4 hrow4 hgrow4 _ _;obtain⟨cG4,fG4⟩:=HT6.out _ w4 (HT4.out w2 _ bd2) hgrow4)
        )
      all_goals
        go_wp2
        go_roundw
        case rel=>
          refine⟨k+1,ap,by omega,by go_num,HAP.out,rfl,?_⟩
          rw[HTK.out]
          have hs1:=hb1.size
          have hs1':wr.heap.size≤w1.heap.size:=hs1
          exact ri_step HKK.out HZ2.out HG2.out hbl hsz hgl HROW.out hnd HALL.out (HT4.out w2 _ bd2) ((own1.belowS hb2).alloc _) ((own2.alloc _).down hs1') (by omega) hgrow4 hrow4
        case measure=>simp[natOf]<;>omega
    · obtain rfl:k=n:=by omega
      rw[show cs.take k=cs from by rw[HN.out];exact List.take_length] at ri
      obtain⟨hZ,⟨v,hG,hout⟩,hbl,hsz⟩:=ri
      have x0:wr.cell? ⟨w.heap.size+1,0,none⟩=some (.int .u8 kind):=by unfold Bx at hG;simp[World.cell?,hG]
      have x1:wr.cell? ⟨w.heap.size+1,1,none⟩=some (.int .i64 next):=by unfold Bx at hG;simp[World.cell?,hG]
      have x2:wr.cell? ⟨w.heap.size+1,2,none⟩=some v:=hG.cell
      have HZ2:=Lib.hid hZ
      have hv1c:v.oneCell'=true:=by
        obtain⟨gs,_,e2,_⟩:=hout
        rcases e2.2 with⟨rfl,_⟩|⟨_,_,_,rfl,_⟩<;>rfl
      clear hZ hG
      go_wp2_with (refine stP rfl 116 (.tmp 2) (.tmp 93) rfl rfl w.heap.size 0 rfl 3 sz98 _ (.agg #[.int .u8 kind,.int .i64 next,v]) 116 HZ2.out rfl (by simp) rfl (by intro u hu;simp only[Value.cells,List.mem_cons,List.not_mem_nil,or_false] at hu;rcases hu with rfl | rfl | rfl;exact rfl;exact rfl;exact hv1c) ?_;intro w5 g5 o5 b5 z5)
      have g6:w5.heap[w.heap.size]? = some (.cells #[.int .u8 kind,.int .i64 next,v] 116 (0,0)):=by rw[g5];congr 2
      refine bodyPost_ret (ret_page rfl rfl g6 rfl) rfl ?_
      obtain⟨gs,e1,e2,e3,e4,e5⟩:=hout
      refine⟨⟨v,rfl,gs,e1,?_,e3,e4,fun k p g h1 h2=>?_⟩,hbl.trans (b5 _ (Nat.le_refl _))⟩
      · refine⟨e2.1,?_⟩
        rcases e2.2 with h|⟨b,cap,cur,rfl,h1,h2,h3⟩
        · exact .inl h
        · refine .inr ⟨b,cap,cur,rfl,h1,(o5 b (fun e=>?_)).trans h2,h3⟩
          exact HZ2.out.not_row (by decide) e2 (by simp[Value.ownBlock,e])
      · obtain⟨h3,h4⟩:=e5 k p g h1 h2
        exact⟨h3,h4.blocks fun j hj=>o5 j (fun e=>HZ2.out.not_row (by decide) h4 (by rw[hj,e]))⟩
end Go.Proofs.YtdbkocfbhpgpkaaGreat
namespace Go.Proofs.YtdbkocfbhpgpkaaGreat
open Go Go.RowKit Go.Shelf
open Go.Ev (PgM PageOk CellsOut rowsOf rowsV rowV rowsOf_len)
set_option maxRecDepth 100000
set_option maxHeartbeats 4000000
theorem out_down{et n₀ n₁:Nat}{W:World}{v:Value}{cs:List NC}(h:CellsOut et n₁ W v cs)(hn:n₀≤n₁):CellsOut et n₀ W v cs:=by
  obtain⟨gs,e1,e2,e3,e4,e5⟩:=h
  refine⟨gs,e1,⟨e2.1,?_⟩,e3,e4,fun k p g h1 h2=>?_⟩
  · rcases e2.2 with h|⟨b,cap,cur,rfl,h1,h2⟩
    · exact .inl h
    · exact .inr ⟨b,cap,cur,rfl,by omega,h2⟩
  · obtain⟨h3,h4⟩:=e5 k p g h1 h2
    exact⟨by omega,h4.down hn⟩
theorem out_blocks{n₀ Z k1 k2:Nat}{W W':World}{v u:Value}{cs:List NC}(h:CellsOut 219 n₀ W v cs)(hz:Bx W Z k1 k2 u)(hb:∀ j,j<W.heap.size→j≠Z→W'.heap[j]? = W.heap[j]?):CellsOut 219 n₀ W' v cs:=by
  obtain⟨gs,e1,e2,e3,e4,e5⟩:=h
  refine⟨gs,e1,⟨e2.1,?_⟩,e3,e4,fun k p g h1 h2=>?_⟩
  · rcases e2.2 with h|⟨b,cap,cur,rfl,h1,h2,h3⟩
    · exact .inl h
    · exact .inr ⟨b,cap,cur,rfl,h1,(hb b (Array.getElem?_eq_some_iff.1 h2).1 (fun e=>hz.not_row (by decide) e2 (by simp[Value.ownBlock,e]))).trans h2,h3⟩
  · obtain⟨h3,h4⟩:=e5 k p g h1 h2
    exact⟨h3,h4.blocks fun j hj=>hb j (h4.lt j hj) (fun e=>hz.not_row (by decide) h4 (by rw[hj,e]))⟩
theorem out_belowS{n₀ Z k1 k2:Nat}{W W':World}{v u:Value}{cs:List NC}(h:CellsOut 219 n₀ W v cs)(hz:Bx W Z k1 k2 u)(hb:Below W.heap.size W W'):CellsOut 219 n₀ W' v cs:=out_blocks h hz fun j hj _=>hb.block j hj
theorem rowsOf_get:∀ (cs:List NC) (i:Nat) (h:i<cs.length),(rowsOf cs)[2 * i]? = some (cs[i].kn,cs[i].K)∧(rowsOf cs)[2 * i+1]? = some (cs[i].vn,cs[i].V)
  | [],i,h=>by simp at h
  | ⟨_,_,_,_⟩::cs,0,h=>⟨rfl,rfl⟩
  | ⟨_, _, _, _⟩ :: cs, i + 1, h => by
    have:=rowsOf_get cs i (by simpa using h)
    rw[show 2 * (i+1)=2 * i+1+1 by omega,show 2 * i+1+1+1=(2 * i+1)+1+1 by omega]
    simpa[rowsOf] using this
theorem out_pgm{n₀:Nat}{W:World}{v:Value}{cs:List NC}(h:CellsOut 219 n₀ W v cs):∃ A c,v=.slice A cs.length c∧PgM W W.heap.size A cs:=by
  obtain⟨gs,e1,e2,e3,e4,e5⟩:=h
  have hl:=rowsOf_len cs
  rcases e2.2 with⟨rfl,h0⟩|⟨b,cap,cur,rfl,h1,h2,h3,h4,h5,h6⟩
  · have:=List.eq_nil_of_length_eq_zero h0
    subst this
    exact⟨none,0,rfl,[],rfl,fun h=>absurd rfl h,fun i h=>by simp at h⟩
  · refine⟨_,cap,rfl,(List.range cs.length).map fun i=>⟨some ⟨(gs.getD (2 * i) (0,0)).1,0,none⟩,(cs.getD i ⟨0,0,0,0⟩).kn,(gs.getD (2 * i) (0,0)).2,some ⟨(gs.getD (2 * i+1) (0,0)).1,0,none⟩,(cs.getD i ⟨0,0,0,0⟩).vn,(gs.getD (2 * i+1) (0,0)).2⟩,by simp,?_,?_⟩
    · intro _
      refine⟨b,0,rfl,(Array.getElem?_eq_some_iff.1 h2).1,fun i hi=>?_⟩
      have hi:i<cs.length:=by simpa using hi
      obtain⟨r1,r2⟩:=rowsOf_get cs i hi
      have hg1:gs[2 * i]? = some (gs.getD (2 * i) (0,0)):=by rw[List.getD_eq_getElem?_getD,List.getElem?_eq_getElem (by omega)];rfl
      have hg2:gs[2 * i+1]? = some (gs.getD (2 * i+1) (0,0)):=by rw[List.getD_eq_getElem?_getD,List.getElem?_eq_getElem (by omega)];rfl
      have hc:(cs.getD i ⟨0,0,0,0⟩)=cs[i]:=by simp[hi]
      have q1:(rowsV (rowsOf cs) gs)[2 * i]? = some (.slice (some ⟨(gs.getD (2 * i) (0,0)).1,0,none⟩) cs[i].kn (gs.getD (2 * i) (0,0)).2):=by
        unfold rowsV
        have hz:((rowsOf cs).zip gs)[2 * i]? = some ((cs[i].kn,cs[i].K),gs.getD (2 * i) (0,0)):=List.getElem?_zip_eq_some.2 ⟨r1,hg1⟩
        rw[List.getElem?_map,hz]
        rfl
      have q2:(rowsV (rowsOf cs) gs)[2 * i+1]? = some (.slice (some ⟨(gs.getD (2 * i+1) (0,0)).1,0,none⟩) cs[i].vn (gs.getD (2 * i+1) (0,0)).2):=by
        unfold rowsV
        have hz:((rowsOf cs).zip gs)[2 * i+1]? = some ((cs[i].vn,cs[i].V),gs.getD (2 * i+1) (0,0)):=List.getElem?_zip_eq_some.2 ⟨r2,hg2⟩
        rw[List.getElem?_map,hz]
        rfl
      rw[← h6] at q1 q2
      rw[List.getElem?_take,if_pos (by omega)] at q1 q2
      simp only[World.cell?,h2,List.getElem_map,List.getElem_range,CV.k,CV.v,hc,Nat.zero_add]
      rw[show i * 2=2 * i by omega]
      exact⟨by simpa using q1,by simpa using q2⟩
    · intro i hi g
      obtain⟨r1,r2⟩:=rowsOf_get cs i g
      have hg1:gs[2 * i]? = some (gs.getD (2 * i) (0,0)):=by rw[List.getD_eq_getElem?_getD,List.getElem?_eq_getElem (by omega)];rfl
      have hg2:gs[2 * i+1]? = some (gs.getD (2 * i+1) (0,0)):=by rw[List.getD_eq_getElem?_getD,List.getElem?_eq_getElem (by omega)];rfl
      have hc:(cs.getD i ⟨0,0,0,0⟩)=cs[i]:=by simp[g]
      obtain⟨_,o1⟩:=e5 _ _ _ r1 hg1
      obtain⟨_,o2⟩:=e5 _ _ _ r2 hg2
      obtain⟨A1,c1,e6,_,_,d1⟩:=o1.slice
      obtain⟨A2,c2,e7,_,_,d2⟩:=o2.slice
      simp only[Value.slice.injEq] at e6 e7
      obtain⟨rfl,_,_⟩:=e6
      obtain⟨rfl,_,_⟩:=e7
      simp only[List.getElem_map,List.getElem_range,hc]
      exact⟨trivial,trivial,d1,d2⟩
theorem osame_true{A C:Option Addr}{c d n m:Nat}{l:List UInt8}{w:World}(hr:Rd w w.heap.size A l)(hm:Rd w w.heap.size C l)(hn:n=l.length)(hn2:m=l.length) :
    Calls Tryz.prog 97 #[.slice A n c,.slice C m d] w fun e w'=>e=.returned (.bool true)∧w'=w:=by
  refine(osame_any A C c d n m l l w hr hm hn hn2).mono ?_
  rintro e w' ⟨rfl,rfl⟩
  simp
theorem unp_call(kind next:Nat)(cs:List NC)(b o c:Nat)(w:World)(hok:PageOk kind next cs)(hv1:∀ c∈cs,1≤c.vn)(hbw:b<w.heap.size)(hc:4080≤c)(hcell:∀ k (h:k<(pgL kind next cs).length),w.cell? ⟨b,o+k,none⟩=some (u8V (pgL kind next cs)[k])) :
    Calls Tryz.prog 241 #[.slice (some ⟨b,o,none⟩) 4080 c] w fun e w'=>(∃ v,e=.returned (.tuple #[.agg #[.int .u8 kind,.int .i64 next,v],.int .i64 0])∧CellsOut 219 w.heap.size w' v cs)∧Below w.heap.size w w':=by
  have hlen:=pg_len hok
  have hrd:Rd w w.heap.size (some ⟨b,o,none⟩) (pgL kind next cs):=fun _=>⟨b,o,rfl,hbw,hcell⟩
  have hkd:=hok.kind
  obtain⟨W1,hW1⟩:∃ W1,W1=w.alloc (.cells #[.int .u8 0,.int .i64 0,.slice none 0 0] 116):=⟨_,rfl⟩
  have hz1:W1.heap.size=w.heap.size+1:=by rw[hW1];simp
  have hbl0:Below w.heap.size w W1:=by rw[hW1];exact(Below.refl _ _).alloc (Nat.le_refl _) _
  have hZ:Bx W1 w.heap.size 0 0 (.slice none 0 0):=by rw[hW1];exact heap_alloc_new _ _
  have CR:=pgread_any kind next cs b o c W1 hok hv1 (by omega) hc (fun k h=>(hbl0.cell (p:=⟨b,o+k,none⟩) hbw).trans (hcell k h))
  have HOK:=Lib.hid hok
  have HLN:=Lib.hid hlen
  have HZ:=Lib.hid hz1
  have HZ1:=Lib.hid hZ
  have HB0:=Lib.hid hbl0
  have HRD:=Lib.hid hrd
  clear hok hv1 hcell hlen hrd hkd hz1 hZ hbl0
  go_enter Tryz.func241,Tryz.ntmps241
  go_upto_region 1 with fail
  rw[← hW1]
  clear hW1
  have HP:∀ (v:Value) (w2:World),CellsOut 219 W1.heap.size w2 v cs→∃ A n d,v=.slice A n d∧n=cs.length∧PgM w2 w2.heap.size A cs:=fun v w2 h=>by
    obtain⟨A,d,e,h⟩:=out_pgm h
    exact⟨A,cs.length,d,e,rfl,h⟩
  have HP:=Lib.hid HP
  go_upto_region 4 with (go_at_call 275;with_reducible refine CR.mono ?_;clear CR;rintro e w2 ⟨⟨v,rfl,hout⟩,hb2⟩;obtain⟨A,n,d,rfl,hn,hpg⟩:=HP.out v w2 hout;have HN:=Lib.hid hn;clear hn)
  have hs2:=hb2.size
  have hZ2:Bx w2 w.heap.size 0 0 (.slice none 0 0):=(hb2.block _ (by have:=HZ.out;omega)).trans HZ1.out
  obtain⟨W3,hW3⟩:∃ W3,W3=w2.alloc (.cells #[.int .u8 kind,.int .i64 next,.slice A n d] 116):=⟨_,rfl⟩
  have hb3:Below w2.heap.size w2 W3:=by rw[hW3];exact(Below.refl _ _).alloc (Nat.le_refl _) _
  have hG:Bx W3 w2.heap.size kind next (.slice A n d):=by rw[hW3];exact heap_alloc_new _ _
  have hout3:=out_belowS hout hZ2 hb3
  have hZ3:Bx W3 w.heap.size 0 0 (.slice none 0 0):=(hb3.block _ hZ2.lt).trans hZ2
  have CP:=pack_call kind next cs A n d W3 HOK.out HN.out ((hpg.below hb3).more hb3.size)
  have hbl3:=HB0.out.trans ((hb2.mono (show w.heap.size≤W1.heap.size by have:=HZ.out;omega)).trans (hb3.mono (show w.heap.size≤w2.heap.size by have:=HZ.out;omega)))
  have hWs:w.heap.size<W1.heap.size:=by have:=HZ.out;omega
  have hs3:=hb3.size
  rw[← hW3]
  clear hW3
  have hRP:∀ (v:Value) (w4:World),Own w4 W3.heap.size v (pgL kind next cs)→∃ A c,v=.slice A 4080 c∧Rd w4 w4.heap.size A (pgL kind next cs):=fun v w4 h=>by
    obtain⟨A,c,e,_,_,h⟩:=h.sl (n:=4080) HLN.out
    exact⟨A,c,e,h⟩
  have HRP:=Lib.hid hRP
  have HRW:=Lib.hid ((HRD.out.below hbl3).more (show w.heap.size≤W3.heap.size by omega))
  have HB3:=Lib.hid hbl3
  have HO3:=Lib.hid hout3
  have HZ3:=Lib.hid hZ3
  have HGG:=Lib.hid hG
  have y0:W3.cell? ⟨w2.heap.size,0,none⟩=some (.int .u8 kind):=by unfold Bx at hG;simp[World.cell?,hG]
  have y1:W3.cell? ⟨w2.heap.size,1,none⟩=some (.int .i64 next):=by unfold Bx at hG;simp[World.cell?,hG]
  have y2:W3.cell? ⟨w2.heap.size,2,none⟩=some (.slice A n d):=hG.cell
  clear hRP hbl3 hout3 hZ3 hG hb3 hZ2 hb2 hpg hout
  go_upto_region 7 with (first
    | (go_at_call 59;with_reducible refine CP.mono ?_;clear CP;rintro e w4 ⟨⟨u,rfl,own⟩,hb4⟩;obtain⟨A4,c4,rfl,r4⟩:=HRP.out u w4 own)
    | (go_at_call 97;with_reducible refine(osame_true (l:=pgL kind next cs) r4 ((HRW.out.below hb4).more hb4.size) HLN.out.symm HLN.out.symm).mono ?_;rintro e w5 ⟨rfl,hw5⟩;rw[hw5];clear hw5 w5))
  have hG4:Bx w4 w2.heap.size kind next (.slice A n d):=(hb4.block _ HGG.out.lt).trans HGG.out
  have hZ4:Bx w4 w.heap.size 0 0 (.slice none 0 0):=(hb4.block _ HZ3.out.lt).trans HZ3.out
  have hout4:=out_belowS HO3.out HZ3.out hb4
  have hbl4:=HB3.out.trans (hb4.mono (show w.heap.size≤W3.heap.size by omega))
  have x0:w4.cell? ⟨w2.heap.size,0,none⟩=some (.int .u8 kind):=by unfold Bx at hG4;simp[World.cell?,hG4]
  have x1:w4.cell? ⟨w2.heap.size,1,none⟩=some (.int .i64 next):=by unfold Bx at hG4;simp[World.cell?,hG4]
  have x2:w4.cell? ⟨w2.heap.size,2,none⟩=some (.slice A n d):=hG4.cell
  have HZ4:=Lib.hid hZ4
  have HO4:=Lib.hid hout4
  clear hG4 hZ4 hout4
  go_wp2_with (refine stP rfl 116 (.tmp 2) (.tmp 30) rfl rfl w.heap.size 0 rfl 3 sz98 _ (.agg #[.int .u8 kind,.int .i64 next,.slice A n d]) 116 HZ4.out rfl (by simp) rfl (by intro u hu;simp only[Value.cells,List.mem_cons,List.not_mem_nil,or_false] at hu;rcases hu with rfl | rfl | rfl;exact rfl;exact rfl;exact rfl) ?_;intro w5 g5 o5 b5 z5)
  have g6:w5.heap[w.heap.size]? = some (.cells #[.int .u8 kind,.int .i64 next,.slice A n d] 116 (0,0)):=by rw[g5];congr 2
  refine bodyPost_ret (ret_page rfl rfl g6 rfl) rfl ?_
  exact⟨⟨_,rfl,out_down (out_blocks HO4.out HZ4.out fun j _ hj=>o5 j hj) (by omega)⟩,hbl4.trans (b5 _ (Nat.le_refl _))⟩
end Go.Proofs.YtdbkocfbhpgpkaaGreat
